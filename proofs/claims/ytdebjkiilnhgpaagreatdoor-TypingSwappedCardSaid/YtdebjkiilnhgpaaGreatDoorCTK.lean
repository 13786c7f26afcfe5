/- Words: a function under way, beside the cutter and the functions' row. -/
import Derived.Test.YtdebjkiilnhgpaaGreatDoorCUF
import Derived.ScopeJumps
import Derived.Test.YtdebjkiilnhgpaaGreatDoorCTI
import Derived.Deep.RegionHeld3
set_option maxRecDepth 100000
set_option maxHeartbeats 8000000
namespace Go.Proofs.YtdebjkiilnhgpaaGreatDoor
section
open Go.RowKit
theorem own_keepF {w w':World} {B gf n size:Nat} {e:TypeId} {v:Value} {xs:List Value} (ho:w.ownsRow B e size v n xs) (hk:KeepF gf w w') (hne:v.ownBlock≠some gf) (h1:e≠107) (h2:e≠180):w'.ownsRow B e size v n xs:=by
 obtain ⟨h3,h4⟩:=ho;refine ⟨h3,?_⟩
 rcases h4 with h4 | ⟨g',cap,cur,rfl,hb,hh,r⟩
 ·exact .inl h4
 ·have:Blk w g' e cur:=hh;exact .inr ⟨g',cap,cur,rfl,hb,hk g' e cur this (fun he=>hne (by rw [he];rfl)) h1 h2,r⟩
theorem wp_scope_once {P:Program} {c rest:Code} {Q:Exit→Act→World→Prop} {a:Act} {w:World} (l:Nat) (J:Act→World→Prop) (μ:Act→World→Nat) (hf:findLabel c l=some (.seq .skip rest))
  (first:Hid (∀ a' w',J a' w'→rest.wp P (Exit.jump l J Q) a' w')→c.wp P (Exit.jump l J Q) a w)
  (pass:∀ a w m,J a w→μ a w=m→rest.wp P (Exit.jump l (fun a' w'=>J a' w'∧μ a' w'<m) Q) a w):(Code.scope c).wp P Q a w :=
 wp_scope_jumps l J μ hf (first (Lib.hid fun a' w' h=>wp_mono (pass a' w' _ h rfl) (fun e a2 w2 h2=>by
  cases e with
  | goto l'=>exact ⟨h2.1,h2.2.1⟩
  | _=>exact h2))) (fun a w h=>wp_seq (wp_skip (pass a w _ h rfl)))
theorem wp_goto_jump {P:Program} {J:Act→World→Prop} {Q:Exit→Act→World→Prop} {a:Act} {w:World} {l:Nat} (h:J a w):(Code.goto l).wp P (Exit.jump l J Q) a w:=wp_goto ⟨rfl,h⟩
theorem tmps_of (t:Array Value) (n:Nat) (h:t.size=n):t=((List.range n).map (fun i=>t.getD i undef)).toArray:=by
 apply Array.ext
 ·simp [h]
 ·intro i h1 h2;simp [Array.getD,h1]
theorem FnS.parPut {w:World} {B gf nb:Nat} (h:FnS w B gf nb) (u:Option Addr × Nat × Nat):FnS (w.setCell ⟨gf,2,none⟩ (.slice u.1 u.2.1 u.2.2)) B gf nb:=by
 obtain ⟨hl,id,at_,en,P,Ab,cb,xs,k,ho⟩:=h;exact ⟨hl,id,at_,en,u,Ab,cb,xs,by simpa using k.set_ 2 (.slice u.1 u.2.1 u.2.2),own_set_other ho (p:=⟨gf,2,none⟩) (own_blk_ne ho k (by decide)) _⟩
theorem FnS.endPut {w:World} {B gf nb:Nat} (h:FnS w B gf nb) (u:Int):FnS (w.setCell ⟨gf,4,none⟩ (.int .i64 u)) B gf nb:=by
 obtain ⟨hl,id,at_,en,P,Ab,cb,xs,k,ho⟩:=h;exact ⟨hl,id,at_,u,P,Ab,cb,xs,by simpa using k.set_ 4 (.int .i64 u),own_set_other ho (p:=⟨gf,4,none⟩) (own_blk_ne ho k (by decide)) _⟩
theorem FnS.cells5 {w:World} {B gf nb:Nat} (h:FnS w B gf nb):∃ (id at_ en:Int) (P:Option Addr × Nat × Nat) (Ab:Option Addr) (cb:Nat),Blk w gf 154 #[.int .u32 id,.int .i64 at_,.slice P.1 P.2.1 P.2.2,.slice Ab nb cb,.int .i64 en]:=by
 obtain ⟨hl,id,at_,en,P,Ab,cb,xs,k,ho⟩:=h;exact ⟨id,at_,en,P,Ab,cb,k⟩
structure LpS (w0 w:World) (B g gf:Nat) (A:Option Addr) (n c k:Nat) (ps:Nat→Int) (F:Value) (nf:Nat) (xs:List Value) (nb:Nat):Prop where
 cut:CutS w B g A n c k ps F
 fn:FnS w B gf nb
 row:w.ownsRow B 154 5 F nf xs
 ne:F.ownBlock≠some gf
 below:Below B w0 w
section
variable {w0 w w':World} {B g gf:Nat} {A:Option Addr} {n c k:Nat} {ps:Nat→Int} {F:Value} {nf:Nat} {xs:List Value} {nb:Nat}
theorem LpS.size (h:LpS w0 w B g gf A n c k ps F nf xs nb):B≤w.heap.size:=by have:=h.cut.lt;have:=h.cut.low;omega
theorem LpS.step (h:LpS w0 w B g gf A n c k ps F nf xs nb) (hb:Below w.heap.size w w'):LpS w0 w' B g gf A n c k ps F nf xs nb :=
 ⟨h.cut.step hb,h.fn.step hb,own_below h.row hb,h.ne,h.below.trans (hb.mono h.size)⟩
theorem LpS.only (h:LpS w0 w B g gf A n c k ps F nf xs nb) (hg:w.grownBy w' (some g)) {k':Nat} (hC:CutS w' B g A n c k' ps F):LpS w0 w' B g gf A n c k' ps F nf xs nb:=by
 refine ⟨hC,h.fn.only h.cut hg,h.row.kept hg (.inr ?_),h.ne,h.below.grown hg h.size (fun j hj=>by cases hj;exact h.cut.low)⟩
 obtain ⟨-,cs',hb,-⟩:=h.cut;exact own_blk_ne h.row hb (by decide)
theorem LpS.atPut (h:LpS w0 w B g gf A n c k ps F nf xs nb) (k':Nat):LpS w0 (w.setCell ⟨g,1,none⟩ (.int .i64 (k':Nat))) B g gf A n c k' ps F nf xs nb :=
 h.only (grown_set _ _ _) (h.cut.atPut k')
theorem LpS.low (h:LpS w0 w B g gf A n c k ps F nf xs nb):B≤gf:=by obtain ⟨hl,-⟩:=h.fn;exact hl
theorem LpS.parPut (h:LpS w0 w B g gf A n c k ps F nf xs nb) (u:Option Addr × Nat × Nat):LpS w0 (w.setCell ⟨gf,2,none⟩ (.slice u.1 u.2.1 u.2.2)) B g gf A n c k ps F nf xs nb :=
 ⟨h.cut.far (p:=⟨gf,2,none⟩) (h.cut.ne_fn h.fn) _,h.fn.parPut u,own_set_other h.row (p:=⟨gf,2,none⟩) h.ne _,h.ne,h.below.setCell (p:=⟨gf,2,none⟩) h.low _⟩
theorem LpS.endPut (h:LpS w0 w B g gf A n c k ps F nf xs nb) (u:Int):LpS w0 (w.setCell ⟨gf,4,none⟩ (.int .i64 u)) B g gf A n c k ps F nf xs nb :=
 ⟨h.cut.far (p:=⟨gf,4,none⟩) (h.cut.ne_fn h.fn) _,h.fn.endPut u,own_set_other h.row (p:=⟨gf,4,none⟩) h.ne _,h.ne,h.below.setCell (p:=⟨gf,4,none⟩) h.low _⟩
theorem LpS.block (h:LpS w0 w B g gf A n c k ps F nf xs nb) {k' nb':Nat} (hC:CutS w' B g A n c k' ps F) (hF:FnS w' B gf nb') (hb:Below B w w') (hk:KeepF gf w w'):LpS w0 w' B g gf A n c k' ps F nf xs nb' :=
 ⟨hC,hF,own_keepF h.row hk h.ne (by decide) (by decide),h.ne,h.below.trans hb⟩
end
end
section
open Go.RowKit
theorem act105 (a:Act) (hd:a.defers=[]) (hs:a.tmps.size=105):∃ u:Nat→Value,(∀ i,a.tmps.getD i undef=u i)∧a={ tmps:=#[u 0,u 1,u 2,u 3,u 4,u 5,u 6,u 7,u 8,u 9,u 10,u 11,u 12,u 13,u 14,u 15,u 16,u 17,u 18,u 19,u 20,u 21,u 22,u 23,u 24,u 25,u 26,u 27,u 28,u 29,u 30,u 31,u 32,u 33,u 34,u 35,u 36,u 37,u 38,u 39,u 40,u 41,u 42,u 43,u 44,u 45,u 46,u 47,u 48,u 49,u 50,u 51,u 52,u 53,u 54,u 55,u 56,u 57,u 58,u 59,u 60,u 61,u 62,u 63,u 64,u 65,u 66,u 67,u 68,u 69,u 70,u 71,u 72,u 73,u 74,u 75,u 76,u 77,u 78,u 79,u 80,u 81,u 82,u 83,u 84,u 85,u 86,u 87,u 88,u 89,u 90,u 91,u 92,u 93,u 94,u 95,u 96,u 97,u 98,u 99,u 100,u 101,u 102,u 103,u 104],defers:=[] }:=by
 refine ⟨fun i=>a.tmps.getD i undef,fun i=>rfl,?_⟩
 have h:=tmps_of a.tmps 105 hs;generalize (fun i=>a.tmps.getD i undef)=u at h ⊢
 obtain ⟨t,d⟩:=a;obtain rfl:d=[]:=hd;have h2:t=((List.range 105).map u).toArray:=h;rw [h2];exact congrArg (fun t=>({ tmps:=t,defers:=[] }:Act)) (by kernel_rfl)
structure FunSt (w:World) (B g:Nat) (A:Option Addr) (n c:Nat) (L:List InstI) (V:Bool × Nat × (Nat→Int)) (v:Bool × Nat) (ps:Nat→Int) (a:Act) (w1:World):Prop where
 is:Hid (V=(v.1,v.2,ps))
 hd:a.defers=[]
 sz:a.tmps.size=105
 fix:a.tmps.getD 0 undef=.pointer (some ⟨g,0,none⟩)
 st:∃ (q k nf:Nat) (F:Value) (xs:List Value),CutS w1 B g A n c k ps F∧w1.ownsRow B 154 5 F nf xs∧nf≤k∧k≤n∧n<k+q∧v=funcsR L q k∧Below B w w1
theorem cut_any (ls:List InstA) (A:Option Addr) (n c B g:Nat) (w:World) (hC:CutS w B g A n c 0 (fun _=>0) (.slice none 0 0)) (hM:ModS w B A n ls) (hsm:n≤1048576) :
  Calls Tryz.prog 74 #[.pointer (some ⟨g,0,none⟩)] w fun e w'=>∃ F:Value,e=.returned (.bool (cutR (ls.map (·.1))).1)∧CutS w' B g A n c (cutR (ls.map (·.1))).2.1 (cutR (ls.map (·.1))).2.2 F∧Below B w w':=by
 have hn:=hM.len;have hlen:=hM.length;have hil:=hM.reads.insts_len;have hlow:=hC.low;have hgl:=hC.lt;have htop:=top_any ls A n c B g 0 (fun _=>0) (.slice none 0 0) w hC hM (by omega)
 obtain ⟨v,hv⟩:∃ v,v=cutR (ls.map (·.1)):=⟨_,rfl⟩;rw [← hv];unfold cutR at hv;dsimp only at hv;have htb:=topR_bd (ls.map (·.1)) 8 0 0 (fun _=>0) (by omega)
 obtain ⟨t,ht⟩:∃ t,t=topR (ls.map (·.1)) 8 0 0 (fun _=>0):=⟨_,rfl⟩
 rw [← ht] at hv htop htb;rw [hlen] at hv htb;obtain ⟨t1,k1,ps1⟩:=t;dsimp only at hv htop htb;have HV:=Lib.hid hv;clear hv ht;go_enter Tryz.func74,Tryz.ntmps74;go_wp2
 obtain ⟨psF,hpsF⟩:∃ psF,psF=spanF (spanF ps1 8 k1 n) 9 n n:=⟨_,rfl⟩;rw [← hpsF] at HV;obtain ⟨vf,hvf⟩:∃ vf,vf=funcsR (ls.map (·.1)) (n+1) k1:=⟨_,rfl⟩;rw [← hvf] at HV;have HVF:=Lib.hid hvf;have HPS:=Lib.hid hpsF;clear hvf hpsF;refine wp_scope_once 0 (fun a w1=>FunSt w B g A n c (ls.map (·.1)) v vf psF a w1) (fun _ w1=>n+1-(intOf ((w1.cell? ⟨g,1,none⟩).getD undef)).toNat) rfl ?_ ?_
 ·intro hR;go_wp2_with fail;refine htop.mono ?_;rintro e w1 ⟨rfl,hC1,hg1⟩;clear htop;have hb1:Below B w w1:=(Below.refl B w).grown hg1 (by omega) (fun j hj=>by cases hj;exact hlow)
  rcases t1 with _ | _
  ·have hv1:v=(false,k1,ps1):=HV.out;have HV1:=Lib.hid hv1;clear hv1;go_wp2_with fail;simp only [Exit.jump];go_ret
   rw [HV1.out];exact ⟨_,rfl,hC1,hb1⟩
  ·obtain ⟨y0,y1,-,fz⟩:=hC1.cells;have p0:=hC1.part_ (j:=16) (by omega)
   have p1:=hC1.part_ (j:=17) (by omega)
   simp only [Nat.reduceAdd] at p0 p1;have hC2:CutS ((w1.setCell ⟨g,18,none⟩ (.int .i64 (k1:Nat))).setCell ⟨g,19,none⟩ (.int .i64 (n:Nat))).drew B g A n c k1 (spanF ps1 8 k1 n) (.slice none 0 0):=(hC1.drew.spanPut 8 (by decide) k1 n).drew
   have hb2:Below B w ((w1.setCell ⟨g,18,none⟩ (.int .i64 (k1:Nat))).setCell ⟨g,19,none⟩ (.int .i64 (n:Nat))).drew:=((hb1.setCell (p:=⟨g,18,none⟩) hlow _).setCell (p:=⟨g,19,none⟩) hlow _).drew;go_wp2_with fail;refine wp_region_tail 14 (by kernel_rfl) (by kernel_rfl) ?_
   simp only [List.take_succ_cons,List.take_zero,List.drop_succ_cons,List.drop_zero]
   repeat (go_big_quiet_step (fail))
   refine wpQuiet_nil ?_;go_wp2_with fail;clear p0 p1 y0 y1 fz hC1 hb1 hg1;generalize ((w1.setCell ⟨g,18,none⟩ (.int .i64 (k1:Nat))).setCell ⟨g,19,none⟩ (.int .i64 (n:Nat))).drew=w2 at hC2 hb2 ⊢;obtain ⟨y0,y1,-,fz⟩:=hC2.cells;have p0:=hC2.part_ (j:=18) (by omega)
   have p1:=hC2.part_ (j:=19) (by omega)
   simp only [Nat.reduceAdd] at p0 p1;have hC3:CutS ((w2.setCell ⟨g,20,none⟩ (.int .i64 (n:Nat))).setCell ⟨g,21,none⟩ (.int .i64 (n:Nat))).drew B g A n c k1 (spanF (spanF ps1 8 k1 n) 9 n n) (.slice none 0 0):=(hC2.drew.spanPut 9 (by decide) n n).drew
   have hb3:Below B w ((w2.setCell ⟨g,20,none⟩ (.int .i64 (n:Nat))).setCell ⟨g,21,none⟩ (.int .i64 (n:Nat))).drew:=((hb2.setCell (p:=⟨g,20,none⟩) hlow _).setCell (p:=⟨g,21,none⟩) hlow _).drew;rw [← HPS.out] at hC3;refine wp_region_tail 15 (by kernel_rfl) (by kernel_rfl) ?_
   simp only [List.take_succ_cons,List.take_zero,List.drop_succ_cons,List.drop_zero]
   repeat (go_big_quiet_step (fail))
   refine wpQuiet_nil ?_;go_wp2_with fail
   rename_i ka
   refine wp_label (ka _ _ (hR _ _ ⟨HV.out,rfl,by kernel_rfl,by kernel_rfl,⟨n+1,k1,0,.slice none 0 0,[],hC3,World.ownsRow_nil _ _ _ _,Nat.zero_le _,htb.2,by omega,HVF.out,hb3⟩⟩))
 ·rintro a1 w1 mu ⟨HVT,hdf,hsz,hfix,q,k,nf,F,xs,hC1,ho1,hnf,hkn,hkq,hvq,hb1⟩ hmu;obtain ⟨u,hu,rfl⟩:=act105 a1 hdf hsz;rw [hu] at hfix;rw [hfix];clear hu hdf hsz hfix htop;obtain ⟨y0,y1,y2,fz⟩:=hC1.cells;rw [y1] at hmu;have HMU:Hid (mu=n+1-k):=by
   have e:n+1-(intOf (.int .i64 ((k:Nat):Int))).toNat=n+1-k:=by simp [intOf]
   exact hmu.symm.trans e
  clear hmu;obtain ⟨q,rfl⟩:∃ q',q=q'+1:=⟨q-1,by omega⟩
  unfold funcsR at hvq;have HQ:=Lib.hid hvq;clear hvq;have hnx:=next_any ls A n c B g k psF F w1 hC1 (hM.keep hb1) hkn;have hnw:=nx_wf (ls.map (·.1)) k;go_wp2_with fail;refine hnx.mono ?_;rintro e w2 ⟨rfl,hbq⟩;have hC2:=hC1.step hbq;have ho2:=own_below ho1 hbq;have hb2:=below_cut hb1 hbq (by omega)
  clear hnx hC1 ho1 hb1 hbq y0 y1 y2 fz
  by_cases h0:nx (ls.map (·.1)) k<0
  ·have hv1:=HQ.out;rw [if_pos h0] at hv1;have HV1:=Lib.hid hv1;generalize nx (ls.map (·.1)) k=z at *;have d0:decide (z<0)=true:=by simpa using h0
   clear hv1 h0;go_wp2_with fail;simp only [Exit.jump];go_ret
   have e1:v=(true,k,psF):=by rw [HVT.out,HV1.out]
   rw [e1];exact ⟨_,rfl,hC2,hb2⟩
  ·have hv1:=HQ.out;rw [if_neg h0] at hv1;have HQ1:=Lib.hid hv1;clear hv1 HQ;have hnx:=next_any ls A n c B g k psF F w2 hC2 (hM.keep hb2) hkn;have d0:decide (nx (ls.map (·.1)) k<0)=false:=by simpa using h0
   go_wp2_with fail;refine hnx.mono ?_;rintro e w3 ⟨rfl,hbq⟩;have hC3:=hC2.step hbq;have ho3:=own_below ho2 hbq;have hb3:=below_cut hb2 hbq (by omega)
   clear hnx hC2 ho2 hb2 hbq
   by_cases h1:nx (ls.map (·.1)) k=1
   ·have hkl:=nx_lt (l:=ls.map (·.1)) (k:=k) (by omega)
    rw [hlen] at hkl;have hv1:=HQ1.out;rw [if_neg (fun hh=>hh h1)] at hv1
    rw [h1];obtain ⟨r1,hr1⟩:∃ r1,r1=rowEnd (ls.map (·.1)) 2 (k+1):=⟨_,rfl⟩;have hrb:=rowEnd_bd (l:=ls.map (·.1)) (kd:=2) (k:=k+1) (by omega)
    rw [← hr1,hlen] at hv1;rw [← hr1,hlen] at hrb;obtain ⟨bv,hbv⟩:∃ bv,bv=blocksR (ls.map (·.1)) (n-r1) true r1:=⟨_,rfl⟩;rw [← hbv] at hv1;have HR1:=Lib.hid hr1;have HBV:=Lib.hid hbv;have HQ2:=Lib.hid hv1;clear hv1 hr1 hbv h0 h1 hnw HQ1 d0;obtain ⟨b,off,rfl,hbb,hc⟩:=hM.reads.insts (by omega)
    obtain ⟨c0,c1,c2,c3⟩:=((hM.keep hb3).reads.insts (by omega)).elim (fun b' h=>h.elim (fun off' h=>by
     obtain ⟨hbe,-,hc'⟩:=h;cases hbe
     exact hc' k hkl))
    generalize ig ls k=x at *;obtain ⟨⟨op,ty,res,al⟩,Ax,nx_,cx⟩:=x;dsimp only at *;obtain ⟨y0,y1,-,fz⟩:=hC3.cells;have hg3:=hC3.lt;have hbw:b<w3.heap.size:=by omega
    have hS0:K6 w3 g b off n c k op ty res Ax nx_ cx w3:=⟨y0,y1,c0,c1,c2,c3,Below.refl _ _⟩;have hkI:((k:Nat):Int)<(n:Nat):=by omega
    have d1:((1:Int) != 1)=false:=rfl;clear hc y0 y1 c0 c1 c2 c3;go_wp2_with fail;go_region_held3 (K6 w3 g b off n c k op ty res Ax nx_ cx) (first | with_reducible exact hS0.drew_ | with_reducible assumption | with_reducible exact hS0.new.drew_ | fail) (fail)
    have hal:=((Below.refl w3.heap.size w3).alloc (Nat.le_refl _) (.cells #[.int .u32 res,.int .i64 (k:Nat),.slice none 0 0,.slice none 0 0,.int .i64 0] 154)).drew;have hL1:LpS w (w3.alloc (.cells #[.int .u32 res,.int .i64 (k:Nat),.slice none 0 0,.slice none 0 0,.int .i64 0] 154)).drew B g w3.heap.size (some ⟨b,off,none⟩) n c k psF F nf xs 0 :=
     ⟨hC3.step hal,⟨by omega,res,(k:Nat),0,(none,0,0),none,0,[],(Blk.new w3 154 #[.int .u32 res,.int .i64 (k:Nat),.slice none 0 0,.slice none 0 0,.int .i64 0]).drew,World.ownsRow_nil _ _ _ _⟩,own_below ho3 hal,own_ne_high ho3 (Nat.le_refl _),hb3.trans (hal.mono (by omega))⟩
    clear hS0 hC3 ho3 hb3 hal;generalize (w3.alloc (.cells #[.int .u32 res,.int .i64 (k:Nat),.slice none 0 0,.slice none 0 0,.int .i64 0] 154)).drew=w4 at hL1 ⊢;obtain ⟨gf,hgf⟩:∃ gf,gf=w3.heap.size:=⟨_,rfl⟩;rw [← hgf] at hL1 ⊢;clear hgf;have hL2:LpS w (w4.setCell ⟨g,1,none⟩ (.int .i64 ((k:Int)+1))) B g gf (some ⟨b,off,none⟩) n c (k+1) psF F nf xs 0:=hL1.atPut (k+1);obtain ⟨y0,y1,-,fz⟩:=hL1.cut.cells;have hrow:=crow_any ls (some ⟨b,off,none⟩) n c B g (k+1) psF F 2 _ hL2.cut (hM.keep hL2.below) (by omega) (by decide)
    rw [← HR1.out] at hrow;go_wp2_with fail;refine hrow.mono ?_;rintro en w5 ⟨⟨A5,n5,c5,rfl⟩,hC5,hg5⟩;have hL5:=hL2.only hg5 hC5;clear hrow hC5 hg5 hL2 hL1 y0 y1 fz;have hL6:=hL5.parPut (A5,n5,c5);obtain ⟨id,at_,en,P,Ab,cb,kf⟩:=hL5.fn.cells5;have p2:=kf.cell 2;have pf:=kf.frozen;simp at p2;go_wp2_with fail;go_step3
    go_wp2_with fail;clear p2 pf kf hL5;go_loopg [] (n-r1) (fun q' wr=>∃ (kk nb:Nat),n≤kk+q'∧kk≤n∧r1≤kk∧nb≤kk∧Hid (bv=blocksR (ls.map (·.1)) q' (decide (nb=0)) kk)∧LpS w wr B g gf (some ⟨b,off,none⟩) n c kk psF F nf xs nb)
    case atStart=>exact ⟨r1,0,by omega,by omega,Nat.le_refl _,Nat.zero_le _,HBV,hL6⟩
    case round =>
     obtain ⟨kk,nb,hkq2,hkn2,hrk,hnbk,HB,hL⟩:=hrel;have hnx:=next_any ls (some ⟨b,off,none⟩) n c B g kk psF F wr hL.cut (hM.keep hL.below) hkn2
     by_cases h3:nx (ls.map (·.1)) kk=3
     ·have hkl2:=nx_lt (l:=ls.map (·.1)) (k:=kk) (by omega)
      rw [hlen] at hkl2;obtain ⟨q2,rfl⟩:∃ q2,gk=q2+1:=⟨gk-1,by omega⟩
      have hb1:=HB.out;unfold blocksR at hb1;rw [if_pos h3] at hb1;rw [h3] at hnx;have hbd:=blockR_bd (l:=ls.map (·.1)) (first:=decide (nb=0)) (k:=kk) (by omega)
      rw [hlen] at hbd;have hblk:=fun w' (hd:Below wr.heap.size wr w')=>block_any ls (some ⟨b,off,none⟩) n c B g gf kk nb psF F w' (hL.step hd).cut (hL.step hd).fn (hM.keep (hL.step hd).below) hkl2 hnbk hsm
      generalize blockR (ls.map (·.1)) (decide (nb=0)) kk=r at *;obtain ⟨rb,rk⟩:=r;dsimp only at hb1 hbd hblk;have HB1:=Lib.hid hb1;have d3:((3:Int)==3)=true:=rfl;clear hb1 h3 HB;go_wp2_with fail;refine hnx.mono ?_;rintro en w7 ⟨rfl,hbq⟩;have hL7:=hL.step hbq;have hblk7:=hblk w7 hbq;clear hnx hblk hbq hL
      rcases rb with _ | _
      ·have hb2:bv=(false,decide (nb=0),rk):=HB1.out;have hv1:=HQ2.out;rw [hb2] at hv1;have hv2:vf=(false,rk):=hv1;have HV1:=Lib.hid hv2;clear hb2 hv1 hv2;go_wp2_with fail;refine hblk7.mono ?_;rintro en w8 ⟨rfl,hC8,hF8,hb8,hk8⟩;go_wp2_with fail;simp only [Exit.jump];go_ret
       have e1:v=(false,rk,psF):=by rw [HVT.out,HV1.out]
       rw [e1];exact ⟨_,rfl,hC8,hL7.below.trans hb8⟩
      ·have hb2:bv=blocksR (ls.map (·.1)) q2 false rk:=HB1.out;have HB2:=Lib.hid hb2;clear hb2 HB1;go_wp2_with fail;refine hblk7.mono ?_;rintro en w8 ⟨rfl,hC8,hF8,hb8,hk8⟩;have hL8:=hL7.block hC8 hF8 hb8 hk8;clear hblk7 hC8 hF8 hb8 hk8 hL7;go_wp2_with fail;go_roundg q2
       case measure=>omega
       case rel=>exact ⟨rk,nb+1,by omega,hbd.2,by omega,by omega,HB2,hL8⟩
     ·have hb1:bv=(true,decide (nb=0),kk):=by
       have hb1:=HB.out;cases gk with
       | zero=>exact hb1
       | succ q2=>unfold blocksR at hb1;rw [if_neg h3] at hb1;exact hb1
      have hv1:=HQ2.out;rw [hb1] at hv1;have HQ3:=Lib.hid hv1;have d3:(nx (ls.map (·.1)) kk==3)=false:=by rw [beq_eq_false_iff_ne];exact h3
      clear hv1 hb1 HB h3;go_wp2_with fail;refine hnx.mono ?_;rintro en w7 ⟨rfl,hbq⟩;have hL7:=hL.step hbq;clear hnx hbq hL;obtain ⟨id,at_,en,P,Ab,cb,kf⟩:=hL7.fn.cells5;have p3:=kf.cell 3;simp at p3
      by_cases h0:nb=0
      ·have d0:(((nb:Nat):Int)==0)=true:=by rw [h0];rfl
       have hv1:vf=(false,kk):=by rw [HQ3.out,if_neg (by simp),if_pos (.inl (by simpa using h0))]
       have HV1:=Lib.hid hv1;clear hv1 h0;go_wp2_with fail;simp only [Exit.jump];go_ret
       have e1:v=(false,kk,psF):=by rw [HVT.out,HV1.out]
       rw [e1];exact ⟨_,rfl,hL7.cut,hL7.below⟩
      ·have d0:(((nb:Nat):Int)==0)=false:=by rw [beq_eq_false_iff_ne];omega
       have hnx:=next_any ls (some ⟨b,off,none⟩) n c B g kk psF F w7 hL7.cut (hM.keep hL7.below) hkn2
       by_cases h8:nx (ls.map (·.1)) kk=8
       ·have hkl2:=nx_lt (l:=ls.map (·.1)) (k:=kk) (by omega)
        rw [hlen] at hkl2;have hv1:vf=funcsR (ls.map (·.1)) q (kk+1):=by rw [HQ3.out,if_neg (by simp),if_neg (by intro hh;rcases hh with hh | hh;exact h0 (by simpa using hh);exact hh h8)]
        have HV1:=Lib.hid hv1;rw [h8] at hnx;have d8:((8:Int) != 8)=false:=rfl;clear hv1 h0 h8;go_wp2_with fail;refine hnx.mono ?_;rintro en w8 ⟨rfl,hbq⟩;have hL8:=hL7.step hbq;clear hnx hL7 kf p3 hbq;obtain ⟨id,at_,en,P,Ab,cb,kf⟩:=hL8.fn.cells5;have p4:=kf.cell 4;have pf:=kf.frozen;simp at p4;have hL9:LpS w (w8.setCell ⟨gf,4,none⟩ (.int .i64 (kk:Nat))) B g gf (some ⟨b,off,none⟩) n c kk psF F nf xs nb:=hL8.endPut kk;have hL10:LpS w ((w8.setCell ⟨gf,4,none⟩ (.int .i64 (kk:Nat))).setCell ⟨g,1,none⟩ (.int .i64 ((kk:Int)+1))) B g gf (some ⟨b,off,none⟩) n c (kk+1) psF F nf xs nb:=hL9.atPut (kk+1);obtain ⟨y0,y1,-,fz⟩:=hL8.cut.cells;obtain ⟨z0,z1,-,fz1⟩:=hL9.cut.cells;go_wp2_with fail;clear y0 y1 fz z0 z1 fz1 p4 pf kf hL8 hL9;generalize (w8.setCell ⟨gf,4,none⟩ (.int .i64 (kk:Nat))).setCell ⟨g,1,none⟩ (.int .i64 ((kk:Int)+1))=w10 at hL10 ⊢;obtain ⟨hfl,id,at_,en,P,Ab,cb,xb,kf,hob⟩:=hL10.fn;obtain ⟨-,-,y22,fz⟩:=hL10.cut.cells;obtain ⟨AF,cF,hFe⟩:=own_shape hL10.row;rw [hFe] at y22;have hrow:=hL10.row;rw [hFe] at hrow;have hgl10:=hL10.cut.lt;have e22:=fun o=>(World.cell?_alloc_lt w10 o ⟨g,22,none⟩ hgl10).trans y22
        have q0:=kf.cell 0;have q1:=kf.cell 1;have q2:=kf.cell 2;have q3:=kf.cell 3;have q4:=kf.cell 4;simp at q0 q1 q2 q3 q4;have hlit:=Reads.litN w10.drew #[.int .u32 id,.int .i64 at_,.slice P.1 P.2.1 P.2.2,.slice Ab nb cb,.int .i64 en] 154 5 1 5 rfl rfl (by omega)
        have hsz10:=hL10.size;have hne:(Value.slice AF nf cF).ownBlock≠some g:=by
         obtain ⟨-,cs',hb,-⟩:=hL10.cut;exact own_blk_ne hrow hb (by decide)
        have hFh:=Lib.hid hFe;clear hFe;go_region_law (first
         | (refine step_ap_any slFun (w10.drew.alloc (.cells #[.int .u32 id,.int .i64 at_,.slice P.1 P.2.1 P.2.2,.slice Ab nb cb,.int .i64 en] 154)) rfl _ _ rfl B _ _ _ rfl (hrow.drew.alloc _) _ _ 1 1 [.int .u32 id,.int .i64 at_,.slice P.1 P.2.1 P.2.2,.slice Ab nb cb,.int .i64 en] rfl hlit (by simp [Value.oneCell']) (by omega) (by omega) (by rw [World.size_alloc];exact Nat.le_succ_of_le hsz10) ?_;intro A8 c8 w11 ho8 hg8;have hC8:=(hL10.cut.drew.alloc (.cells #[.int .u32 id,.int .i64 at_,.slice P.1 P.2.1 P.2.2,.slice Ab nb cb,.int .i64 en] 154)).grown hg8 (Ne.symm hne);obtain ⟨-,-,x22,fx⟩:=hC8.cells;rw [hFh.out] at x22))
        all_goals
         have hC9:=hC8.funPut (.slice A8 (nf+1) c8);have ho9:=own_set_other ho8 (p:=⟨g,22,none⟩) (by obtain ⟨-,cs',hb,-⟩:=hC8;exact own_blk_ne ho8 hb (by decide)) (.slice A8 (nf+1) c8)
         have hb9:=(((hL10.below.drew).alloc hsz10 (.cells #[.int .u32 id,.int .i64 at_,.slice P.1 P.2.1 P.2.2,.slice Ab nb cb,.int .i64 en] 154)).grown hg8 (by rw [World.size_alloc];exact Nat.le_succ_of_le hsz10) (fun j hj=>(hrow.lt j hj).1)).setCell (p:=⟨g,22,none⟩) hlow (.slice A8 (nf+1) c8)
         obtain ⟨-,t1',-,-⟩:=hC9.cells;clear hC8 hg8 ho8 x22 fx e22 q0 q1 q2 q3 q4 hlit;go_wp2_with fail;refine wp_goto_jump (And.intro ⟨HVT,rfl,by kernel_rfl,by kernel_rfl,⟨q,kk+1,nf+1,.slice A8 (nf+1) c8,_,hC9,ho9,by omega,by omega,by omega,HV1.out,hb9⟩⟩ ?_)
         show n+1-(intOf ((World.cell? _ ⟨g,1,none⟩).getD undef)).toNat<mu
         rw [t1',HMU.out];simp [intOf]
         omega
       ·have d8:(nx (ls.map (·.1)) kk != 8)=true:=by simpa using h8
        have hv1:vf=(false,kk):=by rw [HQ3.out,if_neg (by simp),if_pos (.inr h8)]
        have HV1:=Lib.hid hv1;clear hv1 h0 h8;go_wp2_with fail;refine hnx.mono ?_;rintro en w8 ⟨rfl,hbq⟩;have hL8:=hL7.step hbq;go_wp2_with fail;simp only [Exit.jump];go_ret
        have e1:v=(false,kk,psF):=by rw [HVT.out,HV1.out]
        rw [e1];exact ⟨_,rfl,hL8.cut,hL8.below⟩
   ·have hv1:=HQ1.out;rw [if_pos h1] at hv1;have HV1:=Lib.hid hv1;generalize nx (ls.map (·.1)) k=z at *;have d1:(z != 1)=true:=by simpa using h1
    clear hv1 h0 h1;go_wp2_with fail;simp only [Exit.jump];go_ret
    have e1:v=(false,k,psF):=by rw [HVT.out,HV1.out]
    rw [e1];exact ⟨_,rfl,hC3,hb3⟩
end
section
open Go.RowKit
theorem shapeR_len (bound:Int):∀ (l:List InstI) (k:Nat) (left:Int),0≤left→(shapeR bound l k left).1=0→(l.length:Int)≤left
 | [],_,_,h,_=>by simpa using h
 | i :: r,k,left,h,h0=>by
  unfold shapeR at h0
  split at h0
  ·rename_i h1
   exact absurd h0 h1
  ·split at h0
   ·cases h0
   ·have:=shapeR_len bound r (k+1) _ (by omega) h0
    simp only [List.length_cons];omega
theorem shapeM_len {bound:Int} {l:List InstI} (h:(shapeM bound l).1=0):l.length≤1048571:=by
 unfold shapeM at h
 split at h
 ·cases h
 ·have:=shapeR_len bound l 0 1048571 (by decide) h
  omega
theorem cutR_bd (l:List InstI):(cutR l).2.1≤l.length:=by
 have h:=topR_bd l 8 0 0 (fun _=>0) (Nat.zero_le _)
 unfold cutR;dsimp only
 split
 ·exact h.2
 ·exact (funcsR_bd _ _ h.2).2
def cut0 (A:Option Addr) (n c:Nat):Array Value:=#[.slice A n c,.int .i64 0,.int .i64 0,.int .i64 0,.int .i64 0,.int .i64 0,.int .i64 0,.int .i64 0,.int .i64 0,.int .i64 0,.int .i64 0,.int .i64 0,.int .i64 0,.int .i64 0,.int .i64 0,.int .i64 0,.int .i64 0,.int .i64 0,.int .i64 0,.int .i64 0,.int .i64 0,.int .i64 0,.slice none 0 0]
theorem cut0_at (A:Option Addr) (n c:Nat):∀ j,j<20→(cut0 A n c)[2+j]?=some (.int .i64 0):=fun j hj=>match j,hj with
 | 0,_=>rfl
 | 1,_=>rfl
 | 2,_=>rfl
 | 3,_=>rfl
 | 4,_=>rfl
 | 5,_=>rfl
 | 6,_=>rfl
 | 7,_=>rfl
 | 8,_=>rfl
 | 9,_=>rfl
 | 10,_=>rfl
 | 11,_=>rfl
 | 12,_=>rfl
 | 13,_=>rfl
 | 14,_=>rfl
 | 15,_=>rfl
 | 16,_=>rfl
 | 17,_=>rfl
 | 18,_=>rfl
 | 19,_=>rfl
 | j+20,h=>absurd h (by omega)
theorem CutS.new (w:World) (B:Nat) (A:Option Addr) (n c:Nat) (hB:B≤w.heap.size):CutS (w.alloc (.cells (cut0 A n c) 107)) B w.heap.size A n c 0 (fun _=>0) (.slice none 0 0) :=
 ⟨hB,cut0 A n c,Blk.new w _ _,rfl,rfl,rfl,cut0_at A n c,rfl⟩
theorem CutS.mono {w:World} {B B' g:Nat} {A:Option Addr} {n c k:Nat} {ps:Nat→Int} {F:Value} (h:CutS w B g A n c k ps F) (hB:B'≤B):CutS w B' g A n c k ps F:=by
 obtain ⟨hl,r⟩:=h;exact ⟨Nat.le_trans hB hl,r⟩
def ReadIs (bound:Int) (L:List InstI) (A:Option Addr) (n c:Nat) (w:World) (e:Ending) (w':World):Prop :=
 Below w.heap.size w w'∧∃ p:Option Addr,e=.returned (.tuple #[.pointer p,.agg #[.int .i64 (layM bound L).1,.int .i64 (layM bound L).2]]) ∧
  (((layM bound L).1=0∧∃ (g k:Nat) (F:Value),p=some ⟨g,0,none⟩∧CutS w' w.heap.size g A n c k (cutR L).2.2 F)∨((layM bound L).1≠0∧p=none))
theorem lread_any (gen bound:Int) (ls:List InstA) (A:Option Addr) (n c:Nat) (w:World) (hM:ModS w w.heap.size A n ls) :
  Calls Tryz.prog 39 #[.agg (modC gen bound A n c)] w (ReadIs bound (ls.map (·.1)) A n c w):=by
 have hlen:=hM.length;unfold modC;have hb0:=((Below.refl w.heap.size w).alloc (Nat.le_refl _) (.cells #[.int .u32 gen,.int .u32 bound,.slice A n c] 25)).alloc (by simp) (.cells #[.int .i64 0,.int .i64 0] 28)
 have k1:=(Blk.new w 25 #[.int .u32 gen,.int .u32 bound,.slice A n c]).alloc (.cells #[.int .i64 0,.int .i64 0] 28);have k3:=Blk.new (w.alloc (.cells #[.int .u32 gen,.int .u32 bound,.slice A n c] 25)) 28 #[.int .i64 0,.int .i64 0];rw [World.size_alloc] at k3;have hsh:=shape_any gen bound ls A n c _ (hM.step hb0);unfold modC at hsh;unfold ReadIs;obtain ⟨sv,hsv⟩:∃ sv,sv=shapeM bound (ls.map (·.1)):=⟨_,rfl⟩;obtain ⟨lv,hlv⟩:∃ lv,lv=layM bound (ls.map (·.1)):=⟨_,rfl⟩;rw [← hlv];unfold layM at hlv;rw [← hsv] at hlv hsh;have HS:=Lib.hid hsv;clear hsv;obtain ⟨s1,s2⟩:=sv;dsimp only at *;have HL:=Lib.hid hlv;clear hlv;have sz2:((w.alloc (.cells #[.int .u32 gen,.int .u32 bound,.slice A n c] 25)).alloc (.cells #[.int .i64 0,.int .i64 0] 28)).heap.size=w.heap.size+2:=by simp
 by_cases h0:s1=0
 ·have d0:(s1 != 0)=false:=by rw [h0];rfl
  have hsm:=shapeM_len (bound:=bound) (l:=ls.map (·.1)) (by rw [← HS.out];exact h0)
  rw [hlen] at hsm;have hl1:=HL.out;rw [if_neg (fun hh=>hh h0),hlen] at hl1
  have HL1:=Lib.hid hl1;clear h0 hl1 HL;go_enter Tryz.func39,Tryz.ntmps39;go_wp2_with (go_at_call 73;refine hsh.mono ?_;rintro e w2 ⟨rfl,hb2⟩;have k14:=(k1.step hb2).alloc (.cells #[.int .i64 s1,.int .i64 s2] 28);have k34:=(k3.step hb2).alloc (.cells #[.int .i64 s1,.int .i64 s2] 28);have hb3:=below_cut hb0 hb2 (Nat.le_refl _);have hb4:=hb3.alloc hb3.size (.cells #[.int .i64 s1,.int .i64 s2] 28);have y2:=k14.cell 2;simp at y2)
  have hb5:=hb4.alloc hb4.size (.cells (cut0 A n c) 107);have hC5:=CutS.new (w2.alloc (.cells #[.int .i64 s1,.int .i64 s2] 28)) (w2.heap.size+1) A n c (by simp)
  have hcut:=cut_any ls A n c (w2.heap.size+1) _ _ hC5 ((hM.keep hb5).more (by have:=hb3.size;omega)) (by omega)
  rw [World.size_alloc] at hcut;have k15:=k14.alloc (.cells (cut0 A n c) 107);have k35:=k34.alloc (.cells (cut0 A n c) 107);have hlt1:=k15.lt;have sz3:=hb3.size;have sz4:=hb2.size;rw [sz2] at sz4;obtain ⟨cv,hcv⟩:∃ cv,cv=cutR (ls.map (·.1)):=⟨_,rfl⟩;have hcb:=cutR_bd (ls.map (·.1));have hl1:=HL1.out;rw [← hcv] at hcut hcb hl1;have HCV:=Lib.hid hcv;rw [hlen] at hcb;obtain ⟨c1,c2,c3⟩:=cv;dsimp only at hcut hcb hl1;have HL2:=Lib.hid hl1;clear hcv hl1 HL1 hC5 hsh y2 k14 k34 hb4;refine hcut.mono ?_;rintro e w6 ⟨F,rfl,hC6,hb6⟩;have k16:=k15.below hb6 (by omega)
  have k36:=k35.below hb6 (by omega)
  have hb7:=hb5.trans (hb6.mono (by omega))
  have hC7:=hC6.mono (B':=w.heap.size) (by omega)
  clear hcut k15 k35 hb5 hb6 hC6;obtain ⟨z0,z1⟩:=two_ k36;have fz:=k36.frozen
  rcases c1 with _ | _
  ·have m2:=k16.cell 2;simp at m2;obtain ⟨y0,y1,-,-⟩:=hC7.cells
   by_cases hlt:c2<n
   ·have dl2:decide (c2<n)=true:=by simpa using hlt
    have dl:decide (((c2:Nat):Int)<((n:Nat):Int))=true:=by rw [decide_eq_true_eq];omega
    have hl1:=HL2.out;rw [if_neg (by simp),if_pos hlt] at hl1
    have HL3:=Lib.hid hl1;clear hl1 hlt HL2;go_wp2_with fail;go_big_region
    go_wp2_with fail;refine wp_region_tail 6 (by kernel_rfl) (by kernel_rfl) ?_
    simp only [List.take_succ_cons,List.take_zero,List.drop_succ_cons,List.drop_zero]
    repeat (go_big_quiet_step (fail))
    refine wpQuiet_nil ?_;have k5:=(spot_put k36 (.int .i64 50) (.int .i64 (c2:Nat))).drew.drew;have hb5:=((hb7.setCell (p:=⟨w.heap.size+1,0,none⟩) (show w.heap.size≤w.heap.size+1 by omega) (.int .i64 50)).setCell (p:=⟨w.heap.size+1,1,none⟩) (show w.heap.size≤w.heap.size+1 by omega) (.int .i64 (c2:Nat))).drew.drew
    go_wp2_with fail;clear z0 z1 fz;generalize ((w6.setCell ⟨w.heap.size+1,0,none⟩ (.int .i64 50)).setCell ⟨w.heap.size+1,1,none⟩ (.int .i64 (c2:Nat))).drew.drew=w9 at *;obtain ⟨z0,z1⟩:=two_ k5;exact bodyPost_ret (v:=.tuple #[.pointer none,.agg #[.int .i64 50,.int .i64 (c2:Nat)]]) (by simp [results,Tryz.results39,go_sem,z0,z1]) rfl ⟨hb5,none,by rw [HL3.out],.inr ⟨by rw [HL3.out];exact (by decide:(50:Int)≠0),rfl⟩⟩
   ·have dl2:decide (c2<n)=false:=by simpa using hlt
    have dl:decide (((c2:Nat):Int)<((n:Nat):Int))=false:=by rw [decide_eq_false_iff_not];omega
    have hl1:=HL2.out;rw [if_neg (by simp),if_neg hlt] at hl1
    have HL3:=Lib.hid hl1;clear hl1 hlt HL2;go_wp2_with fail;go_big_region
    go_wp2_with fail;refine wp_region_tail 6 (by kernel_rfl) (by kernel_rfl) ?_
    simp only [List.take_succ_cons,List.take_zero,List.drop_succ_cons,List.drop_zero]
    repeat (go_big_quiet_step (fail))
    refine wpQuiet_nil ?_;have k5:=(spot_put k36 (.int .i64 51) (.int .i64 (c2:Nat))).drew.drew;have hb5:=((hb7.setCell (p:=⟨w.heap.size+1,0,none⟩) (show w.heap.size≤w.heap.size+1 by omega) (.int .i64 51)).setCell (p:=⟨w.heap.size+1,1,none⟩) (show w.heap.size≤w.heap.size+1 by omega) (.int .i64 (c2:Nat))).drew.drew
    go_wp2_with fail;clear z0 z1 fz;generalize ((w6.setCell ⟨w.heap.size+1,0,none⟩ (.int .i64 51)).setCell ⟨w.heap.size+1,1,none⟩ (.int .i64 (c2:Nat))).drew.drew=w9 at *;obtain ⟨z0,z1⟩:=two_ k5;exact bodyPost_ret (v:=.tuple #[.pointer none,.agg #[.int .i64 51,.int .i64 (c2:Nat)]]) (by simp [results,Tryz.results39,go_sem,z0,z1]) rfl ⟨hb5,none,by rw [HL3.out],.inr ⟨by rw [HL3.out];exact (by decide:(51:Int)≠0),rfl⟩⟩
  ·have hl1:lv=(0,0):=HL2.out;have HL3:=Lib.hid hl1;clear hl1 HL2;go_wp2_with fail;have k5:=spot_put k36 (.int .i64 0) (.int .i64 0);have hb5:=(hb7.setCell (p:=⟨w.heap.size+1,0,none⟩) (show w.heap.size≤w.heap.size+1 by omega) (.int .i64 0)).setCell (p:=⟨w.heap.size+1,1,none⟩) (show w.heap.size≤w.heap.size+1 by omega) (.int .i64 0)
   have hC8:=(hC7.far (p:=⟨w.heap.size+1,0,none⟩) (by simp;omega) (.int .i64 0)).far (p:=⟨w.heap.size+1,1,none⟩) (by simp;omega) (.int .i64 0)
   clear z0 z1 fz;generalize (w6.setCell ⟨w.heap.size+1,0,none⟩ (.int .i64 0)).setCell ⟨w.heap.size+1,1,none⟩ (.int .i64 0)=w9 at *;obtain ⟨z0,z1⟩:=two_ k5;refine bodyPost_ret (v:=.tuple #[.pointer (some ⟨w2.heap.size+1,0,none⟩),.agg #[.int .i64 0,.int .i64 0]]) (by simp [results,Tryz.results39,go_sem,z0,z1]) rfl ⟨hb5,_,by rw [HL3.out],.inl ⟨by rw [HL3.out],_,_,_,rfl,by rw [← HCV.out];exact hC8⟩⟩
 ·have d0:(s1 != 0)=true:=by simpa using h0
  have hl1:=HL.out;rw [if_pos h0] at hl1;have HL1:=Lib.hid hl1;have H0:=Lib.hid h0;clear h0 hl1 HL;go_enter Tryz.func39,Tryz.ntmps39;go_wp2_with (go_at_call 73;refine hsh.mono ?_;rintro e w2 ⟨rfl,hb2⟩;have k24:=Blk.new w2 28 #[.int .i64 s1,.int .i64 s2];have k34:=(k3.step hb2).alloc (.cells #[.int .i64 s1,.int .i64 s2] 28);have hb3:=below_cut hb0 hb2 (Nat.le_refl _);have hb4:=hb3.alloc hb3.size (.cells #[.int .i64 s1,.int .i64 s2] 28))
  obtain ⟨x0,x1⟩:=two_ k24;obtain ⟨z0,z1⟩:=two_ k34;have fz:=k34.frozen;refine wp_region_tail 2 (by kernel_rfl) (by kernel_rfl) ?_
  simp only [List.take_succ_cons,List.take_zero,List.drop_succ_cons,List.drop_zero]
  repeat (go_big_quiet_step (fail))
  refine wpQuiet_nil ?_;go_wp2_with fail;have k5:=(spot_put k34 (.int .i64 s1) (.int .i64 s2)).drew;have hb5:=((hb4.setCell (p:=⟨w.heap.size+1,0,none⟩) (show w.heap.size≤w.heap.size+1 by omega) (.int .i64 s1)).setCell (p:=⟨w.heap.size+1,1,none⟩) (show w.heap.size≤w.heap.size+1 by omega) (.int .i64 s2)).drew
  clear z0 z1 fz;generalize (((w2.alloc (.cells #[.int .i64 s1,.int .i64 s2] 28)).setCell ⟨w.heap.size+1,0,none⟩ (.int .i64 s1)).setCell ⟨w.heap.size+1,1,none⟩ (.int .i64 s2)).drew=w9 at *;obtain ⟨z0,z1⟩:=two_ k5;exact bodyPost_ret (v:=.tuple #[.pointer none,.agg #[.int .i64 s1,.int .i64 s2]]) (by simp [results,Tryz.results39,go_sem,z0,z1]) rfl ⟨hb5,none,by rw [HL1.out],.inr ⟨by rw [HL1.out];exact H0.out,rfl⟩⟩
end
section
open Go.RowKit
def psA (f:Nat→Int):Array Value:=#[.int .i64 (f 0),.int .i64 (f 1),.int .i64 (f 2),.int .i64 (f 3),.int .i64 (f 4),.int .i64 (f 5),.int .i64 (f 6),.int .i64 (f 7),.int .i64 (f 8),.int .i64 (f 9),.int .i64 (f 10),.int .i64 (f 11),.int .i64 (f 12),.int .i64 (f 13),.int .i64 (f 14),.int .i64 (f 15),.int .i64 (f 16),.int .i64 (f 17),.int .i64 (f 18),.int .i64 (f 19)]
theorem psA_len (f:Nat→Int):(psA f).toList.length=20:=rfl
theorem psA_one (f:Nat→Int):∀ v∈(psA f).toList,v.oneCell'=true:=fun v hv=>by
 unfold psA at hv;simp at hv
 rcases hv with rfl | rfl | rfl | rfl | rfl | rfl | rfl | rfl | rfl | rfl | rfl | rfl | rfl | rfl | rfl | rfl | rfl | rfl | rfl | rfl <;> rfl
theorem psA_at (f:Nat→Int):∀ j v,(psA f).toList[j]?=some v→j<20∧v=.int .i64 (f j):=fun j v hv=>by
 have hj:j<20:=by
  rcases Nat.lt_or_ge j 20 with h | h
  ·exact h
  ·rw [List.getElem?_eq_none (by rw [psA_len];exact h)] at hv;cases hv
 refine ⟨hj,?_⟩
 match j,hj with
 | 0,_=>injection hv with hv;exact hv.symm
 | 1,_=>injection hv with hv;exact hv.symm
 | 2,_=>injection hv with hv;exact hv.symm
 | 3,_=>injection hv with hv;exact hv.symm
 | 4,_=>injection hv with hv;exact hv.symm
 | 5,_=>injection hv with hv;exact hv.symm
 | 6,_=>injection hv with hv;exact hv.symm
 | 7,_=>injection hv with hv;exact hv.symm
 | 8,_=>injection hv with hv;exact hv.symm
 | 9,_=>injection hv with hv;exact hv.symm
 | 10,_=>injection hv with hv;exact hv.symm
 | 11,_=>injection hv with hv;exact hv.symm
 | 12,_=>injection hv with hv;exact hv.symm
 | 13,_=>injection hv with hv;exact hv.symm
 | 14,_=>injection hv with hv;exact hv.symm
 | 15,_=>injection hv with hv;exact hv.symm
 | 16,_=>injection hv with hv;exact hv.symm
 | 17,_=>injection hv with hv;exact hv.symm
 | 18,_=>injection hv with hv;exact hv.symm
 | 19,_=>injection hv with hv;exact hv.symm
 | j+20,h=>exact absurd h (by omega)
theorem cut_range {w:World} {B g:Nat} {A:Option Addr} {n c k:Nat} {ps:Nat→Int} {F:Value} (h:CutS w B g A n c k ps F):w.rangeAt g 2 (psA ps).toList:=fun j v hv=>by
 obtain ⟨hj,rfl⟩:=psA_at ps j v hv;exact h.part_ hj
theorem blk_there {w:World} {g:Nat} {t:TypeId} {cs:Array Value} (h:Blk w g t cs):w.there g 0 cs.size:=fun j hj=>by
 rw [Nat.zero_add];exact ⟨by rw [h.cell j,Array.getElem?_eq_getElem hj];rfl,h.frozen j⟩
theorem heap_setCells (b j:Nat) (hj:j≠b):∀ (vs:List Value) (o:Nat) (w:World),(w.setCells b o vs).heap[j]?=w.heap[j]?
 | [],_,_=>rfl
 | v :: r,o,w=>by rw [World.setCells,heap_setCells b j hj r,Below.heap_setCell _ _ _ _ hj]
theorem below_setCells {B b:Nat} {w0:World} (hb:B≤b):∀ (vs:List Value) (o:Nat) (w:World),Below B w0 w→Below B w0 (w.setCells b o vs)
 | [],_,_,h=>h
 | v :: r,o,w,h=>by rw [World.setCells];exact below_setCells hb r (o+1) _ (h.setCell (p:=⟨b,o,none⟩) hb v)
theorem info134:(Tryz.prog.info? 66).map (·.size)=some 20:=by kernel_rfl
abbrev S10 (g gs a:Nat) (cs:List Value) (l1 l2:Int) (w:World):Prop:=w.rangeAt g 2 cs∧w.cell? ⟨gs,0,none⟩=some (.int .i64 l1)∧w.cell? ⟨gs,1,none⟩=some (.int .i64 l2)∧w.there a 0 20
theorem S10.drew_ {g gs a:Nat} {cs:List Value} {l1 l2:Int} {w:World} (h:S10 g gs a cs l1 l2 w):S10 g gs a cs l1 l2 w.drew:=h
theorem S10.store {g gs a:Nat} {cs:List Value} {l1 l2:Int} {w:World} (hg:g≠a) (hs:gs≠a) (vs:List Value) (h:S10 g gs a cs l1 l2 w):S10 g gs a cs l1 l2 (w.setCells a 0 vs) :=
 ⟨World.rangeAt_setCells_apart h.1 a 0 vs (.inl hg),(World.cell?_of_block (heap_setCells a gs hs vs 0 w)).trans h.2.1,(World.cell?_of_block (heap_setCells a gs hs vs 0 w)).trans h.2.2.1,World.there_setCells h.2.2.2 a 0 vs⟩
theorem S10.put2 {g gs a t:Nat} {cs:List Value} {l1 l2:Int} {w:World} (hg:g≠t) (hs:gs≠t) (ha:a≠t) (u v:Value) (h:S10 g gs a cs l1 l2 w):S10 g gs a cs l1 l2 ((w.setCell ⟨t,0,none⟩ u).setCell ⟨t,1,none⟩ v):=by
 have e:∀ j i,j≠t→((w.setCell ⟨t,0,none⟩ u).setCell ⟨t,1,none⟩ v).cell? ⟨j,i,none⟩=w.cell? ⟨j,i,none⟩:=fun j i hj=>World.cell?_of_block ((Below.heap_setCell _ _ _ _ hj).trans (Below.heap_setCell _ _ _ _ hj))
 refine ⟨fun j x hx=>(e g _ hg).trans (h.1 j x hx),(e gs _ hs).trans h.2.1,(e gs _ hs).trans h.2.2.1,fun j hj=>?_⟩
 obtain ⟨h1,h2⟩:=h.2.2.2 j hj;exact ⟨by rw [e a _ ha];exact h1,by rw [World.frozen?_setCell,World.frozen?_setCell];exact h2⟩
def PartsIs (bound:Int) (L:List InstI) (w:World) (e:Ending) (w':World):Prop :=
 Below w.heap.size w w'∧∃ f:Nat→Int,e=.returned (.tuple #[.agg (psA f),.agg #[.int .i64 (layM bound L).1,.int .i64 (layM bound L).2]])∧((layM bound L).1=0→f=(cutR L).2.2)
theorem parts_end {W:World} {a t:Nat} {l1 l2:Int} {f:Nat→Int} (tmps:Array Value) (h2:tmps.getD 2 undef=.pointer (some ⟨a,0,none⟩)) (h3:tmps.getD 3 undef=.pointer (some ⟨t,0,none⟩))
  (hr:W.rangeAt a 0 (psA f).toList) (z0:W.cell? ⟨t,0,none⟩=some (.int .i64 l1)) (z1:W.cell? ⟨t,1,none⟩=some (.int .i64 l2)) :
  (results Tryz.f22 tmps).run Tryz.prog W=.ok (.tuple #[.agg (psA f),.agg #[.int .i64 l1,.int .i64 l2]]) W:=by
 have hl:=run_loadVar_mid (P:=Tryz.prog) W a 0 66 (psA f).toList _ hr Tryz.underlying66 rfl (by rw [info134,psA_len])
 have ha:(asAddr (.pointer (some ⟨a,0,none⟩))).run Tryz.prog W=.ok ⟨a,0,none⟩ W:=rfl;have hb:(asAddr (.pointer (some ⟨t,0,none⟩))).run Tryz.prog W=.ok ⟨t,0,none⟩ W:=rfl;have hl2:(loadVar 28 ⟨t,0,none⟩).run Tryz.prog W=.ok (.agg #[.int .i64 l1,.int .i64 l2]) W:=by go_simp
 rw [results_cc1 rfl,h2,h3,ha];simp only [Result.andThen_ok];rw [hl];simp only [Result.andThen_ok,hb,hl2]
theorem parts_any (gen bound:Int) (ls:List InstA) (A:Option Addr) (n c:Nat) (w:World) (hM:ModS w w.heap.size A n ls) :
  Calls Tryz.prog 22 #[.agg (modC gen bound A n c)] w (PartsIs bound (ls.map (·.1)) w):=by
 unfold modC;have hb0:=(((Below.refl w.heap.size w).alloc (Nat.le_refl _) (.cells #[.int .u32 gen,.int .u32 bound,.slice A n c] 25)).alloc (by simp) (.cells #[.int .i64 0,.int .i64 0,.int .i64 0,.int .i64 0,.int .i64 0,.int .i64 0,.int .i64 0,.int .i64 0,.int .i64 0,.int .i64 0,.int .i64 0,.int .i64 0,.int .i64 0,.int .i64 0,.int .i64 0,.int .i64 0,.int .i64 0,.int .i64 0,.int .i64 0,.int .i64 0] 66)).alloc (by simp;omega) (.cells #[.int .i64 0,.int .i64 0] 28)
 have k2:=(Blk.new (w.alloc (.cells #[.int .u32 gen,.int .u32 bound,.slice A n c] 25)) 66 #[.int .i64 0,.int .i64 0,.int .i64 0,.int .i64 0,.int .i64 0,.int .i64 0,.int .i64 0,.int .i64 0,.int .i64 0,.int .i64 0,.int .i64 0,.int .i64 0,.int .i64 0,.int .i64 0,.int .i64 0,.int .i64 0,.int .i64 0,.int .i64 0,.int .i64 0,.int .i64 0]).alloc (.cells #[.int .i64 0,.int .i64 0] 28);have k3:=Blk.new ((w.alloc (.cells #[.int .u32 gen,.int .u32 bound,.slice A n c] 25)).alloc (.cells #[.int .i64 0,.int .i64 0,.int .i64 0,.int .i64 0,.int .i64 0,.int .i64 0,.int .i64 0,.int .i64 0,.int .i64 0,.int .i64 0,.int .i64 0,.int .i64 0,.int .i64 0,.int .i64 0,.int .i64 0,.int .i64 0,.int .i64 0,.int .i64 0,.int .i64 0,.int .i64 0] 66)) 28 #[.int .i64 0,.int .i64 0];simp only [World.size_alloc] at k2 k3;have hread:=lread_any gen bound ls A n c _ (hM.step hb0);unfold modC ReadIs at hread;unfold PartsIs;generalize layM bound (ls.map (·.1))=lv at *;obtain ⟨l1,l2⟩:=lv;dsimp only at *;have sz0:(((w.alloc (.cells #[.int .u32 gen,.int .u32 bound,.slice A n c] 25)).alloc (.cells #[.int .i64 0,.int .i64 0,.int .i64 0,.int .i64 0,.int .i64 0,.int .i64 0,.int .i64 0,.int .i64 0,.int .i64 0,.int .i64 0,.int .i64 0,.int .i64 0,.int .i64 0,.int .i64 0,.int .i64 0,.int .i64 0,.int .i64 0,.int .i64 0,.int .i64 0,.int .i64 0] 66)).alloc (.cells #[.int .i64 0,.int .i64 0] 28)).heap.size=w.heap.size+1+1+1:=by simp
 go_enter Tryz.func22,Tryz.ntmps22;go_wp2_with fail;refine hread.mono ?_;rintro e w2 ⟨hb2,p,rfl,hp⟩;have hb3:=below_cut hb0 hb2 (Nat.le_refl _);have sz2:=hb2.size;rw [sz0] at sz2 hp;have k24:=(k2.step hb2).alloc (.cells #[.int .i64 l1,.int .i64 l2] 28);have k34:=(k3.step hb2).alloc (.cells #[.int .i64 l1,.int .i64 l2] 28);have k44:=Blk.new w2 28 #[.int .i64 l1,.int .i64 l2];have hb4:=hb3.alloc hb3.size (.cells #[.int .i64 l1,.int .i64 l2] 28);clear hread k2 k3 hb0 hb2 hb3 sz0;have ht:=blk_there k24;obtain ⟨x0,x1⟩:=two_ k44
 rcases hp with ⟨hl0,g,k,F,rfl,hC⟩ | ⟨hl0,rfl⟩
 ·have hC4:=hC.alloc (.cells #[.int .i64 l1,.int .i64 l2] 28);have HL:=Lib.hid hl0;have hgl:=hC.low;have hgt:=hC.lt;obtain ⟨ps,hps⟩:∃ ps,ps=(cutR (ls.map (·.1))).2.2:=⟨_,rfl⟩;rw [← hps] at hC4;have HPS:=Lib.hid hps;have hr:=cut_range hC4;have hlen:=psA_len ps;have hone:=psA_one ps;obtain ⟨cs,hcs⟩:∃ cs,cs=(psA ps).toList:=⟨_,rfl⟩;rw [← hcs] at hr hlen hone;have HCS:=Lib.hid hcs;clear hps hl0 hC hC4 hcs;have hS0:S10 g w2.heap.size (w.heap.size+1) cs l1 l2 (w2.alloc (.cells #[.int .i64 l1,.int .i64 l2] 28)):=⟨hr,x0,x1,ht⟩;have hS1:=(hS0.drew_).store (by omega) (by omega) cs
  have hS2:=hS1.put2 (t:=w.heap.size+1+1) (by omega) (by omega) (by omega) (.int .i64 l1) (.int .i64 l2)
  have k5:Blk ((w2.alloc (.cells #[.int .i64 l1,.int .i64 l2] 28)).drew.setCells (w.heap.size+1) 0 cs) (w.heap.size+1+1) 28 #[.int .i64 0,.int .i64 0]:=(heap_setCells _ _ (by omega) cs 0 _).trans k34.drew
  have k6:=spot_put k5 (.int .i64 l1) (.int .i64 l2);obtain ⟨z0,z1⟩:=two_ k5;have fz:=k5.frozen;have hb5:=((below_setCells (b:=w.heap.size+1) (by omega) cs 0 _ hb4.drew).setCell (p:=⟨w.heap.size+1+1,0,none⟩) (show w.heap.size≤w.heap.size+1+1 by omega) (.int .i64 l1)).setCell (p:=⟨w.heap.size+1+1,1,none⟩) (show w.heap.size≤w.heap.size+1+1 by omega) (.int .i64 l2)
  have hr5:((((w2.alloc (.cells #[.int .i64 l1,.int .i64 l2] 28)).drew.setCells (w.heap.size+1) 0 cs).setCell ⟨w.heap.size+1+1,0,none⟩ (.int .i64 l1)).setCell ⟨w.heap.size+1+1,1,none⟩ (.int .i64 l2)).rangeAt (w.heap.size+1) 0 cs:=by
   have h1:=World.rangeAt_setCells_same (w2.alloc (.cells #[.int .i64 l1,.int .i64 l2] 28)).drew (w.heap.size+1) 0 cs (by rw [hlen];exact ht)
   intro j v hv;exact (World.cell?_of_block ((Below.heap_setCell _ _ _ _ (show w.heap.size+1≠w.heap.size+1+1 by omega)).trans (Below.heap_setCell _ _ _ _ (show w.heap.size+1≠w.heap.size+1+1 by omega)))).trans (h1 j v hv)
  clear k5 k34 k24 k44;have hu:Tryz.prog.underlying 66=some (.array 10 65):=Tryz.underlying66;have hi:(Tryz.prog.info? 66).map (·.size)=some cs.length:=by rw [hlen];exact info134
  go_wp2_with fail;go_region_held3 (S10 g w2.heap.size (w.heap.size+1) cs l1 l2) (first | with_reducible exact hS0.drew_ | with_reducible exact hS1 | with_reducible exact hS2 | fail) (fail)
  clear hu hi hS0 hS1 hS2;go_wp2_with fail;obtain ⟨z2,z3⟩:=two_ k6;rw [HCS.out] at hr5 z2 z3 hb5 ⊢;exact bodyPost_ret (parts_end _ rfl rfl hr5 z2 z3) rfl ⟨hb5,ps,rfl,fun _=>HPS.out⟩
 ·have HL:=Lib.hid hl0;clear hl0;have hlen:([.int .i64 0,.int .i64 0,.int .i64 0,.int .i64 0,.int .i64 0,.int .i64 0,.int .i64 0,.int .i64 0,.int .i64 0,.int .i64 0,.int .i64 0,.int .i64 0,.int .i64 0,.int .i64 0,.int .i64 0,.int .i64 0,.int .i64 0,.int .i64 0,.int .i64 0,.int .i64 0]:List Value).length=20:=rfl;have hone:∀ v∈([.int .i64 0,.int .i64 0,.int .i64 0,.int .i64 0,.int .i64 0,.int .i64 0,.int .i64 0,.int .i64 0,.int .i64 0,.int .i64 0,.int .i64 0,.int .i64 0,.int .i64 0,.int .i64 0,.int .i64 0,.int .i64 0,.int .i64 0,.int .i64 0,.int .i64 0,.int .i64 0]:List Value),v.oneCell'=true:=fun v hv=>by
   simp at hv;subst hv;rfl
  have hr:(w2.alloc (.cells #[.int .i64 l1,.int .i64 l2] 28)).rangeAt w2.heap.size 2 []:=fun j v hv=>by simp at hv
  have hS0:S10 w2.heap.size w2.heap.size (w.heap.size+1) [] l1 l2 (w2.alloc (.cells #[.int .i64 l1,.int .i64 l2] 28)):=⟨hr,x0,x1,ht⟩;have hS1:=(hS0.drew_).store (by omega) (by omega) [.int .i64 0,.int .i64 0,.int .i64 0,.int .i64 0,.int .i64 0,.int .i64 0,.int .i64 0,.int .i64 0,.int .i64 0,.int .i64 0,.int .i64 0,.int .i64 0,.int .i64 0,.int .i64 0,.int .i64 0,.int .i64 0,.int .i64 0,.int .i64 0,.int .i64 0,.int .i64 0]
  have hS2:=hS1.put2 (t:=w.heap.size+1+1) (by omega) (by omega) (by omega) (.int .i64 l1) (.int .i64 l2)
  have k5:Blk ((w2.alloc (.cells #[.int .i64 l1,.int .i64 l2] 28)).drew.setCells (w.heap.size+1) 0 [.int .i64 0,.int .i64 0,.int .i64 0,.int .i64 0,.int .i64 0,.int .i64 0,.int .i64 0,.int .i64 0,.int .i64 0,.int .i64 0,.int .i64 0,.int .i64 0,.int .i64 0,.int .i64 0,.int .i64 0,.int .i64 0,.int .i64 0,.int .i64 0,.int .i64 0,.int .i64 0]) (w.heap.size+1+1) 28 #[.int .i64 0,.int .i64 0]:=(heap_setCells _ _ (by omega) [.int .i64 0,.int .i64 0,.int .i64 0,.int .i64 0,.int .i64 0,.int .i64 0,.int .i64 0,.int .i64 0,.int .i64 0,.int .i64 0,.int .i64 0,.int .i64 0,.int .i64 0,.int .i64 0,.int .i64 0,.int .i64 0,.int .i64 0,.int .i64 0,.int .i64 0,.int .i64 0] 0 _).trans k34.drew
  have k6:=spot_put k5 (.int .i64 l1) (.int .i64 l2);obtain ⟨z0,z1⟩:=two_ k5;have fz:=k5.frozen;have hb5:=((below_setCells (b:=w.heap.size+1) (by omega) [.int .i64 0,.int .i64 0,.int .i64 0,.int .i64 0,.int .i64 0,.int .i64 0,.int .i64 0,.int .i64 0,.int .i64 0,.int .i64 0,.int .i64 0,.int .i64 0,.int .i64 0,.int .i64 0,.int .i64 0,.int .i64 0,.int .i64 0,.int .i64 0,.int .i64 0,.int .i64 0] 0 _ hb4.drew).setCell (p:=⟨w.heap.size+1+1,0,none⟩) (show w.heap.size≤w.heap.size+1+1 by omega) (.int .i64 l1)).setCell (p:=⟨w.heap.size+1+1,1,none⟩) (show w.heap.size≤w.heap.size+1+1 by omega) (.int .i64 l2)
  have hr5:((((w2.alloc (.cells #[.int .i64 l1,.int .i64 l2] 28)).drew.setCells (w.heap.size+1) 0 [.int .i64 0,.int .i64 0,.int .i64 0,.int .i64 0,.int .i64 0,.int .i64 0,.int .i64 0,.int .i64 0,.int .i64 0,.int .i64 0,.int .i64 0,.int .i64 0,.int .i64 0,.int .i64 0,.int .i64 0,.int .i64 0,.int .i64 0,.int .i64 0,.int .i64 0,.int .i64 0]).setCell ⟨w.heap.size+1+1,0,none⟩ (.int .i64 l1)).setCell ⟨w.heap.size+1+1,1,none⟩ (.int .i64 l2)).rangeAt (w.heap.size+1) 0 [.int .i64 0,.int .i64 0,.int .i64 0,.int .i64 0,.int .i64 0,.int .i64 0,.int .i64 0,.int .i64 0,.int .i64 0,.int .i64 0,.int .i64 0,.int .i64 0,.int .i64 0,.int .i64 0,.int .i64 0,.int .i64 0,.int .i64 0,.int .i64 0,.int .i64 0,.int .i64 0]:=by
   have h1:=World.rangeAt_setCells_same (w2.alloc (.cells #[.int .i64 l1,.int .i64 l2] 28)).drew (w.heap.size+1) 0 [.int .i64 0,.int .i64 0,.int .i64 0,.int .i64 0,.int .i64 0,.int .i64 0,.int .i64 0,.int .i64 0,.int .i64 0,.int .i64 0,.int .i64 0,.int .i64 0,.int .i64 0,.int .i64 0,.int .i64 0,.int .i64 0,.int .i64 0,.int .i64 0,.int .i64 0,.int .i64 0] (by rw [hlen];exact ht)
   intro j v hv;exact (World.cell?_of_block ((Below.heap_setCell _ _ _ _ (show w.heap.size+1≠w.heap.size+1+1 by omega)).trans (Below.heap_setCell _ _ _ _ (show w.heap.size+1≠w.heap.size+1+1 by omega)))).trans (h1 j v hv)
  clear k5 k34 k24 k44;have hu:Tryz.prog.underlying 66=some (.array 10 65):=Tryz.underlying66;have hi:(Tryz.prog.info? 66).map (·.size)=some 20:=info134;go_wp2_with fail;go_region_held3 (S10 w2.heap.size w2.heap.size (w.heap.size+1) [] l1 l2) (first | with_reducible exact hS0.drew_ | with_reducible exact hS1 | with_reducible exact hS2 | fail) (fail)
  clear hu hi hS0 hS1 hS2;go_wp2_with fail;obtain ⟨z2,z3⟩:=two_ k6;exact bodyPost_ret (parts_end (f:=fun _=>0) _ rfl rfl hr5 z2 z3) rfl ⟨hb5,fun _=>0,rfl,fun hh=>absurd hh HL.out⟩
end
end Go.Proofs.YtdebjkiilnhgpaaGreatDoor
