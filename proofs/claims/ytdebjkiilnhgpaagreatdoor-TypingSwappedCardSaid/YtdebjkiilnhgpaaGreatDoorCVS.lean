/- Walks: a module in new memory: the blocks of its instructions' arguments are told apart. -/
import Derived.Test.YtdebjkiilnhgpaaGreatDoorCUK
import Derived.Test.YtdebjkiilnhgpaaGreatDoorCUP
import Derived.Test.YtdebjkiilnhgpaaGreatDoorCVO
import Derived.Test.YtdebjkiilnhgpaaGreatDoorCVM
import Derived.Deep.DeepCutAuto
set_option maxRecDepth 100000
set_option maxHeartbeats 16000000
namespace Go.Proofs.YtdebjkiilnhgpaaGreatDoor
section
open Go.RowKit Go.WideShapes
def DisB (k:Nat) (l:List InstA) (B:Nat):Prop:=(∀ i j,i<j→j<k→(ig l i).2.1≠(ig l j).2.1)∧∀ j,j<k→∀ ad:Addr,(ig l j).2.1=some ad→ad.block<B
theorem DisB.set {k B B2 g:Nat} {l:List InstA} {x:InstA} (h:DisB k l B) (hl:k<l.length) (hx:x.2.1=some ⟨g,0,none⟩) (hg:B≤g) (hg2:g<B2) (hB:B≤B2):DisB (k+1) (l.set k x) B2:=by
 refine ⟨fun i j hij hj=>?_,fun j hj ad had=>?_⟩
 ·rcases Nat.lt_succ_iff_lt_or_eq.1 hj with h1 | rfl
  ·rw [ig_set_other (by omega),ig_set_other (by omega)]
   exact h.1 i j hij h1
  ·rw [ig_set_other (by omega),ig_set_same hl,hx]
   intro e;have:=h.2 i hij _ e;dsimp only at this;omega
 ·rcases Nat.lt_succ_iff_lt_or_eq.1 hj with h1 | rfl
  ·rw [ig_set_other (by omega)] at had
   exact Nat.lt_of_lt_of_le (h.2 j h1 ad had) hB
  ·rw [ig_set_same hl,hx] at had;cases had
   exact hg2
def ModIsD (gen bound:Int) (L:List InstI) (w:World) (e:Ending) (w':World):Prop:=∃ (g:Nat) (l:List InstA),e=.returned (.agg (modC gen bound (some ⟨g,0,none⟩) L.length L.length))∧ModS w' w'.heap.size (some ⟨g,0,none⟩) L.length l∧l.map (·.1)=L∧Below w.heap.size w w'∧OwnM w.heap.size w' g L.length l∧∀ i j,i<j→j<L.length→(ig l i).2.1≠(ig l j).2.1
theorem copyModule_dis (gen bound:Int) (A:Option Addr) (n c:Nat) (ls:List InstA) (w:World) (hM:ModS w w.heap.size A n ls) (hn:n≤3600000000000) :
  Calls Tryz.prog 8 #[.agg (modC gen bound A n c)] w (ModIsD gen bound (ls.map (·.1)) w):=by
 have hL:=hM.length;obtain ⟨L,hL0⟩:∃ L,L=ls.map (·.1):=⟨_,rfl⟩;rw [← hL0];have HL0:=Lib.hid hL0;clear hL0;unfold modC;have hb:=((Below.refl w.heap.size w).alloc (Nat.le_refl _) (.cells #[.int .u32 gen,.int .u32 bound,.slice A n c] 25)).alloc (by simp) (.cells #[.int .u32 0,.int .u32 0,.slice none 0 0] 25)
 have k1:=(Blk.new w 25 #[.int .u32 gen,.int .u32 bound,.slice A n c]).alloc (.cells #[.int .u32 0,.int .u32 0,.slice none 0 0] 25);have k2:=Blk.new (w.alloc (.cells #[.int .u32 gen,.int .u32 bound,.slice A n c] 25)) 25 #[.int .u32 0,.int .u32 0,.slice none 0 0];rw [World.size_alloc] at k2;have hsz:((w.alloc (.cells #[.int .u32 gen,.int .u32 bound,.slice A n c] 25)).alloc (.cells #[.int .u32 0,.int .u32 0,.slice none 0 0] 25)).heap.size=w.heap.size+1+1:=by simp
 go_enter Tryz.func8,Tryz.ntmps8;go_upto_region 1 with fail
 generalize ((w.alloc (.cells #[.int .u32 gen,.int .u32 bound,.slice A n c] 25)).alloc (.cells #[.int .u32 0,.int .u32 0,.slice none 0 0] 25))=W at *;obtain ⟨q0,q1,q2⟩:=three_ k1;go_wp2_with (at_make;refine mk_wides slInst W rfl _ _ rfl w.heap.size n rfl rfl rfl rfl (by omega) (by omega) (by omega) ?_;intro w1 hown hgr)
 have k1w:=k1.grown hgr (by simp)
 have k2w:=k2.grown hgr (by simp)
 have hbw:=hb.grown hgr (by omega) (fun j hj=>by cases hj)
 have hszw:=hgr.size;rw [hsz] at hszw;clear q0 q1 q2 k1 k2 hb;have HL:=Lib.hid hL;clear hL;go_loopg [4] n (fun q i wr=>∃ (k:Nat) (l':List InstA),k+q=n∧i=.int .i64 (k:Nat)∧l'.length=n∧Hid (∀ j,j<k→(ig l' j).1=(ig ls j).1∧(ig l' j).2.2.1=(ig ls j).2.2.1∧ArgO wr w.heap.size (ig l' j))∧Hid (DisB k l' wr.heap.size)∧wr.ownsRow w.heap.size 42 4 (.slice (some ⟨w.heap.size+1+1,0,none⟩) n n) n (Icells l')∧Blk wr w.heap.size 25 #[.int .u32 gen,.int .u32 bound,.slice A n c]∧Blk wr (w.heap.size+1) 25 #[.int .u32 0,.int .u32 0,.slice none 0 0]∧Below w.heap.size w wr∧w.heap.size+1+1<wr.heap.size)
 case atStart=>exact ⟨0,List.replicate n noI,by omega,rfl,by simp,Lib.hid (fun j hj=>absurd hj (Nat.not_lt_zero j)),Lib.hid ⟨fun _ _ _ h=>absurd h (Nat.not_lt_zero _),fun _ h=>absurd h (Nat.not_lt_zero _)⟩,by rw [Icells_made,← hsz];exact hown,k1w,k2w,hbw,by
  have:=(hown.lt W.heap.size (by simp [Value.ownBlock])).2
  omega⟩
 case round =>
  obtain ⟨k,l',hq,rfl,hl',HA,HD,ho,kr1,kr2,hbr,hwr⟩:=hrel;clear hown hgr k1w k2w hbw;obtain ⟨q0,q1,q2⟩:=three_ kr1
  by_cases hlt:k<n
  ·have hMr:=hM.keep hbr;obtain ⟨b,off,rfl,hbb,hcc⟩:=hMr.reads.insts (by omega)
   obtain ⟨c0,c1,c2,c3⟩:=hcc k hlt;have hls:ls.length=n:=by have:=HL.out;rwa [List.length_map] at this
   have hio:=(hMr.ok _ (ig_mem (l:=ls) (k:=k) (by omega))).more hbr.size
   have hci:=copyInst_any (ig ls k) wr hio;unfold InstIs instC at hci;have hlen:=(hMr.ok _ (ig_mem (l:=ls) (k:=k) (by omega))).len
   generalize hX:ig ls k=X at *;obtain ⟨⟨op,ty,res,l⟩,A',n',c'⟩:=X;dsimp only at c0 c1 c2 c3 hci hlen;have HX:=Lib.hid hX;have HM:=Lib.hid hMr;clear hcc hX hio hMr hM hls;go_wp2_with fail;refine hci.mono ?_;rintro e w2 ⟨g,rfl,hga,hb2⟩;have hb3:=below_cut hbr hb2 (Nat.le_refl _);have ho2:=own_below ho hb2;have kr1b:=kr1.step hb2;have kr2b:=kr2.step hb2;have hs2:=hb2.size;have HA1:Hid (∀ j,j<k→(ig l' j).1=(ig ls j).1∧(ig l' j).2.2.1=(ig ls j).2.2.1∧ArgO w2 w.heap.size (ig l' j)):=Lib.hid (fun j hj=>by
    obtain ⟨h1,h2,g',h3,h4⟩:=HA.out j hj;exact ⟨h1,h2,g',h3,own_below h4 hb2⟩)
   have hgl:=hga.lt g (by simp [Value.ownBlock])
   have HD1:Hid (DisB (k+1) (l'.set k ((op,ty,res,l),some ⟨g,0,none⟩,n',n')) w2.heap.size):=Lib.hid (HD.out.set (by omega) (x:=((op,ty,res,l),some ⟨g,0,none⟩,n',n')) rfl hgl.1 hgl.2 hs2)
   have hg9:=own_base hga (show w.heap.size≤wr.heap.size by omega)
   obtain ⟨y0,y1,y2,y3⟩:=Icells_at (l:=l') (k:=k) (by omega)
   have hs1:=own_cell ho2 y0;have ho3:=(ho2.stored (k*4) (.int .u16 op)).1;have hx1:((Icells l').set (k*4) (.int .u16 op))[k*4+1]?=some (.int .u32 (ig l' k).1.2.1):=by rw [List.getElem?_set_ne (by omega)];exact y1
   have hs3:=own_cell ho3 hx1;have ho4:=(ho3.stored (k*4+1) (.int .u32 ty)).1;have hx2:(((Icells l').set (k*4) (.int .u16 op)).set (k*4+1) (.int .u32 ty))[k*4+2]?=some (.int .u32 (ig l' k).1.2.2.1):=by rw [List.getElem?_set_ne (by omega),List.getElem?_set_ne (by omega)];exact y2
   have hs4:=own_cell ho4 hx2;have ho5:=(ho4.stored (k*4+2) (.int .u32 res)).1;have hx3:((((Icells l').set (k*4) (.int .u16 op)).set (k*4+1) (.int .u32 ty)).set (k*4+2) (.int .u32 res))[k*4+3]?=some (.slice (ig l' k).2.1 (ig l' k).2.2.1 (ig l' k).2.2.2):=by rw [List.getElem?_set_ne (by omega),List.getElem?_set_ne (by omega),List.getElem?_set_ne (by omega)];exact y3
   have hs5:=own_cell ho5 hx3;have ho6:=(ho5.stored (k*4+3) (.slice (some ⟨g,0,none⟩) n' n')).1;have e6:=Icells_set (l:=l') (k:=k) (x:=((op,ty,res,l),some ⟨g,0,none⟩,n',n')) (by omega)
   dsimp only at e6;rw [← e6] at ho6;have hne:∀ {y:InstA},ArgO w2 w.heap.size y→ArgO ((((w2.setCell ⟨w.heap.size+1+1,k*4,none⟩ (.int .u16 op)).setCell ⟨w.heap.size+1+1,k*4+1,none⟩ (.int .u32 ty)).setCell ⟨w.heap.size+1+1,k*4+2,none⟩ (.int .u32 res)).setCell ⟨w.heap.size+1+1,k*4+3,none⟩ (.slice (some ⟨g,0,none⟩) n' n')) w.heap.size y:=fun {y} hy=>by
    obtain ⟨g',h1,h2⟩:=hy;have hn2:=own_apart ho2 h2 (by decide) (w.heap.size+1+1) (by simp [Value.ownBlock])
    exact ⟨g',h1,own_set_other (p:=⟨w.heap.size+1+1,k*4+3,none⟩) (own_set_other (p:=⟨w.heap.size+1+1,k*4+2,none⟩) (own_set_other (p:=⟨w.heap.size+1+1,k*4+1,none⟩) (own_set_other (p:=⟨w.heap.size+1+1,k*4,none⟩) h2 hn2 _) hn2 _) hn2 _) hn2 _⟩
   have hnew:ArgO w2 w.heap.size ((op,ty,res,l),some ⟨g,0,none⟩,n',n'):=⟨g,rfl,hg9⟩;have HA2:Hid (∀ j,j<k+1→(ig (l'.set k ((op,ty,res,l),some ⟨g,0,none⟩,n',n')) j).1=(ig ls j).1∧(ig (l'.set k ((op,ty,res,l),some ⟨g,0,none⟩,n',n')) j).2.2.1=(ig ls j).2.2.1∧ArgO ((((w2.setCell ⟨w.heap.size+1+1,k*4,none⟩ (.int .u16 op)).setCell ⟨w.heap.size+1+1,k*4+1,none⟩ (.int .u32 ty)).setCell ⟨w.heap.size+1+1,k*4+2,none⟩ (.int .u32 res)).setCell ⟨w.heap.size+1+1,k*4+3,none⟩ (.slice (some ⟨g,0,none⟩) n' n')) w.heap.size (ig (l'.set k ((op,ty,res,l),some ⟨g,0,none⟩,n',n')) j)):=Lib.hid (fun j hj=>by
    rcases Nat.lt_succ_iff_lt_or_eq.1 hj with h | rfl
    ·rw [ig_set_other (by omega)]
     obtain ⟨h1,h2,h3⟩:=HA1.out j h;exact ⟨h1,h2,hne h3⟩
    ·rw [ig_set_same (by omega),HX.out]
     exact ⟨rfl,rfl,hne hnew⟩)
   have hfar:∀ {q:Nat} {t:TypeId} {cs:Array Value},Blk w2 q t cs→q≠w.heap.size+1+1→Blk ((((w2.setCell ⟨w.heap.size+1+1,k*4,none⟩ (.int .u16 op)).setCell ⟨w.heap.size+1+1,k*4+1,none⟩ (.int .u32 ty)).setCell ⟨w.heap.size+1+1,k*4+2,none⟩ (.int .u32 res)).setCell ⟨w.heap.size+1+1,k*4+3,none⟩ (.slice (some ⟨g,0,none⟩) n' n')) q t cs:=fun hq hne =>
    (((hq.far (p:=⟨w.heap.size+1+1,k*4,none⟩) hne _).far (p:=⟨w.heap.size+1+1,k*4+1,none⟩) hne _).far (p:=⟨w.heap.size+1+1,k*4+2,none⟩) hne _).far (p:=⟨w.heap.size+1+1,k*4+3,none⟩) hne _
   have kr1c:=hfar kr1b (by omega)
   have kr2c:=hfar kr2b (by omega)
   have hb4:=(((hb3.setCell (p:=⟨w.heap.size+1+1,k*4,none⟩) (by show w.heap.size≤w.heap.size+1+1;omega) (.int .u16 op)).setCell (p:=⟨w.heap.size+1+1,k*4+1,none⟩) (by show w.heap.size≤w.heap.size+1+1;omega) (.int .u32 ty)).setCell (p:=⟨w.heap.size+1+1,k*4+2,none⟩) (by show w.heap.size≤w.heap.size+1+1;omega) (.int .u32 res)).setCell (p:=⟨w.heap.size+1+1,k*4+3,none⟩) (by show w.heap.size≤w.heap.size+1+1;omega) (.slice (some ⟨g,0,none⟩) n' n')
   have hll:(l'.set k ((op,ty,res,l),some ⟨g,0,none⟩,n',n')).length=n:=by rw [List.length_set];exact hl'
   generalize l'.set k ((op,ty,res,l),some ⟨g,0,none⟩,n',n')=l2 at *;generalize ig l' k=x' at *;obtain ⟨⟨o1,o2,o3,o4⟩,o5,o6,o7⟩:=x';dsimp only at hs1 hs3 hs4 hs5;obtain ⟨s1,f1⟩:=hs1;obtain ⟨s2,f2⟩:=hs3;obtain ⟨s3,f3⟩:=hs4;obtain ⟨s4,f4⟩:=hs5;have HO:=Lib.hid ho6;have HLL:=Lib.hid hll;clear q0 q1 q2 c0 c1 c2 c3 ho ho2 ho3 ho4 ho5 ho6 hx1 hx2 hx3 y0 y1 y2 y3 e6 hll hl' HA HA1 HD hgl hci hga hg9 hnew hne hfar kr1b kr2b;obtain ⟨q0,q1,q2⟩:=three_ kr1c;go_wp2_with fail;go_roundg (n-(k+1))
   case measure=>omega
   case rel=>exact ⟨k+1,l2,by omega,by go_num,HLL.out,HA2,Lib.hid (by simpa using HD1.out),HO.out,kr1c,kr2c,hb4,by simp;omega⟩
  ·obtain rfl:gk=0:=by omega
   obtain rfl:k=n:=by omega
   have hls:ls.length=k:=by have:=HL.out;rwa [List.length_map] at this
   have hmap:l'.map (·.1)=ls.map (·.1):=by
    refine List.ext_getElem (by simp;omega) fun j hj hj'=>?_
    rw [List.length_map] at hj;have:=(HA.out j (by omega)).1
    rw [ig_of hj,ig_of (by omega)] at this
    simpa using this
   have hLL:=HL0.out;rw [← hLL] at hmap;have hlen2:L.length=k:=by rw [hLL,List.length_map];exact hls
   have HA3:Hid (∀ x∈l',ArgO wr w.heap.size x∧Under 256 (kinds x.1.2.2.2)∧(∀ a∈x.1.2.2.2,a.2.2.size≤140737488351232)∧x.2.2.1≤6000000000000):=Lib.hid (fun x hx=>by
    obtain ⟨j,hj,rfl⟩:=List.getElem_of_mem hx;obtain ⟨h1,h2,h3⟩:=HA.out j (by omega)
    rw [ig_of hj] at h1 h2 h3;have hio:=hM.ok _ (ig_mem (l:=ls) (k:=j) (by omega))
    exact ⟨h3,by rw [h1];exact hio.kinds,by rw [h1];exact hio.text,by rw [h2];exact hio.len⟩)
   have ho1:=own_set_other (p:=⟨w.heap.size,2,none⟩) ho (by simp [Value.ownBlock];omega) (.slice (some ⟨w.heap.size+1+1,0,none⟩) k k)
   have fz1:=kr1.frozen 2;have kr3:Blk (wr.setCell ⟨w.heap.size,2,none⟩ (.slice (some ⟨w.heap.size+1+1,0,none⟩) k k)) w.heap.size 25 #[.int .u32 gen,.int .u32 bound,.slice (some ⟨w.heap.size+1+1,0,none⟩) k k]:=by simpa using kr1.set_ 2 (.slice (some ⟨w.heap.size+1+1,0,none⟩) k k)
   have kr4:=kr2.far (p:=⟨w.heap.size,2,none⟩) (by show w.heap.size+1≠w.heap.size;omega) (.slice (some ⟨w.heap.size+1+1,0,none⟩) k k)
   have hne:∀ {y:InstA},ArgO wr w.heap.size y→ArgO ((((wr.setCell ⟨w.heap.size,2,none⟩ (.slice (some ⟨w.heap.size+1+1,0,none⟩) k k)).setCell ⟨w.heap.size+1,0,none⟩ (.int .u32 gen)).setCell ⟨w.heap.size+1,1,none⟩ (.int .u32 bound)).setCell ⟨w.heap.size+1,2,none⟩ (.slice (some ⟨w.heap.size+1+1,0,none⟩) k k)) w.heap.size y:=fun {y} hy=>by
    obtain ⟨g',h1,h2⟩:=hy;have hn1:=own_blk_ne h2 kr1 (by decide)
    have hn2:=own_blk_ne h2 kr2 (by decide)
    exact ⟨g',h1,own_set_other (p:=⟨w.heap.size+1,2,none⟩) (own_set_other (p:=⟨w.heap.size+1,1,none⟩) (own_set_other (p:=⟨w.heap.size+1,0,none⟩) (own_set_other (p:=⟨w.heap.size,2,none⟩) h2 hn1 _) hn2 _) hn2 _) hn2 _⟩
   have ne1:(Value.slice (some ⟨w.heap.size+1+1,0,none⟩) k k).ownBlock≠some (w.heap.size+1):=by simp [Value.ownBlock]
   have HF:Hid (ModIsD gen bound L w (.returned (.agg (modC gen bound (some ⟨w.heap.size+1+1,0,none⟩) k k))) ((((wr.setCell ⟨w.heap.size,2,none⟩ (.slice (some ⟨w.heap.size+1+1,0,none⟩) k k)).setCell ⟨w.heap.size+1,0,none⟩ (.int .u32 gen)).setCell ⟨w.heap.size+1,1,none⟩ (.int .u32 bound)).setCell ⟨w.heap.size+1,2,none⟩ (.slice (some ⟨w.heap.size+1+1,0,none⟩) k k))):=Lib.hid (by
    have hO:OwnM w.heap.size ((((wr.setCell ⟨w.heap.size,2,none⟩ (.slice (some ⟨w.heap.size+1+1,0,none⟩) k k)).setCell ⟨w.heap.size+1,0,none⟩ (.int .u32 gen)).setCell ⟨w.heap.size+1,1,none⟩ (.int .u32 bound)).setCell ⟨w.heap.size+1,2,none⟩ (.slice (some ⟨w.heap.size+1+1,0,none⟩) k k)) (w.heap.size+1+1) k l':=⟨own_set_other (p:=⟨w.heap.size+1,2,none⟩) (own_set_other (p:=⟨w.heap.size+1,1,none⟩) (own_set_other (p:=⟨w.heap.size+1,0,none⟩) ho1 ne1 _) ne1 _) ne1 _,fun x hx=>hne (HA3.out x hx).1⟩
    refine ⟨w.heap.size+1+1,l',by rw [hlen2],?_,hmap,(((hbr.setCell (p:=⟨w.heap.size,2,none⟩) (Nat.le_refl _) _).setCell (p:=⟨w.heap.size+1,0,none⟩) (Nat.le_succ _) _).setCell (p:=⟨w.heap.size+1,1,none⟩) (Nat.le_succ _) _).setCell (p:=⟨w.heap.size+1,2,none⟩) (Nat.le_succ _) _,by rw [hlen2];exact hO,fun i j h1 h2=>HD.out.1 i j h1 (by omega)⟩
    rw [hlen2];refine ⟨by omega,Reads.of_own (own_set_other (p:=⟨w.heap.size+1,2,none⟩) (own_set_other (p:=⟨w.heap.size+1,1,none⟩) (own_set_other (p:=⟨w.heap.size+1,0,none⟩) ho1 ne1 _) ne1 _) ne1 _),fun x hx=>?_⟩
    obtain ⟨h1,h2,h3,h4⟩:=HA3.out x hx;exact (hne h1).ok h2 h3 h4)
   obtain ⟨p0,p1,p2⟩:=three_ kr3;obtain ⟨r0,r1,r2⟩:=three_ kr4;have fr:=kr4.frozen;clear ho ho1 hne HA HA3 hM hlen2 hmap hLL hls HL;go_wp2_with fail;exact bodyPost_ret (mod_end rfl _ rfl (by simpa using ((kr4.set_ 0 (.int .u32 gen)).set_ 1 (.int .u32 bound)).set_ 2 (.slice (some ⟨w.heap.size+1+1,0,none⟩) k k))) rfl HF.out
end
section
theorem Icells_set_args:∀ {l:List InstA} {k:Nat} {al:List ArgI},k<l.length→Icells (l.set k (((ig l k).1.1,(ig l k).1.2.1,(ig l k).1.2.2.1,al),(ig l k).2.1,(ig l k).2.2.1,(ig l k).2.2.2))=Icells l
 | y :: r,0,al,_=>rfl
 | y :: r,k+1,al,h=>by
  have h1:=Icells_set_args (l:=r) (k:=k) (al:=al) (by simpa using h)
  have e:ig (y :: r) (k+1)=ig r k:=rfl;rw [e,List.set_cons_succ]
  show _ :: _ :: _ :: _ :: Icells _=_ :: _ :: _ :: _ :: Icells _
  rw [h1]
theorem mod_set {W:World} {B g g' n k j m:Nat} {l:List InstA} {op ty res y:Int} {al:List ArgI} (hM:ModS W W.heap.size (some ⟨g,0,none⟩) n l) (ho:OwnM B W g n l) (hd:∀ i j,i<j→j<n→(ig l i).2.1≠(ig l j).2.1) (hk:k<n)
  (hx:ig l k=((op,ty,res,al),some ⟨g',0,none⟩,m,m)) (hj:j<al.length) :
  ModS (W.setCell ⟨g',j*3+1,none⟩ (.int .u32 y)) W.heap.size (some ⟨g,0,none⟩) n (l.set k ((op,ty,res,al.set j ((ag al j).1,y,(ag al j).2.2)),some ⟨g',0,none⟩,m,m))∧B≤g'∧W.cell? ⟨g',j*3+1,none⟩=some (.int .u32 (ag al j).2.1)∧W.frozen? ⟨g',j*3+1,none⟩=false:=by
 have hl:l.length=n:=hM.reads.insts_len;have hmem:=ig_mem (l:=l) (k:=k) (by omega)
 rw [hx] at hmem;obtain ⟨g0,e0,hO⟩:=ho.2 _ hmem;dsimp only at e0 hO;injection e0 with e0 _
 injection e0 with e0
 injection e0 with e0
 subst e0;obtain ⟨-,c1,-⟩:=Acells_at hj;obtain ⟨hc,hf⟩:=own_cell hO c1;have hlt:=hO.lt g' (by simp [Value.ownBlock])
 have hne:(Value.slice (some ⟨g,0,none⟩) n n).ownBlock≠some g':=own_apart hO ho.1 (by decide) g' (by simp [Value.ownBlock])
 have hI:=own_set_other (p:=⟨g',j*3+1,none⟩) ho.1 hne (.int .u32 y);have hN:=(hO.stored (j*3+1) (.int .u32 y)).1;rw [← Acells_set_id hj] at hN;have hs:(W.setCell ⟨g',j*3+1,none⟩ (.int .u32 y)).heap.size=W.heap.size:=by simp
 have hio:=hM.ok _ hmem;refine ⟨⟨hM.len,?_,fun x hxm=>?_⟩,hlt.1,hc,hf⟩
 ·have e9:=Icells_set_args (l:=l) (k:=k) (al:=al.set j ((ag al j).1,y,(ag al j).2.2)) (by omega)
  rw [hx] at e9;rw [e9,← hs];exact Reads.of_own hI
 ·rw [← hs];obtain ⟨i,hi,rfl⟩:=List.getElem_of_mem hxm;rw [List.length_set] at hi;rw [List.getElem_set]
  by_cases hik:k=i
  ·rw [if_pos hik];refine ArgO.ok (B:=B) ⟨g',rfl,hN⟩ ?_ ?_ hio.len
   ·have h1:=hio.kinds;rw [show kinds (al.set j ((ag al j).1,y,(ag al j).2.2))=kinds al from map_set_same _ hj (by rw [ag_of hj])]
    exact h1
   ·intro a ha
    rcases List.mem_or_eq_of_mem_set ha with ha | rfl
    ·exact hio.text a ha
    ·exact hio.text (ag al j) (ag_mem hj)
  ·rw [if_neg hik];have hmi:=List.getElem_mem (l:=l) hi;have hii:=hM.ok _ hmi;obtain ⟨g2,e2,hO2⟩:=ho.2 _ hmi;refine ArgO.ok (B:=B) ⟨g2,e2,own_set_other (p:=⟨g',j*3+1,none⟩) hO2 ?_ _⟩ hii.kinds hii.text hii.len;have h2:(ig l i).2.1=some ⟨g2,0,none⟩:=by rw [ig_of hi,e2]
   have h3:(ig l k).2.1=some ⟨g',0,none⟩:=by rw [hx]
   have h4:(ig l i).2.1≠(ig l k).2.1:=by
    rcases Nat.lt_or_gt_of_ne hik with h | h
    ·exact (hd k i h (by omega)).symm
    ·exact hd i k h hk
   rw [h2,h3] at h4;intro e;have e:g2=g':=by simpa [Value.ownBlock] using e
   exact h4 (by rw [e])
end
section
open Go.RowKit
def StillB (b:Bool) (w:World) (e:Ending) (w':World):Prop:=e=.returned (.bool b)∧w'=w
theorem swaps_any (op:Int) (w:World):Calls Tryz.prog 12 #[.int .u16 op] w (StillB (swapB op) w):=by
 obtain ⟨v,hv⟩:∃ v,swapB op=v:=⟨_,rfl⟩;rw [hv];have hv':=hv;unfold swapB at hv
 by_cases h0:124≤op∧op≤205
 ·have d1:decide (op≥124)=true:=decide_eq_true h0.1;have d2:decide (124≤op)=true:=decide_eq_true h0.1;have d3:decide (op≤205)=true:=decide_eq_true h0.2;obtain rfl:v=true:=by rw [← hv,d2,d3];rfl
  clear hv hv' h0;go_enter Tryz.func12,Tryz.ntmps12;go_wp2_with fail;go_ret
  exact ⟨rfl,rfl⟩
 ·by_cases h1:op=83∨op=80∨op=78∨op=77∨op=61∨op=62∨op=254
  ·rcases h1 with rfl | rfl | rfl | rfl | rfl | rfl | rfl <;> (
    obtain rfl:v=true:=by rw [← hv];rfl
    clear hv hv' h0;go_enter Tryz.func12,Tryz.ntmps12;go_wp2_with fail;go_ret
    exact ⟨rfl,rfl⟩)
  ·obtain rfl:v=false:=by
    cases v with
    | false=>rfl
    | true =>
     have:=swap_op hv';omega
   have f1:(op==83)=false:=by rw [beq_eq_false_iff_ne];omega
   have f2:(op==80)=false:=by rw [beq_eq_false_iff_ne];omega
   have f3:(op==78)=false:=by rw [beq_eq_false_iff_ne];omega
   have f4:(op==77)=false:=by rw [beq_eq_false_iff_ne];omega
   have f5:(op==61)=false:=by rw [beq_eq_false_iff_ne];omega
   have f6:(op==62)=false:=by rw [beq_eq_false_iff_ne];omega
   have f7:(op==254)=false:=by rw [beq_eq_false_iff_ne];omega
   by_cases h2:124≤op
   ·have d1:decide (op≥124)=true:=decide_eq_true h2;have d2:decide (124≤op)=true:=decide_eq_true h2;have d3:decide (op≤205)=false:=decide_eq_false (fun h=>h0 ⟨h2,h⟩)
    clear hv hv' h0 h1 h2;go_enter Tryz.func12,Tryz.ntmps12;go_wp2_with fail;go_ret
    exact ⟨rfl,rfl⟩
   ·have d1:decide (op≥124)=false:=decide_eq_false h2;have d2:decide (124≤op)=false:=decide_eq_false h2;clear hv hv' h0 h1 h2;go_enter Tryz.func12,Tryz.ntmps12;go_wp2_with fail;go_ret
    exact ⟨rfl,rfl⟩
theorem modT_set {WB W:World} {g n k j:Nat} {l:List InstA} {L:List InstI} {op ty res y:Int} {al:List ArgI} (hM:ModS W W.heap.size (some ⟨g,0,none⟩) n l) (hmp:l.map (·.1)=L) (ho:OwnM WB.heap.size W g n l) (hd:∀ i j,i<j→j<n→(ig l i).2.1≠(ig l j).2.1) (hk:k<n)
  (hL:L[k]?=some (op,ty,res,al)) (hj:j<al.length) (hu:∀ i∈L,∀ a∈i.2.2.2,0≤a.2.1∧a.2.1<4294967296) (hop:∀ i∈L,0≤i.1∧i.1<65536) (hP:Pow WB) (hb:Below WB.heap.size WB W) (hy:0≤y∧y<4294967296) :
  ∃ (g':Nat) (l2:List InstA),WB.heap.size≤g'∧g'<W.heap.size∧W.cell? ⟨g,k*4+3,none⟩=some (.slice (some ⟨g',0,none⟩) al.length al.length)∧W.cell? ⟨g',j*3+1,none⟩=some (.int .u32 (ag al j).2.1)∧W.frozen? ⟨g',j*3+1,none⟩=false∧(∀ (q:Nat) (cs:Array Value),Blk W q 25 cs→q≠g') ∧
   ModT (W.setCell ⟨g',j*3+1,none⟩ (.int .u32 y)) (some ⟨g,0,none⟩) n n l2 (L.set k (op,ty,res,al.set j ((ag al j).1,y,(ag al j).2.2))):=by
 have hl:l.length=n:=hM.reads.insts_len;have hmem:=ig_mem (l:=l) (k:=k) (by omega)
 obtain ⟨g',e0,hO⟩:=ho.2 _ hmem;have h1:(ig l k).1=(op,ty,res,al):=by
  rw [← hmp,ig_map (by omega)] at hL
  injection hL
 obtain ⟨m,hm⟩:∃ m,(ig l k).2.2.1=m:=⟨_,rfl⟩;rw [hm] at e0 hO;have hx:ig l k=((op,ty,res,al),some ⟨g',0,none⟩,m,m):=Prod.ext h1 e0;have hml:m=al.length:=by
  have h9:=hO.1;rw [h1,Acells_length] at h9;dsimp only at h9;omega
 subst hml;obtain ⟨-,-,-,c3⟩:=Icells_at (l:=l) (k:=k) (by omega)
 rw [hx] at c3;obtain ⟨q1,q2,q3,q4⟩:=mod_set (y:=y) hM ho hd hk hx hj;have hs:(W.setCell ⟨g',j*3+1,none⟩ (.int .u32 y)).heap.size=W.heap.size:=by simp
 refine ⟨g',_,q2,(hO.lt g' (by simp [Value.ownBlock])).2,(own_cell ho.1 c3).1,q3,q4,fun q cs hq e=>own_blk_ne hO hq (by decide) (by rw [e];simp [Value.ownBlock]),⟨by rw [hs];exact q1,?_,Nat.le_refl _,fun x hx9=>?_,fun i hi a ha=>?_,fun i hi=>?_,hP.step (hb.setCell (p:=⟨g',j*3+1,none⟩) q2 _)⟩⟩
 ·rw [List.map_set,hmp]
 ·rcases List.mem_or_eq_of_mem_set hx9 with h9 | rfl
  ·obtain ⟨g2,e2,-⟩:=ho.2 _ h9;rw [e2];exact Nat.le_refl _
  ·exact Nat.le_refl _
 ·rcases List.mem_or_eq_of_mem_set hi with h9 | rfl
  ·exact hu i h9 a ha
  ·rcases List.mem_or_eq_of_mem_set ha with h8 | rfl
   ·exact hu _ (List.mem_of_getElem? hL) a h8
   ·exact hy
 ·rcases List.mem_or_eq_of_mem_set hi with h9 | rfl
  ·exact hop i h9
  ·exact hop (op,ty,res,al) (List.mem_of_getElem? hL)
theorem typM_ok {bound:Int} {L:List InstI} {id s1 s3:Int} (h:typM bound L id=(s1,0,s3)):(conM bound L).1=0∧id≠0∧id<bound∧ofT (makL L) id≠0∧ofT (makL L) id=s1:=by
 unfold typM at h
 by_cases h0:(conM bound L).1=0
 ·rw [if_neg (fun hc=>hc h0)] at h
  by_cases h1:id=0∨bound≤id
  ·rw [if_pos h1] at h;cases h
  ·rw [if_neg h1] at h
   by_cases h2:ofT (makL L) id=0
   ·rw [if_pos h2] at h;cases h
   ·rw [if_neg h2] at h;injection h with h _
    exact ⟨h0,by omega,by omega,h2,h⟩
 ·rw [if_pos h0] at h;injection h with _ h
  injection h with h _
  exact absurd h h0
theorem Cx.boxS {w W:World} {l:List (Addr × Value)} (h:Cx w l W) (a b:Value):Blk (W.alloc (.cells #[a,b] 28)) W.heap.size 28 #[a,b]∧w.heap.size≤W.heap.size∧Cx w l (W.alloc (.cells #[a,b] 28)):=⟨Blk.new W 28 #[a,b],h.2.size,h.call ((Below.refl _ _).alloc (Nat.le_refl _) _)⟩
theorem OwnM.step {B g n:Nat} {W W':World} {l:List InstA} (h:OwnM B W g n l) (hb:Below W.heap.size W W'):OwnM B W' g n l:=⟨own_below h.1 hb,fun x hx=>by
 obtain ⟨g',e,ho⟩:=h.2 x hx;exact ⟨g',e,own_below ho hb⟩⟩
end
section
open Go.RowKit
theorem law_swapped (gen bound:Int) (A:Option Addr) (n c:Nat) (ls:List InstA) (at_ arg id:Int) (w:World) (hM:ModS w w.heap.size A n ls) (hn:n≤3600000000000) (hP:Pow w)
  (hN:∀ x∈ls,(∀ a∈x.1.2.2.2,0≤a.2.1∧a.2.1<4294967296)∧(0≤x.1.1∧x.1.1<65536)) (hid:0≤id∧id<4294967296) :
  Calls Tryz.prog 4 #[.agg (modC gen bound A n c),.int .i64 at_,.int .i64 arg,.int .u32 id] w (BoolIs true w):=by
 obtain ⟨L,hL⟩:∃ L,ls.map (·.1)=L:=⟨_,rfl⟩;have hlL:L.length=n:=by rw [← hL];exact hM.length
 have hls:ls.length=n:=hM.reads.insts_len;have hu:∀ i∈L,∀ a∈i.2.2.2,0≤a.2.1∧a.2.1<4294967296:=fun i hi=>by
  rw [← hL] at hi;obtain ⟨x,hx,rfl⟩:=List.mem_map.1 hi;exact (hN x hx).1
 have hop:∀ i∈L,0≤i.1∧i.1<65536:=fun i hi=>by
  rw [← hL] at hi;obtain ⟨x,hx,rfl⟩:=List.mem_map.1 hi;exact (hN x hx).2
 have hcp:=fun (w':World) (hb:Below w.heap.size w w')=>cop_any gen bound A n c ls L w' (hM.step hb) hL hn hu hop (hP.step hb)
 have hcd:=fun (w':World) (hb:Below w.heap.size w w')=>copyModule_dis gen bound A n c ls w' (hM.step hb) hn
 have hb1:=(Below.refl w.heap.size w).alloc (Nat.le_refl _) (.cells (modC gen bound A n c) 25);have k1:=Blk.new w 25 (modC gen bound A n c);have HU:=Lib.hid (And.intro hu hop);have HID:=Lib.hid hid;rw [hL] at hcd;unfold ModIsD at hcd;rw [hlL] at hcd;have HCD:=Lib.hid hcd;clear hN hu hop hid hcd;unfold modC CopIs at *;obtain ⟨z0,z1,z2⟩:=three_ k1
 by_cases hneg:at_<0
 ·have d1:decide (at_<0)=true:=decide_eq_true hneg;clear hneg hcp;go_enter Tryz.func4,Tryz.ntmps4;go_wp2_with fail;refine (awake18_any _ (hP.step hb1)).mono ?_;rintro e w99 ⟨rfl,hb99⟩;go_wp2_with fail;go_ret
  exact ⟨rfl,below_cut hb1 hb99 (Nat.le_refl _)⟩
 have d1:decide (at_<0)=false:=decide_eq_false hneg
 by_cases hbig:((n:Nat):Int)≤at_
 ·have d2:decide (at_≥((n:Nat):Int))=true:=decide_eq_true hbig;have d3:decide (((n:Nat):Int)≤at_)=true:=decide_eq_true hbig;clear hneg hbig hcp;go_enter Tryz.func4,Tryz.ntmps4;go_wp2_with fail;refine (awake18_any _ (hP.step hb1)).mono ?_;rintro e w99 ⟨rfl,hb99⟩;go_wp2_with fail;go_ret
  exact ⟨rfl,below_cut hb1 hb99 (Nat.le_refl _)⟩
 have hkn:=hbig;obtain ⟨k,rfl⟩:∃ k:Nat,at_=(k:Nat):=⟨at_.toNat,by omega⟩
 have d2:decide (((k:Nat):Int)≥((n:Nat):Int))=false:=decide_eq_false hbig;have d3:decide (((n:Nat):Int)≤((k:Nat):Int))=false:=decide_eq_false hbig;have hk:k<n:=by omega
 have hk1:((k:Nat):Int)<(n:Nat):=by omega
 have hmem:=ig_mem (l:=ls) (k:=k) (by omega)
 have hLk:L[k]?=some (ig ls k).1:=by rw [← hL];exact ig_map (by omega)
 obtain ⟨ib,io,rfl,hib,hcc⟩:=hM.reads.insts (by omega)
 obtain ⟨c0,c1,c2,c3⟩:=hcc k hk;have hrd:=(hM.ok _ hmem).reads;have HL:=Lib.hid (And.intro hL hlL);have HM:=Lib.hid hM;clear hcc hmem hneg hbig hkn hL hlL hM;generalize ig ls k=x at *;obtain ⟨⟨op,ty,res,al⟩,A9,n9,c9⟩:=x;dsimp only at c0 c1 c2 c3 hrd hLk;have hal:=hrd.args_len;have hsw:=fun w'=>swaps_any op w'
 unfold StillB at hsw;have e0:=fun o=>cell_alloc_c o c0
 have e1:=fun o=>cell_alloc_c o c1
 have e2:=fun o=>cell_alloc_c o c2
 have e3:=fun o=>cell_alloc_c o c3
 have HLK:=Lib.hid hLk;have HAL:=Lib.hid (And.intro hrd hal);clear hLk hrd hal;cases hsb:swapB op with
 | false =>
  rw [hsb] at hsw;clear hcp hsb;go_enter Tryz.func4,Tryz.ntmps4;go_wp2_with fail;refine (hsw _).mono ?_;rintro e w2 ⟨rfl,rfl⟩;go_wp2_with fail;refine (awake18_any _ (hP.step hb1)).mono ?_;rintro e w99 ⟨rfl,hb99⟩;go_wp2_with fail;go_ret
  exact ⟨rfl,below_cut hb1 hb99 (Nat.le_refl _)⟩
 | true =>
  have HSB:=Lib.hid hsb;rw [hsb] at hsw;clear hsb;have hb2:=hb1.alloc hb1.size (.cells #[.int .u16 op,.int .u32 ty,.int .u32 res,.slice A9 n9 c9] 42)
  by_cases hneg:arg<0
  ·have d4:decide (arg<0)=true:=decide_eq_true hneg;clear hneg hcp;go_enter Tryz.func4,Tryz.ntmps4;go_wp2_with fail;refine (hsw _).mono ?_;rintro e w2 ⟨rfl,rfl⟩;go_wp2_with fail;refine (awake18_any _ (hP.step hb2)).mono ?_;rintro e w99 ⟨rfl,hb99⟩;go_wp2_with fail;go_ret
   exact ⟨rfl,below_cut hb2 hb99 (Nat.le_refl _)⟩
  have d4:decide (arg<0)=false:=decide_eq_false hneg
  by_cases hbig:((n9:Nat):Int)≤arg
  ·have d5:decide (arg≥((n9:Nat):Int))=true:=decide_eq_true hbig;have d6:decide (((n9:Nat):Int)≤arg)=true:=decide_eq_true hbig;clear hneg hbig hcp;go_enter Tryz.func4,Tryz.ntmps4;go_wp2_with fail;refine (hsw _).mono ?_;rintro e w2 ⟨rfl,rfl⟩;go_wp2_with fail;refine (awake18_any _ (hP.step hb2)).mono ?_;rintro e w99 ⟨rfl,hb99⟩;go_wp2_with fail;go_ret
   exact ⟨rfl,below_cut hb2 hb99 (Nat.le_refl _)⟩
  obtain ⟨j,rfl⟩:∃ j:Nat,arg=(j:Nat):=⟨arg.toNat,by omega⟩
  have d5:decide (((j:Nat):Int)≥((n9:Nat):Int))=false:=decide_eq_false hbig;have d6:decide (((n9:Nat):Int)≤((j:Nat):Int))=false:=decide_eq_false hbig;have hj:j<n9:=by omega
  have hj1:((j:Nat):Int)<(n9:Nat):=by omega
  have hal:=HAL.out.2;have hJ:j<al.length:=by omega
  obtain ⟨ab,ao,rfl,hab,hac⟩:=HAL.out.1.args (by omega)
  obtain ⟨a0,a1,-⟩:=hac j hj;clear hneg hbig hac;have f0:=fun o o'=>cell_alloc_c o' (cell_alloc_c o a0)
  have f1:=fun o o'=>cell_alloc_c o' (cell_alloc_c o a1)
  have HJ:=Lib.hid (And.intro hJ hal);clear hal hJ
  by_cases hK:(ag al j).1=1
  ·have HK1:=Lib.hid hK;have dk:((ag al j).1 != 1)=false:=by simp [hK]
   obtain ⟨ya,hya⟩:∃ ya,(ag al j).2.1=ya:=⟨_,rfl⟩;obtain ⟨yk,hyk⟩:∃ yk,(ag al j).1=yk:=⟨_,rfl⟩;have HYA:=Lib.hid hya;obtain ⟨⟨s1,s2,s3⟩,hty0⟩:∃ s,typM bound L ya=s:=⟨_,rfl⟩;obtain ⟨⟨t1,t2,t3⟩,htz0⟩:∃ s,typM bound L id=s:=⟨_,rfl⟩;have hty:=fun (g:Nat) (l:List InstA) (w':World) (hT:ModT w' (some ⟨g,0,none⟩) n n l L)=>typM_any gen bound (some ⟨g,0,none⟩) n n l L ya w' hT
   have htz:=fun (g:Nat) (l:List InstA) (w':World) (hT:ModT w' (some ⟨g,0,none⟩) n n l L)=>typM_any gen bound (some ⟨g,0,none⟩) n n l L id w' hT
   unfold TypIs modC at hty htz;rw [hty0] at hty;rw [htz0] at htz;have HTY:=Lib.hid (And.intro hty0 htz0);rw [hya] at a1;simp only [hya] at f1;rw [hyk] at a0 dk hK;simp only [hyk] at f0;have kM:=(Blk.new w 25 #[.int .u32 gen,.int .u32 bound,.slice (some ⟨ib,io,none⟩) n c]).alloc (.cells #[.int .u16 op,.int .u32 ty,.int .u32 res,.slice (some ⟨ab,ao,none⟩) n9 c9] 42);have kI:=Blk.new (w.alloc (.cells #[.int .u32 gen,.int .u32 bound,.slice (some ⟨ib,io,none⟩) n c] 25)) 42 #[.int .u16 op,.int .u32 ty,.int .u32 res,.slice (some ⟨ab,ao,none⟩) n9 c9];rw [World.size_alloc] at kI;clear hya hty0 htz0 hyk hK;go_enter Tryz.func4,Tryz.ntmps4;go_wp2_with fail;refine (hsw _).mono ?_;rintro e w2 ⟨rfl,rfl⟩;go_upto_region 6 with fail
   have g1:=f1 (.cells #[.int .u32 gen,.int .u32 bound,.slice (some ⟨ib,io,none⟩) n c] 25) (.cells #[.int .u16 op,.int .u32 ty,.int .u32 res,.slice (some ⟨ab,ao,none⟩) n9 c9] 42);generalize ((w.alloc (.cells #[.int .u32 gen,.int .u32 bound,.slice (some ⟨ib,io,none⟩) n c] 25)).alloc (.cells #[.int .u16 op,.int .u32 ty,.int .u32 res,.slice (some ⟨ab,ao,none⟩) n9 c9] 42))=W at *;obtain ⟨y0,y1,y2⟩:=three_ kM;obtain ⟨v0,v1,v2,v3⟩:=four_ kI;have HBW:=Lib.hid hb2;have hX:Cx W [(⟨w.heap.size,0,none⟩,.int .u32 gen),(⟨w.heap.size,1,none⟩,.int .u32 bound),(⟨w.heap.size,2,none⟩,.slice (some ⟨ib,io,none⟩) n c),(⟨w.heap.size+1,3,none⟩,.slice (some ⟨ab,ao,none⟩) n9 c9),(⟨ab,ao+j*3+1,none⟩,.int .u32 ya)] W:=⟨⟨y0,y1,y2,v3,g1,trivial⟩,Below.refl _ _⟩;have HC0:=Lib.hid hX.1;clear z0 z1 z2 k1 c0 c1 c2 c3 e0 e1 e2 e3 f0 f1 a0 a1 y0 y1 y2 v0 v1 v2 v3 g1 hb1 hb2 hsw kI d1 d2 d3 d4 d5 d6 dk;go_cut [10,11] (fun v p wx=>v=.int .u32 s1∧∃ gs:Nat,p=.pointer (some ⟨gs,0,none⟩)∧W.heap.size≤gs∧Blk wx gs 28 #[.int .i64 s2,.int .i64 s3]∧Below W.heap.size W wx)
   case first =>
    clear htz HCD HM;refine wp_region_held_drew (S:=Cx W _) (by kernel_rfl) hX.drew_ (fun hHeld=>?_)
    refine wpAnyH_take (i:=0) (oi:=_) (v:=?_) rfl (by kernel_rfl) (by kernel_rfl) (by kernel_rfl) (fun _ _ _ h=>h) (Or.inl ⟨by rfl,?_⟩) hHeld ?_
    rotate_left
    ·intro w' hSw;have hc:=hSw.1;simp only [cellsAt] at hc;go_simp
     try with_reducible rfl
    (try simp only [Act.put,List.setIfInBounds_toArray,List.set_cons_zero,List.set_cons_succ,List.getElem_toArray,List.getElem_cons_zero])
    refine wpAnyH_take (i:=2) (oi:=_) (v:=?_) rfl (by kernel_rfl) (by kernel_rfl) (by kernel_rfl) (fun _ _ _ h=>h) (Or.inl ⟨by rfl,?_⟩) hHeld ?_
    rotate_left
    ·intro w' hSw;have hc:=hSw.1;simp only [cellsAt] at hc;go_simp
     try with_reducible rfl
    (try simp only [Act.put,List.setIfInBounds_toArray,List.set_cons_zero,List.set_cons_succ,List.getElem_toArray,List.getElem_cons_succ,List.getElem_cons_zero])
    refine wpAnyH_take (i:=3) (oi:=_) (v:=?_) rfl (by kernel_rfl) (by kernel_rfl) (by kernel_rfl) (fun _ _ _ h=>h) (Or.inl ⟨by rfl,?_⟩) hHeld ?_
    rotate_left
    ·intro w' hSw;have hc:=hSw.1;simp only [cellsAt] at hc;go_simp
     try with_reducible rfl
    (try simp only [Act.put,List.setIfInBounds_toArray,List.set_cons_zero,List.set_cons_succ,List.getElem_toArray,List.getElem_cons_succ,List.getElem_cons_zero])
    refine wpAnyH_take (i:=4) (oi:=_) (v:=?_) rfl (by kernel_rfl) (by kernel_rfl) (by kernel_rfl) (fun _ _ _ h=>h) (Or.inl ⟨by rfl,?_⟩) hHeld ?_
    rotate_left
    ·intro w' hSw;have hc:=hSw.1;simp only [cellsAt] at hc;go_simp
     try with_reducible rfl
    (try simp only [Act.put,List.setIfInBounds_toArray,List.set_cons_zero,List.set_cons_succ,List.getElem_toArray,List.getElem_cons_succ,List.getElem_cons_zero])
    refine wpAnyH_take (i:=5) (oi:=_) (v:=?_) rfl (by kernel_rfl) (by kernel_rfl) (by kernel_rfl) (fun _ _ _ h=>h) (Or.inl ⟨by rfl,?_⟩) hHeld ?_
    rotate_left
    ·intro w' hSw;have hc:=hSw.1;simp only [cellsAt] at hc;go_simp
     try with_reducible rfl
    (try simp only [Act.put,List.setIfInBounds_toArray,List.set_cons_zero,List.set_cons_succ,List.getElem_toArray,List.getElem_cons_succ,List.getElem_cons_zero])
    refine wpAnyH_take (i:=6) (oi:=_) (v:=?_) rfl (by kernel_rfl) (by kernel_rfl) (by kernel_rfl) (fun _ _ _ h=>h) (Or.inl ⟨by rfl,?_⟩) hHeld ?_
    rotate_left
    ·intro w' hSw;have hc:=hSw.1;simp only [cellsAt] at hc;go_simp
     try with_reducible rfl
    (try simp only [Act.put,List.setIfInBounds_toArray,List.set_cons_zero,List.set_cons_succ,List.getElem_toArray,List.getElem_cons_succ,List.getElem_cons_zero])
    refine wpAnyH_take (i:=7) (oi:=_) (v:=?_) rfl (by kernel_rfl) (by kernel_rfl) (by kernel_rfl) (fun _ _ _ h=>h) (Or.inl ⟨by rfl,?_⟩) hHeld ?_
    rotate_left
    ·intro w' hSw;have hc:=hSw.1;simp only [cellsAt] at hc;go_simp
     try with_reducible rfl
    (try simp only [Act.put,List.setIfInBounds_toArray,List.set_cons_zero,List.set_cons_succ,List.getElem_toArray,List.getElem_cons_succ,List.getElem_cons_zero])
    refine wpAnyH_ready (rs:=[1,12]) (by kernel_rfl) (by simp) ?_
    refine AllReadyH.cons (o:=_) rfl (fun K hK=>?_) (AllReadyH.cons (o:=_) rfl (fun K hK=>?_) AllReadyH.nil)
    ·go_simp
     go_at_call 8
     refine (hcp _ (below_cut HBW.out hHeld.2 (Nat.le_refl _))).mono ?_;rintro e W1 ⟨g1,l1,rfl,hT1,-,hb9⟩
     (try go_wp2_with fail)
     have hHeld2:=hHeld.call hb9;refine hK.out _ _ hHeld2 (fun hHeld=>?_)
     clear hK K hHeld2
     (try simp only [Act.put,List.setIfInBounds_toArray,List.set_cons_zero,List.set_cons_succ,List.getElem_toArray,List.getElem_cons_succ,List.getElem_cons_zero])
     refine wpAnyH_ready (rs:=[8,12]) (by kernel_rfl) (by simp) ?_
     refine AllReadyH.cons (o:=_) rfl (fun K hK=>?_) (AllReadyH.cons (o:=_) rfl (fun K hK=>?_) AllReadyH.nil)
     ·go_simp
      go_at_call 13
      refine (hty _ _ _ hT1).mono ?_;rintro e W2 ⟨rfl,hb9⟩
      (try go_wp2_with fail)
      have hHeld2:=hHeld.call hb9;refine hK.out _ _ hHeld2 (fun hHeld=>?_)
      clear hK K hHeld2
      (try simp only [Act.put,List.setIfInBounds_toArray,List.set_cons_zero,List.set_cons_succ,List.getElem_toArray,List.getElem_cons_succ,List.getElem_cons_zero])
      refine wpAnyH_take (i:=9) (oi:=_) (v:=?_) rfl (by kernel_rfl) (by kernel_rfl) (by kernel_rfl) (fun _ _ _ h=>h) (Or.inl ⟨by rfl,?_⟩) hHeld ?_
      rotate_left
      ·intro w' hSw;have hc:=hSw.1;simp only [cellsAt] at hc;go_simp
       try with_reducible rfl
      (try simp only [Act.put,List.setIfInBounds_toArray,List.set_cons_zero,List.set_cons_succ,List.getElem_toArray,List.getElem_cons_succ,List.getElem_cons_zero])
      refine wpAnyH_take (i:=10) (oi:=_) (v:=?_) rfl (by kernel_rfl) (by kernel_rfl) (by kernel_rfl) (fun _ _ _ h=>h) (Or.inl ⟨by rfl,?_⟩) hHeld ?_
      rotate_left
      ·intro w' hSw;have hc:=hSw.1;simp only [cellsAt] at hc;go_simp
       try with_reducible rfl
      (try simp only [Act.put,List.setIfInBounds_toArray,List.set_cons_zero,List.set_cons_succ,List.getElem_toArray,List.getElem_cons_succ,List.getElem_cons_zero])
      refine wpAnyH_take (i:=11) (oi:=_) (v:=?_) rfl (by kernel_rfl) (by kernel_rfl) (by kernel_rfl) (fun _ _ _ h=>h) (Or.inl ⟨by rfl,?_⟩) hHeld ?_
      rotate_left
      ·intro w' hSw;have hc:=hSw.1;simp only [cellsAt] at hc;go_simp
       try with_reducible rfl
      (try simp only [Act.put,List.setIfInBounds_toArray,List.set_cons_zero,List.set_cons_succ,List.getElem_toArray,List.getElem_cons_succ,List.getElem_cons_zero])
      refine wpAnyH_ready (rs:=[12]) (by kernel_rfl) (by simp) ?_
      refine AllReadyH.cons (o:=_) rfl (fun K hK=>?_) AllReadyH.nil
      have hPrev:=hHeld;obtain ⟨kg,hge,hHeld2⟩:=hHeld.boxS (.int .i64 0) (.int .i64 0);have hT1:=hT1.step ((Below.refl _ _).alloc (Nat.le_refl _) (.cells #[.int .i64 0,.int .i64 0] 28));go_simp
      refine hK.out _ _ hHeld2 (fun hHeld=>?_)
      clear hK K hHeld2
      (try simp only [Act.put,List.setIfInBounds_toArray,List.set_cons_zero,List.set_cons_succ,List.getElem_toArray,List.getElem_cons_succ,List.getElem_cons_zero])
      refine wpAnyH_take (i:=13) (oi:=_) (v:=?_) rfl (by kernel_rfl) (by kernel_rfl) (by kernel_rfl) (fun _ _ _ h=>h) (Or.inl ⟨by rfl,?_⟩) hHeld ?_
      rotate_left
      ·intro w' hSw;have hc:=hSw.1;simp only [cellsAt] at hc;go_simp
       try with_reducible rfl
      (try simp only [Act.put,List.setIfInBounds_toArray,List.set_cons_zero,List.set_cons_succ,List.getElem_toArray,List.getElem_cons_succ,List.getElem_cons_zero])
      refine wpAnyH_ready (rs:=[14]) (by kernel_rfl) (by simp) ?_
      refine AllReadyH.cons (o:=_) rfl (fun K hK=>?_) AllReadyH.nil
      go_simp
      obtain ⟨kg,hge,hHeld2⟩:=hPrev.boxS (.int .i64 s2) (.int .i64 s3);refine hK.out _ _ hHeld2 (fun hHeld=>?_)
      clear hK K hHeld2
      (try simp only [Act.put,List.setIfInBounds_toArray,List.set_cons_zero,List.set_cons_succ,List.getElem_toArray,List.getElem_cons_succ,List.getElem_cons_zero])
      refine wpAnyH_done (by kernel_rfl) ?_ _
      have HB:=Lib.hid hHeld.2;have HG:=Lib.hid (And.intro hge kg);clear hHeld hX kg hge;go_wp2_with fail;go_meet
      exact ⟨rfl,_,rfl,HG.out.1,(by simpa using HG.out.2),HB.out⟩
     ·have hPrev:=hHeld;obtain ⟨kg,hge,hHeld2⟩:=hHeld.boxS (.int .i64 0) (.int .i64 0);have hT1:=hT1.step ((Below.refl _ _).alloc (Nat.le_refl _) (.cells #[.int .i64 0,.int .i64 0] 28));go_simp
      refine hK.out _ _ hHeld2 (fun hHeld=>?_)
      clear hK K hHeld2
      (try simp only [Act.put,List.setIfInBounds_toArray,List.set_cons_zero,List.set_cons_succ,List.getElem_toArray,List.getElem_cons_succ,List.getElem_cons_zero])
      refine wpAnyH_ready (rs:=[8]) (by kernel_rfl) (by simp) ?_
      refine AllReadyH.cons (o:=_) rfl (fun K hK=>?_) AllReadyH.nil
      go_simp
      go_at_call 13
      refine (hty _ _ _ hT1).mono ?_;rintro e W6 ⟨rfl,hb9⟩
      (try go_wp2_with fail)
      have hHeld2:=hHeld.call hb9;have kg:=kg.step hb9;refine hK.out _ _ hHeld2 (fun hHeld=>?_)
      clear hK K hHeld2
      (try simp only [Act.put,List.setIfInBounds_toArray,List.set_cons_zero,List.set_cons_succ,List.getElem_toArray,List.getElem_cons_succ,List.getElem_cons_zero])
      refine wpAnyH_take (i:=9) (oi:=_) (v:=?_) rfl (by kernel_rfl) (by kernel_rfl) (by kernel_rfl) (fun _ _ _ h=>h) (Or.inl ⟨by rfl,?_⟩) hHeld ?_
      rotate_left
      ·intro w' hSw;have hc:=hSw.1;simp only [cellsAt] at hc;go_simp
       try with_reducible rfl
      (try simp only [Act.put,List.setIfInBounds_toArray,List.set_cons_zero,List.set_cons_succ,List.getElem_toArray,List.getElem_cons_succ,List.getElem_cons_zero])
      refine wpAnyH_take (i:=10) (oi:=_) (v:=?_) rfl (by kernel_rfl) (by kernel_rfl) (by kernel_rfl) (fun _ _ _ h=>h) (Or.inl ⟨by rfl,?_⟩) hHeld ?_
      rotate_left
      ·intro w' hSw;have hc:=hSw.1;simp only [cellsAt] at hc;go_simp
       try with_reducible rfl
      (try simp only [Act.put,List.setIfInBounds_toArray,List.set_cons_zero,List.set_cons_succ,List.getElem_toArray,List.getElem_cons_succ,List.getElem_cons_zero])
      refine wpAnyH_take (i:=11) (oi:=_) (v:=?_) rfl (by kernel_rfl) (by kernel_rfl) (by kernel_rfl) (fun _ _ _ h=>h) (Or.inl ⟨by rfl,?_⟩) hHeld ?_
      rotate_left
      ·intro w' hSw;have hc:=hSw.1;simp only [cellsAt] at hc;go_simp
       try with_reducible rfl
      (try simp only [Act.put,List.setIfInBounds_toArray,List.set_cons_zero,List.set_cons_succ,List.getElem_toArray,List.getElem_cons_succ,List.getElem_cons_zero])
      refine wpAnyH_take (i:=13) (oi:=_) (v:=?_) rfl (by kernel_rfl) (by kernel_rfl) (by kernel_rfl) (fun _ _ _ h=>h) (Or.inl ⟨by rfl,?_⟩) hHeld ?_
      rotate_left
      ·intro w' hSw;have hc:=hSw.1;simp only [cellsAt] at hc;go_simp
       try with_reducible rfl
      (try simp only [Act.put,List.setIfInBounds_toArray,List.set_cons_zero,List.set_cons_succ,List.getElem_toArray,List.getElem_cons_succ,List.getElem_cons_zero])
      refine wpAnyH_ready (rs:=[14]) (by kernel_rfl) (by simp) ?_
      refine AllReadyH.cons (o:=_) rfl (fun K hK=>?_) AllReadyH.nil
      have p0:=kg.cell 0;have p1:=kg.cell 1;simp at p0 p1;have fz:=kg.frozen;go_simp
      have hHeld2:=(hHeld.put HC0.out (p:=⟨_,0,none⟩) hge (.int .i64 s2)).put HC0.out (p:=⟨_,1,none⟩) hge (.int .i64 s3);have kg:=(kg.set_ 0 (.int .i64 s2)).set_ 1 (.int .i64 s3);refine hK.out _ _ hHeld2 (fun hHeld=>?_)
      clear hK K hHeld2
      (try simp only [Act.put,List.setIfInBounds_toArray,List.set_cons_zero,List.set_cons_succ,List.getElem_toArray,List.getElem_cons_succ,List.getElem_cons_zero])
      refine wpAnyH_done (by kernel_rfl) ?_ _
      have HB:=Lib.hid hHeld.2;have HG:=Lib.hid (And.intro hge kg);clear hHeld hX kg hge;go_wp2_with fail;go_meet
      exact ⟨rfl,_,rfl,HG.out.1,(by simpa using HG.out.2),HB.out⟩
    ·have hPrev:=hHeld;obtain ⟨kg,hge,hHeld2⟩:=hHeld.boxS (.int .i64 0) (.int .i64 0);replace kg:Blk (W.drew.alloc (.cells #[.int .i64 0,.int .i64 0] 28)) W.heap.size 28 #[.int .i64 0,.int .i64 0]:=kg
     replace hge:W.heap.size≤W.heap.size:=Nat.le_refl _
     go_simp
     refine hK.out _ _ hHeld2 (fun hHeld=>?_)
     clear hK K hHeld2
     (try simp only [Act.put,List.setIfInBounds_toArray,List.set_cons_zero,List.set_cons_succ,List.getElem_toArray,List.getElem_cons_succ,List.getElem_cons_zero])
     refine wpAnyH_ready (rs:=[1]) (by kernel_rfl) (by simp) ?_
     refine AllReadyH.cons (o:=_) rfl (fun K hK=>?_) AllReadyH.nil
     go_simp
     go_at_call 8
     refine (hcp _ (below_cut HBW.out hHeld.2 (Nat.le_refl _))).mono ?_;rintro e W9 ⟨g1,l1,rfl,hT1,-,hb9⟩
     (try go_wp2_with fail)
     have hHeld2:=hHeld.call hb9;have kg:=kg.step hb9;refine hK.out _ _ hHeld2 (fun hHeld=>?_)
     clear hK K hHeld2
     (try simp only [Act.put,List.setIfInBounds_toArray,List.set_cons_zero,List.set_cons_succ,List.getElem_toArray,List.getElem_cons_succ,List.getElem_cons_zero])
     refine wpAnyH_ready (rs:=[8]) (by kernel_rfl) (by simp) ?_
     refine AllReadyH.cons (o:=_) rfl (fun K hK=>?_) AllReadyH.nil
     go_simp
     go_at_call 13
     refine (hty _ _ _ hT1).mono ?_;rintro e W10 ⟨rfl,hb9⟩
     (try go_wp2_with fail)
     have hHeld2:=hHeld.call hb9;have kg:=kg.step hb9;refine hK.out _ _ hHeld2 (fun hHeld=>?_)
     clear hK K hHeld2
     (try simp only [Act.put,List.setIfInBounds_toArray,List.set_cons_zero,List.set_cons_succ,List.getElem_toArray,List.getElem_cons_succ,List.getElem_cons_zero])
     refine wpAnyH_take (i:=9) (oi:=_) (v:=?_) rfl (by kernel_rfl) (by kernel_rfl) (by kernel_rfl) (fun _ _ _ h=>h) (Or.inl ⟨by rfl,?_⟩) hHeld ?_
     rotate_left
     ·intro w' hSw;have hc:=hSw.1;simp only [cellsAt] at hc;go_simp
      try with_reducible rfl
     (try simp only [Act.put,List.setIfInBounds_toArray,List.set_cons_zero,List.set_cons_succ,List.getElem_toArray,List.getElem_cons_succ,List.getElem_cons_zero])
     refine wpAnyH_take (i:=10) (oi:=_) (v:=?_) rfl (by kernel_rfl) (by kernel_rfl) (by kernel_rfl) (fun _ _ _ h=>h) (Or.inl ⟨by rfl,?_⟩) hHeld ?_
     rotate_left
     ·intro w' hSw;have hc:=hSw.1;simp only [cellsAt] at hc;go_simp
      try with_reducible rfl
     (try simp only [Act.put,List.setIfInBounds_toArray,List.set_cons_zero,List.set_cons_succ,List.getElem_toArray,List.getElem_cons_succ,List.getElem_cons_zero])
     refine wpAnyH_take (i:=11) (oi:=_) (v:=?_) rfl (by kernel_rfl) (by kernel_rfl) (by kernel_rfl) (fun _ _ _ h=>h) (Or.inl ⟨by rfl,?_⟩) hHeld ?_
     rotate_left
     ·intro w' hSw;have hc:=hSw.1;simp only [cellsAt] at hc;go_simp
      try with_reducible rfl
     (try simp only [Act.put,List.setIfInBounds_toArray,List.set_cons_zero,List.set_cons_succ,List.getElem_toArray,List.getElem_cons_succ,List.getElem_cons_zero])
     refine wpAnyH_take (i:=13) (oi:=_) (v:=?_) rfl (by kernel_rfl) (by kernel_rfl) (by kernel_rfl) (fun _ _ _ h=>h) (Or.inl ⟨by rfl,?_⟩) hHeld ?_
     rotate_left
     ·intro w' hSw;have hc:=hSw.1;simp only [cellsAt] at hc;go_simp
      try with_reducible rfl
     (try simp only [Act.put,List.setIfInBounds_toArray,List.set_cons_zero,List.set_cons_succ,List.getElem_toArray,List.getElem_cons_succ,List.getElem_cons_zero])
     refine wpAnyH_ready (rs:=[14]) (by kernel_rfl) (by simp) ?_
     refine AllReadyH.cons (o:=_) rfl (fun K hK=>?_) AllReadyH.nil
     have p0:=kg.cell 0;have p1:=kg.cell 1;simp at p0 p1;have fz:=kg.frozen;go_simp
     have hHeld2:=(hHeld.put HC0.out (p:=⟨_,0,none⟩) hge (.int .i64 s2)).put HC0.out (p:=⟨_,1,none⟩) hge (.int .i64 s3);have kg:=(kg.set_ 0 (.int .i64 s2)).set_ 1 (.int .i64 s3);refine hK.out _ _ hHeld2 (fun hHeld=>?_)
     clear hK K hHeld2
     (try simp only [Act.put,List.setIfInBounds_toArray,List.set_cons_zero,List.set_cons_succ,List.getElem_toArray,List.getElem_cons_succ,List.getElem_cons_zero])
     refine wpAnyH_done (by kernel_rfl) ?_ _
     have HB:=Lib.hid hHeld.2;have HG:=Lib.hid (And.intro hge kg);clear hHeld hX kg hge;go_wp2_with fail;go_meet
     exact ⟨rfl,_,rfl,HG.out.1,(by simpa using HG.out.2),HB.out⟩
   obtain ⟨rfl,gs,rfl,hgs,kSx,hbx⟩:=hcut;have kMx:=kM.step hbx;have hBx:=below_cut HBW.out hbx (Nat.le_refl _);clear hX HC0 kM hgs hbx hty
   by_cases h2:s2=0
   rotate_left
   ·have q0:(s2 != 0)=true:=by simpa using h2
    clear HTY h2 HCD HM;obtain ⟨m0,m1,m2⟩:=three_ kMx;go_wp2_with fail;refine (hcp _ hBx).mono ?_;rintro e w5 ⟨g5,l5,rfl,hT5,-,hb5⟩;have hB5:=below_cut hBx hb5 (Nat.le_refl _);have kM5:=kMx.step hb5;have kS5:=kSx.step hb5;go_wp2_with fail;refine (htz _ _ _ hT5).mono ?_;rintro e w6 ⟨rfl,hb6⟩;have hB6:=below_cut hB5 hb6 (Nat.le_refl _);have kM6:=(kM5.step hb6).alloc (.cells #[.int .i64 t2,.int .i64 t3] 28);have kS6:=(kS5.step hb6).alloc (.cells #[.int .i64 t2,.int .i64 t3] 28);have kT6:=Blk.new w6 28 #[.int .i64 t2,.int .i64 t3];have hB7:=hB6.alloc hB6.size (.cells #[.int .i64 t2,.int .i64 t3] 28);obtain ⟨y0,y1,y2⟩:=three_ kM6;obtain ⟨x0,x1⟩:=two_ kS6;obtain ⟨r0,r1⟩:=two_ kT6;clear hT5 kMx kSx kM5 kS5 m0 m1 m2;go_wp2_with fail;refine (awake18_any _ (hP.step hB7)).mono ?_;rintro e w99 ⟨rfl,hb99⟩;go_wp2_with fail;go_ret
    exact ⟨rfl,below_cut hB7 hb99 (Nat.le_refl _)⟩
   have q0:(s2 != 0)=false:=by simp [h2]
   by_cases h3:t2=0
   rotate_left
   ·have q2:(t2 != 0)=true:=by simpa using h3
    clear HTY h2 h3 HCD HM;obtain ⟨m0,m1,m2⟩:=three_ kMx;go_wp2_with fail;refine (hcp _ hBx).mono ?_;rintro e w5 ⟨g5,l5,rfl,hT5,-,hb5⟩;have hB5:=below_cut hBx hb5 (Nat.le_refl _);have kM5:=kMx.step hb5;have kS5:=kSx.step hb5;go_wp2_with fail;refine (htz _ _ _ hT5).mono ?_;rintro e w6 ⟨rfl,hb6⟩;have hB6:=below_cut hB5 hb6 (Nat.le_refl _);have kM6:=(kM5.step hb6).alloc (.cells #[.int .i64 t2,.int .i64 t3] 28);have kS6:=(kS5.step hb6).alloc (.cells #[.int .i64 t2,.int .i64 t3] 28);have kT6:=Blk.new w6 28 #[.int .i64 t2,.int .i64 t3];have hB7:=hB6.alloc hB6.size (.cells #[.int .i64 t2,.int .i64 t3] 28);obtain ⟨y0,y1,y2⟩:=three_ kM6;obtain ⟨x0,x1⟩:=two_ kS6;obtain ⟨r0,r1⟩:=two_ kT6;clear hT5 kMx kSx kM5 kS5 m0 m1 m2;go_wp2_with fail;refine (awake18_any _ (hP.step hB7)).mono ?_;rintro e w99 ⟨rfl,hb99⟩;go_wp2_with fail;go_ret
    exact ⟨rfl,below_cut hB7 hb99 (Nat.le_refl _)⟩
   have q2:(t2 != 0)=false:=by simp [h3]
   by_cases h4:s1=t1
   rotate_left
   ·have q4:(s1 != t1)=true:=by simpa using h4
    clear HTY h2 h3 h4 HCD HM;obtain ⟨m0,m1,m2⟩:=three_ kMx;go_wp2_with fail;refine (hcp _ hBx).mono ?_;rintro e w5 ⟨g5,l5,rfl,hT5,-,hb5⟩;have hB5:=below_cut hBx hb5 (Nat.le_refl _);have kM5:=kMx.step hb5;have kS5:=kSx.step hb5;go_wp2_with fail;refine (htz _ _ _ hT5).mono ?_;rintro e w6 ⟨rfl,hb6⟩;have hB6:=below_cut hB5 hb6 (Nat.le_refl _);have kM6:=(kM5.step hb6).alloc (.cells #[.int .i64 t2,.int .i64 t3] 28);have kS6:=(kS5.step hb6).alloc (.cells #[.int .i64 t2,.int .i64 t3] 28);have kT6:=Blk.new w6 28 #[.int .i64 t2,.int .i64 t3];have hB7:=hB6.alloc hB6.size (.cells #[.int .i64 t2,.int .i64 t3] 28);obtain ⟨y0,y1,y2⟩:=three_ kM6;obtain ⟨x0,x1⟩:=two_ kS6;obtain ⟨r0,r1⟩:=two_ kT6;clear hT5 kMx kSx kM5 kS5 m0 m1 m2;go_wp2_with fail;refine (awake18_any _ (hP.step hB7)).mono ?_;rintro e w99 ⟨rfl,hb99⟩;go_wp2_with fail;go_ret
    exact ⟨rfl,below_cut hB7 hb99 (Nat.le_refl _)⟩
   subst h2 h3 h4;have hsl:(conM bound (L.set k (op,ty,res,al.set j (1,id,(ag al j).2.2)))).1=0∧fitAt (tgM bound (L.set k (op,ty,res,al.set j (1,id,(ag al j).2.2)))) (L.set k (op,ty,res,al.set j (1,id,(ag al j).2.2))) k=fitAt (tgM bound L) L k:=by
    obtain ⟨u1,u2⟩:=HTY.out;obtain ⟨v1,v2,v3,v4,v5⟩:=typM_ok u1;obtain ⟨-,r2,r3,r4,r5⟩:=typM_ok u2;exact swapped_law (i:=(op,ty,res,al)) v1 HLK.out HSB.out HJ.out.1 HK1.out r2 r3 r4 (by rw [r5];dsimp only;rw [HYA.out];exact v5.symm)
   have hc0:=(typM_ok HTY.out.1).1;have hf1:fitM bound L ((k:Nat):Int)=(fitAt (tgM bound L) L k,0,0):=by
    unfold fitM;rw [if_neg (fun h=>h hc0),if_neg (by rw [HL.out.2];omega),Int.toNat_natCast]
   have hf2:fitM bound (L.set k (op,ty,res,al.set j (1,id,(ag al j).2.2))) ((k:Nat):Int)=(fitAt (tgM bound L) L k,0,0):=by
    unfold fitM;rw [if_neg (fun h=>h hsl.1),if_neg (by rw [List.length_set,HL.out.2];omega),Int.toNat_natCast,hsl.2]
   have q4:(s1 != s1)=false:=by simp
   generalize fitAt (tgM bound L) L k=v at *;have hbb:(v==v)=true:=by simp
   have hfa:=fun (g:Nat) (l:List InstA) (w':World) (hT:ModT w' (some ⟨g,0,none⟩) n n l L)=>fitM_any gen bound (some ⟨g,0,none⟩) n n l L ((k:Nat):Int) w' hT
   have hfb:=fun (g:Nat) (l:List InstA) (w':World) (hT:ModT w' (some ⟨g,0,none⟩) n n l (L.set k (op,ty,res,al.set j (1,id,(ag al j).2.2))))=>fitM_any gen bound (some ⟨g,0,none⟩) n n l (L.set k (op,ty,res,al.set j (1,id,(ag al j).2.2))) ((k:Nat):Int) w' hT
   unfold FitIs modC at hfa hfb;rw [hf1] at hfa;rw [hf2] at hfb;clear hsl hc0 hf1 hf2;obtain ⟨m0,m1,m2⟩:=three_ kMx;go_wp2_with fail;refine (hcp _ hBx).mono ?_;rintro e w5 ⟨g5,l5,rfl,hT5,-,hb5⟩;have hB5:=below_cut hBx hb5 (Nat.le_refl _);have kM5:=kMx.step hb5;have kS5:=kSx.step hb5;go_wp2_with fail;refine (htz _ _ _ hT5).mono ?_;rintro e w6 ⟨rfl,hb6⟩;have hB6:=below_cut hB5 hb6 (Nat.le_refl _);have kM6:=(kM5.step hb6).alloc (.cells #[.int .i64 0,.int .i64 t3] 28);have kS6:=(kS5.step hb6).alloc (.cells #[.int .i64 0,.int .i64 t3] 28);have kT6:=Blk.new w6 28 #[.int .i64 0,.int .i64 t3];have hB7:=hB6.alloc hB6.size (.cells #[.int .i64 0,.int .i64 t3] 28);obtain ⟨y0,y1,y2⟩:=three_ kM6;obtain ⟨x0,x1⟩:=two_ kS6;obtain ⟨r0,r1⟩:=two_ kT6;clear hT5 kMx kSx kM5 kS5 m0 m1 m2;go_wp2_with fail;generalize (w6.alloc (.cells #[.int .i64 0,.int .i64 t3] 28))=W7 at *;clear y0 y1 y2 x0 x1 r0 r1 kS6 kT6 htz;refine (HCD.out _ hB7).mono ?_;rintro e w8 ⟨g,l,rfl,hMd,hmp,hb8,hO,hdis⟩;have hB8:=below_cut hB7 hb8 (Nat.le_refl _);have ha8:=(Below.refl w8.heap.size w8).alloc (Nat.le_refl _) (.cells #[.int .u32 gen,.int .u32 bound,.slice (some ⟨g,0,none⟩) n n] 25);have hbA:=below_cut hb8 ha8 (Nat.le_refl _);have k8:=Blk.new w8 25 #[.int .u32 gen,.int .u32 bound,.slice (some ⟨g,0,none⟩) n n];have kM8:=(kM6.step hb8).alloc (.cells #[.int .u32 gen,.int .u32 bound,.slice (some ⟨g,0,none⟩) n n] 25);obtain ⟨g',l2,u1,u2,u3,u4,u5,u6,hTc⟩:=modT_set (WB:=W7) (y:=id) (hMd.step ha8) hmp (hO.step ha8) hdis hk HLK.out HJ.out.1 HU.out.1 HU.out.2 (hP.step hB7) hbA HID.out;have hg8:w8.heap.size≠g':=u6 _ _ k8;rw [HK1.out] at hTc;have hb9:=hbA.setCell (p:=⟨g',j*3+1,none⟩) u1 (.int .u32 id);have hB9:=below_cut hB7 hb9 (Nat.le_refl _);have kM9:=kM8.far (p:=⟨g',j*3+1,none⟩) (by have:=kM6.lt;show w.heap.size≠g';omega) (.int .u32 id)
   have k9:=k8.far (p:=⟨g',j*3+1,none⟩) hg8 (.int .u32 id);rw [HJ.out.2] at u3;obtain ⟨x0,x1,x2⟩:=three_ k8;obtain ⟨y0,y1,y2⟩:=three_ kM9;clear kM6 kM8 hMd hmp hO hdis ha8 hg8 u6;go_wp2_with fail;generalize ((w8.alloc (.cells #[.int .u32 gen,.int .u32 bound,.slice (some ⟨g,0,none⟩) n n] 25)).setCell ⟨g',j*3+1,none⟩ (.int .u32 id))=W9 at *;clear x0 x1 x2 u3 u4 u5 k8;refine (hcp _ hB9).mono ?_;rintro e w10 ⟨g10,l10,rfl,hT10,-,hb10⟩;have hB10:=below_cut hB9 hb10 (Nat.le_refl _);have k10:=k9.step hb10;have hTc:=hTc.step hb10;clear y0 y1 y2 kM9 k9;go_wp2_with fail;refine (hfa _ _ _ hT10).mono ?_;rintro e w11 ⟨rfl,hb11⟩;have hB11:=below_cut hB10 hb11 (Nat.le_refl _);have k11:=(k10.step hb11).alloc (.cells #[.int .i64 0,.int .i64 0] 28);have hba:=(Below.refl w11.heap.size w11).alloc (Nat.le_refl _) (.cells #[.int .i64 0,.int .i64 0] 28);have hTc:=(hTc.step hb11).step hba;have kA:=Blk.new w11 28 #[.int .i64 0,.int .i64 0];have hB12:=hB11.alloc hB11.size (.cells #[.int .i64 0,.int .i64 0] 28);obtain ⟨y0,y1,y2⟩:=three_ k11;clear k10 hT10 hba;go_wp2_with fail;generalize (w11.alloc (.cells #[.int .i64 0,.int .i64 0] 28))=W12 at *;refine (hfb _ _ _ hTc).mono ?_;rintro e w13 ⟨rfl,hb13⟩;have hB13:=below_cut hB12 hb13 (Nat.le_refl _);have kA:=(kA.step hb13).alloc (.cells #[.int .i64 0,.int .i64 0] 28);have kB:=Blk.new w13 28 #[.int .i64 0,.int .i64 0];have hB14:=hB13.alloc hB13.size (.cells #[.int .i64 0,.int .i64 0] 28);obtain ⟨x0,x1⟩:=two_ kA;obtain ⟨r0,r1⟩:=two_ kB;clear y0 y1 y2 k11 hTc;go_wp2_with fail;refine (awake18_any _ (hP.step hB14)).mono ?_;rintro e w99 ⟨rfl,hb99⟩;go_wp2_with fail;go_ret
   exact ⟨rfl,below_cut hB14 hb99 (Nat.le_refl _)⟩
  ·have dk:((ag al j).1 != 1)=true:=by simpa using hK
   clear hcp hK;go_enter Tryz.func4,Tryz.ntmps4;go_wp2_with fail;refine (hsw _).mono ?_;rintro e w2 ⟨rfl,rfl⟩;go_wp2_with fail;refine (awake18_any _ (hP.step hb2)).mono ?_;rintro e w99 ⟨rfl,hb99⟩;go_wp2_with fail;go_ret
   exact ⟨rfl,below_cut hb2 hb99 (Nat.le_refl _)⟩
end
end Go.Proofs.YtdebjkiilnhgpaaGreatDoor
