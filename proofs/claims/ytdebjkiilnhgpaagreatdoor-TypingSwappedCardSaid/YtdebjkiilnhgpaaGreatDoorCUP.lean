/- Walks: slices.Clone of arguments; a module with other ids. -/
import Derived.Test.YtdebjkiilnhgpaaGreatDoorCUK
import Derived.Test.YtdebjkiilnhgpaaGreatDoorCUO
import Derived.Deep.RegionLaw
import Derived.Deep.DeepCutAuto
set_option maxRecDepth 100000
set_option maxHeartbeats 4000000
namespace Go.Proofs.YtdebjkiilnhgpaaGreatDoor
open Go.RowKit
theorem Acells_oneCell:∀ {l:List ArgI},∀ u∈Acells l,u.oneCell'=true
 | [],u,h=>by cases h
 | a :: r,u,h=>by
  simp only [Acells,List.mem_cons] at h
  rcases h with rfl | rfl | rfl | h
  ·rfl
  ·rfl
  ·rfl
  ·exact Acells_oneCell u h
theorem cloneArg_any (A:Option Addr) (n c:Nat) (l:List ArgI) (w:World) (hn:n≤65535) (hr:Reads w w.heap.size 3 A n (Acells l)) :
  Calls Tryz.prog 57 #[.slice A n c] w fun e w'=>∃ A' c',e=.returned (.slice A' n c')∧w'.ownsRow w.heap.size 44 3 (.slice A' n c') n (Acells l)∧Below w.heap.size w w':=by
 have h1:=fun x=>Lib.run_eql_slice_nil (P:=Tryz.prog) x 40 44 A n c 0 0 Tryz.underlying40
 rcases A with _ | ad
 ·obtain rfl:n=0:=by
   rcases Nat.eq_zero_or_pos n with h | h
   ·exact h
   ·obtain ⟨_,e,_⟩:=hr.2 h;cases e
  have hl:l=[]:=List.eq_nil_of_length_eq_zero hr.args_len;subst hl;go_enter Tryz.func57,Tryz.ntmps57;go_wp2
  go_ret
  exact ⟨none,0,rfl,World.ownsRow_nil _ _ _ _,Below.refl _ _⟩
 ·go_enter Tryz.func57,Tryz.ntmps57;have he:(w.alloc (.cells #[] 44)).ownsRow w.heap.size 44 3 (.slice (some ⟨w.heap.size,0,none⟩) 0 0) 0 []:=World.ownsRow_made w #[] 0 (Nat.le_refl _) (by unfold maxLen;omega) rfl
  go_wp2_with (at_builtin;refine ap_any slArg _ rfl _ _ rfl w.heap.size (.slice (some ⟨w.heap.size,0,none⟩) 0 0) 0 [] rfl he w.heap.size _ n c _ rfl (hr.alloc (Nat.le_refl _) _) Acells_oneCell (by omega) (by omega) (by simp) ?_;intro A' c' w1 ho hgr hat)
  go_ret
  rw [Nat.zero_add,List.nil_append] at ho;exact ⟨A',c',rfl,ho,((Below.refl _ _).alloc (Nat.le_refl _) _).grown hgr (by simp) (fun k hk=>by simp [Value.ownBlock] at hk;omega)⟩
def ArgP (W:World) (B:Nat) (x:InstA):Prop:=x.2.2.1=x.1.2.2.2.length∧W.ownsRow B 44 3 (.slice x.2.1 x.2.2.1 x.2.2.2) x.2.2.1 (Acells x.1.2.2.2)
structure TnI (tr:Int→Int) (w:World) (gen bound:Int) (A:Option Addr) (n c:Nat) (ls:List InstA) (k:Nat) (v:Value) (l2:List InstA) (W:World):Prop where
 k1:Blk W w.heap.size 25 #[.int .u32 gen,.int .u32 bound,.slice A n c]
 k2:Blk W (w.heap.size+1) 25 #[.int .u32 0,.int .u32 0,.slice none 0 0]
 own:W.ownsRow (w.heap.size+2) 42 4 v k (Icells l2)
 len:l2.length=k
 all:∀ j,j<k→(ig l2 j).1=renI tr (ig ls j).1∧ArgP W (w.heap.size+2) (ig l2 j)
 below:Below w.heap.size w W
 size:w.heap.size+2≤W.heap.size
section
variable {tr:Int→Int} {w W W2:World} {gen bound:Int} {A:Option Addr} {n c k:Nat} {ls l2:List InstA} {v:Value}
theorem TnI.step (h:TnI tr w gen bound A n c ls k v l2 W) (hb:Below W.heap.size W W2):TnI tr w gen bound A n c ls k v l2 W2 :=
 ⟨h.k1.step hb,h.k2.step hb,own_below h.own hb,h.len,fun j hj=>⟨(h.all j hj).1,(h.all j hj).2.1,own_below (h.all j hj).2.2 hb⟩,below_cut h.below hb (Nat.le_refl _),Nat.le_trans h.size hb.size⟩
theorem ig_snoc_lt {l:List InstA} {x:InstA} {j:Nat} (h:j<l.length):ig (l++[x]) j=ig l j:=by simp [ig,List.getD,List.getElem?_append_left h]
theorem ig_snoc_at {l:List InstA} {x:InstA}:ig (l++[x]) l.length=x:=by simp [ig,List.getD]
theorem TnI.put {A8:Option Addr} {c8:Nat} {x:InstA} (h:TnI tr w gen bound A n c ls k v l2 W) (hx:x.1=renI tr (ig ls k).1) (ha:ArgP W (w.heap.size+2) x)
  (ho:W2.ownsRow (w.heap.size+2) 42 4 (.slice A8 (k+1) c8) (k+1) (Icells l2++[.int .u16 x.1.1,.int .u32 x.1.2.1,.int .u32 x.1.2.2.1,.slice x.2.1 x.2.2.1 x.2.2.2])) (hg:W.grownBy W2 v.ownBlock) :
  TnI tr w gen bound A n c ls (k+1) (.slice A8 (k+1) c8) (l2++[x]) W2:=by
 have hkeep:∀ y,ArgP W (w.heap.size+2) y→ArgP W2 (w.heap.size+2) y:=fun y hy=>by
  refine ⟨hy.1,hy.2.kept hg ?_⟩;cases hv:v.ownBlock with
  | none =>
   cases hz:(Value.slice y.2.1 y.2.2.1 y.2.2.2).ownBlock with
   | none=>exact .inl rfl
   | some j=>exact .inr (by simp)
  | some j=>exact .inr (own_apart h.own hy.2 (by decide) j hv)
 refine ⟨h.k1.grown hg (Ne.symm (own_blk_ne h.own h.k1 (by decide))),h.k2.grown hg (Ne.symm (own_blk_ne h.own h.k2 (by decide))),by rw [Icells_snoc];exact ho,by rw [List.length_append,h.len];rfl,fun j hj=>?_,?_,Nat.le_trans h.size hg.size⟩
 ·rcases Nat.lt_succ_iff_lt_or_eq.1 hj with h1 | rfl
  ·rw [ig_snoc_lt (by rw [h.len];exact h1)]
   exact ⟨(h.all j h1).1,hkeep _ (h.all j h1).2⟩
  ·have e:ig (l2++[x]) j=x:=by rw [← h.len];exact ig_snoc_at
   rw [e];exact ⟨hx,hkeep x ha⟩
 ·exact h.below.grown hg (by have:=h.size;omega) (fun g e=>by have:=(h.own.lt g e).1;omega)
end
theorem own_addr {w:World} {base size n m c:Nat} {e:TypeId} {A:Option Addr} {xs:List Value} (h:w.ownsRow base e size (.slice A n c) m xs) (hn:0<n):∃ g,A=some ⟨g,0,none⟩:=by
 rcases h.2 with ⟨e1,_⟩ | ⟨g,cap,cur,e1,_⟩
 ·injection e1 with _ e2 _;omega
 ·injection e1 with e2 _ _;exact ⟨g,e2⟩
theorem ren_len (tr:Int→Int) (i:InstI):(renI tr i).2.2.2.length=i.2.2.2.length:=List.length_map ..
theorem texts_ren {tr:Int→Int} {l:List ArgI} (h:∀ a∈l,a.2.2.size≤140737488351232):∀ a∈l.map (renA tr),a.2.2.size≤140737488351232:=fun a ha=>by
 obtain ⟨b,hb,rfl⟩:=List.mem_map.1 ha;have:=h b hb;unfold renA
 split <;> exact this
structure ModO (W:World) (B:Nat) (A:Option Addr) (n c:Nat) (ls:List InstA):Prop where
 own:W.ownsRow B 42 4 (.slice A n c) n (Icells ls)
 args:∀ x∈ls,ArgP W B x
 fine:∀ x∈ls,Under 256 (kinds x.1.2.2.2)∧(∀ a∈x.1.2.2.2,a.2.2.size≤140737488351232)∧x.2.2.1≤6000000000000
 len:n≤7100000000000
section
variable {W W2:World} {B:Nat} {A:Option Addr} {n c:Nat} {ls:List InstA}
theorem ModO.set_ (h:ModO W B A n c ls) {p:Addr} (hp:p.block<B) (u:Value):ModO (W.setCell p u) B A n c ls :=
 ⟨own_set_other h.own (own_ne_low h.own hp) u,fun x hx=>⟨(h.args x hx).1,own_set_other (h.args x hx).2 (own_ne_low (h.args x hx).2 hp) u⟩,h.fine,h.len⟩
theorem ModO.step (h:ModO W B A n c ls) (hb:Below W.heap.size W W2):ModO W2 B A n c ls:=⟨own_below h.own hb,fun x hx=>⟨(h.args x hx).1,own_below (h.args x hx).2 hb⟩,h.fine,h.len⟩
theorem ModO.mod (h:ModO W B A n c ls):ModS W W.heap.size A n ls:=⟨h.len,Reads.of_own h.own,fun x hx=>⟨Reads.of_own (h.args x hx).2,(h.fine x hx).2.2,(h.fine x hx).1,(h.fine x hx).2.1⟩⟩
end
def TurnIs (tr:Int→Int) (gen bound:Int) (n:Nat) (L:List InstI) (w:World) (e:Ending) (w':World):Prop:=∃ A' c' ls',e=.returned (.agg (modC gen bound A' n c'))∧ls'.map (·.1)=L.map (renI tr)∧ModO w' w.heap.size A' n c' ls'∧Below w.heap.size w w'
theorem TnI.mod {tr:Int→Int} {w W W2:World} {gen bound:Int} {A:Option Addr} {n c c8:Nat} {ls l2:List InstA} {A8:Option Addr} (h:TnI tr w gen bound A n c ls n (.slice A8 n c8) l2 W) (hM:ModS w w.heap.size A n ls) (ha:∀ x∈ls,x.1.2.2.2.length≤65535)
  (ho:W2.ownsRow (w.heap.size+2) 42 4 (.slice A8 n c8) n (Icells l2)) (hoA:∀ x,ArgP W (w.heap.size+2) x→ArgP W2 (w.heap.size+2) x) (hb:Below w.heap.size w W2) :
  TurnIs tr gen bound n (ls.map (·.1)) w (.returned (.agg (modC gen bound A8 n c8))) W2:=by
 have hl:=hM.reads.insts_len;have key:∀ x∈l2,ArgP W (w.heap.size+2) x∧∃ y∈ls,x.1=renI tr y.1:=fun x hx=>by
  obtain ⟨j,hj,rfl⟩:=List.getElem_of_mem hx;rw [h.len] at hj;have:=h.all j hj;rw [ig_of (by rw [h.len];exact hj)] at this
  exact ⟨this.2,_,ig_mem (l:=ls) (k:=j) (by omega),this.1⟩
 refine ⟨A8,c8,l2,rfl,?_,⟨own_base ho (by omega),fun x hx=>?_,fun x hx=>?_,hM.len⟩,hb⟩
 ·refine List.ext_getElem (by rw [List.length_map,List.length_map,List.length_map,h.len,hl]) fun j h1 h2=>?_
  rw [List.length_map,h.len] at h1;have:=(h.all j h1).1;rw [ig_of (by rw [h.len];exact h1),ig_of (by omega)] at this
  simpa using this
 ·obtain ⟨e3,e4⟩:=hoA _ (key x hx).1;exact ⟨e3,own_base e4 (by omega)⟩
 ·obtain ⟨⟨e3,-⟩,y,hy,e1⟩:=key x hx;have hio:=hM.ok _ hy;have hlen:=ha _ hy;refine ⟨?_,?_,?_⟩
  ·rw [e1];show Under 256 (kinds (y.1.2.2.2.map (renA tr)));rw [kinds_ren];exact hio.kinds
  ·rw [e1];exact texts_ren hio.text
  ·rw [e3,e1,ren_len];omega
structure AgI (tr:Int→Int) (l:List ArgI) (j:Nat) (m:List ArgI):Prop where
 len:m.length=l.length
 done:∀ i,i<j→ag m i=renA tr (ag l i)
 rest:∀ i,j≤i→ag m i=ag l i
theorem AgI.next_id {tr:Int→Int} {l m:List ArgI} {j:Nat} (h:AgI tr l j m) (hj:j<l.length) (h1:(ag l j).1=1):AgI tr l (j+1) (m.set j ((ag l j).1,tr (ag l j).2.1,(ag l j).2.2)):=by
 refine ⟨by rw [List.length_set];exact h.len,fun i hi=>?_,fun i hi=>?_⟩
 ·rcases Nat.lt_succ_iff_lt_or_eq.1 hi with h2 | rfl
  ·rw [ag_set_other (by omega)];exact h.done i h2
  ·rw [ag_set_same (by rw [h.len];exact hj)]
   unfold renA;rw [if_pos h1,h1]
 ·rw [ag_set_other (by omega)];exact h.rest i (by omega)
theorem AgI.next_other {tr:Int→Int} {l m:List ArgI} {j:Nat} (h:AgI tr l j m) (h1:(ag l j).1≠1):AgI tr l (j+1) m:=by
 refine ⟨h.len,fun i hi=>?_,fun i hi=>h.rest i (by omega)⟩
 rcases Nat.lt_succ_iff_lt_or_eq.1 hi with h2 | rfl
 ·exact h.done i h2
 ·rw [h.rest i (Nat.le_refl _),renA_other h1]
theorem AgI.all {tr:Int→Int} {l m:List ArgI} (h:AgI tr l l.length m):m=l.map (renA tr):=by
 refine ag_all (n:=l.length) (by rw [List.length_map]) h.len fun j hj=>?_
 rw [h.done j hj,ag_ren hj]
theorem Acells_set_id {l:List ArgI} {k:Nat} {y:Int} (h:k<l.length):Acells (l.set k ((ag l k).1,y,(ag l k).2.2))=(Acells l).set (k*3+1) (.int .u32 y):=by
 rw [Acells_set h];obtain ⟨h0,h1,h2⟩:=Acells_at h;have e0:(Acells l).set (k*3) (.int .u8 (ag l k).1)=Acells l:=by
  obtain ⟨hh,he⟩:=List.getElem?_eq_some_iff.1 h0;rw [← he,List.set_getElem_self]
 dsimp only;rw [e0];have h3:((Acells l).set (k*3+1) (.int .u32 y))[k*3+2]?=some (.string (ag l k).2.2):=by rw [List.getElem?_set_ne (by omega)];exact h2
 obtain ⟨hh,he⟩:=List.getElem?_eq_some_iff.1 h3;rw [← he,List.set_getElem_self]
theorem turned_any (tr:Int→Int) (g:Nat) (gen bound:Int) (A:Option Addr) (n c:Nat) (ls:List InstA) (w:World) (hM:ModS w w.heap.size A n ls) (hn:n≤2000000) (ha:∀ x∈ls,x.1.2.2.2.length≤65535)
  (hto:∀ (x:Int) (w':World),Below w.heap.size w w'→Calls Tryz.prog 34 #[.int .u32 x,.pointer (some ⟨g,0,none⟩)] w' fun e w''=>e=.returned (.int .u32 (tr x))∧w'=w'') :
  Calls Tryz.prog 33 #[.agg (modC gen bound A n c),.func (.func 34) #[] #[.pointer (some ⟨g,0,none⟩)]] w (TurnIs tr gen bound n (ls.map (·.1)) w):=by
 have hL:=hM.reads.insts_len;unfold modC;have hb:=((Below.refl w.heap.size w).alloc (Nat.le_refl _) (.cells #[.int .u32 gen,.int .u32 bound,.slice A n c] 25)).alloc (by simp) (.cells #[.int .u32 0,.int .u32 0,.slice none 0 0] 25)
 have k1:=(Blk.new w 25 #[.int .u32 gen,.int .u32 bound,.slice A n c]).alloc (.cells #[.int .u32 0,.int .u32 0,.slice none 0 0] 25);have k2:=Blk.new (w.alloc (.cells #[.int .u32 gen,.int .u32 bound,.slice A n c] 25)) 25 #[.int .u32 0,.int .u32 0,.slice none 0 0];rw [World.size_alloc] at k2;have hsz:((w.alloc (.cells #[.int .u32 gen,.int .u32 bound,.slice A n c] 25)).alloc (.cells #[.int .u32 0,.int .u32 0,.slice none 0 0] 25)).heap.size=w.heap.size+2:=by simp
 have HT:=Lib.hid hto;have HA:=Lib.hid ha;have HM:=Lib.hid hM;clear hto ha;go_enter Tryz.func33,Tryz.ntmps33;go_upto_region 1 with fail
 generalize ((w.alloc (.cells #[.int .u32 gen,.int .u32 bound,.slice A n c] 25)).alloc (.cells #[.int .u32 0,.int .u32 0,.slice none 0 0] 25))=W at *;obtain ⟨q0,q1,q2⟩:=three_ k1;have wn:IntKind.i64.wrap ((n:Nat):Int)=n:=IntWalk.i64_in _ (by omega)
 go_wp2_with (at_make;refine mk_room slInst W rfl _ _ rfl (w.heap.size+2) n rfl rfl rfl (by omega) (by omega) (by omega) ?_;intro w1 hown hgr;have k1w:=k1.grown hgr (by simp);obtain ⟨p0,p1,p2⟩:=three_ k1w)
 have k2w:=k2.grown hgr (by simp)
 have hbw:=hb.grown hgr (by omega) (fun j hj=>by cases hj)
 rw [hsz] at hown;have hI:TnI tr w gen bound A n c ls 0 (.slice (some ⟨w.heap.size+2,0,none⟩) 0 n) [] w1:=⟨k1w,k2w,hown,rfl,fun j hj=>absurd hj (Nat.not_lt_zero j),hbw,by have:=hgr.size;omega⟩
 clear q0 q1 q2 p0 p1 p2 k1 k2 hb hown hgr k1w k2w hbw;go_loopg [5,17] n (fun q v i wr=>∃ (k:Nat) (A5:Option Addr) (c5:Nat) (l2:List InstA),k+q=n∧v=.slice A5 k c5∧i=.int .i64 (k:Nat)∧TnI tr w gen bound A n c ls k v l2 wr)
 case atStart=>exact ⟨0,_,_,[],by omega,rfl,rfl,hI⟩
 case round =>
  obtain ⟨k,A5,c5,l2,hq,rfl,rfl,hI⟩:=hrel;have hls:ls.length=n:=hL;have hsI:=hI.size
  by_cases hlt:k<n
  ·generalize wr=W0 at *;have d1:decide (((k:Nat):Int)<(n:Nat))=true:=by rw [decide_eq_true_eq];omega
   have hlt2:((k:Nat):Int)<(n:Nat):=by omega
   have hMr:=HM.out.keep hI.below;obtain ⟨b,off,rfl,hbb,hcc⟩:=hMr.reads.insts (by omega)
   obtain ⟨c0,c1,c2,c3⟩:=hcc k hlt;have hmem:=ig_mem (l:=ls) (k:=k) (by omega)
   have hrd:=((hMr.ok _ hmem).more hI.below.size).reads;have hal:=HA.out _ hmem;generalize hX:ig ls k=X at *;obtain ⟨⟨op,ty,res,l⟩,Ax,nx,cx⟩:=X;dsimp only at c0 c1 c2 c3 hal hrd;have hnl:=hrd.args_len;have HX:=Lib.hid hX;have hbI:=(Below.refl W0.heap.size W0).alloc (Nat.le_refl _) (.cells #[.int .u16 op,.int .u32 ty,.int .u32 res,.slice Ax nx cx] 42);have kI:=Blk.new W0 42 #[.int .u16 op,.int .u32 ty,.int .u32 res,.slice Ax nx cx];have hrd5:=(hrd.below hbI).more hbI.size;have hI5:=hI.step hbI;have hs5:(W0.alloc (.cells #[.int .u16 op,.int .u32 ty,.int .u32 res,.slice Ax nx cx] 42)).heap.size=W0.heap.size+1:=by simp
   clear hcc hX hrd hMr hmem hM;go_upto_region 5 with fail
   generalize (W0.alloc (.cells #[.int .u16 op,.int .u32 ty,.int .u32 res,.slice Ax nx cx] 42))=W5 at *;go_cut [] (fun wx=>∃ A8 c8,Below W0.heap.size W0 wx∧Blk wx W0.heap.size 42 #[.int .u16 op,.int .u32 (tr ty),.int .u32 (tr res),.slice A8 nx c8]∧wx.ownsRow (W0.heap.size+1) 44 3 (.slice A8 nx c8) nx (Acells l)∧W0.heap.size+1≤wx.heap.size)
   case first =>
    have hbd:Below w.heap.size w W5.drew:=hI5.below.drew;have tTy:=HT.out ty W5.drew hbd;have tRs:=HT.out res W5.drew hbd;have hcl:=cloneArg_any Ax nx cx l W5.drew (by omega) hrd5
    have kId:Blk W5.drew W0.heap.size 42 #[.int .u16 op,.int .u32 ty,.int .u32 res,.slice Ax nx cx]:=kI;obtain ⟨y0,y1,y2,y3⟩:=four_ kI;clear c0 c1 c2 c3;go_region_law (first
     | (go_simp;go_at_call 34;(with_reducible refine tTy.mono ?_);rintro e w' ⟨rfl,rfl⟩)
     | (go_simp;go_at_call 34;(with_reducible refine tRs.mono ?_);rintro e w' ⟨rfl,rfl⟩)
     | (go_simp;go_at_call 57;(with_reducible refine hcl.mono ?_);rintro e w8 ⟨A8,c8,rfl,ho8,hb8⟩;have k8:=kId.step hb8;obtain ⟨p0,p1,p2,p3⟩:=four_ k8;have f8:=k8.frozen))
    all_goals
     have hs8:=hb8.size;have ne8:=own_blk_ne ho8 k8 (by decide)
     have ho9:=own_base (own_set_other (p:=⟨W0.heap.size,3,none⟩) (own_set_other (p:=⟨W0.heap.size,2,none⟩) (own_set_other (p:=⟨W0.heap.size,1,none⟩) ho8 ne8 (.int .u32 (tr ty))) ne8 (.int .u32 (tr res))) ne8 (.slice A8 nx c8)) (show W0.heap.size+1≤W5.drew.heap.size by show W0.heap.size+1≤W5.heap.size;omega)
     have k9:=((k8.set_ 1 (.int .u32 (tr ty))).set_ 2 (.int .u32 (tr res))).set_ 3 (.slice A8 nx c8);have hb9:=(((below_cut hbI.drew hb8 (Nat.le_refl _)).setCell (p:=⟨W0.heap.size,1,none⟩) (Nat.le_refl _) (.int .u32 (tr ty))).setCell (p:=⟨W0.heap.size,2,none⟩) (Nat.le_refl _) (.int .u32 (tr res))).setCell (p:=⟨W0.heap.size,3,none⟩) (Nat.le_refl _) (.slice A8 nx c8);have hs9:W0.heap.size+1≤((((w8.setCell ⟨W0.heap.size,1,none⟩ (.int .u32 (tr ty))).setCell ⟨W0.heap.size,2,none⟩ (.int .u32 (tr res))).setCell ⟨W0.heap.size,3,none⟩ (.slice A8 nx c8)).heap.size):=by
      have h9:W0.heap.size+1≤w8.heap.size:=Nat.le_trans (by show W0.heap.size+1≤W5.heap.size;omega) hs8
      simpa using h9
     go_wp2_with fail;go_meet
     exact ⟨A8,c8,hb9,by simpa using k9,ho9,hs9⟩
   obtain ⟨A8,c8,hb9,k9,ho9,hs9⟩:=hcut;have hI9:=hI.step hb9;obtain ⟨y0,y1,y2,y3⟩:=four_ k9;clear kI hrd5 hI5 hs5 hbI c0 c1 c2 c3;go_wp2_with fail;clear y0 y1 y2 y3;go_loopg [38] nx (fun q2 i2 wq=>∃ (j:Nat) (m:List ArgI),j+q2=nx∧i2=.int .i64 (j:Nat)∧Hid (AgI tr l j m)∧Below W0.heap.size W0 wq∧Blk wq W0.heap.size 42 #[.int .u16 op,.int .u32 (tr ty),.int .u32 (tr res),.slice A8 nx c8]∧wq.ownsRow (W0.heap.size+1) 44 3 (.slice A8 nx c8) nx (Acells m)∧W0.heap.size+1≤wq.heap.size)
   case atStart=>exact ⟨0,l,by omega,rfl,Lib.hid ⟨rfl,fun i hi=>absurd hi (Nat.not_lt_zero i),fun i _=>rfl⟩,hb9,k9,ho9,hs9⟩
   case round =>
    obtain ⟨j,m,hq2,rfl,HG,hbq,kq,hoq,hsq⟩:=hrel;have hml:=HG.out.len
    by_cases hj:j<nx
    ·have dj:decide (((j:Nat):Int)<(nx:Nat))=true:=by rw [decide_eq_true_eq];omega
     have hj2:((j:Nat):Int)<(nx:Nat):=by omega
     obtain ⟨g8,rfl⟩:=own_addr hoq (by omega)
     have hgl:=own_lt hoq;obtain ⟨z0,z1,z2⟩:=Acells_at (l:=m) (k:=j) (by omega)
     have hs1:=own_cell hoq z0;have hs2:=own_cell hoq z1;have hs3:=own_cell hoq z2;have hage:=HG.out.rest j (Nat.le_refl _);have hset:=Acells_set_id (l:=m) (k:=j) (y:=tr (ag m j).2.1) (by omega)
     have hmm:∀ h1:(ag l j).1=1,AgI tr l (j+1) (m.set j ((ag l j).1,tr (ag l j).2.1,(ag l j).2.2)):=fun h1=>HG.out.next_id (by omega) h1
     have hmo:∀ h1:(ag l j).1≠1,AgI tr l (j+1) m:=fun h1=>HG.out.next_other h1
     rw [hage] at hs1 hs2 hs3 hset;have HS:=Lib.hid hset;have HMM:=Lib.hid hmm;have HMO:=Lib.hid hmo;clear z0 z1 z2 hage hset hmm hmo;generalize ag l j=Y at *;obtain ⟨kd,nn,ss⟩:=Y;dsimp only at hs1 hs2 hs3 HS HMM HMO;obtain ⟨s1,f1⟩:=hs1;obtain ⟨s2,f2⟩:=hs2;obtain ⟨s3,f3⟩:=hs3;obtain ⟨y0,y1,y2,y3⟩:=four_ kq;have hbA:=(Below.refl wr.heap.size wr).alloc (Nat.le_refl _) (.cells #[.int .u8 kd,.int .u32 nn,.string ss] 44);have kA:=Blk.new wr 44 #[.int .u8 kd,.int .u32 nn,.string ss];have hoA:=own_below hoq hbA;have kqA:=kq.step hbA;have hbqA:=below_cut hbq hbA (by have:=hbq.size;omega)
     have hIA:=(hI.step hbq).step hbA;have hsA:(wr.alloc (.cells #[.int .u8 kd,.int .u32 nn,.string ss] 44)).heap.size=wr.heap.size+1:=by simp
     by_cases hk:kd=1
     ·subst hk;have hn1:=HMM.out rfl;go_upto_region 9 with fail
      generalize (wr.alloc (.cells #[.int .u8 1,.int .u32 nn,.string ss] 44))=W9 at *;obtain ⟨v0,v1,v2⟩:=three_ kA;obtain ⟨u0,u1,u2,u3⟩:=four_ kqA;have hs2:=own_cell hoA (u:=.int .u32 (ag m j).2.1) (Acells_at (l:=m) (k:=j) (by omega)).2.1
      obtain ⟨s2,f2⟩:=hs2;clear y0 y1 y2 y3 s1 f1 s3 f3;go_upto_region 10 with fail
      have t10:=HT.out nn W9.drew hIA.below.drew;have HST:=Lib.hid (hoA.stored (j*3+1) (.int .u32 (tr nn))).1;have HBS:=Lib.hid (hbqA.drew.setCell (p:=⟨g8,j*3+1,none⟩) (by show W0.heap.size≤g8;omega) (.int .u32 (tr nn)))
      have HKS:=Lib.hid (kqA.far (p:=⟨g8,j*3+1,none⟩) (by show W0.heap.size≠g8;omega) (.int .u32 (tr nn)))
      go_region_law (first
       | (go_simp;go_at_call 34;(with_reducible refine t10.mono ?_);rintro e w' ⟨rfl,rfl⟩))
      all_goals
       go_wp2_with fail;go_roundg (nx-(j+1))
       case measure=>omega
       case rel=>exact ⟨j+1,_,by omega,by go_num,Lib.hid hn1,HBS.out,HKS.out,by rw [HS.out];exact HST.out,by simp;omega⟩
     ·have e1:(kd==1)=false:=by simpa using hk
      have hn1:=HMO.out hk;obtain ⟨v0,v1,v2⟩:=three_ kA;go_wp2_with fail;go_roundg (nx-(j+1))
      case measure=>omega
      case rel=>exact ⟨j+1,m,by omega,by go_num,Lib.hid hn1,hbqA,kqA,hoA,by omega⟩
    ·have dj:decide (((j:Nat):Int)<(nx:Nat))=false:=by rw [decide_eq_false_iff_not];omega
     obtain rfl:j=nx:=by omega
     have hma:m=l.map (renA tr):=by
      have:=HG.out;rw [← hnl] at this;exact this.all
     have hIq:=hI.step hbq;have kq1:=kq;obtain ⟨y0,y1,y2,y3⟩:=four_ kq;have hlit:=Reads.litN wr #[.int .u16 op,.int .u32 (tr ty),.int .u32 (tr res),.slice A8 j c8] 42 4 1 4 rfl rfl (by omega)
     have hbL:=(Below.refl wr.heap.size wr).alloc (Nat.le_refl _) (.cells #[.int .u16 op,.int .u32 (tr ty),.int .u32 (tr res),.slice A8 j c8] 42);have hIL:=hIq.step hbL;have hoL:=own_below hoq hbL;clear hI hI9 hIq HT HG;go_wp2_with (at_builtin;refine ap_any slInst _ rfl _ _ rfl (w.heap.size+2) _ _ _ rfl hIL.own _ _ 1 _ [.int .u16 op,.int .u32 (tr ty),.int .u32 (tr res),.slice A8 j c8] rfl hlit (by simp [Value.oneCell']) (by omega) (by omega) hIL.size ?_;intro A9 c9 w9 ho9 hg9 _)
     have hput:=hIL.put (x:=((op,tr ty,tr res,m),A8,j,c8)) (by rw [HX.out,hma];rfl) ⟨by show j=m.length;omega,own_base hoL (by omega)⟩ ho9 hg9
     go_roundg (n-(k+1))
     case measure=>omega
     case rel=>exact ⟨k+1,A9,c9,_,by omega,rfl,by go_num,hput⟩
  ·have d1:decide (((k:Nat):Int)<(n:Nat))=false:=by rw [decide_eq_false_iff_not];omega
   obtain rfl:k=n:=by omega
   obtain ⟨q0,q1,q2⟩:=three_ hI.k1;have fz1:=hI.k1.frozen 2;have kr3:Blk (wr.setCell ⟨w.heap.size,2,none⟩ (.slice A5 k c5)) w.heap.size 25 #[.int .u32 gen,.int .u32 bound,.slice A5 k c5]:=by simpa using hI.k1.set_ 2 (.slice A5 k c5)
   have kr4:=hI.k2.far (p:=⟨w.heap.size,2,none⟩) (by show w.heap.size+1≠w.heap.size;omega) (.slice A5 k c5)
   obtain ⟨p0,p1,p2⟩:=three_ kr3;obtain ⟨r0,r1,r2⟩:=three_ kr4;have fr:=kr4.frozen;have n1:=own_blk_ne hI.own hI.k1 (by decide)
   have n2:=own_blk_ne hI.own hI.k2 (by decide)
   have HF:=Lib.hid (hI.mod (W2:=(((wr.setCell ⟨w.heap.size,2,none⟩ (.slice A5 k c5)).setCell ⟨w.heap.size+1,0,none⟩ (.int .u32 gen)).setCell ⟨w.heap.size+1,1,none⟩ (.int .u32 bound)).setCell ⟨w.heap.size+1,2,none⟩ (.slice A5 k c5)) HM.out HA.out
    (own_set_other (p:=⟨w.heap.size+1,2,none⟩) (own_set_other (p:=⟨w.heap.size+1,1,none⟩) (own_set_other (p:=⟨w.heap.size+1,0,none⟩) (own_set_other (p:=⟨w.heap.size,2,none⟩) hI.own n1 _) n2 _) n2 _) n2 _)
    (fun y hy=>by
     have m1:=own_blk_ne hy.2 hI.k1 (by decide)
     have m2:=own_blk_ne hy.2 hI.k2 (by decide)
     exact ⟨hy.1,own_set_other (p:=⟨w.heap.size+1,2,none⟩) (own_set_other (p:=⟨w.heap.size+1,1,none⟩) (own_set_other (p:=⟨w.heap.size+1,0,none⟩) (own_set_other (p:=⟨w.heap.size,2,none⟩) hy.2 m1 _) m2 _) m2 _) m2 _⟩)
    ((((hI.below.setCell (p:=⟨w.heap.size,2,none⟩) (Nat.le_refl _) _).setCell (p:=⟨w.heap.size+1,0,none⟩) (Nat.le_succ _) _).setCell (p:=⟨w.heap.size+1,1,none⟩) (Nat.le_succ _) _).setCell (p:=⟨w.heap.size+1,2,none⟩) (Nat.le_succ _) _))
   clear n1 n2 HM HA HT;go_wp2_with fail;exact bodyPost_ret (mod_end rfl _ rfl (by simpa using ((kr4.set_ 0 (.int .u32 gen)).set_ 1 (.int .u32 bound)).set_ 2 (.slice A5 k c5))) rfl HF.out
end Go.Proofs.YtdebjkiilnhgpaaGreatDoor
