/- Plain: New of a module with other ids. -/
import Derived.Test.YtdebjkiilnhgpaaGreatDoorCUN
namespace Go.Proofs.YtdebjkiilnhgpaaGreatDoor
section
theorem list_ixn {l m:List Int} (hl:l.length=m.length) (h:∀ k,k<l.length→ixn l k=ixn m k):l=m:=by
 refine List.ext_getElem hl fun k h1 h2=>?_
 have:=h k h1;unfold ixn at this;rw [List.getD_eq_getElem?_getD,List.getD_eq_getElem?_getD,List.getElem?_eq_getElem h1,List.getElem?_eq_getElem h2] at this;exact this
theorem nums_ren_iff {to:Int→Int} {U:Int→Prop} {b bound:Int} (h:RenOk to U b) {i j:InstI} {f g:FormI} (hi:InstW i bound f) (hj:InstW j bound g) (ho:i.1=j.1) (ui:Used U i) (uj:Used U j) :
  nums (renI to i).2.2.2=nums (renI to j).2.2.2 ↔ nums i.2.2.2=nums j.2.2.2:=by
 show nums (i.2.2.2.map (renA to))=nums (j.2.2.2.map (renA to)) ↔ _
 have hpt:i.2.2.2.length=j.2.2.2.length→∀ k,k<i.2.2.2.length→(ixn (nums (i.2.2.2.map (renA to))) k=ixn (nums (j.2.2.2.map (renA to))) k ↔ ixn (nums i.2.2.2) k=ixn (nums j.2.2.2) k):=fun he k hk=>by
  rw [nums_at hk,nums_at (by omega),hi.kind_at hk,hj.kind_at (by omega),ho]
  by_cases hc:kindT (letterOf j.1 k)=1
  ·rw [if_pos hc,if_pos hc];have h1:U (ixn (nums i.2.2.2) k):=by rw [nums_getD hk];exact ui.args _ (ag_mem hk) (by rw [hi.kind_at hk,ho,hc])
   have h2:U (ixn (nums j.2.2.2) k):=by rw [nums_getD (by omega)];exact uj.args _ (ag_mem (by omega)) (by rw [hj.kind_at (by omega),hc])
   exact ⟨h.inj _ _ h1 h2,fun e=>by rw [e]⟩
  ·rw [if_neg hc,if_neg hc]
 constructor
 ·intro e;have hl:=congrArg List.length e;rw [nums_lenR,nums_lenR,List.length_map,List.length_map] at hl;refine list_ixn (by rw [nums_lenR,nums_lenR];exact hl) fun k hk=>?_
  rw [nums_lenR] at hk;exact (hpt hl k hk).1 (by rw [e])
 ·intro e;have hl:=congrArg List.length e;rw [nums_lenR,nums_lenR] at hl;refine list_ixn (by rw [nums_lenR,nums_lenR,List.length_map,List.length_map];exact hl) fun k hk=>?_
  rw [nums_lenR,List.length_map] at hk;exact (hpt hl k hk).2 (by rw [e])
theorem nums_ren_pos {to:Int→Int} {U:Int→Prop} {b:Int} (h:RenOk to U b) {i:InstI} (ui:Used U i) (hp:∀ x∈nums i.2.2.2,0≤x):∀ x∈nums (renI to i).2.2.2,0≤x:=fun x hx=>by
 have hx:x∈nums (i.2.2.2.map (renA to)):=hx;unfold nums at hx;rw [List.map_map] at hx;obtain ⟨a,ha,rfl⟩:=List.mem_map.1 hx
 show 0≤(renA to a).2.1
 by_cases h1:a.1=1
 ·rw [renA_id h1]
  by_cases h0:a.2.1=0
  ·rw [h0,h.zero];exact Int.le_refl _
  ·have:=h.bd _ (ui.args a ha h1) h0;omega
 ·rw [renA_other h1];exact hp _ (List.mem_map.2 ⟨a,ha,rfl⟩)
structure ModW (U:Int→Prop) (bound:Int) (l:List InstI):Prop where
 raw:∀ i∈l,(rawR i bound).1=0
 used:∀ i∈l,Used U i
 op:∀ i∈l,0≤i.1
 pos:∀ i∈l,∀ x∈nums i.2.2.2,0≤x
theorem ModW.key {to:Int→Int} {U:Int→Prop} {b bound:Int} {l:List InstI} (hW:ModW U bound l) (h:RenOk to U b) {i j:InstI} (hi:i∈l) (hj:j∈l):keyB (renI to i)=keyB (renI to j) ↔ keyB i=keyB j:=by
 obtain ⟨f,wi⟩:=rawR_ok (hW.raw i hi);obtain ⟨g,wj⟩:=rawR_ok (hW.raw j hj);have ui:=hW.used i hi;have uj:=hW.used j hj;rw [keyB_iff (hW.op i hi) (hW.op j hj) (hW.pos i hi) (hW.pos j hj),keyB_iff (i:=renI to i) (j:=renI to j) (hW.op i hi) (hW.op j hj) (nums_ren_pos h ui (hW.pos i hi)) (nums_ren_pos h uj (hW.pos j hj))]
 show i.1=j.1∧_ ↔ _
 constructor
 ·rintro ⟨e1,e2⟩;exact ⟨e1,(nums_ren_iff h wi wj e1 ui uj).1 e2⟩
 ·rintro ⟨e1,e2⟩;exact ⟨e1,(nums_ren_iff h wi wj e1 ui uj).2 e2⟩
structure RelS (to:Int→Int) (U:Int→Prop) (l:List InstI) (s s':StN):Prop where
 T:∀ x,U x→s'.T (to x)=renT to (s.T x)
 M:∀ x,U x→s'.M (to x)=renI to (s.M x)
 R:∀ j∈l,s'.R (keyB (renI to j))=s.R (keyB j)
 ord:s'.ord=s.ord.map to
 ordU:∀ x∈s.ord,U x
 mty:∀ x,U x→U (s.M x).2.1
 min:∀ x,(s.M x).1=43→0<(s.M x).2.2.2.length∧(ag (s.M x).2.2.2 0).1=2
theorem RelS.st0 {to:Int→Int} {U:Int→Prop} {b:Int} (h:RenOk to U b) (l:List InstI):RelS to U l st0 st0 :=
 ⟨fun x _=>(renT_zero h.zero).symm,fun x _=>by show ((0,0,0,[]):InstI)=(0,to 0,to 0,[]);rw [h.zero],fun _ _=>rfl,rfl,fun x hx=>(by cases hx),fun x _=>h.u0,fun x hx=>(by cases hx)⟩
section
variable {to:Int→Int} {U:Int→Prop} {b bound:Int} {l:List InstI} {s s':StN}
theorem RelS.one (hR:RelS to U l s s') (h:RenOk to U b) (hW:ModW U bound l) {i:InstI} (hi:i∈l):oneT s'.T s'.M (renI to i)=(renT to (oneT s.T s.M i).1,(oneT s.T s.M i).2.1,(oneT s.T s.M i).2.2):=by
 obtain ⟨f,wi⟩:=rawR_ok (hW.raw i hi);exact oneT_ren h hR.T hR.M hR.mty hR.min wi (hW.used i hi)
theorem RelS.again (hR:RelS to U l s s') (h:RenOk to U b) (hW:ModW U bound l) {i:InstI} (hi:i∈l):(againR s'.R (renI to i)).1=(againR s.R i).1∧∀ j∈l,(againR s'.R (renI to i)).2 (keyB (renI to j))=(againR s.R i).2 (keyB j):=by
 have eo:(renI to i).1=i.1:=rfl;unfold againR;rw [eo,hR.R i hi]
 by_cases hc:i.1=28∨i.1=30
 ·rw [if_pos hc,if_pos hc];exact ⟨rfl,hR.R⟩
 ·rw [if_neg hc,if_neg hc];refine ⟨rfl,fun j hj=>?_⟩
  unfold bump;dsimp only;rw [hR.R j hj]
  by_cases e:keyB j=keyB i
  ·rw [if_pos e,if_pos ((hW.key h hj hi).2 e)]
  ·rw [if_neg e,if_neg (fun hh=>e ((hW.key h hj hi).1 hh))]
theorem RelS.err (hR:RelS to U l s s') (h:RenOk to U b) (hW:ModW U bound l) {i:InstI} (hi:i∈l):errN s' (renI to i)=errN s i:=by
 unfold errN;dsimp only;rw [hR.one h hW hi,(hR.again h hW hi).1]
theorem RelS.next (hR:RelS to U l s s') (h:RenOk to U b) (hW:ModW U bound l) {i:InstI} (hi:i∈l):RelS to U l (nextN s i) (nextN s' (renI to i)):=by
 have h1:=hR.one h hW hi;obtain ⟨-,h2⟩:=hR.again h hW hi;have hu:=hW.used i hi;have er:(renI to i).2.2.1=to i.2.2.1:=rfl;have heq:∀ x,U x→(to x=to i.2.2.1 ↔ x=i.2.2.1):=fun x hx=>⟨h.inj _ _ hx hu.res,fun e=>by rw [e]⟩
 unfold nextN;dsimp only;rw [h1,er];dsimp only;refine ⟨fun x hx=>?_,fun x hx=>?_,fun j hj=>?_,?_,fun x hx=>?_,fun x hx=>?_,fun x hx=>?_⟩
 ·dsimp only
  by_cases hb:(oneT s.T s.M i).2.1=true
  ·rw [if_pos hb,if_pos hb]
   by_cases e:x=i.2.2.1
   ·rw [if_pos ((heq x hx).2 e),if_pos e]
   ·rw [if_neg (fun hh=>e ((heq x hx).1 hh)),if_neg e]
    exact hR.T x hx
  ·rw [if_neg hb,if_neg hb];exact hR.T x hx
 ·dsimp only
  by_cases e:x=i.2.2.1
  ·rw [if_pos ((heq x hx).2 e),if_pos e]
  ·rw [if_neg (fun hh=>e ((heq x hx).1 hh)),if_neg e]
   exact hR.M x hx
 ·dsimp only
  by_cases hb:(oneT s.T s.M i).2.1=true∧(oneT s.T s.M i).2.2=0
  ·rw [if_pos hb,if_pos hb];exact h2 j hj
  ·rw [if_neg hb,if_neg hb];exact hR.R j hj
 ·dsimp only
  by_cases hb:(oneT s.T s.M i).2.1=true
  ·rw [if_pos hb,if_pos hb,hR.ord,List.map_append];rfl
  ·rw [if_neg hb,if_neg hb];exact hR.ord
 ·dsimp only at hx
  by_cases hb:(oneT s.T s.M i).2.1=true
  ·rw [if_pos hb] at hx
   rcases List.mem_append.1 hx with hx | hx
   ·exact hR.ordU x hx
   ·rw [List.mem_singleton.1 hx];exact hu.res
  ·rw [if_neg hb] at hx;exact hR.ordU x hx
 ·dsimp only
  by_cases e:x=i.2.2.1
  ·rw [if_pos e];exact hu.ty
  ·rw [if_neg e];exact hR.mty x hx
 ·dsimp only at hx ⊢
  by_cases e:x=i.2.2.1
  ·rw [if_pos e] at hx ⊢;obtain ⟨f,wi⟩:=rawR_ok (hW.raw i hi);have hl:=args_one (hW.raw i hi) hx;refine ⟨hl,?_⟩;rw [wi.kind_at hl,hx];exact two_kinds.2.2.2.2.2.2
  ·rw [if_neg e] at hx ⊢;exact hR.min x hx
end
theorem RelS.inside {to:Int→Int} {U:Int→Prop} {l:List InstI} {s s':StN} (hR:RelS to U l s s') (hw:WellS s) (h0:U 0) (x:Int):U (s.T x).part∧∀ p∈(s.T x).parts,U p:=by
 rcases hw.ok x with e | ⟨k,hk,-,ht⟩
 ·rw [e];exact ⟨h0,fun p hp=>by cases hp⟩
 ·have hin:∀ p∈s.ord.take k,U p:=fun p hp=>hR.ordU p (List.mem_of_mem_take hp)
  generalize s.T x=y at *;cases ht with
  | void=>exact ⟨h0,fun p hp=>by cases hp⟩
  | bool=>exact ⟨h0,fun p hp=>by cases hp⟩
  | int s=>exact ⟨h0,fun p hp=>by cases hp⟩
  | vec p n h1=>exact ⟨hin _ h1,fun p hp=>by cases hp⟩
  | arr p n h1=>exact ⟨hin _ h1,fun p hp=>by cases hp⟩
  | str l s d h1 h2=>exact ⟨h0,fun p hp=>hin _ (h2 p hp)⟩
  | ptr c p h1=>exact ⟨h0,fun q hq=>by rw [List.mem_singleton.1 hq];exact hin _ h1⟩
  | fn l h1 h2=>exact ⟨h0,fun p hp=>hin _ (h2 p hp)⟩
end
section
def resAt (l:List InstI) (k:Nat):Int:=match l[k]? with
 | none=>0
 | some i=>i.2.2.1
theorem resAt_at {l:List InstI} {k:Nat} {i:InstI} (h:l[k]?=some i):resAt l k=i.2.2.1:=by unfold resAt;rw [h]
def cntN (l:List InstI):Nat→Nat
 | 0=>1
 | k+1=>if resAt l k≠0 then cntN l k+1 else cntN l k
def setO (f:Int→Option Int) (x v:Int):Int→Option Int:=fun y=>if y=x then some v else f y
def toN (l:List InstI):Nat→Int→Option Int
 | 0=>fun x=>if x=0 then some 0 else none
 | k+1=>if resAt l k≠0 then setO (toN l k) (resAt l k) (cntN l k:Int) else toN l k
structure ToOk (l:List InstI) (k:Nat):Prop where
 zero:toN l k 0=some 0
 bd:∀ x v,x≠0→toN l k x=some v→1≤v∧v<(cntN l k:Int)∧∃ j,j<k∧resAt l j=x
 has:∀ j,j<k→resAt l j≠0→∃ v,toN l k (resAt l j)=some v
 inj:∀ x y v,toN l k x=some v→toN l k y=some v→x=y
 pos:1≤cntN l k
theorem once_res {l:List InstI} (ho:Once l) {j k:Nat} (hj:j<k) (h0:resAt l k≠0):resAt l j≠resAt l k:=by
 unfold resAt at *;cases hk:l[k]? with
 | none=>rw [hk] at h0;exact absurd rfl h0
 | some i =>
  rw [hk] at h0;have hjl:j<l.length:=by
   have:=(List.getElem?_eq_some_iff.1 hk).1;omega
  rw [List.getElem?_eq_getElem hjl];exact ho j k l[j] i (List.getElem?_eq_getElem hjl) hk hj h0
theorem toN_none {l:List InstI} (ho:Once l) {k:Nat} (h:ToOk l k) (h0:resAt l k≠0):toN l k (resAt l k)=none:=by
 cases hx:toN l k (resAt l k) with
 | none=>rfl
 | some v =>
  obtain ⟨-,-,j,hj,e⟩:=h.bd _ v h0 hx;exact absurd e (once_res ho hj h0)
theorem toN_ok {l:List InstI} (ho:Once l):∀ k,ToOk l k
 | 0=>by
  refine ⟨rfl,fun x v hx h=>?_,fun j hj=>absurd hj (Nat.not_lt_zero j),fun x y v h1 h2=>?_,Nat.le_refl 1⟩
  ·unfold toN at h;rw [if_neg hx] at h;cases h
  ·unfold toN at h1 h2
   split at h1
   ·split at h2
    ·omega
    ·cases h2
   ·cases h1
 | k+1=>by
  have ih:=toN_ok ho k
  by_cases h0:resAt l k≠0
  ·have e1:toN l (k+1)=setO (toN l k) (resAt l k) (cntN l k:Int):=by show (if resAt l k≠0 then _ else _)=_;rw [if_pos h0]
   have e2:cntN l (k+1)=cntN l k+1:=by show (if resAt l k≠0 then _ else _)=_;rw [if_pos h0]
   have hn:=toN_none ho ih h0;have hp:=ih.pos;have hval:∀ x v,toN l k x=some v→v≠(cntN l k:Int):=fun x v h=>by
    by_cases hx:x=0
    ·rw [hx,ih.zero] at h;injection h with h
     omega
    ·have:=ih.bd x v hx h;omega
   rw [show ToOk l (k+1)=ToOk l (k+1) from rfl]
   refine ⟨?_,fun x v hx h=>?_,fun j hj hr=>?_,fun x y v h1 h2=>?_,by rw [e2];omega⟩
   ·rw [e1];unfold setO;rw [if_neg (fun e=>h0 e.symm)]
    exact ih.zero
   ·rw [e1] at h;rw [e2];unfold setO at h
    by_cases hx2:x=resAt l k
    ·rw [if_pos hx2] at h;injection h with h
     exact ⟨by omega,by omega,k,by omega,hx2.symm⟩
    ·rw [if_neg hx2] at h;obtain ⟨a1,a2,j,hj,e⟩:=ih.bd x v hx h;exact ⟨a1,by omega,j,by omega,e⟩
   ·rw [e1];unfold setO
    by_cases hx2:resAt l j=resAt l k
    ·rw [if_pos hx2];exact ⟨_,rfl⟩
    ·rw [if_neg hx2];exact ih.has j (by rcases Nat.lt_succ_iff_lt_or_eq.1 hj with h | rfl;exact h;exact absurd rfl hx2) hr
   ·rw [e1] at h1 h2;unfold setO at h1 h2
    by_cases hx:x=resAt l k
    ·rw [if_pos hx] at h1;injection h1 with h1
     by_cases hy:y=resAt l k
     ·omega
     ·rw [if_neg hy] at h2;exact absurd h1.symm (hval y v h2)
    ·rw [if_neg hx] at h1
     by_cases hy:y=resAt l k
     ·rw [if_pos hy] at h2;injection h2 with h2
      exact absurd h2.symm (hval x v h1)
     ·rw [if_neg hy] at h2;exact ih.inj x y v h1 h2
  ·have e1:toN l (k+1)=toN l k:=by show (if resAt l k≠0 then _ else _)=_;rw [if_neg h0]
   have e2:cntN l (k+1)=cntN l k:=by show (if resAt l k≠0 then _ else _)=_;rw [if_neg h0]
   refine ⟨by rw [e1];exact ih.zero,fun x v hx h=>?_,fun j hj hr=>?_,by rw [e1];exact ih.inj,by rw [e2];exact ih.pos⟩
   ·rw [e1] at h;rw [e2];obtain ⟨a1,a2,j,hj,e⟩:=ih.bd x v hx h;exact ⟨a1,a2,j,by omega,e⟩
   ·rw [e1];exact ih.has j (by rcases Nat.lt_succ_iff_lt_or_eq.1 hj with h | rfl;exact h;exact absurd hr h0) hr
def cb (p:Nat→Bool):Nat→Nat
 | 0=>0
 | n+1=>cb p n+(if p n=true then 1 else 0)
theorem cb_le (p:Nat→Bool):∀ n,cb p n≤n
 | 0=>Nat.le_refl 0
 | n+1=>by
  have:=cb_le p n;unfold cb
  split <;> omega
theorem cb_same {p q:Nat→Bool}:∀ n,(∀ j,j<n→p j=q j)→cb p n=cb q n
 | 0,_=>rfl
 | n+1,h=>by
  unfold cb;rw [cb_same n (fun j hj=>h j (by omega)),h n (by omega)]
theorem cb_more {p q:Nat→Bool} {r:Nat} (hr:p r=false) (hq:q r=true) (hs:∀ j,j≠r→q j=p j):∀ n,r<n→cb q n=cb p n+1
 | 0,h=>absurd h (Nat.not_lt_zero r)
 | n+1,h=>by
  unfold cb
  by_cases e:r=n
  ·subst e;rw [cb_same r (fun j hj=>hs j (by omega)),hr,hq]
   simp
  ·rw [cb_more hr hq hs n (by omega),hs n (by omega)]
   omega
theorem cntN_le {l:List InstI} {N:Nat} (ho:Once l) (hN:1≤N) (hb:∀ i∈l,0≤i.2.2.1∧i.2.2.1<(N:Int)):∀ k,cb (fun j=>(toN l k (j:Int)).isSome) N=cntN l k
 | 0=>by
  have h1:∀ n,1≤n→cb (fun j=>(toN l 0 (j:Int)).isSome) n=1:=fun n=>by
   induction n with
   | zero=>intro h;omega
   | succ n ih =>
    intro _;unfold cb
    by_cases hn:n=0
    ·subst hn;rfl
    ·rw [ih (by omega)]
     have:(toN l 0 (n:Int)).isSome=false:=by
      unfold toN;rw [if_neg (by omega)]
      rfl
     rw [this];rfl
  exact h1 N hN
 | k+1=>by
  have ih:=cntN_le ho hN hb k
  by_cases h0:resAt l k≠0
  ·have e1:toN l (k+1)=setO (toN l k) (resAt l k) (cntN l k:Int):=by show (if resAt l k≠0 then _ else _)=_;rw [if_pos h0]
   have e2:cntN l (k+1)=cntN l k+1:=by show (if resAt l k≠0 then _ else _)=_;rw [if_pos h0]
   have hn:=toN_none ho (toN_ok ho k) h0;have hr:0≤resAt l k∧resAt l k<(N:Int):=by
    unfold resAt at h0 ⊢;cases hk:l[k]? with
    | none=>rw [hk] at h0;exact absurd rfl h0
    | some i=>exact hb i (List.mem_of_getElem? hk)
   rw [e2,← ih,e1];refine cb_more (r:=(resAt l k).toNat) ?_ ?_ (fun j hj=>?_) N (by omega)
   ·rw [Int.toNat_of_nonneg hr.1,hn];rfl
   ·unfold setO;rw [Int.toNat_of_nonneg hr.1,if_pos rfl];rfl
   ·unfold setO;rw [if_neg (by omega)]
  ·have e1:toN l (k+1)=toN l k:=by show (if resAt l k≠0 then _ else _)=_;rw [if_neg h0]
   have e2:cntN l (k+1)=cntN l k:=by show (if resAt l k≠0 then _ else _)=_;rw [if_neg h0]
   rw [e1,e2,ih]
theorem madeR_res:∀ {l:List InstI} {k m:Nat} {x:Int},madeR l k x=some m→x≠0∧∃ j,j<l.length∧m=k+j∧resAt l j=x
 | [],_,_,_,h=>by cases h
 | i :: r,k,m,x,h=>by
  unfold madeR at h
  split at h
  ·rename_i hc
   injection h with h
   exact ⟨by rw [← hc.2];exact hc.1,0,by simp,by omega,hc.2⟩
  ·obtain ⟨h0,j,hj,h1,h2⟩:=madeR_res h;exact ⟨h0,j+1,by simpa using hj,by omega,h2⟩
def toF (l:List InstI) (x:Int):Int:=(toN l l.length x).getD 0
theorem toF_ok {l:List InstI} (ho:Once l):RenOk (toF l) (fun x=>x=0∨(madeR l 0 x).isSome=true) (cntN l l.length:Int):=by
 have h:=toN_ok ho l.length;have hU:∀ x,(x=0∨(madeR l 0 x).isSome=true)→∃ v,toN l l.length x=some v:=fun x hx=>by
  rcases hx with rfl | hx
  ·exact ⟨0,h.zero⟩
  ·obtain ⟨m,hm⟩:=Option.isSome_iff_exists.1 hx;obtain ⟨h0,j,hj,-,e⟩:=madeR_res hm;rw [← e];exact h.has j hj (by rw [e];exact h0)
 refine ⟨by unfold toF;rw [h.zero];rfl,.inl rfl,fun x y hx hy e=>?_,fun x hx h0=>?_⟩
 ·obtain ⟨v,hv⟩:=hU x hx;obtain ⟨u,hu⟩:=hU y hy;unfold toF at e;rw [hv,hu] at e;have e:v=u:=e;subst e;exact h.inj x y v hv hu
 ·obtain ⟨v,hv⟩:=hU x hx;unfold toF;rw [hv];have:=h.bd x v h0 hv;exact ⟨this.1,this.2.1⟩
end
end Go.Proofs.YtdebjkiilnhgpaaGreatDoor
