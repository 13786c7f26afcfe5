/- Plain: what consts and typing say of a module with other ids. -/
import Derived.Test.YtdebjkiilnhgpaaGreatDoorCVA
import Derived.Test.YtdebjkiilnhgpaaGreatDoorCUO
set_option maxHeartbeats 1000000
namespace Go.Proofs.YtdebjkiilnhgpaaGreatDoor
section
structure RenG (tq:Int→Int) (U:Int→Prop) (bound:Int) (g g':Tg):Prop where
 z:tq 0=0
 u0:U 0
 inj:∀ x y,U x→U y→tq x=tq y→x=y
 T:∀ x,U x→g'.T (tq x)=renT tq (g.T x)
 inn:∀ x,U (g.T x).part∧∀ p∈(g.T x).parts,U p
 M:∀ x,U x→g'.M (tq x)=renI tq (g.M x)
 mu:∀ x,Used U (g.M x)
 mw:∀ x,g.M x=(0,0,0,[])∨∃ f,InstW (g.M x) bound f
 C:∀ x,U x→g'.C (tq x)=(g.C x).map tq
 cu:∀ x t,g.C x=some t→U t
section
variable {tq:Int→Int} {U:Int→Prop} {bound:Int} {g g':Tg}
theorem RenG.eq (h:RenG tq U bound g g') {a b:Int} (ha:U a) (hb:U b):(tq a==tq b)=(a==b):=by
 rw [Bool.eq_iff_iff,beq_iff_eq,beq_iff_eq];exact ⟨h.inj a b ha hb,fun e=>by rw [e]⟩
theorem RenG.ne0 (h:RenG tq U bound g g') {a:Int} (ha:U a):(tq a != 0)=(a != 0):=by
 have:=h.eq ha h.u0;rw [h.z] at this;unfold bne;rw [this]
theorem RenG.prt_in (h:RenG tq U bound g g') (a k:Int):U (prt g.T a k):=by
 unfold prt partT
 split
 ·exact h.u0
 ·split
  ·exact (h.inn a).1
  ·rename_i h1 h2
   unfold cntT at h1;exact (h.inn a).2 _ (by
    have hlt:k.toNat<(g.T a).parts.length:=by omega
    unfold ix;rw [List.getD_eq_getElem?_getD,List.getElem?_eq_getElem hlt];exact List.getElem_mem hlt)
theorem cntT_ren (tq:Int→Int) (x:TyI):cntT (renT tq x)=cntT x:=by
 unfold cntT renT;dsimp only;rw [List.length_map]
theorem RenG.cnt (h:RenG tq U bound g g') {a:Int} (ha:U a):cntT (g'.T (tq a))=cntT (g.T a):=by rw [h.T a ha,cntT_ren]
theorem RenG.kind (h:RenG tq U bound g g') {a:Int} (ha:U a):(g'.T (tq a)).kind=(g.T a).kind:=by rw [h.T a ha];rfl
theorem RenG.size (h:RenG tq U bound g g') {a:Int} (ha:U a):(g'.T (tq a)).size=(g.T a).size:=by rw [h.T a ha];rfl
theorem RenG.cls (h:RenG tq U bound g g') {a:Int} (ha:U a):(g'.T (tq a)).cls=(g.T a).cls:=by rw [h.T a ha];rfl
theorem RenG.prt (h:RenG tq U bound g g') {a:Int} (ha:U a) (k:Int):prt g'.T (tq a) k=tq (prt g.T a k):=by
 unfold Go.Proofs.YtdebjkiilnhgpaaGreatDoor.prt partT;rw [h.cnt ha,h.T a ha]
 split
 ·exact h.z.symm
 ·by_cases h3:0<(g.T a).times
  ·rw [if_pos (show 0<(renT tq (g.T a)).times from h3),if_pos h3]
   rfl
  ·rename_i h1
   rw [if_neg (show ¬ 0<(renT tq (g.T a)).times from h3),if_neg h3]
   unfold cntT at h1
   show ix ((g.T a).parts.map tq) k.toNat=tq (ix (g.T a).parts k.toNat)
   have hlt:k.toNat<(g.T a).parts.length:=by omega
   unfold ix;rw [List.getD_eq_getElem?_getD,List.getD_eq_getElem?_getD,List.getElem?_map,List.getElem?_eq_getElem hlt];rfl
theorem RenG.of_in (h:RenG tq U bound g g') (a:Int):U (ofT g.M a):=by
 unfold ofT
 split
 ·exact h.u0
 ·exact (h.mu a).ty
theorem RenG.of (h:RenG tq U bound g g') {a:Int} (ha:U a):ofT g'.M (tq a)=tq (ofT g.M a):=by
 unfold ofT;rw [h.M a ha]
 show (if (g.M a).1=54 then 0 else tq (g.M a).2.1)=_
 split
 ·exact h.z.symm
 ·rfl
theorem RenG.to_in (h:RenG tq U bound g g') (a:Int):U (toT g.T a).1:=by
 unfold toT
 split
 ·exact h.prt_in a 0
 ·exact h.u0
theorem RenG.toT (h:RenG tq U bound g g') {a:Int} (ha:U a):(Go.Proofs.YtdebjkiilnhgpaaGreatDoor.toT g'.T (tq a)).1=tq (Go.Proofs.YtdebjkiilnhgpaaGreatDoor.toT g.T a).1∧(Go.Proofs.YtdebjkiilnhgpaaGreatDoor.toT g'.T (tq a)).2=(Go.Proofs.YtdebjkiilnhgpaaGreatDoor.toT g.T a).2:=by
 unfold Go.Proofs.YtdebjkiilnhgpaaGreatDoor.toT;rw [h.kind ha]
 split
 ·exact ⟨h.prt ha 0,h.cls ha⟩
 ·exact ⟨h.z.symm,rfl⟩
theorem RenG.leaf (h:RenG tq U bound g g') {a:Int} (ha:U a):leafK g'.T (tq a)=leafK g.T a:=by
 unfold leafK;rw [h.kind ha,h.prt ha,h.kind (h.prt_in a 0)]
theorem RenG.wide (h:RenG tq U bound g g') {a b:Int} (ha:U a) (hb:U b):wideB g'.T (tq a) (tq b)=wideB g.T a b:=by
 unfold wideB;rw [h.kind ha,h.kind hb,h.cnt ha,h.cnt hb]
theorem allN_map {f f':Int→Int→Bool} {l m:List Int} (hf:∀ a∈l,∀ b∈m,f' (tq a) (tq b)=f a b):∀ k,k≤l.length→k≤m.length→allN f' (l.map tq) (m.map tq) k=allN f l m k
 | 0,_,_=>rfl
 | k+1,h1,h2=>by
  unfold allN;have e:∀ {l:List Int},k+1≤l.length→ix (l.map tq) k=tq (ix l k)∧ix l k∈l:=fun {l} hl=>by
   unfold ix;rw [List.getD_eq_getElem?_getD,List.getD_eq_getElem?_getD,List.getElem?_map,List.getElem?_eq_getElem hl];exact ⟨rfl,List.getElem_mem hl⟩
  rw [allN_map hf k (by omega) (by omega),(e h1).1,(e h2).1,hf _ (e h1).2 _ (e h2).2]
theorem RenG.alikeT (h:RenG tq U bound g g'):∀ (q:Nat) {a b:Int},U a→U b→Go.Proofs.YtdebjkiilnhgpaaGreatDoor.alikeT g'.T q (tq a) (tq b)=Go.Proofs.YtdebjkiilnhgpaaGreatDoor.alikeT g.T q a b
 | 0,_,_,_,_=>rfl
 | q+1,a,b,ha,hb=>by
  have h1:=h.alikeT q (h.inn a).1 (h.inn b).1;unfold Go.Proofs.YtdebjkiilnhgpaaGreatDoor.alikeT;rw [h.T a ha,h.T b hb];unfold renT;dsimp only;rw [List.length_map,List.length_map,h1]
  split
  ·rfl
  ·rename_i hc
   simp only [not_or,Decidable.not_not,ne_eq] at hc;rw [allN_map (fun x hx y hy=>h.alikeT q ((h.inn a).2 x hx) ((h.inn b).2 y hy)) _ (Nat.le_refl _) (by omega)]
theorem RenG.alk (h:RenG tq U bound g g') {a b:Int} (ha:U a) (hb:U b):Go.Proofs.YtdebjkiilnhgpaaGreatDoor.alk g'.T (tq a) (tq b)=Go.Proofs.YtdebjkiilnhgpaaGreatDoor.alk g.T a b:=h.alikeT 17 ha hb
theorem RenG.alkL (h:RenG tq U bound g g') {ty:Int} (ht:U ty):∀ {l:List Int},(∀ x∈l,U x)→Go.Proofs.YtdebjkiilnhgpaaGreatDoor.alkL g' (tq ty) (l.map tq)=Go.Proofs.YtdebjkiilnhgpaaGreatDoor.alkL g ty l
 | [],_=>rfl
 | a :: r,hl=>by
  have ih:=h.alkL ht (fun x hx=>hl x (List.mem_cons_of_mem _ hx))
  unfold Go.Proofs.YtdebjkiilnhgpaaGreatDoor.alkL at ih ⊢;rw [List.map_cons,List.all_cons,List.all_cons,ih,h.of (hl a List.mem_cons_self),h.alk ht (h.of_in a)]
theorem RenG.numL (h:RenG tq U bound g g'):∀ {l:List Int},(∀ x∈l,U x)→Go.Proofs.YtdebjkiilnhgpaaGreatDoor.numL g' (l.map tq)=Go.Proofs.YtdebjkiilnhgpaaGreatDoor.numL g l
 | [],_=>rfl
 | a :: r,hl=>by
  have ih:=h.numL (fun x hx=>hl x (List.mem_cons_of_mem _ hx))
  unfold Go.Proofs.YtdebjkiilnhgpaaGreatDoor.numL at ih ⊢;rw [List.map_cons,List.all_cons,List.all_cons,ih,h.of (hl a List.mem_cons_self),h.kind (h.of_in a)]
theorem RenG.sigR (h:RenG tq U bound g g') {f:Int} (hf:U f):∀ {l:List Int} {k:Nat},(∀ x∈l,U x)→Go.Proofs.YtdebjkiilnhgpaaGreatDoor.sigR g'.T (tq f) (l.map tq) k=Go.Proofs.YtdebjkiilnhgpaaGreatDoor.sigR g.T f l k
 | [],_,_=>rfl
 | a :: r,k,hl=>by
  rw [List.map_cons];unfold Go.Proofs.YtdebjkiilnhgpaaGreatDoor.sigR;rw [h.sigR hf (fun x hx=>hl x (List.mem_cons_of_mem _ hx)),h.prt hf,h.eq (h.prt_in f _) (hl a List.mem_cons_self)]
theorem RenG.sigB (h:RenG tq U bound g g') {f back:Int} (hf:U f) (hb:U back) {l:List Int} (hl:∀ x∈l,U x):Go.Proofs.YtdebjkiilnhgpaaGreatDoor.sigB g'.T (tq f) (tq back) (l.map tq)=Go.Proofs.YtdebjkiilnhgpaaGreatDoor.sigB g.T f back l:=by
 unfold Go.Proofs.YtdebjkiilnhgpaaGreatDoor.sigB;rw [h.kind hf,h.cnt hf,List.length_map,h.prt hf,h.eq (h.prt_in f 0) hb,h.sigR hf hl]
theorem parL_ren (tq:Int→Int):∀ r:List InstI,parL (r.map (renI tq))=(parL r).map tq
 | []=>rfl
 | i :: r=>by
  rw [List.map_cons];unfold parL;rw [parL_ren tq r]
  show (if i.1=55 then tq i.2.1 :: _ else [])=_
  split
  ·rfl
  ·rfl
theorem parL_in:∀ {r:List InstI},(∀ i∈r,U i.2.1)→∀ x∈parL r,U x
 | [],_,x,hx=>by cases hx
 | i :: r,h,x,hx=>by
  unfold parL at hx
  split at hx
  ·rcases List.mem_cons.1 hx with rfl | hx
   ·exact h i List.mem_cons_self
   ·exact parL_in (fun j hj=>h j (List.mem_cons_of_mem _ hj)) x hx
  ·cases hx
theorem RenG.num43 (h:RenG tq U bound g g') {a:Int} (ha:U a) (h43:(g.M a).1=43):ixn (nums (g'.M (tq a)).2.2.2) 0=ixn (nums (g.M a).2.2.2) 0:=by
 rw [h.M a ha]
 rcases h.mw a with e | ⟨f,hw⟩
 ·rw [e] at h43;cases h43
 ·have hl:=hw.least;rw [h43] at hl;have hl:0<(g.M a).2.2.2.length:=hl
  show ixn (nums ((g.M a).2.2.2.map (renA tq))) 0=_
  rw [nums_at hl,if_neg];rw [hw.kind_at hl,h43,two_kinds.2.2.2.2.2.2]
  decide
theorem RenG.chain (h:RenG tq U bound g g'):∀ {l:List Int} {ty:Int},U ty→(∀ x∈l,U x)→chainR g' (tq ty) (l.map tq)=(chainR g ty l).map tq∧∀ t,chainR g ty l=some t→U t
 | [],ty,ht,_=>⟨rfl,fun t e=>by cases e;exact ht⟩
 | a :: r,ty,ht,hl=>by
  have ha:=hl a List.mem_cons_self;have hr:∀ x∈r,U x:=fun x hx=>hl x (List.mem_cons_of_mem _ hx)
  rw [List.map_cons];unfold chainR;rw [h.kind ht,h.cnt ht,h.of ha,h.kind (h.of_in a),show (g'.M (tq a)).1=(g.M a).1 by rw [h.M a ha];rfl]
  by_cases h6:(g.T ty).kind=6
  ·rw [if_pos h6,if_pos h6]
   by_cases h43:(g.M a).1=43
   ·rw [h.num43 ha h43]
    by_cases hc:(g.M a).1≠43∨cntT (g.T ty)≤ixn (nums (g.M a).2.2.2) 0
    ·rw [if_pos hc,if_pos hc];exact ⟨by show some 0=some (tq 0);rw [h.z],fun t e=>by cases e;exact h.u0⟩
    ·rw [if_neg hc,if_neg hc,h.prt ht];exact h.chain (h.prt_in ty _) hr
   ·rw [if_pos (.inl h43),if_pos (.inl h43)];exact ⟨by show some 0=some (tq 0);rw [h.z],fun t e=>by cases e;exact h.u0⟩
  ·rw [if_neg h6,if_neg h6]
   split
   ·split
    ·rw [h.prt ht];exact h.chain (h.prt_in ty _) hr
    ·exact ⟨rfl,fun t e=>by cases e⟩
   ·exact ⟨rfl,fun t e=>by cases e⟩
theorem RenG.pathR (h:RenG tq U bound g g'):∀ {l:List Int} {ty:Int},U ty→Go.Proofs.YtdebjkiilnhgpaaGreatDoor.pathR g'.T (tq ty) l=tq (Go.Proofs.YtdebjkiilnhgpaaGreatDoor.pathR g.T ty l)∧U (Go.Proofs.YtdebjkiilnhgpaaGreatDoor.pathR g.T ty l)
 | [],ty,ht=>⟨rfl,ht⟩
 | a :: r,ty,ht=>by
  unfold Go.Proofs.YtdebjkiilnhgpaaGreatDoor.pathR;rw [h.cnt ht]
  split
  ·exact ⟨h.z.symm,h.u0⟩
  ·rw [h.prt ht];exact h.pathR (h.prt_in ty a)
theorem RenG.pathT (h:RenG tq U bound g g') {l:List Int} {ty:Int} (ht:U ty):Go.Proofs.YtdebjkiilnhgpaaGreatDoor.pathT g'.T (tq ty) l=tq (Go.Proofs.YtdebjkiilnhgpaaGreatDoor.pathT g.T ty l)∧U (Go.Proofs.YtdebjkiilnhgpaaGreatDoor.pathT g.T ty l):=by
 unfold Go.Proofs.YtdebjkiilnhgpaaGreatDoor.pathT;rw [h.size ht]
 split
 ·exact h.pathR ht
 ·exact ⟨h.z.symm,h.u0⟩
theorem RenG.consR (h:RenG tq U bound g g') {ty:Int} (ht:U ty):∀ {l:List Int} {k:Nat},(∀ x∈l,U x)→Go.Proofs.YtdebjkiilnhgpaaGreatDoor.consR g' (tq ty) (l.map tq) k=Go.Proofs.YtdebjkiilnhgpaaGreatDoor.consR g ty l k
 | [],_,_=>rfl
 | a :: r,k,hl=>by
  rw [List.map_cons];unfold Go.Proofs.YtdebjkiilnhgpaaGreatDoor.consR;rw [h.consR ht (fun x hx=>hl x (List.mem_cons_of_mem _ hx)),h.prt ht,h.of (hl a List.mem_cons_self),h.eq (h.of_in a) (h.prt_in ty _)]
theorem RenG.phiR (h:RenG tq U bound g g') {ty:Int} (ht:U ty):∀ {l:List Int} {k:Nat},(∀ x∈l,U x)→Go.Proofs.YtdebjkiilnhgpaaGreatDoor.phiR g' (tq ty) (l.map tq) k=Go.Proofs.YtdebjkiilnhgpaaGreatDoor.phiR g ty l k
 | [],_,_=>rfl
 | a :: r,k,hl=>by
  rw [List.map_cons];unfold Go.Proofs.YtdebjkiilnhgpaaGreatDoor.phiR;rw [h.phiR ht (fun x hx=>hl x (List.mem_cons_of_mem _ hx)),h.of (hl a List.mem_cons_self),h.eq (h.of_in a) ht]
end
def allIds (op:Int):Bool:=op==44||op==57||op==65||op==80||op==245||(decide (124≤op)&&decide (op≤205))
theorem allIds_forms:((List.range 256).all fun k=>!allIds (k:Nat)||match formOf (k:Nat) with | some f=>(f.fixed++f.rest).all (fun c=>decide (kindT (c.toNat:Int)=1)) | none=>true)=true:=by decide +kernel
theorem InstW.ids_all {i:InstI} {bound:Int} {f:FormI} (h:InstW i bound f) (ho:allIds i.1=true):∀ a∈i.2.2.2,a.1=1:=by
 intro a ha;obtain ⟨k,hk,rfl⟩:=List.getElem_of_mem ha;have h1:=argE_ok (h.args k hk);rw [ag_of hk] at h1;have h2:=allIds_forms;rw [List.all_eq_true] at h2;have hb:0≤i.1∧i.1<256:=by
  unfold allIds at ho;simp only [Bool.or_eq_true,Bool.and_eq_true,decide_eq_true_eq,beq_iff_eq] at ho;omega
 have h3:=h2 i.1.toNat (List.mem_range.2 (by omega))
 rw [show ((i.1.toNat:Nat):Int)=i.1 by omega,h.form,ho] at h3
 simp only [Bool.not_true,Bool.false_or,List.all_eq_true,decide_eq_true_eq] at h3
 rcases letter_in h.form k with h4 | ⟨c,hc,h4⟩
 ·exact absurd h4 h1.1
 ·rw [h1.2.1,h4,h3 c hc]
def idT:List (Int × Nat × Int):=[(54,1,1),(59,0,4),(59,1,1),(61,0,1),(62,0,1),(62,1,1),(77,0,1),(77,1,1),(78,0,1),(78,1,1),(78,2,1),(79,0,1),(79,1,1),(81,0,1),(82,0,1),(82,1,1),(83,0,1),(250,0,1),(251,0,1),(254,0,1)]
theorem idT_forms:(idT.all fun x=>decide (kindT (letterOf x.1 x.2.1)=x.2.2))=true:=by decide +kernel
theorem InstW.kind_of {i:InstI} {bound:Int} {f:FormI} (h:InstW i bound f) {k:Nat} {kd:Int} (hk:k<i.2.2.2.length) (hm:(i.1,k,kd)∈idT):(ag i.2.2.2 k).1=kd:=by
 have h1:=idT_forms;rw [List.all_eq_true] at h1;have h2:=h1 _ hm;rw [decide_eq_true_eq] at h2;rw [h.kind_at hk];exact h2
theorem behind_forms:kindT 110=2∧([(79,2),(81,1),(82,2)].all fun (x:Int × Nat)=>match formOf x.1 with | some f=>decide (f.fixed.length=x.2)&&f.rest.all (fun c=>decide (kindT (c.toNat:Int)=2)) | none=>false)=true:=by decide +kernel
end
section
theorem letter_rest {op:Int} {f:FormI} (hf:formOf op=some f) {k:Nat} (hk:f.fixed.length≤k):letterOf op k=0∨∃ c∈f.rest,letterOf op k=(c.toNat:Int):=by
 unfold letterOf;rw [hf]
 show letterB (bs f.fixed) (bs f.rest) f.most k=0∨∃ c∈f.rest,letterB (bs f.fixed) (bs f.rest) f.most k=(c.toNat:Int)
 have hm:∀ (l:List UInt8) (j:Nat) (h:j<(bs l).size),(bs l)[j]∈l:=fun l j h=>by
  have h2:(bs l)[j]∈(bs l).data.toList:=by rw [Array.mem_toList_iff];exact Array.getElem_mem _
  exact h2
 have e1:(bs f.fixed).size=f.fixed.length:=bs_size f.fixed;have e3:fixedB (bs f.fixed) k=0:=by unfold fixedB;rw [dif_neg (by rw [e1];omega)]
 unfold letterB;rw [if_pos e3];unfold restB
 split
 ·exact .inl rfl
 ·split
  ·exact .inr ⟨_,hm _ _ _,rfl⟩
  ·exact .inl rfl
theorem InstW.behind {i:InstI} {bound:Int} {f:FormI} (h:InstW i bound f) {n:Nat} (hm:(i.1,n)∈[((79:Int),2),(81,1),(82,2)]) {k:Nat} (hn:n≤k) (hk:k<i.2.2.2.length):(ag i.2.2.2 k).1≠1:=by
 have h1:=argE_ok (h.args k hk);have h2:=behind_forms.2;rw [List.all_eq_true] at h2;have h3:=h2 _ hm;dsimp only at h3;rw [h.form] at h3;simp only [Bool.and_eq_true,decide_eq_true_eq,List.all_eq_true] at h3
 rcases letter_rest h.form (k:=k) (by omega) with h4 | ⟨c,hc,h4⟩
 ·exact absurd h4 h1.1
 ·rw [h1.2.1,h4,h3.2 c hc]
  decide
theorem nums_drop_ren {tq:Int→Int} {l:List ArgI} {n:Nat} (h:∀ k,n≤k→k<l.length→(ag l k).1≠1):(nums (l.map (renA tq))).drop n=(nums l).drop n:=by
 apply List.ext_getElem?
 intro j;rw [List.getElem?_drop,List.getElem?_drop];unfold nums;rw [List.getElem?_map,List.getElem?_map,List.getElem?_map]
 rcases Nat.lt_or_ge (n+j) l.length with hlt | hge
 ·have:=h (n+j) (by omega) hlt
  rw [ag_of hlt] at this;rw [List.getElem?_eq_getElem hlt]
  show some (renA tq l[n+j]).2.1=some l[n+j].2.1
  rw [renA_other this]
 ·rw [List.getElem?_eq_none hge];rfl
section
variable {tq:Int→Int} {U:Int→Prop} {bound:Int} {g g':Tg}
theorem RenG.argk (h:RenG tq U bound g g') {i:InstI} (hu:Used U i) {k:Nat} (hk:k<i.2.2.2.length) (h1:(ag i.2.2.2 k).1=1):ixn (nums (i.2.2.2.map (renA tq))) k=tq (ixn (nums i.2.2.2) k)∧U (ixn (nums i.2.2.2) k):=by
 have _:=h;refine ⟨by rw [nums_at hk,if_pos h1],?_⟩
 rw [nums_getD hk];exact hu.args _ (ag_mem hk) h1
theorem used_all {i:InstI} (hu:Used U i) (h1:∀ a∈i.2.2.2,a.1=1):∀ x∈nums i.2.2.2,U x:=fun x hx=>by
 unfold nums at hx;obtain ⟨a,ha,rfl⟩:=List.mem_map.1 hx;exact hu.args a ha (h1 a ha)
theorem map_of (h:RenG tq U bound g g'):∀ {l:List Int},(∀ x∈l,U x)→(l.map tq).map (ofT g'.M)=(l.map (ofT g.M)).map tq
 | [],_=>rfl
 | a :: r,hl=>by
  simp only [List.map_cons];rw [h.of (hl a List.mem_cons_self)];have:=map_of h (l:=r) (fun x hx=>hl x (List.mem_cons_of_mem _ hx))
  rw [this]
theorem optEq {tq:Int→Int} {U:Int→Prop} (inj:∀ x y,U x→U y→tq x=tq y→x=y) {o:Option Int} {p:Int} (ho:∀ t,o=some t→U t) (hp:U p):(o.map tq==some (tq p))=(o==some p):=by
 cases o with
 | none=>rfl
 | some t =>
  show (some (tq t)==some (tq p))=(some t==some p)
  rw [Bool.eq_iff_iff,beq_iff_eq,beq_iff_eq];exact ⟨fun e=>by injection e with e;rw [inj t p (ho t rfl) hp e],fun e=>by injection e with e;rw [e]⟩
theorem RenG.mem (h:RenG tq U bound g g') {i:InstI} {f:FormI} (hw:InstW i bound f) (hu:Used U i):memB g' i.1 (tq i.2.1) (nums (i.2.2.2.map (renA tq)))=memB g i.1 i.2.1 (nums i.2.2.2):=by
 have hl:=hw.least;have ht:=hu.ty;have hk:∀ k,k<i.2.2.2.length→(ag i.2.2.2 k).1=1→ixn (nums (i.2.2.2.map (renA tq))) k=tq (ixn (nums i.2.2.2) k)∧U (ixn (nums i.2.2.2) k):=fun k hk h1=>h.argk hu hk h1
 have hall:allIds i.1=true→nums (i.2.2.2.map (renA tq))=(nums i.2.2.2).map tq∧∀ x∈nums i.2.2.2,U x:=fun ha=>⟨nums_ids (hw.ids_all ha),used_all hu (hw.ids_all ha)⟩
 have hd:∀ {n:Nat},(∀ x∈nums i.2.2.2,U x)→∀ x∈(nums i.2.2.2).drop n,U x:=fun hx x hm=>hx x (List.mem_of_mem_drop hm)
 unfold memB;dsimp only
 by_cases c:i.1=57
 ·rw [if_pos c,if_pos c];obtain ⟨e,hU⟩:=hall (by rw [c];decide)
  have hn:0<i.2.2.2.length:=by rw [c] at hl;exact hl
  obtain ⟨e0,u0⟩:=hk 0 hn (hw.ids_all (by rw [c];decide) _ (ag_mem hn))
  rw [e0,h.M _ u0,e]
  show ((g.M (ixn (nums i.2.2.2) 0)).1==54&&Go.Proofs.YtdebjkiilnhgpaaGreatDoor.sigB g'.T (ixn (nums ((g.M (ixn (nums i.2.2.2) 0)).2.2.2.map (renA tq))) 1) _ _)=_
  cases h54:((g.M (ixn (nums i.2.2.2) 0)).1==54) with
  | false=>rfl
  | true =>
   have h54:(g.M (ixn (nums i.2.2.2) 0)).1=54:=by simpa using h54
   rcases h.mw (ixn (nums i.2.2.2) 0) with e9 | ⟨f2,hw2⟩
   ·rw [e9] at h54;cases h54
   ·have hl2:=hw2.least;rw [h54] at hl2;have hl2:2≤(g.M (ixn (nums i.2.2.2) 0)).2.2.2.length:=hl2;obtain ⟨e1,u1⟩:=h.argk (h.mu (ixn (nums i.2.2.2) 0)) (k:=1) (by omega) (hw2.kind_of (by omega) (by rw [h54];decide))
    rw [e1,← List.map_drop,map_of h (hd hU)];rw [h.sigB u1 ht (fun x hx=>by obtain ⟨y,_,rfl⟩:=List.mem_map.1 hx;exact h.of_in y)]
 rw [if_neg c,if_neg c]
 by_cases c:i.1=59
 ·rw [if_pos c,if_pos c];obtain ⟨e1,e2⟩:=h.toT ht;rw [e1,e2,h.ne0 (h.to_in _),nums_len,List.length_map,nums_len];congr 1
  by_cases hn:1<i.2.2.2.length
  ·obtain ⟨e0,u0⟩:=hk 1 hn (hw.kind_of hn (by rw [c];decide))
   rw [e0,h.C _ u0,optEq h.inj (h.cu _) (h.to_in _)]
  ·have hn:1≤i.2.2.2.length:=by rw [c] at hl;exact hl
   rw [show (i.2.2.2.length==1)=true by simp;omega]
   rfl
 rw [if_neg c,if_neg c]
 by_cases c:i.1=61
 ·rw [if_pos c,if_pos c];have hn:0<i.2.2.2.length:=by rw [c] at hl;exact hl
  obtain ⟨e0,u0⟩:=hk 0 hn (hw.kind_of hn (by rw [c];decide))
  rw [e0,h.of u0,(h.toT (h.of_in _)).1,h.ne0 (h.to_in _),h.eq (h.to_in _) ht]
 rw [if_neg c,if_neg c]
 by_cases c:i.1=62
 ·rw [if_pos c,if_pos c];have hn:2≤i.2.2.2.length:=by rw [c] at hl;exact hl
  obtain ⟨e0,u0⟩:=hk 0 (by omega) (hw.kind_of (by omega) (by rw [c];decide))
  obtain ⟨e1,u1⟩:=hk 1 (by omega) (hw.kind_of (by omega) (by rw [c];decide))
  rw [e0,e1,h.of u0,h.of u1,(h.toT (h.of_in _)).1,(h.toT (h.of_in _)).2,h.ne0 (h.to_in _),h.eq (h.to_in _) (h.of_in _)]
 rw [if_neg c,if_neg c]
 by_cases c:i.1=65
 ·rw [if_pos c,if_pos c];obtain ⟨e,hU⟩:=hall (by rw [c];decide)
  have hn:0<i.2.2.2.length:=by rw [c] at hl;exact hl
  obtain ⟨e0,u0⟩:=hk 0 hn (hw.ids_all (by rw [c];decide) _ (ag_mem hn))
  rw [e0,e,h.of u0,(h.toT (h.of_in _)).1,(h.toT (h.of_in _)).2,(h.toT ht).1,(h.toT ht).2,h.ne0 (h.to_in _),h.ne0 (h.to_in _),← List.map_drop,(h.chain (h.to_in _) (hd hU)).1];rw [optEq h.inj (h.chain (h.to_in _) (hd hU)).2 (h.to_in _)]
 rw [if_neg c,if_neg c]
 by_cases c:i.1=77
 ·rw [if_pos c,if_pos c];have hn:2≤i.2.2.2.length:=by rw [c] at hl;exact hl
  obtain ⟨e0,u0⟩:=hk 0 (by omega) (hw.kind_of (by omega) (by rw [c];decide))
  obtain ⟨e1,u1⟩:=hk 1 (by omega) (hw.kind_of (by omega) (by rw [c];decide))
  have hN:=h.numL (l:=[ixn (nums i.2.2.2) 1]) (fun x hx=>by rw [List.mem_singleton.1 hx];exact u1)
  rw [e0,e1,h.of u0,h.kind (h.of_in _),h.prt (h.of_in _),h.eq (h.prt_in _ _) ht,← hN];rfl
 rw [if_neg c,if_neg c]
 by_cases c:i.1=78
 ·rw [if_pos c,if_pos c];have hn:3≤i.2.2.2.length:=by rw [c] at hl;exact hl
  obtain ⟨e0,u0⟩:=hk 0 (by omega) (hw.kind_of (by omega) (by rw [c];decide))
  obtain ⟨e1,u1⟩:=hk 1 (by omega) (hw.kind_of (by omega) (by rw [c];decide))
  obtain ⟨e2,u2⟩:=hk 2 (by omega) (hw.kind_of (by omega) (by rw [c];decide))
  have hN:=h.numL (l:=[ixn (nums i.2.2.2) 2]) (fun x hx=>by rw [List.mem_singleton.1 hx];exact u2)
  rw [e0,e1,e2,h.of u0,h.of u1,h.kind ht,h.prt ht,h.eq (h.of_in _) ht,h.eq (h.of_in _) (h.prt_in _ _),← hN];rfl
 rw [if_neg c,if_neg c]
 by_cases c:i.1=79
 ·rw [if_pos c,if_pos c];have hn:2≤i.2.2.2.length:=by rw [c] at hl;exact hl
  obtain ⟨e0,u0⟩:=hk 0 (by omega) (hw.kind_of (by omega) (by rw [c];decide))
  obtain ⟨e1,u1⟩:=hk 1 (by omega) (hw.kind_of (by omega) (by rw [c];decide))
  rw [nums_drop_ren (fun k hn hk=>hw.behind (n:=2) (by rw [c];decide) hn hk),e0,e1,h.of u0,h.of u1]
  simp only [List.all_cons,List.all_nil];rw [h.kind ht,h.kind (h.of_in _),h.kind (h.of_in _),h.prt ht,h.prt (h.of_in _),h.prt (h.of_in _),h.eq (h.prt_in _ _) (h.prt_in _ _),h.eq (h.prt_in _ _) (h.prt_in _ _),h.eq (h.prt_in _ _) (h.prt_in _ _),h.cnt ht,h.cnt (h.of_in _),h.cnt (h.of_in _)]
 rw [if_neg c,if_neg c]
 by_cases c:i.1=80
 ·rw [if_pos c,if_pos c];obtain ⟨e,hU⟩:=hall (by rw [c];decide)
  rw [e,h.kind ht,h.cnt ht,List.length_map,h.consR ht hU]
 rw [if_neg c,if_neg c]
 by_cases c:i.1=81
 ·rw [if_pos c,if_pos c];have hn:0<i.2.2.2.length:=by rw [c] at hl;exact hl
  obtain ⟨e0,u0⟩:=hk 0 hn (hw.kind_of hn (by rw [c];decide))
  rw [nums_drop_ren (fun k hn hk=>hw.behind (n:=1) (by rw [c];decide) hn hk),e0,h.of u0,(h.pathT (h.of_in _)).1,h.ne0 (h.pathT (h.of_in _)).2,h.eq (h.pathT (h.of_in _)).2 ht]
 rw [if_neg c,if_neg c]
 by_cases c:i.1=82
 ·rw [if_pos c,if_pos c];have hn:2≤i.2.2.2.length:=by rw [c] at hl;exact hl
  obtain ⟨e0,u0⟩:=hk 0 (by omega) (hw.kind_of (by omega) (by rw [c];decide))
  obtain ⟨e1,u1⟩:=hk 1 (by omega) (hw.kind_of (by omega) (by rw [c];decide))
  rw [nums_drop_ren (fun k hn hk=>hw.behind (n:=2) (by rw [c];decide) hn hk),e0,e1,h.of u0,h.of u1,(h.pathT ht).1,h.ne0 (h.pathT ht).2,h.eq (h.of_in _) ht,h.eq (h.of_in _) (h.pathT ht).2]
 rw [if_neg c,if_neg c]
 by_cases c:i.1=83
 ·rw [if_pos c,if_pos c];have hn:0<i.2.2.2.length:=by rw [c] at hl;exact hl
  obtain ⟨e0,u0⟩:=hk 0 hn (hw.kind_of hn (by rw [c];decide))
  rw [e0,h.of u0,h.size ht,h.eq (h.of_in _) ht]
 rw [if_neg c,if_neg c]
theorem RenG.ask (h:RenG tq U bound g g') {i:InstI} {f:FormI} (hw:InstW i bound f) (hu:Used U i) {back:Int} (hb:U back):askB g' i.1 (tq i.2.1) (nums (i.2.2.2.map (renA tq))) (tq back)=askB g i.1 i.2.1 (nums i.2.2.2) back:=by
 have hl:=hw.least;have ht:=hu.ty;have hk:∀ k,k<i.2.2.2.length→(ag i.2.2.2 k).1=1→ixn (nums (i.2.2.2.map (renA tq))) k=tq (ixn (nums i.2.2.2) k)∧U (ixn (nums i.2.2.2) k):=fun k hk h1=>h.argk hu hk h1
 have hall:allIds i.1=true→nums (i.2.2.2.map (renA tq))=(nums i.2.2.2).map tq∧∀ x∈nums i.2.2.2,U x:=fun ha=>⟨nums_ids (hw.ids_all ha),used_all hu (hw.ids_all ha)⟩
 have hids:124≤i.1→i.1≤205→allIds i.1=true:=fun h1 h2=>by
  unfold allIds;rw [decide_eq_true h1,decide_eq_true h2];simp
 have hix:allIds i.1=true→∀ k,k<i.2.2.2.length→ixn (nums (i.2.2.2.map (renA tq))) k=tq (ixn (nums i.2.2.2) k)∧U (ixn (nums i.2.2.2) k):=fun ha k hkl=>hk k hkl (hw.ids_all ha _ (ag_mem hkl))
 unfold askB;dsimp only
 by_cases c:149≤i.1∧i.1≤152
 ·rw [if_pos c,if_pos c];obtain ⟨e,hU⟩:=hall (hids (by omega) (by omega))
  rw [e,h.kind ht,h.cnt ht,h.prt ht,h.prt ht,h.eq (h.prt_in _ _) (h.prt_in _ _),h.leaf (h.prt_in _ _),h.alkL (h.prt_in _ _) hU]
 rw [if_neg c,if_neg c]
 by_cases c:i.1=154∨i.1=155
 ·rw [if_pos c,if_pos c];have hn:1≤argN i.1:=by unfold argN;rw [if_pos (by omega)];exact Nat.le_refl _
  obtain ⟨e0,u0⟩:=hix (hids (by omega) (by omega)) 0 (by omega)
  rw [e0,h.of u0,h.kind ht,h.kind (h.of_in _),h.leaf (h.of_in _)]
 rw [if_neg c,if_neg c]
 by_cases c:164≤i.1∧i.1≤168
 ·rw [if_pos c,if_pos c];obtain ⟨e,hU⟩:=hall (hids (by omega) (by omega))
  rw [e,h.leaf ht,h.alkL ht hU]
 rw [if_neg c,if_neg c]
 by_cases c:i.1=169
 ·rw [if_pos c,if_pos c];have hn:3≤i.2.2.2.length:=by rw [c] at hl;exact hl
  have ha:=hids (by omega) (by omega)
  obtain ⟨e0,u0⟩:=hix ha 0 (by omega)
  obtain ⟨e1,u1⟩:=hix ha 1 (by omega)
  obtain ⟨e2,u2⟩:=hix ha 2 (by omega)
  rw [e0,e1,e2,h.of u0,h.of u1,h.of u2,h.leaf ht,h.leaf (h.of_in _),h.eq (h.of_in _) ht,h.eq (h.of_in _) ht,h.wide (h.of_in _) ht]
 rw [if_neg c,if_neg c]
 by_cases c:170≤i.1∧i.1≤179
 ·rw [if_pos c,if_pos c];have hn:2≤argN i.1:=by unfold argN;rw [if_neg (by omega),if_pos (by omega)];exact Nat.le_refl _
  have ha:=hids (by omega) (by omega)
  obtain ⟨e0,u0⟩:=hix ha 0 (by omega)
  obtain ⟨e1,u1⟩:=hix ha 1 (by omega)
  have hA:=h.alkL (h.of_in (ixn (nums i.2.2.2) 0)) (l:=[ixn (nums i.2.2.2) 1]) (fun x hx=>by rw [List.mem_singleton.1 hx];exact u1)
  rw [e0,e1,h.of u0,h.leaf ht,h.leaf (h.of_in _),h.wide (h.of_in _) ht,← hA];rfl
 rw [if_neg c,if_neg c]
 by_cases c:201≤i.1∧i.1≤203
 ·rw [if_pos c,if_pos c];obtain ⟨e,hU⟩:=hall (hids (by omega) (by omega))
  rw [e,h.leaf ht,List.length_map,← List.map_take,← List.map_drop,h.alkL ht (fun x hx=>hU x (List.mem_of_mem_take hx)),h.numL (fun x hx=>hU x (List.mem_of_mem_drop hx))]
 rw [if_neg c,if_neg c]
 by_cases c:124≤i.1∧i.1≤205
 ·rw [if_pos c,if_pos c];obtain ⟨e,hU⟩:=hall (hids (by omega) (by omega))
  rw [e,h.leaf ht,h.alkL ht hU]
 rw [if_neg c,if_neg c]
 by_cases c:i.1=245
 ·rw [if_pos c,if_pos c];obtain ⟨e,hU⟩:=hall (by rw [c];decide)
  rw [e,h.phiR ht hU,h.size ht]
 rw [if_neg c,if_neg c]
 by_cases c:i.1=250
 ·rw [if_pos c,if_pos c];have hn:0<i.2.2.2.length:=by rw [c] at hl;exact hl
  obtain ⟨e0,u0⟩:=hk 0 hn (hw.kind_of hn (by rw [c];decide))
  rw [e0,h.of u0,h.kind (h.of_in _)]
 rw [if_neg c,if_neg c]
 by_cases c:i.1=251
 ·rw [if_pos c,if_pos c];have hn:0<i.2.2.2.length:=by rw [c] at hl;exact hl
  obtain ⟨e0,u0⟩:=hk 0 hn (hw.kind_of hn (by rw [c];decide))
  have hN:=h.numL (l:=[ixn (nums i.2.2.2) 0]) (fun x hx=>by rw [List.mem_singleton.1 hx];exact u0)
  rw [e0,← hN];rfl
 rw [if_neg c,if_neg c]
 by_cases c:i.1=253
 ·rw [if_pos c,if_pos c,h.kind hb]
 rw [if_neg c,if_neg c]
 by_cases c:i.1=254
 ·rw [if_pos c,if_pos c];have hn:0<i.2.2.2.length:=by rw [c] at hl;exact hl
  obtain ⟨e0,u0⟩:=hk 0 hn (hw.kind_of hn (by rw [c];decide))
  rw [e0,h.of u0,h.size hb,h.eq (h.of_in _) hb]
 rw [if_neg c,if_neg c,h.mem hw hu]
theorem RenG.fit (h:RenG tq U bound g g') {i:InstI} {f:FormI} (hw:InstW i bound f) (hu:Used U i) {r:List InstI} (hr:∀ j∈r,U j.2.1) {back:Int} (hb:U back):fitT g' (renI tq i) (r.map (renI tq)) (tq back)=fitT g i r back:=by
 have hl:=hw.least;have ha:askedB (renI tq i)=askedB i:=by
  unfold askedB
  show (if i.1=59 then ixn (nums (i.2.2.2.map (renA tq))) 0==7 else partOf i.1==8)=_
  by_cases c:i.1=59
  ·have hn:0<i.2.2.2.length:=by rw [c] at hl;exact hl
   have h7:(ag i.2.2.2 0).1=4:=hw.kind_of hn (by rw [c];decide)
   rw [if_pos c,if_pos c,nums_at hn,if_neg (by rw [h7];decide)]
  ·rw [if_neg c,if_neg c]
 unfold fitT;rw [ha]
 show (if askedB i=false then true else if i.1=54 then Go.Proofs.YtdebjkiilnhgpaaGreatDoor.sigB g'.T (ixn (nums (i.2.2.2.map (renA tq))) 1) (tq i.2.1) (parL (r.map (renI tq))) else askB g' i.1 (tq i.2.1) (nums (i.2.2.2.map (renA tq))) (tq back))=_
 rw [h.ask hw hu hb]
 by_cases c:i.1=54
 ·have hn:2≤i.2.2.2.length:=by rw [c] at hl;exact hl
  obtain ⟨e1,u1⟩:=h.argk hu (k:=1) (by omega) (hw.kind_of (by omega) (by rw [c];decide))
  rw [e1,parL_ren,h.sigB u1 hu.ty (parL_in hr)]
 ·rw [if_neg c,if_neg c]
theorem RenG.chk (h:RenG tq U bound g g'):∀ {r:List InstI} {b:Int} {k:Nat},(∀ j∈r,Used U j∧∃ f,InstW j bound f)→U b→chkL g' (r.map (renI tq)) (tq b) k=chkL g r b k
 | [],_,_,_,_=>rfl
 | i :: r,b,k,hr,hb=>by
  obtain ⟨hu,f,hw⟩:=hr i List.mem_cons_self;have hr':=fun j hj=>hr j (List.mem_cons_of_mem _ hj)
  have hb':U (if i.1=54 then i.2.1 else b):=by
   split
   ·exact hu.ty
   ·exact hb
  have e:(if (renI tq i).1=54 then (renI tq i).2.1 else tq b)=tq (if i.1=54 then i.2.1 else b):=by
   show (if i.1=54 then tq i.2.1 else tq b)=_
   split <;> rfl
  rw [List.map_cons];unfold chkL;rw [e,h.fit hw hu (fun j hj=>(hr' j hj).1.ty) hb',h.chk hr' hb']
end
end
section
section
variable {tq:Int→Int} {U:Int→Prop} {bound:Int} {g g':Tg}
theorem RenG.held (h:RenG tq U bound g g') {a t:Int} (ha:U a) (ht:U t):heldE g'.C (tq a) (tq t)=heldE g.C a t:=by
 unfold heldE;rw [h.C a ha];cases hc:g.C a with
 | none=>rfl
 | some u =>
  show (if tq u=tq t then (0:Int) else 111)=if u=t then 0 else 111
  by_cases e:u=t
  ·rw [if_pos e,if_pos (by rw [e])]
  ·rw [if_neg e,if_neg (fun e2=>e (h.inj u t (h.cu a u hc) ht e2))]
theorem RenG.comp (h:RenG tq U bound g g') {ty:Int} (ht:U ty):∀ {l:List Int} {k:Nat},(∀ x∈l,U x)→compE g'.T g'.C (tq ty) (l.map tq) k=compE g.T g.C ty l k
 | [],_,_=>rfl
 | a :: r,k,hl=>by
  rw [List.map_cons];unfold compE;rw [h.prt ht,h.held (hl a List.mem_cons_self) (h.prt_in ty k),h.comp ht (fun x hx=>hl x (List.mem_cons_of_mem _ hx))]
theorem RenG.conE (h:RenG tq U bound g g') {i:InstI} {f:FormI} (hw:InstW i bound f) (hu:Used U i):Go.Proofs.YtdebjkiilnhgpaaGreatDoor.conE g'.T g'.C (renI tq i)=Go.Proofs.YtdebjkiilnhgpaaGreatDoor.conE g.T g.C i:=by
 have hl:=hw.least;have ht:=hu.ty;unfold Go.Proofs.YtdebjkiilnhgpaaGreatDoor.conE
 show (if i.1=59 then varE g'.T g'.C (tq i.2.1) (nums (i.2.2.2.map (renA tq)))
  else if i.1=1∨i.1=46 then (if 0<(g'.T (tq i.2.1)).size then 0 else 100)
  else if i.1=41∨i.1=42 then (if (g'.T (tq i.2.1)).kind=2 then 0 else 100)
  else if i.1=43 then (if (g'.T (tq i.2.1)).kind=3 then 0 else 100)
  else if i.1=44 then (if (g'.T (tq i.2.1)).kind≠4∧(g'.T (tq i.2.1)).kind≠5∧(g'.T (tq i.2.1)).kind≠6 then 100 else if ((i.2.2.2.map (renA tq)).length:Int)≠cntT (g'.T (tq i.2.1)) then 111 else compE g'.T g'.C (tq i.2.1) (nums (i.2.2.2.map (renA tq))) 0)
  else 0)=_
 rw [h.size ht,h.kind ht,h.cnt ht,List.length_map]
 by_cases c:i.1=59
 ·rw [if_pos c,if_pos c];have hn:0<i.2.2.2.length:=by rw [c] at hl;exact hl
  have h4:(ag i.2.2.2 0).1=4:=hw.kind_of hn (by rw [c];decide)
  have e0:ixn (nums (i.2.2.2.map (renA tq))) 0=ixn (nums i.2.2.2) 0:=by rw [nums_at hn,if_neg (by rw [h4];decide)]
  unfold varE;rw [e0,h.kind ht,h.cls ht,nums_len,List.length_map,nums_len,h.prt ht]
  by_cases h1:i.2.2.2.length=1
  ·simp only [if_pos h1]
  ·simp only [if_neg h1];obtain ⟨e1,u1⟩:=h.argk hu (k:=1) (by omega) (hw.kind_of (by omega) (by rw [c];decide))
   rw [e1,h.held u1 (h.prt_in _ _)]
 ·rw [if_neg c,if_neg c]
  by_cases c44:i.1=44
  ·have hids:=hw.ids_all (by rw [c44];decide)
   rw [nums_ids hids,h.comp ht (used_all hu hids)]
  ·simp only [if_neg c44]
theorem RenG.conN (h:RenG tq U bound g g') {i:InstI} (hu:Used U i):RenG tq U bound ⟨g.T,g.M,Go.Proofs.YtdebjkiilnhgpaaGreatDoor.conN g.C i⟩ ⟨g'.T,g'.M,Go.Proofs.YtdebjkiilnhgpaaGreatDoor.conN g'.C (renI tq i)⟩:=by
 refine ⟨h.z,h.u0,h.inj,h.T,h.inn,h.M,h.mu,h.mw,fun x hx=>?_,fun x t=>?_⟩
 ·dsimp only;unfold Go.Proofs.YtdebjkiilnhgpaaGreatDoor.conN
  show (if conB i.1=true then updT g'.C (tq i.2.2.1) (some (tq i.2.1)) else g'.C) (tq x)=_
  split
  ·unfold updT
   by_cases e:x=i.2.2.1
   ·rw [if_pos e,if_pos (by rw [e])];rfl
   ·rw [if_neg e,if_neg (fun e2=>e (h.inj _ _ hx hu.res e2)),h.C x hx]
  ·exact h.C x hx
 ·dsimp only;unfold Go.Proofs.YtdebjkiilnhgpaaGreatDoor.conN
  split
  ·unfold updT
   split
   ·intro e;cases e;exact hu.ty
   ·exact h.cu x t
  ·exact h.cu x t
theorem RenG.conL:∀ {r:List InstI} {k:Nat} {C C':Int→Option Int},RenG tq U bound ⟨g.T,g.M,C⟩ ⟨g'.T,g'.M,C'⟩→(∀ j∈r,Used U j∧∃ f,InstW j bound f) →
  (Go.Proofs.YtdebjkiilnhgpaaGreatDoor.conL g'.T C' (r.map (renI tq)) k).1=(Go.Proofs.YtdebjkiilnhgpaaGreatDoor.conL g.T C r k).1∧(Go.Proofs.YtdebjkiilnhgpaaGreatDoor.conL g'.T C' (r.map (renI tq)) k).2.1=(Go.Proofs.YtdebjkiilnhgpaaGreatDoor.conL g.T C r k).2.1 ∧
   RenG tq U bound ⟨g.T,g.M,(Go.Proofs.YtdebjkiilnhgpaaGreatDoor.conL g.T C r k).2.2⟩ ⟨g'.T,g'.M,(Go.Proofs.YtdebjkiilnhgpaaGreatDoor.conL g'.T C' (r.map (renI tq)) k).2.2⟩
 | [],_,_,_,h,_=>⟨rfl,rfl,h⟩
 | i :: r,k,C,C',h,hr=>by
  obtain ⟨hu,f,hw⟩:=hr i List.mem_cons_self;have e:=h.conE hw hu;rw [List.map_cons];unfold Go.Proofs.YtdebjkiilnhgpaaGreatDoor.conL;dsimp only at e;rw [e]
  by_cases hc:Go.Proofs.YtdebjkiilnhgpaaGreatDoor.conE g.T C i≠0
  ·rw [if_pos hc,if_pos hc];exact ⟨rfl,rfl,h⟩
  ·rw [if_neg hc,if_neg hc];exact RenG.conL (h.conN hu) (fun j hj=>hr j (List.mem_cons_of_mem _ hj))
end
theorem newL_ren_all {tq:Int→Int} {U:Int→Prop} {b bound:Int} {l:List InstI} (h:RenOk tq U b) (hW:ModW U bound l):∀ {r:List InstI} {k:Nat} {s s':StN},(∀ i∈r,i∈l)→RelS tq U l s s' →
  (newL s' (r.map (renI tq)) k).1=(newL s r k).1∧(newL s' (r.map (renI tq)) k).2.1=(newL s r k).2.1∧RelS tq U l (newL s r k).2.2 (newL s' (r.map (renI tq)) k).2.2
 | [],_,_,_,_,hR=>⟨rfl,rfl,hR⟩
 | i :: r,k,s,s',hm,hR=>by
  have hi:=hm i List.mem_cons_self;rw [List.map_cons];unfold newL;rw [hR.err h hW hi]
  by_cases hE:errN s i≠0
  ·rw [if_pos hE,if_pos hE];exact ⟨rfl,rfl,hR⟩
  ·rw [if_neg hE,if_neg hE];exact newL_ren_all h hW (fun j hj=>hm j (List.mem_cons_of_mem _ hj)) (hR.next h hW hi)
theorem foldN_ren {tq:Int→Int} {U:Int→Prop} {b:Int} (h:RenOk tq U b):∀ {l:List InstI} {M M':Int→InstI},(∀ i∈l,Used U i)→(∀ x,U x→M' (tq x)=renI tq (M x))→∀ x,U x→(l.map (renI tq)).foldl makN M' (tq x)=renI tq (l.foldl makN M x)
 | [],_,_,_,hM=>hM
 | i :: r,M,M',hu,hM=>by
  have hi:=hu i List.mem_cons_self;refine foldN_ren (M:=makN M i) (M':=makN M' (renI tq i)) h (fun j hj=>hu j (List.mem_cons_of_mem _ hj)) (fun x hx=>?_)
  unfold makN
  show (if tq i.2.2.1≠0 then updT M' (tq i.2.2.1) (renI tq i) else M') (tq x)=_
  by_cases hz:i.2.2.1=0
  ·rw [hz,h.zero,if_neg (fun hc=>hc rfl),if_neg (fun hc=>hc rfl)]
   exact hM x hx
  ·have hb:=h.bd _ hi.res hz;rw [if_pos (by omega),if_pos hz]
   unfold updT
   by_cases e:x=i.2.2.1
   ·rw [if_pos e,if_pos (by rw [e])]
   ·rw [if_neg e,if_neg (fun e2=>e (h.inj _ _ hx hi.res e2))]
    exact hM x hx
theorem globs_ren {tq:Int→Int} {l:List InstI} {bound:Int} (hr:∀ i∈l,(rawR i bound).1=0):globs (l.map (renI tq))=(globs l).map (renI tq):=by
 unfold globs;rw [(SameL.ren hr).cutR,List.map_take,List.map_drop]
theorem chkM_ren {tq:Int→Int} {b bound:Int} {l:List InstI} (h:RenOk tq (fun x=>x=0∨(madeR l 0 x).isSome=true) b) (hb:b≠0) (hb2:b≤65536) (hop:∀ i∈l,0≤i.1) (hp:∀ i∈l,∀ x∈nums i.2.2.2,0≤x)
  (hi:(idsM bound l).1=0):chkM b (l.map (renI tq))=chkM bound l:=by
 have hu:=ids_used hi;have hraw:=ids_shape hi;have hi':=idsM_ren h hb hb2 hu hi;have en:newM bound l=newL st0 l 0:=by unfold newM;rw [if_neg (fun hh=>hh hi)]
 have en':newM b (l.map (renI tq))=newL st0 (l.map (renI tq)) 0:=by unfold newM;rw [if_neg (fun hh=>hh hi')]
 obtain ⟨a1,a2,a3⟩:=newL_ren_all h ⟨hraw,hu,hop,hp⟩ (r:=l) (k:=0) (fun i hi=>hi) (RelS.st0 h l)
 rw [← en,← en'] at a1 a2 a3
 by_cases hn:(newM bound l).1=0
 ·have hw:=(newM_well (bound:=bound) (l:=l) (at_:=(newM bound l).2.1) (s:=(newM bound l).2.2) (by rw [← hn])).1
  have hall:∀ j∈l,Used (fun x=>x=0∨(madeR l 0 x).isSome=true) j∧∃ f,InstW j bound f:=fun j hj=>⟨hu j hj,rawR_ok (hraw j hj)⟩
  have hG:RenG tq (fun x=>x=0∨(madeR l 0 x).isSome=true) bound ⟨(newM bound l).2.2.T,makL l,fun _=>none⟩ ⟨(newM b (l.map (renI tq))).2.2.T,makL (l.map (renI tq)),fun _=>none⟩:=by
   refine ⟨h.zero,h.u0,h.inj,a3.T,a3.inside hw h.u0,foldN_ren h hu (fun x _=>by show ((0,0,0,[]):InstI)=(0,tq 0,tq 0,[]);rw [h.zero]),fun x=>?_,fun x=>?_,fun _ _=>rfl,fun _ _ e=>by cases e⟩
   ·rcases makL_in l x with e | ⟨e,-⟩
    ·show Used _ (makL l x)
     rw [e];exact ⟨h.u0,h.u0,fun a ha=>by cases ha⟩
    ·exact hu _ e
   ·rcases makL_in l x with e | ⟨e,-⟩
    ·exact .inl e
    ·exact .inr (rawR_ok (hraw _ e))
  have hgl:∀ j∈globs l,Used (fun x=>x=0∨(madeR l 0 x).isSome=true) j∧∃ f,InstW j bound f:=fun j hj=>hall j (List.mem_of_mem_drop (List.mem_of_mem_take hj))
  obtain ⟨c1,c2,c3⟩:=RenG.conL (k:=((cutR l).2.2 14).toNat) (g:=⟨(newM bound l).2.2.T,makL l,fun _=>none⟩) (g':=⟨(newM b (l.map (renI tq))).2.2.T,makL (l.map (renI tq)),fun _=>none⟩) hG hgl
  have e1:conM bound l=((conL (newM bound l).2.2.T (fun _=>none) (globs l) ((cutR l).2.2 14).toNat).1,(conL (newM bound l).2.2.T (fun _=>none) (globs l) ((cutR l).2.2 14).toNat).2.1,(newM bound l).2.2,(conL (newM bound l).2.2.T (fun _=>none) (globs l) ((cutR l).2.2 14).toNat).2.2):=by
   unfold conM;rw [if_neg (fun hh=>hh hn)]
  have e2:conM b (l.map (renI tq))=((conL (newM b (l.map (renI tq))).2.2.T (fun _=>none) ((globs l).map (renI tq)) ((cutR l).2.2 14).toNat).1,(conL (newM b (l.map (renI tq))).2.2.T (fun _=>none) ((globs l).map (renI tq)) ((cutR l).2.2 14).toNat).2.1,(newM b (l.map (renI tq))).2.2,(conL (newM b (l.map (renI tq))).2.2.T (fun _=>none) ((globs l).map (renI tq)) ((cutR l).2.2 14).toNat).2.2):=by
   unfold conM;rw [if_neg (fun hh=>hh (a1.trans hn)),globs_ren hraw,(SameL.ren hraw).cutR]
  dsimp only at c1 c2 c3;unfold chkM tgM;rw [e1,e2];dsimp only;rw [c1,c2]
  split
  ·rfl
  ·have hz:=c3.chk (r:=l) (b:=0) (k:=0) hall h.u0;rw [h.zero] at hz;exact hz
 ·unfold chkM conM;rw [if_pos hn,if_pos (fun hc=>hn (a1.symm.trans hc))]
  dsimp only;rw [a1,a2];rw [if_pos hn,if_pos hn]
theorem renumber_chk {bound:Int} {l:List InstI} (hop:∀ i∈l,0≤i.1) (hres:∀ i∈l,0≤i.2.2.1) (hp:∀ i∈l,∀ x∈nums i.2.2.2,0≤x) (hi:(idsM bound l).1=0) :
  chkM (cntN l l.length:Int) (l.map (renI (toF l)))=chkM bound l:=by
 have ho:=ids_once hi;have hb:bound≠0∧bound≤65536:=by
  have h1:(shapeM bound l).1=0:=by
   unfold idsM layM at hi
   by_cases hs:(shapeM bound l).1=0
   ·exact hs
   ·rw [if_pos hs,if_pos hs] at hi;exact hi
  unfold shapeM at h1
  split at h1
  ·cases h1
  ·omega
 have hle:cntN l l.length≤65536:=by
  have h1:=cntN_le (N:=65536) ho (by decide) (fun i hil=>?_) l.length
  ·have h2:=cb_le (fun j=>(toN l l.length (j:Int)).isSome) 65536
   omega
  ·refine ⟨hres i hil,?_⟩;obtain ⟨f,wi⟩:=rawR_ok (ids_shape hi i hil)
   by_cases h0:i.2.2.1=0
   ·rw [h0];decide
   ·have:=wi.resb (by rw [wi.res];simpa using h0)
    show _<(65536:Int)
    omega
 have hpos:=(toN_ok ho l.length).pos;exact chkM_ren (toF_ok ho) (by omega) (by omega) hop hp hi
end
end Go.Proofs.YtdebjkiilnhgpaaGreatDoor
