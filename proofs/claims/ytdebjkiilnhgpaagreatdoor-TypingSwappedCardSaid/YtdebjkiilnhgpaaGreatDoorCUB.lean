/- Walks: a table of a copied module. -/
import Derived.Test.YtdebjkiilnhgpaaGreatDoorCUJ
import Derived.Test.YtdebjkiilnhgpaaGreatDoorCUK
import Derived.Test.YtdebjkiilnhgpaaGreatDoorCUA
namespace Go.Proofs.YtdebjkiilnhgpaaGreatDoor
section
open Go.RowKit
theorem new_copied {gen bound:Int} {A:Option Addr} {n c:Nat} {ls:List InstA} {L:List InstI} {w:World} (hM:ModS w w.heap.size A n ls) (hL:ls.map (·.1)=L) (hP:Pow w)
  (hu:∀ i∈L,∀ a∈i.2.2.2,0≤a.2.1∧a.2.1<4294967296) (hop:∀ i∈L,0≤i.1∧i.1<65536) :
  Calls Tryz.prog 14 #[.agg (modC gen bound A n c)] w (NewG (newM bound L) w):=by
 have h:=new_any gen bound ls A n c w hM hP (fun x hx=>hu x.1 (hL ▸ List.mem_map.2 ⟨x,hx,rfl⟩)) (fun x hx=>hop x.1 (hL ▸ List.mem_map.2 ⟨x,hx,rfl⟩))
 rw [hL] at h;exact h
end
section
open Go.RowKit
end
section
theorem sumP_mono {T:Int→TyI} (hT:∀ id,0≤(T id).size) (x:TyI):∀ (n k:Nat),sumP T x k≤sumP T x (k+n)
 | 0,k=>Int.le_refl _
 | n+1,k=>by
  have ih:=sumP_mono hT x n k;have:=hT (partN x (k+n))
  show _≤sumP T x (k+n)+(T (partN x (k+n))).size
  omega
theorem sumP_pos {T:Int→TyI} (hT:∀ id,0≤(T id).size) (x:TyI) (k:Nat):0≤sumP T x k:=by
 have:=sumP_mono hT x k 0;rw [Nat.zero_add] at this;exact this
theorem TyOk.part_plain {T:Int→TyI} {b:List Int} {x:TyI} (h:TyOk T b x) (hT:Typed T) (hs:0<x.size) {j:Nat} (hj:(j:Int)<cntT x):0<(T (partN x j)).size:=by
 unfold partN partT;rw [if_neg (by omega)]
 cases h with
 | void=>exact absurd hs (by decide)
 | bool=>exact absurd hj (by show ¬ (j:Int)<0+0;omega)
 | int s=>exact absurd hj (by show ¬ (j:Int)<0+0;omega)
 | vec p n h1 h2 h3 h4 =>
  have:=(hT.leaf p h2).2;dsimp only;rw [if_pos (by omega)]
  dsimp only;omega
 | arr p n h1 h2 h3 h4 h5 h6 =>
  dsimp only;rw [if_pos (by omega)]
  exact h2
 | str l s d h1 h2 h3 h4 h5 h6 =>
  have ec:cntT ({ ty0 with kind:=6,parts:=l,size:=s,depth:=d+1 }:TyI)=l.length:=by unfold cntT;simp [ty0]
  rw [ec] at hj;dsimp only;rw [if_neg (by show ¬ (0:Int)<0;decide)]
  have e:((j:Nat):Int).toNat=j:=rfl;dsimp only;rw [e,ix_of (by omega)]
  exact memR_in h1 _ (List.getElem_mem _)
 | ptr c p h1 h2 h3=>exact absurd hs (by show ¬ (0:Int)<0;decide)
 | fn l h1 h2 h3 h4=>exact absurd hs (by show ¬ (0:Int)<0;decide)
end
section
theorem plain_bare {T:Int→TyI} (hT:Typed T) {ty:Int} (hs:0<(T ty).size) (hc:cntT (T ty)=0):(T ty).size=1∧((T ty).kind=2∨(T ty).kind=3):=by
 rcases hT.ok ty with h | ⟨b,h⟩
 ·rw [h] at hs;exact absurd hs (by decide)
 ·generalize T ty=x at *;unfold cntT at hc;cases h with
  | void=>exact absurd hs (by decide)
  | bool=>exact ⟨rfl,.inl rfl⟩
  | int s=>exact ⟨rfl,.inr rfl⟩
  | vec p n h1 h2 h3 h4=>exfalso;dsimp only at hc;simp [ty0] at hc;omega
  | arr p n h1 h2 h3 h4 h5 h6=>exfalso;dsimp only at hc;simp [ty0] at hc;omega
  | str l s d h1 h2 h3 h4 h5 h6=>exfalso;dsimp only at hc;simp [ty0] at hc;subst hc;simp at h3
  | ptr c p h1 h2 h3=>exact absurd hs (by show ¬ (0:Int)<0;decide)
  | fn l h1 h2 h3 h4=>exact absurd hs (by show ¬ (0:Int)<0;decide)
theorem plain_sum {T:Int→TyI} (hT:Typed T) {ty:Int} (hs:0<(T ty).size) (hc:cntT (T ty)≠0):(T ty).size=sumP T (T ty) (cntT (T ty)).toNat∧∀ j:Nat,(j:Int)<cntT (T ty)→0<(T (partN (T ty) j)).size:=by
 rcases hT.ok ty with h | ⟨b,h⟩
 ·rw [h] at hs;exact absurd hs (by decide)
 ·have hk:=(hT.size ty).2.1.1 hs;have h0:0≤cntT (T ty):=by
   generalize T ty=x at *;unfold cntT;cases h <;> simp [ty0] <;> omega
  exact ⟨(h.sizes hT).whole (by omega) (by omega) (by omega),fun j hj=>h.part_plain hT hs hj⟩
end
end Go.Proofs.YtdebjkiilnhgpaaGreatDoor
