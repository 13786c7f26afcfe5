/- Walks: the program's Fits, Get, Put, Text, Zero, of a table or of none, in the words of the document's answer. -/
import Derived.Test.YteelmakkogdieaaGreatDoorCQB
import Derived.Test.YteelmakkogdieaaGreatDoorCVH
import Derived.Test.YteelmakkogdieaaGreatDoorCUA
import Derived.Test.YteelmakkogdieaaGreatDoorCUE
set_option maxRecDepth 100000
set_option maxHeartbeats 4000000
namespace Go.Proofs.YteelmakkogdieaaGreatDoor
section
open Go.RowKit
def VTab (w:World) (p:Option Addr) (T:Int→TyI) (S:Int→SlI):Prop:=(p=none∧∀ id,T id=ty0)∨∃ g,p=some ⟨g,0,none⟩∧RdOk w g T S
theorem VTab.on {w w':World} {p:Option Addr} {T:Int→TyI} {S:Int→SlI} (h:VTab w p T S) (hb:Below w.heap.size w w'):VTab w' p T S:=by
 rcases h with h | ⟨g,h1,h2⟩
 ·exact .inl h
 ·exact .inr ⟨g,h1,h2.on hb⟩
def zeroQ (p:Option Addr) (T:Int→TyI) (ty:Int):List Int × Int:=if p=none then ([],1) else if 0<(T ty).size then (List.replicate (T ty).size.toNat 0,0) else ([],100)
theorem vzero_q (p:Option Addr) (T:Int→TyI) (S:Int→SlI) (ty:Int) (w:World) (h:VTab w p T S) :
  Calls Tryz.prog 30 #[.pointer p,.int .u32 ty] w (QPut (zeroQ p T ty) w):=by
 rcases h with ⟨rfl,h0⟩ | ⟨g,rfl,hO⟩
 ·rw [show zeroQ none T ty=([],1) from if_pos rfl]
  refine (zero_out none ty 1 w (ask_nil ty w) (by decide)).mono ?_
  rintro e w' ⟨rfl,hb⟩;exact ⟨none,0,rfl,World.ownsRow_nil _ _ _ _,hb⟩
 ·rw [show zeroQ (some ⟨g,0,none⟩) T ty=if 0<(T ty).size then (List.replicate (T ty).size.toNat 0,0) else ([],100) from if_neg (by intro h;cases h)]
  refine (zero_any g T S hO.ty ty w hO.tab).mono ?_;rintro e w' ⟨hb,⟨hp,rfl⟩ | ⟨hp,gz,z,hz,rfl,ho⟩⟩
  ·rw [if_neg hp];exact ⟨none,0,rfl,World.ownsRow_nil _ _ _ _,hb⟩
  ·rw [if_pos hp];obtain rfl:z=(T ty).size.toNat:=by omega
   refine ⟨some ⟨gz,0,none⟩,(T ty).size.toNat,?_,?_,hb⟩
   ·rw [List.length_replicate]
   ·rw [List.length_replicate];exact ho
theorem qzero_any (p:Option Addr) (T:Int→TyI) (ord:List Int) (ty:Int) (w:World) (h:QTab w p T ord) :
  Calls Tryz.prog 29 #[.pointer p,.int .u32 ty] w (QPut (zeroQ p T ty) w):=by
 have hpp:p=none∨∃ g,p=some ⟨g,0,none⟩:=by
  rcases h.tab with ⟨h1,-⟩ | ⟨g,A,n,c,es,h1,-⟩
  ·exact .inl h1
  ·exact .inr ⟨g,h1⟩
 rcases hpp with rfl | ⟨gq,rfl⟩
 ·rw [show zeroQ none T ty=([],1) from if_pos rfl]
  go_enter Tryz.func29,Tryz.ntmps29;go_wp2_with fail;go_ret2
  exact ⟨none,0,rfl,World.ownsRow_nil _ _ _ _,Below.refl _ _⟩
 ·rw [show zeroQ (some ⟨gq,0,none⟩) T ty=if 0<(T ty).size then (List.replicate (T ty).size.toNat 0,0) else ([],100) from if_neg (by intro h;cases h)]
  have hpl:=h.plain_ ty;have hsz:=fun w' (hb:Below w.heap.size w w')=>(h.on hb).size_ ty
  unfold BoolIs at hpl;have hn4:=(h.ok.ty.size ty).2.2
  by_cases hs:0<(T ty).size
  ·have dp:decide (0<(T ty).size)=true:=by rw [decide_eq_true_eq];exact hs
   rw [dp] at hpl;rw [if_pos hs];obtain ⟨n,hn⟩:∃ n:Nat,(T ty).size=(n:Int):=⟨(T ty).size.toNat,by omega⟩
   rw [hn] at hsz hn4 ⊢;clear h hs dp hn;unfold QPut;go_enter Tryz.func29,Tryz.ntmps29;go_wp2_with fail;refine hpl.mono ?_;rintro e w1 ⟨rfl,hb1⟩;have hs1:=hsz w1 hb1;clear hpl hsz;go_wp2_with fail;refine hs1.mono ?_;rintro e w2 ⟨rfl,hb2⟩;have hb3:=below_cut hb1 hb2 (Nat.le_refl _);have hs2:=hb3.size;clear hs1;go_wp2_with (at_make;refine mk_full sl32 rfl w2 rfl _ _ rfl w.heap.size n rfl rfl rfl rfl (by omega) (by omega) (by omega) ?_;intro w3 hown hgr)
   go_ret2
   refine ⟨some ⟨w2.heap.size,0,none⟩,n,?_,?_,hb3.grown hgr hs2 (fun j hj=>by cases hj)⟩
   ·show _=Ending.returned (.tuple #[.slice _ (List.replicate ((n:Nat):Int).toNat (0:Int)).length n,.int .i64 0])
    rw [List.length_replicate];rfl
   ·show World.ownsRow _ _ _ _ (.slice _ (List.replicate ((n:Nat):Int).toNat (0:Int)).length n) (List.replicate ((n:Nat):Int).toNat (0:Int)).length (Ints .u32 (List.replicate ((n:Nat):Int).toNat 0))
    rw [List.length_replicate,Ints_replicate];exact hown
  ·have dp:decide (0<(T ty).size)=false:=by rw [decide_eq_false_iff_not];exact hs
   rw [dp] at hpl;rw [if_neg hs];clear h hs dp hsz;unfold QPut;go_enter Tryz.func29,Tryz.ntmps29;go_wp2_with fail;refine hpl.mono ?_;rintro e w1 ⟨rfl,hb1⟩;go_wp2_with fail;go_ret2
   exact ⟨none,0,rfl,World.ownsRow_nil _ _ _ _,hb1⟩
end
section
open Go.RowKit
def BothIs (w:World) (e:Ending) (w':World):Prop :=
 Below w.heap.size w w'∧∃ p q T S ord,e=.returned (.tuple #[.pointer p,.pointer q,.bool true])∧VTab w' p T S∧QTab w' q T ord∧(p=none ↔ q=none)
theorem both_any (gen bound:Int) (A:Option Addr) (n c:Nat) (ls:List InstA) (w:World) (hM:ModS w w.heap.size A n ls) (hn:n≤3600000000000) (hP:Pow w) (hE:Errs w)
  (hN:∀ x∈ls,(∀ a∈x.1.2.2.2,0≤a.2.1∧a.2.1<4294967296)∧(0≤x.1.1∧x.1.1<65536)) :
  Calls Tryz.prog 28 #[.agg (modC gen bound A n c)] w (BothIs w):=by
 have hb1:=(Below.refl w.heap.size w).alloc (Nat.le_refl _) (.cells (modC gen bound A n c) 25);have k1:=Blk.new w 25 (modC gen bound A n c);have hcp:=copyModule_any gen bound A n c ls _ (hM.step hb1) hn;have hrn:=fun w' (hb:Below w.heap.size w w')=>rnew_any gen bound ls A n c w' (hM.step hb) (fun x hx=>(hN x hx).1) (fun x hx=>(hN x hx).2)
 have hLn:(ls.map (·.1)).length≤7100000000000:=by rw [hM.length];exact hM.len
 obtain ⟨L,hL⟩:∃ L,L=ls.map (·.1):=⟨_,rfl⟩;obtain ⟨hu,hop⟩:=use_ hL hN;rw [← hL] at hcp hrn hLn;have hTO:=tabs_ok bound L hLn;clear hL hM hN;unfold modC at *;obtain ⟨z0,z1,z2⟩:=three_ k1;go_enter Tryz.func28,Tryz.ntmps28;go_wp2_with fail;refine hcp.mono ?_;rintro e w2 ⟨A',c',ls',rfl,hM',hL',hb2⟩;have hb3:=below_cut hb1 hb2 (Nat.le_refl _);have hnw:=new_copied (gen:=gen) (bound:=bound) (c:=c') hM' hL' (hP.step hb3) hu hop;have k2:=k1.step hb2;clear hcp hM' hL' hu hop z0 z1 z2 k1;unfold modC at hnw;go_wp2_with fail;refine hnw.mono ?_;rintro e w3 hR;obtain ⟨hb4,p,S,rfl,hTW,-,hpn⟩:=newG_u hR;have hb5:=below_cut hb3 hb4 (Nat.le_refl _);generalize ha:(newM bound L).1=a at *;generalize hbb:(newM bound L).2.1=b at *;have hbs:=(Below.refl w3.heap.size w3).alloc (Nat.le_refl _) (.cells #[.int .i64 a,.int .i64 b] 29);have hb6:=below_cut hb5 hbs (Nat.le_refl _);have kS:=Blk.new w3 29 #[.int .i64 a,.int .i64 b];have hTW4:=hTW.step hbs;have k4:=(k2.step hb4).step hbs;have hr4:=hrn _ hb6;clear hnw hR hrn hTW hbs hb4 k2;obtain ⟨z0,z1,z2⟩:=three_ k4;go_wp2_with fail;generalize (w3.alloc (.cells #[.int .i64 a,.int .i64 b] 29))=W4 at *;generalize w3.heap.size=gs at *;refine hr4.mono ?_;rintro e w5 hR;obtain ⟨hb7,q,rfl,hRT,hqn⟩:=rnewG_u hR;rw [ha,hbb] at *;have hb8:=below_cut hb6 hb7 (Nat.le_refl _);have hbs:=(Below.refl w5.heap.size w5).alloc (Nat.le_refl _) (.cells #[.int .i64 a,.int .i64 b] 29);have hb9:=below_cut hb8 hbs (Nat.le_refl _);have kS2:=Blk.new w5 29 #[.int .i64 a,.int .i64 b];have kS1:=(kS.step hb7).step hbs;have hTW9:=(hTW4.step hb7).step hbs;have hRT9:=hRT.step hbs;clear hr4 hR hTW4 hRT kS k4 hbs z0 z1 z2;generalize tT (newM bound L)=T at *;generalize tO (newM bound L)=ord at *;clear ha hbb;obtain ⟨s0,s1⟩:=two_ kS1;obtain ⟨q0,q1⟩:=two_ kS2;have hse:=spot_eq a b;have hsg:=spot_guard;have HTO:=Lib.hid hTO;have HTW:=Lib.hid hTW9;have HRT:=Lib.hid hRT9;have HPE:=Lib.hid (And.intro (hP.step hb9) (hE.step hb9));clear hTO hTW9 hRT9
 rcases hpn with ⟨rfl,hpa⟩ | ⟨gp,rfl,rfl⟩
 ·rcases hqn with ⟨rfl,-⟩ | ⟨gq,rfl,h0⟩
  ·go_wp2_with fail;go_ret3
   refine ⟨hb9,none,none,T,S,ord,rfl,.inl ⟨rfl,?_⟩,⟨HTO.out,HRT.out⟩,Iff.rfl⟩;exact (QTab.mk HTO.out HRT.out).none_
  ·exact absurd h0 hpa
 ·rcases hqn with ⟨rfl,h0⟩ | ⟨gq,rfl,-⟩
  ·exact absurd rfl h0
  ·go_wp2_with fail;go_ret3
   exact ⟨hb9,some ⟨gp,0,none⟩,some ⟨gq,0,none⟩,T,S,ord,rfl,.inr ⟨gp,rfl,⟨HTO.out.ty,HTW.out,HPE.out.1,HPE.out.2⟩⟩,⟨HTO.out,HRT.out⟩,by constructor <;> intro h <;> cases h⟩
end
section
open Go.RowKit
section
variable {p q:Option Addr} {T:Int→TyI} {ty:Int} {ws l part:List Int}
theorem zeroQ_eq (h:p=none ↔ q=none):zeroQ p T ty=zeroQ q T ty:=by
 unfold zeroQ
 by_cases hp:p=none
 ·rw [if_pos hp,if_pos (h.1 hp)]
 ·rw [if_neg hp,if_neg (fun e=>hp (h.2 e))]
end
end
end Go.Proofs.YteelmakkogdieaaGreatDoor
