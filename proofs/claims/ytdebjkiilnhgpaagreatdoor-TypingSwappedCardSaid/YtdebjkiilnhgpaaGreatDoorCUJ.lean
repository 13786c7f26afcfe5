/- Walks: New, whatever the module. -/
import Derived.Test.YtdebjkiilnhgpaaGreatDoorCUH
import Derived.Test.YtdebjkiilnhgpaaGreatDoorCTN
import Derived.Test.YtdebjkiilnhgpaaGreatDoorCUI
namespace Go.Proofs.YtdebjkiilnhgpaaGreatDoor
open Go.RowKit
theorem TyOk.mild {T:Int→TyI} {b:List Int} {x:TyI} (h:TyOk T b x):Mild x:=by
 cases h with
 | void=>exact ⟨by decide,by decide,by decide⟩
 | bool=>exact ⟨(by show (0:Int)≤0;decide),(by show (0:Int)≤4096;decide),(by show (0:Nat)≤7100000000000;decide)⟩
 | int s=>exact ⟨(by show (0:Int)≤0;decide),(by show (0:Int)≤4096;decide),(by show (0:Nat)≤7100000000000;decide)⟩
 | vec p n h1 h2 h3 h4=>exact ⟨(by show 0≤n;omega),(by show n≤4096;omega),(by show (0:Nat)≤7100000000000;decide)⟩
 | arr p n h1 h2 h3 h4 h5 h6=>exact ⟨(by show 0≤n;omega),(by show n≤4096;omega),(by show (0:Nat)≤7100000000000;decide)⟩
 | str l s d h1 h2 h3 h4 h5 h6=>exact ⟨(by show (0:Int)≤0;decide),(by show (0:Int)≤4096;decide),(by show l.length≤7100000000000;omega)⟩
 | ptr c p h1 h2 h3=>exact ⟨(by show (0:Int)≤0;decide),(by show (0:Int)≤4096;decide),(by show (1:Nat)≤7100000000000;decide)⟩
 | fn l h1 h2 h3 h4=>exact ⟨(by show (0:Int)≤0;decide),(by show (0:Int)≤4096;decide),(by show l.length≤7100000000000;omega)⟩
theorem WellS.mild {s:StN} (h:WellS s) (id:Int):Mild (s.T id):=by
 rcases h.ok id with h1 | ⟨k,hk,-,h1⟩
 ·rw [h1];exact ⟨by decide,by decide,by decide⟩
 ·exact h1.mild
def TabG (w:World) (p:Option Addr) (s:StN):Prop:=∃ S,TabW w p s.T S∧TabI w p s.ord
theorem TabG.step {w w':World} {p:Option Addr} {s:StN} (h:TabG w p s) (hb:Below w.heap.size w w'):TabG w' p s:=by
 obtain ⟨S,h1,h2⟩:=h;exact ⟨S,h1.step hb,h2.step hb⟩
theorem TableS.good {B:Nat} {w:World} {gt:Nat} {s:StN} (h:TableS B w gt s) (hw:WellS s):TabG w (some ⟨gt,0,none⟩) s:=by
 obtain ⟨bm,S,A,m,c,hk,hT,hr,hm,hc,-⟩:=h;obtain ⟨z0,z1⟩:=two_ hk;exact ⟨S,⟨.inr ⟨gt,bm,rfl,z0,hT⟩,fun id=>(hc id).1,hw.mild⟩,.inr ⟨gt,A,m,c,rfl,z1,hr,hm⟩⟩
def NewG (r:Int × Int × StN) (w:World) (e:Ending) (w':World):Prop :=
 Below w.heap.size w w'∧((r.1=0∧WellS r.2.2∧∃ gt,e=.returned (.tuple #[.pointer (some ⟨gt,0,none⟩),.agg #[.int .i64 0,.int .i64 0]])∧TabG w' (some ⟨gt,0,none⟩) r.2.2) ∨
  (r.1≠0∧e=.returned (.tuple #[.pointer none,.agg #[.int .i64 r.1,.int .i64 r.2.1]])))
def NewL (r:Int × Int × StN) (w:World) (e:Ending) (w':World):Prop :=
 Below w.heap.size w w'∧((r.1=0∧WellS r.2.2∧∃ gt,e=.returned (.tuple #[.pointer (some ⟨gt,0,none⟩),.agg #[.int .i64 0,.int .i64 0]])∧w.heap.size≤gt∧TableS w.heap.size w' gt r.2.2) ∨
  (r.1≠0∧e=.returned (.tuple #[.pointer none,.agg #[.int .i64 r.1,.int .i64 r.2.1]])))
theorem new_low (gen bound:Int) (ls:List InstA) (A:Option Addr) (n c:Nat) (w:World) (hM:ModS w w.heap.size A n ls) (hP:Pow w)
  (hu:∀ x∈ls,∀ a∈x.1.2.2.2,0≤a.2.1∧a.2.1<4294967296) (hop:∀ x∈ls,0≤x.1.1∧x.1.1<65536) :
  Calls Tryz.prog 14 #[.agg (modC gen bound A n c)] w (NewL (newM bound (ls.map (·.1))) w):=by
 have h:Calls Tryz.prog 14 #[.agg (modC gen bound A n c)] w (NewIs (newM bound (ls.map (·.1))) w):=by
  by_cases h0:(idsM bound (ls.map (·.1))).1=0
  ·exact new_ok gen bound ls A n c w hM h0 hP hu hop
  ·exact new_bad gen bound ls A n c w hM h0
 refine h.mono ?_;rintro e w' ⟨hb,h1,h2⟩;refine ⟨hb,?_⟩
 by_cases h0:(newM bound (ls.map (·.1))).1=0
 ·have hw:WellS (newM bound (ls.map (·.1))).2.2:=(newM_well (bound:=bound) (l:=ls.map (·.1)) (at_:=(newM bound (ls.map (·.1))).2.1) (s:=(newM bound (ls.map (·.1))).2.2) (by rw [← h0])).1
  obtain ⟨gt,he,hg,hT⟩:=h1 h0;exact .inl ⟨h0,hw,gt,he,hg,hT⟩
 ·exact .inr ⟨h0,h2 h0⟩
theorem new_any (gen bound:Int) (ls:List InstA) (A:Option Addr) (n c:Nat) (w:World) (hM:ModS w w.heap.size A n ls) (hP:Pow w)
  (hu:∀ x∈ls,∀ a∈x.1.2.2.2,0≤a.2.1∧a.2.1<4294967296) (hop:∀ x∈ls,0≤x.1.1∧x.1.1<65536) :
  Calls Tryz.prog 14 #[.agg (modC gen bound A n c)] w (NewG (newM bound (ls.map (·.1))) w):=by
 refine (new_low gen bound ls A n c w hM hP hu hop).mono ?_;rintro e w' ⟨hb,⟨h0,hw,gt,he,-,hT⟩ | h1⟩
 ·exact ⟨hb,.inl ⟨h0,hw,gt,he,hT.good hw⟩⟩
 ·exact ⟨hb,.inr h1⟩
end Go.Proofs.YtdebjkiilnhgpaaGreatDoor
