/- Walks: slices.Clone of words: a row of its own with the same numbers; nothing that was there has turned. -/
import Derived.Test.YteelmakkogdieaaGreatDoorCTF
import Derived.Test.YteelmakkogdieaaGreatDoorCTO
import Derived.Test.YteelmakkogdieaaGreatDoorCTN
import Derived.Test.YteelmakkogdieaaGreatDoorCUL
import Derived.Test.YteelmakkogdieaaGreatDoorCTQ
namespace Go.Proofs.YteelmakkogdieaaGreatDoor
section
open Go.RowKit
end
section
open Go.RowKit
def TabI (w:World) (p:Option Addr) (ord:List Int):Prop :=
 (p=none∧ord=[])∨∃ gt A m c,p=some ⟨gt,0,none⟩∧w.cell? ⟨gt,1,none⟩=some (.slice A m c)∧Reads w w.heap.size 1 A m (Ints .u32 ord)∧m≤7100000000000
theorem TabI.step {w w':World} {p:Option Addr} {ord:List Int} (h:TabI w p ord) (hb:Below w.heap.size w w'):TabI w' p ord:=by
 rcases h with h | ⟨gt,A,m,c,h1,h2,h3,h4⟩
 ·exact .inl h
 ·exact .inr ⟨gt,A,m,c,h1,(hb.cell (p:=⟨gt,1,none⟩) (World.block_lt_of_cell? w _ h2)).trans h2,(h3.below hb).more hb.size,h4⟩
end
section
open Go.RowKit
theorem TabP.depth {w:World} {p:Option Addr} {T:Int→TyI} {S:Int→SlI} (h:TabP w p T S) (id:Int):0≤(T id).depth:=by
 rcases h with ⟨-,h⟩ | ⟨gt,bm,-,-,h⟩
 ·rw [(h id).1];exact Int.le_refl _
 ·exact (h.depth id).1
structure DeepT (T:Int→TyI):Prop where
 one:∀ a,(T a).size≠0→(T a).kind=4∨(T a).kind=5→(T (T a).part).depth<(T a).depth
 all:∀ a,(T a).size≠0→∀ p∈(T a).parts,(T p).depth<(T a).depth
def BoolIs (b:Bool) (w:World) (e:Ending) (w':World):Prop:=e=.returned (.bool b)∧Below w.heap.size w w'
end
section
open Go.RowKit
end
section
open Go.RowKit
theorem cell_alloc_t {W:World} {a:Addr} {v:Value} (o:Obj) (h:W.cell? a=some v):(W.alloc o).cell? a=some v:=cell_kept h (World.grownBy_alloc W o none) (fun r e=>by cases e)
abbrev TyS (w1:World) (g:Nat) (n pp:Int) (w':World):Prop:=w'.cell? ⟨g,6,none⟩=some (.int .i64 n)∧w'.cell? ⟨g,5,none⟩=some (.int .u32 pp)∧Below w1.heap.size w1 w'
section
variable {w1 w2 w3:World} {g:Nat} {n pp:Int}
theorem TyS.drew_ (h:TyS w1 g n pp w2):TyS w1 g n pp w2.drew:=⟨h.1,h.2.1,h.2.2.drew⟩
theorem TyS.new (h:TyS w1 g n pp w2) {o:Obj}:TyS w1 g n pp (w2.alloc o):=⟨cell_alloc_t _ h.1,cell_alloc_t _ h.2.1,h.2.2.alloc h.2.2.size _⟩
theorem TyS.call (hb:g<w1.heap.size) (h:TyS w1 g n pp w2) (hq:Below w2.heap.size w2 w3):TyS w1 g n pp w3 :=
 ⟨(hq.cell (p:=⟨g,6,none⟩) (Nat.lt_of_lt_of_le hb h.2.2.size)).trans h.1,(hq.cell (p:=⟨g,5,none⟩) (Nat.lt_of_lt_of_le hb h.2.2.size)).trans h.2.1,below_cut h.2.2 hq (Nat.le_refl _)⟩
theorem TyS.is (h:TyS w1 g n pp w2):Below w1.heap.size w1 w2:=h.2.2
end
end
end Go.Proofs.YteelmakkogdieaaGreatDoor
