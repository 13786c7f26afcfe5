/- Walks: the document's answer on values: Walk, Get. -/
import Derived.Test.YteelmakkogdieaaGreatDoorCQA
import Derived.Test.YteelmakkogdieaaGreatDoorCVD
import Derived.Test.YteelmakkogdieaaGreatDoorCVH
namespace Go.Proofs.YteelmakkogdieaaGreatDoor
section
open Go.RowKit
abbrev F1 (W:World) (p:Addr) (v:Value) (w':World):Prop:=w'.cell? p=some v∧Below W.heap.size W w'
section
variable {W w2 w3:World} {p:Addr} {v:Value}
theorem F1.drew_ (h:F1 W p v w2):F1 W p v w2.drew:=⟨h.1,h.2.drew⟩
theorem F1.call (hb:p.block<W.heap.size) (h:F1 W p v w2) (hq:Below w2.heap.size w2 w3):F1 W p v w3:=⟨(hq.cell (p:=p) (Nat.lt_of_lt_of_le hb h.2.size)).trans h.1,below_cut h.2 hq (Nat.le_refl _)⟩
theorem F1.is (h:F1 W p v w2):Below W.heap.size W w2:=h.2
end
end
section
open Go.RowKit
def QPut (r:List Int × Int) (w:World) (e:Ending) (w':World):Prop :=
 ∃ A c,e=.returned (.tuple #[.slice A r.1.length c,.int .i64 r.2])∧w'.ownsRow w.heap.size 22 1 (.slice A r.1.length c) r.1.length (Ints .u32 r.1)∧Below w.heap.size w w'
end
section
open Go.RowKit
theorem itoa_neg {v:Int} (h:2147483648≤v∧v<4294967296):Lib.itoa (v-4294967296)=45 :: Lib.itoa (4294967296-v):=by
 unfold Lib.itoa;rw [if_pos (by omega),if_neg (by omega)]
 congr 2
 omega
end
section
open Go.RowKit
end
end Go.Proofs.YteelmakkogdieaaGreatDoor
