/- Walks: the document's table of types is asked: listed, Text. -/
import Derived.Test.YteelmakkogdieaaGreatDoorCSA
import Derived.Test.YteelmakkogdieaaGreatDoorCUI
import Derived.Test.YteelmakkogdieaaGreatDoorCRA
namespace Go.Proofs.YteelmakkogdieaaGreatDoor
section
open Go.RowKit
end
section
open Go.RowKit
end
section
open Go.RowKit
end
end Go.Proofs.YteelmakkogdieaaGreatDoor
