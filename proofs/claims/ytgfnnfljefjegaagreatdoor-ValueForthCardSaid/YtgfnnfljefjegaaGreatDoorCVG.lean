/- Walks: value.Put, whatever the type, the words, the path and the part. -/
import Derived.Test.YtgfnnfljefjegaaGreatDoorCVF
namespace Go.Proofs.YtgfnnfljefjegaaGreatDoor
open Go.RowKit

end Go.Proofs.YtgfnnfljefjegaaGreatDoor
