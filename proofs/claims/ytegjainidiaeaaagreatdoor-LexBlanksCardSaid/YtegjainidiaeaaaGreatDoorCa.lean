/- What the contracts of package cells stand on, in a cut without moved and mark. -/
import Derived.Test.YtegjainidiaeaaaGreatDoorRows
import Derived.WalkKit
import Derived.WalkSpells
import Derived.WalkLawsBesides
import Derived.Lib.Hide
namespace Go.Proofs.YtegjainidiaeaaaGreatDoor
open Go.RowKit

end Go.Proofs.YtegjainidiaeaaaGreatDoor
