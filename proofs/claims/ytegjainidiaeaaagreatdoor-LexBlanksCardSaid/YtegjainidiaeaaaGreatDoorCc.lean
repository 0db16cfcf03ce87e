/- A reference as a value. -/
import Derived.Test.YtegjainidiaeaaaGreatDoorCb
namespace Go.Proofs.YtegjainidiaeaaaGreatDoor
open Go.RowKit
abbrev refV (sh : ByteArray) (c r : Int) (ac ar : Bool) : Value := .agg #[.string sh, .int .i64 c, .int .i64 r, .bool ac, .bool ar]
def zeroRef : Value := refV ⟨#[]⟩ 0 0 false false
end Go.Proofs.YtegjainidiaeaaaGreatDoor
