/- The document's reader of numbers is dec.Parse's. -/
import Derived.Test.YtfkiomjplpbmiaaGreatDoorM4
import Derived.Test.YtfkiomjplpbmiaaGreatDoorM10
import Derived.Test.YtfkiomjplpbmiaaGreatDoorNmM
namespace Go.Proofs.YtfkiomjplpbmiaaGreatDoor
open Go.RowKit Go.Lib

theorem decRefIs : DecRefIs decF := fun t w hs => by
  have h := r9parse t w hs
  rw [parse_same] at h
  exact h

end Go.Proofs.YtfkiomjplpbmiaaGreatDoor

