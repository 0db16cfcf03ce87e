/- Contracts of the small functions of package cells: moved, mark, Col. -/
import Derived.Test.YtfkiomjplpbmiaaGreatDoorRows
import Derived.WalkKit
import Derived.WalkSpells
import Derived.WalkLawsBesides
import Derived.Lib.Hide
namespace Go.Proofs.YtfkiomjplpbmiaaGreatDoor
open Go.RowKit

/-- moved: the plain function. -/
def movedF (n b m : Int) (fx : Bool) : Int × Bool :=
  if fx then (n, true) else if b > m ∨ b < -m ∨ n + b < 1 ∨ n + b > m then (0, false) else (n + b, true)

set_option maxHeartbeats 400000 in
theorem moved_fixed (n b m : Int) (w : World) :
    Calls Tryz.prog 119 #[.int .i64 n, .int .i64 b, .int .i64 m, .bool true] w fun e w' => e = .returned (.tuple #[.int .i64 n, .bool true]) ∧ w = w' := by
  go_enter Tryz.func119, Tryz.ntmps119
  go_wp2
  go_ret2
  exact ⟨rfl, rfl⟩

set_option maxHeartbeats 1000000 in
theorem moved_free (n b m : Int) (w : World) (hn0 : -9223372036854775808 ≤ n) (hn1 : n ≤ 9223372036854775807) (hb0 : -9223372036854775808 ≤ b) (hb1 : b ≤ 9223372036854775807) (hm0 : 1 ≤ m) (hm1 : m ≤ 512) :
    Calls Tryz.prog 119 #[.int .i64 n, .int .i64 b, .int .i64 m, .bool false] w fun e w' => e = .returned (.tuple #[.int .i64 (movedF n b m false).1, .bool (movedF n b m false).2]) ∧ w = w' := by
  by_cases h1 : m < b
  · have e : movedF n b m false = (0, false) := by simp [movedF, h1]
    rw [e]
    go_enter Tryz.func119, Tryz.ntmps119
    go_wp2
    go_ret2
    exact ⟨rfl, rfl⟩
  · by_cases h2 : b < -m
    · have e : movedF n b m false = (0, false) := by simp [movedF, h2]
      rw [e]
      go_enter Tryz.func119, Tryz.ntmps119
      go_wp2
      go_ret2
      exact ⟨rfl, rfl⟩
    · by_cases h3 : wrap64 (n + b) < 1
      · have e : movedF n b m false = (0, false) := by
          unfold wrap64 at h3
          simp [movedF]; omega
        rw [e]
        go_enter Tryz.func119, Tryz.ntmps119
        go_wp2
        go_ret2
        exact ⟨rfl, rfl⟩
      · by_cases h4 : m < wrap64 (n + b)
        · have e : movedF n b m false = (0, false) := by
            unfold wrap64 at h4
            simp [movedF]; omega
          rw [e]
          go_enter Tryz.func119, Tryz.ntmps119
          go_wp2
          go_ret2
          exact ⟨rfl, rfl⟩
        · have hs : 1 ≤ n + b ∧ n + b ≤ m := by unfold wrap64 at h3 h4; omega
          obtain ⟨hs1, hs2⟩ := hs
          clear h3 h4
          have e : movedF n b m false = (n + b, true) := by simp [movedF]; omega
          rw [e]
          go_enter Tryz.func119, Tryz.ntmps119
          go_wp2
          go_ret2
          exact ⟨rfl, rfl⟩

set_option maxHeartbeats 400000 in
theorem mark_any (b : Bool) (w : World) :
    Calls Tryz.prog 212 #[.bool b] w fun e w' => e = .returned (.string ⟨(if b then [36] else []).toArray⟩) ∧ w = w' := by
  cases b
  all_goals
    go_enter Tryz.func212, Tryz.ntmps212
    go_wp2
    go_ret
    exact ⟨rfl, rfl⟩

end Go.Proofs.YtfkiomjplpbmiaaGreatDoor
