/- Box, twice. -/
import Derived.Test.YtmicenegjfnbmaaGreatDoorRt
import Derived.BigRegion
namespace Go.Proofs.YtmicenegjfnbmaaGreatDoor
open Go.RowKit Go.Lib


set_option maxHeartbeats 4000000 in
theorem box_any (sa : ByteArray) (ca ra : Int) (aca ara : Bool) (sb : ByteArray) (cb rb : Int) (acb arb : Bool) (w : World) :
    Calls Tryz.prog 27 #[refV sa ca ra aca ara, refV sb cb rb acb arb] w (Q (.tuple #[.int .i64 (min ca cb), .int .i64 (min ra rb), .int .i64 (max ca cb), .int .i64 (max ra rb)]) w) := by
  have HB := Lib.hid (W2_below sa ca ra aca ara sb cb rb acb arb w)
  have RA := Lib.hid (W2_a sa ca ra aca ara sb cb rb acb arb w)
  have RB := Lib.hid (W2_b sa ca ra aca ara sb cb rb acb arb w)
  unfold W2 at HB RA RB
  go_enter Tryz.func27, Tryz.ntmps27
  go_wp2_with fail
  obtain ⟨W, hW⟩ : ∃ W, (w.alloc (.cells #[.string sa, .int .i64 ca, .int .i64 ra, .bool aca, .bool ara] 23)).alloc (.cells #[.string sb, .int .i64 cb, .int .i64 rb, .bool acb, .bool arb] 23) = W := ⟨_, rfl⟩
  rw [hW] at HB RA RB ⊢
  clear hW
  obtain ⟨q0, q1, q2, q3, q4, qf, ql⟩ := RA.out
  obtain ⟨t0, t1, t2, t3, t4, tf, tl⟩ := RB.out
  go_quiet (fail)
  go_wp2
  exact bodyPost_ret (v := .tuple #[.int .i64 (min ca cb), .int .i64 (min ra rb), .int .i64 (max ca cb), .int .i64 (max ra rb)]) (by simp [results, Tryz.results27, go_sem]) rfl ⟨rfl, below_drewN HB.out _⟩

set_option maxHeartbeats 4000000 in
theorem refBox_any (sa : ByteArray) (ca ra : Int) (aca ara : Bool) (sb : ByteArray) (cb rb : Int) (acb arb : Bool) (w : World) :
    Calls Tryz.prog 28 #[refV sa ca ra aca ara, refV sb cb rb acb arb] w (Q (.tuple #[.int .i64 (min ca cb), .int .i64 (min ra rb), .int .i64 (max ca cb), .int .i64 (max ra rb)]) w) := by
  have HB := Lib.hid (W2_below sa ca ra aca ara sb cb rb acb arb w)
  have RA := Lib.hid (W2_a sa ca ra aca ara sb cb rb acb arb w)
  have RB := Lib.hid (W2_b sa ca ra aca ara sb cb rb acb arb w)
  unfold W2 at HB RA RB
  go_enter Tryz.func28, Tryz.ntmps28
  go_wp2_with fail
  obtain ⟨W, hW⟩ : ∃ W, (w.alloc (.cells #[.string sa, .int .i64 ca, .int .i64 ra, .bool aca, .bool ara] 23)).alloc (.cells #[.string sb, .int .i64 cb, .int .i64 rb, .bool acb, .bool arb] 23) = W := ⟨_, rfl⟩
  rw [hW] at HB RA RB ⊢
  clear hW
  obtain ⟨q0, q1, q2, q3, q4, qf, ql⟩ := RA.out
  obtain ⟨t0, t1, t2, t3, t4, tf, tl⟩ := RB.out
  go_quiet (fail)
  go_wp2
  exact bodyPost_ret (v := .tuple #[.int .i64 (min ca cb), .int .i64 (min ra rb), .int .i64 (max ca cb), .int .i64 (max ra rb)]) (by simp [results, Tryz.results28, go_sem]) rfl ⟨rfl, below_drewN HB.out _⟩
end Go.Proofs.YtmicenegjfnbmaaGreatDoor
