/- The law CellsThere: what is plain in it. -/
import Derived.Test.YtmicenegjfnbmaaDoorCn
namespace Go.Proofs.YtmicenegjfnbmaaDoor
open Go.RowKit Go.Lib

theorem wrap_range (x : Int) : -9223372036854775808 ≤ wrap64 x ∧ wrap64 x ≤ 9223372036854775807 := by unfold wrap64; omega

theorem shift_right {sh : List UInt8} {c r c' r' : Int} (h : Pl.right sh c r = true) (hc : 1 ≤ c' ∧ c' ≤ 64) (hr : 1 ≤ r' ∧ r' ≤ 512) : Pl.right sh c' r' = true := by
  unfold Pl.right at h ⊢
  simp only [Bool.and_eq_true] at h
  rw [h.2, Bool.and_true]
  unfold Pl.rightN
  simp only [Bool.and_eq_true, decide_eq_true_eq]
  omega

/-- A number that moves and is there: back. -/
theorem moved_back (c dc m : Int) (f : Bool) (hm1 : m ≤ 512) (h : (movedF c dc m f).2 = true) (hc : 1 ≤ c ∧ c ≤ m) :
    (1 ≤ (movedF c dc m f).1 ∧ (movedF c dc m f).1 ≤ m) ∧ (f = true → (movedF c dc m f).1 = c) ∧ movedF (movedF c dc m f).1 (wrap64 (-dc)) m f = (c, true) := by
  cases f with
  | true => exact ⟨hc, fun _ => rfl, rfl⟩
  | false =>
    unfold movedF at h ⊢
    simp only [Bool.false_eq_true, if_false] at h ⊢
    split at h
    · cases h
    · rename_i hn
      rw [if_neg hn]
      dsimp only
      have hw : wrap64 (-dc) = -dc := by unfold wrap64; omega
      refine ⟨by omega, fun h => (by cases h), ?_⟩
      rw [hw, if_neg (by omega)]
      congr 1; omega

end Go.Proofs.YtmicenegjfnbmaaDoor
