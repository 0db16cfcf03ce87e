/- The walk of quireref06.char, Write. -/
import Derived.Test.YtfkiomjplpbmiaaGreatDoorUaM
import Derived.Test.YtfkiomjplpbmiaaGreatDoorM4
import Derived.Laws.OwnMore
namespace Go.Proofs.YtfkiomjplpbmiaaGreatDoor
open Go.RowKit Go.Lib

set_option maxRecDepth 100000 in
set_option maxHeartbeats 8000000 in
theorem u6char (n : Int) (w : World) : Calls Tryz.prog 192 #[.int .i64 n] w (fun e w' => e = .returned (.bool (decide (charP n))) ∧ w' = w) := by
  obtain ⟨r, hr⟩ : ∃ r, decide (charP n) = r := ⟨_, rfl⟩
  rw [hr]
  have HR : Hid (charP n ↔ r = true) := by show _ ↔ _; rw [← hr, decide_eq_true_eq]
  clear hr
  go_enter Tryz.func192, Tryz.ntmps192
  go_wp2_with fail
  all_goals go_ret
  all_goals
    refine ⟨?_, rfl⟩
    have h := HR.out
    unfold charP at h
    cases r <;> simp at h ⊢ <;> omega

theorem bytesV_of (x : Int) (h0 : 0 ≤ x) (h1 : x < 256) : Value.int .u8 ((x.toNat.toUInt8).toNat : Int) = .int .u8 x := by
  have : x.toNat.toUInt8.toNat = x.toNat % 256 := by simp
  rw [this, show ((x.toNat % 256 : Nat) : Int) = x by omega]

set_option maxRecDepth 100000 in
set_option maxHeartbeats 8000000 in
theorem u6write (n : Int) (w : World) (hc : charP n) : Calls Tryz.prog 193 #[.int .i64 n] w (fun e w' => ∃ v, e = .returned v ∧ w'.ownsRow w.heap.size 5 1 v (encodeRune n).length (bytesV (encodeRune n)) ∧ Below w.heap.size w w') := by
  have C1 := fun w => u6char n w
  rw [decide_eq_true hc] at C1
  have HC := Lib.hid C1
  clear C1
  obtain ⟨E, hE⟩ : ∃ E, encodeRune n = E := ⟨_, rfl⟩
  rw [hE]
  have hcs := enc_cases n hc
  rw [hE] at hcs
  obtain ⟨h0, h1, _⟩ := hc
  clear hE
  go_enter Tryz.func193, Tryz.ntmps193
  go_wp2_with fail
  refine (HC.out _).mono ?_
  rintro e w1 ⟨rfl, rfl⟩
  have HB := Lib.hid (Below.refl w1.heap.size w1)
  clear HC
  rcases hcs with ⟨a, rfl⟩ | ⟨a, b, rfl⟩ | ⟨a, b, rfl⟩ | ⟨a, rfl⟩
  · have d1 : decide (n < 128) = true := decide_eq_true (by omega)
    go_wp2_with fail
    go_ret
    refine ⟨_, rfl, ?_, HB.out.alloc HB.out.size _⟩
    have h := World.ownsRow_lit (base := w1.heap.size) (e := 5) (size := 1) w1 #[.int .u8 (n)] 1 HB.out.size (by simp only [maxLen]; omega) rfl
    unfold bytesV
    simp only [List.map_cons, List.map_nil]
    rw [bytesV_of (n) (by omega) (by omega)]
    exact h
  · have d1 : decide (n < 128) = false := decide_eq_false (by omega)
    have d2 : decide (n < 2048) = true := decide_eq_true (by omega)
    go_wp2_with fail
    go_ret
    refine ⟨_, rfl, ?_, HB.out.alloc HB.out.size _⟩
    have h := World.ownsRow_lit (base := w1.heap.size) (e := 5) (size := 1) w1 #[.int .u8 (192 + n / 64), .int .u8 (128 + n % 64)] 2 HB.out.size (by simp only [maxLen]; omega) rfl
    unfold bytesV
    simp only [List.map_cons, List.map_nil]
    rw [bytesV_of (192 + n / 64) (by omega) (by omega), bytesV_of (128 + n % 64) (by omega) (by omega)]
    exact h
  · have d1 : decide (n < 128) = false := decide_eq_false (by omega)
    have d2 : decide (n < 2048) = false := decide_eq_false (by omega)
    have d3 : decide (n < 65536) = true := decide_eq_true (by omega)
    go_wp2_with fail
    go_ret
    refine ⟨_, rfl, ?_, HB.out.alloc HB.out.size _⟩
    have h := World.ownsRow_lit (base := w1.heap.size) (e := 5) (size := 1) w1 #[.int .u8 (224 + n / 4096), .int .u8 (128 + n / 64 % 64), .int .u8 (128 + n % 64)] 3 HB.out.size (by simp only [maxLen]; omega) rfl
    unfold bytesV
    simp only [List.map_cons, List.map_nil]
    rw [bytesV_of (224 + n / 4096) (by omega) (by omega), bytesV_of (128 + n / 64 % 64) (by omega) (by omega), bytesV_of (128 + n % 64) (by omega) (by omega)]
    exact h
  · have d1 : decide (n < 128) = false := decide_eq_false (by omega)
    have d2 : decide (n < 2048) = false := decide_eq_false (by omega)
    have d3 : decide (n < 65536) = false := decide_eq_false (by omega)
    go_wp2_with fail
    go_ret
    refine ⟨_, rfl, ?_, HB.out.alloc HB.out.size _⟩
    have h := World.ownsRow_lit (base := w1.heap.size) (e := 5) (size := 1) w1 #[.int .u8 (240 + n / 262144), .int .u8 (128 + n / 4096 % 64), .int .u8 (128 + n / 64 % 64), .int .u8 (128 + n % 64)] 4 HB.out.size (by simp only [maxLen]; omega) rfl
    unfold bytesV
    simp only [List.map_cons, List.map_nil]
    rw [bytesV_of (240 + n / 262144) (by omega) (by omega), bytesV_of (128 + n / 4096 % 64) (by omega) (by omega), bytesV_of (128 + n / 64 % 64) (by omega) (by omega), bytesV_of (128 + n % 64) (by omega) (by omega)]
    exact h
end Go.Proofs.YtfkiomjplpbmiaaGreatDoor

