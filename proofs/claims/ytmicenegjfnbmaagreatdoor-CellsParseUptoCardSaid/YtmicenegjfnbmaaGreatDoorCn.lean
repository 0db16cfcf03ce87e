/- The chapter's examples: alive. -/
import Derived.Test.YtmicenegjfnbmaaGreatDoorCm
namespace Go.Proofs.YtmicenegjfnbmaaGreatDoor
open Go.RowKit Go.Lib

theorem ex_col : Pl.col [66, 76] = (64, true) := by decide +kernel
theorem ex_parse1 : parseF [66, 36, 50] = (0, [], 2, 2, false, true) := by decide +kernel
theorem ex_parse2 : parseF [65, 48] = (40, [], 0, 0, false, false) := by decide +kernel
theorem ex_parse3 : parseF [65, 53, 49, 51] = (41, [], 0, 0, false, false) := by decide +kernel
theorem ex_letters : Pl.letters 27 = [65, 65] := by decide +kernel
theorem ex_shift : shiftF ⟨#[]⟩ 1 1 true false 1 1 = true := by decide +kernel
theorem ex_itoa1 : Lib.itoa 1 = [49] := by unfold Lib.itoa; rw [if_neg (by decide), show (1 : Int).toNat = 1 from rfl, Lib.decDigits_one (by decide)]; rfl
theorem ex_itoa2 : Lib.itoa 2 = [50] := by unfold Lib.itoa; rw [if_neg (by decide), show (2 : Int).toNat = 2 from rfl, Lib.decDigits_one (by decide)]; rfl
theorem ex_print1 : printF [97, 32, 98] 1 1 false false = [39, 97, 32, 98, 39, 33, 65, 49] := by
  unfold printF bareF
  rw [ex_itoa1]; decide +kernel
theorem ex_print2 : printF [] 1 2 true false = [36, 65, 50] := by
  unfold printF bareF
  rw [ex_itoa2]; decide +kernel

theorem c_col (w : World) : Calls Tryz.prog 6 #[.string ⟨#[66, 76]⟩] w fun e w' => e = .returned (.tuple #[.int .i64 64, .bool true]) ∧ w = w' := by
  have h := col_any ⟨#[66, 76]⟩ w
  rw [show (⟨#[66, 76]⟩ : ByteArray).data.toList = [66, 76] from rfl, ex_col] at h
  exact h
theorem c_parse1 (w : World) (hg : Glob w) : Calls Tryz.prog 21 #[.string ⟨#[66, 36, 50]⟩] w (Q (.tuple #[refV ⟨#[]⟩ 2 2 false true, .int .i64 0]) w) := by
  have h := parse_any ⟨#[66, 36, 50]⟩ w (by decide) hg
  rw [show (⟨#[66, 36, 50]⟩ : ByteArray).data.toList = [66, 36, 50] from rfl, ex_parse1] at h
  exact h
theorem c_parse2 (w : World) (hg : Glob w) : Calls Tryz.prog 21 #[.string ⟨#[65, 48]⟩] w (Q (.tuple #[refV ⟨#[]⟩ 0 0 false false, .int .i64 40]) w) := by
  have h := parse_any ⟨#[65, 48]⟩ w (by decide) hg
  rw [show (⟨#[65, 48]⟩ : ByteArray).data.toList = [65, 48] from rfl, ex_parse2] at h
  exact h
theorem c_parse3 (w : World) (hg : Glob w) : Calls Tryz.prog 21 #[.string ⟨#[65, 53, 49, 51]⟩] w (Q (.tuple #[refV ⟨#[]⟩ 0 0 false false, .int .i64 41]) w) := by
  have h := parse_any ⟨#[65, 53, 49, 51]⟩ w (by decide) hg
  rw [show (⟨#[65, 53, 49, 51]⟩ : ByteArray).data.toList = [65, 53, 49, 51] from rfl, ex_parse3] at h
  exact h
theorem c_shift (w : World) : Calls Tryz.prog 25 #[refV ⟨#[]⟩ 1 1 true false, .int .i64 1, .int .i64 1] w (Q (.tuple #[refV ⟨#[]⟩ 1 2 true false, .bool true]) w) := by
  have h := shift_any ⟨#[]⟩ 1 1 true false 1 1 w (by decide) (by decide) (by decide) (by decide) (by decide) (by decide) (by decide) (by decide)
  unfold shiftV at h
  rw [ex_shift] at h
  exact h
theorem c_letters (w : World) : Calls Tryz.prog 12 #[.int .i64 27] w (Q (.string ⟨#[65, 65]⟩) w) := by
  have h := letters_any 27 w (by decide)
  rw [ex_letters] at h
  exact h
theorem c_print1 (w : World) (hg : Glob w) : Calls Tryz.prog 8 #[refV ⟨#[97, 32, 98]⟩ 1 1 false false] w (Q (.string ⟨#[39, 97, 32, 98, 39, 33, 65, 49]⟩) w) := by
  have h := print_any ⟨#[97, 32, 98]⟩ 1 1 false false w (by decide) (by decide) (by decide) hg
  rw [show (⟨#[97, 32, 98]⟩ : ByteArray).data.toList = [97, 32, 98] from rfl, ex_print1] at h
  exact h
theorem c_print2 (w : World) (hg : Glob w) : Calls Tryz.prog 8 #[refV ⟨#[]⟩ 1 2 true false] w (Q (.string ⟨#[36, 65, 50]⟩) w) := by
  have h := print_any ⟨#[]⟩ 1 2 true false w (by decide) (by decide) (by decide) hg
  rw [show (⟨#[]⟩ : ByteArray).data.toList = [] from rfl, ex_print2] at h
  exact h

set_option maxHeartbeats 4000000 in
theorem alive_any (w : World) (hg : Glob w) : Calls Tryz.prog 20 #[] w (Q (.bool true) w) := by
  have hB := Below.refl w.heap.size w
  go_enter Tryz.func20, Tryz.ntmps20
  go_wp2_with fail
  refine (c_col _).mono ?_
  rintro e w1 ⟨rfl, rfl⟩
  go_wp2_with fail
  refine (c_parse1 _ hg).mono ?_
  rintro e w1 ⟨rfl, hb⟩
  have hB := bt hB hb
  have hg := hg.below hb
  clear hb
  go_wp2_with fail
  have R1 := Lib.hid (RefAt.new w1 ⟨#[]⟩ 2 2 false true)
  have hA := (Below.refl w1.heap.size w1).alloc (Nat.le_refl _) (.cells #[.string ⟨#[]⟩, .int .i64 2, .int .i64 2, .bool false, .bool true] 23)
  have hB := bt hB hA
  have hg := hg.below hA
  clear hA
  refine (c_parse2 _ hg).mono ?_
  rintro e w2 ⟨rfl, hb⟩
  have R1 := Lib.hid (R1.out.below hb)
  have hB := bt hB hb
  have hg := hg.below hb
  clear hb
  go_wp2_with fail
  have R1 := Lib.hid (R1.out.alloc (.cells #[.string ⟨#[]⟩, .int .i64 0, .int .i64 0, .bool false, .bool false] 23))
  have hA := (Below.refl w2.heap.size w2).alloc (Nat.le_refl _) (.cells #[.string ⟨#[]⟩, .int .i64 0, .int .i64 0, .bool false, .bool false] 23)
  have hB := bt hB hA
  have hg := hg.below hA
  clear hA
  refine (c_parse3 _ hg).mono ?_
  rintro e w3 ⟨rfl, hb⟩
  have R1 := Lib.hid (R1.out.below hb)
  have hB := bt hB hb
  have hg := hg.below hb
  clear hb
  go_wp2_with fail
  have R1 := Lib.hid (R1.out.alloc (.cells #[.string ⟨#[]⟩, .int .i64 0, .int .i64 0, .bool false, .bool false] 23))
  have hA := (Below.refl w3.heap.size w3).alloc (Nat.le_refl _) (.cells #[.string ⟨#[]⟩, .int .i64 0, .int .i64 0, .bool false, .bool false] 23)
  have hB := bt hB hA
  have hg := hg.below hA
  clear hA
  refine (c_shift _).mono ?_
  rintro e w4 ⟨rfl, hb⟩
  have R1 := Lib.hid (R1.out.below hb)
  have hB := bt hB hb
  have hg := hg.below hb
  clear hb
  go_wp2_with fail
  have R1 := Lib.hid (R1.out.alloc (.cells #[.string ⟨#[]⟩, .int .i64 1, .int .i64 2, .bool true, .bool false] 23))
  have R2 := Lib.hid (RefAt.new w4 ⟨#[]⟩ 1 2 true false)
  have hA := (Below.refl w4.heap.size w4).alloc (Nat.le_refl _) (.cells #[.string ⟨#[]⟩, .int .i64 1, .int .i64 2, .bool true, .bool false] 23)
  have hB := bt hB hA
  have hg := hg.below hA
  clear hA
  refine (c_letters _).mono ?_
  rintro e w5 ⟨rfl, hb⟩
  have R1 := Lib.hid (R1.out.below hb)
  have R2 := Lib.hid (R2.out.below hb)
  have hB := bt hB hb
  have hg := hg.below hb
  clear hb
  obtain ⟨q0, q1, q2, q3, q4, qf, ql⟩ := R1.out
  clear R1
  go_wp2_with fail
  refine (c_print1 _ hg).mono ?_
  rintro e w6 ⟨rfl, hb⟩
  have R2 := Lib.hid (R2.out.below hb)
  have hB := bt hB hb
  have hg := hg.below hb
  clear hb q0 q1 q2 q3 q4 qf ql
  obtain ⟨p0, p1, p2, p3, p4, pf, pl⟩ := R2.out
  clear R2
  go_wp2_with fail
  refine (c_print2 _ hg).mono ?_
  rintro e w7 ⟨rfl, hb⟩
  have hB := bt hB hb
  clear hb p0 p1 p2 p3 p4 pf pl
  go_wp2_with fail
  go_ret
  exact ⟨rfl, hB⟩
end Go.Proofs.YtmicenegjfnbmaaGreatDoor
