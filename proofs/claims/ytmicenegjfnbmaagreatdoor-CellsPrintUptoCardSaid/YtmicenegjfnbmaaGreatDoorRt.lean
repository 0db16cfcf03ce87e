/- The document's answer, second part: Right, moved, Shift. -/
import Derived.Test.YtmicenegjfnbmaaGreatDoorRs
import Derived.Test.YtmicenegjfnbmaaGreatDoorCk
import Derived.Test.YtmicenegjfnbmaaGreatDoorCo
namespace Go.Proofs.YtmicenegjfnbmaaGreatDoor
open Go.RowKit Go.Lib

set_option maxHeartbeats 2000000 in
theorem refRight_any (sh : ByteArray) (c r : Int) (ac ar : Bool) (w : World) :
    Calls Tryz.prog 19 #[refV sh c r ac ar] w (Q (.bool (Pl.right sh.data.toList c r)) w) := by
  have hB : ∀ o, Below w.heap.size w (w.alloc o) := fun o => (Below.refl _ _).alloc (Nat.le_refl _) _
  by_cases h1 : 1 ≤ c
  case neg =>
    have e : Pl.right sh.data.toList c r = false := by simp [Pl.right, Pl.rightN, h1]
    rw [e]
    go_enter Tryz.func19, Tryz.ntmps19
    go_wp2_with fail
    go_ret
    exact ⟨rfl, hB _⟩
  by_cases h2 : c ≤ 64
  case neg =>
    have e : Pl.right sh.data.toList c r = false := by simp [Pl.right, Pl.rightN, h2]
    rw [e]
    go_enter Tryz.func19, Tryz.ntmps19
    go_wp2_with fail
    go_ret
    exact ⟨rfl, hB _⟩
  by_cases h3 : 1 ≤ r
  case neg =>
    have e : Pl.right sh.data.toList c r = false := by simp [Pl.right, Pl.rightN, h3]
    rw [e]
    go_enter Tryz.func19, Tryz.ntmps19
    go_wp2_with fail
    go_ret
    exact ⟨rfl, hB _⟩
  by_cases h4 : r ≤ 512
  case neg =>
    have e : Pl.right sh.data.toList c r = false := by simp [Pl.right, Pl.rightN, h4]
    rw [e]
    go_enter Tryz.func19, Tryz.ntmps19
    go_wp2_with fail
    go_ret
    exact ⟨rfl, hB _⟩
  have e : Pl.right sh.data.toList c r = (sh.data.toList.isEmpty || Pl.sheetName sh.data.toList) := by simp [Pl.right, Pl.rightN, h1, h2, h3, h4]
  by_cases h0 : sh.toList = []
  · have e' : Pl.right sh.data.toList c r = true := by rw [e, toList_nil.1 h0]; rfl
    rw [e']
    clear e e'
    have hne : sh.toList.isEmpty = true := by rw [h0]; rfl
    clear h0
    go_enter Tryz.func19, Tryz.ntmps19
    go_wp2_with fail
    go_ret
    exact ⟨rfl, hB _⟩
  · have hd : sh.data.toList.isEmpty = false := by
      have : ¬ sh.data.toList = [] := fun e => h0 (toList_nil.2 e)
      cases hh : sh.data.toList with
      | nil => exact absurd hh this
      | cons _ _ => rfl
    have hne : sh.toList.isEmpty = false := by rw [Lib.toList_data]; exact hd
    rw [e, hd, Bool.false_or]
    clear e hd h0
    have c1 := refSheetName_any sh
    generalize Pl.sheetName sh.data.toList = b at *
    have C1 := Lib.hid c1
    clear c1
    go_enter Tryz.func19, Tryz.ntmps19
    go_wp2_with fail
    refine (C1.out _).mono ?_
    rintro e w1 ⟨rfl, hb⟩
    have hb' : Below w.heap.size w w1 := (hB _).trans (hb.mono (by simp))
    clear hb
    cases b
    all_goals
      go_wp2_with fail
      go_ret
      exact ⟨rfl, hb'⟩


set_option maxHeartbeats 1000000 in
theorem refMoved_any (n b m : Int) (hn : 1 ≤ n) (hn1 : n ≤ 512) (hb0 : -9223372036854775808 ≤ b) (hb1 : b ≤ 9223372036854775807) (hm0 : 1 ≤ m) (hm1 : m ≤ 512) :
    ∃ x, (∀ w, Calls Tryz.prog 48 #[.int .i64 n, .int .i64 b, .int .i64 m] w fun e w' => e = .returned (.tuple #[.int .i64 x, .bool (movedF n b m false).2]) ∧ w = w') ∧ ((movedF n b m false).2 = true → x = (movedF n b m false).1) := by
  by_cases h1 : m < b
  · have e : movedF n b m false = (0, false) := by simp [movedF, h1]
    rw [e]
    refine ⟨0, fun w => ?_, fun h => (by cases h)⟩
    go_enter Tryz.func48, Tryz.ntmps48
    go_wp2
    go_ret2
    exact ⟨rfl, rfl⟩
  by_cases h2 : b < -m
  · have e : movedF n b m false = (0, false) := by simp [movedF, h2]
    rw [e]
    refine ⟨0, fun w => ?_, fun h => (by cases h)⟩
    go_enter Tryz.func48, Tryz.ntmps48
    go_wp2
    go_ret2
    exact ⟨rfl, rfl⟩
  by_cases h3 : n + b < 1
  · have e : movedF n b m false = (0, false) := by simp [movedF]; omega
    rw [e]
    refine ⟨n + b, fun w => ?_, fun h => (by cases h)⟩
    have d3 : decide (1 ≤ n + b) = false := by rw [decide_eq_false_iff_not]; omega
    go_enter Tryz.func48, Tryz.ntmps48
    go_wp2
    go_ret2
    exact ⟨rfl, rfl⟩
  by_cases h4 : m < n + b
  · have e : movedF n b m false = (0, false) := by simp [movedF]; omega
    rw [e]
    refine ⟨n + b, fun w => ?_, fun h => (by cases h)⟩
    have d3 : decide (1 ≤ n + b) = true := by rw [decide_eq_true_eq]; omega
    have d4 : decide (n + b ≤ m) = false := by rw [decide_eq_false_iff_not]; omega
    go_enter Tryz.func48, Tryz.ntmps48
    go_wp2
    go_ret2
    exact ⟨rfl, rfl⟩
  · have e : movedF n b m false = (n + b, true) := by simp [movedF]; omega
    rw [e]
    refine ⟨n + b, fun w => ?_, fun _ => rfl⟩
    have d3 : decide (1 ≤ n + b) = true := by rw [decide_eq_true_eq]; omega
    have d4 : decide (n + b ≤ m) = true := by rw [decide_eq_true_eq]; omega
    go_enter Tryz.func48, Tryz.ntmps48
    go_wp2
    go_ret2
    exact ⟨rfl, rfl⟩

/-! ### Shift -/
theorem refShift_none (sh : ByteArray) (c r : Int) (ac ar : Bool) (dc dr : Int) (w : World)
    (C1 : Hid (∀ w, Calls Tryz.prog 19 #[refV sh c r ac ar] w (Q (.bool false) w))) :
    Calls Tryz.prog 26 #[refV sh c r ac ar, .int .i64 dc, .int .i64 dr] w (Q (.tuple #[zeroRef, .bool false]) w) := by
  have HB : Hid (Below w.heap.size w (W2 sh c r ac ar ⟨#[]⟩ 0 0 false false w)) := W2_below sh c r ac ar ⟨#[]⟩ 0 0 false false w
  have R2 : Hid (RefAt (W2 sh c r ac ar ⟨#[]⟩ 0 0 false false w) (w.heap.size + 1) ⟨#[]⟩ 0 0 false false) := W2_b sh c r ac ar ⟨#[]⟩ 0 0 false false w
  unfold zeroRef
  go_enter Tryz.func26, Tryz.ntmps26
  go_wp2_with fail
  refine (C1.out _).mono ?_
  rintro e w1 ⟨rfl, hb⟩
  replace HB := Lib.hid (bt HB.out hb)
  replace R2 := Lib.hid (R2.out.below hb)
  clear hb
  obtain ⟨t0, t1, t2, t3, t4, tf, tl⟩ := R2.out
  go_wp2_with fail
  obtain ⟨c0, c1, c2, c3, c4, _, _⟩ := R2.out.set5 ⟨#[]⟩ 0 0 false false
  exact bodyPost_ret (v := .tuple #[refV ⟨#[]⟩ 0 0 false false, .bool false]) (by simp [results, Tryz.results26, go_sem, c0, c1, c2, c3, c4]) rfl ⟨rfl, below_set5 HB.out (Nat.le_succ _) _ _ _ _ _⟩

set_option maxHeartbeats 4000000 in
theorem refShift_ff (sh : ByteArray) (c r : Int) (dc dr : Int) (x1 : Int) (b1 : Bool) (x2 : Int) (b2 : Bool) (w : World)
    (C1 : Hid (∀ w, Calls Tryz.prog 19 #[refV sh c r false false] w (Q (.bool true) w)))
    (M1 : Hid (∀ w, Calls Tryz.prog 48 #[.int .i64 c, .int .i64 dc, .int .i64 64] w fun e w' => e = .returned (.tuple #[.int .i64 x1, .bool b1]) ∧ w = w'))
    (M2 : Hid (∀ w, Calls Tryz.prog 48 #[.int .i64 r, .int .i64 dr, .int .i64 512] w fun e w' => e = .returned (.tuple #[.int .i64 x2, .bool b2]) ∧ w = w')) :
    Calls Tryz.prog 26 #[refV sh c r false false, .int .i64 dc, .int .i64 dr] w (Q (.tuple #[if (b1 && b2) = true then refV sh x1 x2 false false else zeroRef, .bool (b1 && b2)]) w) := by
  have HB : Hid (Below w.heap.size w (W2 sh c r false false ⟨#[]⟩ 0 0 false false w)) := W2_below sh c r false false ⟨#[]⟩ 0 0 false false w
  have R1 : Hid (RefAt (W2 sh c r false false ⟨#[]⟩ 0 0 false false w) w.heap.size sh c r false false) := W2_a sh c r false false ⟨#[]⟩ 0 0 false false w
  have R2 : Hid (RefAt (W2 sh c r false false ⟨#[]⟩ 0 0 false false w) (w.heap.size + 1) ⟨#[]⟩ 0 0 false false) := W2_b sh c r false false ⟨#[]⟩ 0 0 false false w
  unfold zeroRef
  cases b1 <;> cases b2
  · go_enter Tryz.func26, Tryz.ntmps26
    go_wp2_with fail
    refine (C1.out _).mono ?_
    rintro e w1 ⟨rfl, hb⟩
    replace HB := Lib.hid (bt HB.out hb)
    replace R1 := Lib.hid (R1.out.below hb)
    replace R2 := Lib.hid (R2.out.below hb)
    clear hb
    obtain ⟨q0, q1, q2, q3, q4, qf, ql⟩ := R1.out
    obtain ⟨t0, t1, t2, t3, t4, tf, tl⟩ := R2.out
    go_wp2_with fail
    refine (M1.out _).mono ?_
    rintro e w2 ⟨rfl, rfl⟩
    go_wp2_with fail
    refine (M2.out _).mono ?_
    rintro e w3 ⟨rfl, rfl⟩
    go_wp2_with fail
    obtain ⟨c0, c1, c2, c3, c4, _, _⟩ := ((R2.out.other ⟨w.heap.size, 1, none⟩ (.int .i64 x1) (by show w.heap.size + 1 ≠ w.heap.size; omega)).other ⟨w.heap.size, 2, none⟩ (.int .i64 x2) (by show w.heap.size + 1 ≠ w.heap.size; omega)).set5 ⟨#[]⟩ 0 0 false false
    exact bodyPost_ret (v := .tuple #[refV ⟨#[]⟩ 0 0 false false, .bool false]) (by simp [results, Tryz.results26, go_sem, c0, c1, c2, c3, c4]) rfl ⟨rfl, below_set5 ((HB.out.setCell (p := ⟨w.heap.size, 1, none⟩) (Nat.le_refl _) (.int .i64 x1)).setCell (p := ⟨w.heap.size, 2, none⟩) (Nat.le_refl _) (.int .i64 x2)) (Nat.le_succ _) _ _ _ _ _⟩
  · go_enter Tryz.func26, Tryz.ntmps26
    go_wp2_with fail
    refine (C1.out _).mono ?_
    rintro e w1 ⟨rfl, hb⟩
    replace HB := Lib.hid (bt HB.out hb)
    replace R1 := Lib.hid (R1.out.below hb)
    replace R2 := Lib.hid (R2.out.below hb)
    clear hb
    obtain ⟨q0, q1, q2, q3, q4, qf, ql⟩ := R1.out
    obtain ⟨t0, t1, t2, t3, t4, tf, tl⟩ := R2.out
    go_wp2_with fail
    refine (M1.out _).mono ?_
    rintro e w2 ⟨rfl, rfl⟩
    go_wp2_with fail
    refine (M2.out _).mono ?_
    rintro e w3 ⟨rfl, rfl⟩
    go_wp2_with fail
    obtain ⟨c0, c1, c2, c3, c4, _, _⟩ := ((R2.out.other ⟨w.heap.size, 1, none⟩ (.int .i64 x1) (by show w.heap.size + 1 ≠ w.heap.size; omega)).other ⟨w.heap.size, 2, none⟩ (.int .i64 x2) (by show w.heap.size + 1 ≠ w.heap.size; omega)).set5 ⟨#[]⟩ 0 0 false false
    exact bodyPost_ret (v := .tuple #[refV ⟨#[]⟩ 0 0 false false, .bool false]) (by simp [results, Tryz.results26, go_sem, c0, c1, c2, c3, c4]) rfl ⟨rfl, below_set5 ((HB.out.setCell (p := ⟨w.heap.size, 1, none⟩) (Nat.le_refl _) (.int .i64 x1)).setCell (p := ⟨w.heap.size, 2, none⟩) (Nat.le_refl _) (.int .i64 x2)) (Nat.le_succ _) _ _ _ _ _⟩
  · go_enter Tryz.func26, Tryz.ntmps26
    go_wp2_with fail
    refine (C1.out _).mono ?_
    rintro e w1 ⟨rfl, hb⟩
    replace HB := Lib.hid (bt HB.out hb)
    replace R1 := Lib.hid (R1.out.below hb)
    replace R2 := Lib.hid (R2.out.below hb)
    clear hb
    obtain ⟨q0, q1, q2, q3, q4, qf, ql⟩ := R1.out
    obtain ⟨t0, t1, t2, t3, t4, tf, tl⟩ := R2.out
    go_wp2_with fail
    refine (M1.out _).mono ?_
    rintro e w2 ⟨rfl, rfl⟩
    go_wp2_with fail
    refine (M2.out _).mono ?_
    rintro e w3 ⟨rfl, rfl⟩
    go_wp2_with fail
    obtain ⟨c0, c1, c2, c3, c4, _, _⟩ := ((R2.out.other ⟨w.heap.size, 1, none⟩ (.int .i64 x1) (by show w.heap.size + 1 ≠ w.heap.size; omega)).other ⟨w.heap.size, 2, none⟩ (.int .i64 x2) (by show w.heap.size + 1 ≠ w.heap.size; omega)).set5 ⟨#[]⟩ 0 0 false false
    exact bodyPost_ret (v := .tuple #[refV ⟨#[]⟩ 0 0 false false, .bool false]) (by simp [results, Tryz.results26, go_sem, c0, c1, c2, c3, c4]) rfl ⟨rfl, below_set5 ((HB.out.setCell (p := ⟨w.heap.size, 1, none⟩) (Nat.le_refl _) (.int .i64 x1)).setCell (p := ⟨w.heap.size, 2, none⟩) (Nat.le_refl _) (.int .i64 x2)) (Nat.le_succ _) _ _ _ _ _⟩
  · go_enter Tryz.func26, Tryz.ntmps26
    go_wp2_with fail
    refine (C1.out _).mono ?_
    rintro e w1 ⟨rfl, hb⟩
    replace HB := Lib.hid (bt HB.out hb)
    replace R1 := Lib.hid (R1.out.below hb)
    replace R2 := Lib.hid (R2.out.below hb)
    clear hb
    obtain ⟨q0, q1, q2, q3, q4, qf, ql⟩ := R1.out
    obtain ⟨t0, t1, t2, t3, t4, tf, tl⟩ := R2.out
    go_wp2_with fail
    refine (M1.out _).mono ?_
    rintro e w2 ⟨rfl, rfl⟩
    go_wp2_with fail
    refine (M2.out _).mono ?_
    rintro e w3 ⟨rfl, rfl⟩
    go_wp2_with fail
    obtain ⟨c0, c1, c2, c3, c4, _, _⟩ := ((R2.out.other ⟨w.heap.size, 1, none⟩ (.int .i64 x1) (by show w.heap.size + 1 ≠ w.heap.size; omega)).other ⟨w.heap.size, 2, none⟩ (.int .i64 x2) (by show w.heap.size + 1 ≠ w.heap.size; omega)).set5 sh x1 x2 false false
    exact bodyPost_ret (v := .tuple #[refV sh x1 x2 false false, .bool true]) (by simp [results, Tryz.results26, go_sem, c0, c1, c2, c3, c4]) rfl ⟨rfl, below_set5 ((HB.out.setCell (p := ⟨w.heap.size, 1, none⟩) (Nat.le_refl _) (.int .i64 x1)).setCell (p := ⟨w.heap.size, 2, none⟩) (Nat.le_refl _) (.int .i64 x2)) (Nat.le_succ _) _ _ _ _ _⟩

set_option maxHeartbeats 4000000 in
theorem refShift_ft (sh : ByteArray) (c r : Int) (dc dr : Int) (x1 : Int) (b1 : Bool) (w : World)
    (C1 : Hid (∀ w, Calls Tryz.prog 19 #[refV sh c r false true] w (Q (.bool true) w)))
    (M1 : Hid (∀ w, Calls Tryz.prog 48 #[.int .i64 c, .int .i64 dc, .int .i64 64] w fun e w' => e = .returned (.tuple #[.int .i64 x1, .bool b1]) ∧ w = w')) :
    Calls Tryz.prog 26 #[refV sh c r false true, .int .i64 dc, .int .i64 dr] w (Q (.tuple #[if (b1) = true then refV sh x1 r false true else zeroRef, .bool (b1)]) w) := by
  have HB : Hid (Below w.heap.size w (W2 sh c r false true ⟨#[]⟩ 0 0 false false w)) := W2_below sh c r false true ⟨#[]⟩ 0 0 false false w
  have R1 : Hid (RefAt (W2 sh c r false true ⟨#[]⟩ 0 0 false false w) w.heap.size sh c r false true) := W2_a sh c r false true ⟨#[]⟩ 0 0 false false w
  have R2 : Hid (RefAt (W2 sh c r false true ⟨#[]⟩ 0 0 false false w) (w.heap.size + 1) ⟨#[]⟩ 0 0 false false) := W2_b sh c r false true ⟨#[]⟩ 0 0 false false w
  unfold zeroRef
  cases b1
  · go_enter Tryz.func26, Tryz.ntmps26
    go_wp2_with fail
    refine (C1.out _).mono ?_
    rintro e w1 ⟨rfl, hb⟩
    replace HB := Lib.hid (bt HB.out hb)
    replace R1 := Lib.hid (R1.out.below hb)
    replace R2 := Lib.hid (R2.out.below hb)
    clear hb
    obtain ⟨q0, q1, q2, q3, q4, qf, ql⟩ := R1.out
    obtain ⟨t0, t1, t2, t3, t4, tf, tl⟩ := R2.out
    go_wp2_with fail
    refine (M1.out _).mono ?_
    rintro e w2 ⟨rfl, rfl⟩
    go_wp2_with fail
    obtain ⟨c0, c1, c2, c3, c4, _, _⟩ := (R2.out.other ⟨w.heap.size, 1, none⟩ (.int .i64 x1) (by show w.heap.size + 1 ≠ w.heap.size; omega)).set5 ⟨#[]⟩ 0 0 false false
    exact bodyPost_ret (v := .tuple #[refV ⟨#[]⟩ 0 0 false false, .bool false]) (by simp [results, Tryz.results26, go_sem, c0, c1, c2, c3, c4]) rfl ⟨rfl, below_set5 (HB.out.setCell (p := ⟨w.heap.size, 1, none⟩) (Nat.le_refl _) (.int .i64 x1)) (Nat.le_succ _) _ _ _ _ _⟩
  · go_enter Tryz.func26, Tryz.ntmps26
    go_wp2_with fail
    refine (C1.out _).mono ?_
    rintro e w1 ⟨rfl, hb⟩
    replace HB := Lib.hid (bt HB.out hb)
    replace R1 := Lib.hid (R1.out.below hb)
    replace R2 := Lib.hid (R2.out.below hb)
    clear hb
    obtain ⟨q0, q1, q2, q3, q4, qf, ql⟩ := R1.out
    obtain ⟨t0, t1, t2, t3, t4, tf, tl⟩ := R2.out
    go_wp2_with fail
    refine (M1.out _).mono ?_
    rintro e w2 ⟨rfl, rfl⟩
    go_wp2_with fail
    obtain ⟨c0, c1, c2, c3, c4, _, _⟩ := (R2.out.other ⟨w.heap.size, 1, none⟩ (.int .i64 x1) (by show w.heap.size + 1 ≠ w.heap.size; omega)).set5 sh x1 r false true
    exact bodyPost_ret (v := .tuple #[refV sh x1 r false true, .bool true]) (by simp [results, Tryz.results26, go_sem, c0, c1, c2, c3, c4]) rfl ⟨rfl, below_set5 (HB.out.setCell (p := ⟨w.heap.size, 1, none⟩) (Nat.le_refl _) (.int .i64 x1)) (Nat.le_succ _) _ _ _ _ _⟩

set_option maxHeartbeats 4000000 in
theorem refShift_tf (sh : ByteArray) (c r : Int) (dc dr : Int) (x2 : Int) (b2 : Bool) (w : World)
    (C1 : Hid (∀ w, Calls Tryz.prog 19 #[refV sh c r true false] w (Q (.bool true) w)))
    (M2 : Hid (∀ w, Calls Tryz.prog 48 #[.int .i64 r, .int .i64 dr, .int .i64 512] w fun e w' => e = .returned (.tuple #[.int .i64 x2, .bool b2]) ∧ w = w')) :
    Calls Tryz.prog 26 #[refV sh c r true false, .int .i64 dc, .int .i64 dr] w (Q (.tuple #[if (b2) = true then refV sh c x2 true false else zeroRef, .bool (b2)]) w) := by
  have HB : Hid (Below w.heap.size w (W2 sh c r true false ⟨#[]⟩ 0 0 false false w)) := W2_below sh c r true false ⟨#[]⟩ 0 0 false false w
  have R1 : Hid (RefAt (W2 sh c r true false ⟨#[]⟩ 0 0 false false w) w.heap.size sh c r true false) := W2_a sh c r true false ⟨#[]⟩ 0 0 false false w
  have R2 : Hid (RefAt (W2 sh c r true false ⟨#[]⟩ 0 0 false false w) (w.heap.size + 1) ⟨#[]⟩ 0 0 false false) := W2_b sh c r true false ⟨#[]⟩ 0 0 false false w
  unfold zeroRef
  cases b2
  · go_enter Tryz.func26, Tryz.ntmps26
    go_wp2_with fail
    refine (C1.out _).mono ?_
    rintro e w1 ⟨rfl, hb⟩
    replace HB := Lib.hid (bt HB.out hb)
    replace R1 := Lib.hid (R1.out.below hb)
    replace R2 := Lib.hid (R2.out.below hb)
    clear hb
    obtain ⟨q0, q1, q2, q3, q4, qf, ql⟩ := R1.out
    obtain ⟨t0, t1, t2, t3, t4, tf, tl⟩ := R2.out
    go_wp2_with fail
    refine (M2.out _).mono ?_
    rintro e w3 ⟨rfl, rfl⟩
    go_wp2_with fail
    obtain ⟨c0, c1, c2, c3, c4, _, _⟩ := (R2.out.other ⟨w.heap.size, 2, none⟩ (.int .i64 x2) (by show w.heap.size + 1 ≠ w.heap.size; omega)).set5 ⟨#[]⟩ 0 0 false false
    exact bodyPost_ret (v := .tuple #[refV ⟨#[]⟩ 0 0 false false, .bool false]) (by simp [results, Tryz.results26, go_sem, c0, c1, c2, c3, c4]) rfl ⟨rfl, below_set5 (HB.out.setCell (p := ⟨w.heap.size, 2, none⟩) (Nat.le_refl _) (.int .i64 x2)) (Nat.le_succ _) _ _ _ _ _⟩
  · go_enter Tryz.func26, Tryz.ntmps26
    go_wp2_with fail
    refine (C1.out _).mono ?_
    rintro e w1 ⟨rfl, hb⟩
    replace HB := Lib.hid (bt HB.out hb)
    replace R1 := Lib.hid (R1.out.below hb)
    replace R2 := Lib.hid (R2.out.below hb)
    clear hb
    obtain ⟨q0, q1, q2, q3, q4, qf, ql⟩ := R1.out
    obtain ⟨t0, t1, t2, t3, t4, tf, tl⟩ := R2.out
    go_wp2_with fail
    refine (M2.out _).mono ?_
    rintro e w3 ⟨rfl, rfl⟩
    go_wp2_with fail
    obtain ⟨c0, c1, c2, c3, c4, _, _⟩ := (R2.out.other ⟨w.heap.size, 2, none⟩ (.int .i64 x2) (by show w.heap.size + 1 ≠ w.heap.size; omega)).set5 sh c x2 true false
    exact bodyPost_ret (v := .tuple #[refV sh c x2 true false, .bool true]) (by simp [results, Tryz.results26, go_sem, c0, c1, c2, c3, c4]) rfl ⟨rfl, below_set5 (HB.out.setCell (p := ⟨w.heap.size, 2, none⟩) (Nat.le_refl _) (.int .i64 x2)) (Nat.le_succ _) _ _ _ _ _⟩

set_option maxHeartbeats 4000000 in
theorem refShift_tt (sh : ByteArray) (c r : Int) (dc dr : Int) (w : World)
    (C1 : Hid (∀ w, Calls Tryz.prog 19 #[refV sh c r true true] w (Q (.bool true) w))) :
    Calls Tryz.prog 26 #[refV sh c r true true, .int .i64 dc, .int .i64 dr] w (Q (.tuple #[if (true) = true then refV sh c r true true else zeroRef, .bool (true)]) w) := by
  have HB : Hid (Below w.heap.size w (W2 sh c r true true ⟨#[]⟩ 0 0 false false w)) := W2_below sh c r true true ⟨#[]⟩ 0 0 false false w
  have R1 : Hid (RefAt (W2 sh c r true true ⟨#[]⟩ 0 0 false false w) w.heap.size sh c r true true) := W2_a sh c r true true ⟨#[]⟩ 0 0 false false w
  have R2 : Hid (RefAt (W2 sh c r true true ⟨#[]⟩ 0 0 false false w) (w.heap.size + 1) ⟨#[]⟩ 0 0 false false) := W2_b sh c r true true ⟨#[]⟩ 0 0 false false w
  unfold zeroRef
  go_enter Tryz.func26, Tryz.ntmps26
  go_wp2_with fail
  refine (C1.out _).mono ?_
  rintro e w1 ⟨rfl, hb⟩
  replace HB := Lib.hid (bt HB.out hb)
  replace R1 := Lib.hid (R1.out.below hb)
  replace R2 := Lib.hid (R2.out.below hb)
  clear hb
  obtain ⟨q0, q1, q2, q3, q4, qf, ql⟩ := R1.out
  obtain ⟨t0, t1, t2, t3, t4, tf, tl⟩ := R2.out
  go_wp2_with fail
  obtain ⟨c0, c1, c2, c3, c4, _, _⟩ := R2.out.set5 sh c r true true
  exact bodyPost_ret (v := .tuple #[refV sh c r true true, .bool true]) (by simp [results, Tryz.results26, go_sem, c0, c1, c2, c3, c4]) rfl ⟨rfl, below_set5 HB.out (Nat.le_succ _) _ _ _ _ _⟩

theorem refShift_any (sh : ByteArray) (c r : Int) (ac ar : Bool) (dc dr : Int) (w : World) (hd0 : -9223372036854775808 ≤ dc) (hd1 : dc ≤ 9223372036854775807) (he0 : -9223372036854775808 ≤ dr) (he1 : dr ≤ 9223372036854775807) :
    Calls Tryz.prog 26 #[refV sh c r ac ar, .int .i64 dc, .int .i64 dr] w (Q (.tuple #[shiftV sh c r ac ar dc dr, .bool (shiftF sh c r ac ar dc dr)]) w) := by
  have c1 := refRight_any sh c r ac ar
  unfold shiftV shiftF
  cases hR : Pl.right sh.data.toList c r with
  | false =>
    rw [hR] at c1
    rw [Bool.and_false]
    exact refShift_none sh c r ac ar dc dr w (Lib.hid c1)
  | true =>
    rw [hR] at c1
    have hcr := Pl.right_col hR
    obtain ⟨x1, m1, k1⟩ := refMoved_any c dc 64 (by omega) (by omega) hd0 hd1 (by omega) (by omega)
    obtain ⟨x2, m2, k2⟩ := refMoved_any r dr 512 (by omega) (by omega) he0 he1 (by omega) (by omega)
    have f1 : movedF c dc 64 true = (c, true) := rfl
    have f2 : movedF r dr 512 true = (r, true) := rfl
    rw [Bool.and_true]
    cases ac <;> cases ar
    · have h := refShift_ff sh c r dc dr x1 _ x2 _ w (Lib.hid c1) (Lib.hid m1) (Lib.hid m2)
      cases h1 : (movedF c dc 64 false).2 with
      | false => rw [h1] at h; exact h
      | true =>
        cases h2 : (movedF r dr 512 false).2 with
        | false => rw [h1, h2] at h; exact h
        | true => rw [h1, h2, k1 h1, k2 h2] at h; exact h
    · have h := refShift_ft sh c r dc dr x1 _ w (Lib.hid c1) (Lib.hid m1)
      rw [f2]
      cases h1 : (movedF c dc 64 false).2 with
      | false => rw [h1] at h; exact h
      | true => rw [h1, k1 h1] at h; exact h
    · have h := refShift_tf sh c r dc dr x2 _ w (Lib.hid c1) (Lib.hid m2)
      rw [f1]
      cases h2 : (movedF r dr 512 false).2 with
      | false => rw [h2] at h; exact h
      | true => rw [h2, k2 h2] at h; exact h
    · rw [f1, f2]
      exact refShift_tt sh c r dc dr w (Lib.hid c1)
end Go.Proofs.YtmicenegjfnbmaaGreatDoor
