/- The law CellsThere: the walk where the column is fixed and the row is free. -/
import Derived.Test.YtmicenegjfnbmaaDoorThereP
namespace Go.Proofs.YtmicenegjfnbmaaDoor
open Go.RowKit Go.Lib

set_option maxHeartbeats 4000000 in
theorem there_tf (sh : ByteArray) (c r r' : Int) (dc dr : Int) (w : World)
    (C1 : Hid (∀ w, Calls Tryd.prog 5 #[refV sh c r true false, .int .i64 dc, .int .i64 dr] w (Q (.tuple #[refV sh c r' true false, .bool true]) w)))
    (C2 : Hid (∀ w, Calls Tryd.prog 5 #[refV sh c r' true false, .int .i64 (wrap64 (-dc)), .int .i64 (wrap64 (-dr))] w (Q (.tuple #[refV sh c r true false, .bool true]) w)))
    (C3 : Hid (∀ w, Calls Tryd.prog 7 #[refV sh c r' true false] w (Q (.bool true) w)))
    (hg : Glob w) :
    Calls Tryd.prog 3 #[refV sh c r true false, .int .i64 dc, .int .i64 dr] w (Q (.bool true) w) := by
  have R1 := Lib.hid (RefAt.new w sh c r true false)
  have hB : Below w.heap.size w (w.alloc (.cells #[.string sh, .int .i64 c, .int .i64 r, .bool true, .bool false] 23)) := (Below.refl _ _).alloc (Nat.le_refl _) _
  have hg1 := hg.below hB
  go_enter Tryd.func3, Tryd.ntmps3
  go_wp2_with fail
  refine (C1.out _).mono ?_
  rintro e w1 ⟨rfl, hb⟩
  replace R1 := Lib.hid (R1.out.below hb)
  replace hB := bt hB hb
  replace hg1 := hg1.below hb
  clear hb
  go_wp2_with fail
  replace R1 := Lib.hid (R1.out.alloc (.cells #[.string sh, .int .i64 c, .int .i64 r', .bool true, .bool false] 23))
  have R2 := Lib.hid (RefAt.new w1 sh c r' true false)
  have hA := (Below.refl w1.heap.size w1).alloc (Nat.le_refl _) (.cells #[.string sh, .int .i64 c, .int .i64 r', .bool true, .bool false] 23)
  replace hB := bt hB hA
  replace hg1 := hg1.below hA
  clear hA
  refine (C2.out _).mono ?_
  rintro e w2 ⟨rfl, hb⟩
  replace R1 := Lib.hid (R1.out.below hb)
  replace R2 := Lib.hid (R2.out.below hb)
  replace hB := bt hB hb
  replace hg1 := hg1.below hb
  clear hb
  obtain ⟨q0, q1, q2, q3, q4, qf, ql⟩ := R2.out
  go_wp2_with fail
  replace R1 := Lib.hid (R1.out.alloc (.cells #[.string sh, .int .i64 c, .int .i64 r, .bool true, .bool false] 23))
  have R3 := Lib.hid (RefAt.new w2 sh c r true false)
  have hA := (Below.refl w2.heap.size w2).alloc (Nat.le_refl _) (.cells #[.string sh, .int .i64 c, .int .i64 r, .bool true, .bool false] 23)
  replace R2 := Lib.hid (R2.out.alloc (.cells #[.string sh, .int .i64 c, .int .i64 r, .bool true, .bool false] 23))
  replace hB := bt hB hA
  replace hg1 := hg1.below hA
  clear hA q0 q1 q2 q3 q4 qf ql
  refine (C3.out _).mono ?_
  rintro e w3 ⟨rfl, hb⟩
  replace R1 := Lib.hid (R1.out.below hb)
  replace R2 := Lib.hid (R2.out.below hb)
  replace R3 := Lib.hid (R3.out.below hb)
  replace hB := bt hB hb
  replace hg1 := hg1.below hb
  clear hb
  obtain ⟨p0, p1, p2, p3, p4, pf, pl⟩ := R1.out
  obtain ⟨q0, q1, q2, q3, q4, qf, ql⟩ := R2.out
  obtain ⟨t0, t1, t2, t3, t4, tf, tl⟩ := R3.out
  have hun : ∀ b : Bool, undef ≠ Value.bool b := fun b e => by cases e
  clear R1 R2 R3 C1 C2 C3 hg pf qf tf
  go_wp2_with fail
  refine (alive_any _ hg1).mono ?_
  rintro e w4 ⟨rfl, hb⟩
  replace hB := bt hB hb
  clear hb p0 p1 p2 p3 p4 q0 q1 q2 q3 q4 t0 t1 t2 t3 t4
  go_wp2_with fail
  go_ret
  exact ⟨rfl, hB⟩
end Go.Proofs.YtmicenegjfnbmaaDoor
