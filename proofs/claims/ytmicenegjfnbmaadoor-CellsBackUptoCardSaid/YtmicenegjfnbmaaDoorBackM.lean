/- CellsBack's walk, where the second reference is none. -/
import Derived.Test.YtmicenegjfnbmaaDoorCn
import Derived.Test.YtmicenegjfnbmaaDoorCp
namespace Go.Proofs.YtmicenegjfnbmaaDoor
open Go.RowKit Go.Lib

set_option maxHeartbeats 8000000 in
theorem back_mid (sa : ByteArray) (ca ra : Int) (aca ara : Bool) (sb : ByteArray) (cb rb : Int) (acb arb : Bool) (s : ByteArray) (ex : Int) (sx : ByteArray) (cx rx : Int) (acx arx : Bool) (w : World)
    (C1 : Hid (∀ w, Calls Tryd.prog 7 #[refV sa ca ra aca ara] w (Q (.bool true) w)))
    (p : ByteArray) (C2 : Hid (∀ w, Glob w → Calls Tryd.prog 9 #[refV sa ca ra aca ara] w (Q (.string p) w)))
    (C3 : Hid (∀ w, Glob w → Calls Tryd.prog 8 #[.string p] w (Q (.tuple #[refV sa ca ra aca ara, .int .i64 0]) w)))
    (C4 : Hid (∀ w, Calls Tryd.prog 7 #[refV sa cb rb acb arb] w (Q (.bool false) w)))
    (D1 : Hid (∀ w, Glob w → Calls Tryd.prog 8 #[.string s] w (Q (.tuple #[refV sx cx rx acx arx, .int .i64 ex]) w)))
    (D2 : ex = 0 → (∀ w, Glob w → Calls Tryd.prog 9 #[refV sx cx rx acx arx] w (Q (.string s) w)) ∧ (∀ w, Calls Tryd.prog 7 #[refV sx cx rx acx arx] w (Q (.bool true) w)))
    (hg : Glob w) :
    Calls Tryd.prog 4 #[refV sa ca ra aca ara, refV sb cb rb acb arb, .string s] w (Q (.bool true) w) := by
  have HB := Lib.hid (W2_below sa ca ra aca ara sb cb rb acb arb w)
  have RA := Lib.hid (W2_a sa ca ra aca ara sb cb rb acb arb w)
  have RB := Lib.hid (W2_b sa ca ra aca ara sb cb rb acb arb w)
  have HG := Lib.hid (hg.below HB.out)
  have HG0 := Lib.hid hg
  unfold W2 at HB RA RB HG
  clear hg
  go_enter Tryd.func4, Tryd.ntmps4
  go_wp2_with fail
  refine (C1.out _).mono ?_
  rintro e w1 ⟨rfl, hb⟩
  replace RA := Lib.hid (RA.out.below hb)
  replace RB := Lib.hid (RB.out.below hb)
  replace HG := Lib.hid (HG.out.below hb)
  replace HB := Lib.hid (bt HB.out hb)
  clear hb
  obtain ⟨p0, p1, p2, p3, p4, pf, pl⟩ := RA.out
  go_wp2_with fail
  clear p0 p1 p2 p3 p4 pf pl
  refine (C2.out _ HG.out).mono ?_
  rintro e w2 ⟨rfl, hb⟩
  replace RA := Lib.hid (RA.out.below hb)
  replace RB := Lib.hid (RB.out.below hb)
  replace HG := Lib.hid (HG.out.below hb)
  replace HB := Lib.hid (bt HB.out hb)
  clear hb
  go_wp2_with fail
  refine (C3.out _ HG.out).mono ?_
  rintro e w3 ⟨rfl, hb⟩
  replace RA := Lib.hid (RA.out.below hb)
  replace RB := Lib.hid (RB.out.below hb)
  replace HG := Lib.hid (HG.out.below hb)
  replace HB := Lib.hid (bt HB.out hb)
  clear hb
  obtain ⟨p0, p1, p2, p3, p4, pf, pl⟩ := RA.out
  obtain ⟨t0, t1, t2, t3, t4, tf, tl⟩ := RB.out
  go_wp2_with fail
  clear p0 p1 p2 p3 p4 pf pl
  clear t0 t1 t2 t3 t4 tf tl
  have hne : w.heap.size ≠ (⟨w.heap.size + 1, 0, none⟩ : Addr).block := by show w.heap.size ≠ w.heap.size + 1; omega
  have hsl : (w3.setCell ⟨w.heap.size + 1, 0, none⟩ (.string sa)).heap.size = w3.heap.size := setCell_size _ _ _
  have hB3 := ((Below.refl w.heap.size w3).setCell (p := ⟨w.heap.size + 1, 0, none⟩) (by show w.heap.size ≤ w.heap.size + 1; omega) (.string sa)).alloc (by rw [setCell_size]; exact HB.out.size) (.cells #[.string sa, .int .i64 ca, .int .i64 ra, .bool aca, .bool ara] 23)
  replace RA := Lib.hid ((RA.out.other ⟨w.heap.size + 1, 0, none⟩ (.string sa) hne).alloc (.cells #[.string sa, .int .i64 ca, .int .i64 ra, .bool aca, .bool ara] 23))
  replace RB := Lib.hid ((RB.out.set0 sa).alloc (.cells #[.string sa, .int .i64 ca, .int .i64 ra, .bool aca, .bool ara] 23))
  replace HB := Lib.hid (HB.out.trans hB3)
  replace HG := Lib.hid (HG0.out.below HB.out)
  clear hne hsl hB3
  refine (C4.out _).mono ?_
  rintro e w4 ⟨rfl, hb⟩
  replace RA := Lib.hid (RA.out.below hb)
  replace RB := Lib.hid (RB.out.below hb)
  replace HG := Lib.hid (HG.out.below hb)
  replace HB := Lib.hid (bt HB.out hb)
  clear hb
  go_wp2_with fail
  refine (D1.out _ HG.out).mono ?_
  rintro e wt ⟨rfl, hb⟩
  replace HB := Lib.hid (bt HB.out hb)
  replace HG := Lib.hid (HG.out.below hb)
  clear hb RA RB D1
  have hA := (Below.refl wt.heap.size wt).alloc (Nat.le_refl _) (.cells #[.string sx, .int .i64 cx, .int .i64 rx, .bool acx, .bool arx] 23)
  replace HB := Lib.hid (bt HB.out hA)
  replace HG := Lib.hid (HG.out.below hA)
  clear hA
  by_cases he : ex = 0
  · obtain ⟨d2, d3⟩ := D2 he
    have E2 := Lib.hid d2
    have E3 := Lib.hid d3
    subst he
    clear d2 d3 D2
    have RX := Lib.hid (RefAt.new wt sx cx rx acx arx)
    go_wp2_with fail
    refine (E2.out _ HG.out).mono ?_
    rintro e w7 ⟨rfl, hb⟩
    replace HB := Lib.hid (bt HB.out hb)
    replace HG := Lib.hid (HG.out.below hb)
    replace RX := Lib.hid (RX.out.below hb)
    clear hb E2
    obtain ⟨q0, q1, q2, q3, q4, qf, ql⟩ := RX.out
    go_wp2_with fail
    refine (E3.out _).mono ?_
    rintro e w8 ⟨rfl, hb⟩
    replace HB := Lib.hid (bt HB.out hb)
    replace HG := Lib.hid (HG.out.below hb)
    clear hb E3 q0 q1 q2 q3 q4 qf ql
    go_wp2_with fail
    refine (alive_any _ HG.out).mono ?_
    rintro e w9 ⟨rfl, hb⟩
    replace HB := Lib.hid (bt HB.out hb)
    clear hb
    go_wp2_with fail
    go_ret
    exact ⟨rfl, HB.out⟩
  · have he' : (ex != 0) = true := by simpa using he
    clear D2
    go_wp2_with fail
    refine (alive_any _ HG.out).mono ?_
    rintro e w9 ⟨rfl, hb⟩
    replace HB := Lib.hid (bt HB.out hb)
    clear hb
    go_wp2_with fail
    go_ret
    exact ⟨rfl, HB.out⟩
end Go.Proofs.YtmicenegjfnbmaaDoor
