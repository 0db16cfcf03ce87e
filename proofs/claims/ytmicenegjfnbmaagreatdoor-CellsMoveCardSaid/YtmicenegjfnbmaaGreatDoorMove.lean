/- CellsMove's walk. -/
import Derived.Test.YtmicenegjfnbmaaGreatDoorRv
import Derived.Test.YtmicenegjfnbmaaGreatDoorCn
import Derived.Deep.RegionHeld3
namespace Go.Proofs.YtmicenegjfnbmaaGreatDoor
open Go.RowKit Go.Lib

set_option maxRecDepth 100000 in
set_option maxHeartbeats 16000000 in
theorem move_walk (sa : ByteArray) (ca ra : Int) (aca ara : Bool) (sb : ByteArray) (cb rb : Int) (acb arb : Bool) (dc dr : Int) (sx : ByteArray) (cx rx : Int) (acx arx is : Bool) (m1 m2 m3 m4 : Int) (ls : Bool) (w : World)
    (C1 : Hid (∀ w, Calls Tryz.prog 25 #[refV sa ca ra aca ara, .int .i64 dc, .int .i64 dr] w (Q (.tuple #[refV sx cx rx acx arx, .bool is]) w)))
    (C2 : Hid (∀ w, Calls Tryz.prog 26 #[refV sa ca ra aca ara, .int .i64 dc, .int .i64 dr] w (Q (.tuple #[refV sx cx rx acx arx, .bool is]) w)))
    (C3 : Hid (∀ w, Calls Tryz.prog 27 #[refV sa ca ra aca ara, refV sb cb rb acb arb] w (Q (.tuple #[.int .i64 m1, .int .i64 m2, .int .i64 m3, .int .i64 m4]) w)))
    (C4 : Hid (∀ w, Calls Tryz.prog 28 #[refV sa ca ra aca ara, refV sb cb rb acb arb] w (Q (.tuple #[.int .i64 m1, .int .i64 m2, .int .i64 m3, .int .i64 m4]) w)))
    (C5 : Hid (∀ w, Calls Tryz.prog 29 #[refV sa ca ra aca ara, refV sb cb rb acb arb] w (Q (.bool ls) w)))
    (C6 : Hid (∀ w, Calls Tryz.prog 30 #[refV sa ca ra aca ara, refV sb cb rb acb arb] w (Q (.bool ls) w)))
    (hg : Glob w) :
    Calls Tryz.prog 5 #[refV sa ca ra aca ara, refV sb cb rb acb arb, .int .i64 dc, .int .i64 dr] w (Q (.bool true) w) := by
  have HB := Lib.hid (W2_below sa ca ra aca ara sb cb rb acb arb w)
  have RA := Lib.hid (W2_a sa ca ra aca ara sb cb rb acb arb w)
  have RB := Lib.hid (W2_b sa ca ra aca ara sb cb rb acb arb w)
  unfold W2 at HB RA RB
  have HG := Lib.hid hg
  clear hg
  go_enter Tryz.func5, Tryz.ntmps5
  go_wp2_with fail
  refine (C1.out _).mono ?_
  rintro e w1 ⟨rfl, hb⟩
  replace RA := Lib.hid (RA.out.below hb)
  replace RB := Lib.hid (RB.out.below hb)
  replace HB := Lib.hid (bt HB.out hb)
  clear hb C1
  obtain ⟨p0, p1, p2, p3, p4, pf, pl⟩ := RA.out
  go_wp2_with fail
  clear p0 p1 p2 p3 p4 pf pl
  refine (C2.out _).mono ?_
  rintro e w2 ⟨rfl, hb⟩
  have hA := (Below.refl w1.heap.size w1).alloc (Nat.le_refl _) (.cells #[.string sx, .int .i64 cx, .int .i64 rx, .bool acx, .bool arx] 23)
  have RX := Lib.hid ((RefAt.new w1 sx cx rx acx arx).below hb)
  replace RA := Lib.hid ((RA.out.below hA).below hb)
  replace RB := Lib.hid ((RB.out.below hA).below hb)
  replace HB := Lib.hid (bt (bt HB.out hA) hb)
  clear hb C2 hA
  obtain ⟨p0, p1, p2, p3, p4, pf, pl⟩ := RA.out
  obtain ⟨t0, t1, t2, t3, t4, tf, tl⟩ := RB.out
  go_wp2_with fail
  clear p0 p1 p2 p3 p4 pf pl t0 t1 t2 t3 t4 tf tl
  refine (C3.out _).mono ?_
  rintro e w3 ⟨rfl, hb⟩
  have hA := (Below.refl w2.heap.size w2).alloc (Nat.le_refl _) (.cells #[.string sx, .int .i64 cx, .int .i64 rx, .bool acx, .bool arx] 23)
  have RY := Lib.hid ((RefAt.new w2 sx cx rx acx arx).below hb)
  replace RX := Lib.hid ((RX.out.below hA).below hb)
  replace RA := Lib.hid ((RA.out.below hA).below hb)
  replace RB := Lib.hid ((RB.out.below hA).below hb)
  replace HB := Lib.hid (bt (bt HB.out hA) hb)
  clear hb C3 hA
  obtain ⟨p0, p1, p2, p3, p4, pf, pl⟩ := RA.out
  obtain ⟨t0, t1, t2, t3, t4, tf, tl⟩ := RB.out
  go_wp2_with fail
  clear p0 p1 p2 p3 p4 pf pl t0 t1 t2 t3 t4 tf tl
  refine (C4.out _).mono ?_
  rintro e W ⟨rfl, hb⟩
  replace RY := Lib.hid (RY.out.below hb)
  replace RX := Lib.hid (RX.out.below hb)
  replace RA := Lib.hid (RA.out.below hb)
  replace RB := Lib.hid (RB.out.below hb)
  replace HB := Lib.hid (bt HB.out hb)
  clear hb C4
  go_wp2_with fail
  have ra' := RA.out.drew
  have rb' := RB.out.drew
  have rx' := RX.out.drew
  have ry' := RY.out.drew
  have hBd := HB.out.drew
  have hGd := HG.out.below hBd
  clear RA RB RX RY HB
  have hne : w1.heap.size ≤ w1.heap.size := Nat.le_refl _
  generalize w1.heap.size = bx at *
  generalize w2.heap.size = bY at *
  clear hne
  go_region_held3 (fun w' => w'.cell? ⟨w.heap.size, 0, none⟩ = some (.string sa) ∧ w'.cell? ⟨w.heap.size, 1, none⟩ = some (.int .i64 ca) ∧ w'.cell? ⟨w.heap.size, 2, none⟩ = some (.int .i64 ra) ∧ w'.cell? ⟨w.heap.size, 3, none⟩ = some (.bool aca) ∧ w'.cell? ⟨w.heap.size, 4, none⟩ = some (.bool ara) ∧ w'.cell? ⟨w.heap.size + 1, 0, none⟩ = some (.string sb) ∧ w'.cell? ⟨w.heap.size + 1, 1, none⟩ = some (.int .i64 cb) ∧ w'.cell? ⟨w.heap.size + 1, 2, none⟩ = some (.int .i64 rb) ∧ w'.cell? ⟨w.heap.size + 1, 3, none⟩ = some (.bool acb) ∧ w'.cell? ⟨w.heap.size + 1, 4, none⟩ = some (.bool arb)
      ∧ w'.cell? ⟨bx, 0, none⟩ = some (.string sx) ∧ w'.cell? ⟨bx, 1, none⟩ = some (.int .i64 cx) ∧ w'.cell? ⟨bx, 2, none⟩ = some (.int .i64 rx) ∧ w'.cell? ⟨bx, 3, none⟩ = some (.bool acx) ∧ w'.cell? ⟨bx, 4, none⟩ = some (.bool arx)
      ∧ w'.cell? ⟨bY, 0, none⟩ = some (.string sx) ∧ w'.cell? ⟨bY, 1, none⟩ = some (.int .i64 cx) ∧ w'.cell? ⟨bY, 2, none⟩ = some (.int .i64 rx) ∧ w'.cell? ⟨bY, 3, none⟩ = some (.bool acx) ∧ w'.cell? ⟨bY, 4, none⟩ = some (.bool arx)
      ∧ RefAt w' w.heap.size sa ca ra aca ara ∧ RefAt w' (w.heap.size + 1) sb cb rb acb arb ∧ RefAt w' bx sx cx rx acx arx ∧ RefAt w' bY sx cx rx acx arx ∧ Glob w' ∧ Below w.heap.size w w')
    (first
      | exact ⟨hra.c0, hra.c1, hra.c2, hra.c3, hra.c4, hrb.c0, hrb.c1, hrb.c2, hrb.c3, hrb.c4, hrx.c0, hrx.c1, hrx.c2, hrx.c3, hrx.c4, hry.c0, hry.c1, hry.c2, hry.c3, hry.c4, hra, hrb, hrx, hry, hgl, hbl⟩
      | exact ⟨ra'.c0, ra'.c1, ra'.c2, ra'.c3, ra'.c4, rb'.c0, rb'.c1, rb'.c2, rb'.c3, rb'.c4, rx'.c0, rx'.c1, rx'.c2, rx'.c3, rx'.c4, ry'.c0, ry'.c1, ry'.c2, ry'.c3, ry'.c4, ra', rb', rx', ry', hGd, hBd⟩)
    (first
      | (go_at_call 29; refine (C5.out _).mono ?_; rintro e w' ⟨rfl, hb⟩; have hra := RefAt.below (B := w.heap.size) (by assumption) hb; have hrb := RefAt.below (B := w.heap.size + 1) (by assumption) hb; have hrx := RefAt.below (B := bx) (by assumption) hb; have hry := RefAt.below (B := bY) (by assumption) hb; have hgl := Glob.below (by assumption) hb; have hbl := bt (w := w) (by assumption) hb)
      | (go_at_call 30; refine (C6.out _).mono ?_; rintro e w' ⟨rfl, hb⟩; have hra := RefAt.below (B := w.heap.size) (by assumption) hb; have hrb := RefAt.below (B := w.heap.size + 1) (by assumption) hb; have hrx := RefAt.below (B := bx) (by assumption) hb; have hry := RefAt.below (B := bY) (by assumption) hb; have hgl := Glob.below (by assumption) hb; have hbl := bt (w := w) (by assumption) hb)
      | (go_at_call 20; refine (alive_any _ (by assumption)).mono ?_; rintro e w' ⟨rfl, hb⟩; have hra := RefAt.below (B := w.heap.size) (by assumption) hb; have hrb := RefAt.below (B := w.heap.size + 1) (by assumption) hb; have hrx := RefAt.below (B := bx) (by assumption) hb; have hry := RefAt.below (B := bY) (by assumption) hb; have hgl := Glob.below (by assumption) hb; have hbl := bt (w := w) (by assumption) hb))
  go_wp2
  go_ret
  exact ⟨rfl, hbl⟩
end Go.Proofs.YtmicenegjfnbmaaGreatDoor
