/- CellsPrint's walk. -/
import Derived.Test.YtmicenegjfnbmaaGreatDoorRr
import Derived.Test.YtmicenegjfnbmaaGreatDoorCn
import Derived.Deep.RegionHeld3
namespace Go.Proofs.YtmicenegjfnbmaaGreatDoor
open Go.RowKit Go.Lib

set_option maxRecDepth 100000 in
set_option maxHeartbeats 40000000 in
theorem print_walk (sa : ByteArray) (ca ra : Int) (aca ara : Bool) (sb : ByteArray) (cb rb : Int) (acb arb : Bool) (n : Int) (s : ByteArray) (cn : Int) (is : Bool) (p q l t : ByteArray) (sn rt : Bool) (w : World)
    (C1 : Hid (∀ w, Calls Tryz.prog 6 #[.string s] w (Q (.tuple #[.int .i64 cn, .bool is]) w)))
    (C2 : Hid (∀ w, Calls Tryz.prog 7 #[.string s] w (Q (.tuple #[.int .i64 cn, .bool is]) w)))
    (E0 : Hid (∀ w, Glob w → Calls Tryz.prog 8 #[refV sa ca ra aca ara] w (Q (.string p) w)))
    (E1 : Hid (∀ w, Glob w → Calls Tryz.prog 9 #[refV sa ca ra aca ara] w (Q (.string p) w)))
    (E2 : Hid (∀ w, Glob w → Calls Tryz.prog 10 #[refV sa ca ra aca ara, refV sb cb rb acb arb] w (Q (.string q) w)))
    (E3 : Hid (∀ w, Glob w → Calls Tryz.prog 11 #[refV sa ca ra aca ara, refV sb cb rb acb arb] w (Q (.string q) w)))
    (E4 : Hid (∀ w, Glob w → Calls Tryz.prog 12 #[.int .i64 n] w (Q (.string l) w)))
    (E5 : Hid (∀ w, Glob w → Calls Tryz.prog 13 #[.int .i64 n] w (Q (.string l) w)))
    (E6 : Hid (∀ w, Glob w → Calls Tryz.prog 14 #[.string s] w (Q (.string t) w)))
    (E7 : Hid (∀ w, Glob w → Calls Tryz.prog 15 #[.string s] w (Q (.string t) w)))
    (E8 : Hid (∀ w, Glob w → Calls Tryz.prog 16 #[.string s] w (Q (.bool sn) w)))
    (E9 : Hid (∀ w, Glob w → Calls Tryz.prog 17 #[.string s] w (Q (.bool sn) w)))
    (E10 : Hid (∀ w, Glob w → Calls Tryz.prog 18 #[refV sa ca ra aca ara] w (Q (.bool rt) w)))
    (E11 : Hid (∀ w, Glob w → Calls Tryz.prog 19 #[refV sa ca ra aca ara] w (Q (.bool rt) w)))
    (hg : Glob w) :
    Calls Tryz.prog 3 #[refV sa ca ra aca ara, refV sb cb rb acb arb, .int .i64 n, .string s] w (Q (.bool true) w) := by
  have HB := Lib.hid (W2_below sa ca ra aca ara sb cb rb acb arb w)
  have RA := Lib.hid (W2_a sa ca ra aca ara sb cb rb acb arb w)
  have RB := Lib.hid (W2_b sa ca ra aca ara sb cb rb acb arb w)
  unfold W2 at HB RA RB
  have HG := Lib.hid hg
  clear hg
  go_enter Tryz.func3, Tryz.ntmps3
  go_wp2_with fail
  refine (C1.out _).mono ?_
  rintro e w1 ⟨rfl, hb⟩
  replace RA := Lib.hid (RA.out.below hb)
  replace RB := Lib.hid (RB.out.below hb)
  replace HB := Lib.hid (bt HB.out hb)
  clear hb C1
  go_wp2_with fail
  refine (C2.out _).mono ?_
  rintro e W ⟨rfl, hb⟩
  replace RA := Lib.hid (RA.out.below hb)
  replace RB := Lib.hid (RB.out.below hb)
  replace HB := Lib.hid (bt HB.out hb)
  clear hb C2
  go_wp2_with fail
  have ra' := RA.out.drew
  have rb' := RB.out.drew
  have hBd := HB.out.drew
  have hGd := HG.out.below hBd
  clear RA RB HB
  go_region_held3 (fun w' => w'.cell? ⟨w.heap.size, 0, none⟩ = some (.string sa) ∧ w'.cell? ⟨w.heap.size, 1, none⟩ = some (.int .i64 ca) ∧ w'.cell? ⟨w.heap.size, 2, none⟩ = some (.int .i64 ra) ∧ w'.cell? ⟨w.heap.size, 3, none⟩ = some (.bool aca) ∧ w'.cell? ⟨w.heap.size, 4, none⟩ = some (.bool ara) ∧ w'.cell? ⟨w.heap.size + 1, 0, none⟩ = some (.string sb) ∧ w'.cell? ⟨w.heap.size + 1, 1, none⟩ = some (.int .i64 cb) ∧ w'.cell? ⟨w.heap.size + 1, 2, none⟩ = some (.int .i64 rb) ∧ w'.cell? ⟨w.heap.size + 1, 3, none⟩ = some (.bool acb) ∧ w'.cell? ⟨w.heap.size + 1, 4, none⟩ = some (.bool arb)
      ∧ RefAt w' w.heap.size sa ca ra aca ara ∧ RefAt w' (w.heap.size + 1) sb cb rb acb arb ∧ Glob w' ∧ Below w.heap.size w w')
    (first
      | exact ⟨hra.c0, hra.c1, hra.c2, hra.c3, hra.c4, hrb.c0, hrb.c1, hrb.c2, hrb.c3, hrb.c4, hra, hrb, hgl, hbl⟩
      | exact ⟨ra'.c0, ra'.c1, ra'.c2, ra'.c3, ra'.c4, rb'.c0, rb'.c1, rb'.c2, rb'.c3, rb'.c4, ra', rb', hGd, hBd⟩)
    (first
      | (go_at_call 8; refine (E0.out _ (by assumption)).mono ?_; rintro e w' ⟨rfl, hb⟩; have hra := RefAt.below (B := w.heap.size) (by assumption) hb; have hrb := RefAt.below (B := w.heap.size + 1) (by assumption) hb; have hgl := Glob.below (by assumption) hb; have hbl := bt (w := w) (by assumption) hb)
      | (go_at_call 9; refine (E1.out _ (by assumption)).mono ?_; rintro e w' ⟨rfl, hb⟩; have hra := RefAt.below (B := w.heap.size) (by assumption) hb; have hrb := RefAt.below (B := w.heap.size + 1) (by assumption) hb; have hgl := Glob.below (by assumption) hb; have hbl := bt (w := w) (by assumption) hb)
      | (go_at_call 10; refine (E2.out _ (by assumption)).mono ?_; rintro e w' ⟨rfl, hb⟩; have hra := RefAt.below (B := w.heap.size) (by assumption) hb; have hrb := RefAt.below (B := w.heap.size + 1) (by assumption) hb; have hgl := Glob.below (by assumption) hb; have hbl := bt (w := w) (by assumption) hb)
      | (go_at_call 11; refine (E3.out _ (by assumption)).mono ?_; rintro e w' ⟨rfl, hb⟩; have hra := RefAt.below (B := w.heap.size) (by assumption) hb; have hrb := RefAt.below (B := w.heap.size + 1) (by assumption) hb; have hgl := Glob.below (by assumption) hb; have hbl := bt (w := w) (by assumption) hb)
      | (go_at_call 12; refine (E4.out _ (by assumption)).mono ?_; rintro e w' ⟨rfl, hb⟩; have hra := RefAt.below (B := w.heap.size) (by assumption) hb; have hrb := RefAt.below (B := w.heap.size + 1) (by assumption) hb; have hgl := Glob.below (by assumption) hb; have hbl := bt (w := w) (by assumption) hb)
      | (go_at_call 13; refine (E5.out _ (by assumption)).mono ?_; rintro e w' ⟨rfl, hb⟩; have hra := RefAt.below (B := w.heap.size) (by assumption) hb; have hrb := RefAt.below (B := w.heap.size + 1) (by assumption) hb; have hgl := Glob.below (by assumption) hb; have hbl := bt (w := w) (by assumption) hb)
      | (go_at_call 14; refine (E6.out _ (by assumption)).mono ?_; rintro e w' ⟨rfl, hb⟩; have hra := RefAt.below (B := w.heap.size) (by assumption) hb; have hrb := RefAt.below (B := w.heap.size + 1) (by assumption) hb; have hgl := Glob.below (by assumption) hb; have hbl := bt (w := w) (by assumption) hb)
      | (go_at_call 15; refine (E7.out _ (by assumption)).mono ?_; rintro e w' ⟨rfl, hb⟩; have hra := RefAt.below (B := w.heap.size) (by assumption) hb; have hrb := RefAt.below (B := w.heap.size + 1) (by assumption) hb; have hgl := Glob.below (by assumption) hb; have hbl := bt (w := w) (by assumption) hb)
      | (go_at_call 16; refine (E8.out _ (by assumption)).mono ?_; rintro e w' ⟨rfl, hb⟩; have hra := RefAt.below (B := w.heap.size) (by assumption) hb; have hrb := RefAt.below (B := w.heap.size + 1) (by assumption) hb; have hgl := Glob.below (by assumption) hb; have hbl := bt (w := w) (by assumption) hb)
      | (go_at_call 17; refine (E9.out _ (by assumption)).mono ?_; rintro e w' ⟨rfl, hb⟩; have hra := RefAt.below (B := w.heap.size) (by assumption) hb; have hrb := RefAt.below (B := w.heap.size + 1) (by assumption) hb; have hgl := Glob.below (by assumption) hb; have hbl := bt (w := w) (by assumption) hb)
      | (go_at_call 18; refine (E10.out _ (by assumption)).mono ?_; rintro e w' ⟨rfl, hb⟩; have hra := RefAt.below (B := w.heap.size) (by assumption) hb; have hrb := RefAt.below (B := w.heap.size + 1) (by assumption) hb; have hgl := Glob.below (by assumption) hb; have hbl := bt (w := w) (by assumption) hb)
      | (go_at_call 19; refine (E11.out _ (by assumption)).mono ?_; rintro e w' ⟨rfl, hb⟩; have hra := RefAt.below (B := w.heap.size) (by assumption) hb; have hrb := RefAt.below (B := w.heap.size + 1) (by assumption) hb; have hgl := Glob.below (by assumption) hb; have hbl := bt (w := w) (by assumption) hb)
      | (go_at_call 20; refine (alive_any _ (by assumption)).mono ?_; rintro e w' ⟨rfl, hb⟩; have hra := RefAt.below (B := w.heap.size) (by assumption) hb; have hrb := RefAt.below (B := w.heap.size + 1) (by assumption) hb; have hgl := Glob.below (by assumption) hb; have hbl := bt (w := w) (by assumption) hb))
  go_wp2
  go_ret
  exact ⟨rfl, hbl⟩
end Go.Proofs.YtmicenegjfnbmaaGreatDoor
