/- Contracts of package cells, fifteenth part: ParseRange. -/
import Derived.Test.YtmicenegjfnbmaaGreatDoorCo
namespace Go.Proofs.YtmicenegjfnbmaaGreatDoor
open Go.RowKit Go.Lib

/-- What ParseRange tells of a text: the error, the sheet, the two cells. -/
def rangeG (nm : List UInt8) (is two : Bool) (x y : Int × Int × Int × Bool × Bool) : Int × List UInt8 × (Int × Int × Bool × Bool) × (Int × Int × Bool × Bool) :=
  if !is || !two || x.1 == 40 || y.1 == 40 then (40, [], (0, 0, false, false), (0, 0, false, false))
  else if x.1 != 0 || y.1 != 0 then (41, [], (0, 0, false, false), (0, 0, false, false)) else (0, nm, x.2, y.2)
def parseRF (l : List UInt8) : Int × List UInt8 × (Int × Int × Bool × Bool) × (Int × Int × Bool × Bool) :=
  rangeG (sheetF l).1 (sheetF l).2.2 (Pl.cut1 58 (sheetF l).2.1).2.2 (cellF (Pl.cut1 58 (sheetF l).2.1).1) (cellF (Pl.cut1 58 (sheetF l).2.1).2.1)
def parseRV (x : Int × List UInt8 × (Int × Int × Bool × Bool) × (Int × Int × Bool × Bool)) : Value :=
  .tuple #[refV ⟨x.2.1.toArray⟩ x.2.2.1.1 x.2.2.1.2.1 x.2.2.1.2.2.1 x.2.2.1.2.2.2, refV ⟨x.2.1.toArray⟩ x.2.2.2.1 x.2.2.2.2.1 x.2.2.2.2.2.1 x.2.2.2.2.2.2, .int .i64 x.1]
def zeroV (e : Int) : Value := .tuple #[refV ⟨#[]⟩ 0 0 false false, refV ⟨#[]⟩ 0 0 false false, .int .i64 e]

/-- Five stores into another block. -/
theorem RefAt.other5 {w : World} {B D : Nat} {sh : ByteArray} {c r : Int} {ac ar : Bool} (h : RefAt w B sh c r ac ar) (hne : B ≠ D) (v0 v1 v2 v3 v4 : Value) :
    RefAt (((((w.setCell ⟨D, 0, none⟩ v0).setCell ⟨D, 1, none⟩ v1).setCell ⟨D, 2, none⟩ v2).setCell ⟨D, 3, none⟩ v3).setCell ⟨D, 4, none⟩ v4) B sh c r ac ar :=
  ((((h.other ⟨D, 0, none⟩ v0 hne).other ⟨D, 1, none⟩ v1 hne).other ⟨D, 2, none⟩ v2 hne).other ⟨D, 3, none⟩ v3 hne).other ⟨D, 4, none⟩ v4 hne
theorem RefAt.drew {w : World} {B : Nat} {sh : ByteArray} {c r : Int} {ac ar : Bool} (h : RefAt w B sh c r ac ar) : RefAt w.drew B sh c r ac ar := h.below (below_drewN (Below.refl _ _) 1)

def zero10 (w : World) (B : Nat) : World :=
  (((((((((w.setCell ⟨B, 0, none⟩ (.string ⟨#[]⟩)).setCell ⟨B, 1, none⟩ (.int .i64 0)).setCell ⟨B, 2, none⟩ (.int .i64 0)).setCell ⟨B, 3, none⟩ (.bool false)).setCell ⟨B, 4, none⟩ (.bool false)).setCell ⟨B + 1, 0, none⟩ (.string ⟨#[]⟩)).setCell ⟨B + 1, 1, none⟩ (.int .i64 0)).setCell ⟨B + 1, 2, none⟩ (.int .i64 0)).setCell ⟨B + 1, 3, none⟩ (.bool false)).setCell ⟨B + 1, 4, none⟩ (.bool false)
theorem two_zero {w w4 : World} (Z1 : RefAt w4 w.heap.size ⟨#[]⟩ 0 0 false false) (Z2 : RefAt w4 (w.heap.size + 1) ⟨#[]⟩ 0 0 false false) (HB : Below w.heap.size w w4) (o : Obj) :
    RefAt ((zero10 w4 w.heap.size).alloc o) w.heap.size ⟨#[]⟩ 0 0 false false ∧ RefAt ((zero10 w4 w.heap.size).alloc o) (w.heap.size + 1) ⟨#[]⟩ 0 0 false false ∧ Below w.heap.size w ((zero10 w4 w.heap.size).alloc o) :=
  ⟨((Z1.set5 ⟨#[]⟩ 0 0 false false).other5 (D := w.heap.size + 1) (by omega) (.string ⟨#[]⟩) (.int .i64 0) (.int .i64 0) (.bool false) (.bool false)).alloc o,
   ((Z2.other5 (D := w.heap.size) (by omega) (.string ⟨#[]⟩) (.int .i64 0) (.int .i64 0) (.bool false) (.bool false)).set5 ⟨#[]⟩ 0 0 false false).alloc o,
   (below_set5 (below_set5 HB (Nat.le_refl _) _ _ _ _ _) (Nat.le_succ _) _ _ _ _ _).alloc (below_set5 (below_set5 HB (Nat.le_refl _) _ _ _ _ _) (Nat.le_succ _) _ _ _ _ _).size o⟩

section
variable (s nm rest x y : ByteArray) (is two : Bool) (ea ca ra eb cb rb : Int) (aca ara acb arb : Bool) (w : World)

set_option maxHeartbeats 8000000 in
theorem parseRange_core
    (C1 : Hid (∀ w, Glob w → Calls Tryz.prog 42 #[.string s] w (Q (.tuple #[.string nm, .string rest, .bool is]) w)))
    (C2 : Hid (∀ w, Glob w → Calls Tryz.prog 46 #[.string rest, .string ⟨#[58]⟩] w (Q (.tuple #[.string x, .string y, .bool two]) w)))
    (C3 : Hid (∀ w, Calls Tryz.prog 43 #[.string x] w (Q (.tuple #[refV ⟨#[]⟩ ca ra aca ara, .int .i64 ea]) w)))
    (C4 : Hid (∀ w, Calls Tryz.prog 43 #[.string y] w (Q (.tuple #[refV ⟨#[]⟩ cb rb acb arb, .int .i64 eb]) w)))
    (hg : Glob w) :
    Calls Tryz.prog 23 #[.string s] w (Q (parseRV (rangeG nm.data.toList is two (ea, ca, ra, aca, ara) (eb, cb, rb, acb, arb))) w) := by
  obtain ⟨R, hR⟩ : ∃ R, rangeG nm.data.toList is two (ea, ca, ra, aca, ara) (eb, cb, rb, acb, arb) = R := ⟨_, rfl⟩
  rw [hR]
  have HG := Lib.hid hR
  clear hR
  have hB : Below w.heap.size w (W2 ⟨#[]⟩ 0 0 false false ⟨#[]⟩ 0 0 false false w) := W2_below ⟨#[]⟩ 0 0 false false ⟨#[]⟩ 0 0 false false w
  have hg1 := hg.below hB
  have R1 : Hid (RefAt (W2 ⟨#[]⟩ 0 0 false false ⟨#[]⟩ 0 0 false false w) w.heap.size ⟨#[]⟩ 0 0 false false) := W2_a ⟨#[]⟩ 0 0 false false ⟨#[]⟩ 0 0 false false w
  have R2 : Hid (RefAt (W2 ⟨#[]⟩ 0 0 false false ⟨#[]⟩ 0 0 false false w) (w.heap.size + 1) ⟨#[]⟩ 0 0 false false) := W2_b ⟨#[]⟩ 0 0 false false ⟨#[]⟩ 0 0 false false w
  have HB := Lib.hid hB
  clear hB
  go_enter Tryz.func23, Tryz.ntmps23
  go_wp2_with fail
  refine (C1.out _ hg1).mono ?_
  rintro e w1 ⟨rfl, hb⟩
  replace R1 := Lib.hid (R1.out.below hb)
  replace R2 := Lib.hid (R2.out.below hb)
  replace HB := Lib.hid (bt HB.out hb)
  replace hg1 := hg1.below hb
  clear hb C1 hg
  go_wp2_with fail
  refine (C2.out _ hg1).mono ?_
  rintro e w2 ⟨rfl, hb⟩
  replace R1 := Lib.hid (R1.out.below hb)
  replace R2 := Lib.hid (R2.out.below hb)
  replace HB := Lib.hid (bt HB.out hb)
  clear hb hg1
  go_wp2_with fail
  refine (C3.out _).mono ?_
  rintro e w3 ⟨rfl, hb⟩
  have hlt3 := (R2.out.below hb).lt
  replace R1 := Lib.hid ((R1.out.below hb).alloc (.cells #[.string ⟨#[]⟩, .int .i64 ca, .int .i64 ra, .bool aca, .bool ara] 23))
  replace R2 := Lib.hid ((R2.out.below hb).alloc (.cells #[.string ⟨#[]⟩, .int .i64 ca, .int .i64 ra, .bool aca, .bool ara] 23))
  have R3 := Lib.hid (RefAt.new w3 ⟨#[]⟩ ca ra aca ara)
  replace HB := Lib.hid (bt HB.out hb)
  replace HB := Lib.hid (HB.out.alloc HB.out.size (.cells #[.string ⟨#[]⟩, .int .i64 ca, .int .i64 ra, .bool aca, .bool ara] 23))
  clear hb C2
  go_wp2_with fail
  refine (C4.out _).mono ?_
  rintro e w4 ⟨rfl, hb⟩
  replace R1 := Lib.hid (R1.out.below hb)
  replace R2 := Lib.hid (R2.out.below hb)
  replace R3 := Lib.hid (R3.out.below hb)
  replace HB := Lib.hid (bt HB.out hb)
  clear hb C3 C4
  obtain ⟨p0, p1, p2, p3, p4, pf, pl⟩ := R1.out
  obtain ⟨t0, t1, t2, t3, t4, tf, tl⟩ := R2.out
  obtain ⟨u0, u1, u2, u3, u4, uf, ul⟩ := R3.out
  by_cases h40 : is = true ∧ two = true ∧ ea ≠ 40 ∧ eb ≠ 40
  · obtain ⟨rfl, rfl, he, hf⟩ := h40
    have he' : (ea == 40) = false := by simpa using he
    have hf' : (eb == 40) = false := by simpa using hf
    by_cases h0 : ea = 0 ∧ eb = 0
    · obtain ⟨rfl, rfl⟩ := h0
      have hR : Hid (R = (0, nm.data.toList, (ca, ra, aca, ara), (cb, rb, acb, arb))) := by show _ = _; rw [← HG.out]; rfl
      clear HG
      go_wp2_with fail
      obtain ⟨W, hW⟩ : ∃ W, (w4.setCell ⟨w3.heap.size, 0, none⟩ (.string nm)).alloc (.cells #[.string nm, .int .i64 cb, .int .i64 rb, .bool acb, .bool arb] 23) = W := ⟨_, rfl⟩
      have kk := ul
      have Z1 : RefAt W w.heap.size ⟨#[]⟩ 0 0 false false := by rw [← hW]; exact (R1.out.other _ _ (by show w.heap.size ≠ w3.heap.size; omega)).alloc _
      have Z2 : RefAt W (w.heap.size + 1) ⟨#[]⟩ 0 0 false false := by rw [← hW]; exact (R2.out.other _ _ (by show w.heap.size + 1 ≠ w3.heap.size; omega)).alloc _
      have Z3 : RefAt W w3.heap.size nm ca ra aca ara := by rw [← hW]; exact (R3.out.set0 nm).alloc _
      have Z4 : RefAt W w4.heap.size nm cb rb acb arb := by
        rw [← hW]
        have h := RefAt.new (w4.setCell ⟨w3.heap.size, 0, none⟩ (.string nm)) nm cb rb acb arb
        rw [setCell_size] at h
        exact h
      have ZB : Below w.heap.size w W := by rw [← hW]; exact (HB.out.setCell (p := ⟨w3.heap.size, 0, none⟩) (by show w.heap.size ≤ w3.heap.size; omega) _).alloc (by rw [setCell_size]; exact HB.out.size) _
      rw [hW]
      clear p0 p1 p2 p3 p4 pf pl t0 t1 t2 t3 t4 tf tl u0 u1 u2 u3 u4 uf ul R1 R2 R3 HB
      obtain ⟨a0, a1, a2, a3, a4, af, al⟩ := Z3
      obtain ⟨b0, b1, b2, b3, b4, bf, bl⟩ := Z4
      have Y1 := Lib.hid Z1
      have Y2 := Lib.hid Z2
      obtain ⟨p0, p1, p2, p3, p4, pf, pl⟩ := Z1
      obtain ⟨t0, t1, t2, t3, t4, tf, tl⟩ := Z2
      have ne1 : ¬ w.heap.size = w3.heap.size := by omega
      have ne2 : ¬ w.heap.size + 1 = w3.heap.size := by omega
      have k4 : w3.heap.size < w4.heap.size := kk
      have ne3 : ¬ w.heap.size = w4.heap.size := by omega
      have ne4 : ¬ w.heap.size + 1 = w4.heap.size := by omega
      go_region
      go_wp2_with fail
      obtain ⟨c0, c1, c2, c3, c4, cf, cl⟩ := ((Y1.out.set5 nm ca ra aca ara).other5 (D := w.heap.size + 1) (by omega) (.string nm) (.int .i64 cb) (.int .i64 rb) (.bool acb) (.bool arb)).drew
      obtain ⟨d0, d1, d2, d3, d4, df, dl⟩ := ((Y2.out.other5 (D := w.heap.size) (by omega) (.string nm) (.int .i64 ca) (.int .i64 ra) (.bool aca) (.bool ara)).set5 nm cb rb acb arb).drew
      exact bodyPost_ret (v := .tuple #[refV nm ca ra aca ara, refV nm cb rb acb arb, .int .i64 0]) (by simp [results, Tryz.results23, go_sem, c0, c1, c2, c3, c4, d0, d1, d2, d3, d4]) rfl
        ⟨by rw [hR.out]; unfold parseRV; dsimp only, Below.drew (below_set5 (below_set5 ZB (Nat.le_refl _) _ _ _ _ _) (Nat.le_succ _) _ _ _ _ _)⟩
    · have hR : Hid (R = (41, [], (0, 0, false, false), (0, 0, false, false))) := by
        show _ = _; rw [← HG.out]; unfold rangeG
        by_cases h1 : ea = 0
        · have h2 : ¬ eb = 0 := fun e => h0 ⟨h1, e⟩
          simp [he, hf, h2]
        · simp [he, hf, h1]
      clear HG
      by_cases h1 : ea = 0
      · have h2 : ¬ eb = 0 := fun e => h0 ⟨h1, e⟩
        subst h1
        have h2' : (eb != 0) = true := by simpa using h2
        go_wp2_with fail
        obtain ⟨⟨c0, c1, c2, c3, c4, _, _⟩, ⟨d0, d1, d2, d3, d4, _, _⟩, hZ⟩ := two_zero R1.out R2.out HB.out (.cells #[.string ⟨#[]⟩, .int .i64 cb, .int .i64 rb, .bool acb, .bool arb] 23)
        unfold zero10 at c0 c1 c2 c3 c4 d0 d1 d2 d3 d4
        exact bodyPost_ret (v := zeroV 41) (by simp [results, Tryz.results23, go_sem, zeroV, c0, c1, c2, c3, c4, d0, d1, d2, d3, d4]) rfl ⟨by rw [hR.out]; rfl, hZ⟩
      · have h1' : (ea != 0) = true := by simpa using h1
        go_wp2_with fail
        obtain ⟨⟨c0, c1, c2, c3, c4, _, _⟩, ⟨d0, d1, d2, d3, d4, _, _⟩, hZ⟩ := two_zero R1.out R2.out HB.out (.cells #[.string ⟨#[]⟩, .int .i64 cb, .int .i64 rb, .bool acb, .bool arb] 23)
        unfold zero10 at c0 c1 c2 c3 c4 d0 d1 d2 d3 d4
        exact bodyPost_ret (v := zeroV 41) (by simp [results, Tryz.results23, go_sem, zeroV, c0, c1, c2, c3, c4, d0, d1, d2, d3, d4]) rfl ⟨by rw [hR.out]; rfl, hZ⟩
  · have hR : Hid (R = (40, [], (0, 0, false, false), (0, 0, false, false))) := by
      show _ = _; rw [← HG.out]; unfold rangeG
      dsimp only
      rw [if_pos]
      cases is <;> cases two <;> simp_all
      by_cases h1 : ea = 40
      · exact Or.inl h1
      · exact Or.inr (h40 h1)
    clear HG
    cases is with
    | false =>
      go_wp2_with fail
      obtain ⟨⟨c0, c1, c2, c3, c4, _, _⟩, ⟨d0, d1, d2, d3, d4, _, _⟩, hZ⟩ := two_zero R1.out R2.out HB.out (.cells #[.string ⟨#[]⟩, .int .i64 cb, .int .i64 rb, .bool acb, .bool arb] 23)
      unfold zero10 at c0 c1 c2 c3 c4 d0 d1 d2 d3 d4
      exact bodyPost_ret (v := zeroV 40) (by simp [results, Tryz.results23, go_sem, zeroV, c0, c1, c2, c3, c4, d0, d1, d2, d3, d4]) rfl ⟨by rw [hR.out]; rfl, hZ⟩
    | true =>
      cases two with
      | false =>
        go_wp2_with fail
        obtain ⟨⟨c0, c1, c2, c3, c4, _, _⟩, ⟨d0, d1, d2, d3, d4, _, _⟩, hZ⟩ := two_zero R1.out R2.out HB.out (.cells #[.string ⟨#[]⟩, .int .i64 cb, .int .i64 rb, .bool acb, .bool arb] 23)
        unfold zero10 at c0 c1 c2 c3 c4 d0 d1 d2 d3 d4
        exact bodyPost_ret (v := zeroV 40) (by simp [results, Tryz.results23, go_sem, zeroV, c0, c1, c2, c3, c4, d0, d1, d2, d3, d4]) rfl ⟨by rw [hR.out]; rfl, hZ⟩
      | true =>
        by_cases h1 : ea = 40
        · subst h1
          go_wp2_with fail
          obtain ⟨⟨c0, c1, c2, c3, c4, _, _⟩, ⟨d0, d1, d2, d3, d4, _, _⟩, hZ⟩ := two_zero R1.out R2.out HB.out (.cells #[.string ⟨#[]⟩, .int .i64 cb, .int .i64 rb, .bool acb, .bool arb] 23)
          unfold zero10 at c0 c1 c2 c3 c4 d0 d1 d2 d3 d4
          exact bodyPost_ret (v := zeroV 40) (by simp [results, Tryz.results23, go_sem, zeroV, c0, c1, c2, c3, c4, d0, d1, d2, d3, d4]) rfl ⟨by rw [hR.out]; rfl, hZ⟩
        · have he' : (ea == 40) = false := by simpa using h1
          by_cases h2 : eb = 40
          · subst h2
            go_wp2_with fail
            obtain ⟨⟨c0, c1, c2, c3, c4, _, _⟩, ⟨d0, d1, d2, d3, d4, _, _⟩, hZ⟩ := two_zero R1.out R2.out HB.out (.cells #[.string ⟨#[]⟩, .int .i64 cb, .int .i64 rb, .bool acb, .bool arb] 23)
            unfold zero10 at c0 c1 c2 c3 c4 d0 d1 d2 d3 d4
            exact bodyPost_ret (v := zeroV 40) (by simp [results, Tryz.results23, go_sem, zeroV, c0, c1, c2, c3, c4, d0, d1, d2, d3, d4]) rfl ⟨by rw [hR.out]; rfl, hZ⟩
          · exact absurd ⟨rfl, rfl, h1, h2⟩ h40
end

theorem cut_le (c : UInt8) (l : List UInt8) : (Pl.cut1 c l).1.length ≤ l.length ∧ (Pl.cut1 c l).2.1.length ≤ l.length := by
  refine ⟨takeWhile_le _ l, ?_⟩
  have := dropWhile_le (· != c) l
  show ((l.dropWhile (· != c)).tail).length ≤ l.length
  rw [List.length_tail]; omega

theorem parseRange_any (s : ByteArray) (w : World) (hs : s.size ≤ 4294967280) (hg : Glob w) :
    Calls Tryz.prog 23 #[.string s] w (Q (parseRV (parseRF s.data.toList)) w) := by
  have h1 := sheetF_le s.data.toList
  have h2 : s.data.toList.length ≤ 4294967280 := hs
  have h3 := cut_le 58 (sheetF s.data.toList).2.1
  have h := parseRange_core s ⟨(sheetF s.data.toList).1.toArray⟩ ⟨(sheetF s.data.toList).2.1.toArray⟩ ⟨(Pl.cut1 58 (sheetF s.data.toList).2.1).1.toArray⟩ ⟨(Pl.cut1 58 (sheetF s.data.toList).2.1).2.1.toArray⟩
    (sheetF s.data.toList).2.2 (Pl.cut1 58 (sheetF s.data.toList).2.1).2.2 (cellF (Pl.cut1 58 (sheetF s.data.toList).2.1).1).1 _ _ (cellF (Pl.cut1 58 (sheetF s.data.toList).2.1).2.1).1 _ _ _ _ _ _ w
    (Lib.hid (fun w hg => sheet_any s w hs hg)) (Lib.hid (fun w hg => (cut_one ⟨(sheetF s.data.toList).2.1.toArray⟩ 58 w (by rw [size_mk]; omega) hg).mono fun _ _ ⟨he, n, hw⟩ => ⟨he, by rw [hw]; exact below_drewN (Below.refl _ _) n⟩))
    (Lib.hid (fun w => cell_any ⟨(Pl.cut1 58 (sheetF s.data.toList).2.1).1.toArray⟩ w (by rw [size_mk]; omega)))
    (Lib.hid (fun w => cell_any ⟨(Pl.cut1 58 (sheetF s.data.toList).2.1).2.1.toArray⟩ w (by rw [size_mk]; omega))) hg
  exact h
end Go.Proofs.YtmicenegjfnbmaaGreatDoor
