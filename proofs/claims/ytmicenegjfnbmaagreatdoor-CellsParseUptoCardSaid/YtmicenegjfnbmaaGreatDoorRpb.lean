/- The document's ParseRange. -/
import Derived.Test.YtmicenegjfnbmaaGreatDoorRpa
namespace Go.Proofs.YtmicenegjfnbmaaGreatDoor
open Go.RowKit Go.Lib

theorem two_zero0 {w w4 : World} (Z1 : RefAt w4 w.heap.size ⟨#[]⟩ 0 0 false false) (Z2 : RefAt w4 (w.heap.size + 1) ⟨#[]⟩ 0 0 false false) (HB : Below w.heap.size w w4) :
    RefAt (zero10 w4 w.heap.size) w.heap.size ⟨#[]⟩ 0 0 false false ∧ RefAt (zero10 w4 w.heap.size) (w.heap.size + 1) ⟨#[]⟩ 0 0 false false ∧ Below w.heap.size w (zero10 w4 w.heap.size) :=
  ⟨(Z1.set5 ⟨#[]⟩ 0 0 false false).other5 (D := w.heap.size + 1) (by omega) (.string ⟨#[]⟩) (.int .i64 0) (.int .i64 0) (.bool false) (.bool false),
   (Z2.other5 (D := w.heap.size) (by omega) (.string ⟨#[]⟩) (.int .i64 0) (.int .i64 0) (.bool false) (.bool false)).set5 ⟨#[]⟩ 0 0 false false,
   below_set5 (below_set5 HB (Nat.le_refl _) _ _ _ _ _) (Nat.le_succ _) _ _ _ _ _⟩

def refRangeRV (nm : ByteArray) (is two wa ta wb tb : Bool) (ca ra : Int) (aca ara : Bool) (cb rb : Int) (acb arb : Bool) : Value :=
  if !is then zeroV 40 else if !two then zeroV 40 else if !wa then zeroV 40 else if !wb then zeroV 40 else if !ta then zeroV 41 else if !tb then zeroV 41 else .tuple #[refV nm ca ra aca ara, refV nm cb rb acb arb, .int .i64 0]

set_option maxRecDepth 100000 in
set_option maxHeartbeats 16000000 in
theorem refRange_core (s nm rest : ByteArray) (is : Bool) (a1 : Nat) (hs : rest.size ≤ 4294967280) (H1 : Hid (EndsAt (· != 58) rest 0 a1)) (wa ta wb tb : Bool) (ca ra cb rb : Int) (aca ara acb arb : Bool) (w : World)
    (C1 : Hid (∀ w, Calls Tryz.prog 44 #[.string s] w (Q (.tuple #[.string nm, .string rest, .bool is]) w)))
    (C3 : Hid (∀ w, Calls Tryz.prog 45 #[.string (rest.extract 0 a1)] w (Q (.tuple #[refV ⟨#[]⟩ ca ra aca ara, .bool wa, .bool ta]) w)))
    (C4 : Hid (∀ w, Calls Tryz.prog 45 #[.string (rest.extract (a1 + 1) rest.size)] w (Q (.tuple #[refV ⟨#[]⟩ cb rb acb arb, .bool wb, .bool tb]) w))) :
    Calls Tryz.prog 24 #[.string s] w (Q (refRangeRV nm is (decide (a1 < rest.size)) wa ta wb tb ca ra aca ara cb rb acb arb) w) := by
  obtain ⟨R, hR⟩ : ∃ R, refRangeRV nm is (decide (a1 < rest.size)) wa ta wb tb ca ra aca ara cb rb acb arb = R := ⟨_, rfl⟩
  rw [hR]
  have HG := Lib.hid hR
  clear hR
  have HB := Lib.hid (W2_below ⟨#[]⟩ 0 0 false false ⟨#[]⟩ 0 0 false false w)
  have R1 := Lib.hid (W2_a ⟨#[]⟩ 0 0 false false ⟨#[]⟩ 0 0 false false w)
  have R2 := Lib.hid (W2_b ⟨#[]⟩ 0 0 false false ⟨#[]⟩ 0 0 false false w)
  unfold W2 at HB R1 R2
  go_enter Tryz.func24, Tryz.ntmps24
  go_wp2_with fail
  refine (C1.out _).mono ?_
  rintro e w1 ⟨rfl, hb⟩
  replace R1 := Lib.hid (R1.out.below hb)
  replace R2 := Lib.hid (R2.out.below hb)
  replace HB := Lib.hid (bt HB.out hb)
  clear hb C1
  obtain ⟨p0, p1, p2, p3, p4, pf, pl⟩ := R1.out
  obtain ⟨t0, t1, t2, t3, t4, tf, tl⟩ := R2.out
  cases is with
  | false =>
    have HR : Hid (R = zeroV 40) := by show _ = _; rw [← HG.out]; rfl
    clear HG
    go_wp2_with fail
    obtain ⟨⟨c0, c1, c2, c3, c4, _, _⟩, ⟨d0, d1, d2, d3, d4, _, _⟩, hZ⟩ := two_zero0 R1.out R2.out HB.out
    unfold zero10 at c0 c1 c2 c3 c4 d0 d1 d2 d3 d4
    rw [HR.out]
    exact bodyPost_ret (v := zeroV 40) (by simp [results, Tryz.results24, go_sem, zeroV, c0, c1, c2, c3, c4, d0, d1, d2, d3, d4]) rfl ⟨rfl, hZ⟩
  | true =>
    clear p0 p1 p2 p3 p4 pf pl t0 t1 t2 t3 t4 tf tl
    obtain ⟨f1, f2, f3, f4⟩ := H1.out
    have F3 := Lib.hid f3
    have F4 := Lib.hid f4
    clear f3 f4 f1
    go_wp2_with fail
    go_loopg [8] rest.size (fun gf v8 wx => ∃ k : Nat, k ≤ a1 ∧ a1 ≤ k + gf ∧ v8 = .int .i64 (k : Int) ∧ w1 = wx)
    case atStart => exact ⟨0, Nat.zero_le _, by omega, rfl, rfl⟩
    case round =>
      obtain ⟨k, k2, k3, rfl, rfl⟩ := hrel
      by_cases hlt : k < a1
      · obtain ⟨g', rfl⟩ : ∃ g', gk = g' + 1 := ⟨gk - 1, by omega⟩
        have hz : k < rest.size := by omega
        have hcp := F3.out k hz (Nat.zero_le _) hlt
        have hne : (rest[k]'hz).toNat ≠ 58 := by
          intro h
          have : rest[k]'hz = 58 := UInt8.toNat_inj.1 h
          rw [this] at hcp; cases hcp
        have d1 : (((rest[k]'hz).toNat : Int) == 58) = false := by rw [beq_eq_false_iff_ne]; omega
        have d2 : (((rest[k]'hz).toNat : Int) != 58) = true := by rw [bne_iff_ne]; omega
        clear hcp hne
        go_wp2_with fail
        go_roundg g'
        case measure => omega
        case rel => exact ⟨k + 1, by omega, by omega, by go_num, rfl⟩
      · obtain rfl : k = a1 := by omega
        by_cases hz : k < rest.size
        · have hcp := F4.out hz
          have h58 : rest[k]'hz = 58 := by simpa using hcp
          have d1 : (((rest[k]'hz).toNat : Int) == 58) = true := by rw [h58]; rfl
          have d2 : (((rest[k]'hz).toNat : Int) != 58) = false := by rw [h58]; rfl
          have hle : (k : Int) + 1 ≤ (rest.size : Int) := by omega
          have dz : decide (k < rest.size) = true := decide_eq_true hz
          have HG2 : Hid (refRangeRV nm true true wa ta wb tb ca ra aca ara cb rb acb arb = R) := by show _ = _; rw [← HG.out, dz]
          clear HG
          have HG := HG2
          clear HG2 hcp h58 dz
          go_wp2_with fail
          refine (C3.out _).mono ?_
          rintro e w3 ⟨rfl, hb⟩
          have hlt3 := (R2.out.below hb).lt
          replace R1 := Lib.hid ((R1.out.below hb).alloc (.cells #[.string ⟨#[]⟩, .int .i64 ca, .int .i64 ra, .bool aca, .bool ara] 23))
          replace R2 := Lib.hid ((R2.out.below hb).alloc (.cells #[.string ⟨#[]⟩, .int .i64 ca, .int .i64 ra, .bool aca, .bool ara] 23))
          have R3 := Lib.hid (RefAt.new w3 ⟨#[]⟩ ca ra aca ara)
          replace HB := Lib.hid (bt HB.out hb)
          replace HB := Lib.hid (HB.out.alloc HB.out.size (.cells #[.string ⟨#[]⟩, .int .i64 ca, .int .i64 ra, .bool aca, .bool ara] 23))
          clear hb C3
          go_wp2_with fail
          refine (C4.out _).mono ?_
          rintro e w4 ⟨rfl, hb⟩
          replace R1 := Lib.hid (R1.out.below hb)
          replace R2 := Lib.hid (R2.out.below hb)
          replace R3 := Lib.hid (R3.out.below hb)
          replace HB := Lib.hid (bt HB.out hb)
          clear hb C4
          obtain ⟨p0, p1, p2, p3, p4, pf, pl⟩ := R1.out
          obtain ⟨t0, t1, t2, t3, t4, tf, tl⟩ := R2.out
          obtain ⟨u0, u1, u2, u3, u4, uf, ul⟩ := R3.out
          cases wa with
          | false =>
            have HR : Hid (R = zeroV 40) := by show _ = _; rw [← HG.out]; rfl
            clear HG
            go_wp2_with fail
            obtain ⟨⟨c0, c1, c2, c3, c4, _, _⟩, ⟨d0, d1, d2, d3, d4, _, _⟩, hZ⟩ := two_zero R1.out R2.out HB.out (.cells #[.string ⟨#[]⟩, .int .i64 cb, .int .i64 rb, .bool acb, .bool arb] 23)
            unfold zero10 at c0 c1 c2 c3 c4 d0 d1 d2 d3 d4
            rw [HR.out]
            exact bodyPost_ret (v := zeroV 40) (by simp [results, Tryz.results24, go_sem, zeroV, c0, c1, c2, c3, c4, d0, d1, d2, d3, d4]) rfl ⟨rfl, hZ⟩
          | true =>
            cases wb with
            | false =>
              have HR : Hid (R = zeroV 40) := by show _ = _; rw [← HG.out]; rfl
              clear HG
              go_wp2_with fail
              obtain ⟨⟨c0, c1, c2, c3, c4, _, _⟩, ⟨d0, d1, d2, d3, d4, _, _⟩, hZ⟩ := two_zero R1.out R2.out HB.out (.cells #[.string ⟨#[]⟩, .int .i64 cb, .int .i64 rb, .bool acb, .bool arb] 23)
              unfold zero10 at c0 c1 c2 c3 c4 d0 d1 d2 d3 d4
              rw [HR.out]
              exact bodyPost_ret (v := zeroV 40) (by simp [results, Tryz.results24, go_sem, zeroV, c0, c1, c2, c3, c4, d0, d1, d2, d3, d4]) rfl ⟨rfl, hZ⟩
            | true =>
              cases ta with
              | false =>
                have HR : Hid (R = zeroV 41) := by show _ = _; rw [← HG.out]; rfl
                clear HG
                go_wp2_with fail
                obtain ⟨⟨c0, c1, c2, c3, c4, _, _⟩, ⟨d0, d1, d2, d3, d4, _, _⟩, hZ⟩ := two_zero R1.out R2.out HB.out (.cells #[.string ⟨#[]⟩, .int .i64 cb, .int .i64 rb, .bool acb, .bool arb] 23)
                unfold zero10 at c0 c1 c2 c3 c4 d0 d1 d2 d3 d4
                rw [HR.out]
                exact bodyPost_ret (v := zeroV 41) (by simp [results, Tryz.results24, go_sem, zeroV, c0, c1, c2, c3, c4, d0, d1, d2, d3, d4]) rfl ⟨rfl, hZ⟩
              | true =>
                cases tb with
                | false =>
                  have HR : Hid (R = zeroV 41) := by show _ = _; rw [← HG.out]; rfl
                  clear HG
                  go_wp2_with fail
                  obtain ⟨⟨c0, c1, c2, c3, c4, _, _⟩, ⟨d0, d1, d2, d3, d4, _, _⟩, hZ⟩ := two_zero R1.out R2.out HB.out (.cells #[.string ⟨#[]⟩, .int .i64 cb, .int .i64 rb, .bool acb, .bool arb] 23)
                  unfold zero10 at c0 c1 c2 c3 c4 d0 d1 d2 d3 d4
                  rw [HR.out]
                  exact bodyPost_ret (v := zeroV 41) (by simp [results, Tryz.results24, go_sem, zeroV, c0, c1, c2, c3, c4, d0, d1, d2, d3, d4]) rfl ⟨rfl, hZ⟩
                | true =>
                  have HR : Hid (R = .tuple #[refV nm ca ra aca ara, refV nm cb rb acb arb, .int .i64 0]) := by show _ = _; rw [← HG.out]; rfl
                  clear HG
                  go_wp2_with fail
                  obtain ⟨W, hW⟩ : ∃ W, (w4.setCell ⟨w3.heap.size, 0, none⟩ (.string nm)).alloc (.cells #[.string nm, .int .i64 cb, .int .i64 rb, .bool acb, .bool arb] 23) = W := ⟨_, rfl⟩
                  have kk := ul
                  have Z1 : RefAt W w.heap.size ⟨#[]⟩ 0 0 false false := by rw [← hW]; exact (R1.out.other _ _ (by show w.heap.size ≠ w3.heap.size; omega)).alloc _
                  have Z2 : RefAt W (w.heap.size + 1) ⟨#[]⟩ 0 0 false false := by rw [← hW]; exact (R2.out.other _ _ (by show w.heap.size + 1 ≠ w3.heap.size; omega)).alloc _
                  have Z3 : RefAt W w3.heap.size nm ca ra aca ara := by rw [← hW]; exact (R3.out.set0 nm).alloc _
                  have Z4 : RefAt W w4.heap.size nm cb rb acb arb := by
                    rw [← hW]
                    have h := RefAt.new (w4.setCell ⟨w3.heap.size, 0, none⟩ (.string nm)) nm cb rb acb arb
                    rw [setCell_size] at h
                    exact h
                  have ZB : Below w.heap.size w W := by rw [← hW]; exact (HB.out.setCell (p := ⟨w3.heap.size, 0, none⟩) (by show w.heap.size ≤ w3.heap.size; omega) _).alloc (by rw [setCell_size]; exact HB.out.size) _
                  rw [hW]
                  clear p0 p1 p2 p3 p4 pf pl t0 t1 t2 t3 t4 tf tl u0 u1 u2 u3 u4 uf ul R1 R2 R3 HB hW
                  have Y1 := Lib.hid Z1
                  have Y2 := Lib.hid Z2
                  obtain ⟨a0, a1, a2, a3, a4, af, al⟩ := Z3
                  obtain ⟨b0, b1, b2, b3, b4, bf, bl⟩ := Z4
                  obtain ⟨p0, p1, p2, p3, p4, pf, pl⟩ := Z1
                  obtain ⟨t0, t1, t2, t3, t4, tf, tl⟩ := Z2
                  have ne1 : ¬ w.heap.size = w3.heap.size := by omega
                  have ne2 : ¬ w.heap.size + 1 = w3.heap.size := by omega
                  have ne3 : ¬ w.heap.size = w4.heap.size := by omega
                  have ne4 : ¬ w.heap.size + 1 = w4.heap.size := by omega
                  go_region
                  go_wp2_with fail
                  obtain ⟨c0, c1, c2, c3, c4, cf, cl⟩ := ((Y1.out.set5 nm ca ra aca ara).other5 (D := w.heap.size + 1) (by omega) (.string nm) (.int .i64 cb) (.int .i64 rb) (.bool acb) (.bool arb)).drew
                  obtain ⟨d0, d1, d2, d3, d4, df, dl⟩ := ((Y2.out.other5 (D := w.heap.size) (by omega) (.string nm) (.int .i64 ca) (.int .i64 ra) (.bool aca) (.bool ara)).set5 nm cb rb acb arb).drew
                  rw [HR.out]
                  exact bodyPost_ret (v := .tuple #[refV nm ca ra aca ara, refV nm cb rb acb arb, .int .i64 0]) (by simp [results, Tryz.results24, go_sem, c0, c1, c2, c3, c4, d0, d1, d2, d3, d4]) rfl
                    ⟨rfl, Below.drew (below_set5 (below_set5 ZB (Nat.le_refl _) _ _ _ _ _) (Nat.le_succ _) _ _ _ _ _)⟩
        · have dk : decide (k < rest.size) = false := by rw [decide_eq_false_iff_not]; exact hz
          obtain ⟨p0, p1, p2, p3, p4, pf, pl⟩ := R1.out
          obtain ⟨t0, t1, t2, t3, t4, tf, tl⟩ := R2.out
          have HR : Hid (R = zeroV 40) := by show _ = _; rw [← HG.out]; rw [dk]; rfl
          clear HG
          go_wp2_with fail
          obtain ⟨⟨c0, c1, c2, c3, c4, _, _⟩, ⟨d0, d1, d2, d3, d4, _, _⟩, hZ⟩ := two_zero0 R1.out R2.out HB.out
          unfold zero10 at c0 c1 c2 c3 c4 d0 d1 d2 d3 d4
          rw [HR.out]
          exact bodyPost_ret (v := zeroV 40) (by simp [results, Tryz.results24, go_sem, zeroV, c0, c1, c2, c3, c4, d0, d1, d2, d3, d4]) rfl ⟨rfl, hZ⟩

theorem refParseRange_any (s : ByteArray) (w : World) (hs : s.size ≤ 4294967280) :
    Calls Tryz.prog 24 #[.string s] w (Q (parseRV (parseRF s.data.toList)) w) := by
  obtain ⟨nm, rest, h1, h2, h3⟩ := refSheet_any s hs
  have hl : rest.data.toList.length = rest.size := rfl
  obtain ⟨a1, ha1⟩ : ∃ a1, a1 = (rest.data.toList.takeWhile (· != 58)).length := ⟨_, rfl⟩
  have hE := ends_of (· != 58) rest 0 (Nat.zero_le _)
  rw [List.drop_zero, Nat.zero_add, ← ha1] at hE
  have hx : (rest.extract 0 a1).data.toList = rest.data.toList.takeWhile (· != 58) := by
    rw [ByteArray.data_extract, Array.toList_extract]
    show (rest.data.toList.extract 0 a1) = rest.data.toList.takeWhile (· != 58)
    rw [List.extract_eq_take_drop, List.drop_zero, Nat.sub_zero, ha1, Pl.take_takeWhile]
  have hy : (rest.extract (a1 + 1) rest.size).data.toList = (rest.data.toList.dropWhile (· != 58)).tail := by rw [Lib.extract_to_end, drop_cons_tail, ← ha1]
  obtain ⟨ca, ra, aca, ara, k1, k2⟩ := refCell_any (rest.extract 0 a1) (by rw [ByteArray.size_extract]; omega)
  obtain ⟨cb, rb, acb, arb, m1, m2⟩ := refCell_any (rest.extract (a1 + 1) rest.size) (by rw [ByteArray.size_extract]; omega)
  have h := refRange_core s nm rest _ a1 (by omega) (Lib.hid hE) _ _ _ _ ca ra cb rb aca ara acb arb w (Lib.hid h1) (Lib.hid k1) (Lib.hid m1)
  have e : refRangeRV nm (sheetF s.data.toList).2.2 (decide (a1 < rest.size)) ((cellF (rest.extract 0 a1).data.toList).1 != 40) ((cellF (rest.extract 0 a1).data.toList).1 == 0) ((cellF (rest.extract (a1 + 1) rest.size).data.toList).1 != 40) ((cellF (rest.extract (a1 + 1) rest.size).data.toList).1 == 0) ca ra aca ara cb rb acb arb
      = parseRV (parseRF s.data.toList) := by
    unfold parseRF rangeG
    cases his : (sheetF s.data.toList).2.2 with
    | false => rfl
    | true =>
      obtain ⟨rfl, rfl⟩ := h2 his
      have er : (⟨(sheetF s.data.toList).2.1.toArray⟩ : ByteArray).data.toList = (sheetF s.data.toList).2.1 := rfl
      have ht : decide (a1 < (⟨(sheetF s.data.toList).2.1.toArray⟩ : ByteArray).size) = (Pl.cut1 58 (sheetF s.data.toList).2.1).2.2 := by
        show _ = (sheetF s.data.toList).2.1.contains 58
        rw [tw_contains, ← er, ← ha1, hl]
      rw [hx] at k2 ⊢
      rw [hy] at m2 ⊢
      rw [ht]
      rw [er] at k2 m2 ⊢
      show refRangeRV _ true _ ((cellF (Pl.cut1 58 (sheetF s.data.toList).2.1).1).1 != 40) ((cellF (Pl.cut1 58 (sheetF s.data.toList).2.1).1).1 == 0) ((cellF (Pl.cut1 58 (sheetF s.data.toList).2.1).2.1).1 != 40) ((cellF (Pl.cut1 58 (sheetF s.data.toList).2.1).2.1).1 == 0) _ _ _ _ _ _ _ _ = _
      have k2 : (cellF (Pl.cut1 58 (sheetF s.data.toList).2.1).1).1 = 0 → (ca, ra, aca, ara) = (cellF (Pl.cut1 58 (sheetF s.data.toList).2.1).1).2 := k2
      have m2 : (cellF (Pl.cut1 58 (sheetF s.data.toList).2.1).2.1).1 = 0 → (cb, rb, acb, arb) = (cellF (Pl.cut1 58 (sheetF s.data.toList).2.1).2.1).2 := m2
      have xe := cellF_err (Pl.cut1 58 (sheetF s.data.toList).2.1).1
      have ye := cellF_err (Pl.cut1 58 (sheetF s.data.toList).2.1).2.1
      generalize cellF (Pl.cut1 58 (sheetF s.data.toList).2.1).1 = X at *
      generalize cellF (Pl.cut1 58 (sheetF s.data.toList).2.1).2.1 = Y at *
      generalize (Pl.cut1 58 (sheetF s.data.toList).2.1).2.2 = two
      obtain ⟨xe1, X2⟩ := X
      obtain ⟨ye1, Y2⟩ := Y
      dsimp only at *
      unfold refRangeRV
      cases two with
      | false => rfl
      | true =>
        rcases xe with rfl | rfl | rfl
        · have hk := k2 rfl
          subst hk
          rcases ye with rfl | rfl | rfl
          · have hm := m2 rfl
            subst hm
            rfl
          · rfl
          · rfl
        · rcases ye with rfl | rfl | rfl <;> rfl
        · rcases ye with rfl | rfl | rfl <;> rfl
  rw [e] at h
  exact h
end Go.Proofs.YtmicenegjfnbmaaGreatDoor
