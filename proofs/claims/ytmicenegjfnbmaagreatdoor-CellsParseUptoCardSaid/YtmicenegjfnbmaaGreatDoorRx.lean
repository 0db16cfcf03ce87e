/- The document's cell: a reference without a sheet. -/
import Derived.Test.YtmicenegjfnbmaaGreatDoorRp
import Derived.Test.YtmicenegjfnbmaaGreatDoorBk
import Derived.Test.YtmicenegjfnbmaaGreatDoorCp
import Derived.Deep.DeepCutAuto
import Derived.BigRegion
namespace Go.Proofs.YtmicenegjfnbmaaGreatDoor
open Go.RowKit Go.Lib

/-- Both references of cell in memory: what it will hand back, and what it fills. -/
structure CellMem (w wx : World) (c r : Int) (ac ar : Bool) : Prop where
  res : RefAt wx w.heap.size ⟨#[]⟩ 0 0 false false
  own : RefAt wx (w.heap.size + 1) ⟨#[]⟩ c r ac ar
  bel : Below w.heap.size w wx
theorem CellMem.below {w wx w' : World} {c r : Int} {ac ar : Bool} (h : CellMem w wx c r ac ar) (hb : Below wx.heap.size wx w') : CellMem w w' c r ac ar := ⟨h.res.below hb, h.own.below hb, bt h.bel hb⟩
theorem CellMem.col {w wx : World} {c r : Int} {ac ar : Bool} (h : CellMem w wx c r ac ar) (x : Int) : CellMem w (wx.setCell ⟨w.heap.size + 1, 1, none⟩ (.int .i64 x)) x r ac ar :=
  ⟨h.res.other _ _ (by show w.heap.size ≠ w.heap.size + 1; omega), h.own.set1 x, h.bel.setCell (p := ⟨w.heap.size + 1, 1, none⟩) (Nat.le_succ _) _⟩
theorem CellMem.row {w wx : World} {c r : Int} {ac ar : Bool} (h : CellMem w wx c r ac ar) (x : Int) : CellMem w (wx.setCell ⟨w.heap.size + 1, 2, none⟩ (.int .i64 x)) c x ac ar :=
  ⟨h.res.other _ _ (by show w.heap.size ≠ w.heap.size + 1; omega), h.own.set2 x, h.bel.setCell (p := ⟨w.heap.size + 1, 2, none⟩) (Nat.le_succ _) _⟩
theorem CellMem.fixCol {w wx : World} {c r : Int} {ac ar : Bool} (h : CellMem w wx c r ac ar) (x : Bool) : CellMem w (wx.setCell ⟨w.heap.size + 1, 3, none⟩ (.bool x)) c r x ar :=
  ⟨h.res.other _ _ (by show w.heap.size ≠ w.heap.size + 1; omega), h.own.set3 x, h.bel.setCell (p := ⟨w.heap.size + 1, 3, none⟩) (Nat.le_succ _) _⟩
theorem CellMem.fixRow {w wx : World} {c r : Int} {ac ar : Bool} (h : CellMem w wx c r ac ar) (x : Bool) : CellMem w (wx.setCell ⟨w.heap.size + 1, 4, none⟩ (.bool x)) c r ac x :=
  ⟨h.res.other _ _ (by show w.heap.size ≠ w.heap.size + 1; omega), h.own.set4 x, h.bel.setCell (p := ⟨w.heap.size + 1, 4, none⟩) (Nat.le_succ _) _⟩
theorem CellMem.drewN {w wx : World} {c r : Int} {ac ar : Bool} (h : CellMem w wx c r ac ar) (n : Nat) : CellMem w (wx.drewN n) c r ac ar := h.below (below_drewN (Below.refl _ _) n)

/-- A sign that may stand at k. -/
def DollarAt (s : ByteArray) (k : Nat) (b : Bool) : Prop := (b = true → ∃ h : k < s.size, (s[k]'h).toNat = 36) ∧ (b = false → ∀ h : k < s.size, (s[k]'h).toNat ≠ 36)
def EndsAt (p : UInt8 → Bool) (s : ByteArray) (i k : Nat) : Prop := i ≤ k ∧ k ≤ s.size ∧ (∀ j, (h : j < s.size) → i ≤ j → j < k → p (s[j]'h) = true) ∧ ∀ h : k < s.size, p (s[k]'h) = false
def BadIs (s : ByteArray) (n0 a1 n2 e : Nat) (bad : Bool) : Prop :=
  (a1 ≤ n0 → bad = true) ∧ (n0 + 3 < a1 → bad = true) ∧ (e ≤ n2 → bad = true) ∧ (n2 + 7 < e → bad = true) ∧ (∀ h : n2 < s.size, (s[n2]'h).toNat = 48 → bad = true) ∧ (e < s.size → bad = true) ∧
  (n0 < a1 → a1 ≤ n0 + 3 → n2 < e → e ≤ n2 + 7 → (∀ h : n2 < s.size, (s[n2]'h).toNat ≠ 48) → e = s.size → bad = false)
/-- The row: of the first seven digits. -/
def rowAt (l : List UInt8) (k : Nat) : Int := num ((l.take k).take 7)
theorem rowAt_low (l : List UInt8) (k : Nat) (hk : k < l.length) (h7 : k < 7) (hd : Pl.digit l[k] = true) : rowAt l (k + 1) = 10 * rowAt l k + ((l[k].toNat : Int) - 48) := by
  unfold rowAt
  have e1 : (l.take (k + 1)).take 7 = l.take k ++ [l[k]] := by
    rw [List.take_take, Nat.min_eq_right (by omega)]
    simp
  have e2 : (l.take k).take 7 = l.take k := by rw [List.take_take, Nat.min_eq_right (by omega)]
  rw [e1, e2, num_snoc]
  rw [digit_iff] at hd
  omega
theorem rowAt_high (l : List UInt8) (k : Nat) (h7 : 7 ≤ k) : rowAt l (k + 1) = rowAt l k := by
  unfold rowAt
  rw [List.take_take, List.take_take, Nat.min_eq_left (by omega), Nat.min_eq_left (by omega)]
theorem rowAt_le (l : List UInt8) (k : Nat) (h : (l.take k).all Pl.digit = true) : 0 ≤ rowAt l k ∧ rowAt l k ≤ 10000000 ∧ (k < 7 → rowAt l k ≤ 1000000) := by
  unfold rowAt
  have h7 : ((l.take k).take 7).all Pl.digit = true := by
    rw [List.all_eq_true] at h ⊢
    exact fun x hx => h x (List.mem_of_mem_take hx)
  have := num_lt _ h7
  have hl : ((l.take k).take 7).length ≤ 7 := List.length_take_le _ _
  have hp : 10 ^ ((l.take k).take 7).length ≤ 10 ^ 7 := Nat.pow_le_pow_right (by decide) hl
  have e7 : (10 : Nat) ^ 7 = 10000000 := by decide
  refine ⟨by omega, by omega, fun hk => ?_⟩
  have hl : ((l.take k).take 7).length ≤ 6 := by
    have := List.length_take_le 7 (l.take k)
    have := List.length_take_le k l
    have : ((l.take k).take 7).length ≤ (l.take k).length := List.length_take_le' _ _
    omega
  have hp : 10 ^ ((l.take k).take 7).length ≤ 10 ^ 6 := Nat.pow_le_pow_right (by decide) hl
  have e6 : (10 : Nat) ^ 6 = 1000000 := by decide
  omega

def cellRV (bad : Bool) (cc row : Int) (ac ar cis : Bool) : Value :=
  if bad then .tuple #[refV ⟨#[]⟩ 0 0 false false, .bool false, .bool false] else .tuple #[refV ⟨#[]⟩ cc row ac ar, .bool true, .bool (cis && decide (row ≤ 512))]

set_option maxRecDepth 100000 in
set_option maxHeartbeats 8000000 in
theorem refCell_core (s : ByteArray) (w : World) (hs : s.size ≤ 4294967280) (ac ar : Bool) (n0 a1 n2 e : Nat) (h0 : n0 = if ac then 1 else 0) (H0 : Hid (DollarAt s 0 ac)) (H1 : Hid (EndsAt Pl.capital s n0 a1)) (h2 : n2 = a1 + if ar then 1 else 0) (H2 : Hid (DollarAt s a1 ar)) (H3 : Hid (EndsAt Pl.digit s n2 e)) (lt : ByteArray) (HLT : Hid (lt = s.extract n0 a1)) (bad : Bool) (HBad : Hid (BadIs s n0 a1 n2 e bad)) (cc : Int) (cis : Bool)
    (C5 : Hid (∀ w, Calls Tryz.prog 7 #[.string lt] w (Q (.tuple #[.int .i64 cc, .bool cis]) w))) (V : Value)
    (HV : Hid (V = cellRV bad cc (rowAt (s.data.toList.drop n2) (e - n2)) ac ar cis)) :
    Calls Tryz.prog 45 #[.string s] w (Q V w) := by
  have HW := Lib.hid (CellMem.mk (W2_a ⟨#[]⟩ 0 0 false false ⟨#[]⟩ 0 0 false false w) (W2_b ⟨#[]⟩ 0 0 false false ⟨#[]⟩ 0 0 false false w) (W2_below ⟨#[]⟩ 0 0 false false ⟨#[]⟩ 0 0 false false w))
  unfold W2 at HW
  have E0 := Lib.hid h0
  have E2 := Lib.hid h2
  clear h0 h2
  go_enter Tryz.func45, Tryz.ntmps45
  go_upto_region 3 with (fail)
  obtain ⟨W, hW⟩ : ∃ W, (w.alloc (.cells #[.string ⟨#[]⟩, .int .i64 0, .int .i64 0, .bool false, .bool false] 23)).alloc (.cells #[.string ⟨#[]⟩, .int .i64 0, .int .i64 0, .bool false, .bool false] 23) = W := ⟨_, rfl⟩
  rw [hW] at HW ⊢
  clear hW
  go_cut [21] (fun v21 wx => v21 = .bool ac ∧ CellMem w wx 0 0 false false)
  case first =>
    by_cases hz : 0 < s.size
    · cases ac with
      | true =>
        obtain ⟨_, hd⟩ := H0.out.1 rfl
        have d1 : (((s[0]'hz).toNat : Int) == 36) = true := by rw [beq_iff_eq]; omega
        clear hd
        go_wp2_with fail
        go_meet
        exact ⟨rfl, HW.out⟩
      | false =>
        have hd := H0.out.2 rfl hz
        have d1 : (((s[0]'hz).toNat : Int) == 36) = false := by rw [beq_eq_false_iff_ne]; omega
        clear hd
        go_wp2_with fail
        go_meet
        exact ⟨rfl, HW.out⟩
    · have hac : ac = false := by
        cases ac with
        | true => exact absurd (H0.out.1 rfl).1 hz
        | false => rfl
      subst hac
      have dz : decide (0 < (s.size : Int)) = false := by rw [decide_eq_false_iff_not]; omega
      go_wp2_with fail
      go_meet
      exact ⟨rfl, HW.out⟩
  case rest =>
    obtain ⟨rfl, hM⟩ := hcut
    have HM := Lib.hid hM
    clear hM HW
    go_upto_if 21 with (fail)
    go_cut [6] (fun v6 wx => v6 = .int .i64 (n0 : Int) ∧ CellMem w wx 0 0 ac false)
    case first =>
      obtain ⟨p0, p1, p2, p3, p4, pf, pl⟩ := HM.out.own
      have e0 := E0.out
      cases ac with
      | true =>
        have e0' : n0 = 1 := e0
        clear e0
        go_wp2_with fail
        go_meet
        exact ⟨by rw [e0']; rfl, HM.out.fixCol true⟩
      | false =>
        have e0' : n0 = 0 := e0
        clear e0
        go_wp2_with fail
        go_meet
        exact ⟨by rw [e0']; rfl, HM.out⟩
    case rest =>
      obtain ⟨rfl, hM⟩ := hcut
      have HM := Lib.hid hM
      clear hM
      go_upto_block 0 with (fail)
      go_cut [6] (fun v6 wx => v6 = .int .i64 (a1 : Int) ∧ CellMem w wx 0 0 ac false)
      case first =>
        obtain ⟨f1, f2, f3, f4⟩ := H1.out
        have F3 := Lib.hid f3
        have F4 := Lib.hid f4
        clear f3 f4
        go_wp2_with fail
        go_loopg [6] s.size (fun gf v6 wx => ∃ k : Nat, n0 ≤ k ∧ k ≤ a1 ∧ a1 ≤ k + gf ∧ v6 = .int .i64 (k : Int) ∧ wc = wx)
        case atStart => exact ⟨n0, Nat.le_refl _, f1, by omega, rfl, rfl⟩
        case round =>
          obtain ⟨k, k1, k2, k3, rfl, rfl⟩ := hrel
          by_cases hlt : k < a1
          · obtain ⟨g', rfl⟩ : ∃ g', gk = g' + 1 := ⟨gk - 1, by omega⟩
            have hz : k < s.size := by omega
            have hcp := F3.out k hz k1 hlt
            rw [capital_iff] at hcp
            have d1 : decide (65 ≤ ((s[k]'hz).toNat : Int)) = true := by rw [decide_eq_true_eq]; omega
            have d2 : decide (((s[k]'hz).toNat : Int) ≤ 90) = true := by rw [decide_eq_true_eq]; omega
            clear hcp
            go_wp2_with fail
            go_roundg g'
            case measure => omega
            case rel => exact ⟨k + 1, by omega, by omega, by omega, by go_num, rfl⟩
          · obtain rfl : k = a1 := by omega
            by_cases hz : k < s.size
            · have hcp := F4.out hz
              by_cases c1 : 65 ≤ (s[k]'hz).toNat
              · have c2 : 90 < (s[k]'hz).toNat := by
                  rcases Nat.lt_or_ge 90 (s[k]'hz).toNat with h | h
                  · exact h
                  · rw [(capital_iff _).2 ⟨c1, h⟩] at hcp; cases hcp
                have d1 : decide (65 ≤ ((s[k]'hz).toNat : Int)) = true := by rw [decide_eq_true_eq]; omega
                have d2 : decide (((s[k]'hz).toNat : Int) ≤ 90) = false := by rw [decide_eq_false_iff_not]; omega
                clear hcp c1 c2
                go_wp2_with fail
                go_meet
                exact ⟨rfl, HM.out⟩
              · have d1 : decide (65 ≤ ((s[k]'hz).toNat : Int)) = false := by rw [decide_eq_false_iff_not]; omega
                clear hcp c1
                go_wp2_with fail
                go_meet
                exact ⟨rfl, HM.out⟩
            · have dk : decide (k < s.size) = false := by rw [decide_eq_false_iff_not]; exact hz
              go_wp2_with fail
              go_meet
              exact ⟨rfl, HM.out⟩
      case rest =>
        obtain ⟨rfl, hM⟩ := hcut
        have HM := Lib.hid hM
        clear hM
        obtain ⟨f1, f2, f3, f4⟩ := H1.out
        clear f3 f4
        go_upto_region 9 with (fail)
        go_cut [8] (fun v8 wx => v8 = .string lt ∧ wc = wx)
        case first =>
          go_wp2_with fail
          go_meet
          exact ⟨by rw [HLT.out], rfl⟩
        case rest =>
        obtain ⟨rfl, rfl⟩ := hcut
        go_upto_region 10 with (fail)
        go_cut [57] (fun v57 wx => v57 = .bool ar ∧ wc = wx)
        case first =>
          by_cases hz : a1 < s.size
          · cases ar with
            | true =>
              obtain ⟨_, hd⟩ := H2.out.1 rfl
              have d1 : (((s[a1]'hz).toNat : Int) == 36) = true := by rw [beq_iff_eq]; omega
              clear hd
              go_wp2_with fail
              go_meet
              exact ⟨rfl, rfl⟩
            | false =>
              have hd := H2.out.2 rfl hz
              have d1 : (((s[a1]'hz).toNat : Int) == 36) = false := by rw [beq_eq_false_iff_ne]; omega
              clear hd
              go_wp2_with fail
              go_meet
              exact ⟨rfl, rfl⟩
          · have har : ar = false := by
              cases ar with
              | true => exact absurd (H2.out.1 rfl).1 hz
              | false => rfl
            subst har
            have dz : decide (a1 < s.size) = false := by rw [decide_eq_false_iff_not]; exact hz
            go_wp2_with fail
            go_meet
            exact ⟨rfl, rfl⟩
        case rest =>
          obtain ⟨rfl, rfl⟩ := hcut
          go_upto_if 57 with (fail)
          go_cut [6] (fun v6 wx => v6 = .int .i64 (n2 : Int) ∧ CellMem w wx 0 0 ac ar)
          case first =>
            obtain ⟨p0, p1, p2, p3, p4, pf, pl⟩ := HM.out.own
            have e0 := E2.out
            cases ar with
            | true =>
              have e0' : n2 = a1 + 1 := e0
              have HE := Lib.hid e0'
              clear e0 e0'
              go_wp2_with fail
              go_meet
              exact ⟨by rw [HE.out]; rfl, HM.out.fixRow true⟩
            | false =>
              have e0' : n2 = a1 := e0
              have HE := Lib.hid e0'
              clear e0 e0'
              go_wp2_with fail
              go_meet
              exact ⟨by rw [HE.out], HM.out⟩
          case rest =>
            obtain ⟨rfl, hM⟩ := hcut
            have HM2 := Lib.hid hM
            clear hM HM
            go_upto_block 2 with (fail)
            go_cut [6] (fun v6 wx => v6 = .int .i64 (e : Int) ∧ CellMem w wx 0 (rowAt (s.data.toList.drop n2) (e - n2)) ac ar)
            case first =>
              obtain ⟨g1, g2, g3, g4⟩ := H3.out
              have G3 := Lib.hid g3
              have G4 := Lib.hid g4
              clear g3 g4
              go_wp2_with fail
              go_loopg [6] s.size (fun gf v6 wx => ∃ k : Nat, n2 ≤ k ∧ k ≤ e ∧ e ≤ k + gf ∧ v6 = .int .i64 (k : Int) ∧ Hid (CellMem w wx 0 (rowAt (s.data.toList.drop n2) (k - n2)) ac ar))
              case atStart => exact ⟨n2, Nat.le_refl _, g1, by omega, rfl, by show CellMem _ _ _ _ _ _; rw [Nat.sub_self]; exact HM2.out⟩
              case round =>
                obtain ⟨k, k1, k2, k3, rfl, HK⟩ := hrel
                by_cases hlt : k < e
                · obtain ⟨g', rfl⟩ : ∃ g', gk = g' + 1 := ⟨gk - 1, by omega⟩
                  have hz : k < s.size := by omega
                  have hdg := G3.out k hz k1 hlt
                  have cd := fun w => refDigit_any (s[k]'hz) w
                  rw [hdg] at cd
                  have CD := Lib.hid cd
                  clear cd
                  have hkl : k - n2 < (s.data.toList.drop n2).length := by rw [List.length_drop]; show k - n2 < s.size - n2; omega
                  have hel : (s.data.toList.drop n2)[k - n2]'hkl = s[k]'hz := by
                    rw [List.getElem_drop]
                    have : n2 + (k - n2) = k := by omega
                    simp only [this]; rfl
                  have hall : ((s.data.toList.drop n2).take (k - n2)).all Pl.digit = true := by
                    rw [List.all_eq_true]
                    intro x hx
                    obtain ⟨j, hj, rfl⟩ := List.getElem_of_mem hx
                    rw [List.length_take, List.length_drop] at hj
                    have hj2 : n2 + j < s.size := by
                      have : s.data.toList.length = s.size := rfl
                      omega
                    have := G3.out (n2 + j) hj2 (by omega) (by omega)
                    rw [List.getElem_take, List.getElem_drop]
                    exact this
                  obtain ⟨b1, b2, b3⟩ := rowAt_le _ _ hall
                  by_cases h7 : k - n2 < 7
                  · have hrow := rowAt_low _ _ hkl h7 (by rw [hel]; exact hdg)
                    rw [hel] at hrow
                    have b4 := b3 h7
                    clear b3
                    have hsub : k + 1 - n2 = k - n2 + 1 := by omega
                    rw [← hsub] at hrow
                    have HRow := Lib.hid hrow
                    have HK' := Lib.hid (rfl : rowAt (s.data.toList.drop n2) (k - n2) = _)
                    clear hrow hsub hall hel
                    generalize rowAt (s.data.toList.drop n2) (k - n2) = r0 at *
                    rw [digit_iff] at hdg
                    obtain ⟨t1, t2⟩ := hdg
                    have d7 : decide ((k : Int) - (n2 : Int) < 7) = true := by rw [decide_eq_true_eq]; omega
                    go_wp2_with fail
                    refine (CD.out _).mono ?_
                    rintro e' w1 ⟨rfl, hb⟩
                    have HK1 := Lib.hid (HK.out.below hb)
                    clear hb CD
                    obtain ⟨p0, p1, p2, p3, p4, pf, pl⟩ := HK1.out.own
                    go_wp2_with fail
                    go_region
                    go_wp2
                    go_roundg g'
                    case measure => omega
                    case rel =>
                      refine ⟨k + 1, by omega, by omega, by omega, by go_num, ?_⟩
                      show CellMem _ _ _ _ _ _
                      rw [HRow.out, show 10 * r0 + (((s[k]'hz).toNat : Int) - 48) = r0 * 10 + (((s[k]'hz).toNat : Int) - 48) by omega]
                      exact (HK1.out.row (r0 * 10 + (((s[k]'hz).toNat : Int) - 48))).drewN 1
                  · have hrow := rowAt_high (s.data.toList.drop n2) (k - n2) (by omega)
                    have hsub : k + 1 - n2 = k - n2 + 1 := by omega
                    rw [← hsub] at hrow
                    have HRow := Lib.hid hrow
                    clear hrow hsub hall hel b1 b2 b3 hdg
                    have d7 : decide ((k : Int) - (n2 : Int) < 7) = false := by rw [decide_eq_false_iff_not]; omega
                    go_wp2_with fail
                    refine (CD.out _).mono ?_
                    rintro e' w1 ⟨rfl, hb⟩
                    have HK1 := Lib.hid (HK.out.below hb)
                    clear hb CD
                    go_wp2_with fail
                    go_roundg g'
                    case measure => omega
                    case rel =>
                      refine ⟨k + 1, by omega, by omega, by omega, by go_num, ?_⟩
                      show CellMem _ _ _ _ _ _
                      rw [HRow.out]
                      exact HK1.out
                · obtain rfl : k = e := by omega
                  by_cases hz : k < s.size
                  · have cd := fun w => refDigit_any (s[k]'hz) w
                    rw [G4.out hz] at cd
                    have CD := Lib.hid cd
                    clear cd
                    go_wp2_with fail
                    refine (CD.out _).mono ?_
                    rintro e' w1 ⟨rfl, hb⟩
                    have HK1 := Lib.hid (HK.out.below hb)
                    clear hb CD
                    go_wp2_with fail
                    go_meet
                    exact ⟨rfl, HK1.out⟩
                  · have dk : decide (k < s.size) = false := by rw [decide_eq_false_iff_not]; exact hz
                    go_wp2_with fail
                    go_meet
                    exact ⟨rfl, HK.out⟩
            case rest =>
              obtain ⟨rfl, hM⟩ := hcut
              have HM3 := Lib.hid hM
              clear hM HM2
              obtain ⟨g1, g2, g3, g4⟩ := H3.out
              clear g3 g4
              have hll : lt.size = a1 - n0 := by rw [HLT.out, ByteArray.size_extract]; omega
              obtain ⟨x1, x2, x3, x4, x5, x6, x7⟩ := HBad.out
              have X1 := Lib.hid x1
              have X2 := Lib.hid x2
              have X3 := Lib.hid x3
              have X4 := Lib.hid x4
              have X5 := Lib.hid x5
              have X6 := Lib.hid x6
              have X7 := Lib.hid x7
              clear x1 x2 x3 x4 x5 x6 x7
              go_upto_region 19 with (fail)
              go_cut [118] (fun v118 wx => v118 = .bool bad ∧ wc = wx)
              case first =>
                by_cases c1 : a1 ≤ n0
                · obtain rfl := X1.out c1
                  have d1 : decide ((lt.size : Int) < 1) = true := by rw [decide_eq_true_eq]; omega
                  clear hll c1
                  go_wp2_with fail
                  go_meet
                  exact ⟨rfl, rfl⟩
                have d1 : decide ((lt.size : Int) < 1) = false := by rw [decide_eq_false_iff_not]; omega
                by_cases c2 : n0 + 3 < a1
                · obtain rfl := X2.out c2
                  have d2 : decide (3 < (lt.size : Int)) = true := by rw [decide_eq_true_eq]; omega
                  clear hll c1 c2
                  go_wp2_with fail
                  go_meet
                  exact ⟨rfl, rfl⟩
                have d2 : decide (3 < (lt.size : Int)) = false := by rw [decide_eq_false_iff_not]; omega
                by_cases c3 : e ≤ n2
                · obtain rfl := X3.out c3
                  have d3 : decide ((e : Int) - (n2 : Int) < 1) = true := by rw [decide_eq_true_eq]; omega
                  clear hll c1 c2 c3
                  go_wp2_with fail
                  go_meet
                  exact ⟨rfl, rfl⟩
                have d3 : decide ((e : Int) - (n2 : Int) < 1) = false := by rw [decide_eq_false_iff_not]; omega
                by_cases c4 : n2 + 7 < e
                · obtain rfl := X4.out c4
                  have d4 : decide (7 < (e : Int) - (n2 : Int)) = true := by rw [decide_eq_true_eq]; omega
                  clear hll c1 c2 c3 c4
                  go_wp2_with fail
                  go_meet
                  exact ⟨rfl, rfl⟩
                have d4 : decide (7 < (e : Int) - (n2 : Int)) = false := by rw [decide_eq_false_iff_not]; omega
                have hz : n2 < s.size := by omega
                by_cases c5 : (s[n2]'hz).toNat = 48
                · obtain rfl := X5.out hz c5
                  have d5 : (((s[n2]'hz).toNat : Int) == 48) = true := by rw [beq_iff_eq]; omega
                  clear hll c1 c2 c3 c4 c5
                  go_wp2_with fail
                  go_meet
                  exact ⟨rfl, rfl⟩
                have d5 : (((s[n2]'hz).toNat : Int) == 48) = false := by rw [beq_eq_false_iff_ne]; omega
                by_cases c6 : e < s.size
                · obtain rfl := X6.out c6
                  have d6 : decide (e < s.size) = true := by rw [decide_eq_true_eq]; exact c6
                  clear hll c1 c2 c3 c4 c5
                  go_wp2_with fail
                  go_meet
                  exact ⟨rfl, rfl⟩
                · obtain rfl := X7.out (by omega) (by omega) (by omega) (by omega) (fun _ => c5) (by omega)
                  have d6 : decide (e < s.size) = false := by rw [decide_eq_false_iff_not]; exact c6
                  clear hll c1 c2 c3 c4 c5
                  go_wp2_with fail
                  go_meet
                  exact ⟨rfl, rfl⟩
              case rest =>
                obtain ⟨rfl, rfl⟩ := hcut
                clear hll X1 X2 X3 X4 X5 X6 X7
                generalize rowAt (s.data.toList.drop n2) (e - n2) = row at *
                cases bad with
                | true =>
                  have HV' : Hid (V = .tuple #[refV ⟨#[]⟩ 0 0 false false, .bool false, .bool false]) := HV.out
                  clear HV
                  obtain ⟨p0, p1, p2, p3, p4, pf, pl⟩ := HM3.out.res
                  go_wp2_with fail
                  obtain ⟨t0, t1, t2, t3, t4, _, _⟩ := HM3.out.res.set5 ⟨#[]⟩ 0 0 false false
                  rw [HV'.out]
                  exact bodyPost_ret (v := .tuple #[refV ⟨#[]⟩ 0 0 false false, .bool false, .bool false]) (by simp [results, Tryz.results45, go_sem, t0, t1, t2, t3, t4]) rfl ⟨rfl, below_set5 HM3.out.bel (Nat.le_refl _) _ _ _ _ _⟩
                | false =>
                  have HV' : Hid (V = .tuple #[refV ⟨#[]⟩ cc row ac ar, .bool true, .bool (cis && decide (row ≤ 512))]) := HV.out
                  clear HV
                  go_wp2_with fail
                  refine (C5.out _).mono ?_
                  rintro e' w1 ⟨rfl, hb⟩
                  have HM4 := Lib.hid (HM3.out.below hb)
                  clear hb HM3 C5
                  obtain ⟨p0, p1, p2, p3, p4, pf, pl⟩ := HM4.out.own
                  go_wp2_with fail
                  clear p0 p1 p2 p3 p4 pf pl
                  obtain ⟨W5, hW5⟩ : ∃ W5, w1.setCell ⟨w.heap.size + 1, 1, none⟩ (.int .i64 cc) = W5 := ⟨_, rfl⟩
                  have hm5 := HM4.out.col cc
                  rw [hW5] at hm5 ⊢
                  clear hW5
                  have HM5 := Lib.hid hm5
                  clear hm5 HM4
                  obtain ⟨p0, p1, p2, p3, p4, pf, pl⟩ := HM5.out.own
                  obtain ⟨q0, q1, q2, q3, q4, qf, ql⟩ := HM5.out.res
                  have hne : ¬ w.heap.size = w.heap.size + 1 := by omega
                  cases cis with
                  | false =>
                    go_region
                    go_wp2_with fail
                    obtain ⟨t0, t1, t2, t3, t4, _, _⟩ := (HM5.out.res.set5 ⟨#[]⟩ cc row ac ar).drew
                    rw [HV'.out]
                    exact bodyPost_ret (v := .tuple #[refV ⟨#[]⟩ cc row ac ar, .bool true, .bool false]) (by simp [results, Tryz.results45, go_sem, t0, t1, t2, t3, t4]) rfl ⟨rfl, Below.drew (below_set5 HM5.out.bel (Nat.le_refl _) _ _ _ _ _)⟩
                  | true =>
                    cases hr : decide (row ≤ 512) with
                    | true =>
                      rw [hr] at HV'
                      go_region
                      go_wp2_with fail
                      obtain ⟨t0, t1, t2, t3, t4, _, _⟩ := (HM5.out.res.set5 ⟨#[]⟩ cc row ac ar).drew
                      rw [HV'.out]
                      exact bodyPost_ret (v := .tuple #[refV ⟨#[]⟩ cc row ac ar, .bool true, .bool true]) (by simp [results, Tryz.results45, go_sem, t0, t1, t2, t3, t4]) rfl ⟨rfl, Below.drew (below_set5 HM5.out.bel (Nat.le_refl _) _ _ _ _ _)⟩
                    | false =>
                      rw [hr] at HV'
                      go_region
                      go_wp2_with fail
                      obtain ⟨t0, t1, t2, t3, t4, _, _⟩ := (HM5.out.res.set5 ⟨#[]⟩ cc row ac ar).drew
                      rw [HV'.out]
                      exact bodyPost_ret (v := .tuple #[refV ⟨#[]⟩ cc row ac ar, .bool true, .bool false]) (by simp [results, Tryz.results45, go_sem, t0, t1, t2, t3, t4]) rfl ⟨rfl, Below.drew (below_set5 HM5.out.bel (Nat.le_refl _) _ _ _ _ _)⟩
end Go.Proofs.YtmicenegjfnbmaaGreatDoor
