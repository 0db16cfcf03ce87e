/- quirelaw11.LexBlanks where both texts have tokens. -/
import Derived.Test.YtegjainidiaeaaaGreatDoorLu
namespace Go.Proofs.YtegjainidiaeaaaGreatDoor
open Go.RowKit Go.Lib

theorem tokN {W : World} {o : Option Addr} {ts : List (Nat × Tok)} (h : Hid (ts ≠ [] → ∃ g, o = some ⟨g, 0, none⟩ ∧ CellsAt W g (cellsT ts))) (n : Nat) : Hid (ts ≠ [] → ∃ g, o = some ⟨g, 0, none⟩ ∧ CellsAt (W.drewN n) g (cellsT ts)) := fun hn => by
  obtain ⟨g, hg, hc⟩ := h.out hn
  exact ⟨g, hg, hc.below (below_drewN (Below.refl _ _) n)⟩

set_option maxRecDepth 100000 in
set_option maxHeartbeats 16000000 in
theorem blanks_walk (a b : ByteArray) (n : Nat) (ts us : List (Nat × Tok)) (w : World) (hn1 : 1 ≤ n) (hn9 : n ≤ 9) (hsum : a.size + b.size + n ≤ 512) (ht1 : ts.length ≤ 512) (ht2 : us.length ≤ 512)
    (hp : ∀ p ∈ us, p.1 ≤ 512)
    (C1 : Hid (∀ w, Glob w → Calls Tryz.prog 7 #[.string a] w fun e w' => ∃ v, e = .returned (.tuple #[v, .int .i64 0, .int .i64 0]) ∧ TokS w' v ts ∧ Below w.heap.size w w'))
    (C2 : Hid (∀ w, Glob w → Calls Tryz.prog 7 #[.string b] w fun e w' => ∃ v, e = .returned (.tuple #[v, .int .i64 0, .int .i64 0]) ∧ TokS w' v us ∧ Below w.heap.size w w'))
    (C3 : Hid (∀ s : ByteArray, s.data.toList = a.data.toList ++ List.replicate n 32 ++ b.data.toList → ∀ w, Glob w → Calls Tryz.prog 7 #[.string s] w fun e w' => ∃ v, e = .returned (.tuple #[v, .int .i64 0, .int .i64 0]) ∧ TokS w' v (ts ++ shiftTs (a.size + n) us) ∧ Below w.heap.size w w'))
    (CA : Hid (∀ w, Glob w → Calls Tryz.prog 9 #[] w (Q (.bool true) w))) (hg : Glob w) :
    Calls Tryz.prog 4 #[.string a, .string b, .int .i64 (n : Int)] w (Q (.bool true) w) := by
  have HG := Lib.hid hg
  have HP := Lib.hid hp
  have d1 : decide ((n : Int) < 1) = false := decide_eq_false (by omega)
  have d2 : decide (9 < (n : Int)) = false := decide_eq_false (by omega)
  have d3 : decide (512 < (a.size : Int) + b.size + n) = false := decide_eq_false (by omega)
  clear hg hp
  go_enter Tryz.func4, Tryz.ntmps4
  go_wp2_with fail
  refine (C1.out _ HG.out).mono ?_
  rintro e w1 ⟨v1, rfl, hT, hb⟩
  have HB := Lib.hid hb
  have T1 := Lib.hid hT
  clear hb hT
  go_wp2_with fail
  refine (C2.out _ (HG.out.below HB.out)).mono ?_
  rintro e w2 ⟨v2, rfl, hT, hb⟩
  replace T1 := Lib.hid (T1.out.below hb)
  have T2 := Lib.hid hT
  replace HB := Lib.hid (bt HB.out hb)
  clear hb hT
  go_wp2_with fail
  go_loopg [13, 14] n (fun gf v13 v14 wx => ∃ (i : Nat) (p : ByteArray), v14 = .int .i64 (i : Int) ∧ v13 = .string p ∧ i ≤ n ∧ n ≤ i + gf ∧ p.size = a.size + i ∧ Hid (p.data.toList = a.data.toList ++ List.replicate i 32) ∧ Hid (TokS wx v1 ts) ∧ Hid (TokS wx v2 us) ∧ Below w.heap.size w wx)
  case atStart => exact ⟨0, a, rfl, rfl, by omega, by omega, by omega, by show _ = _; simp, T1, T2, HB.out⟩
  case round =>
    obtain ⟨i, p, rfl, rfl, hi, hgf, hps, HPL, T1, T2, hbw⟩ := hrel
    replace HB := Lib.hid hbw
    clear hbw
    by_cases hlt : i < n
    · obtain ⟨g', rfl⟩ : ∃ g', gk = g' + 1 := ⟨gk - 1, by omega⟩
      have dl : decide ((i : Int) < n) = true := decide_eq_true (by omega)
      go_wp2_with fail
      go_roundg g'
      case measure => omega
      case rel => exact ⟨i + 1, p ++ ⟨#[32]⟩, by go_num, rfl, by omega, by omega, by rw [ByteArray.size_append, hps]; rfl, by
        show _ = _
        rw [ByteArray.data_append, Array.toList_append, HPL.out, List.replicate_succ', List.append_assoc], T1, T2, HB.out⟩
    · obtain rfl : i = n := by omega
      have dl : decide ((i : Int) < i) = false := decide_eq_false (by omega)
      have hpb : (p ++ b).data.toList = a.data.toList ++ List.replicate i 32 ++ b.data.toList := by
        rw [ByteArray.data_append, Array.toList_append, HPL.out]
      have C3' := Lib.hid (C3.out (p ++ b) hpb)
      clear hpb C3 HPL
      go_wp2_with fail
      refine (C3'.out _ (HG.out.below HB.out)).mono ?_
      rintro e w3 ⟨v3, rfl, hT, hb⟩
      have t1 := T1.out.below hb
      have t2 := T2.out.below hb
      replace HB := Lib.hid (bt HB.out hb)
      clear hb C3'
      have hlen : (ts ++ shiftTs (a.size + i) us).length = ts.length + us.length := by unfold shiftTs; rw [List.length_append, List.length_map]
      obtain ⟨o1, c1, rfl, h11, h12, h13⟩ := t1
      obtain ⟨o2, c2, rfl, h21, h22, h23⟩ := t2
      obtain ⟨o3, c3, hv3, h31, h32, h33⟩ := hT
      rw [hlen] at hv3 h31
      subst hv3
      have H1 := Lib.hid h13
      have H2 := Lib.hid h23
      have H3 := Lib.hid h33
      clear h13 h23 h33 T1 T2
      go_wp2_with fail
      refine (CA.out _ (HG.out.below HB.out)).mono ?_
      rintro e w4 ⟨rfl, hb⟩
      replace H1 : Hid (ts ≠ [] → ∃ g, o1 = some ⟨g, 0, none⟩ ∧ CellsAt w4 g (cellsT ts)) := fun h => by
        obtain ⟨g, hg, hc⟩ := H1.out h
        exact ⟨g, hg, hc.below hb⟩
      replace H2 : Hid (us ≠ [] → ∃ g, o2 = some ⟨g, 0, none⟩ ∧ CellsAt w4 g (cellsT us)) := fun h => by
        obtain ⟨g, hg, hc⟩ := H2.out h
        exact ⟨g, hg, hc.below hb⟩
      replace H3 : Hid (ts ++ shiftTs (a.size + i) us ≠ [] → ∃ g, o3 = some ⟨g, 0, none⟩ ∧ CellsAt w4 g (cellsT (ts ++ shiftTs (a.size + i) us))) := fun h => by
        obtain ⟨g, hg, hc⟩ := H3.out h
        exact ⟨g, hg, hc.below hb⟩
      replace HB := Lib.hid (bt HB.out hb)
      clear hb
      obtain ⟨l1, e1⟩ : ∃ l1, ts.length = l1 := ⟨_, rfl⟩
      obtain ⟨l2, e2⟩ : ∃ l2, us.length = l2 := ⟨_, rfl⟩
      rw [e1] at h11 h31 ht1 hlen ⊢
      rw [e2] at h21 h31 ht2 hlen ⊢
      have E1 := Lib.hid e1
      have E2 := Lib.hid e2
      clear e1 e2
      go_wp2_with fail
      go_loopg [18] (l1 + l2) (fun gf v18 wx => ∃ j : Nat, v18 = .int .i64 (j : Int) ∧ j ≤ l1 + l2 ∧ l1 + l2 ≤ j + gf ∧ Hid (ts ≠ [] → ∃ g, o1 = some ⟨g, 0, none⟩ ∧ CellsAt wx g (cellsT ts)) ∧ Hid (us ≠ [] → ∃ g, o2 = some ⟨g, 0, none⟩ ∧ CellsAt wx g (cellsT us)) ∧ Hid (ts ++ shiftTs (a.size + i) us ≠ [] → ∃ g, o3 = some ⟨g, 0, none⟩ ∧ CellsAt wx g (cellsT (ts ++ shiftTs (a.size + i) us))) ∧ Below w.heap.size w wx)
      case atStart => exact ⟨0, rfl, by omega, by omega, H1, H2, H3, HB.out⟩
      case round =>
        obtain ⟨j, rfl, hj, hgf2, H1, H2, H3, hbw⟩ := hrel
        replace HB := Lib.hid hbw
        clear hbw
        by_cases hjl : j < l1 + l2
        · obtain ⟨g', rfl⟩ : ∃ g', gk = g' + 1 := ⟨gk - 1, by omega⟩
          have dl : decide ((j : Int) < (l1 : Int) + l2) = true := decide_eq_true (by omega)
          have hlen' : (ts ++ shiftTs (a.size + i) us).length = l1 + l2 := hlen
          obtain ⟨g3, rfl, k3⟩ := H3.out (by rintro h; rw [h] at hlen'; simp at hlen'; omega)
          obtain ⟨⟨k, t⟩, hkt⟩ : ∃ p, (ts ++ shiftTs (a.size + i) us)[j]? = some p := ⟨_, List.getElem?_eq_getElem (by omega)⟩
          obtain ⟨S, hS⟩ : ∃ S : ByteArray, (⟨t.s.toArray⟩ : ByteArray) = S := ⟨_, rfl⟩
          obtain ⟨SH, hSH⟩ : ∃ S : ByteArray, (⟨t.r.1.toArray⟩ : ByteArray) = S := ⟨_, rfl⟩
          have K3 := Lib.hid k3
          have HKT := Lib.hid hkt
          have HS := Lib.hid hS
          have HSH := Lib.hid hSH
          clear k3 hkt hS hSH hlen'
          go_upto_region 16 with (fail)
          go_cut [19] (fun v19 wx => v19 = .pointer (some ⟨wr.heap.size, 0, none⟩) ∧ At wx wr.heap.size zero10.toList ∧ Below wr.heap.size wr wx)
          case first =>
            have z1 := (zero10_new wr).1
            have z2 := (zero10_new wr).2
            obtain ⟨W, hW⟩ : ∃ W, wr.alloc (.cells #[.int .i64 0, .int .i64 0, .string ⟨#[]⟩, .int .i64 0, .int .i64 0, .string ⟨#[]⟩, .int .i64 0, .int .i64 0, .bool false, .bool false] 34) = W := ⟨_, rfl⟩
            rw [hW] at z1 z2
            obtain ⟨p0, p1, p2, p3, p4, p5, p6, p7, p8, p9⟩ := z1.ten
            have pf := z1.fz
            have Z1 := Lib.hid z1
            have Z2 := Lib.hid z2
            clear z1 z2
            go_wp2_with fail
            go_meet
            exact ⟨rfl, ret10 Z1.out rfl Z2.out (Nat.le_refl _) _ _ _ _ _ _ _ _ _ _⟩
          case rest =>
            obtain ⟨rfl, r1, hb⟩ := hcut
            have HA := Lib.hid hb
            obtain ⟨p0, p1, p2, p3, p4, p5, p6, p7, p8, p9⟩ := r1.ten
            have pf := r1.fz
            have R1 := Lib.hid r1
            clear r1 hb
            go_upto_if 99 with (fail)
            go_cut [19] (fun v19 wx => v19 = .pointer (some ⟨wr.heap.size, 0, none⟩) ∧ At wx wr.heap.size [.int .i64 t.kind, .int .i64 (k : Int), .string S, .int .i64 t.c, .int .i64 t.e, .string SH, .int .i64 t.r.2.1, .int .i64 t.r.2.2.1, .bool t.r.2.2.2.1, .bool t.r.2.2.2.2] ∧ Below wr.heap.size wr wx)
            case first =>
              by_cases hj1 : j < l1
              · have dj : decide ((j : Int) < l1) = true := decide_eq_true (by omega)
                have htj : ts[j]? = some (k, t) := by
                  have := HKT.out
                  rw [List.getElem?_append_left (by rw [E1.out]; omega)] at this
                  exact this
                obtain ⟨g1, rfl, k1⟩ := H1.out (by rintro rfl; simp at htj)
                obtain ⟨q0, q1, q2, q3, q4, q5, q6, q7, q8, q9⟩ := tok_at (k1.below HA.out) htj HS.out HSH.out
                clear k1 htj
                have r1 := R1.out
                go_wp2_with fail
                go_meet
                exact ⟨rfl, ret10 r1 rfl HA.out (Nat.le_refl _) _ _ _ _ _ _ _ _ _ _⟩
              · obtain ⟨d, rfl⟩ : ∃ d, j = l1 + d := ⟨j - l1, by omega⟩
                have dj : decide (((l1 + d : Nat) : Int) < l1) = false := decide_eq_false (by omega)
                obtain ⟨k', hk, huj⟩ : ∃ k', k = k' + (a.size + i) ∧ us[d]? = some (k', t) := by
                  have := HKT.out
                  rw [List.getElem?_append_right (by rw [E1.out]; omega), E1.out, Nat.add_sub_cancel_left] at this
                  unfold shiftTs at this
                  rw [List.getElem?_map] at this
                  cases h : us[d]? with
                  | none => rw [h] at this; cases this
                  | some q =>
                    rw [h] at this
                    injection this with this
                    injection this with e1 e2
                    exact ⟨q.1, e1.symm, by rw [← e2]⟩
                have hk5 := HP.out _ (List.mem_of_getElem? huj)
                obtain ⟨g2, rfl, k2⟩ := H2.out (by rintro rfl; simp at huj)
                obtain ⟨q0, q1, q2, q3, q4, q5, q6, q7, q8, q9⟩ := tok_at (k2.below HA.out) huj HS.out HSH.out
                have HK := Lib.hid hk
                have r1 := R1.out
                have hd2 : ((l1 + d : Nat) : Int) - (l1 : Int) = (d : Int) := by omega
                clear k2 huj hk hj1
                go_upto_region 19 with (fail)
                go_cut [19] (fun v19 wx => v19 = .pointer (some ⟨wr.heap.size, 0, none⟩) ∧ At wx wr.heap.size [.int .i64 t.kind, .int .i64 (k' : Int), .string S, .int .i64 t.c, .int .i64 t.e, .string SH, .int .i64 t.r.2.1, .int .i64 t.r.2.2.1, .bool t.r.2.2.2.1, .bool t.r.2.2.2.2] ∧ Below wr.heap.size wr wx)
                case first =>
                  go_wp2_with fail
                  go_meet
                  exact ⟨rfl, ret10 r1 rfl HA.out (Nat.le_refl _) _ _ _ _ _ _ _ _ _ _⟩
                case rest =>
                  clear q0 q1 q2 q3 q4 q5 q6 q7 q8 q9 r1
                  clear p0 p1 p2 p3 p4 p5 p6 p7 p8 p9 pf
                  obtain ⟨rfl, r1, hb⟩ := hcut
                  obtain ⟨p0, p1, p2, p3, p4, p5, p6, p7, p8, p9⟩ := r1.ten
                  have pf := r1.fz
                  have Z1 := Lib.hid (r1.set 1 (by simp) (.int .i64 (k : Int)))
                  have Z2 := Lib.hid (hb.setCell (p := ⟨wr.heap.size, 1, none⟩) (Nat.le_refl _) (.int .i64 (k : Int)))
                  clear r1 hb
                  go_wp2_with fail
                  go_meet
                  rw [show ((k' : Int) + ((a.size : Int) + (i : Int))) = (k : Int) by have := HK.out; omega]
                  exact ⟨rfl, Z1.out, Z2.out⟩
            case rest =>
              clear p0 p1 p2 p3 p4 p5 p6 p7 p8 p9 pf
              obtain ⟨rfl, r1, hb⟩ := hcut
              replace HA := Lib.hid hb
              obtain ⟨p0, p1, p2, p3, p4, p5, p6, p7, p8, p9⟩ := r1.ten
              have pf := r1.fz
              obtain ⟨q0, q1, q2, q3, q4, q5, q6, q7, q8, q9⟩ := tok_at (K3.out.below HA.out) HKT.out HS.out HSH.out
              clear r1 hb
              replace HB := Lib.hid (bt HB.out HA.out)
              have M1 : Hid (ts ≠ [] → ∃ g, o1 = some ⟨g, 0, none⟩ ∧ CellsAt wc g (cellsT ts)) := fun h => by
                obtain ⟨g, hg, hc⟩ := H1.out h
                exact ⟨g, hg, hc.below HA.out⟩
              have M2 : Hid (us ≠ [] → ∃ g, o2 = some ⟨g, 0, none⟩ ∧ CellsAt wc g (cellsT us)) := fun h => by
                obtain ⟨g, hg, hc⟩ := H2.out h
                exact ⟨g, hg, hc.below HA.out⟩
              have M3 : Hid (ts ++ shiftTs (a.size + i) us ≠ [] → ∃ g, some ⟨g3, 0, none⟩ = some (⟨g, 0, none⟩ : Addr) ∧ CellsAt wc g (cellsT (ts ++ shiftTs (a.size + i) us))) := fun h => by
                obtain ⟨g, hg, hc⟩ := H3.out h
                exact ⟨g, hg, hc.below HA.out⟩
              clear H1 H2 H3 R1
              go_wp2_with fail
              go_quiet (fail)
              go_wp2_with fail
              go_roundg g'
              case measure => omega
              case rel => exact ⟨j + 1, by go_num, by omega, by omega, tokN M1 _, tokN M2 _, tokN M3 _, below_drewN HB.out _⟩
        · obtain rfl : j = l1 + l2 := by omega
          have dl : decide (((l1 + l2 : Nat) : Int) < (l1 : Int) + l2) = false := decide_eq_false (by omega)
          go_wp2_with fail
          go_ret
          exact ⟨rfl, HB.out⟩
end Go.Proofs.YtegjainidiaeaaaGreatDoor
