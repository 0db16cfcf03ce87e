/- Package dec: Parse's walk. -/
import Derived.Test.YtfkiomjplpbmiaaGreatDoorM10
namespace Go.Proofs.YtfkiomjplpbmiaaGreatDoor
open Go.RowKit Go.Lib Go.Shelf
attribute [local go_sem] Oper.semAt_some

set_option maxRecDepth 100000 in
set_option maxHeartbeats 16000000 in
theorem parse_walk (l : List UInt8) (w : World) (hl : l.length ≤ 512) (V : Value) (hV : V = .tuple #[.agg #[.int .i64 (decF l).2.1, .int .i64 (decF l).2.2], .int .i64 (decF l).1]) :
    Calls Tryz.prog 45 #[.string (bs l)] w (Q V w) := by
  have HV := Lib.hid hV
  clear hV
  have a1 := At.new w #[.int .i64 0, .int .i64 0] 30
  have hb1 : Below w.heap.size w (w.alloc (.cells #[.int .i64 0, .int .i64 0] 30)) := (Below.refl _ _).alloc (Nat.le_refl _) _
  have a2 := a1.alloc (.cells #[.string (bs l)] 118)
  have a3 := At.new (w.alloc (.cells #[.int .i64 0, .int .i64 0] 30)) #[.string (bs l)] 118
  have hb3 := hb1.alloc hb1.size (.cells #[.string (bs l)] 118)
  have hz : (w.alloc (.cells #[.int .i64 0, .int .i64 0] 30)).heap.size = w.heap.size + 1 := by simp
  rw [hz] at a3
  have hzz : w.heap.size + 2 ≤ ((w.alloc (.cells #[.int .i64 0, .int .i64 0] 30)).alloc (.cells #[.string (bs l)] 118)).heap.size := by simp
  have A2 := Lib.hid a2
  have A3 := Lib.hid a3
  have HB := Lib.hid hb3
  have HZ := Lib.hid hzz
  clear a1 a2 a3 hb1 hb3 hz hzz
  have hsz : (bs l).size = l.length := size_mk l
  let HBP : Exit → Act → World → Prop := bodyPost Tryz.prog Tryz.f45 (Q V w)
  refine (callsIn_wide (n := 6)).1 ?_
  refine callsIn_of_wp_marks Tryz.func45 rfl trivial ?_
  simp only [Tryz.ntmps45, List.size_toArray, List.length_cons, List.length_nil, Nat.reduceAdd, Nat.reduceSub, Array.replicate_succ, Array.replicate_zero, List.push_toArray, List.append_toArray, List.nil_append, List.cons_append]
  refine wpIn_wide.2 ?_
  go_upto_region 1 with (fail)
  go_cut [2, 4] (fun v2 v4 wx => v2 = .pointer (some ⟨w.heap.size, 0, none⟩) ∧ v4 = .pointer (some ⟨w.heap.size + 1, 0, none⟩) ∧ At wx w.heap.size [.int .i64 0, .int .i64 0] ∧ At wx (w.heap.size + 1) [.string (bs l)] ∧ Below w.heap.size w wx)
  case first =>
    go_wp2_with fail
    go_meet
    exact ⟨rfl, rfl, A2.out, A3.out, HB.out⟩
  case rest =>
    clear A2 A3 HB HZ
    obtain ⟨rfl, rfl, r1, r2, hb⟩ := hcut
    have HR := Lib.hid r1
    have HP := Lib.hid r2
    have HB := Lib.hid hb
    clear r1 r2 hb
    obtain ⟨l1, hl1⟩ : ∃ l1, pCut 45 l = l1 := ⟨_, rfl⟩
    obtain ⟨wl, hwl⟩ : ∃ wl, dW l1 = wl := ⟨_, rfl⟩
    obtain ⟨l2, hl2⟩ : ∃ l2, dR l1 = l2 := ⟨_, rfl⟩
    obtain ⟨neg, hneg⟩ : ∃ neg, (l.head? == some 45) = neg := ⟨_, rfl⟩
    obtain ⟨ok0, hok0⟩ : ∃ ok0, (decide (l.length ≤ 255) && !wl.isEmpty) = ok0 := ⟨_, rfl⟩
    have hl1z : l1.length ≤ 512 := by rw [← hl1]; exact Nat.le_trans (pCut_le _ _) hl
    have hl2z : l2.length ≤ 512 := by rw [← hl2]; exact Nat.le_trans (dR_le _) hl1z
    have hwlz : wl.length ≤ 512 := by rw [← hwl]; exact Nat.le_trans (dW_le _) hl1z
    have hdec : decF l = restF neg wl (dotF ok0 l2).2.1 (expF' (dotF ok0 l2).1 (dotF ok0 l2).2.2) := by
      unfold decF
      rw [hneg, hl1, hwl, hl2, hok0]
    have hwd : wl.all Pl.digit = true := by rw [← hwl]; exact List.all_takeWhile
    have HV2 : Hid (V = .tuple #[.agg #[.int .i64 (restF neg wl (dotF ok0 l2).2.1 (expF' (dotF ok0 l2).1 (dotF ok0 l2).2.2)).2.1, .int .i64 (restF neg wl (dotF ok0 l2).2.1 (expF' (dotF ok0 l2).1 (dotF ok0 l2).2.2)).2.2], .int .i64 (restF neg wl (dotF ok0 l2).2.1 (expF' (dotF ok0 l2).1 (dotF ok0 l2).2.2)).1]) := by
      show V = _
      rw [HV.out, hdec]
    have HWD := Lib.hid hwd
    have HOK := Lib.hid hok0
    have H1 : Hid (pCut 45 l = l1 ∧ dW l1 = wl ∧ dR l1 = l2 ∧ (l.head? == some 45) = neg) := ⟨hl1, hwl, hl2, hneg⟩
    clear hl1 hwl hl2 hneg hok0 hdec HV hwd
    go_wp2_with fail
    refine (take_at l 45 _ _ HP.out).mono ?_
    rintro e w1 ⟨rfl, hp, hu⟩
    rw [H1.out.1] at hp
    rw [H1.out.2.2.2]
    replace HP := Lib.hid hp
    replace HR := Lib.hid (hu.other _ _ (by omega) HR.out)
    replace HB := Lib.hid (hu.below _ _ (by omega) HB.out)
    clear hp hu
    go_wp2_with fail
    refine (some_at l1 _ _ hl1z HP.out).mono ?_
    rintro e w2 ⟨rfl, hp, hu⟩
    rw [H1.out.2.2.1] at hp
    rw [H1.out.2.1]
    replace HP := Lib.hid hp
    replace HR := Lib.hid (hu.other _ _ (by omega) HR.out)
    replace HB := Lib.hid (hu.below _ _ (by omega) HB.out)
    clear hp hu H1 hl1z
    go_upto_region 4 with (fail)
    go_cut [8] (fun v8 wx => v8 = .bool ok0 ∧ w2 = wx)
    case first =>
      by_cases h1 : l.length ≤ 255
      · cases h2 : wl with
        | nil =>
          subst h2
          rw [decide_eq_true h1] at HOK
          go_wp2_with fail
          go_meet
          exact ⟨by rw [← HOK.out]; rfl, rfl⟩
        | cons a b =>
          subst h2
          rw [decide_eq_true h1] at HOK
          go_wp2_with fail
          go_meet
          exact ⟨by rw [← HOK.out]; rfl, rfl⟩
      · rw [decide_eq_false h1] at HOK
        go_wp2_with fail
        go_meet
        exact ⟨by rw [← HOK.out]; rfl, rfl⟩
    case rest =>
      obtain ⟨rfl, rfl⟩ := hcut
      go_wp2_with fail
      refine (take_at l2 46 _ _ HP.out).mono ?_
      rintro e w3 ⟨rfl, hp, hu⟩
      replace HP := Lib.hid hp
      replace HR := Lib.hid (hu.other _ _ (by omega) HR.out)
      replace HB := Lib.hid (hu.below _ _ (by omega) HB.out)
      clear hp hu
      obtain ⟨D, hD⟩ : ∃ D, dotF ok0 l2 = D := ⟨_, rfl⟩
      rw [hD] at HV2
      have HDF := Lib.hid hD
      have hDz : D.2.2.length ≤ 512 ∧ D.2.1.length ≤ 512 ∧ D.2.1.all Pl.digit = true := by
        rw [← hD]; unfold dotF
        have ht : l2.tail.length ≤ 512 := by rw [List.length_tail]; omega
        split
        · exact ⟨Nat.le_trans (dR_le _) ht, Nat.le_trans (dW_le _) ht, List.all_takeWhile⟩
        · exact ⟨hl2z, by simp, rfl⟩
      have HDZ := Lib.hid hDz
      clear hD hDz
      go_upto_if 32 with (fail)
      go_cut [7, 8] (fun v7 v8 wx => v7 = .string (bs D.2.1) ∧ v8 = .bool D.1 ∧ At wx (w.heap.size + 1) [.string (bs D.2.2)] ∧ At wx w.heap.size [.int .i64 0, .int .i64 0] ∧ Below w.heap.size w wx)
      case first =>
        cases hdt : (l2.head? == some 46) with
        | false =>
          have hDD : D = (ok0, [], l2) := by
            have h := HDF.out
            unfold dotF at h
            rw [hdt] at h
            exact h.symm
          have hpc : pCut 46 l2 = l2 := by unfold pCut; rw [hdt]; rfl
          rw [hpc] at HP
          subst hDD
          go_wp2_with fail
          go_meet
          exact ⟨rfl, rfl, HP.out, HR.out, HB.out⟩
        | true =>
          have hDD : D = (ok0 && !(dW l2.tail).isEmpty, dW l2.tail, dR l2.tail) := by
            have h := HDF.out
            unfold dotF at h
            rw [hdt] at h
            exact h.symm
          have hpc : pCut 46 l2 = l2.tail := by unfold pCut; rw [hdt]; rfl
          rw [hpc] at HP
          have ht : l2.tail.length ≤ 512 := by rw [List.length_tail]; omega
          clear HDF HDZ HV2 hpc
          obtain ⟨pt, hpt⟩ : ∃ pt, dW l2.tail = pt := ⟨_, rfl⟩
          rw [hpt] at hDD
          have HPT := Lib.hid hpt
          clear hpt
          go_wp2_with fail
          refine (some_at l2.tail _ _ ht HP.out).mono ?_
          rintro e w4 ⟨rfl, hp, hu⟩
          rw [HPT.out]
          replace HP := Lib.hid hp
          replace HR := Lib.hid (hu.other _ _ (by omega) HR.out)
          replace HB := Lib.hid (hu.below _ _ (by omega) HB.out)
          clear hp hu
          cases ok0 with
          | false =>
            subst hDD
            go_wp2_with fail
            go_meet
            exact ⟨rfl, rfl, HP.out, HR.out, HB.out⟩
          | true =>
            cases pt with
            | nil =>
              subst hDD
              go_wp2_with fail
              go_meet
              exact ⟨rfl, rfl, HP.out, HR.out, HB.out⟩
            | cons a b =>
              subst hDD
              go_wp2_with fail
              go_meet
              exact ⟨rfl, rfl, HP.out, HR.out, HB.out⟩
      case rest =>
        clear HP HR HB HOK HDF hl2z
        obtain ⟨ok1, pt, l4⟩ := D
        dsimp only at *
        obtain ⟨rfl, rfl, hp, hr, hb⟩ := hcut
        have hl4 := HDZ.out.1
        have hptz := HDZ.out.2.1
        have hlt := hp.lt
        have e0 := At.new wc #[.int .i64 0] 3
        have eb := (Below.refl wc.heap.size wc).alloc (Nat.le_refl _) (.cells #[.int .i64 0] 3)
        obtain ⟨W1, hW1⟩ : ∃ W1, wc.alloc (.cells #[.int .i64 0] 3) = W1 := ⟨_, rfl⟩
        rw [hW1] at e0 eb
        have z0 := e0.c 0 _ rfl
        have zf := e0.fz
        have E0 := Lib.hid (e0.set 0 (by simp) (.int .i64 0))
        have P0 := Lib.hid ((hp.below eb).other ⟨wc.heap.size, 0, none⟩ (.int .i64 0) (by show w.heap.size + 1 ≠ wc.heap.size; omega))
        have R0 := Lib.hid ((hr.below eb).other ⟨wc.heap.size, 0, none⟩ (.int .i64 0) (by show w.heap.size ≠ wc.heap.size; omega))
        have B0 := Lib.hid ((bt hb eb).setCell (p := ⟨wc.heap.size, 0, none⟩) (show w.heap.size ≤ wc.heap.size by omega) (.int .i64 0))
        clear hp hr hb e0 eb
        go_upto_region 8 with (fail)
        go_cut [9] (fun v9 wx => ∃ bE, v9 = .pointer (some ⟨bE, 0, none⟩) ∧ w.heap.size + 2 ≤ bE ∧ At wx bE [.int .i64 0] ∧ At wx (w.heap.size + 1) [.string (bs l4)] ∧ At wx w.heap.size [.int .i64 0, .int .i64 0] ∧ Below w.heap.size w wx)
        case first =>
          go_wp2_with fail
          go_meet
          exact ⟨wc.heap.size, rfl, by omega, E0.out, P0.out, R0.out, B0.out⟩
        case rest =>
          clear z0 zf E0 P0 R0 B0 hlt hW1
          obtain ⟨bE, rfl, hbE, he, hp, hr, hb⟩ := hcut
          have HE := Lib.hid he
          have HP := Lib.hid hp
          have HR := Lib.hid hr
          have HB := Lib.hid hb
          clear he hp hr hb
          obtain ⟨l5, hl5⟩ : ∃ l5, (if (l4.head? == some 101 || l4.head? == some 69) = true then l4.tail else l4) = l5 := ⟨_, rfl⟩
          obtain ⟨ex, hex⟩ : ∃ ex, (l4.head? == some 101 || l4.head? == some 69) = ex := ⟨_, rfl⟩
          have HEX := Lib.hid hex
          have HL5 := Lib.hid hl5
          clear hl5 hex
          go_upto_region 9 with (fail)
          go_cut [45] (fun v45 wx => v45 = .bool ex ∧ At wx bE [.int .i64 0] ∧ At wx (w.heap.size + 1) [.string (bs l5)] ∧ At wx w.heap.size [.int .i64 0, .int .i64 0] ∧ Below w.heap.size w wx)
          case first =>
            go_wp2_with fail
            refine (take_at l4 101 _ _ HP.out).mono ?_
            rintro e w3 ⟨rfl, hp, hu⟩
            replace HP := Lib.hid hp
            replace HE := Lib.hid (hu.other _ _ (by omega) HE.out)
            replace HR := Lib.hid (hu.other _ _ (by omega) HR.out)
            replace HB := Lib.hid (hu.below _ _ (by omega) HB.out)
            clear hp hu
            cases h1 : (l4.head? == some 101) with
            | true =>
              have h5 : l5 = l4.tail := by rw [← HL5.out, h1]; rfl
              have hpc : pCut 101 l4 = l4.tail := by unfold pCut; rw [h1]; rfl
              rw [hpc, ← h5] at HP
              rw [h1] at HEX
              go_wp2_with fail
              go_meet
              exact ⟨by rw [← HEX.out]; rfl, HE.out, HP.out, HR.out, HB.out⟩
            | false =>
              have hpc : pCut 101 l4 = l4 := by unfold pCut; rw [h1]; rfl
              rw [hpc] at HP
              rw [h1] at HEX
              go_wp2_with fail
              refine (take_at l4 69 _ _ HP.out).mono ?_
              rintro e w4 ⟨rfl, hp, hu⟩
              have h5 : pCut 69 l4 = l5 := by
                rw [← HL5.out, h1, Bool.false_or]
                unfold pCut; rfl
              rw [h5] at hp
              replace HP := Lib.hid hp
              replace HE := Lib.hid (hu.other _ _ (by omega) HE.out)
              replace HR := Lib.hid (hu.other _ _ (by omega) HR.out)
              replace HB := Lib.hid (hu.below _ _ (by omega) HB.out)
              clear hp hu
              go_wp2_with fail
              go_meet
              exact ⟨by rw [← HEX.out]; rfl, HE.out, HP.out, HR.out, HB.out⟩
          case rest =>
            clear HE HP HR HB
            obtain ⟨rfl, he, hp, hr, hb⟩ := hcut
            have HE := Lib.hid he
            have HP := Lib.hid hp
            have HR := Lib.hid hr
            have HB := Lib.hid hb
            clear he hp hr hb
            cases ex with
            | false =>
              have hex := HEX.out
              have h5 : l5 = l4 := by rw [← HL5.out, hex]; rfl
              have hexp : expF' ok1 l4 = (ok1, 0, l5) := by
                unfold expF'
                rw [hex, h5]; rfl
              rw [hexp] at HV2
              have HK : Hid (DK [] wc) := ⟨List.nodup_nil, fun D h => by cases h⟩
              have HDS : Hid (∀ D ∈ ([] : List Nat), w.heap.size ≤ D) := fun D h => by cases h
              clear hex h5 hexp HEX HL5
              cases ok1 with
              | false =>
                have hv : V = .tuple #[.agg #[.int .i64 0, .int .i64 0], .int .i64 40] := by
                  have h := HV2.out
                  unfold restF at h
                  rw [if_neg (by rintro ⟨h1, h2⟩; first | (cases h1; done) | (cases h2; done))] at h
                  exact h
                have q0 := HR.out.c 0 _ rfl
                have q1 := HR.out.c 1 _ rfl
                have qf := HR.out.fz
                have p0 := HP.out.c 0 _ rfl
                go_wp2_with fail
                exact ret_ds [] HK.out HDS.out HR.out HB.out (Nat.le_refl _) decAgg decSize hv rfl rfl rfl rfl
              | true =>
                obtain ⟨E, hE⟩ : ∃ E : Int, 0 = E := ⟨_, rfl⟩
                rw [hE] at HE HV2
                have hE1 : -999 ≤ E := by omega
                have hE2 : E ≤ 999 := by omega
                clear hE
                cases l5 with
                | cons a b =>
                  have hv : V = .tuple #[.agg #[.int .i64 0, .int .i64 0], .int .i64 40] := by
                    have h := HV2.out
                    unfold restF at h
                    rw [if_neg (by rintro ⟨h1, h2⟩; first | (cases h1; done) | (cases h2; done))] at h
                    exact h
                  have q0 := HR.out.c 0 _ rfl
                  have q1 := HR.out.c 1 _ rfl
                  have qf := HR.out.fz
                  have p0 := HP.out.c 0 _ rfl
                  go_wp2_with fail
                  exact ret_ds ([] : List Nat) HK.out HDS.out HR.out HB.out (Nat.le_refl _) decAgg decSize hv rfl rfl rfl rfl
                | nil =>
                  have p0 := HP.out.c 0 _ rfl
                  obtain ⟨al, hal⟩ : ∃ al, Lib.trimLeftB (wl ++ pt) 48 = al := ⟨_, rfl⟩
                  obtain ⟨sh, hsh⟩ : ∃ sh, Lib.trimRightB al 48 = sh := ⟨_, rfl⟩
                  have hptd := HDZ.out.2.2
                  have hal1 : al.length ≤ 1024 ∧ al.all Pl.digit = true := by
                    rw [← hal]
                    exact trimL_facts (by rw [List.length_append]; omega) (by rw [List.all_append, HWD.out, hptd]; rfl)
                  have hsh1 : sh.length ≤ al.length ∧ sh.all Pl.digit = true := by
                    rw [← hsh]
                    exact trimR_facts hal1.2
                  have hrest : restF neg wl pt (true, E, []) = lastF neg al sh pt.length E := by
                    unfold restF
                    rw [if_pos ⟨rfl, rfl⟩, hal, hsh]
                  rw [hrest] at HV2
                  have CL : Hid (∀ w, Calls Tryz.prog 81 #[.string (bs wl ++ bs pt), .string ⟨#[48]⟩] w fun e w' => e = .returned (.string (bs al)) ∧ w' = w) := fun w => by
                    have h := Tryz.strings_TrimLeft_one (bs wl ++ bs pt) 48 (by decide) w
                    rw [show (bs wl ++ bs pt).data.toList = wl ++ pt by simp, hal] at h
                    exact h
                  have CR : Hid (∀ w, Calls Tryz.prog 82 #[.string (bs al), .string ⟨#[48]⟩] w fun e w' => e = .returned (.string (bs sh)) ∧ w' = w) := fun w => by
                    have h := Tryz.strings_TrimRight_one (bs al) 48 (by decide) w (by rw [size_mk]; omega)
                    rw [str_data, hsh] at h
                    exact h
                  have hszw : (bs wl).size = wl.length := size_mk wl
                  have hszp : (bs pt).size = pt.length := size_mk pt
                  have hsza : (bs al).size = al.length := size_mk al
                  have hszs : (bs sh).size = sh.length := size_mk sh
                  have halz := hal1.1
                  have hshz := hsh1.1
                  have HSD := Lib.hid hsh1.2
                  clear hal hsh hal1 hsh1 hrest hptd
                  go_wp2_with fail
                  refine (CL.out _).mono ?_
                  rintro e w8 ⟨rfl, rfl⟩
                  clear p0
                  have c0 := HE.out.c 0 _ rfl
                  have cf := HE.out.fz
                  have M0 := Lib.hid (HE.out.set 0 (by simp) (.int .i64 (E - (pt.length : Int))))
                  have M2 := Lib.hid (HR.out.other ⟨bE, 0, none⟩ (.int .i64 (E - (pt.length : Int))) (by show w.heap.size ≠ bE; omega))
                  have MB := Lib.hid (HB.out.setCell (p := ⟨bE, 0, none⟩) (show w.heap.size ≤ bE by omega) (.int .i64 (E - (pt.length : Int))))
                  have MK := Lib.hid (HK.out.set (i := 0) HE.out (.int .i64 (E - (pt.length : Int))))
                  go_upto_region 24 with (fail)
                  go_cut [9] (fun v9 wx => v9 = .pointer (some ⟨bE, 0, none⟩) ∧ At wx bE [.int .i64 (E - (pt.length : Int))] ∧ At wx w.heap.size [.int .i64 0, .int .i64 0] ∧ Below w.heap.size w wx ∧ DK ([] : List Nat) wx)
                  case first =>
                    go_wp2_with fail
                    go_meet
                    exact ⟨rfl, M0.out, M2.out, MB.out, MK.out⟩
                  case rest =>
                    clear c0 cf M0 M2 MB MK HE HR HB HK
                    obtain ⟨rfl, he, hr, hb, hk⟩ := hcut
                    have c0 := he.c 0 _ rfl
                    have cf := he.fz
                    obtain ⟨E2, hE2'⟩ : ∃ E2, E - (pt.length : Int) + ((al.length : Int) - (sh.length : Int)) = E2 := ⟨_, rfl⟩
                    have HE2 := Lib.hid hE2'
                    have hb1 : -20000 ≤ E2 := by omega
                    have hb2 : E2 ≤ 20000 := by omega
                    have M0 := Lib.hid (he.set 0 (by simp) (.int .i64 E2))
                    have M2 := Lib.hid (hr.other ⟨bE, 0, none⟩ (.int .i64 E2) (by show w.heap.size ≠ bE; omega))
                    have MB := Lib.hid (hb.setCell (p := ⟨bE, 0, none⟩) (show w.heap.size ≤ bE by omega) (.int .i64 E2))
                    have MK := Lib.hid (hk.set (i := 0) he (.int .i64 E2))
                    clear he hr hb hk hE2'
                    go_wp2_with fail
                    refine (CR.out _).mono ?_
                    rintro e w9 ⟨rfl, rfl⟩
                    go_upto_region 26 with (fail)
                    go_cut [9] (fun v9 wx => v9 = .pointer (some ⟨bE, 0, none⟩) ∧ At wx bE [.int .i64 E2] ∧ At wx w.heap.size [.int .i64 0, .int .i64 0] ∧ Below w.heap.size w wx ∧ DK ([] : List Nat) wx)
                    case first =>
                      go_wp2_with fail
                      go_meet
                      rw [HE2.out]
                      exact ⟨rfl, M0.out, M2.out, MB.out, MK.out⟩
                    case rest =>
                      clear c0 cf M0 M2 MB MK
                      obtain ⟨rfl, he, hr, hb, hk⟩ := hcut
                      have HE := Lib.hid he
                      have HR := Lib.hid hr
                      have HB := Lib.hid hb
                      have HK := Lib.hid hk
                      clear he hr hb hk
                      by_cases h30 : 30 < sh.length
                      · have hv : V = .tuple #[.agg #[.int .i64 0, .int .i64 0], .int .i64 30] := by
                          have h := HV2.out
                          unfold lastF at h
                          rw [if_pos h30] at h
                          exact h
                        have q0 := HR.out.c 0 _ rfl
                        have q1 := HR.out.c 1 _ rfl
                        have qf := HR.out.fz
                        go_wp2_with fail
                        exact ret_ds ([] : List Nat) HK.out HDS.out HR.out HB.out (Nat.le_refl _) decAgg decSize hv rfl rfl rfl rfl
                      · have hlast : lastF neg al sh pt.length E = tellF neg (wideF (digsOf sh)) E2 := by
                          unfold lastF
                          rw [if_neg h30, HE2.out]
                        rw [hlast] at HV2
                        clear hlast
                        have hlt := HE.out.lt
                        have e0 := At.new wc #[.int .u64 0, .int .u64 0] 125
                        have eb := (Below.refl wc.heap.size wc).alloc (Nat.le_refl _) (.cells #[.int .u64 0, .int .u64 0] 125)
                        obtain ⟨W5, hW5⟩ : ∃ W5, wc.alloc (.cells #[.int .u64 0, .int .u64 0] 125) = W5 := ⟨_, rfl⟩
                        rw [hW5] at e0 eb
                        have z0 := e0.c 0 _ rfl
                        have z1 := e0.c 1 _ rfl
                        have zf := e0.fz
                        have E0 := Lib.hid (e0.set2 (.int .u64 0) (.int .u64 0))
                        have X0 := Lib.hid (((HE.out.below eb).other ⟨wc.heap.size, 0, none⟩ (.int .u64 0) (by show bE ≠ wc.heap.size; omega)).other ⟨wc.heap.size, 1, none⟩ (.int .u64 0) (by show bE ≠ wc.heap.size; omega))
                        have R0 := Lib.hid (((HR.out.below eb).other ⟨wc.heap.size, 0, none⟩ (.int .u64 0) (by show w.heap.size ≠ wc.heap.size; omega)).other ⟨wc.heap.size, 1, none⟩ (.int .u64 0) (by show w.heap.size ≠ wc.heap.size; omega))
                        have B0 := Lib.hid (below_set2 (bt HB.out eb) (show w.heap.size ≤ wc.heap.size by omega) (.int .u64 0) (.int .u64 0))
                        have K0 := Lib.hid ((HK.out.below eb).set2 e0 (.int .u64 0) (.int .u64 0))
                        clear e0 eb
                        go_upto_region 29 with (fail)
                        go_cut [15] (fun v15 wx => ∃ bW, v15 = .pointer (some ⟨bW, 0, none⟩) ∧ bE < bW ∧ At wx bW [.int .u64 0, .int .u64 0] ∧ At wx bE [.int .i64 E2] ∧ At wx w.heap.size [.int .i64 0, .int .i64 0] ∧ Below w.heap.size w wx ∧ DK ([] : List Nat) wx)
                        case first =>
                          go_wp2_with fail
                          go_meet
                          exact ⟨wc.heap.size, rfl, hlt, E0.out, X0.out, R0.out, B0.out, K0.out⟩
                        case rest =>
                          clear z0 z1 zf E0 X0 R0 B0 K0 hW5 HE HR HB HK hlt
                          obtain ⟨bW, rfl, hbW, hwd, he, hr, hb, hk⟩ := hcut
                          have hlt := hwd.lt
                          have d0 := At.new wc #[.string (bs sh)] 9
                          have db := (Below.refl wc.heap.size wc).alloc (Nat.le_refl _) (.cells #[.string (bs sh)] 9)
                          obtain ⟨bS, hbS⟩ : ∃ bS, wc.heap.size = bS := ⟨_, rfl⟩
                          obtain ⟨WL, hWL⟩ : ∃ WL, wc.alloc (.cells #[.string (bs sh)] 9) = WL := ⟨_, rfl⟩
                          have hWz : WL.heap.size = bS + 1 := by rw [← hWL, ← hbS]; simp
                          rw [hWL] at d0 db
                          rw [hbS] at d0 hlt
                          have HD0 := Lib.hid d0
                          have HW := Lib.hid (hwd.below db)
                          have HE := Lib.hid (he.below db)
                          have HR := Lib.hid (hr.below db)
                          have HB := Lib.hid (bt hb db)
                          have HK := Lib.hid (hk.below db)
                          clear d0 db hwd he hr hb hk
                          go_wp2_with fail
                          refine (values_any (bs sh) _).mono ?_
                          rintro e w7 ⟨rfl, rfl⟩
                          rw [hWL, hbS]
                          clear hWL hbS
                          go_wp2_with fail
                          have hxs := digsOf_back sh HSD.out
                          have hxl : (digsOf sh).length = sh.length := by unfold digsOf; rw [List.length_map]
                          have hwz : w.heap.size ≤ WL.heap.size := HB.out.size
                          have hdl : ∀ D ∈ ([] : List Nat), D < WL.heap.size := fun D hD => (Array.getElem?_eq_some_iff.1 (HK.out.2 D hD)).1
                          refine range_digits 110 16 bS (bs sh) (digsOf sh) (by rw [hszs]; omega) (by rw [str_data, hxs]) (by omega) (HD0.out.c 0 _ rfl) rfl rfl
                            (fun pre W => At W bW [.int .u64 ((wideF pre / 18446744073709551616 : Nat) : Int), .int .u64 ((wideF pre % 18446744073709551616 : Nat) : Int)] ∧ At W bE [.int .i64 E2] ∧ At W w.heap.size [.int .i64 0, .int .i64 0] ∧ At W bS [.string (bs sh)] ∧ Below w.heap.size w W ∧ DK ([] : List Nat) W)
                            (fun s W W' row hs hg hr => ⟨hs.1.kept hg (fun r e => (hr r e).2), hs.2.1.kept hg (fun r e => (hr r e).2), hs.2.2.1.kept hg (fun r e => (hr r e).2), hs.2.2.2.1.kept hg (fun r e => (hr r e).2), ownFrom_below (Nat.le_refl _) hwz s W W' row hs.2.2.2.2.1 hg hr, hs.2.2.2.2.2.grown hdl hg (fun r e => (hr r e).1)⟩)
                            ⟨HW.out, HE.out, HR.out, HD0.out, HB.out, HK.out⟩ ?assignA ?bodyA ?doneA
                          case assignA =>
                            intro l x W K hK
                            gi_wp2
                            exact hK
                          case bodyA =>
                            rintro l pre x W ⟨hwd, he, hr, hds, hb, hk⟩ hlen
                            have hx := x.isLt
                            have hs := wideF_snoc pre x
                            have hwl := wideF_lt pre
                            obtain ⟨xv, hxv⟩ : ∃ xv, x.val = xv := ⟨_, rfl⟩
                            obtain ⟨N, hN⟩ : ∃ N, wideF pre = N := ⟨_, rfl⟩
                            rw [hxv, hN] at hs
                            rw [hN] at hwd hwl
                            rw [hxv] at hx ⊢
                            obtain ⟨nh, hnh⟩ : ∃ nh, N / 18446744073709551616 = nh := ⟨_, rfl⟩
                            obtain ⟨nl, hnl⟩ : ∃ nl, N % 18446744073709551616 = nl := ⟨_, rfl⟩
                            obtain ⟨Y, hY⟩ : ∃ Y, N * 10 % 340282366920938463463374607431768211456 = Y := ⟨_, rfl⟩
                            have hYlt : Y < 340282366920938463463374607431768211456 := by rw [← hY]; exact Nat.mod_lt _ (by decide)
                            obtain ⟨yh, hyh⟩ : ∃ yh, Y / 18446744073709551616 = yh := ⟨_, rfl⟩
                            obtain ⟨yl, hyl⟩ : ∃ yl, Y % 18446744073709551616 = yl := ⟨_, rfl⟩
                            obtain ⟨Z, hZ⟩ : ∃ Z, (Y + xv) % 340282366920938463463374607431768211456 = Z := ⟨_, rfl⟩
                            obtain ⟨zh, hzh⟩ : ∃ zh, Z / 18446744073709551616 = zh := ⟨_, rfl⟩
                            obtain ⟨zl, hzl⟩ : ∃ zl, Z % 18446744073709551616 = zl := ⟨_, rfl⟩
                            have ct := times_any N 10 W hwl (by decide)
                            obtain ⟨o1, ho1⟩ : ∃ o1, decide (N * 10 < 340282366920938463463374607431768211456) = o1 := ⟨_, rfl⟩
                            obtain ⟨o2, ho2⟩ : ∃ o2, decide (Y + xv < 340282366920938463463374607431768211456) = o2 := ⟨_, rfl⟩
                            have cp := fun w => plus_any Y xv w hYlt (by omega)
                            unfold wv at ct cp
                            rw [hY, ho1, hnh, hnl, hyh, hyl] at ct
                            rw [hZ, ho2, hyh, hyl, hzh, hzl, Nat.div_eq_of_lt (by omega : xv < 18446744073709551616), Nat.mod_eq_of_lt (by omega : xv < 18446744073709551616)] at cp
                            rw [hnh, hnl] at hwd
                            rw [hY, hZ] at hs
                            have CT := Lib.hid ct
                            have CP := Lib.hid cp
                            have HS := Lib.hid hs
                            have HZZ : Hid (Z / 18446744073709551616 = zh ∧ Z % 18446744073709551616 = zl) := ⟨hzh, hzl⟩
                            clear ct cp hs hnh hnl hY hYlt hyh hyl hZ hzh hzl ho1 ho2 hwl hN hxv
                            have c0 := hwd.c 0 _ rfl
                            have c1 := hwd.c 1 _ rfl
                            have cf := hwd.fz
                            have HWD := Lib.hid hwd
                            clear hwd
                            gi_wp2
                            refine ⟨trivial, (CallsIn.inRound l (callsIn_wide.2 CT.out)).mono ?_⟩
                            rintro e3 W1 ⟨rfl, hb1⟩
                            have w1 := HWD.out.below hb1
                            clear c0 c1 cf
                            have c0 := w1.c 0 _ rfl
                            have c1 := w1.c 1 _ rfl
                            have cf := w1.fz
                            have f1 := w1.set2 (.int .u64 (yh : Int)) (.int .u64 (yl : Int))
                            have f2 := ((he.below hb1).other ⟨bW, 0, none⟩ (.int .u64 (yh : Int)) (by show bE ≠ bW; omega)).other ⟨bW, 1, none⟩ (.int .u64 (yl : Int)) (by show bE ≠ bW; omega)
                            have f3 := ((hr.below hb1).other ⟨bW, 0, none⟩ (.int .u64 (yh : Int)) (by show w.heap.size ≠ bW; omega)).other ⟨bW, 1, none⟩ (.int .u64 (yl : Int)) (by show w.heap.size ≠ bW; omega)
                            have f4 := ((hds.below hb1).other ⟨bW, 0, none⟩ (.int .u64 (yh : Int)) (by show bS ≠ bW; omega)).other ⟨bW, 1, none⟩ (.int .u64 (yl : Int)) (by show bS ≠ bW; omega)
                            have f5 := below_set2 (bt hb hb1) (show w.heap.size ≤ bW by omega) (.int .u64 (yh : Int)) (.int .u64 (yl : Int))
                            have f6 := (hk.below hb1).set2 w1 (.int .u64 (yh : Int)) (.int .u64 (yl : Int))
                            have f7 : KeepsOthers W (set2 W1 bW (.int .u64 (yh : Int)) (.int .u64 (yl : Int))) := ((keeps_below hb1).trans (KeepsOthers.setCell _ _ _)).trans (KeepsOthers.setCell _ _ _)
                            obtain ⟨W2, hW2⟩ : ∃ W2, (W1.setCell ⟨bW, 0, none⟩ (.int .u64 (yh : Int))).setCell ⟨bW, 1, none⟩ (.int .u64 (yl : Int)) = W2 := ⟨_, rfl⟩
                            unfold set2 at f1 f5 f6 f7
                            rw [hW2] at f1 f2 f3 f4 f5 f6 f7
                            have g0 := f1.c 0 _ rfl
                            have g1 := f1.c 1 _ rfl
                            have F1 := Lib.hid f1
                            have F2 := Lib.hid f2
                            have F3 := Lib.hid f3
                            have F4 := Lib.hid f4
                            have F5 := Lib.hid f5
                            have F6 := Lib.hid f6
                            have F7 := Lib.hid f7
                            clear f1 f2 f3 f4 f5 f6 f7 w1 he hr hds hb hk hb1 HWD
                            gi_wp2
                            refine ⟨trivial, (CallsIn.inRound l (callsIn_wide.2 (CP.out _))).mono ?_⟩
                            rintro e4 W3 ⟨rfl, hb3⟩
                            have w3' := F1.out.below hb3
                            clear c0 c1 cf g0 g1 hW2
                            have c0 := w3'.c 0 _ rfl
                            have c1 := w3'.c 1 _ rfl
                            have cf := w3'.fz
                            have G1 := Lib.hid (w3'.set2 (.int .u64 (zh : Int)) (.int .u64 (zl : Int)))
                            have G2 := Lib.hid (((F2.out.below hb3).other ⟨bW, 0, none⟩ (.int .u64 (zh : Int)) (by show bE ≠ bW; omega)).other ⟨bW, 1, none⟩ (.int .u64 (zl : Int)) (by show bE ≠ bW; omega))
                            have G3 := Lib.hid (((F3.out.below hb3).other ⟨bW, 0, none⟩ (.int .u64 (zh : Int)) (by show w.heap.size ≠ bW; omega)).other ⟨bW, 1, none⟩ (.int .u64 (zl : Int)) (by show w.heap.size ≠ bW; omega))
                            have G4 := Lib.hid (((F4.out.below hb3).other ⟨bW, 0, none⟩ (.int .u64 (zh : Int)) (by show bS ≠ bW; omega)).other ⟨bW, 1, none⟩ (.int .u64 (zl : Int)) (by show bS ≠ bW; omega))
                            have G5 := Lib.hid (below_set2 (bt F5.out hb3) (show w.heap.size ≤ bW by omega) (.int .u64 (zh : Int)) (.int .u64 (zl : Int)))
                            have G6 := Lib.hid ((F6.out.below hb3).set2 w3' (.int .u64 (zh : Int)) (.int .u64 (zl : Int)))
                            have G7 : Hid (KeepsOthers W (set2 W3 bW (.int .u64 (zh : Int)) (.int .u64 (zl : Int)))) := ((F7.out.trans (keeps_below hb3)).trans (KeepsOthers.setCell _ _ _)).trans (KeepsOthers.setCell _ _ _)
                            clear w3' hb3
                            gi_wp2
                            refine ⟨G7.out, G4.out.kpD, ?_, G2.out, G3.out, G4.out, G5.out, G6.out⟩
                            rw [HS.out, HZZ.out.1, HZZ.out.2]
                            exact G1.out
                          case doneA =>
                            rintro D W hDw ⟨hwd, he, hr, hds, hb, hk⟩ hKD
                            have hwf := wideF_lt (digsOf sh)
                            obtain ⟨N, hN⟩ : ∃ N, wideF (digsOf sh) = N := ⟨_, rfl⟩
                            rw [hN] at hwd hwf HV2
                            obtain ⟨nh, hnh⟩ : ∃ nh, N / 18446744073709551616 = nh := ⟨_, rfl⟩
                            obtain ⟨nl, hnl⟩ : ∃ nl, N % 18446744073709551616 = nl := ⟨_, rfl⟩
                            have ct := fun w => tell_any neg N E2 w hwf hb1 hb2
                            obtain ⟨TT, hTT⟩ : ∃ TT, tellF neg N E2 = TT := ⟨_, rfl⟩
                            rw [hnh, hnl, hTT] at ct
                            rw [hTT] at HV2
                            rw [hnh, hnl] at hwd
                            have CT := Lib.hid ct
                            have hnm : D ∉ ([] : List Nat) := fun h => by have := hdl D h; omega
                            have HK2 := Lib.hid (hk.cons hKD hnm)
                            have HDS2 : Hid (∀ D' ∈ D :: ([] : List Nat), w.heap.size ≤ D') := fun D' h => by
                              rcases List.mem_cons.1 h with rfl | h
                              · omega
                              · exact HDS.out D' h
                            have c0 := hwd.c 0 _ rfl
                            have c1 := hwd.c 1 _ rfl
                            have d0 := he.c 0 _ rfl
                            have HR2 := Lib.hid hr
                            have HB2 := Lib.hid hb
                            clear ct hTT hnh hnl hN hwf hnm hr hb hk hKD hds hdl
                            go_wp2_with fail
                            refine (CT.out _).mono ?_
                            rintro e5 W9 ⟨rfl, hb9⟩
                            have r9 := HR2.out.below hb9
                            have HB9 := Lib.hid (bt HB2.out hb9)
                            have HK9 := Lib.hid (HK2.out.below hb9)
                            have HR9 := Lib.hid r9
                            clear c0 c1 d0 hwd he hb9
                            have q0 := r9.c 0 _ rfl
                            have q1 := r9.c 1 _ rfl
                            have qf := r9.fz
                            clear r9
                            go_wp2_with fail
                            exact ret_ds (D :: ([] : List Nat)) HK9.out HDS2.out HR9.out HB9.out (Nat.le_refl _) decAgg decSize HV2.out rfl rfl rfl rfl
            | true =>
              have hex := HEX.out
              have h5 : l5 = l4.tail := by rw [← HL5.out, hex]; rfl
              have h5z : l5.length ≤ 512 := by rw [h5, List.length_tail]; omega
              obtain ⟨mi, hmi⟩ : ∃ mi, (l5.head? == some 45) = mi := ⟨_, rfl⟩
              obtain ⟨l6, hl6⟩ : ∃ l6, signF l5 = l6 := ⟨_, rfl⟩
              have h6z : l6.length ≤ 512 := by
                rw [← hl6]; unfold signF
                split
                · rw [List.length_tail]; omega
                · exact Nat.le_trans (pCut_le _ _) h5z
              obtain ⟨d, hd⟩ : ∃ d, dW l6 = d := ⟨_, rfl⟩
              obtain ⟨lf, hlf⟩ : ∃ lf, dR l6 = lf := ⟨_, rfl⟩
              have hdz : d.length ≤ 512 := by rw [← hd]; exact Nat.le_trans (dW_le _) h6z
              have hdd : d.all Pl.digit = true := by rw [← hd]; exact List.all_takeWhile
              obtain ⟨ok2, hok2⟩ : ∃ ok2, (ok1 && decide (1 ≤ d.length) && decide (d.length ≤ 3)) = ok2 := ⟨_, rfl⟩
              have hexp : expF' ok1 l4 = (ok2, (if ok2 then (if mi then -(valF (digsOf d) : Int) else (valF (digsOf d) : Int)) else 0), lf) := by
                unfold expF'
                rw [hex, if_pos rfl, ← h5, hl6, hd, hlf, hok2, hmi]
              rw [hexp] at HV2
              have HMI := Lib.hid hmi
              have HL6 := Lib.hid hl6
              have HD := Lib.hid hd
              have HLF := Lib.hid hlf
              have HDD := Lib.hid hdd
              have HOK := Lib.hid hok2
              clear hex h5 hmi hl6 hd hlf hdd hok2 hexp HEX HL5
              go_wp2_with fail
              refine (take_at l5 45 _ _ HP.out).mono ?_
              rintro e w5 ⟨rfl, hp, hu⟩
              rw [HMI.out]
              replace HP := Lib.hid hp
              replace HE := Lib.hid (hu.other _ _ (by omega) HE.out)
              replace HR := Lib.hid (hu.other _ _ (by omega) HR.out)
              replace HB := Lib.hid (hu.below _ _ (by omega) HB.out)
              clear hp hu
              go_upto_if 49 with (fail)
              go_cut [10] (fun v10 wx => v10 = .bool mi ∧ At wx bE [.int .i64 0] ∧ At wx (w.heap.size + 1) [.string (bs l6)] ∧ At wx w.heap.size [.int .i64 0, .int .i64 0] ∧ Below w.heap.size w wx)
              case first =>
                cases mi with
                | true =>
                  have hpc : pCut 45 l5 = l6 := by rw [← HL6.out]; unfold pCut signF; rw [HMI.out]; rfl
                  rw [hpc] at HP
                  go_wp2_with fail
                  go_meet
                  exact ⟨rfl, HE.out, HP.out, HR.out, HB.out⟩
                | false =>
                  have hpc : pCut 45 l5 = l5 := by unfold pCut; rw [HMI.out]; rfl
                  rw [hpc] at HP
                  go_wp2_with fail
                  refine (take_at l5 43 _ _ HP.out).mono ?_
                  rintro e w6 ⟨rfl, hp, hu⟩
                  have hpc : pCut 43 l5 = l6 := by rw [← HL6.out]; unfold signF; rw [HMI.out]; rfl
                  rw [hpc] at hp
                  replace HP := Lib.hid hp
                  replace HE := Lib.hid (hu.other _ _ (by omega) HE.out)
                  replace HR := Lib.hid (hu.other _ _ (by omega) HR.out)
                  replace HB := Lib.hid (hu.below _ _ (by omega) HB.out)
                  clear hp hu
                  go_wp2_with fail
                  go_meet
                  exact ⟨rfl, HE.out, HP.out, HR.out, HB.out⟩
              case rest =>
                clear HE HP HR HB
                obtain ⟨rfl, he, hp, hr, hb⟩ := hcut
                have HE := Lib.hid he
                have HP := Lib.hid hp
                have HR := Lib.hid hr
                have HB := Lib.hid hb
                clear he hp hr hb
                go_wp2_with fail
                refine (some_at l6 _ _ h6z HP.out).mono ?_
                rintro e w6 ⟨rfl, hp, hu⟩
                rw [HLF.out] at hp
                rw [HD.out]
                replace HP := Lib.hid hp
                replace HE := Lib.hid (hu.other _ _ (by omega) HE.out)
                replace HR := Lib.hid (hu.other _ _ (by omega) HR.out)
                replace HB := Lib.hid (hu.below _ _ (by omega) HB.out)
                clear hp hu
                have hszd : (bs d).size = d.length := size_mk d
                go_upto_region 14 with (fail)
                go_cut [8] (fun v8 wx => v8 = .bool ok2 ∧ w6 = wx)
                case first =>
                  cases ok1 with
                  | false =>
                    go_wp2_with fail
                    go_meet
                    exact ⟨by rw [← HOK.out]; rfl, rfl⟩
                  | true =>
                    by_cases h1 : 1 ≤ d.length
                    · by_cases h3 : d.length ≤ 3
                      · rw [decide_eq_true h1, decide_eq_true h3] at HOK
                        go_wp2_with fail
                        go_meet
                        exact ⟨by rw [← HOK.out]; simp; omega, rfl⟩
                      · rw [decide_eq_true h1, decide_eq_false h3] at HOK
                        go_wp2_with fail
                        go_meet
                        exact ⟨by rw [← HOK.out]; simp; omega, rfl⟩
                    · rw [decide_eq_false h1] at HOK
                      go_wp2_with fail
                      go_meet
                      exact ⟨by rw [← HOK.out]; rfl, rfl⟩
                case rest =>
                  obtain ⟨rfl, rfl⟩ := hcut
                  cases ok2 with
                  | false =>
                    have c0 := HE.out.c 0 _ rfl
                    have cf := HE.out.fz
                    go_upto_if 73 with (fail)
                    go_cut [9] (fun v9 wx => v9 = .pointer (some ⟨bE, 0, none⟩) ∧ At wx (w.heap.size + 1) [.string (bs lf)] ∧ At wx w.heap.size [.int .i64 0, .int .i64 0] ∧ Below w.heap.size w wx)
                    case first =>
                      cases mi with
                      | false =>
                        go_wp2_with fail
                        go_meet
                        exact ⟨rfl, HP.out, HR.out, HB.out⟩
                      | true =>
                        go_wp2_with fail
                        go_meet
                        exact ⟨rfl, HP.out.other ⟨bE, 0, none⟩ _ (by show w.heap.size + 1 ≠ bE; omega), HR.out.other ⟨bE, 0, none⟩ _ (by show w.heap.size ≠ bE; omega), HB.out.setCell (p := ⟨bE, 0, none⟩) (show w.heap.size ≤ bE by omega) _⟩
                    case rest =>
                      clear c0 cf HE HP HR HB
                      obtain ⟨rfl, hp, hr, hb⟩ := hcut
                      have HP := Lib.hid hp
                      have HR := Lib.hid hr
                      have HB := Lib.hid hb
                      have HK : Hid (DK [] wc) := ⟨List.nodup_nil, fun D h => by cases h⟩
                      have HDS : Hid (∀ D ∈ ([] : List Nat), w.heap.size ≤ D) := fun D h => by cases h
                      clear hp hr hb
                      have hv : V = .tuple #[.agg #[.int .i64 0, .int .i64 0], .int .i64 40] := by
                        have h := HV2.out
                        unfold restF at h
                        rw [if_neg (by rintro ⟨h1, h2⟩; first | (cases h1; done) | (cases h2; done))] at h
                        exact h
                      have q0 := HR.out.c 0 _ rfl
                      have q1 := HR.out.c 1 _ rfl
                      have qf := HR.out.fz
                      have p0 := HP.out.c 0 _ rfl
                      go_wp2_with fail
                      exact ret_ds [] HK.out HDS.out HR.out HB.out (Nat.le_refl _) decAgg decSize hv rfl rfl rfl rfl
                  | true =>
                    have hd3 : d.length ≤ 3 := by
                      have h := HOK.out
                      rw [Bool.and_eq_true, decide_eq_true_eq] at h
                      exact h.2
                    have hlt := HE.out.lt
                    have d0 := At.new w6 #[.string (bs d)] 9
                    have db := (Below.refl w6.heap.size w6).alloc (Nat.le_refl _) (.cells #[.string (bs d)] 9)
                    obtain ⟨WL, hWL⟩ : ∃ WL, w6.alloc (.cells #[.string (bs d)] 9) = WL := ⟨_, rfl⟩
                    have hWz : WL.heap.size = w6.heap.size + 1 := by rw [← hWL]; simp
                    rw [hWL] at d0 db
                    have D0 := Lib.hid d0
                    replace HP := Lib.hid (HP.out.below db)
                    replace HE := Lib.hid (HE.out.below db)
                    replace HR := Lib.hid (HR.out.below db)
                    replace HB := Lib.hid (bt HB.out db)
                    clear d0 db
                    go_wp2_with fail
                    refine (values_any (bs d) _).mono ?_
                    rintro e w7 ⟨rfl, rfl⟩
                    rw [hWL]
                    clear hWL
                    go_wp2_with fail
                    have hxs := digsOf_back d HDD.out
                    have hxl : (digsOf d).length = d.length := by unfold digsOf; rw [List.length_map]
                    have hwz : w.heap.size ≤ WL.heap.size := HB.out.size
                    refine range_digits 68 12 w6.heap.size (bs d) (digsOf d) (by rw [hszd]; omega) (by rw [str_data, hxs]) (by omega) (D0.out.c 0 _ rfl) rfl rfl
                      (fun pre W => At W bE [.int .i64 (valF pre : Int)] ∧ At W (w.heap.size + 1) [.string (bs lf)] ∧ At W w.heap.size [.int .i64 0, .int .i64 0] ∧ At W w6.heap.size [.string (bs d)] ∧ Below w.heap.size w W)
                      (fun s W W' row hs hg hr => ⟨hs.1.kept hg (fun r e => (hr r e).2), hs.2.1.kept hg (fun r e => (hr r e).2), hs.2.2.1.kept hg (fun r e => (hr r e).2), hs.2.2.2.1.kept hg (fun r e => (hr r e).2), ownFrom_below (Nat.le_refl _) hwz s W W' row hs.2.2.2.2 hg hr⟩)
                      ⟨HE.out, HP.out, HR.out, D0.out, HB.out⟩ ?assign ?body ?done
                    case assign =>
                      intro l x W K hK
                      gi_wp2
                      exact hK
                    case body =>
                      rintro l pre x W ⟨he, hp, hr, hdd, hb⟩ hlen
                      have hv := valF_lt pre
                      have hx := x.isLt
                      have hv2 : valF pre ≤ 99 := by
                        have : 10 ^ pre.length ≤ 10 ^ 2 := Nat.pow_le_pow_right (by decide) (by omega)
                        omega
                      have c0 := he.c 0 _ rfl
                      have cf := he.fz
                      have hs := valF_snoc pre x
                      obtain ⟨v, hv'⟩ : ∃ v, valF pre = v := ⟨_, rfl⟩
                      obtain ⟨xv, hxv⟩ : ∃ xv, x.val = xv := ⟨_, rfl⟩
                      rw [hv', hxv] at hs
                      rw [hv'] at c0 hv2
                      rw [hxv] at hx ⊢
                      have M0 := Lib.hid (he.set 0 (by simp) (.int .i64 (10 * (v : Int) + (xv : Int))))
                      have M1 := Lib.hid (hp.other ⟨bE, 0, none⟩ (.int .i64 (10 * (v : Int) + (xv : Int))) (by show w.heap.size + 1 ≠ bE; omega))
                      have M2 := Lib.hid (hr.other ⟨bE, 0, none⟩ (.int .i64 (10 * (v : Int) + (xv : Int))) (by show w.heap.size ≠ bE; omega))
                      have M3 := Lib.hid (hdd.other ⟨bE, 0, none⟩ (.int .i64 (10 * (v : Int) + (xv : Int))) (by show w6.heap.size ≠ bE; omega))
                      have MB := Lib.hid (hb.setCell (p := ⟨bE, 0, none⟩) (show w.heap.size ≤ bE by omega) (.int .i64 (10 * (v : Int) + (xv : Int))))
                      have HS := Lib.hid hs
                      clear he hp hr hdd hb hs hv hv' hxv
                      gi_wp2
                      refine ⟨KeepsOthers.setCell _ _ _, M3.out.kpD, ?_, M1.out, M2.out, M3.out, MB.out⟩
                      rw [HS.out]
                      have e1 : ((10 * v + xv : Nat) : Int) = 10 * (v : Int) + (xv : Int) := by omega
                      rw [e1]
                      exact M0.out
                    case done =>
                      rintro D1 W hDw ⟨he, hp, hr, hds, hb⟩ hK1
                      have hvl := valF_lt (digsOf d)
                      have hv9 : valF (digsOf d) ≤ 999 := by
                        have : 10 ^ (digsOf d).length ≤ 10 ^ 3 := Nat.pow_le_pow_right (by decide) (by omega)
                        omega
                      obtain ⟨vv, hvv⟩ : ∃ vv, valF (digsOf d) = vv := ⟨_, rfl⟩
                      rw [hvv] at he hv9 HV2
                      obtain ⟨E, hE⟩ : ∃ E : Int, (if mi then -(vv : Int) else (vv : Int)) = E := ⟨_, rfl⟩
                      rw [if_pos trivial, hE] at HV2
                      have hE1 : -999 ≤ E := by rw [← hE]; split <;> omega
                      have hE2 : E ≤ 999 := by rw [← hE]; split <;> omega
                      have HEE := Lib.hid hE
                      have HK : Hid (DK [D1] W) := ⟨by simp, fun D h => by rw [List.mem_singleton.1 h]; exact hK1⟩
                      have HDS : Hid (∀ D ∈ [D1], w.heap.size ≤ D) := fun D h => by rw [List.mem_singleton.1 h]; omega
                      replace HE := Lib.hid he
                      replace HP := Lib.hid hp
                      replace HR := Lib.hid hr
                      replace HB := Lib.hid hb
                      have c0 := he.c 0 _ rfl
                      have cf := he.fz
                      clear hvl hvv hE he hp hr hb hds hK1 D0
                      go_upto_if 73 with (fail)
                      go_cut [9] (fun v9 wx => v9 = .pointer (some ⟨bE, 0, none⟩) ∧ At wx bE [.int .i64 E] ∧ At wx (w.heap.size + 1) [.string (bs lf)] ∧ At wx w.heap.size [.int .i64 0, .int .i64 0] ∧ Below w.heap.size w wx ∧ DK [D1] wx)
                      case first =>
                        cases mi with
                        | false =>
                          have hee : (vv : Int) = E := HEE.out
                          rw [hee] at HE
                          go_wp2_with fail
                          go_meet
                          exact ⟨rfl, HE.out, HP.out, HR.out, HB.out, HK.out⟩
                        | true =>
                          have hee : -(vv : Int) = E := HEE.out
                          have M0 := Lib.hid (HE.out.set 0 (by simp) (.int .i64 E))
                          have M1 := Lib.hid (HP.out.other ⟨bE, 0, none⟩ (.int .i64 E) (by show w.heap.size + 1 ≠ bE; omega))
                          have M2 := Lib.hid (HR.out.other ⟨bE, 0, none⟩ (.int .i64 E) (by show w.heap.size ≠ bE; omega))
                          have MB := Lib.hid (HB.out.setCell (p := ⟨bE, 0, none⟩) (show w.heap.size ≤ bE by omega) (.int .i64 E))
                          have MK := Lib.hid (HK.out.set (i := 0) HE.out (.int .i64 E))
                          have HEQ := Lib.hid hee
                          clear hee
                          go_wp2_with fail
                          go_meet
                          rw [HEQ.out]
                          exact ⟨rfl, M0.out, M1.out, M2.out, MB.out, MK.out⟩
                      case rest =>
                        clear c0 cf HE HP HR HB HK
                        obtain ⟨rfl, he, hp, hr, hb, hk⟩ := hcut
                        have HE := Lib.hid he
                        have HP := Lib.hid hp
                        have HR := Lib.hid hr
                        have HB := Lib.hid hb
                        have HK := Lib.hid hk
                        clear he hp hr hb hk HEE
                        cases lf with
                        | cons a b =>
                          have hv : V = .tuple #[.agg #[.int .i64 0, .int .i64 0], .int .i64 40] := by
                            have h := HV2.out
                            unfold restF at h
                            rw [if_neg (by rintro ⟨h1, h2⟩; first | (cases h1; done) | (cases h2; done))] at h
                            exact h
                          have q0 := HR.out.c 0 _ rfl
                          have q1 := HR.out.c 1 _ rfl
                          have qf := HR.out.fz
                          have p0 := HP.out.c 0 _ rfl
                          go_wp2_with fail
                          exact ret_ds [D1] HK.out HDS.out HR.out HB.out (Nat.le_refl _) decAgg decSize hv rfl rfl rfl rfl
                        | nil =>
                          have p0 := HP.out.c 0 _ rfl
                          obtain ⟨al, hal⟩ : ∃ al, Lib.trimLeftB (wl ++ pt) 48 = al := ⟨_, rfl⟩
                          obtain ⟨sh, hsh⟩ : ∃ sh, Lib.trimRightB al 48 = sh := ⟨_, rfl⟩
                          have hptd := HDZ.out.2.2
                          have hal1 : al.length ≤ 1024 ∧ al.all Pl.digit = true := by
                            rw [← hal]
                            exact trimL_facts (by rw [List.length_append]; omega) (by rw [List.all_append, HWD.out, hptd]; rfl)
                          have hsh1 : sh.length ≤ al.length ∧ sh.all Pl.digit = true := by
                            rw [← hsh]
                            exact trimR_facts hal1.2
                          have hrest : restF neg wl pt (true, E, []) = lastF neg al sh pt.length E := by
                            unfold restF
                            rw [if_pos ⟨rfl, rfl⟩, hal, hsh]
                          rw [hrest] at HV2
                          have CL : Hid (∀ w, Calls Tryz.prog 81 #[.string (bs wl ++ bs pt), .string ⟨#[48]⟩] w fun e w' => e = .returned (.string (bs al)) ∧ w' = w) := fun w => by
                            have h := Tryz.strings_TrimLeft_one (bs wl ++ bs pt) 48 (by decide) w
                            rw [show (bs wl ++ bs pt).data.toList = wl ++ pt by simp, hal] at h
                            exact h
                          have CR : Hid (∀ w, Calls Tryz.prog 82 #[.string (bs al), .string ⟨#[48]⟩] w fun e w' => e = .returned (.string (bs sh)) ∧ w' = w) := fun w => by
                            have h := Tryz.strings_TrimRight_one (bs al) 48 (by decide) w (by rw [size_mk]; omega)
                            rw [str_data, hsh] at h
                            exact h
                          have hszw : (bs wl).size = wl.length := size_mk wl
                          have hszp : (bs pt).size = pt.length := size_mk pt
                          have hsza : (bs al).size = al.length := size_mk al
                          have hszs : (bs sh).size = sh.length := size_mk sh
                          have halz := hal1.1
                          have hshz := hsh1.1
                          have HSD := Lib.hid hsh1.2
                          clear hal hsh hal1 hsh1 hrest hptd
                          go_wp2_with fail
                          refine (CL.out _).mono ?_
                          rintro e w8 ⟨rfl, rfl⟩
                          clear p0
                          have c0 := HE.out.c 0 _ rfl
                          have cf := HE.out.fz
                          have M0 := Lib.hid (HE.out.set 0 (by simp) (.int .i64 (E - (pt.length : Int))))
                          have M2 := Lib.hid (HR.out.other ⟨bE, 0, none⟩ (.int .i64 (E - (pt.length : Int))) (by show w.heap.size ≠ bE; omega))
                          have MB := Lib.hid (HB.out.setCell (p := ⟨bE, 0, none⟩) (show w.heap.size ≤ bE by omega) (.int .i64 (E - (pt.length : Int))))
                          have MK := Lib.hid (HK.out.set (i := 0) HE.out (.int .i64 (E - (pt.length : Int))))
                          go_upto_region 24 with (fail)
                          go_cut [9] (fun v9 wx => v9 = .pointer (some ⟨bE, 0, none⟩) ∧ At wx bE [.int .i64 (E - (pt.length : Int))] ∧ At wx w.heap.size [.int .i64 0, .int .i64 0] ∧ Below w.heap.size w wx ∧ DK [D1] wx)
                          case first =>
                            go_wp2_with fail
                            go_meet
                            exact ⟨rfl, M0.out, M2.out, MB.out, MK.out⟩
                          case rest =>
                            clear c0 cf M0 M2 MB MK HE HR HB HK
                            obtain ⟨rfl, he, hr, hb, hk⟩ := hcut
                            have c0 := he.c 0 _ rfl
                            have cf := he.fz
                            obtain ⟨E2, hE2'⟩ : ∃ E2, E - (pt.length : Int) + ((al.length : Int) - (sh.length : Int)) = E2 := ⟨_, rfl⟩
                            have HE2 := Lib.hid hE2'
                            have hb1 : -20000 ≤ E2 := by omega
                            have hb2 : E2 ≤ 20000 := by omega
                            have M0 := Lib.hid (he.set 0 (by simp) (.int .i64 E2))
                            have M2 := Lib.hid (hr.other ⟨bE, 0, none⟩ (.int .i64 E2) (by show w.heap.size ≠ bE; omega))
                            have MB := Lib.hid (hb.setCell (p := ⟨bE, 0, none⟩) (show w.heap.size ≤ bE by omega) (.int .i64 E2))
                            have MK := Lib.hid (hk.set (i := 0) he (.int .i64 E2))
                            clear he hr hb hk hE2'
                            go_wp2_with fail
                            refine (CR.out _).mono ?_
                            rintro e w9 ⟨rfl, rfl⟩
                            go_upto_region 26 with (fail)
                            go_cut [9] (fun v9 wx => v9 = .pointer (some ⟨bE, 0, none⟩) ∧ At wx bE [.int .i64 E2] ∧ At wx w.heap.size [.int .i64 0, .int .i64 0] ∧ Below w.heap.size w wx ∧ DK [D1] wx)
                            case first =>
                              go_wp2_with fail
                              go_meet
                              rw [HE2.out]
                              exact ⟨rfl, M0.out, M2.out, MB.out, MK.out⟩
                            case rest =>
                              clear c0 cf M0 M2 MB MK
                              obtain ⟨rfl, he, hr, hb, hk⟩ := hcut
                              have HE := Lib.hid he
                              have HR := Lib.hid hr
                              have HB := Lib.hid hb
                              have HK := Lib.hid hk
                              clear he hr hb hk
                              by_cases h30 : 30 < sh.length
                              · have hv : V = .tuple #[.agg #[.int .i64 0, .int .i64 0], .int .i64 30] := by
                                  have h := HV2.out
                                  unfold lastF at h
                                  rw [if_pos h30] at h
                                  exact h
                                have q0 := HR.out.c 0 _ rfl
                                have q1 := HR.out.c 1 _ rfl
                                have qf := HR.out.fz
                                go_wp2_with fail
                                exact ret_ds [D1] HK.out HDS.out HR.out HB.out (Nat.le_refl _) decAgg decSize hv rfl rfl rfl rfl
                              · have hlast : lastF neg al sh pt.length E = tellF neg (wideF (digsOf sh)) E2 := by
                                  unfold lastF
                                  rw [if_neg h30, HE2.out]
                                rw [hlast] at HV2
                                clear hlast
                                have hlt := HE.out.lt
                                have e0 := At.new wc #[.int .u64 0, .int .u64 0] 125
                                have eb := (Below.refl wc.heap.size wc).alloc (Nat.le_refl _) (.cells #[.int .u64 0, .int .u64 0] 125)
                                obtain ⟨W5, hW5⟩ : ∃ W5, wc.alloc (.cells #[.int .u64 0, .int .u64 0] 125) = W5 := ⟨_, rfl⟩
                                rw [hW5] at e0 eb
                                have z0 := e0.c 0 _ rfl
                                have z1 := e0.c 1 _ rfl
                                have zf := e0.fz
                                have E0 := Lib.hid (e0.set2 (.int .u64 0) (.int .u64 0))
                                have X0 := Lib.hid (((HE.out.below eb).other ⟨wc.heap.size, 0, none⟩ (.int .u64 0) (by show bE ≠ wc.heap.size; omega)).other ⟨wc.heap.size, 1, none⟩ (.int .u64 0) (by show bE ≠ wc.heap.size; omega))
                                have R0 := Lib.hid (((HR.out.below eb).other ⟨wc.heap.size, 0, none⟩ (.int .u64 0) (by show w.heap.size ≠ wc.heap.size; omega)).other ⟨wc.heap.size, 1, none⟩ (.int .u64 0) (by show w.heap.size ≠ wc.heap.size; omega))
                                have B0 := Lib.hid (below_set2 (bt HB.out eb) (show w.heap.size ≤ wc.heap.size by omega) (.int .u64 0) (.int .u64 0))
                                have K0 := Lib.hid ((HK.out.below eb).set2 e0 (.int .u64 0) (.int .u64 0))
                                clear e0 eb
                                go_upto_region 29 with (fail)
                                go_cut [15] (fun v15 wx => ∃ bW, v15 = .pointer (some ⟨bW, 0, none⟩) ∧ bE < bW ∧ At wx bW [.int .u64 0, .int .u64 0] ∧ At wx bE [.int .i64 E2] ∧ At wx w.heap.size [.int .i64 0, .int .i64 0] ∧ Below w.heap.size w wx ∧ DK [D1] wx)
                                case first =>
                                  go_wp2_with fail
                                  go_meet
                                  exact ⟨wc.heap.size, rfl, hlt, E0.out, X0.out, R0.out, B0.out, K0.out⟩
                                case rest =>
                                  clear z0 z1 zf E0 X0 R0 B0 K0 hW5 HE HR HB HK hlt
                                  obtain ⟨bW, rfl, hbW, hwd, he, hr, hb, hk⟩ := hcut
                                  have hlt := hwd.lt
                                  have d0 := At.new wc #[.string (bs sh)] 9
                                  have db := (Below.refl wc.heap.size wc).alloc (Nat.le_refl _) (.cells #[.string (bs sh)] 9)
                                  obtain ⟨bS, hbS⟩ : ∃ bS, wc.heap.size = bS := ⟨_, rfl⟩
                                  obtain ⟨WL, hWL⟩ : ∃ WL, wc.alloc (.cells #[.string (bs sh)] 9) = WL := ⟨_, rfl⟩
                                  have hWz : WL.heap.size = bS + 1 := by rw [← hWL, ← hbS]; simp
                                  rw [hWL] at d0 db
                                  rw [hbS] at d0 hlt
                                  have HD0 := Lib.hid d0
                                  have HW := Lib.hid (hwd.below db)
                                  have HE := Lib.hid (he.below db)
                                  have HR := Lib.hid (hr.below db)
                                  have HB := Lib.hid (bt hb db)
                                  have HK := Lib.hid (hk.below db)
                                  clear d0 db hwd he hr hb hk
                                  go_wp2_with fail
                                  refine (values_any (bs sh) _).mono ?_
                                  rintro e w7 ⟨rfl, rfl⟩
                                  rw [hWL, hbS]
                                  clear hWL hbS
                                  go_wp2_with fail
                                  have hxs := digsOf_back sh HSD.out
                                  have hxl : (digsOf sh).length = sh.length := by unfold digsOf; rw [List.length_map]
                                  have hwz : w.heap.size ≤ WL.heap.size := HB.out.size
                                  have hdl : ∀ D ∈ [D1], D < WL.heap.size := fun D hD => (Array.getElem?_eq_some_iff.1 (HK.out.2 D hD)).1
                                  refine range_digits 110 16 bS (bs sh) (digsOf sh) (by rw [hszs]; omega) (by rw [str_data, hxs]) (by omega) (HD0.out.c 0 _ rfl) rfl rfl
                                    (fun pre W => At W bW [.int .u64 ((wideF pre / 18446744073709551616 : Nat) : Int), .int .u64 ((wideF pre % 18446744073709551616 : Nat) : Int)] ∧ At W bE [.int .i64 E2] ∧ At W w.heap.size [.int .i64 0, .int .i64 0] ∧ At W bS [.string (bs sh)] ∧ Below w.heap.size w W ∧ DK [D1] W)
                                    (fun s W W' row hs hg hr => ⟨hs.1.kept hg (fun r e => (hr r e).2), hs.2.1.kept hg (fun r e => (hr r e).2), hs.2.2.1.kept hg (fun r e => (hr r e).2), hs.2.2.2.1.kept hg (fun r e => (hr r e).2), ownFrom_below (Nat.le_refl _) hwz s W W' row hs.2.2.2.2.1 hg hr, hs.2.2.2.2.2.grown hdl hg (fun r e => (hr r e).1)⟩)
                                    ⟨HW.out, HE.out, HR.out, HD0.out, HB.out, HK.out⟩ ?assignB ?bodyB ?doneB
                                  case assignB =>
                                    intro l x W K hK
                                    gi_wp2
                                    exact hK
                                  case bodyB =>
                                    rintro l pre x W ⟨hwd, he, hr, hds, hb, hk⟩ hlen
                                    have hx := x.isLt
                                    have hs := wideF_snoc pre x
                                    have hwl := wideF_lt pre
                                    obtain ⟨xv, hxv⟩ : ∃ xv, x.val = xv := ⟨_, rfl⟩
                                    obtain ⟨N, hN⟩ : ∃ N, wideF pre = N := ⟨_, rfl⟩
                                    rw [hxv, hN] at hs
                                    rw [hN] at hwd hwl
                                    rw [hxv] at hx ⊢
                                    obtain ⟨nh, hnh⟩ : ∃ nh, N / 18446744073709551616 = nh := ⟨_, rfl⟩
                                    obtain ⟨nl, hnl⟩ : ∃ nl, N % 18446744073709551616 = nl := ⟨_, rfl⟩
                                    obtain ⟨Y, hY⟩ : ∃ Y, N * 10 % 340282366920938463463374607431768211456 = Y := ⟨_, rfl⟩
                                    have hYlt : Y < 340282366920938463463374607431768211456 := by rw [← hY]; exact Nat.mod_lt _ (by decide)
                                    obtain ⟨yh, hyh⟩ : ∃ yh, Y / 18446744073709551616 = yh := ⟨_, rfl⟩
                                    obtain ⟨yl, hyl⟩ : ∃ yl, Y % 18446744073709551616 = yl := ⟨_, rfl⟩
                                    obtain ⟨Z, hZ⟩ : ∃ Z, (Y + xv) % 340282366920938463463374607431768211456 = Z := ⟨_, rfl⟩
                                    obtain ⟨zh, hzh⟩ : ∃ zh, Z / 18446744073709551616 = zh := ⟨_, rfl⟩
                                    obtain ⟨zl, hzl⟩ : ∃ zl, Z % 18446744073709551616 = zl := ⟨_, rfl⟩
                                    have ct := times_any N 10 W hwl (by decide)
                                    obtain ⟨o1, ho1⟩ : ∃ o1, decide (N * 10 < 340282366920938463463374607431768211456) = o1 := ⟨_, rfl⟩
                                    obtain ⟨o2, ho2⟩ : ∃ o2, decide (Y + xv < 340282366920938463463374607431768211456) = o2 := ⟨_, rfl⟩
                                    have cp := fun w => plus_any Y xv w hYlt (by omega)
                                    unfold wv at ct cp
                                    rw [hY, ho1, hnh, hnl, hyh, hyl] at ct
                                    rw [hZ, ho2, hyh, hyl, hzh, hzl, Nat.div_eq_of_lt (by omega : xv < 18446744073709551616), Nat.mod_eq_of_lt (by omega : xv < 18446744073709551616)] at cp
                                    rw [hnh, hnl] at hwd
                                    rw [hY, hZ] at hs
                                    have CT := Lib.hid ct
                                    have CP := Lib.hid cp
                                    have HS := Lib.hid hs
                                    have HZZ : Hid (Z / 18446744073709551616 = zh ∧ Z % 18446744073709551616 = zl) := ⟨hzh, hzl⟩
                                    clear ct cp hs hnh hnl hY hYlt hyh hyl hZ hzh hzl ho1 ho2 hwl hN hxv
                                    have c0 := hwd.c 0 _ rfl
                                    have c1 := hwd.c 1 _ rfl
                                    have cf := hwd.fz
                                    have HWD := Lib.hid hwd
                                    clear hwd
                                    gi_wp2
                                    refine ⟨trivial, (CallsIn.inRound l (callsIn_wide.2 CT.out)).mono ?_⟩
                                    rintro e3 W1 ⟨rfl, hb1⟩
                                    have w1 := HWD.out.below hb1
                                    clear c0 c1 cf
                                    have c0 := w1.c 0 _ rfl
                                    have c1 := w1.c 1 _ rfl
                                    have cf := w1.fz
                                    have f1 := w1.set2 (.int .u64 (yh : Int)) (.int .u64 (yl : Int))
                                    have f2 := ((he.below hb1).other ⟨bW, 0, none⟩ (.int .u64 (yh : Int)) (by show bE ≠ bW; omega)).other ⟨bW, 1, none⟩ (.int .u64 (yl : Int)) (by show bE ≠ bW; omega)
                                    have f3 := ((hr.below hb1).other ⟨bW, 0, none⟩ (.int .u64 (yh : Int)) (by show w.heap.size ≠ bW; omega)).other ⟨bW, 1, none⟩ (.int .u64 (yl : Int)) (by show w.heap.size ≠ bW; omega)
                                    have f4 := ((hds.below hb1).other ⟨bW, 0, none⟩ (.int .u64 (yh : Int)) (by show bS ≠ bW; omega)).other ⟨bW, 1, none⟩ (.int .u64 (yl : Int)) (by show bS ≠ bW; omega)
                                    have f5 := below_set2 (bt hb hb1) (show w.heap.size ≤ bW by omega) (.int .u64 (yh : Int)) (.int .u64 (yl : Int))
                                    have f6 := (hk.below hb1).set2 w1 (.int .u64 (yh : Int)) (.int .u64 (yl : Int))
                                    have f7 : KeepsOthers W (set2 W1 bW (.int .u64 (yh : Int)) (.int .u64 (yl : Int))) := ((keeps_below hb1).trans (KeepsOthers.setCell _ _ _)).trans (KeepsOthers.setCell _ _ _)
                                    obtain ⟨W2, hW2⟩ : ∃ W2, (W1.setCell ⟨bW, 0, none⟩ (.int .u64 (yh : Int))).setCell ⟨bW, 1, none⟩ (.int .u64 (yl : Int)) = W2 := ⟨_, rfl⟩
                                    unfold set2 at f1 f5 f6 f7
                                    rw [hW2] at f1 f2 f3 f4 f5 f6 f7
                                    have g0 := f1.c 0 _ rfl
                                    have g1 := f1.c 1 _ rfl
                                    have F1 := Lib.hid f1
                                    have F2 := Lib.hid f2
                                    have F3 := Lib.hid f3
                                    have F4 := Lib.hid f4
                                    have F5 := Lib.hid f5
                                    have F6 := Lib.hid f6
                                    have F7 := Lib.hid f7
                                    clear f1 f2 f3 f4 f5 f6 f7 w1 he hr hds hb hk hb1 HWD
                                    gi_wp2
                                    refine ⟨trivial, (CallsIn.inRound l (callsIn_wide.2 (CP.out _))).mono ?_⟩
                                    rintro e4 W3 ⟨rfl, hb3⟩
                                    have w3' := F1.out.below hb3
                                    clear c0 c1 cf g0 g1 hW2
                                    have c0 := w3'.c 0 _ rfl
                                    have c1 := w3'.c 1 _ rfl
                                    have cf := w3'.fz
                                    have G1 := Lib.hid (w3'.set2 (.int .u64 (zh : Int)) (.int .u64 (zl : Int)))
                                    have G2 := Lib.hid (((F2.out.below hb3).other ⟨bW, 0, none⟩ (.int .u64 (zh : Int)) (by show bE ≠ bW; omega)).other ⟨bW, 1, none⟩ (.int .u64 (zl : Int)) (by show bE ≠ bW; omega))
                                    have G3 := Lib.hid (((F3.out.below hb3).other ⟨bW, 0, none⟩ (.int .u64 (zh : Int)) (by show w.heap.size ≠ bW; omega)).other ⟨bW, 1, none⟩ (.int .u64 (zl : Int)) (by show w.heap.size ≠ bW; omega))
                                    have G4 := Lib.hid (((F4.out.below hb3).other ⟨bW, 0, none⟩ (.int .u64 (zh : Int)) (by show bS ≠ bW; omega)).other ⟨bW, 1, none⟩ (.int .u64 (zl : Int)) (by show bS ≠ bW; omega))
                                    have G5 := Lib.hid (below_set2 (bt F5.out hb3) (show w.heap.size ≤ bW by omega) (.int .u64 (zh : Int)) (.int .u64 (zl : Int)))
                                    have G6 := Lib.hid ((F6.out.below hb3).set2 w3' (.int .u64 (zh : Int)) (.int .u64 (zl : Int)))
                                    have G7 : Hid (KeepsOthers W (set2 W3 bW (.int .u64 (zh : Int)) (.int .u64 (zl : Int)))) := ((F7.out.trans (keeps_below hb3)).trans (KeepsOthers.setCell _ _ _)).trans (KeepsOthers.setCell _ _ _)
                                    clear w3' hb3
                                    gi_wp2
                                    refine ⟨G7.out, G4.out.kpD, ?_, G2.out, G3.out, G4.out, G5.out, G6.out⟩
                                    rw [HS.out, HZZ.out.1, HZZ.out.2]
                                    exact G1.out
                                  case doneB =>
                                    rintro D W hDw ⟨hwd, he, hr, hds, hb, hk⟩ hKD
                                    have hwf := wideF_lt (digsOf sh)
                                    obtain ⟨N, hN⟩ : ∃ N, wideF (digsOf sh) = N := ⟨_, rfl⟩
                                    rw [hN] at hwd hwf HV2
                                    obtain ⟨nh, hnh⟩ : ∃ nh, N / 18446744073709551616 = nh := ⟨_, rfl⟩
                                    obtain ⟨nl, hnl⟩ : ∃ nl, N % 18446744073709551616 = nl := ⟨_, rfl⟩
                                    have ct := fun w => tell_any neg N E2 w hwf hb1 hb2
                                    obtain ⟨TT, hTT⟩ : ∃ TT, tellF neg N E2 = TT := ⟨_, rfl⟩
                                    rw [hnh, hnl, hTT] at ct
                                    rw [hTT] at HV2
                                    rw [hnh, hnl] at hwd
                                    have CT := Lib.hid ct
                                    have hnm : D ∉ [D1] := fun h => by have := hdl D h; omega
                                    have HK2 := Lib.hid (hk.cons hKD hnm)
                                    have HDS2 : Hid (∀ D' ∈ D :: [D1], w.heap.size ≤ D') := fun D' h => by
                                      rcases List.mem_cons.1 h with rfl | h
                                      · omega
                                      · exact HDS.out D' h
                                    have c0 := hwd.c 0 _ rfl
                                    have c1 := hwd.c 1 _ rfl
                                    have d0 := he.c 0 _ rfl
                                    have HR2 := Lib.hid hr
                                    have HB2 := Lib.hid hb
                                    clear ct hTT hnh hnl hN hwf hnm hr hb hk hKD hds hdl
                                    go_wp2_with fail
                                    refine (CT.out _).mono ?_
                                    rintro e5 W9 ⟨rfl, hb9⟩
                                    have r9 := HR2.out.below hb9
                                    have HB9 := Lib.hid (bt HB2.out hb9)
                                    have HK9 := Lib.hid (HK2.out.below hb9)
                                    have HR9 := Lib.hid r9
                                    clear c0 c1 d0 hwd he hb9
                                    have q0 := r9.c 0 _ rfl
                                    have q1 := r9.c 1 _ rfl
                                    have qf := r9.fz
                                    clear r9
                                    go_wp2_with fail
                                    exact ret_ds (D :: [D1]) HK9.out HDS2.out HR9.out HB9.out (Nat.le_refl _) decAgg decSize HV2.out rfl rfl rfl rfl

theorem parse_dec (s : ByteArray) (w : World) (hs : s.size ≤ 512) :
    Calls Tryz.prog 45 #[.string s] w (Q (.tuple #[.agg #[.int .i64 (decF s.data.toList).2.1, .int .i64 (decF s.data.toList).2.2], .int .i64 (decF s.data.toList).1]) w) := by
  have h := parse_walk s.data.toList w hs _ rfl
  rw [show bs s.data.toList = s from bytes_eq s] at h
  exact h
theorem decF_15 : decF [49, 46, 53] = (0, 15, -1) := by kernel_rfl
theorem xmlF_xy : xmlF [120, 34, 121] = 0 := by kernel_rfl
end Go.Proofs.YtfkiomjplpbmiaaGreatDoor

