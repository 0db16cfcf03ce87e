/- The walk of quireref06.first. -/
import Derived.Test.YtfkiomjplpbmiaaGreatDoorUbM
import Derived.Deep.RegionHeld3
import Derived.BigQuiet
import Derived.Deep.RegionWith
import Derived.Lib.PathFns
import Derived.Test.YtfkiomjplpbmiaaGreatDoorM4
import Derived.Lib.IndexBytes
namespace Go.Proofs.YtfkiomjplpbmiaaGreatDoor
open Go.RowKit Go.Lib

theorem offN_bd (k : Nat) : 0 ≤ offN k ∧ offN k ≤ 240 := by unfold offN; split; omega; split; omega; split <;> omega
theorem numK_bd (k : Nat) (l : List UInt8) (i : Nat) (h1 : 1 ≤ i) (h4 : i ≤ 4) : -70000000 ≤ numK k l i ∧ numK k l i ≤ 70000000 := by
  have k0 := (l.getD 0 0).toNat_lt
  have k1 := (l.getD 1 0).toNat_lt
  have k2 := (l.getD 2 0).toNat_lt
  have k3 := (l.getD 3 0).toNat_lt
  have ho := offN_bd k
  match i, h1, h4 with
  | 1, _, _ => show _ ≤ ((l.getD 0 0).toNat : Int) - offN k ∧ ((l.getD 0 0).toNat : Int) - offN k ≤ _; omega
  | 2, _, _ => show _ ≤ (((l.getD 0 0).toNat : Int) - offN k) * 64 + ((l.getD 1 0).toNat : Int) - 128 ∧ (((l.getD 0 0).toNat : Int) - offN k) * 64 + ((l.getD 1 0).toNat : Int) - 128 ≤ _; omega
  | 3, _, _ => show _ ≤ ((((l.getD 0 0).toNat : Int) - offN k) * 64 + ((l.getD 1 0).toNat : Int) - 128) * 64 + ((l.getD 2 0).toNat : Int) - 128 ∧ ((((l.getD 0 0).toNat : Int) - offN k) * 64 + ((l.getD 1 0).toNat : Int) - 128) * 64 + ((l.getD 2 0).toNat : Int) - 128 ≤ _; omega
  | 4, _, _ => show _ ≤ (((((l.getD 0 0).toNat : Int) - offN k) * 64 + ((l.getD 1 0).toNat : Int) - 128) * 64 + ((l.getD 2 0).toNat : Int) - 128) * 64 + ((l.getD 3 0).toNat : Int) - 128 ∧ (((((l.getD 0 0).toNat : Int) - offN k) * 64 + ((l.getD 1 0).toNat : Int) - 128) * 64 + ((l.getD 2 0).toNat : Int) - 128) * 64 + ((l.getD 3 0).toNat : Int) - 128 ≤ _; omega
theorem getD_byte (s : ByteArray) (i : Nat) (h : i < s.size) : s.data.toList.getD i 0 = s[i]'h := by
  have h' : i < s.data.toList.length := h
  rw [List.getD_eq_getElem?_getD, List.getElem?_eq_getElem h']; rfl

set_option maxRecDepth 100000 in
set_option maxHeartbeats 8000000 in
theorem u6first (s : ByteArray) (w : World) (h0 : 0 < s.size) : Calls Tryz.prog 148 #[.string s] w (Q (.tuple #[.int .i64 (firstM s.data.toList).1, .int .i64 ((firstM s.data.toList).2.1 : Int), .bool (firstM s.data.toList).2.2]) w) := by
  obtain ⟨R, hR⟩ : ∃ R, firstM s.data.toList = R := ⟨_, rfl⟩
  rw [hR]
  have HR := Lib.hid hR
  obtain ⟨V, hV⟩ : ∃ V, (Value.tuple #[.int .i64 R.1, .int .i64 (R.2.1 : Int), .bool R.2.2]) = V := ⟨_, rfl⟩
  rw [hV]
  have HV := Lib.hid hV
  clear hR hV
  go_enter Tryz.func148, Tryz.ntmps148
  go_wp2_with fail
  go_loopg [5] 4 (fun gf v5 wx => ∃ k : Nat, v5 = .int .i64 (k : Int) ∧ 1 ≤ k ∧ k + gf = 5 ∧ Hid (Below w.heap.size w wx) ∧ Hid (firstK s.data.toList gf k = R))
  case atStart => exact ⟨1, rfl, Nat.le_refl _, rfl, Below.refl _ _, HR.out⟩
  case round =>
    obtain ⟨k, rfl, hk1, hkg, HB, HK⟩ := hrel
    have hsz : s.data.toList.length = s.size := rfl
    by_cases hk4 : k ≤ 4
    · have d4 : decide ((k : Int) ≤ 4) = true := decide_eq_true (by omega)
      by_cases hks : k ≤ s.size
      · have ds : decide ((k : Int) ≤ (s.size : Int)) = true := decide_eq_true (by omega)
        obtain ⟨g', rfl⟩ : ∃ g', gk = g' + 1 := ⟨gk - 1, by omega⟩
        have hq := HK.out
        rw [firstK, if_neg (by omega)] at hq
        have HQ := Lib.hid hq
        clear hq HK
        have hb0 := getD_byte s 0 h0
        have HB0 := Lib.hid hb0
        have hlt := (s[0]'h0).toNat_lt
        clear hb0
        go_upto_if 22 with (fail)
        go_cut [6] (fun v6 wx => v6 = .int .i64 (if k = 2 then ((s[0]'h0).toNat : Int) - 192 else ((s[0]'h0).toNat : Int)) ∧ Hid (Below w.heap.size w wx))
        case first =>
          by_cases h : k = 2
          · subst h
            go_wp2_with fail
            go_meet
            exact ⟨by simp, HB⟩
          · have H := Lib.hid h
            have e : ((k : Int) == 2) = false := by rw [beq_eq_false_iff_ne]; omega
            clear h
            go_wp2_with fail
            go_meet
            exact ⟨by rw [if_neg H.out], HB⟩
        replace HB := hcut.2
        have hv6 := hcut.1
        subst hv6
        clear hcut
        obtain ⟨m2, hm2⟩ : ∃ m, (if k = 2 then ((s[0]'h0).toNat : Int) - 192 else ((s[0]'h0).toNat : Int)) = m := ⟨_, rfl⟩
        rw [hm2]
        have HM2 := Lib.hid hm2
        clear hm2
        go_upto_if 28 with (fail)
        go_cut [6] (fun v6 wx => v6 = .int .i64 (if k = 3 then ((s[0]'h0).toNat : Int) - 224 else m2) ∧ Hid (Below w.heap.size w wx))
        case first =>
          by_cases h : k = 3
          · subst h
            go_wp2_with fail
            go_meet
            exact ⟨by simp, HB⟩
          · have H := Lib.hid h
            have e : ((k : Int) == 3) = false := by rw [beq_eq_false_iff_ne]; omega
            clear h
            go_wp2_with fail
            go_meet
            exact ⟨by rw [if_neg H.out], HB⟩
        replace HB := hcut.2
        have hv6 := hcut.1
        subst hv6
        clear hcut
        obtain ⟨m3, hm3⟩ : ∃ m, (if k = 3 then ((s[0]'h0).toNat : Int) - 224 else m2) = m := ⟨_, rfl⟩
        rw [hm3]
        have HM3 := Lib.hid hm3
        clear hm3
        go_upto_if 34 with (fail)
        go_cut [6] (fun v6 wx => v6 = .int .i64 (if k = 4 then ((s[0]'h0).toNat : Int) - 240 else m3) ∧ Hid (Below w.heap.size w wx))
        case first =>
          by_cases h : k = 4
          · subst h
            go_wp2_with fail
            go_meet
            exact ⟨by simp, HB⟩
          · have H := Lib.hid h
            have e : ((k : Int) == 4) = false := by rw [beq_eq_false_iff_ne]; omega
            clear h
            go_wp2_with fail
            go_meet
            exact ⟨by rw [if_neg H.out], HB⟩
        replace HB := hcut.2
        have hv6 := hcut.1
        subst hv6
        clear hcut
        have hn1 : (if k = 4 then ((s[0]'h0).toNat : Int) - 240 else m3) = numK k s.data.toList 1 := by
          rw [← HM3.out, ← HM2.out]
          show _ = ((s.data.toList.getD 0 0).toNat : Int) - offN k
          rw [HB0.out]
          unfold offN
          have hk : k = 1 ∨ k = 2 ∨ k = 3 ∨ k = 4 := by omega
          rcases hk with rfl | rfl | rfl | rfl <;> simp
        rw [hn1]
        clear hn1 HB0 hlt HM2 HM3
        go_wp2_with fail
        go_loopg [6, 7] k (fun gf v6 v7 wx => ∃ i : Nat, v7 = .int .i64 (i : Int) ∧ v6 = .int .i64 (numK k s.data.toList i) ∧ 1 ≤ i ∧ i ≤ k ∧ k ≤ i + gf ∧ Hid (Below w.heap.size w wx))
        case atStart => exact ⟨1, rfl, rfl, by omega, by omega, by omega, HB⟩
        case round =>
          obtain ⟨i, rfl, rfl, hi1, hik, hig, HB⟩ := hrel
          obtain ⟨b1, b2⟩ := numK_bd k s.data.toList i hi1 (by omega)
          by_cases hlt : i < k
          · have dl : decide ((i : Int) < (k : Int)) = true := decide_eq_true (by omega)
            obtain ⟨f', rfl⟩ : ∃ f', gk = f' + 1 := ⟨gk - 1, by omega⟩
            have his : i < s.size := by omega
            have hby := getD_byte s i his
            obtain ⟨j, rfl⟩ : ∃ j, i = j + 1 := ⟨i - 1, by omega⟩
            have hnx : numK k s.data.toList (j + 2) = numK k s.data.toList (j + 1) * 64 + ((s[j + 1]'his).toNat : Int) - 128 := by rw [← hby]; rfl
            have HNX := Lib.hid hnx
            have hl8 := (s[j + 1]'his).toNat_lt
            generalize numK k s.data.toList (j + 1) = n at *
            clear hnx hby
            go_wp2_with fail
            go_roundg f'
            case measure => omega
            case rel => exact ⟨j + 2, by go_num, by rw [HNX.out], by omega, by omega, by omega, HB⟩
          · have dl : decide ((i : Int) < (k : Int)) = false := decide_eq_false (by omega)
            obtain rfl : i = k := by omega
            obtain ⟨n, hn⟩ : ∃ n, numK i s.data.toList i = n := ⟨_, rfl⟩
            have hq1 : charP n ∧ encodeRune n = s.data.toList.take i → (n, i, true) = R := fun h => by
              have h5 := HQ.out
              rw [if_pos (by unfold testK; rw [hn]; exact h), hn] at h5
              exact h5
            have hq2 : ¬ (charP n ∧ encodeRune n = s.data.toList.take i) → firstK s.data.toList g' (i + 1) = R := fun h => by
              have h5 := HQ.out
              rw [if_neg (by unfold testK; rw [hn]; exact h)] at h5
              exact h5
            rw [hn] at b1 b2 ⊢
            have HQ1 := Lib.hid hq1
            have HQ2 := Lib.hid hq2
            clear hq1 hq2 hn HQ
            have C1 := Lib.hid (fun w => u6char n w)
            by_cases hn0 : 0 ≤ n
            · have dn : decide (0 ≤ n) = true := decide_eq_true hn0
              by_cases hc : charP n
              · have CW := Lib.hid (fun w => u6write n w hc)
                rw [decide_eq_true hc] at C1
                obtain ⟨E, hE⟩ : ∃ E, encodeRune n = E := ⟨_, rfl⟩
                rw [hE] at CW HQ1 HQ2
                obtain ⟨S, hS⟩ : ∃ S : ByteArray, (⟨E.toArray⟩ : ByteArray) = S := ⟨_, rfl⟩
                have hES : E = S.toList := by rw [← hS, Lib.toList_data]
                have hTK : s.data.toList.take i = (s.extract 0 i).toList := by rw [Lib.toList_data, extract_upto]
                rw [hES, hTK] at HQ1 HQ2
                rw [hES] at CW hS
                have hii : (i : Int) ≤ (s.size : Int) := by omega
                have HS := Lib.hid hS
                clear hS hTK hE
                cases hb : (S.toList == (s.extract 0 i).toList) with
                | true =>
                  have HR2 := Lib.hid (HQ1.out ⟨hc, by simpa using hb⟩)
                  clear HQ1 HQ2 hc hES
                  have hq : V = .tuple #[.int .i64 n, .int .i64 (i : Int), .bool true] := by rw [← HV.out, ← HR2.out]
                  have HQ3 := Lib.hid hq
                  clear hq HV HR2
                  go_wp2_with fail
                  go_region_with (first
                      | (go_at_call 192; refine (C1.out _).mono ?_; rintro e w1 ⟨rfl, rfl⟩)
                      | (go_at_call 193; refine (CW.out _).mono ?_; rintro e w1 ⟨v, rfl, ho, hbl⟩; have hcv := own_str (P := Tryz.prog) Tryz.underlying76 Tryz.underlying5 Tryz.underlying9 ho; rw [HS.out] at hcv))
                  go_wp2_with fail
                  go_ret3
                  exact ⟨by rw [HQ3.out]; rfl, bt HB.out (bt (Below.refl _ _).drew hbl)⟩
                | false =>
                  have HR2 := Lib.hid (HQ2.out (fun h => by
                    have h2 := h.2
                    have : (S.toList == (s.extract 0 i).toList) = true := by rw [h2]; exact beq_self_eq_true _
                    rw [hb] at this
                    cases this))
                  clear HQ1 HQ2 hc hES
                  go_wp2_with fail
                  go_region_with (first
                      | (go_at_call 192; refine (C1.out _).mono ?_; rintro e w1 ⟨rfl, rfl⟩)
                      | (go_at_call 193; refine (CW.out _).mono ?_; rintro e w1 ⟨v, rfl, ho, hbl⟩; have hcv := own_str (P := Tryz.prog) Tryz.underlying76 Tryz.underlying5 Tryz.underlying9 ho; rw [HS.out] at hcv))
                  go_wp2_with fail
                  go_roundg g'
                  case measure => omega
                  case rel => exact ⟨i + 1, by go_num, by omega, by omega, bt HB.out (bt (Below.refl _ _).drew hbl), HR2⟩
              · rw [decide_eq_false hc] at C1
                have HR2 := Lib.hid (HQ2.out (fun h => hc h.1))
                clear HQ1 HQ2 hc
                go_wp2_with fail
                go_quiet ((go_at_call 192; exact Calls.quiet_of_same (C1.out _)))
                go_wp2_with fail
                go_roundg g'
                case measure => omega
                case rel => exact ⟨i + 1, by go_num, by omega, by omega, below_drewN HB.out _, HR2⟩
            · have dn : decide (0 ≤ n) = false := decide_eq_false hn0
              have HR2 := Lib.hid (HQ2.out (fun h => hn0 h.1.1))
              clear HQ1 HQ2
              go_wp2_with fail
              go_quiet (fail)
              go_wp2_with fail
              go_roundg g'
              case measure => omega
              case rel => exact ⟨i + 1, by go_num, by omega, by omega, below_drewN HB.out _, HR2⟩
      · have ds : decide ((k : Int) ≤ (s.size : Int)) = false := decide_eq_false (by omega)
        have hq : V = .tuple #[.int .i64 65533, .int .i64 1, .bool false] := by
          rw [← HV.out, ← HK.out]
          obtain ⟨g', rfl⟩ : ∃ g', gk = g' + 1 := ⟨gk - 1, by omega⟩
          rw [firstK, if_pos (by omega)]; rfl
        have HQ := Lib.hid hq
        clear hq HK HV
        go_wp2_with fail
        go_ret3
        exact ⟨by rw [HQ.out]; rfl, HB.out⟩
    · have d4 : decide ((k : Int) ≤ 4) = false := decide_eq_false (by omega)
      have hq : V = .tuple #[.int .i64 65533, .int .i64 1, .bool false] := by
        rw [← HV.out, ← HK.out]
        obtain rfl : gk = 0 := by omega
        rfl
      have HQ := Lib.hid hq
      clear hq HK HV
      go_wp2_with fail
      go_ret3
      exact ⟨by rw [HQ.out]; rfl, HB.out⟩
end Go.Proofs.YtfkiomjplpbmiaaGreatDoor

/- The walk of quireref06.Xml. -/
namespace Go.Proofs.YtfkiomjplpbmiaaGreatDoor
open Go.RowKit Go.Lib

theorem firstM_w (l : List UInt8) (hne : l ≠ []) : 1 ≤ (firstM l).2.1 ∧ (firstM l).2.1 ≤ l.length := by
  have hl : 0 < l.length := List.length_pos_iff.2 hne
  rw [firstM_eq l hne]
  split
  · exact ⟨Nat.le_refl _, hl⟩
  · exact ⟨decodeL_width l, decodeL_le l hne⟩

theorem badC_iff (c : Int) : badC c = true ↔ (c < 32 ∧ c ≠ 9 ∧ c ≠ 10 ∧ c ≠ 13) ∨ c = 65534 ∨ c = 65535 := by
  unfold badC
  simp only [Bool.or_eq_true, Bool.and_eq_true, decide_eq_true_eq, bne_iff_ne, beq_iff_eq, ne_eq]
  omega

set_option maxRecDepth 100000 in
set_option maxHeartbeats 8000000 in
theorem u6xml (s : ByteArray) (w : World) : Calls Tryz.prog 95 #[.string s] w (Q (.int .i64 (xmlR s.size s.data.toList)) w) := by
  obtain ⟨R, hR⟩ : ∃ R, xmlR s.size s.data.toList = R := ⟨_, rfl⟩
  rw [hR]
  have HR := Lib.hid hR
  clear hR
  go_enter Tryz.func95, Tryz.ntmps95
  go_wp2_with fail
  go_loopg [0] s.size (fun gf v0 wx => ∃ t : ByteArray, v0 = .string t ∧ t.size ≤ gf ∧ Hid (Below w.heap.size w wx) ∧ Hid (xmlR gf t.data.toList = R))
  case atStart => exact ⟨s, rfl, Nat.le_refl _, Below.refl _ _, HR.out⟩
  case round =>
    obtain ⟨t, rfl, htg, HB, HK⟩ := hrel
    have hsz : t.data.toList.length = t.size := rfl
    by_cases h0 : 0 < t.size
    · obtain ⟨g', rfl⟩ : ∃ g', gk = g' + 1 := ⟨gk - 1, by omega⟩
      have C1 := fun w => u6first t w h0
      have hq := HK.out
      obtain ⟨hn1, hn2⟩ := firstM_w t.data.toList (by intro h; rw [h] at hsz; simp at hsz; omega)
      have hq2 : (if (firstM t.data.toList).2.2 = false ∨ badC (firstM t.data.toList).1 = true then 20 else xmlR g' (t.data.toList.drop (firstM t.data.toList).2.1)) = R := by
        cases hl : t.data.toList with
        | nil => rw [hl] at hsz; simp at hsz; omega
        | cons b l => rw [hl, xmlR] at hq; exact hq
      clear hq HK
      generalize firstM t.data.toList = F at *
      obtain ⟨c, n, is⟩ := F
      dsimp only at C1 hn1 hn2 hq2
      rw [hsz] at hn2
      rw [← extract_to_end t n] at hq2
      have hzs : (t.extract n t.size).size ≤ g' := by rw [ByteArray.size_extract]; omega
      have HQ := Lib.hid hq2
      have HC := Lib.hid C1
      have d0 : decide (0 < (t.size : Int)) = true := decide_eq_true (by omega)
      have hn3 : (n : Int) ≤ (t.size : Int) := by omega
      clear C1 hq2 hsz
      go_wp2_with fail
      refine (HC.out _).mono ?_
      rintro e w1 ⟨rfl, hb⟩
      replace HB := Lib.hid (bt HB.out hb)
      clear hb HC
      cases is with
      | false =>
        have hr : R = 20 := by rw [← HQ.out, if_pos (Or.inl rfl)]
        have HR2 := Lib.hid hr
        clear hr HQ
        go_wp2_with fail
        go_ret
        exact ⟨by rw [HR2.out]; rfl, HB.out⟩
      | true =>
        go_wp2_with fail
        all_goals first
          | (go_roundg g'
             case measure => omega
             case rel => exact ⟨_, rfl, hzs, HB, Lib.hid (by have hq := HQ.out; rw [if_neg (by rintro (h | h); cases h; have := (badC_iff c).1 h; clear HQ HB hzs; (try simp only [beq_eq_false_iff_ne, ne_eq] at *); omega)] at hq; exact hq)⟩)
          | (go_ret
             exact ⟨by rw [← HQ.out, if_pos (Or.inr ((badC_iff c).2 (by clear HQ HB hzs; (try simp only [beq_iff_eq, ne_eq] at *); omega)))]; rfl, HB.out⟩)
    · have d0 : decide (0 < (t.size : Int)) = false := decide_eq_false (by omega)
      have hr : R = 0 := by
        rw [← HK.out]
        have : t.data.toList = [] := List.eq_nil_of_length_eq_zero (by omega)
        rw [this]
        cases gk <;> rfl
      have HR2 := Lib.hid hr
      clear hr HK
      go_wp2_with fail
      go_ret
      exact ⟨by rw [HR2.out]; rfl, HB.out⟩

theorem xmlRefIs : XmlRefIs xmlF := fun t w _ => by
  have h := u6xml t w
  have e : xmlR t.size t.data.toList = xmlF t.data.toList := xmlR_F _
  rw [e] at h
  exact h
end Go.Proofs.YtfkiomjplpbmiaaGreatDoor

