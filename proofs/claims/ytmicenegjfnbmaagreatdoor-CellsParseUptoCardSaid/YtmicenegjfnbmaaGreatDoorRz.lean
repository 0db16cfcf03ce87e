/- The document's sheet. -/
import Derived.Test.YtmicenegjfnbmaaGreatDoorRy
namespace Go.Proofs.YtmicenegjfnbmaaGreatDoor
open Go.RowKit Go.Lib
open Go.Proofs.YtmicenegjfnbmaaGreatDoorW.PrintWords Go.Proofs.YtmicenegjfnbmaaGreatDoorW.PrintLast Go.Proofs.YtmicenegjfnbmaaGreatDoorW.PrintMore

def sheetRV (q : Option (List UInt8 × List UInt8)) : Value :=
  match q with
  | none => .tuple #[.string ⟨#[]⟩, .string ⟨#[]⟩, .bool false]
  | some (n, r) => if (r.head? == some 33) && Pl.sheetName n && !Pl.wordly n then .tuple #[.string ⟨n.toArray⟩, .string ⟨r.tail.toArray⟩, .bool true] else .tuple #[.string ⟨#[]⟩, .string ⟨#[]⟩, .bool false]

theorem sheetRV_some (n r : List UInt8) : sheetRV (some (n, r)) = if (r.head? == some 33) && Pl.sheetName n && !Pl.wordly n then .tuple #[.string ⟨n.toArray⟩, .string ⟨r.tail.toArray⟩, .bool true] else .tuple #[.string ⟨#[]⟩, .string ⟨#[]⟩, .bool false] := rfl
theorem strOf_enc (l : List UInt8) : strOfNums (RefP.enc l) = ⟨l.toArray⟩ := RefP.enc_str l

set_option maxRecDepth 100000 in
set_option maxHeartbeats 8000000 in
theorem refSheet_quoted (s : ByteArray) (w : World) (hs : s.size ≤ 4294967280) (h0 : 0 < s.size) (hq : (s[0]'h0).toNat = 39) (V : Value) (HV : Hid (V = sheetRV (quotedL [] (s.data.toList.drop 1)))) :
    Calls Tryz.prog 44 #[.string s] w (Q V w) := by
  have hsz : s.data.toList.length = s.size := rfl
  have dq : (((s[0]'h0).toNat : Int) == 39) = true := by rw [beq_iff_eq]; omega
  have HB0 := Lib.hid (Below.refl w.heap.size w)
  clear hq
  have HL := Lib.hid hsz
  clear hsz
  go_enter Tryz.func44, Tryz.ntmps44
  go_wp2_with fail
  clear dq
  go_loopg [5, 6] s.size (fun gf v5 v6 wx => ∃ (k : Nat) (acc : List UInt8), 1 ≤ k ∧ k ≤ s.size ∧ s.size ≤ k + gf ∧ acc.length ≤ k ∧ v6 = .int .i64 (k : Int) ∧ Hid (quotedL acc (s.data.toList.drop k) = quotedL [] (s.data.toList.drop 1)) ∧ Hid (Kd.R (Kd.int .u8) 5 wx w.heap.size (fun _ => True) v5 (RefP.enc acc)) ∧ Hid (Below w.heap.size w wx))
  case atStart => exact ⟨1, [], Nat.le_refl _, h0, by omega, Nat.zero_le _, rfl, rfl, Kd.R_nil _ _ _ _ _, HB0.out⟩
  case round =>
    obtain ⟨k, acc, k1, k2, k3, k4, rfl, HQ, HO, HB⟩ := hrel
    by_cases hz : k < s.size
    · obtain ⟨g', rfl⟩ : ∃ g', gk = g' + 1 := ⟨gk - 1, by omega⟩
      have hdrop := List.drop_eq_getElem_cons (show k < s.data.toList.length from hz)
      have hq0 := HQ.out
      rw [hdrop, show s.data.toList[k] = s[k]'hz from rfl, quotedL] at hq0
      by_cases c39 : s[k]'hz = 39
      · rw [if_pos c39] at hq0
        have d1 : (((s[k]'hz).toNat : Int) == 39) = true := by rw [c39]; rfl
        have d2 : (((s[k]'hz).toNat : Int) != 39) = false := by rw [c39]; rfl
        clear hdrop c39 HQ
        by_cases h2 : k + 1 < s.size
        · have hd2 := List.drop_eq_getElem_cons (show k + 1 < s.data.toList.length from h2)
          have hh2 : (s.data.toList.drop (k + 1)).head? = some (s[k + 1]'h2) := by rw [hd2]; rfl
          have ht2 : (s.data.toList.drop (k + 1)).tail = s.data.toList.drop (k + 2) := by rw [hd2]; rfl
          have dl : ((k : Int) + 1 < (s.size : Int)) = True := eq_true (by omega)
          have dk : decide (k + 1 < s.size) = true := by rw [decide_eq_true_eq]; exact h2
          rw [hh2] at hq0
          by_cases c2 : s[k + 1]'h2 = 39
          · rw [if_pos (by rw [c2])] at hq0
            rw [ht2] at hq0
            have HQ2 := Lib.hid hq0
            have d3 : (((s[k + 1]'h2).toNat : Int) == 39) = true := by rw [c2]; rfl
            have HE : Hid (RefP.enc (acc ++ [39]) = RefP.enc acc ++ [(39 : Int)]) := by show _ = _; simp [RefP.enc]
            have hlen : (RefP.enc acc).length ≤ 4294967280 := by simp [RefP.enc]; omega
            clear hq0 c2 hh2 hd2 ht2
            go_wp2_with (((with_reducible refine gate_builtin (b := .append) (xs := #[.tmp 45, .tmp 46]) rfl ?_); at_builtin; refine Kd.R_append (Kd.int .u8) (w0 := w) w.heap.size rfl (.tmp 45) (.tmp 46) 48 5 (.int .u8 0) 1 rfl Tryz.underlying48 PCellsPrint.info5 rfl (by decide) (by omega) u5 (RefP.enc acc) 39 [.int .u8 39] (fun _ => True) (fun _ => False) rfl rfl ?aP (fun _ hk => hk.elim) ?aF ?aO ?aB ?aS ?aL ?_; (case aP => exact rfl); (case aB => exact HB.out); (case aF => exact (fun _ _ => trivial)); (case aO => exact HO.out); (case aS => exact HB.out.size); (case aL => omega); intro v1 w1 ho hb hg hat; rw [← HE.out] at ho; replace HO := Lib.hid ho; replace HB := Lib.hid hb; clear ho hb hg hat))
            go_roundg g'
            case measure => omega
            case rel => exact ⟨k + 2, acc ++ [39], by omega, by omega, by omega, by rw [List.length_append]; simp; omega, by go_num, HQ2.out, HO.out, HB.out⟩
          · rw [if_neg (fun h => c2 (by injection h))] at hq0
            have hv := HV.out
            rw [← hq0] at hv
            have HV2 := Lib.hid hv
            clear hq0 hv HV
            have hcv := own_string (P := Tryz.prog) Tryz.underlying48 Tryz.underlying5 Tryz.underlying9 (Kd.own_of_R HO.out)
            rw [strOf_enc] at hcv
            have d3 : (((s[k + 1]'h2).toNat : Int) == 39) = false := by rw [beq_eq_false_iff_ne]; intro h; apply c2; apply UInt8.toNat_inj.1; have : (39 : UInt8).toNat = 39 := rfl; omega
            have C1 := Lib.hid (fun w => refSheetName_any ⟨acc.toArray⟩ w)
            have C2 := Lib.hid (fun w => refPlain_any ⟨acc.toArray⟩ w (by rw [size_mk]; omega))
            by_cases c33 : (s[k + 1]'h2).toNat = 33
            · have d4 : (((s[k + 1]'h2).toNat : Int) == 33) = true := by rw [beq_iff_eq]; omega
              have h33 : ((s.data.toList.drop (k + 1)).head? == some 33) = true := by rw [hh2, beq_byte, beq_iff_eq]; exact c33
              cases hsn : Pl.sheetName acc with
              | false =>
                have c1 := C1.out
                rw [show (⟨acc.toArray⟩ : ByteArray).data.toList = acc from rfl, hsn] at c1
                have D1 := Lib.hid c1
                have HZ : Hid (V = .tuple #[.string ⟨#[]⟩, .string ⟨#[]⟩, .bool false]) := by
                  show _ = _; rw [HV2.out]; rw [sheetRV_some, h33, hsn]; rfl
                clear c1 C1 C2 HV2 h33 hh2 ht2 hd2 c33 c2
                go_wp2_with fail
                refine (D1.out _).mono ?_
                rintro e' w1 ⟨rfl, hb⟩
                have HB2 := Lib.hid (bt HB.out hb)
                clear hb hcv
                go_wp2_with fail
                rw [HZ.out]
                exact bodyPost_ret (v := .tuple #[.string ⟨#[]⟩, .string ⟨#[]⟩, .bool false]) (by simp [results, Tryz.results44, go_sem]) rfl ⟨rfl, HB2.out⟩
              | true =>
                have c1 := C1.out
                rw [show (⟨acc.toArray⟩ : ByteArray).data.toList = acc from rfl, hsn] at c1
                have D1 := Lib.hid c1
                have c3 := C2.out
                rw [show (⟨acc.toArray⟩ : ByteArray).data.toList = acc from rfl] at c3
                cases hwd : Pl.wordly acc with
                | true =>
                  rw [hwd] at c3
                  have D2 := Lib.hid c3
                  have HZ : Hid (V = .tuple #[.string ⟨#[]⟩, .string ⟨#[]⟩, .bool false]) := by
                    show _ = _; rw [HV2.out]; rw [sheetRV_some, h33, hsn, hwd]; rfl
                  clear c1 c3 C1 C2 HV2 h33 hh2 ht2 hd2 c33 c2
                  go_wp2_with fail
                  refine (D1.out _).mono ?_
                  rintro e' w1 ⟨rfl, hb⟩
                  have HB2 := Lib.hid (bt HB.out hb)
                  clear hb hcv
                  go_wp2_with fail
                  refine (D2.out _).mono ?_
                  rintro e' w2 ⟨rfl, hb⟩
                  have HB3 := Lib.hid (bt HB2.out hb)
                  clear hb
                  go_wp2_with fail
                  rw [HZ.out]
                  exact bodyPost_ret (v := .tuple #[.string ⟨#[]⟩, .string ⟨#[]⟩, .bool false]) (by simp [results, Tryz.results44, go_sem]) rfl ⟨rfl, HB3.out⟩
                | false =>
                  rw [hwd] at c3
                  have D2 := Lib.hid c3
                  have hext : s.extract (k + 2) s.size = ⟨(s.data.toList.drop (k + 1)).tail.toArray⟩ := by
                    apply ByteArray.ext
                    apply Array.toList_inj.1
                    rw [Lib.extract_to_end, ht2]
                  have HZ : Hid (V = .tuple #[.string ⟨acc.toArray⟩, .string (s.extract (k + 2) s.size), .bool true]) := by
                    show _ = _; rw [HV2.out, hext]; rw [sheetRV_some, h33, hsn, hwd]; rfl
                  clear c1 c3 C1 C2 HV2 h33 hh2 ht2 hd2 c33 c2 hext
                  go_wp2_with fail
                  refine (D1.out _).mono ?_
                  rintro e' w1 ⟨rfl, hb⟩
                  have HB2 := Lib.hid (bt HB.out hb)
                  clear hb hcv
                  go_wp2_with fail
                  refine (D2.out _).mono ?_
                  rintro e' w2 ⟨rfl, hb⟩
                  have HB3 := Lib.hid (bt HB2.out hb)
                  clear hb
                  go_wp2_with fail
                  go_region
                  go_wp2_with fail
                  rw [HZ.out]
                  exact bodyPost_ret (v := .tuple #[.string ⟨acc.toArray⟩, .string (s.extract (k + 2) s.size), .bool true]) (by simp [results, Tryz.results44, go_sem]) rfl ⟨rfl, HB3.out.drew⟩
            · have d4 : (((s[k + 1]'h2).toNat : Int) == 33) = false := by rw [beq_eq_false_iff_ne]; omega
              have HZ : Hid (V = .tuple #[.string ⟨#[]⟩, .string ⟨#[]⟩, .bool false]) := by
                show _ = _
                have h33 : ((s.data.toList.drop (k + 1)).head? == some 33) = false := by rw [hh2, beq_byte, beq_eq_false_iff_ne]; exact c33
                rw [HV2.out]; rw [sheetRV_some, h33]; rfl
              clear C1 C2 HV2 hh2 ht2 hd2 c33 c2
              go_wp2_with fail
              rw [HZ.out]
              exact bodyPost_ret (v := .tuple #[.string ⟨#[]⟩, .string ⟨#[]⟩, .bool false]) (by simp [results, Tryz.results44, go_sem]) rfl ⟨rfl, HB.out⟩
        · have hnil : s.data.toList.drop (k + 1) = [] := List.drop_eq_nil_of_le (by show s.size ≤ k + 1; omega)
          rw [hnil] at hq0
          rw [if_neg (by simp)] at hq0
          have HZ : Hid (V = .tuple #[.string ⟨#[]⟩, .string ⟨#[]⟩, .bool false]) := by
            show _ = _; rw [HV.out, ← hq0]; rfl
          have dk : decide (k + 1 < s.size) = false := by rw [decide_eq_false_iff_not]; exact h2
          have hcv := own_string (P := Tryz.prog) Tryz.underlying48 Tryz.underlying5 Tryz.underlying9 (Kd.own_of_R HO.out)
          rw [strOf_enc] at hcv
          clear hq0 hnil HV
          go_wp2_with fail
          rw [HZ.out]
          exact bodyPost_ret (v := .tuple #[.string ⟨#[]⟩, .string ⟨#[]⟩, .bool false]) (by simp [results, Tryz.results44, go_sem]) rfl ⟨rfl, HB.out⟩
      · rw [if_neg c39] at hq0
        have HQ2 := Lib.hid hq0
        have hne : ¬ (s[k]'hz).toNat = 39 := fun h => c39 (UInt8.toNat_inj.1 h)
        have d1 : (((s[k]'hz).toNat : Int) == 39) = false := by rw [beq_eq_false_iff_ne]; omega
        have d2 : (((s[k]'hz).toNat : Int) != 39) = true := by rw [bne_iff_ne]; omega
        have HE : Hid (RefP.enc (acc ++ [s[k]'hz]) = RefP.enc acc ++ [((s[k]'hz).toNat : Int)]) := by show _ = _; simp [RefP.enc]
        have hlen : (RefP.enc acc).length ≤ 4294967280 := by simp [RefP.enc]; omega
        clear hq0 hdrop hne c39 HQ
        go_wp2_with (((with_reducible refine gate_builtin (b := .append) (xs := #[.tmp 27, .tmp 31]) rfl ?_); at_builtin; refine Kd.R_append (Kd.int .u8) (w0 := w) w.heap.size rfl (.tmp 27) (.tmp 31) 48 5 (.int .u8 0) 1 rfl Tryz.underlying48 PCellsPrint.info5 rfl (by decide) (by omega) u5 (RefP.enc acc) ((s[k]'hz).toNat : Int) [.int .u8 ((s[k]'hz).toNat : Int)] (fun _ => True) (fun _ => False) rfl rfl ?aP (fun _ hk => hk.elim) ?aF ?aO ?aB ?aS ?aL ?_; (case aP => exact rfl); (case aB => exact HB.out); (case aF => exact (fun _ _ => trivial)); (case aO => exact HO.out); (case aS => exact HB.out.size); (case aL => omega); intro v1 w1 ho hb hg hat; rw [← HE.out] at ho; replace HO := Lib.hid ho; replace HB := Lib.hid hb; clear ho hb hg hat))
        go_roundg g'
        case measure => omega
        case rel => exact ⟨k + 1, acc ++ [s[k]'hz], by omega, by omega, by omega, by rw [List.length_append]; simp; omega, by go_num, HQ2.out, HO.out, HB.out⟩
    · obtain rfl : k = s.size := by omega
      have hnil : s.data.toList.drop s.size = [] := List.drop_eq_nil_of_le (Nat.le_refl _)
      have hq0 := HQ.out
      rw [hnil, quotedL] at hq0
      have HZ : Hid (V = .tuple #[.string ⟨#[]⟩, .string ⟨#[]⟩, .bool false]) := by
        show _ = _; rw [HV.out, ← hq0]; rfl
      have dk : decide (s.size < s.size) = false := by simp
      clear hq0 hnil HQ HV
      go_wp2_with fail
      rw [HZ.out]
      exact bodyPost_ret (v := .tuple #[.string ⟨#[]⟩, .string ⟨#[]⟩, .bool false]) (by simp [results, Tryz.results44, go_sem]) rfl ⟨rfl, HB.out⟩
end Go.Proofs.YtmicenegjfnbmaaGreatDoor
