/- The document's sheet, without a mark; and whole. -/
import Derived.Test.YtmicenegjfnbmaaGreatDoorRz
import Derived.Deep.RegionHeld3
namespace Go.Proofs.YtmicenegjfnbmaaGreatDoor
open Go.RowKit Go.Lib

set_option maxRecDepth 100000 in
set_option maxHeartbeats 8000000 in
theorem refSheet_bare (s : ByteArray) (w : World) (hs : s.size ≤ 4294967280) (hq : ∀ h : 0 < s.size, (s[0]'h).toNat ≠ 39) (a1 : Nat) (H1 : Hid (EndsAt (· != 33) s 0 a1)) (wd sn : Bool)
    (C1 : Hid (∀ w, Calls Tryz.prog 36 #[.string (s.extract 0 a1)] w (Q (.bool wd) w)))
    (D1 : Hid (∀ w, Calls Tryz.prog 36 #[.string (s.extract 0 a1)] w fun e w' => e = .returned (.bool wd) ∧ ∃ m, w' = w.drewN m))
    (C2 : Hid (∀ w, Calls Tryz.prog 17 #[.string (s.extract 0 a1)] w (Q (.bool sn) w))) (V : Value)
    (HV : Hid (V = if a1 < s.size then .tuple #[.string (s.extract 0 a1), .string (s.extract (a1 + 1) s.size), .bool (wd && sn)] else .tuple #[.string ⟨#[]⟩, .string s, .bool true])) :
    Calls Tryz.prog 44 #[.string s] w (Q V w) := by
  have HB0 := Lib.hid (Below.refl w.heap.size w)
  have HQ := Lib.hid hq
  clear hq
  go_enter Tryz.func44, Tryz.ntmps44
  go_upto_region 1 with (fail)
  go_cut [16] (fun v16 wx => v16 = .bool false ∧ w = wx)
  case first =>
    by_cases hz : 0 < s.size
    · have hd := HQ.out hz
      have d1 : (((s[0]'hz).toNat : Int) == 39) = false := by rw [beq_eq_false_iff_ne]; omega
      clear hd
      go_wp2_with fail
      go_meet
      exact ⟨rfl, rfl⟩
    · have dz : decide (0 < (s.size : Int)) = false := by rw [decide_eq_false_iff_not]; omega
      go_wp2_with fail
      go_meet
      exact ⟨rfl, rfl⟩
  case rest =>
    obtain ⟨rfl, rfl⟩ := hcut
    obtain ⟨f1, f2, f3, f4⟩ := H1.out
    have F3 := Lib.hid f3
    have F4 := Lib.hid f4
    clear f3 f4 f1
    go_wp2_with fail
    go_loopg [8] s.size (fun gf v8 wx => ∃ k : Nat, k ≤ a1 ∧ a1 ≤ k + gf ∧ v8 = .int .i64 (k : Int) ∧ w = wx)
    case atStart => exact ⟨0, Nat.zero_le _, by omega, rfl, rfl⟩
    case round =>
      obtain ⟨k, k2, k3, rfl, rfl⟩ := hrel
      by_cases hlt : k < a1
      · obtain ⟨g', rfl⟩ : ∃ g', gk = g' + 1 := ⟨gk - 1, by omega⟩
        have hz : k < s.size := by omega
        have hcp := F3.out k hz (Nat.zero_le _) hlt
        have hne : (s[k]'hz).toNat ≠ 33 := by
          intro h
          have : s[k]'hz = 33 := UInt8.toNat_inj.1 h
          rw [this] at hcp; cases hcp
        have d1 : (((s[k]'hz).toNat : Int) == 33) = false := by rw [beq_eq_false_iff_ne]; omega
        clear hcp hne
        go_wp2_with fail
        go_roundg g'
        case measure => omega
        case rel => exact ⟨k + 1, by omega, by omega, by go_num, rfl⟩
      · obtain rfl : k = a1 := by omega
        by_cases hz : k < s.size
        · have hcp := F4.out hz
          have h33 : s[k]'hz = 33 := by simpa using hcp
          have d1 : (((s[k]'hz).toNat : Int) == 33) = true := by rw [h33]; rfl
          have HV2 : Hid (V = .tuple #[.string (s.extract 0 k), .string (s.extract (k + 1) s.size), .bool (wd && sn)]) := by show _ = _; rw [HV.out, if_pos hz]
          clear hcp h33 HV
          go_wp2_with fail
          have hB0 := (Below.refl w.heap.size w).drew
          have kw : IntKind.i64.wrap ((k : Int) + 1) = (k : Int) + 1 := IntWalk.i64_in _ (by omega)
          have k0 : 0 ≤ (k : Int) + 1 := by omega
          have k1 : (k : Int) + 1 ≤ (s.size : Int) := by omega
          have kn : ((k : Int) + 1).toNat = k + 1 := by omega
          cases wd with
          | true =>
            go_region_held3 (fun w' => Below w.heap.size w w')
              (first | exact hbl | exact hB0)
              (first
                | (go_at_call 36; refine (C1.out _).mono ?_; rintro e w' ⟨rfl, hb⟩; have hbl := bt (w := w) (by assumption) hb)
                | (go_at_call 17; refine (C2.out _).mono ?_; rintro e w' ⟨rfl, hb⟩; have hbl := bt (w := w) (by assumption) hb))
            go_wp2
            rw [HV2.out]
            exact bodyPost_ret (v := .tuple #[.string (s.extract 0 k), .string (s.extract (k + 1) s.size), .bool (true && sn)]) (by simp [results, Tryz.results44, go_sem]) rfl ⟨rfl, hbl⟩
          | false =>
            go_quiet ((go_at_call 36; exact Calls.quiet_of (D1.out _)))
            go_wp2
            rw [HV2.out]
            exact bodyPost_ret (v := .tuple #[.string (s.extract 0 k), .string (s.extract (k + 1) s.size), .bool (false && sn)]) (by simp [results, Tryz.results44, go_sem]) rfl ⟨rfl, below_drewN (Below.refl _ _) _⟩
        · have dk : decide (k < s.size) = false := by rw [decide_eq_false_iff_not]; exact hz
          have HV2 : Hid (V = .tuple #[.string ⟨#[]⟩, .string s, .bool true]) := by show _ = _; rw [HV.out, if_neg hz]
          clear HV
          go_wp2_with fail
          rw [HV2.out]
          exact bodyPost_ret (v := .tuple #[.string ⟨#[]⟩, .string s, .bool true]) (by simp [results, Tryz.results44, go_sem]) rfl ⟨rfl, Below.refl _ _⟩
end Go.Proofs.YtmicenegjfnbmaaGreatDoor
