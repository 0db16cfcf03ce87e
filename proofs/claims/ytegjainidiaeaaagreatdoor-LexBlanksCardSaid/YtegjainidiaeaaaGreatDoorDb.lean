/- math/bits.Div64 by ten; package dec: by. -/
import Derived.Test.YtegjainidiaeaaaGreatDoorDa
namespace Go.Proofs.YtegjainidiaeaaaGreatDoor
open Go.RowKit Go.Lib

set_option maxRecDepth 100000 in
set_option maxHeartbeats 8000000 in
theorem div10_zero (lo : Nat) (w : World) (hlo : lo < 18446744073709551616) :
    Calls Tryz.prog 94 #[.int .u64 0, .int .u64 (lo : Int), .int .u64 10] w (Q (.tuple #[.int .u64 ((lo / 10 : Nat) : Int), .int .u64 ((lo % 10 : Nat) : Int)]) w) := by
  go_enter Tryz.func94, Tryz.ntmps94
  go_wp2_with fail
  go_quiet (fail)
  go_wp2_with fail
  go_ret2
  refine ⟨?_, below_drewN (Below.refl _ _) _⟩
  rfl

theorem or_hi (hi lo : Nat) (h : hi < 10) (hlo : lo < 18446744073709551616) : bits .or .u64 ((hi : Int) * 1152921504606846976) ((lo : Int) / 16) = ((hi * 1152921504606846976 + lo / 16 : Nat) : Int) := by
  have e1 : (hi : Int) * 1152921504606846976 = ((hi * 1152921504606846976 : Nat) : Int) := by omega
  have e2 : (lo : Int) / 16 = ((lo / 16 : Nat) : Int) := by omega
  rw [e1, e2, bits_or_u64_nat _ _ (by omega) (by omega)]
  have h1 := Nat.shiftLeft_add_eq_or_of_lt (i := 60) (b := lo / 16) (by omega) hi
  rw [Nat.shiftLeft_eq] at h1
  have h2 : hi * 2 ^ 60 = hi * 1152921504606846976 := rfl
  rw [h2] at h1
  rw [h1]
theorem and_low (m : Nat) (h : m < 16) : bits .and .u64 ((m : Int) * 1152921504606846976) 4294967295 = 0 := by
  have : ∀ i : Fin 16, bits .and .u64 ((i.val : Int) * 1152921504606846976) 4294967295 = 0 := by decide +kernel
  exact this ⟨m, h⟩

theorem wrap_mod (x : Int) : IntKind.u64.wrap x = x % 18446744073709551616 := IntKind.wrap_u64 x
theorem d16 (A q r : Nat) (h : A = q * 2684354560 + r) (hr : r < 2684354560) : IntKind.u64.wrap ((A : Int) - (q : Int) * 2684354560) = (r : Int) := by
  rw [wrap_mod]
  have e : (A : Int) - (q : Int) * 2684354560 = r := by omega
  rw [e]
  exact Int.emod_eq_of_lt (by omega) (by omega)
theorem wrap_again (x y : Int) (h : IntKind.u64.wrap x = y) : IntKind.u64.wrap y = y := by
  rw [← h, wrap_mod, wrap_mod, Int.emod_emod_of_dvd _ (Int.dvd_refl _)]
theorem d21 (A q1 r1 N2 U : Nat) (h : A = q1 * 2684354560 + r1) (hr : r1 < 2684354560) (hN : N2 < 4294967296) (hU : r1 * 4294967296 + N2 = U) :
    IntKind.u64.wrap (IntKind.u64.wrap (IntKind.u64.wrap ((A : Int) * 4294967296) + N2) - IntKind.u64.wrap ((q1 : Int) * 11529215046068469760)) = (U : Int) := by
  rw [wrap_mod, wrap_mod, wrap_mod, wrap_mod, Int.emod_add_emod, ← Int.sub_emod]
  have e : (A : Int) * 4294967296 + N2 - (q1 : Int) * 11529215046068469760 = U := by omega
  rw [e]
  exact Int.emod_eq_of_lt (by omega) (by omega)
theorem d28 (U q0 r0 : Nat) (h : U = q0 * 2684354560 + r0) (hr : r0 < 2684354560) :
    IntKind.u64.wrap (IntKind.u64.wrap ((U : Int) * 4294967296) - IntKind.u64.wrap ((q0 : Int) * 11529215046068469760)) = ((r0 * 4294967296 : Nat) : Int) := by
  rw [wrap_mod, wrap_mod, wrap_mod, ← Int.sub_emod]
  have e : (U : Int) * 4294967296 - (q0 : Int) * 11529215046068469760 = ((r0 * 4294967296 : Nat) : Int) := by omega
  rw [e]
  exact Int.emod_eq_of_lt (by omega) (by omega)
theorem dqLaw (hi lo A M q1 r1 N2 U q0 r0 : Nat) (hA : hi * 1152921504606846976 + lo / 16 = A) (hM : lo % 16 = M) (h1 : A = q1 * 2684354560 + r1) (hN : M * 268435456 = N2) (hU : r1 * 4294967296 + N2 = U) (h2 : U = q0 * 2684354560 + r0) (hr : r0 < 2684354560) :
    q1 * 4294967296 + q0 = (hi * 18446744073709551616 + lo) / 10 ∧ r0 / 268435456 = (hi * 18446744073709551616 + lo) % 10 := by omega

theorem div_fin (q1 q0 NQ Y0 NR r0 X : Nat) (h1 : q1 * 4294967296 + q0 = NQ) (h2 : r0 / 268435456 = NR) (h3 : r0 * 4294967296 = Y0) (hX : X = 4294967296) :
    Ending.returned (.tuple #[.int .u64 ((q1 : Int) * (X : Int) + (q0 : Int)), .int .u64 ((Y0 : Int) / 1152921504606846976)]) = Ending.returned (.tuple #[.int .u64 (NQ : Int), .int .u64 (NR : Int)]) := by
  subst hX
  have e1 : ((q1 : Int) * ((4294967296 : Nat) : Int) + (q0 : Int)) = (NQ : Int) := by omega
  have e2 : ((Y0 : Int) / 1152921504606846976) = (NR : Int) := by omega
  rw [e1, e2]
theorem d28w (U q0 r0 : Nat) (h : U = q0 * 2684354560 + r0) (hr : r0 < 2684354560) :
    IntKind.u64.wrap (IntKind.u64.wrap (IntKind.u64.wrap ((U : Int) * 4294967296)) - IntKind.u64.wrap ((q0 : Int) * 11529215046068469760)) = ((r0 * 4294967296 : Nat) : Int) := by
  rw [wrap_again _ _ rfl]; exact d28 U q0 r0 h hr

set_option maxRecDepth 100000 in
set_option maxHeartbeats 8000000 in
theorem div10_core (hi lo : Nat) (w : World) (h0 : 0 < hi) (h10 : hi < 10) (hlo : lo < 18446744073709551616) :
    Calls Tryz.prog 94 #[.int .u64 (hi : Int), .int .u64 (lo : Int), .int .u64 10] w (Q (.tuple #[.int .u64 (((hi * 18446744073709551616 + lo) / 10 : Nat) : Int), .int .u64 (((hi * 18446744073709551616 + lo) % 10 : Nat) : Int)]) w) := by
  obtain ⟨NQ, hNQ⟩ : ∃ NQ, (hi * 18446744073709551616 + lo) / 10 = NQ := ⟨_, rfl⟩
  obtain ⟨NR, hNR⟩ : ∃ NR, (hi * 18446744073709551616 + lo) % 10 = NR := ⟨_, rfl⟩
  rw [hNQ, hNR]
  have HNQ := Lib.hid hNQ
  have HNR := Lib.hid hNR
  clear hNQ hNR
  have C := Lib.hid (fun w => Tryz.bits_LeadingZeros64 10 w (by decide) (by decide))
  have hz : (64 - (Lib.bitLen (10 : Int).toNat : Int)) = 60 := by decide
  have d1 : decide ((10 : Int) ≤ hi) = false := decide_eq_false (by omega)
  have d2 : ((hi : Int) == 0) = false := by rw [beq_eq_false_iff_ne]; omega
  have HZ := Lib.hid hz
  clear hz
  go_enter Tryz.func94, Tryz.ntmps94
  go_wp2_with fail
  refine (C.out _).mono ?_
  rintro e w1 ⟨rfl, rfl⟩
  rw [HZ.out]
  have ha0 : bits .and .u64 11529215046068469760 4294967295 = 0 := by decide +kernel
  obtain ⟨A, hA⟩ : ∃ A, hi * 1152921504606846976 + lo / 16 = A := ⟨_, rfl⟩
  obtain ⟨M, hM⟩ : ∃ M, lo % 16 = M := ⟨_, rfl⟩
  have hMlt : M < 16 := by omega
  have hAlt : A < 11529215046068469760 := by omega
  have HA := Lib.hid hA
  have HMM := Lib.hid hM
  obtain ⟨N1, hN1⟩ : ∃ N1, M * 1152921504606846976 = N1 := ⟨_, rfl⟩
  obtain ⟨N2, hN2⟩ : ∃ N2, M * 268435456 = N2 := ⟨_, rfl⟩
  have hN2lt : N2 < 4294967296 := by omega
  have hN1lt : N1 < 18446744073709551616 := by omega
  have HN1 := Lib.hid hN1
  have HN2 := Lib.hid hN2
  clear hN1 hN2
  go_upto_region 11 with (fail)
  go_cut [8, 9, 10, 11] (fun v8 v9 v10 v11 wx => v8 = .int .u64 60 ∧ v9 = .int .u64 2684354560 ∧ v10 = .int .u64 0 ∧ v11 = .int .u64 (A : Int) ∧ w1 = wx)
  case first =>
    go_wp2_with fail
    go_meet
    exact ⟨rfl, rfl, rfl, by rw [or_hi hi lo h10 hlo, HA.out], rfl⟩
  case rest =>
    obtain ⟨rfl, rfl, rfl, rfl, rfl⟩ := hcut
    go_upto_region 12 with (fail)
    go_cut [12] (fun v12 wx => v12 = .int .u64 (N1 : Int) ∧ w1 = wx)
    case first =>
      go_wp2_with fail
      go_meet
      refine ⟨?_, rfl⟩
      congr 1
      rw [wrap_mod]
      have := HMM.out
      have := HN1.out
      omega
    case rest =>
      obtain ⟨rfl, rfl⟩ := hcut
      clear hA hM
      go_upto_region 13 with (fail)
      go_cut [13] (fun v13 wx => v13 = .int .u64 (N2 : Int) ∧ w1 = wx)
      case first =>
        go_wp2_with fail
        go_meet
        refine ⟨?_, rfl⟩
        congr 1
        have := HN1.out
        have := HN2.out
        omega
      case rest =>
        obtain ⟨rfl, rfl⟩ := hcut
        go_upto_region 14 with (fail)
        go_cut [14] (fun v14 wx => v14 = .int .u64 0 ∧ w1 = wx)
        case first =>
          go_wp2_with fail
          go_meet
          refine ⟨?_, rfl⟩
          have e : (N1 : Int) = (M : Int) * 1152921504606846976 := by have := HN1.out; omega
          rw [e, and_low M hMlt]
        case rest =>
          obtain ⟨rfl, rfl⟩ := hcut
          go_upto_region 15 with (fail)
          go_cut [15] (fun v15 wx => v15 = .int .u64 ((A / 2684354560 : Nat) : Int) ∧ w1 = wx)
          case first =>
            go_wp2_with fail
            go_meet
            exact ⟨rfl, rfl⟩
          case rest =>
            obtain ⟨rfl, rfl⟩ := hcut
            obtain ⟨q1, hq1⟩ : ∃ q1, A / 2684354560 = q1 := ⟨_, rfl⟩
            obtain ⟨r1, hr1⟩ : ∃ r1, A % 2684354560 = r1 := ⟨_, rfl⟩
            rw [hq1]
            have hAq : A = q1 * 2684354560 + r1 := by omega
            have hrl : r1 < 2684354560 := by omega
            have hql : q1 < 4294967296 := by omega
            have HAQ := Lib.hid hAq
            clear hq1 hr1 hAq
            go_upto_region 16 with (fail)
            go_cut [16] (fun v16 wx => v16 = .int .u64 (r1 : Int) ∧ w1 = wx)
            case first =>
              go_wp2_with fail
              go_meet
              exact ⟨by rw [d16 A q1 r1 HAQ.out hrl], rfl⟩
            case rest =>
              obtain ⟨rfl, rfl⟩ := hcut
              have dq : decide ((4294967296 : Int) ≤ q1) = false := decide_eq_false (by omega)
              go_wp2_with fail
              go_loopg [15, 16] 1 (fun gf v15 v16 wx => v15 = .int .u64 (q1 : Int) ∧ v16 = .int .u64 (r1 : Int) ∧ w1 = wx)
              case atStart => exact ⟨rfl, rfl, rfl⟩
              case round =>
                obtain ⟨rfl, rfl, rfl⟩ := hrel
                obtain ⟨U, hU⟩ : ∃ U, r1 * 4294967296 + N2 = U := ⟨_, rfl⟩
                have hUlt : U < 11529215046068469760 := by omega
                have HU := Lib.hid hU
                clear hU
                go_upto_region 17 with (fail)
                go_cut [78] (fun v78 wx => v78 = .bool false ∧ w1 = wx)
                case first =>
                  go_wp2_with fail
                  go_meet
                  exact ⟨rfl, rfl⟩
                case rest =>
                  obtain ⟨rfl, rfl⟩ := hcut
                  go_upto_region 21 with (fail)
                  go_cut [17] (fun v17 wx => v17 = .int .u64 (U : Int) ∧ w1 = wx)
                  case first =>
                    have hd := d21 A q1 r1 N2 U HAQ.out hrl hN2lt HU.out
                    obtain ⟨X1, f1⟩ : ∃ X1, IntKind.u64.wrap ((A : Int) * 4294967296) = X1 := ⟨_, rfl⟩
                    rw [f1] at hd
                    obtain ⟨X2, f2⟩ : ∃ X2, IntKind.u64.wrap (X1 + (N2 : Int)) = X2 := ⟨_, rfl⟩
                    rw [f2] at hd
                    obtain ⟨X3, f3⟩ : ∃ X3, IntKind.u64.wrap ((q1 : Int) * 11529215046068469760) = X3 := ⟨_, rfl⟩
                    rw [f3] at hd
                    clear h0 h10 hlo hMlt hAlt hN2lt hN1lt hrl hUlt
                    go_wp2_with fail
                    go_meet
                    exact ⟨rfl, rfl⟩
                  case rest =>
                    obtain ⟨rfl, rfl⟩ := hcut
                    obtain ⟨q0, hq0⟩ : ∃ q0, U / 2684354560 = q0 := ⟨_, rfl⟩
                    obtain ⟨r0, hr0⟩ : ∃ r0, U % 2684354560 = r0 := ⟨_, rfl⟩
                    have hUq : U = q0 * 2684354560 + r0 := by omega
                    have hrl0 : r0 < 2684354560 := by omega
                    have hql0 : q0 < 4294967296 := by omega
                    have HUQ := Lib.hid hUq
                    have HQ0 := Lib.hid hq0
                    clear hq0 hr0 hUq
                    go_upto_region 22 with (fail)
                    go_cut [18] (fun v18 wx => v18 = .int .u64 (q0 : Int) ∧ w1 = wx)
                    case first =>
                      go_wp2_with fail
                      go_meet
                      exact ⟨by rw [← HQ0.out]; rfl, rfl⟩
                    case rest =>
                      obtain ⟨rfl, rfl⟩ := hcut
                      go_upto_region 23 with (fail)
                      go_cut [16] (fun v16 wx => v16 = .int .u64 (r0 : Int) ∧ w1 = wx)
                      case first =>
                        go_wp2_with fail
                        go_meet
                        exact ⟨by rw [d16 U q0 r0 HUQ.out hrl0], rfl⟩
                      case rest =>
                        obtain ⟨rfl, rfl⟩ := hcut
                        have dq0 : decide ((4294967296 : Int) ≤ q0) = false := decide_eq_false (by omega)
                        go_wp2_with fail
                        go_loopg [18, 16] 1 (fun gf v18 v16 wx => v18 = .int .u64 (q0 : Int) ∧ v16 = .int .u64 (r0 : Int) ∧ w1 = wx)
                        case atStart => exact ⟨rfl, rfl, rfl⟩
                        case round =>
                          obtain ⟨rfl, rfl, rfl⟩ := hrel
                          go_upto_region 24 with (fail)
                          go_cut [113] (fun v113 wx => v113 = .bool false ∧ w1 = wx)
                          case first =>
                            go_wp2_with fail
                            go_meet
                            exact ⟨rfl, rfl⟩
                          case rest =>
                            obtain ⟨rfl, rfl⟩ := hcut
                            have hd := d28w U q0 r0 HUQ.out hrl0
                            obtain ⟨X1, f1⟩ : ∃ X1, IntKind.u64.wrap ((U : Int) * 4294967296) = X1 := ⟨_, rfl⟩
                            rw [f1] at hd
                            obtain ⟨X2, f2⟩ : ∃ X2, IntKind.u64.wrap X1 = X2 := ⟨_, rfl⟩
                            rw [f2] at hd
                            obtain ⟨X3, f3⟩ : ∃ X3, IntKind.u64.wrap ((q0 : Int) * 11529215046068469760) = X3 := ⟨_, rfl⟩
                            rw [f3] at hd
                            obtain ⟨Y0, hY0⟩ : ∃ Y0, r0 * 4294967296 = Y0 := ⟨_, rfl⟩
                            rw [hY0] at hd
                            have HY := Lib.hid hY0
                            clear hY0
                            have hfin := dqLaw hi lo A M q1 r1 N2 U q0 r0 HA.out HMM.out HAQ.out HN2.out HU.out HUQ.out hrl0
                            rw [HNQ.out, HNR.out] at hfin
                            have HF := Lib.hid hfin
                            clear hfin h0 h10 hlo hMlt hAlt hN2lt hN1lt hrl hUlt hrl0 dq dq0 ha0 d1 d2
                            go_wp2_with fail
                            go_ret2
                            exact ⟨div_fin q1 q0 NQ Y0 NR r0 4294967296 HF.out.1 HF.out.2 HY.out rfl, Below.refl _ _⟩
end Go.Proofs.YtegjainidiaeaaaGreatDoor
