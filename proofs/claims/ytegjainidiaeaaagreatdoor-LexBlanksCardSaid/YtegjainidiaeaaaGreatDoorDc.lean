/- Package dec: by, tens. -/
import Derived.Test.YtegjainidiaeaaaGreatDoorDa
namespace Go.Proofs.YtegjainidiaeaaaGreatDoor
open Go.RowKit Go.Lib

set_option maxRecDepth 100000 in
set_option maxHeartbeats 8000000 in
theorem by_core (hi lo q1 r1 q0 r0 : Nat) (w : World)
    (C1 : Hid (∀ w, Calls Tryz.prog 94 #[.int .u64 0, .int .u64 (hi : Int), .int .u64 10] w (Q (.tuple #[.int .u64 (q1 : Int), .int .u64 (r1 : Int)]) w)))
    (C2 : Hid (∀ w, Calls Tryz.prog 94 #[.int .u64 (r1 : Int), .int .u64 (lo : Int), .int .u64 10] w (Q (.tuple #[.int .u64 (q0 : Int), .int .u64 (r0 : Int)]) w))) :
    Calls Tryz.prog 66 #[.agg #[.int .u64 hi, .int .u64 lo], .int .u64 10] w (Q (.tuple #[.agg #[.int .u64 q1, .int .u64 q0], .int .u64 r0]) w) := by
  have a1 := At.new w #[.int .u64 hi, .int .u64 lo] 61
  have hb1 : Below w.heap.size w (w.alloc (.cells #[.int .u64 hi, .int .u64 lo] 61)) := (Below.refl _ _).alloc (Nat.le_refl _) _
  have a2 := a1.alloc (.cells #[.int .u64 0, .int .u64 0] 61)
  have a3 := At.new (w.alloc (.cells #[.int .u64 hi, .int .u64 lo] 61)) #[.int .u64 0, .int .u64 0] 61
  have hb3 := hb1.alloc hb1.size (.cells #[.int .u64 0, .int .u64 0] 61)
  have hz : (w.alloc (.cells #[.int .u64 hi, .int .u64 lo] 61)).heap.size = w.heap.size + 1 := by simp
  rw [hz] at a3
  have A2 := Lib.hid a2
  have A3 := Lib.hid a3
  have HB := Lib.hid hb3
  clear a1 a2 a3 hb1 hb3 hz
  go_enter Tryz.func66, Tryz.ntmps66
  go_upto_region 0 with (fail)
  go_cut [2, 4] (fun v2 v4 wx => v2 = .pointer (some ⟨w.heap.size, 0, none⟩) ∧ v4 = .pointer (some ⟨w.heap.size + 1, 0, none⟩) ∧ At wx w.heap.size [.int .u64 hi, .int .u64 lo] ∧ At wx (w.heap.size + 1) [.int .u64 0, .int .u64 0] ∧ Below w.heap.size w wx)
  case first =>
    go_wp2_with fail
    go_meet
    exact ⟨rfl, rfl, A2.out, A3.out, HB.out⟩
  case rest =>
    obtain ⟨rfl, rfl, r1, r2, hb⟩ := hcut
    have p0 := r1.c 0 _ rfl
    have R1 := Lib.hid r1
    have R2 := Lib.hid r2
    replace HB := Lib.hid hb
    clear r1 r2 hb A2 A3
    go_wp2_with fail
    refine (C1.out _).mono ?_
    rintro e w1 ⟨rfl, hb⟩
    have r1 := R1.out.below hb
    replace R1 := Lib.hid r1
    replace R2 := Lib.hid (R2.out.below hb)
    replace HB := Lib.hid (bt HB.out hb)
    clear hb p0
    have p1 := r1.c 1 _ rfl
    clear r1
    go_wp2_with fail
    refine (C2.out _).mono ?_
    rintro e w2 ⟨rfl, hb⟩
    have r2 := R2.out.below hb
    replace HB := Lib.hid (bt HB.out hb)
    replace R2 := Lib.hid r2
    have q0' := r2.c 0 _ rfl
    have q1' := r2.c 1 _ rfl
    have qf := r2.fz
    clear hb p1 r2
    go_wp2_with fail
    exact ret_two R2.out HB.out (by omega) wideAgg wideSize rfl rfl rfl rfl rfl

/-- A product by ten, as often as it goes: (what it is, is it whole). -/
def tensF : Nat → Nat → Nat × Bool
  | 0, W => (W, true)
  | k + 1, W => if W = 0 then (W, true) else if W * 10 < 340282366920938463463374607431768211456 then tensF k (W * 10) else (W * 10 % 340282366920938463463374607431768211456, false)

set_option maxRecDepth 100000 in
set_option maxHeartbeats 8000000 in
theorem tens_any (W n : Nat) (w : World) (hW : W < 340282366920938463463374607431768211456) (hn : n ≤ 40) :
    Calls Tryz.prog 67 #[wv W, .int .i64 (n : Int)] w (Q (.tuple #[wv (tensF n W).1, .bool (tensF n W).2]) w) := by
  obtain ⟨V, hV⟩ : ∃ V, tensF n W = V := ⟨_, rfl⟩
  rw [hV]
  have HV := Lib.hid hV
  have CZ := Lib.hid (fun W w hW => zero_any W w hW)
  have CT := Lib.hid (fun W w hW => times_any W 10 w hW (by decide))
  obtain ⟨hi, hhi⟩ : ∃ hi, W / 18446744073709551616 = hi := ⟨_, rfl⟩
  obtain ⟨lo, hlo⟩ : ∃ lo, W % 18446744073709551616 = lo := ⟨_, rfl⟩
  show Calls _ _ #[.agg #[.int .u64 ((W / 18446744073709551616 : Nat) : Int), .int .u64 ((W % 18446744073709551616 : Nat) : Int)], _] _ _
  rw [hhi, hlo]
  have HHI := Lib.hid hhi
  have HLO := Lib.hid hlo
  have HW := Lib.hid hW
  clear hV hhi hlo hW
  have a1 := At.new w #[.int .u64 hi, .int .u64 lo] 61
  have hb1 : Below w.heap.size w (w.alloc (.cells #[.int .u64 hi, .int .u64 lo] 61)) := (Below.refl _ _).alloc (Nat.le_refl _) _
  have a2 := a1.alloc (.cells #[.int .u64 0, .int .u64 0] 61)
  have a3 := At.new (w.alloc (.cells #[.int .u64 hi, .int .u64 lo] 61)) #[.int .u64 0, .int .u64 0] 61
  have hb3 := hb1.alloc hb1.size (.cells #[.int .u64 0, .int .u64 0] 61)
  have hz : (w.alloc (.cells #[.int .u64 hi, .int .u64 lo] 61)).heap.size = w.heap.size + 1 := by simp
  rw [hz] at a3
  have A2 := Lib.hid a2
  have A3 := Lib.hid a3
  have HB := Lib.hid hb3
  clear a1 a2 a3 hb1 hb3 hz
  go_enter Tryz.func67, Tryz.ntmps67
  go_upto_region 0 with (fail)
  go_cut [2, 4] (fun v2 v4 wx => v2 = .pointer (some ⟨w.heap.size, 0, none⟩) ∧ v4 = .pointer (some ⟨w.heap.size + 1, 0, none⟩) ∧ At wx w.heap.size [.int .u64 hi, .int .u64 lo] ∧ At wx (w.heap.size + 1) [.int .u64 0, .int .u64 0] ∧ Below w.heap.size w wx)
  case first =>
    go_wp2_with fail
    go_meet
    exact ⟨rfl, rfl, A2.out, A3.out, HB.out⟩
  case rest =>
    obtain ⟨rfl, rfl, r1, r2, hb⟩ := hcut
    have R1 := Lib.hid r1
    have R2 := Lib.hid r2
    replace HB := Lib.hid hb
    clear r1 r2 hb A2 A3
    go_wp2_with fail
    go_loopg [6, 7] n (fun gf v6 v7 wx => ∃ (X k : Nat) (ok : Bool) (h l : Nat), v6 = .bool ok ∧ v7 = .int .i64 (k : Int) ∧ k ≤ n ∧ n ≤ k + gf ∧ Hid (X < 340282366920938463463374607431768211456) ∧ Hid (X / 18446744073709551616 = h ∧ X % 18446744073709551616 = l) ∧ Hid (V = if ok then tensF (n - k) X else (X, false)) ∧ Hid (At wx w.heap.size [.int .u64 h, .int .u64 l]) ∧ Hid (At wx (w.heap.size + 1) [.int .u64 0, .int .u64 0]) ∧ Below w.heap.size w wx)
    case atStart => exact ⟨W, 0, true, hi, lo, rfl, rfl, by omega, by omega, HW.out, ⟨HHI.out, HLO.out⟩, by show V = _; rw [← HV.out]; rfl, R1, R2, HB.out⟩
    case round =>
      obtain ⟨X, k, ok, h, l, rfl, rfl, hk, hgf, HX, HHL, HQ, R1, R2, hbw⟩ := hrel
      replace HB := Lib.hid hbw
      clear hbw
      have cz := fun w => CZ.out X w HX.out
      have ct := fun w => CT.out X w HX.out
      unfold wv at cz ct
      rw [HHL.out.1, HHL.out.2] at cz ct
      have CZ' := Lib.hid cz
      have CT' := Lib.hid ct
      clear cz ct
      obtain ⟨z, hz⟩ : ∃ z, decide (X = 0) = z := ⟨_, rfl⟩
      rw [hz] at CZ'
      have HZ := Lib.hid hz
      clear hz
      have p0 := R1.out.c 0 _ rfl
      have p1 := R1.out.c 1 _ rfl
      have pf := R1.out.fz
      obtain ⟨g, hg⟩ : ∃ g, (decide (k < n) && ok && !z) = g := ⟨_, rfl⟩
      have HG := Lib.hid hg
      clear hg
      go_upto_region 3 with (fail)
      go_cut [18] (fun v18 wx => v18 = .bool g ∧ Hid (At wx w.heap.size [.int .u64 h, .int .u64 l]) ∧ Hid (At wx (w.heap.size + 1) [.int .u64 0, .int .u64 0]) ∧ Below w.heap.size w wx)
      case first =>
        cases hd : decide (k < n) with
        | false =>
          rw [hd] at HG
          go_wp2_with fail
          go_meet
          exact ⟨by rw [← HG.out]; rfl, R1, R2, HB.out⟩
        | true =>
          rw [hd] at HG
          cases ok with
          | false =>
            go_wp2_with fail
            go_meet
            exact ⟨by rw [← HG.out]; rfl, R1, R2, HB.out⟩
          | true =>
            go_wp2_with fail
            refine (CZ'.out _).mono ?_
            rintro e w1 ⟨rfl, hb⟩
            replace R1 := Lib.hid (R1.out.below hb)
            replace R2 := Lib.hid (R2.out.below hb)
            replace HB := Lib.hid (bt HB.out hb)
            clear hb
            go_wp2_with fail
            go_meet
            exact ⟨by rw [← HG.out]; simp, R1, R2, HB.out⟩
      case rest =>
        clear p0 p1 pf
        obtain ⟨rfl, R1, R2, hb⟩ := hcut
        replace HB := Lib.hid hb
        clear hb
        have p0 := R1.out.c 0 _ rfl
        have p1 := R1.out.c 1 _ rfl
        have pf := R1.out.fz
        cases g with
        | true =>
          have hgg := HG.out
          rw [Bool.and_eq_true, Bool.and_eq_true, decide_eq_true_eq, Bool.not_eq_true'] at hgg
          obtain ⟨⟨hkn, rfl⟩, rfl⟩ := hgg
          have hX0 : X ≠ 0 := by have := HZ.out; simpa using this
          obtain ⟨g', rfl⟩ : ∃ g', gk = g' + 1 := ⟨gk - 1, by omega⟩
          obtain ⟨Y, hY⟩ : ∃ Y, X * 10 % 340282366920938463463374607431768211456 = Y := ⟨_, rfl⟩
          obtain ⟨o2, ho2⟩ : ∃ o2, decide (X * 10 < 340282366920938463463374607431768211456) = o2 := ⟨_, rfl⟩
          obtain ⟨yh, hyh⟩ : ∃ yh, Y / 18446744073709551616 = yh := ⟨_, rfl⟩
          obtain ⟨yl, hyl⟩ : ∃ yl, Y % 18446744073709551616 = yl := ⟨_, rfl⟩
          have hYlt : Y < 340282366920938463463374607431768211456 := by rw [← hY]; exact Nat.mod_lt _ (by decide)
          have hq : V = if o2 then tensF (n - (k + 1)) Y else (Y, false) := by
            have h1 := HQ.out
            rw [if_pos rfl] at h1
            obtain ⟨m, hm⟩ : ∃ m, n - k = m + 1 := ⟨n - k - 1, by omega⟩
            have hm2 : n - (k + 1) = m := by omega
            rw [hm, tensF, if_neg hX0] at h1
            rw [hm2, h1]
            by_cases hlt : X * 10 < 340282366920938463463374607431768211456
            · rw [if_pos hlt, ← ho2, decide_eq_true hlt, if_pos rfl, ← hY, Nat.mod_eq_of_lt hlt]
            · rw [if_neg hlt, ← ho2, decide_eq_false hlt, if_neg (by decide), hY]
          have ct := CT'.out
          rw [hY, hyh, hyl, ho2] at ct
          have CT2 := Lib.hid ct
          have HQ2 := Lib.hid hq
          have HY := Lib.hid hYlt
          have HYH : Hid (Y / 18446744073709551616 = yh ∧ Y % 18446744073709551616 = yl) := ⟨hyh, hyl⟩
          clear ct hq hYlt hyh hyl hY ho2 hX0 CT' CZ' CZ CT HQ HX HHL HZ HG
          go_wp2_with fail
          refine (CT2.out _).mono ?_
          rintro e w1 ⟨rfl, hb⟩
          have r1 := R1.out.below hb
          replace R2 := Lib.hid (R2.out.below hb)
          replace HB := Lib.hid (bt HB.out hb)
          clear hb p0 p1 pf
          have p0 := r1.c 0 _ rfl
          have p1 := r1.c 1 _ rfl
          have pf := r1.fz
          have S1 := Lib.hid (r1.set2 (.int .u64 yh) (.int .u64 yl))
          have S2 := Lib.hid ((R2.out.other ⟨w.heap.size, 0, none⟩ (.int .u64 yh) (by simp)).other ⟨w.heap.size, 1, none⟩ (.int .u64 yl) (by simp))
          have SB := Lib.hid (below_set2 HB.out (Nat.le_refl _) (.int .u64 yh) (.int .u64 yl))
          clear r1
          go_wp2_with fail
          go_roundg g'
          case measure => omega
          case rel => exact ⟨Y, k + 1, o2, yh, yl, rfl, by go_num, by omega, by omega, HY, HYH, HQ2, S1, S2, SB.out⟩
        | false =>
          have hV2 : V = (X, ok) := by
            have h1 := HQ.out
            have h2 := HG.out
            cases ok with
            | false => exact h1
            | true =>
              rw [if_pos rfl] at h1
              rw [Bool.and_true] at h2
              by_cases hkn : k < n
              · obtain ⟨m, hm⟩ : ∃ m, n - k = m + 1 := ⟨n - k - 1, by omega⟩
                have hz1 : z = true := by
                  rw [decide_eq_true hkn, Bool.true_and] at h2
                  simpa using h2
                have hX0 : X = 0 := by have := HZ.out; rw [hz1] at this; simpa using this
                rw [hm, tensF, if_pos hX0] at h1
                exact h1
              · rw [show n - k = 0 by omega, tensF] at h1
                exact h1
          have q0 := R2.out.c 0 _ rfl
          have q1 := R2.out.c 1 _ rfl
          have qf := R2.out.fz
          have HV2 : Hid (Value.tuple #[wv V.1, .bool V.2] = .tuple #[.agg #[.int .u64 h, .int .u64 l], .bool ok]) := by
            show _ = _
            rw [hV2]
            show Value.tuple #[.agg #[.int .u64 ((X / 18446744073709551616 : Nat) : Int), .int .u64 ((X % 18446744073709551616 : Nat) : Int)], .bool ok] = _
            rw [HHL.out.1, HHL.out.2]
          clear hV2 CT' CZ' CZ CT HQ HX HZ HG
          go_wp2_with fail
          exact ret_two R2.out HB.out (by omega) wideAgg wideSize HV2.out rfl rfl rfl rfl
end Go.Proofs.YtegjainidiaeaaaGreatDoor
