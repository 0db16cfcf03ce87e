/- Package dec: tell. -/
import Derived.Test.YtegjainidiaeaaaGreatDoorDc
namespace Go.Proofs.YtegjainidiaeaaaGreatDoor
open Go.RowKit Go.Lib

/-- Without noughts at the end. -/
def stripF : Nat → Nat → Int → Nat × Int
  | 0, W, e => (W, e)
  | f + 1, W, e => if W % 10 = 0 then stripF f (W / 10) (e + 1) else (W, e)
/-- With an exponent of at most 18; false: it is too great. -/
def lowF (W : Nat) (e : Int) : Nat × Int × Bool :=
  if 18 < e then ((tensF (min (e - 18) 40).toNat W).1, 18, (tensF (min (e - 18) 40).toNat W).2 && !decide (58 < e)) else (W, e, true)
def topF (neg : Bool) : Nat := if neg then 9223372036854775808 else 9223372036854775807
def endF (neg : Bool) (x : Nat × Int × Bool) : Int × Int × Int :=
  if x.2.2 = false ∨ x.2.1 < -18 ∨ topF neg < x.1 then (30, 0, 0) else (0, if neg then -(x.1 : Int) else (x.1 : Int), x.2.1)
/-- The right Dec of a number: an error, C, E. -/
def tellF (neg : Bool) (W : Nat) (e : Int) : Int × Int × Int :=
  if W = 0 then (0, 0, 0) else endF neg (lowF (stripF 39 W e).1 (stripF 39 W e).2)

theorem tensF_lt : ∀ (k W : Nat), W < 340282366920938463463374607431768211456 → (tensF k W).1 < 340282366920938463463374607431768211456
  | 0, W, h => h
  | k + 1, W, h => by
    rw [tensF]
    split
    · exact h
    · split
      · rename_i h2; exact tensF_lt k _ h2
      · exact Nat.mod_lt _ (by decide)
theorem stripF_le : ∀ (k W : Nat) (e : Int), (stripF k W e).1 ≤ W ∧ e ≤ (stripF k W e).2 ∧ (stripF k W e).2 ≤ e + k
  | 0, W, e => by rw [stripF]; simp
  | k + 1, W, e => by
    rw [stripF]
    split
    · have := stripF_le k (W / 10) (e + 1)
      omega
    · simp; omega

theorem decAgg (w : World) : (isAgg 30).run Tryz.prog w = .ok true w := by kernel_rfl
theorem decSize (w : World) : (Go.sizeOf 30).run Tryz.prog w = .ok 2 w := by kernel_rfl
theorem int64_of (x : Nat) (h : x < 9223372036854775808) : IntKind.i64.wrap (x : Int) = (x : Int) := by
  rw [IntKind.wrap_i64]; omega

def By : Prop := ∀ (X : Nat) (w : World), X < 340282366920938463463374607431768211456 → Calls Tryz.prog 66 #[wv X, .int .u64 10] w (Q (.tuple #[wv (X / 10), .int .u64 ((X % 10 : Nat) : Int)]) w)

theorem neg_of (y : Nat) (h : y ≤ 9223372036854775808) : IntKind.i64.wrap (-(IntKind.i64.wrap (y : Int))) = -(y : Int) := by
  rw [IntKind.wrap_i64, IntKind.wrap_i64]; omega

set_option maxRecDepth 100000 in
set_option maxHeartbeats 16000000 in
theorem tell_core (neg : Bool) (W : Nat) (e : Int) (w : World) (hBy : By) (hW : W < 340282366920938463463374607431768211456) (hW0 : W ≠ 0) (he1 : -20000 ≤ e) (he2 : e ≤ 20000) (V : Value)
    (hV : V = .tuple #[.agg #[.int .i64 (endF neg (lowF (stripF 39 W e).1 (stripF 39 W e).2)).2.1, .int .i64 (endF neg (lowF (stripF 39 W e).1 (stripF 39 W e).2)).2.2], .int .i64 (endF neg (lowF (stripF 39 W e).1 (stripF 39 W e).2)).1]) :
    ∀ hi lo : Nat, W / 18446744073709551616 = hi → W % 18446744073709551616 = lo → Calls Tryz.prog 33 #[.agg #[.bool neg, .int .u64 (hi : Int), .int .u64 (lo : Int), .int .i64 e]] w (Q V w) := by
  intro hi lo hhi hlo
  have HV := Lib.hid hV
  have HBY := Lib.hid hBy
  have HW := Lib.hid hW
  have HW0 := Lib.hid hW0
  have HHL : Hid (W / 18446744073709551616 = hi ∧ W % 18446744073709551616 = lo) := ⟨hhi, hlo⟩
  have cz := fun w => zero_any W w hW
  unfold wv at cz
  rw [hhi, hlo, decide_eq_false hW0] at cz
  have CZ := Lib.hid cz
  clear cz hhi hlo hV hBy hW hW0
  have a1 := At.new w #[.bool neg, .int .u64 (hi : Int), .int .u64 (lo : Int), .int .i64 e] 66
  have hb1 : Below w.heap.size w (w.alloc (.cells #[.bool neg, .int .u64 (hi : Int), .int .u64 (lo : Int), .int .i64 e] 66)) := (Below.refl _ _).alloc (Nat.le_refl _) _
  have a2 := a1.alloc (.cells #[.int .i64 0, .int .i64 0] 30)
  have a3 := At.new (w.alloc (.cells #[.bool neg, .int .u64 (hi : Int), .int .u64 (lo : Int), .int .i64 e] 66)) #[.int .i64 0, .int .i64 0] 30
  have hb3 := hb1.alloc hb1.size (.cells #[.int .i64 0, .int .i64 0] 30)
  have hz : (w.alloc (.cells #[.bool neg, .int .u64 (hi : Int), .int .u64 (lo : Int), .int .i64 e] 66)).heap.size = w.heap.size + 1 := by simp
  rw [hz] at a3
  have hzz : w.heap.size + 2 ≤ ((w.alloc (.cells #[.bool neg, .int .u64 (hi : Int), .int .u64 (lo : Int), .int .i64 e] 66)).alloc (.cells #[.int .i64 0, .int .i64 0] 30)).heap.size := by simp
  have A2 := Lib.hid a2
  have A3 := Lib.hid a3
  have HB := Lib.hid hb3
  have HZ := Lib.hid hzz
  clear a1 a2 a3 hb1 hb3 hz hzz
  go_enter Tryz.func33, Tryz.ntmps33
  go_upto_region 0 with (fail)
  go_cut [1, 2] (fun v1 v2 wx => v1 = .pointer (some ⟨w.heap.size, 0, none⟩) ∧ v2 = .pointer (some ⟨w.heap.size + 1, 0, none⟩) ∧ At wx w.heap.size [.bool neg, .int .u64 (hi : Int), .int .u64 (lo : Int), .int .i64 e] ∧ At wx (w.heap.size + 1) [.int .i64 0, .int .i64 0] ∧ Below w.heap.size w wx ∧ w.heap.size + 2 ≤ wx.heap.size)
  case first =>
    go_wp2_with fail
    go_meet
    exact ⟨rfl, rfl, A2.out, A3.out, HB.out, HZ.out⟩
  case rest =>
    obtain ⟨rfl, rfl, r1, r2, hb, hsz⟩ := hcut
    have p0 := r1.c 0 _ rfl
    have p1 := r1.c 1 _ rfl
    have p2 := r1.c 2 _ rfl
    have p3 := r1.c 3 _ rfl
    replace HB := Lib.hid hb
    clear hb A2 A3
    go_wp2_with fail
    refine (CZ.out _).mono ?_
    rintro e1 w1 ⟨rfl, hb⟩
    have s1 := r1.below hb
    have S2 := Lib.hid (r2.below hb)
    have hs1 := hb.size
    replace HB := Lib.hid (bt HB.out hb)
    clear hb p0 p1 p2 p3 r1 r2
    have p0 := s1.c 0 _ rfl
    have p1 := s1.c 1 _ rfl
    have p2 := s1.c 2 _ rfl
    have p3 := s1.c 3 _ rfl
    have S1 := Lib.hid s1
    clear s1
    have cb := fun w => HBY.out W w HW.out
    unfold wv at cb
    rw [HHL.out.1, HHL.out.2] at cb
    obtain ⟨qh, hqh⟩ : ∃ qh, W / 10 / 18446744073709551616 = qh := ⟨_, rfl⟩
    obtain ⟨ql, hql⟩ : ∃ ql, W / 10 % 18446744073709551616 = ql := ⟨_, rfl⟩
    obtain ⟨rr, hrr⟩ : ∃ rr, W % 10 = rr := ⟨_, rfl⟩
    rw [hqh, hql, hrr] at cb
    have CB := Lib.hid cb
    have HQ : Hid (W / 10 / 18446744073709551616 = qh ∧ W / 10 % 18446744073709551616 = ql ∧ W % 10 = rr) := ⟨hqh, hql, hrr⟩
    clear cb hqh hql hrr
    go_upto_region 3 with (fail)
    go_cut [4, 5] (fun v4 v5 wx => ∃ bq, v4 = .pointer (some ⟨bq, 0, none⟩) ∧ v5 = .int .u64 (rr : Int) ∧ w.heap.size + 2 ≤ bq ∧ At wx bq [.int .u64 qh, .int .u64 ql] ∧ At wx w.heap.size [.bool neg, .int .u64 (hi : Int), .int .u64 (lo : Int), .int .i64 e] ∧ At wx (w.heap.size + 1) [.int .i64 0, .int .i64 0] ∧ Below w.heap.size w wx)
    case first =>
      go_wp2_with fail
      refine (CB.out _).mono ?_
      rintro e2 w2 ⟨rfl, hb⟩
      have t1 := S1.out.below hb
      have t2 := S2.out.below hb
      have hs2 := hb.size
      have hB2 := bt HB.out hb
      have z1 := At.new w2 #[.int .u64 0, .int .u64 0] 61
      have z2 := (Below.refl w2.heap.size w2).alloc (Nat.le_refl _) (.cells #[.int .u64 0, .int .u64 0] 61)
      obtain ⟨W3, hW3⟩ : ∃ W3, w2.alloc (.cells #[.int .u64 0, .int .u64 0] 61) = W3 := ⟨_, rfl⟩
      rw [hW3] at z1 z2
      have Y1 := Lib.hid (((t1.below z2).other ⟨w2.heap.size, 0, none⟩ (.int .u64 (qh : Int)) (by show w.heap.size ≠ w2.heap.size; omega)).other ⟨w2.heap.size, 1, none⟩ (.int .u64 (ql : Int)) (by show w.heap.size ≠ w2.heap.size; omega))
      have Y2 := Lib.hid (((t2.below z2).other ⟨w2.heap.size, 0, none⟩ (.int .u64 (qh : Int)) (by show w.heap.size + 1 ≠ w2.heap.size; omega)).other ⟨w2.heap.size, 1, none⟩ (.int .u64 (ql : Int)) (by show w.heap.size + 1 ≠ w2.heap.size; omega))
      have YB := Lib.hid (below_set2 (bt hB2 z2) (show w.heap.size ≤ w2.heap.size by omega) (.int .u64 (qh : Int)) (.int .u64 (ql : Int)))
      have Y0 := Lib.hid (z1.set2 (.int .u64 (qh : Int)) (.int .u64 (ql : Int)))
      clear p0 p1 p2 p3 hb hB2
      have x0 := z1.c 0 _ rfl
      have x1 := z1.c 1 _ rfl
      have xf := z1.fz
      clear z1 z2 t1 t2
      go_wp2_with fail
      go_meet
      exact ⟨w2.heap.size, rfl, rfl, by omega, Y0.out, Y1.out, Y2.out, YB.out⟩
    case rest =>
      obtain ⟨bq, rfl, rfl, hbq, z1, s1, s2, hb⟩ := hcut
      clear p0 p1 p2 p3 S1 S2 CB CZ HB hs1 hsz
      have HZ1 := Lib.hid z1
      have HS1 := Lib.hid s1
      have HS2 := Lib.hid s2
      have HB := Lib.hid hb
      clear z1 s1 s2 hb
      obtain ⟨S, hS⟩ : ∃ S, stripF 39 W e = S := ⟨_, rfl⟩
      rw [hS] at HV
      have HST := Lib.hid hS
      clear hS
      go_wp2_with fail
      go_loopg [4, 5] 39 (fun gf v4 v5 wx => ∃ (bq X : Nat) (eX : Int) (xh xl qh ql rr : Nat), v4 = .pointer (some ⟨bq, 0, none⟩) ∧ v5 = .int .u64 (rr : Int) ∧ w.heap.size + 2 ≤ bq ∧ e ≤ eX ∧ eX + gf ≤ e + 39 ∧ Hid (At wx bq [.int .u64 qh, .int .u64 ql]) ∧ Hid (At wx w.heap.size [.bool neg, .int .u64 (xh : Int), .int .u64 (xl : Int), .int .i64 eX]) ∧ Hid (At wx (w.heap.size + 1) [.int .i64 0, .int .i64 0]) ∧ Hid (Below w.heap.size w wx) ∧
        Hid (X ≠ 0 ∧ X < 10 ^ gf ∧ X < 340282366920938463463374607431768211456 ∧ X / 18446744073709551616 = xh ∧ X % 18446744073709551616 = xl) ∧ Hid (X / 10 / 18446744073709551616 = qh ∧ X / 10 % 18446744073709551616 = ql ∧ X % 10 = rr) ∧ Hid (stripF gf X eX = S))
      case atStart => exact ⟨bq, W, e, hi, lo, qh, ql, rr, rfl, rfl, hbq, by omega, by omega, HZ1, HS1, HS2, HB, ⟨HW0.out, Nat.lt_trans HW.out (by decide), HW.out, HHL.out.1, HHL.out.2⟩, HQ, HST⟩
      case round =>
        clear HZ1 HS1 HS2 HB HW0 HW HHL HQ HST hbq
        obtain ⟨bq, X, eX, xh, xl, qh, ql, rr, rfl, rfl, hbq, hx1, hx2, HZ1, HS1, HS2, HB, HX, HQ, HST⟩ := hrel
        obtain ⟨g', rfl⟩ : ∃ g', gk = g' + 1 := ⟨gk - 1, by
          have h1 := HX.out.1
          have h2 := HX.out.2.1
          rcases Nat.eq_zero_or_pos gk with h | h
          · rw [h] at h2; simp at h2; exact absurd h2 h1
          · omega⟩
        by_cases hr0 : rr = 0
        · subst hr0
          have p0 := HZ1.out.c 0 _ rfl
          have p1 := HZ1.out.c 1 _ rfl
          have q1 := HS1.out.c 1 _ rfl
          have q2 := HS1.out.c 2 _ rfl
          have qf := HS1.out.fz
          have M1 := Lib.hid ((HS1.out.set 1 (by simp) (.int .u64 (qh : Int))).set 2 (by simp) (.int .u64 (ql : Int)))
          have M0 := Lib.hid ((HZ1.out.other ⟨w.heap.size, 1, none⟩ (.int .u64 (qh : Int)) (by show bq ≠ w.heap.size; omega)).other ⟨w.heap.size, 2, none⟩ (.int .u64 (ql : Int)) (by show bq ≠ w.heap.size; omega))
          have M2 := Lib.hid ((HS2.out.other ⟨w.heap.size, 1, none⟩ (.int .u64 (qh : Int)) (by show w.heap.size + 1 ≠ w.heap.size; omega)).other ⟨w.heap.size, 2, none⟩ (.int .u64 (ql : Int)) (by show w.heap.size + 1 ≠ w.heap.size; omega))
          have MB := Lib.hid ((HB.out.setCell (p := ⟨w.heap.size, 1, none⟩) (Nat.le_refl _) (.int .u64 (qh : Int))).setCell (p := ⟨w.heap.size, 2, none⟩) (Nat.le_refl _) (.int .u64 (ql : Int)))
          go_upto_region 6 with (fail)
          go_cut [4] (fun v4 wx => v4 = .pointer (some ⟨bq, 0, none⟩) ∧ At wx bq [.int .u64 qh, .int .u64 ql] ∧ At wx w.heap.size [.bool neg, .int .u64 (qh : Int), .int .u64 (ql : Int), .int .i64 eX] ∧ At wx (w.heap.size + 1) [.int .i64 0, .int .i64 0] ∧ Below w.heap.size w wx)
          case first =>
            go_wp2_with fail
            go_meet
            exact ⟨rfl, M0.out, M1.out, M2.out, MB.out⟩
          case rest =>
            clear p0 p1 q1 q2 qf M0 M1 M2 MB HZ1 HS1 HS2 HB
            obtain ⟨rfl, z1, s1, s2, hb⟩ := hcut
            have q3 := s1.c 3 _ rfl
            have qf := s1.fz
            have m1 := s1.set 3 (by simp) (.int .i64 (eX + 1))
            have m0 := z1.other ⟨w.heap.size, 3, none⟩ (.int .i64 (eX + 1)) (by show bq ≠ w.heap.size; omega)
            have m2 := s2.other ⟨w.heap.size, 3, none⟩ (.int .i64 (eX + 1)) (by show w.heap.size + 1 ≠ w.heap.size; omega)
            have mB := hb.setCell (p := ⟨w.heap.size, 3, none⟩) (Nat.le_refl _) (.int .i64 (eX + 1))
            have hz4 : (wc.setCell ⟨w.heap.size, 3, none⟩ (.int .i64 (eX + 1))).heap.size = wc.heap.size := setCell_size _ _ _
            have hlt := s2.lt
            obtain ⟨W4, hW4⟩ : ∃ W4, wc.setCell ⟨w.heap.size, 3, none⟩ (.int .i64 (eX + 1)) = W4 := ⟨_, rfl⟩
            rw [hW4] at m0 m1 m2 mB hz4
            have p0 := m0.c 0 _ rfl
            have p1 := m0.c 1 _ rfl
            have u0 := (Below.refl W4.heap.size W4).alloc (Nat.le_refl _) (.cells #[.int .u64 0, .int .u64 0] 61)
            have n5 := At.new W4 #[.int .u64 0, .int .u64 0] 61
            obtain ⟨W5, hW5⟩ : ∃ W5, W4.alloc (.cells #[.int .u64 0, .int .u64 0] 61) = W5 := ⟨_, rfl⟩
            rw [hW5] at u0 n5
            rw [hz4] at n5
            have v0 := n5.c 0 _ rfl
            have v1 := n5.c 1 _ rfl
            have vf := n5.fz
            have y5 := n5.set2 (.int .u64 (qh : Int)) (.int .u64 (ql : Int))
            have y1 := ((m1.below u0).other ⟨wc.heap.size, 0, none⟩ (.int .u64 (qh : Int)) (by show w.heap.size ≠ wc.heap.size; omega)).other ⟨wc.heap.size, 1, none⟩ (.int .u64 (ql : Int)) (by show w.heap.size ≠ wc.heap.size; omega)
            have y2 := ((m2.below u0).other ⟨wc.heap.size, 0, none⟩ (.int .u64 (qh : Int)) (by show w.heap.size + 1 ≠ wc.heap.size; omega)).other ⟨wc.heap.size, 1, none⟩ (.int .u64 (ql : Int)) (by show w.heap.size + 1 ≠ wc.heap.size; omega)
            have yB := below_set2 (bt mB u0) (show w.heap.size ≤ wc.heap.size by omega) (.int .u64 (qh : Int)) (.int .u64 (ql : Int))
            obtain ⟨W6, hW6⟩ : ∃ W6, (W5.setCell ⟨wc.heap.size, 0, none⟩ (.int .u64 (qh : Int))).setCell ⟨wc.heap.size, 1, none⟩ (.int .u64 (ql : Int)) = W6 := ⟨_, rfl⟩
            unfold set2 at y5 yB
            rw [hW6] at y5 y1 y2 yB
            have k1 := y1.c 1 _ rfl
            have k2 := y1.c 2 _ rfl
            have hX10 : X / 10 < 340282366920938463463374607431768211456 := by have := HX.out.2.2.1; omega
            have cb := fun w => HBY.out (X / 10) w hX10
            unfold wv at cb
            rw [HQ.out.1, HQ.out.2.1] at cb
            obtain ⟨nh, hnh⟩ : ∃ nh, X / 10 / 10 / 18446744073709551616 = nh := ⟨_, rfl⟩
            obtain ⟨nl, hnl⟩ : ∃ nl, X / 10 / 10 % 18446744073709551616 = nl := ⟨_, rfl⟩
            obtain ⟨nr, hnr⟩ : ∃ nr, X / 10 % 10 = nr := ⟨_, rfl⟩
            rw [hnh, hnl, hnr] at cb
            have CB := Lib.hid cb
            have HQ2 : Hid (X / 10 / 10 / 18446744073709551616 = nh ∧ X / 10 / 10 % 18446744073709551616 = nl ∧ X / 10 % 10 = nr) := ⟨hnh, hnl, hnr⟩
            have HX2 : Hid (X / 10 ≠ 0 ∧ X / 10 < 10 ^ g' ∧ X / 10 < 340282366920938463463374607431768211456 ∧ X / 10 / 18446744073709551616 = qh ∧ X / 10 % 18446744073709551616 = ql) := by
              have h1 := HX.out.1
              have h2 := HX.out.2.1
              have h3 := HQ.out.2.2
              refine ⟨by omega, ?_, hX10, HQ.out.1, HQ.out.2.1⟩
              rw [Nat.pow_succ] at h2
              omega
            have HST2 : Hid (stripF g' (X / 10) (eX + 1) = S) := by
              have h := HST.out
              rw [stripF, if_pos HQ.out.2.2] at h
              exact h
            have Y5 := Lib.hid y5
            have Y1 := Lib.hid y1
            have Y2 := Lib.hid y2
            have YB := Lib.hid yB
            clear cb hnh hnl hnr z1 s1 s2 hb m0 m1 m2 mB u0 n5 y5 y1 y2 yB HX HQ HST hX10
            go_wp2_with fail
            refine (CB.out _).mono ?_
            rintro e3 w7 ⟨rfl, hb⟩
            have z5 := Y5.out.below hb
            have f0 := z5.c 0 _ rfl
            have f1 := z5.c 1 _ rfl
            have ff := z5.fz
            have Z5 := Lib.hid (z5.set2 (.int .u64 (nh : Int)) (.int .u64 (nl : Int)))
            have Z1 := Lib.hid (((Y1.out.below hb).other ⟨wc.heap.size, 0, none⟩ (.int .u64 (nh : Int)) (by show w.heap.size ≠ wc.heap.size; omega)).other ⟨wc.heap.size, 1, none⟩ (.int .u64 (nl : Int)) (by show w.heap.size ≠ wc.heap.size; omega))
            have Z2 := Lib.hid (((Y2.out.below hb).other ⟨wc.heap.size, 0, none⟩ (.int .u64 (nh : Int)) (by show w.heap.size + 1 ≠ wc.heap.size; omega)).other ⟨wc.heap.size, 1, none⟩ (.int .u64 (nl : Int)) (by show w.heap.size + 1 ≠ wc.heap.size; omega))
            have ZB := Lib.hid (below_set2 (bt YB.out hb) (show w.heap.size ≤ wc.heap.size by omega) (.int .u64 (nh : Int)) (.int .u64 (nl : Int)))
            clear hb z5 p0 p1 q3 qf v0 v1 vf k1 k2 hW4 hW5 hW6
            go_wp2_with fail
            go_roundg g'
            case measure => omega
            case rel => exact ⟨wc.heap.size, X / 10, eX + 1, qh, ql, nh, nl, nr, rfl, rfl, by omega, by omega, by omega, Z5, Z1, Z2, ZB, HX2, HQ2, HST2⟩
        · have hS : S = (X, eX) := by
            have h := HST.out
            have h3 := HQ.out.2.2
            rw [stripF, if_neg (by omega)] at h
            exact h.symm
          rw [hS] at HV
          obtain ⟨L, hL⟩ : ∃ L, lowF X eX = L := ⟨_, rfl⟩
          have HXX : Hid (X < 340282366920938463463374607431768211456 ∧ X / 18446744073709551616 = xh ∧ X % 18446744073709551616 = xl) := ⟨HX.out.2.2.1, HX.out.2.2.2.1, HX.out.2.2.2.2⟩
          have HLL := Lib.hid hL
          dsimp only at HV
          rw [hL] at HV
          have hrr : ((rr : Int) == 0) = false := by rw [beq_eq_false_iff_ne]; omega
          clear hS HST HQ HX HZ1 hL
          have p1 := HS1.out.c 1 _ rfl
          have p2 := HS1.out.c 2 _ rfl
          have p3 := HS1.out.c 3 _ rfl
          have pf := HS1.out.fz
          go_upto_if 36 with (fail)
          go_cut [6] (fun v6 wx => ∃ yh yl : Nat, v6 = .bool L.2.2 ∧ At wx w.heap.size [.bool neg, .int .u64 (yh : Int), .int .u64 (yl : Int), .int .i64 L.2.1] ∧ At wx (w.heap.size + 1) [.int .i64 0, .int .i64 0] ∧ Below w.heap.size w wx ∧ L.1 / 18446744073709551616 = yh ∧ L.1 % 18446744073709551616 = yl)
          case first =>
            by_cases h18 : 18 < eX
            · obtain ⟨k, hk⟩ : ∃ k : Nat, min (eX - 18) 40 = (k : Int) := ⟨(min (eX - 18) 40).toNat, by omega⟩
              have hk40 : k ≤ 40 := by omega
              have hlow : L = ((tensF k X).1, 18, (tensF k X).2 && !decide (58 < eX)) := by
                have h := HLL.out
                unfold lowF at h
                rw [if_pos h18, hk, Int.toNat_natCast] at h
                exact h.symm
              have ct := fun w => tens_any X k w HXX.out.1 hk40
              obtain ⟨T, hT⟩ : ∃ T, tensF k X = T := ⟨_, rfl⟩
              obtain ⟨yh, hyh⟩ : ∃ yh, T.1 / 18446744073709551616 = yh := ⟨_, rfl⟩
              obtain ⟨yl, hyl⟩ : ∃ yl, T.1 % 18446744073709551616 = yl := ⟨_, rfl⟩
              unfold wv at ct
              rw [HXX.out.2.1, HXX.out.2.2, hT, hyh, hyl] at ct
              rw [hT] at hlow
              subst hlow
              obtain ⟨TW, ob⟩ := T
              dsimp only at ct hyh hyl ⊢
              have CT := Lib.hid ct
              have HY : Hid (TW / 18446744073709551616 = yh ∧ TW % 18446744073709551616 = yl) := ⟨hyh, hyl⟩
              have HK := Lib.hid hk
              have d18 : decide (18 < eX) = true := decide_eq_true h18
              clear ct hT hyh hyl hk HLL HV
              go_wp2_with fail
              rw [HK.out]
              refine (CT.out _).mono ?_
              rintro e4 w4 ⟨rfl, hb⟩
              have s1 := HS1.out.below hb
              have s2 := HS2.out.below hb
              have hB := bt HB.out hb
              clear p1 p2 p3 pf hb CT
              have p1 := s1.c 1 _ rfl
              have p2 := s1.c 2 _ rfl
              have p3 := s1.c 3 _ rfl
              have pf := s1.fz
              have M1 := Lib.hid (((s1.set 1 (by simp) (.int .u64 (yh : Int))).set 2 (by simp) (.int .u64 (yl : Int))).set 3 (by simp) (.int .i64 18))
              have M2 := Lib.hid (((s2.other ⟨w.heap.size, 1, none⟩ (.int .u64 (yh : Int)) (by show w.heap.size + 1 ≠ w.heap.size; omega)).other ⟨w.heap.size, 2, none⟩ (.int .u64 (yl : Int)) (by show w.heap.size + 1 ≠ w.heap.size; omega)).other ⟨w.heap.size, 3, none⟩ (.int .i64 18) (by show w.heap.size + 1 ≠ w.heap.size; omega))
              have MB := Lib.hid (((hB.setCell (p := ⟨w.heap.size, 1, none⟩) (Nat.le_refl _) (.int .u64 (yh : Int))).setCell (p := ⟨w.heap.size, 2, none⟩) (Nat.le_refl _) (.int .u64 (yl : Int))).setCell (p := ⟨w.heap.size, 3, none⟩) (Nat.le_refl _) (.int .i64 18))
              clear s1 s2 hB HS1 HS2 HB
              by_cases h58 : 58 < eX
              · have d58 : decide (58 < eX) = true := decide_eq_true h58
                go_wp2_with fail
                go_meet
                exact ⟨yh, yl, by first | rfl | (rw [d58]; cases ob <;> rfl) | (cases ob <;> rfl), M1.out, M2.out, MB.out, HY.out.1, HY.out.2⟩
              · have d58 : decide (58 < eX) = false := decide_eq_false h58
                go_wp2_with fail
                go_meet
                exact ⟨yh, yl, by first | rfl | (rw [d58]; cases ob <;> rfl) | (cases ob <;> rfl), M1.out, M2.out, MB.out, HY.out.1, HY.out.2⟩
            · have hlow : L = (X, eX, true) := by
                have h := HLL.out
                unfold lowF at h
                rw [if_neg h18] at h
                exact h.symm
              subst hlow
              have d18 : decide (18 < eX) = false := decide_eq_false h18
              go_wp2_with fail
              go_meet
              exact ⟨xh, xl, rfl, HS1.out, HS2.out, HB.out, HXX.out.2.1, HXX.out.2.2⟩
          case rest =>
            clear p1 p2 p3 pf HS1 HS2 HB HLL HXX
            obtain ⟨yh, yl, rfl, s1, s2, hb, hyh, hyl⟩ := hcut
            obtain ⟨L1, L2, ok⟩ := L
            dsimp only at *
            have HY : Hid (L1 / 18446744073709551616 = yh ∧ L1 % 18446744073709551616 = yl) := ⟨hyh, hyl⟩
            have hylt : yl < 18446744073709551616 := by omega
            have p0 := s1.c 0 _ rfl
            have p1 := s1.c 1 _ rfl
            have p2 := s1.c 2 _ rfl
            have p3 := s1.c 3 _ rfl
            have q0 := s2.c 0 _ rfl
            have q1 := s2.c 1 _ rfl
            have qf := s2.fz
            have S2 := Lib.hid s2
            have HB := Lib.hid hb
            clear s1 s2 hb hyh hyl
            go_upto_if 53 with (fail)
            go_cut [7] (fun v7 wx => v7 = .int .u64 (topF neg : Int) ∧ wc = wx)
            case first =>
              cases neg with
              | false =>
                go_wp2_with fail
                go_meet
                exact ⟨rfl, rfl⟩
              | true =>
                go_wp2_with fail
                go_meet
                exact ⟨rfl, rfl⟩
            case rest =>
              obtain ⟨rfl, rfl⟩ := hcut
              obtain ⟨top, htop⟩ : ∃ top, topF neg = top := ⟨_, rfl⟩
              rw [htop]
              have HT := Lib.hid htop
              clear htop
              obtain ⟨g, hg⟩ : ∃ g, (!ok || decide (L2 < -18) || decide (0 < yh) || decide (top < yl)) = g := ⟨_, rfl⟩
              have HG := Lib.hid hg
              clear hg
              go_upto_region 19 with (fail)
              go_cut [75] (fun v75 wx => v75 = .bool g ∧ wc = wx)
              case first =>
                cases ok with
                | false =>
                  go_wp2_with fail
                  go_meet
                  exact ⟨by rw [← HG.out]; rfl, rfl⟩
                | true =>
                  cases d1 : decide (L2 < -18) with
                  | true =>
                    rw [d1] at HG
                    go_wp2_with fail
                    go_meet
                    exact ⟨by rw [← HG.out]; rfl, rfl⟩
                  | false =>
                    rw [d1] at HG
                    cases d2 : decide (0 < yh) with
                    | true =>
                      rw [d2] at HG
                      go_wp2_with fail
                      go_meet
                      exact ⟨by rw [← HG.out]; rfl, rfl⟩
                    | false =>
                      rw [d2] at HG
                      cases d3 : decide (top < yl) with
                      | true =>
                        rw [d3] at HG
                        go_wp2_with fail
                        go_meet
                        exact ⟨by rw [← HG.out]; rfl, rfl⟩
                      | false =>
                        rw [d3] at HG
                        go_wp2_with fail
                        go_meet
                        exact ⟨by rw [← HG.out]; rfl, rfl⟩
              case rest =>
                obtain ⟨rfl, rfl⟩ := hcut
                cases g with
                | true =>
                  have hE : endF neg (L1, L2, ok) = (30, 0, 0) := by
                    unfold endF
                    rw [if_pos]
                    have h := HG.out
                    simp only [Bool.or_eq_true, decide_eq_true_eq, Bool.not_eq_true'] at h
                    have := HY.out
                    have := HT.out
                    dsimp only
                    rcases h with ((h | h) | h) | h
                    · exact Or.inl h
                    · exact Or.inr (Or.inl h)
                    · refine Or.inr (Or.inr ?_)
                      have : topF neg < 18446744073709551616 := by unfold topF; split <;> decide
                      omega
                    · refine Or.inr (Or.inr ?_)
                      omega
                  have hv := HV.out
                  rw [hE] at hv
                  have HV2 := Lib.hid hv
                  clear hv hE HV HG
                  go_wp2_with fail
                  exact ret_two S2.out HB.out (by omega) decAgg decSize HV2.out rfl rfl rfl rfl
                | false =>
                  have h := HG.out
                  simp only [Bool.or_eq_false_iff, decide_eq_false_iff_not, Bool.not_eq_false'] at h
                  obtain ⟨⟨⟨h1, h2⟩, h3⟩, h4⟩ := h
                  have hL1 : L1 = yl := by have := HY.out; omega
                  have hE : endF neg (L1, L2, ok) = (0, if neg then -(yl : Int) else (yl : Int), L2) := by
                    unfold endF
                    rw [if_neg]
                    · rw [hL1]
                    · dsimp only
                      rintro (h | h | h)
                      · rw [h1] at h; cases h
                      · exact h2 h
                      · rw [HT.out, hL1] at h; exact h4 h
                  have hv := HV.out
                  rw [hE] at hv
                  dsimp only at hv
                  have HV2 := Lib.hid hv
                  have htn := HT.out
                  clear hv hE HV HG h1 h2 h3
                  cases neg with
                  | false =>
                    have hw := int64_of yl (by unfold topF at htn; simp at htn; omega)
                    clear htn h4
                    go_wp2_with fail
                    exact ret_two S2.out HB.out (by omega) decAgg decSize HV2.out rfl rfl rfl rfl
                  | true =>
                    have hw := neg_of yl (by unfold topF at htn; simp at htn; omega)
                    obtain ⟨C, hC⟩ : ∃ C, IntKind.i64.wrap (yl : Int) = C := ⟨_, rfl⟩
                    rw [hC] at hw
                    clear htn h4
                    go_wp2_with fail
                    exact ret_two S2.out HB.out (by omega) decAgg decSize HV2.out rfl rfl rfl rfl
end Go.Proofs.YtegjainidiaeaaaGreatDoor
