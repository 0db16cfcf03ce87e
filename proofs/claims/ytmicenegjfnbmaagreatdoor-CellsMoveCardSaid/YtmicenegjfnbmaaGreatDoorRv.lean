/- Less, twice; what it stands on out of package cmp. -/
import Derived.Test.YtmicenegjfnbmaaGreatDoorRu
import Derived.Test.YtmicenegjfnbmaaGreatDoorCp
import Derived.StillTailTactics
namespace Go.Proofs.YtmicenegjfnbmaaGreatDoor
open Go.RowKit Go.Lib

def cmpS (x y : ByteArray) : Int := if Op.bytesLess x.toList y.toList then -1 else if Op.bytesLess y.toList x.toList then 1 else 0
def cmpI (x y : Int) : Int := if x < y then -1 else if y < x then 1 else 0
def or3 (a b c : Int) : Int := if a ≠ 0 then a else if b ≠ 0 then b else c

theorem nan_any (x : ByteArray) (w : World) : Calls Tryz.prog 67 #[.string x] w fun e w' => e = .returned (.bool false) ∧ w = w' := by
  go_enter Tryz.func67, Tryz.ntmps67
  go_wp2
  go_ret
  exact ⟨rfl, rfl⟩

theorem less_asymm : ∀ (x y : List UInt8), Op.bytesLess x y = true → Op.bytesLess y x = false ∧ x ≠ y
  | x, [], h => by cases x <;> simp [Op.bytesLess] at h
  | [], _ :: _, _ => ⟨rfl, by simp⟩
  | a :: x, b :: y, h => by
    simp only [Op.bytesLess, Bool.or_eq_true, Bool.and_eq_true, decide_eq_true_eq, beq_iff_eq] at h ⊢
    rcases h with h | ⟨rfl, h⟩
    · have h1 : ¬ b < a := fun h' => absurd (UInt8.lt_trans h h') (UInt8.lt_irrefl a)
      have h2 : ¬ b = a := fun e => by subst e; exact UInt8.lt_irrefl _ h
      refine ⟨by simp [h1, h2], fun e => ?_⟩
      injection e with e _
      exact h2 e.symm
    · obtain ⟨i1, i2⟩ := less_asymm x y h
      exact ⟨by simp [i1], by simp [i2]⟩
theorem less_total : ∀ (x y : List UInt8), Op.bytesLess x y = false → Op.bytesLess y x = false → x = y
  | [], [], _, _ => rfl
  | _ :: _, [], _, h => by simp [Op.bytesLess] at h
  | [], _ :: _, h, _ => by simp [Op.bytesLess] at h
  | a :: x, b :: y, h, h' => by
    simp only [Op.bytesLess, Bool.or_eq_false_iff, Bool.and_eq_false_iff, decide_eq_false_iff_not, beq_eq_false_iff_ne] at h h'
    have hab : a = b := by
      have h1 := UInt8.not_lt.1 h.1
      have h2 := UInt8.not_lt.1 h'.1
      exact UInt8.le_antisymm h2 h1
    subst hab
    have i1 := h.2.resolve_left (fun e => e rfl)
    have i2 := h'.2.resolve_left (fun e => e rfl)
    rw [less_total x y i1 i2]

set_option maxHeartbeats 1000000 in
theorem cmpS_any (x y : ByteArray) (w : World) : Calls Tryz.prog 50 #[.string x, .string y] w fun e w' => e = .returned (.int .i64 (cmpS x y)) ∧ w = w' := by
  have hc : cmpS x y = if Op.bytesLess x.toList y.toList then -1 else if Op.bytesLess y.toList x.toList then 1 else 0 := rfl
  have hx : Op.bytesLess y.toList x.toList = !(Op.bytesLess x.toList y.toList || x.toList == y.toList) := by
    cases h : Op.bytesLess x.toList y.toList with
    | true => rw [(less_asymm _ _ h).1]; rfl
    | false =>
      cases h' : Op.bytesLess y.toList x.toList with
      | true =>
        have hne := (less_asymm _ _ h').2
        have : (x.toList == y.toList) = false := by rw [beq_eq_false_iff_ne]; exact fun e => hne e.symm
        rw [this]; rfl
      | false => rw [less_total _ _ h h']; simp
  rw [hc, hx]
  clear hc hx
  generalize h1 : Op.bytesLess x.toList y.toList = b1
  generalize h2 : (x.toList == y.toList) = b2
  cases b1 <;> cases b2
  all_goals
    go_enter Tryz.func50, Tryz.ntmps50
    go_wp2_with fail
    refine (nan_any _ _).mono ?_
    rintro e w1 ⟨rfl, rfl⟩
    go_wp2_with fail
    refine (nan_any _ _).mono ?_
    rintro e w1 ⟨rfl, rfl⟩
    go_wp2_with fail
    go_ret
    exact ⟨rfl, rfl⟩

set_option maxHeartbeats 2000000 in
theorem or_any (N : Nat) (a b c : Int) (w : World) (h0 : w.cell? ⟨N, 0, none⟩ = some (.int .i64 a)) (h1 : w.cell? ⟨N, 1, none⟩ = some (.int .i64 b)) (h2 : w.cell? ⟨N, 2, none⟩ = some (.int .i64 c)) :
    Calls Tryz.prog 49 #[.slice (some ⟨N, 0, none⟩) 3 3] w fun e w' => e = .returned (.int .i64 (or3 a b c)) ∧ w = w' := by
  obtain ⟨R, hR⟩ : ∃ R, or3 a b c = R := ⟨_, rfl⟩
  rw [hR]
  have HR := Lib.hid hR
  clear hR
  go_enter Tryz.func49, Tryz.ntmps49
  go_wp2
  go_loopg [8] 3 (fun gf i wx => ∃ k : Nat, k ≤ 3 ∧ 3 ≤ k + gf ∧ i = .int .i64 k ∧ wx = w ∧ Hid ((1 ≤ k → a = 0) ∧ (2 ≤ k → b = 0) ∧ (3 ≤ k → c = 0)))
  case atStart => exact ⟨0, by omega, by omega, rfl, rfl, fun h => (by omega), fun h => (by omega), fun h => (by omega)⟩
  case round =>
    obtain ⟨k, hk, hfu, rfl, rfl, HZ⟩ := hrel
    rcases (by omega : k = 0 ∨ k = 1 ∨ k = 2 ∨ k = 3) with rfl | rfl | rfl | rfl
    · cases hv : (a != 0) with
      | true =>
        have hR : Hid (R = a) := by
          show _ = _
          rw [← HR.out]
          unfold or3
          have h := bne_iff_ne.1 hv
          rw [if_pos h]
        go_wp2
        go_ret
        exact ⟨by rw [hR.out]; rfl, rfl⟩
      | false =>
        have hz : a = 0 := by simpa using hv
        have HV := Lib.hid hz
        clear hz
        obtain ⟨g', rfl⟩ : ∃ g', gk = g' + 1 := ⟨gk - 1, by omega⟩
        go_wp2
        go_roundg g'
        case measure => omega
        case rel => exact ⟨1, by omega, by omega, by go_num, rfl, fun _ => HV.out, fun h => (by omega), fun h => (by omega)⟩
    · cases hv : (b != 0) with
      | true =>
        have hR : Hid (R = b) := by
          show _ = _
          rw [← HR.out]
          unfold or3
          have h := bne_iff_ne.1 hv
          rw [if_neg (by rw [HZ.out.1 (by omega)]; exact fun h => h rfl), if_pos h]
        go_wp2
        go_ret
        exact ⟨by rw [hR.out]; rfl, rfl⟩
      | false =>
        have hz : b = 0 := by simpa using hv
        have HV := Lib.hid hz
        clear hz
        obtain ⟨g', rfl⟩ : ∃ g', gk = g' + 1 := ⟨gk - 1, by omega⟩
        go_wp2
        go_roundg g'
        case measure => omega
        case rel => exact ⟨2, by omega, by omega, by go_num, rfl, fun _ => HZ.out.1 (by omega), fun _ => HV.out, fun h => (by omega)⟩
    · cases hv : (c != 0) with
      | true =>
        have hR : Hid (R = c) := by
          show _ = _
          rw [← HR.out]
          unfold or3
          have h := bne_iff_ne.1 hv
          rw [if_neg (by rw [HZ.out.1 (by omega)]; exact fun h => h rfl), if_neg (by rw [HZ.out.2.1 (by omega)]; exact fun h => h rfl)]
        go_wp2
        go_ret
        exact ⟨by rw [hR.out]; rfl, rfl⟩
      | false =>
        have hz : c = 0 := by simpa using hv
        have HV := Lib.hid hz
        clear hz
        obtain ⟨g', rfl⟩ : ∃ g', gk = g' + 1 := ⟨gk - 1, by omega⟩
        go_wp2
        go_roundg g'
        case measure => omega
        case rel => exact ⟨3, by omega, by omega, by go_num, rfl, fun _ => HZ.out.1 (by omega), fun _ => HZ.out.2.1 (by omega), fun _ => HV.out⟩
    · have hR : Hid (R = 0) := by
        show _ = _
        rw [← HR.out]
        unfold or3
        obtain ⟨z1, z2, z3⟩ := HZ.out
        rw [z1 (by omega), z2 (by omega), z3 (by omega)]; rfl
      go_wp2
      go_ret
      exact ⟨by rw [hR.out]; rfl, rfl⟩

theorem region_tail {P : Program} {id : Nat} {Q : Exit → Act → World → Prop} {a : Act} {w : World} {l : List Oper} (n : Nat) (hm : P.follows .mixedOrders = true) (hB : Region.lexTailB .any l.toArray n = true)
    (h : wpStill P l.toArray w.drew (fun a' => wpList P l.toArray Q (l.drop n) a' w.drew) (l.take n) a) : (Code.region id l.toArray true).wp P Q a w := wp_region_still_tail n hm hB h

set_option maxRecDepth 100000 in
set_option maxHeartbeats 8000000 in
theorem less_any (sa : ByteArray) (ca ra : Int) (aca ara : Bool) (sb : ByteArray) (cb rb : Int) (acb arb : Bool) (w : World) :
    Calls Tryz.prog 29 #[refV sa ca ra aca ara, refV sb cb rb acb arb] w (Q (.bool (decide (or3 (cmpS sa sb) (Lib.compareInt ra rb) (Lib.compareInt ca cb) < 0))) w) := by
  have HB := Lib.hid (W2_below sa ca ra aca ara sb cb rb acb arb w)
  have RA := Lib.hid (W2_a sa ca ra aca ara sb cb rb acb arb w)
  have RB := Lib.hid (W2_b sa ca ra aca ara sb cb rb acb arb w)
  unfold W2 at HB RA RB
  go_enter Tryz.func29, Tryz.ntmps29
  go_wp2_with fail
  obtain ⟨W, hW⟩ : ∃ W, (w.alloc (.cells #[.string sa, .int .i64 ca, .int .i64 ra, .bool aca, .bool ara] 23)).alloc (.cells #[.string sb, .int .i64 cb, .int .i64 rb, .bool acb, .bool arb] 23) = W := ⟨_, rfl⟩
  rw [hW] at HB RA RB ⊢
  clear hW
  have rd := RA.out.drew
  have sd := RB.out.drew
  have hBd := HB.out.drew
  clear RA RB HB
  have C1 := Lib.hid (fun w => (cmpS_any sa sb w).mono fun _ _ ⟨he, hw⟩ => (⟨he, hw.symm⟩ : _ ∧ _ = w))
  generalize cmpS sa sb = x1 at *
  have C2 := Lib.hid (fun w => Tryz.cmp_Compare_int ra rb w)
  have C3 := Lib.hid (fun w => Tryz.cmp_Compare_int ca cb w)
  generalize Lib.compareInt ra rb = x2 at *
  generalize Lib.compareInt ca cb = x3 at *
  refine region_tail 15 (by kernel_rfl) (by kernel_rfl) ?_
  simp only [List.take_succ_cons, List.take_zero, List.drop_succ_cons, List.drop_zero]
  have hV : w.heap.size ≤ W.drew.heap.size := hBd.size
  generalize W.drew = V at *
  obtain ⟨q0, q1, q2, q3, q4, qf, ql⟩ := rd
  obtain ⟨t0, t1, t2, t3, t4, tf, tl⟩ := sd
  have HB := Lib.hid hBd
  clear hBd
  repeat still_step
  still_call (C1.out _)
  repeat still_step
  still_call (C2.out _)
  repeat still_step
  still_call (C3.out _)
  refine wpStill_nil ?_
  go_wp2_with fail
  refine (or_any V.heap.size x1 x2 x3 _ (by simp [go_sem]) (by simp [go_sem]) (by simp [go_sem])).mono ?_
  rintro e w1 ⟨rfl, rfl⟩
  go_wp2_with fail
  go_ret
  exact ⟨rfl, HB.out.alloc HB.out.size _⟩

/-! ### Which stands ahead -/
theorem cmpI_lt (x y : Int) : decide (Lib.compareInt x y < 0) = decide (x < y) ∧ (Lib.compareInt x y = 0 ↔ x = y) := by
  unfold Lib.compareInt
  by_cases h1 : x < y
  · rw [if_pos h1]; simp [h1]; omega
  · rw [if_neg h1]
    by_cases h2 : y < x
    · first | rw [if_pos h2] | skip
      simp [h1]; omega
    · first | rw [if_neg h2] | skip
      simp [h1]; omega
theorem cmpS_lt (x y : ByteArray) : decide (cmpS x y < 0) = Op.bytesLess x.toList y.toList ∧ (cmpS x y = 0 ↔ x.toList = y.toList) := by
  unfold cmpS
  cases h : Op.bytesLess x.toList y.toList with
  | true =>
    have := (less_asymm _ _ h).2
    refine ⟨rfl, ?_⟩
    simp [this]
  | false =>
    cases h' : Op.bytesLess y.toList x.toList with
    | true =>
      have := (less_asymm _ _ h').2
      refine ⟨rfl, ?_⟩
      simp; exact fun e => this e.symm
    | false =>
      refine ⟨rfl, ?_⟩
      simp [less_total _ _ h h']
def lessF (sa : ByteArray) (ca ra : Int) (sb : ByteArray) (cb rb : Int) : Bool :=
  if sa.toList = sb.toList then (if ra = rb then decide (ca < cb) else decide (ra < rb)) else Op.bytesLess sa.toList sb.toList
theorem less_law (sa : ByteArray) (ca ra : Int) (sb : ByteArray) (cb rb : Int) : decide (or3 (cmpS sa sb) (Lib.compareInt ra rb) (Lib.compareInt ca cb) < 0) = lessF sa ca ra sb cb rb := by
  obtain ⟨s1, s2⟩ := cmpS_lt sa sb
  obtain ⟨r1, r2⟩ := cmpI_lt ra rb
  obtain ⟨c1, c2⟩ := cmpI_lt ca cb
  unfold or3 lessF
  by_cases h1 : sa.toList = sb.toList
  · rw [if_neg (fun h => h (s2.2 h1)), if_pos h1]
    by_cases h2 : ra = rb
    · rw [if_neg (fun h => h (r2.2 h2)), if_pos h2, c1]
    · rw [if_pos (fun h => h2 (r2.1 h)), if_neg h2, r1]
  · rw [if_pos (fun h => h1 (s2.1 h)), if_neg h1, s1]

set_option maxHeartbeats 2000000 in
theorem refLess_any (sa : ByteArray) (ca ra : Int) (aca ara : Bool) (sb : ByteArray) (cb rb : Int) (acb arb : Bool) (w : World) :
    Calls Tryz.prog 30 #[refV sa ca ra aca ara, refV sb cb rb acb arb] w (Q (.bool (lessF sa ca ra sb cb rb)) w) := by
  have hl : lessF sa ca ra sb cb rb = if sa.toList = sb.toList then (if ra = rb then decide (ca < cb) else decide (ra < rb)) else Op.bytesLess sa.toList sb.toList := rfl
  obtain ⟨R, hR⟩ : ∃ R, lessF sa ca ra sb cb rb = R := ⟨_, rfl⟩
  rw [hR]
  rw [hR] at hl
  have HB := W2_below sa ca ra aca ara sb cb rb acb arb w
  unfold W2 at HB
  by_cases h1 : sa.toList = sb.toList
  · rw [if_pos h1] at hl
    have d1 : (sa.toList == sb.toList) = true := by rw [h1]; simp
    clear h1
    by_cases h2 : ra = rb
    · rw [if_pos h2] at hl
      have d2 : (ra == rb) = true := by rw [h2]; simp
      have d2' : (ra != rb) = false := by rw [h2]; simp
      clear h2
      have HL := Lib.hid hl
      clear hl
      go_enter Tryz.func30, Tryz.ntmps30
      go_wp2_with fail
      go_ret
      exact ⟨by rw [HL.out]; rfl, HB⟩
    · rw [if_neg h2] at hl
      have d2 : (ra == rb) = false := by rw [beq_eq_false_iff_ne]; exact h2
      have d2' : (ra != rb) = true := by rw [bne_iff_ne]; exact h2
      clear h2
      have HL := Lib.hid hl
      clear hl
      go_enter Tryz.func30, Tryz.ntmps30
      go_wp2_with fail
      go_ret
      exact ⟨by rw [HL.out]; rfl, HB⟩
  · rw [if_neg h1] at hl
    have d1 : (sa.toList == sb.toList) = false := by rw [beq_eq_false_iff_ne]; exact h1
    clear h1
    have HL := Lib.hid hl
    clear hl
    go_enter Tryz.func30, Tryz.ntmps30
    go_wp2_with fail
    go_ret
    exact ⟨by rw [HL.out]; rfl, HB⟩
end Go.Proofs.YtmicenegjfnbmaaGreatDoor
