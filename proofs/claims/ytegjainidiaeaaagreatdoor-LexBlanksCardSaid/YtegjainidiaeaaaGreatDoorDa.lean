/- Package dec: whole numbers of twice 64 bits: times, plus, zero. -/
import Derived.Test.YtegjainidiaeaaaGreatDoorXm
import Derived.Laws.Externs
import Derived.Laws.Bits64b
import Derived.Deep.DeepCutAuto
namespace Go.Proofs.YtegjainidiaeaaaGreatDoor
open Go.RowKit Go.Lib

/-- A row of cells that begins a block. -/
structure At (w : World) (B : Nat) (vs : List Value) : Prop where
  c : ∀ i v, vs[i]? = some v → w.cell? ⟨B, i, none⟩ = some v
  fz : ∀ o, w.frozen? ⟨B, o, none⟩ = false
  lt : B < w.heap.size
section
variable {w w' : World} {B : Nat} {vs : List Value}
theorem At.of_block (h : At w B vs) (hz : w.heap.size ≤ w'.heap.size) (hb : w'.heap[B]? = w.heap[B]?) : At w' B vs :=
  ⟨fun i v hi => (World.cell?_of_block (a := ⟨B, i, none⟩) hb).trans (h.c i v hi), fun o => (World.frozen?_of_block (a := ⟨B, o, none⟩) hb).trans (h.fz o), Nat.lt_of_lt_of_le h.lt hz⟩
theorem At.below (h : At w B vs) (hb : Below w.heap.size w w') : At w' B vs := h.of_block hb.size (hb.block B h.lt)
theorem At.alloc (h : At w B vs) (o : Obj) : At (w.alloc o) B vs := h.of_block (by simp) (Below.heap_alloc _ _ _ h.lt)
theorem At.new (w : World) (cs : Array Value) (t : TypeId) : At (w.alloc (.cells cs t)) w.heap.size cs.toList :=
  ⟨fun i v hi => by rw [World.cell?_alloc_at _ _ _ _ rfl, ← hi, Array.getElem?_toList], fun o => by simp [go_sem], by simp⟩
theorem At.other (h : At w B vs) (a : Addr) (v : Value) (hne : B ≠ a.block) : At (w.setCell a v) B vs :=
  h.of_block (by rw [setCell_size]; exact Nat.le_refl _) (Below.heap_setCell _ _ _ _ hne)
theorem At.set (h : At w B vs) (i : Nat) (hi : i < vs.length) (v : Value) : At (w.setCell ⟨B, i, none⟩ v) B (vs.set i v) := by
  refine ⟨fun j u hj => ?_, fun o => by rw [World.frozen?_setCell]; exact h.fz o, by rw [setCell_size]; exact h.lt⟩
  by_cases e : i = j
  · subst e
    rw [List.getElem?_set_self hi] at hj
    injection hj with hj; subst hj
    exact World.cell?_setCell_same _ _ _ (h.c i vs[i] (List.getElem?_eq_getElem hi))
  · rw [List.getElem?_set_ne e] at hj
    exact (cell_set_ne _ _ _ _ _ e).trans (h.c j u hj)
end

abbrev set2 (w : World) (B : Nat) (v0 v1 : Value) : World := (w.setCell ⟨B, 0, none⟩ v0).setCell ⟨B, 1, none⟩ v1
theorem At.set2 {w : World} {B : Nat} {a0 a1 : Value} (h : At w B [a0, a1]) (v0 v1 : Value) : At (set2 w B v0 v1) B [v0, v1] := (h.set 0 (by simp) v0).set 1 (by simp) v1
theorem below_set2 {B b : Nat} {w w1 : World} (h : Below B w w1) (hb : B ≤ b) (v0 v1 : Value) : Below B w (set2 w1 b v0 v1) :=
  (h.setCell (p := ⟨b, 0, none⟩) hb _).setCell (p := ⟨b, 1, none⟩) hb _

/-- A function that hands back a variable of two cells, and one value more: at its end. -/
theorem ret_two {f : Func} {act : Act} {w W : World} {a b B t : Nat} {V vb : Value} {x0 x1 v0 v1 : Value} (r : At W B [x0, x1]) (HB : Below w.heap.size w W) (hB : w.heap.size ≤ B)
    (hag : ∀ w, (isAgg t).run Tryz.prog w = .ok true w) (hsz : ∀ w, (Go.sizeOf t).run Tryz.prog w = .ok 2 w)
    (hV : V = .tuple #[.agg #[v0, v1], vb]) (hf : f.results = #[.cell a t, .tmp b]) (hd : act.defers = [])
    (ha : act.tmps.getD a undef = .pointer (some ⟨B, 0, none⟩)) (hb : act.tmps.getD b undef = vb) :
    bodyPost Tryz.prog f (Q V w) .ret act (set2 W B v0 v1) := by
  have r2 := r.set2 v0 v1
  have hb2 := below_set2 HB hB v0 v1
  have t0 := r2.c 0 _ rfl
  have t1 := r2.c 1 _ rfl
  generalize set2 W B v0 v1 = W' at *
  subst hV
  rw [Array.getD_eq_getD_getElem?] at ha hb
  exact bodyPost_ret (v := .tuple #[.agg #[v0, v1], vb]) (by simp [results, hf, go_sem, ha, hb, hag, hsz, t0, t1]) hd ⟨rfl, hb2⟩

theorem wideAgg (w : World) : (isAgg 61).run Tryz.prog w = .ok true w := by kernel_rfl
theorem wideSize (w : World) : (Go.sizeOf 61).run Tryz.prog w = .ok 2 w := by kernel_rfl

theorem add64_run (x y c : Nat) (hc : c ≤ 1) (w : World) :
    (callFunc 64 #[.int .u64 x, .int .u64 y, .int .u64 c]).run Tryz.prog w =
      .ok (.value (.tuple #[.int .u64 (((x + y + c) % 18446744073709551616 : Nat) : Int), .int .u64 (((x + y + c) / 18446744073709551616 : Nat) : Int)])) w := by
  rw [run_callFunc_extern Tryz.func64 (by kernel_rfl) (by kernel_rfl) (by kernel_rfl) (e := add64Entry) (by kernel_rfl), run_add64 x y c (by omega) (by omega) (by omega) (by omega)]
  simp only [Result.andThen]
  congr 5 <;> omega

set_option maxRecDepth 100000 in
set_option maxHeartbeats 8000000 in
theorem times_core (hi lo n H L O M S C : Nat) (ok : Bool) (w : World)
    (C1 : Hid (∀ w, Calls Tryz.prog 63 #[.int .u64 lo, .int .u64 n] w fun e w' => e = .returned (.tuple #[.int .u64 H, .int .u64 L]) ∧ w' = w))
    (C2 : Hid (∀ w, Calls Tryz.prog 63 #[.int .u64 hi, .int .u64 n] w fun e w' => e = .returned (.tuple #[.int .u64 O, .int .u64 M]) ∧ w' = w))
    (ea : ∀ w, (callFunc 64 #[.int .u64 H, .int .u64 M, .int .u64 0]).run Tryz.prog w = .ok (.value (.tuple #[.int .u64 S, .int .u64 C])) w)
    (hOC : O + C < 18446744073709551616) (hok : (((O : Int) + C) == 0) = ok) :
    Calls Tryz.prog 31 #[.agg #[.int .u64 hi, .int .u64 lo], .int .u64 n] w (Q (.tuple #[.agg #[.int .u64 S, .int .u64 L], .bool ok]) w) := by
  have a1 := At.new w #[.int .u64 hi, .int .u64 lo] 61
  have hb1 : Below w.heap.size w (w.alloc (.cells #[.int .u64 hi, .int .u64 lo] 61)) := (Below.refl _ _).alloc (Nat.le_refl _) _
  have a2 := a1.alloc (.cells #[.int .u64 0, .int .u64 0] 61)
  have a3 := At.new (w.alloc (.cells #[.int .u64 hi, .int .u64 lo] 61)) #[.int .u64 0, .int .u64 0] 61
  have hb3 := hb1.alloc hb1.size (.cells #[.int .u64 0, .int .u64 0] 61)
  have hz : (w.alloc (.cells #[.int .u64 hi, .int .u64 lo] 61)).heap.size = w.heap.size + 1 := by simp
  rw [hz] at a3
  have A2 := Lib.hid a2
  have A3 := Lib.hid a3
  have HB := Lib.hid hb3
  have EA := Lib.hid ea
  clear a1 a2 a3 hb1 hb3 hz ea
  go_enter Tryz.func31, Tryz.ntmps31
  go_upto_region 0 with (fail)
  go_cut [2, 4] (fun v2 v4 wx => v2 = .pointer (some ⟨w.heap.size, 0, none⟩) ∧ v4 = .pointer (some ⟨w.heap.size + 1, 0, none⟩) ∧ At wx w.heap.size [.int .u64 hi, .int .u64 lo] ∧ At wx (w.heap.size + 1) [.int .u64 0, .int .u64 0] ∧ Below w.heap.size w wx)
  case first =>
    go_wp2_with fail
    go_meet
    exact ⟨rfl, rfl, A2.out, A3.out, HB.out⟩
  case rest =>
    obtain ⟨rfl, rfl, r1, r2, hb⟩ := hcut
    have p0 := r1.c 0 _ rfl
    have p1 := r1.c 1 _ rfl
    have q0 := r2.c 0 _ rfl
    have q1 := r2.c 1 _ rfl
    have qf := r2.fz
    have e64 := EA.out
    have R2 := Lib.hid r2
    replace HB := Lib.hid hb
    clear r1 r2 hb A2 A3
    go_wp2_with fail
    refine (C1.out _).mono ?_
    rintro e w1 ⟨rfl, rfl⟩
    go_wp2_with fail
    refine (C2.out _).mono ?_
    rintro e w1 ⟨rfl, rfl⟩
    go_wp2_with fail
    exact ret_two R2.out HB.out (by omega) wideAgg wideSize rfl rfl rfl rfl rfl

set_option maxRecDepth 100000 in
set_option maxHeartbeats 8000000 in
theorem plus_core (hi lo xh xl l c h c2 : Nat) (ok : Bool) (w : World)
    (e1 : ∀ w, (callFunc 64 #[.int .u64 lo, .int .u64 xl, .int .u64 0]).run Tryz.prog w = .ok (.value (.tuple #[.int .u64 l, .int .u64 c])) w)
    (e2 : ∀ w, (callFunc 64 #[.int .u64 hi, .int .u64 xh, .int .u64 c]).run Tryz.prog w = .ok (.value (.tuple #[.int .u64 h, .int .u64 c2])) w)
    (hok : ((c2 : Int) == 0) = ok) :
    Calls Tryz.prog 32 #[.agg #[.int .u64 hi, .int .u64 lo], .agg #[.int .u64 xh, .int .u64 xl]] w (Q (.tuple #[.agg #[.int .u64 h, .int .u64 l], .bool ok]) w) := by
  have a1 := At.new w #[.int .u64 hi, .int .u64 lo] 61
  have hb1 : Below w.heap.size w (w.alloc (.cells #[.int .u64 hi, .int .u64 lo] 61)) := (Below.refl _ _).alloc (Nat.le_refl _) _
  have a2 := At.new (w.alloc (.cells #[.int .u64 hi, .int .u64 lo] 61)) #[.int .u64 xh, .int .u64 xl] 61
  have hb2 := hb1.alloc hb1.size (.cells #[.int .u64 xh, .int .u64 xl] 61)
  have a3 := At.new ((w.alloc (.cells #[.int .u64 hi, .int .u64 lo] 61)).alloc (.cells #[.int .u64 xh, .int .u64 xl] 61)) #[.int .u64 0, .int .u64 0] 61
  have hb3 := hb2.alloc hb2.size (.cells #[.int .u64 0, .int .u64 0] 61)
  have hz1 : (w.alloc (.cells #[.int .u64 hi, .int .u64 lo] 61)).heap.size = w.heap.size + 1 := by simp
  have hz2 : ((w.alloc (.cells #[.int .u64 hi, .int .u64 lo] 61)).alloc (.cells #[.int .u64 xh, .int .u64 xl] 61)).heap.size = w.heap.size + 2 := by simp
  rw [hz1] at a2
  rw [hz2] at a3
  have A1 := Lib.hid ((a1.alloc (.cells #[.int .u64 xh, .int .u64 xl] 61)).alloc (.cells #[.int .u64 0, .int .u64 0] 61))
  have A2 := Lib.hid (a2.alloc (.cells #[.int .u64 0, .int .u64 0] 61))
  have A3 := Lib.hid a3
  have HB := Lib.hid hb3
  have E1 := Lib.hid e1
  have E2 := Lib.hid e2
  clear a1 a2 a3 hb1 hb2 hb3 hz1 hz2 e1 e2
  go_enter Tryz.func32, Tryz.ntmps32
  go_upto_region 0 with (fail)
  go_cut [2, 3, 4] (fun v2 v3 v4 wx => v2 = .pointer (some ⟨w.heap.size, 0, none⟩) ∧ v3 = .pointer (some ⟨w.heap.size + 1, 0, none⟩) ∧ v4 = .pointer (some ⟨w.heap.size + 2, 0, none⟩) ∧ At wx w.heap.size [.int .u64 hi, .int .u64 lo] ∧ At wx (w.heap.size + 1) [.int .u64 xh, .int .u64 xl] ∧ At wx (w.heap.size + 2) [.int .u64 0, .int .u64 0] ∧ Below w.heap.size w wx)
  case first =>
    go_wp2_with fail
    go_meet
    exact ⟨rfl, rfl, rfl, A1.out, A2.out, A3.out, HB.out⟩
  case rest =>
    obtain ⟨rfl, rfl, rfl, r1, r2, r3, hb⟩ := hcut
    have p0 := r1.c 0 _ rfl
    have p1 := r1.c 1 _ rfl
    have s0 := r2.c 0 _ rfl
    have s1 := r2.c 1 _ rfl
    have q0 := r3.c 0 _ rfl
    have q1 := r3.c 1 _ rfl
    have qf := r3.fz
    have e1 := E1.out
    have e2 := E2.out
    have R3 := Lib.hid r3
    replace HB := Lib.hid hb
    clear r1 r2 r3 hb A1 A2 A3
    go_wp2_with fail
    exact ret_two R3.out HB.out (by omega) wideAgg wideSize rfl rfl rfl rfl rfl

set_option maxRecDepth 100000 in
set_option maxHeartbeats 8000000 in
theorem zero_core (hi lo : Nat) (b : Bool) (w : World) (hb : (bits .or .u64 (hi : Int) (lo : Int) == 0) = b) :
    Calls Tryz.prog 65 #[.agg #[.int .u64 hi, .int .u64 lo]] w (Q (.bool b) w) := by
  have A2 := Lib.hid (At.new w #[.int .u64 hi, .int .u64 lo] 61)
  have HB : Hid (Below w.heap.size w (w.alloc (.cells #[.int .u64 hi, .int .u64 lo] 61))) := (Below.refl _ _).alloc (Nat.le_refl _) _
  go_enter Tryz.func65, Tryz.ntmps65
  go_upto_region 0 with (fail)
  go_cut [1] (fun v1 wx => v1 = .pointer (some ⟨w.heap.size, 0, none⟩) ∧ At wx w.heap.size [.int .u64 hi, .int .u64 lo] ∧ Below w.heap.size w wx)
  case first =>
    go_wp2_with fail
    go_meet
    exact ⟨rfl, A2.out, HB.out⟩
  case rest =>
    obtain ⟨rfl, r1, hb⟩ := hcut
    have p0 := r1.c 0 _ rfl
    have p1 := r1.c 1 _ rfl
    replace HB := Lib.hid hb
    clear r1 hb A2
    go_wp2_with fail
    go_ret
    exact ⟨rfl, HB.out⟩

/-! ### At every number -/
def B64 : Nat := 18446744073709551616
/-- A whole number below 2 to the 128, as Go holds it. -/
abbrev wv (W : Nat) : Value := .agg #[.int .u64 ((W / 18446744073709551616 : Nat) : Int), .int .u64 ((W % 18446744073709551616 : Nat) : Int)]

theorem zero_any (W : Nat) (w : World) (hW : W < 340282366920938463463374607431768211456) :
    Calls Tryz.prog 65 #[wv W] w (Q (.bool (decide (W = 0))) w) := by
  refine zero_core _ _ _ w ?_
  rw [Bool.eq_iff_iff, decide_eq_true_eq, beq_iff_eq]
  have key : ∀ a b : Nat, a < 18446744073709551616 → b < 18446744073709551616 → (bits .or .u64 (a : Int) (b : Int) = 0 ↔ a = 0 ∧ b = 0) := by
    intro a b ha hb
    rw [bits_or_u64_nat a b ha hb]
    constructor
    · intro h
      exact Nat.or_eq_zero_iff.1 (by omega)
    · rintro ⟨rfl, rfl⟩; rfl
  rw [key _ _ (by omega) (by omega)]
  omega

theorem times_any (W n : Nat) (w : World) (hW : W < 340282366920938463463374607431768211456) (hn : n < 18446744073709551616) :
    Calls Tryz.prog 31 #[wv W, .int .u64 n] w (Q (.tuple #[wv (W * n % 340282366920938463463374607431768211456), .bool (decide (W * n < 340282366920938463463374607431768211456))]) w) := by
  obtain ⟨hi, hhi⟩ : ∃ hi, W / 18446744073709551616 = hi := ⟨_, rfl⟩
  obtain ⟨lo, hlo⟩ : ∃ lo, W % 18446744073709551616 = lo := ⟨_, rfl⟩
  have hWe : W = hi * 18446744073709551616 + lo := by omega
  have h1 : hi < 18446744073709551616 := by omega
  have h2 : lo < 18446744073709551616 := by omega
  have hm1 : hi * n ≤ 18446744073709551615 * n := Nat.mul_le_mul_right _ (by omega)
  have hm2 : lo * n ≤ 18446744073709551615 * n := Nat.mul_le_mul_right _ (by omega)
  have hmul : W * n = hi * n * 18446744073709551616 + lo * n := by rw [hWe, Nat.add_mul, Nat.mul_right_comm]
  show Calls _ _ #[.agg #[.int .u64 ((W / 18446744073709551616 : Nat) : Int), .int .u64 ((W % 18446744073709551616 : Nat) : Int)], _] _ _
  rw [hhi, hlo, hmul]
  generalize hP : hi * n = P at *
  generalize hQ : lo * n = R at *
  have h := times_core hi lo n (R / 18446744073709551616) (R % 18446744073709551616) (P / 18446744073709551616) (P % 18446744073709551616) ((R / 18446744073709551616 + P % 18446744073709551616 + 0) % 18446744073709551616) ((R / 18446744073709551616 + P % 18446744073709551616 + 0) / 18446744073709551616)
    (decide (P * 18446744073709551616 + R < 340282366920938463463374607431768211456)) w
    (Lib.hid fun w => by have := Tryz.bits_Mul64 lo n h2 hn w; rw [hQ] at this; exact this) (Lib.hid fun w => by have := Tryz.bits_Mul64 hi n h1 hn w; rw [hP] at this; exact this) (fun w => add64_run _ _ 0 (by omega) w) (by omega) (by
      rw [Bool.eq_iff_iff, decide_eq_true_eq, beq_iff_eq]
      omega)
  have e1 : (P * 18446744073709551616 + R) % 340282366920938463463374607431768211456 / 18446744073709551616 = (R / 18446744073709551616 + P % 18446744073709551616 + 0) % 18446744073709551616 := by omega
  have e2 : (P * 18446744073709551616 + R) % 340282366920938463463374607431768211456 % 18446744073709551616 = R % 18446744073709551616 := by omega
  unfold wv
  rw [e1, e2]
  exact h

theorem plus_any (W X : Nat) (w : World) (hW : W < 340282366920938463463374607431768211456) (hX : X < 340282366920938463463374607431768211456) :
    Calls Tryz.prog 32 #[wv W, wv X] w (Q (.tuple #[wv ((W + X) % 340282366920938463463374607431768211456), .bool (decide (W + X < 340282366920938463463374607431768211456))]) w) := by
  have h := plus_core (W / 18446744073709551616) (W % 18446744073709551616) (X / 18446744073709551616) (X % 18446744073709551616) _ _ _ _ (decide (W + X < 340282366920938463463374607431768211456)) w
    (fun w => add64_run _ _ 0 (by omega) w) (fun w => add64_run _ _ _ (by omega) w) (by
      rw [Bool.eq_iff_iff, decide_eq_true_eq, beq_iff_eq]
      omega)
  have e1 : (W + X) % 340282366920938463463374607431768211456 / 18446744073709551616 = (W / 18446744073709551616 + X / 18446744073709551616 + (W % 18446744073709551616 + X % 18446744073709551616 + 0) / 18446744073709551616) % 18446744073709551616 := by omega
  have e2 : (W + X) % 340282366920938463463374607431768211456 % 18446744073709551616 = (W % 18446744073709551616 + X % 18446744073709551616 + 0) % 18446744073709551616 := by omega
  unfold wv
  rw [e1, e2]
  exact h
end Go.Proofs.YtegjainidiaeaaaGreatDoor
