/- The document's Parse of a number, in plain words. No program in sight. -/
import Derived.Test.YtfkiomjplpbmiaaGreatDoorM8
import Derived.Test.YtfkiomjplpbmiaaGreatDoorM9
namespace Go.Proofs.YtfkiomjplpbmiaaGreatDoor
open Go.RowKit Go.Lib

def digN (l : List UInt8) : List Nat := l.map fun b => b.toNat - 48
def signR (l : List UInt8) : List UInt8 := if l.head? == some 45 || l.head? == some 43 then l.tail else l
def valX (l : List UInt8) : Nat := (digN l).foldl (fun n d => 10 * n + d) 0
def endP (neg : Bool) (D : List UInt8) (E : Int) (l : List UInt8) : Int × Int × Int :=
  if l = [] then tellR (neg && !(trimL (digN D).reverse).isEmpty) (trimL (digN D).reverse) E else (40, 0, 0)
def expR (neg : Bool) (D : List UInt8) (E : Int) (l : List UInt8) : Int × Int × Int :=
  if (l.head? == some 101 || l.head? == some 69) = true then
    (if dW (signR l.tail) = [] ∨ 3 < (dW (signR l.tail)).length then (40, 0, 0)
     else endP neg D (E + (if l.tail.head? == some 45 then -(valX (dW (signR l.tail)) : Int) else (valX (dW (signR l.tail)) : Int))) (dR (signR l.tail)))
  else endP neg D E l
def partR (neg : Bool) (W l : List UInt8) : Int × Int × Int :=
  if (l.head? == some 46) = true then (if dW l.tail = [] then (40, 0, 0) else expR neg (W ++ dW l.tail) (-((dW l.tail).length : Int)) (dR l.tail)) else expR neg W 0 l
/-- What the document's Parse answers. -/
def parseR (l : List UInt8) : Int × Int × Int :=
  if 255 < l.length then (40, 0, 0) else if dW (pCut 45 l) = [] then (40, 0, 0) else partR (l.head? == some 45) (dW (pCut 45 l)) (dR (pCut 45 l))
end Go.Proofs.YtfkiomjplpbmiaaGreatDoor

/- Package dec: a range over a text's digits, for its two callers. -/
namespace Go.Proofs.YtfkiomjplpbmiaaGreatDoor
open Go.RowKit Go.Lib Go.Shelf

theorem range_digits {g : Operand} {ps : Array Tmp} {assign body : Code} {Q' : Exit → Act → World → Prop} {T : Array Value} {ds : List Deferred} {w : World} (p v : Nat)
    (Bd : Nat) (d : ByteArray) (xs : List (Fin 10)) (hsz : d.size ≤ 512) (hd : d.data.toList = xs.map digB) (hB : Bd < w.heap.size) (hc : w.cell? ⟨Bd, 0, none⟩ = some (.string d))
    (hg : ({ tmps := T, defers := ds } : Act).eval g = .func (.func 127) #[] #[.pointer (some ⟨Bd, 0, none⟩)]) (hps : ps.size = 1)
    (I : List (Fin 10) → World → Prop) (hI : OwnFrom w.heap.size I) (h0 : I [] w)
    (hassign : ∀ (l : Nat) (x : Fin 10) (W : World) (K : Act → World → Prop), K { tmps := (T.setIfInBounds p (.int .i64 (x.val : Int))).setIfInBounds v (.int .i64 (x.val : Int)), defers := [] } W →
      assign.wpIn (Fence.wide.inRound l) (6 - 1 - 1) Tryz.prog (Exit.then K (fun _ _ _ => False)) { tmps := (ps.zip #[.int .i64 (x.val : Int)]).foldl (fun t (p, v) => t.setIfInBounds p v) T, defers := [] } W)
    (hbody : ∀ (l : Nat) (pre : List (Fin 10)) (x : Fin 10) (W : World), I pre W → pre.length < xs.length → body.wpIn (Fence.wide.inRound l) (6 - 1 - 1) Tryz.prog (ownPostK (KpD Bd d) I (fun _ _ _ => False) (pre ++ [x]) W) { tmps := (T.setIfInBounds p (.int .i64 (x.val : Int))).setIfInBounds v (.int .i64 (x.val : Int)), defers := [] } W)
    (hdone : ∀ (D : Nat) (W : World), w.heap.size ≤ D → I xs W → W.heap[D]? = some (.deferred (some [])) → Q' .normal { tmps := T, defers := { target := .collected D, args := #[] } :: ds } W) :
    (Code.rangeFunc g ps assign body).wp Tryz.prog Q' { tmps := T, defers := ds } w := by
  refine (wpIn_wide (n := 6)).1 ?_
  refine wpIn_rangeFunc_ownF rfl (by decide) (gf := 127) (lb := #[.pointer (some ⟨Bd, 0, none⟩)]) hg trivial (enters_of Tryz.func127 (by kernel_rfl) rfl)
    (values_stops Fence.wide (6 - 1) trivial rfl (by decide) Bd d xs hsz hd w hB hc) kpD_t kpD_b (Below.refl _ _) (fun _ => hps.symm)
    I (fun _ _ _ => False) hI (fun _ _ _ _ _ hs _ _ => hs) h0 (fun x => { tmps := (T.setIfInBounds p (.int .i64 (x.val : Int))).setIfInBounds v (.int .i64 (x.val : Int)), defers := [] }) hassign hbody ?_ ?_
  · rintro D ys W hD rfl hi hK
    exact hdone D W hD hi hK
  · intro D c pre W _ _ h _
    exact h.elim

theorem valF_snoc (pre : List (Fin 10)) (x : Fin 10) : valF (pre ++ [x]) = 10 * valF pre + x.val := by unfold valF; rw [List.foldl_append]; rfl
theorem valF_lt (pre : List (Fin 10)) : valF pre < 10 ^ pre.length := by
  have : ∀ k (pre : List (Fin 10)), pre.length = k → valF pre < 10 ^ k := by
    intro k
    induction k with
    | zero => intro pre h; rw [List.length_eq_zero_iff.1 h]; decide
    | succ k ih =>
      intro pre h
      rcases List.eq_nil_or_concat pre with rfl | ⟨q, x, rfl⟩
      · simp at h
      · rw [List.concat_eq_append] at h ⊢
        rw [List.length_append, List.length_singleton] at h
        have := ih q (by omega)
        rw [valF_snoc, Nat.pow_succ]
        have := x.isLt
        omega
  exact this _ pre rfl
theorem wideF_snoc (pre : List (Fin 10)) (x : Fin 10) : wideF (pre ++ [x]) = (wideF pre * 10 % 340282366920938463463374607431768211456 + x.val) % 340282366920938463463374607431768211456 := by unfold wideF; rw [List.foldl_append]; rfl
theorem wideF_lt (pre : List (Fin 10)) : wideF pre < 340282366920938463463374607431768211456 := by
  rcases List.eq_nil_or_concat pre with rfl | ⟨q, x, rfl⟩
  · decide
  · rw [List.concat_eq_append, wideF_snoc]; exact Nat.mod_lt _ (by decide)
theorem At.kpD {W W' : World} {Bd : Nat} {d : ByteArray} (h : At W' Bd [.string d]) : KpD Bd d W W' := fun _ => h.c 0 _ rfl
theorem keeps_below {W W' : World} (h : Below W.heap.size W W') : KeepsOthers W W' := ⟨h.size, fun k o hk _ => by rw [h.block k (Array.getElem?_eq_some_iff.1 hk).1]; exact hk⟩

/-! ### What the rounds' deferred calls leave -/
def DK (Ds : List Nat) (W : World) : Prop := Ds.Nodup ∧ ∀ D ∈ Ds, W.heap[D]? = some (.deferred (some []))
def defs (Ds : List Nat) : List Deferred := Ds.map fun D => { target := .collected D, args := #[] }
theorem DK.below {Ds : List Nat} {W W' : World} (h : DK Ds W) (hb : Below W.heap.size W W') : DK Ds W' :=
  ⟨h.1, fun D hD => by rw [hb.block D (Array.getElem?_eq_some_iff.1 (h.2 D hD)).1]; exact h.2 D hD⟩
theorem DK.set {Ds : List Nat} {W : World} {B i : Nat} {v : Value} {vs : List Value} (h : DK Ds W) (r : At W B (v :: vs)) (x : Value) : DK Ds (W.setCell ⟨B, i, none⟩ x) := by
  refine ⟨h.1, fun D hD => ?_⟩
  have hk := h.2 D hD
  have hne : D ≠ B := by
    rintro rfl
    have h0 := r.c 0 v rfl
    simp [World.cell?, hk] at h0
  exact (Below.heap_setCell _ _ _ _ hne).trans hk
theorem DK.set2 {Ds : List Nat} {W : World} {B : Nat} {a0 a1 : Value} (h : DK Ds W) (r : At W B [a0, a1]) (x y : Value) : DK Ds (set2 W B x y) := (h.set (i := 0) r x).set (i := 1) (r.set 0 (by simp) x) y
theorem DK.upd {Ds : List Nat} {W W' : World} (h : DK Ds W) (hw : ∀ D, D ∈ Ds → W'.heap[D]? = W.heap[D]?) : DK Ds W' := ⟨h.1, fun D hD => by rw [hw D hD]; exact h.2 D hD⟩
theorem DK.grown {Ds : List Nat} {W W' : World} {row : Option Nat} {B : Nat} (h : DK Ds W) (hlt : ∀ D ∈ Ds, D < B) (hg : W.grownBy W' row) (hr : ∀ r, row = some r → B ≤ r) : DK Ds W' := by
  refine ⟨h.1, fun D hD => ?_⟩
  have hk := h.2 D hD
  rw [hg.block D (Array.getElem?_eq_some_iff.1 hk).1 (fun e => by have := hr D e.symm; have := hlt D hD; omega)]
  exact hk
theorem DK.keeps {Ds : List Nat} {W W' : World} (h : DK Ds W) (hk : KeepsOthers W W') : DK Ds W' := ⟨h.1, fun D hD => hk.same D _ (h.2 D hD) rfl⟩
theorem DK.cons {Ds : List Nat} {W : World} {D : Nat} (h : DK Ds W) (hD : W.heap[D]? = some (.deferred (some []))) (hn : D ∉ Ds) : DK (D :: Ds) W :=
  ⟨List.nodup_cons.2 ⟨hn, h.1⟩, fun E hE => by
    rcases List.mem_cons.1 hE with rfl | hE
    · exact hD
    · exact h.2 E hE⟩

theorem leaves_ds {f : Func} {T : Array Value} {V vb v0 v1 : Value} {a b t B : Nat} {w : World} (hf : f.results = #[.cell a t, .tmp b]) (hag : ∀ w, (isAgg t).run Tryz.prog w = .ok true w) (hsz : ∀ w, (Go.sizeOf t).run Tryz.prog w = .ok 2 w)
    (hV : V = .tuple #[.agg #[v0, v1], vb]) (ha : T.getD a undef = .pointer (some ⟨B, 0, none⟩)) (hb : T.getD b undef = vb) :
    ∀ (Ds : List Nat) (W : World), DK Ds W → (∀ D ∈ Ds, w.heap.size ≤ D) → At W B [v0, v1] → Below w.heap.size w W → LeavesInM Fence.wide 6 Tryz.prog f T (Q V w) (defs Ds) .returning W
  | [], W, _, _, hr, hB => by
    have t0 := hr.c 0 _ rfl
    have t1 := hr.c 1 _ rfl
    subst hV
    rw [Array.getD_eq_getD_getElem?] at ha hb
    exact ⟨.tuple #[.agg #[v0, v1], vb], by simp [results, hf, go_sem, ha, hb, hag, hsz, t0, t1], rfl, hB⟩
  | D :: Ds, W, hk, hD, hr, hB => by
    have h1 := hk.2 D (List.mem_cons_self ..)
    have hn := List.nodup_cons.1 hk.1
    have hlt := (Array.getElem?_eq_some_iff.1 h1).1
    refine ⟨by simp, .inl ⟨D, _, rfl, run_takeDeferred h1, ?_⟩⟩
    refine leaves_ds hf hag hsz hV ha hb Ds _ ⟨hn.2, fun E hE => ?_⟩ (fun E hE => hD E (List.mem_cons_of_mem _ hE)) (hr.kept (grownBy_putObj' W D _) (fun r e => by cases e; exact ⟨_, h1, rfl⟩)) (hB.trans (belowK_b (w := w) (Nat.le_refl _) W D _ _ (hD D (List.mem_cons_self ..)) h1 rfl rfl))
    rw [World.putObj_heap_other (fun e => hn.1 (by rw [← e]; exact hE))]
    exact hk.2 E (List.mem_cons_of_mem _ hE)

/-- dec.Parse's return. -/
theorem ret_ds {f : Func} {act : Act} {V vb x0 x1 v0 v1 : Value} {a b t B : Nat} {w W : World} (Ds : List Nat) (hk : DK Ds W) (hD : ∀ D ∈ Ds, w.heap.size ≤ D) (r : At W B [x0, x1]) (HB : Below w.heap.size w W) (hB : w.heap.size ≤ B)
    (hag : ∀ w, (isAgg t).run Tryz.prog w = .ok true w) (hsz : ∀ w, (Go.sizeOf t).run Tryz.prog w = .ok 2 w) (hV : V = .tuple #[.agg #[v0, v1], vb]) (hf : f.results = #[.cell a t, .tmp b]) (hd : act.defers = defs Ds)
    (ha : act.tmps.getD a undef = .pointer (some ⟨B, 0, none⟩)) (hb : act.tmps.getD b undef = vb) :
    bodyPostM Fence.wide 6 Tryz.prog f (Q V w) .ret act (set2 W B v0 v1) := by
  show LeavesInM Fence.wide 6 Tryz.prog f act.tmps (Q V w) act.defers .returning (set2 W B v0 v1)
  rw [hd]
  exact leaves_ds hf hag hsz hV ha hb Ds _ (hk.set2 r v0 v1) hD (r.set2 v0 v1) (below_set2 HB hB v0 v1)

theorem trimL_facts {l : List UInt8} {n : Nat} (hl : l.length ≤ n) (hd : l.all Pl.digit = true) : (Lib.trimLeftB l 48).length ≤ n ∧ (Lib.trimLeftB l 48).all Pl.digit = true := by
  unfold Lib.trimLeftB
  refine ⟨Nat.le_trans (dropWhile_le _ l) hl, ?_⟩
  rw [List.all_eq_true] at hd ⊢
  exact fun x hx => hd x ((List.dropWhile_sublist _).mem hx)
theorem trimR_facts {l : List UInt8} (hd : l.all Pl.digit = true) : (Lib.trimRightB l 48).length ≤ l.length ∧ (Lib.trimRightB l 48).all Pl.digit = true := by
  unfold Lib.trimRightB
  refine ⟨?_, ?_⟩
  · rw [List.length_reverse]
    have := dropWhile_le (· == 48) l.reverse
    rwa [List.length_reverse] at this
  · rw [List.all_eq_true] at hd ⊢
    exact fun x hx => hd x (List.mem_reverse.1 ((List.dropWhile_sublist _).mem (List.mem_reverse.1 hx)))
end Go.Proofs.YtfkiomjplpbmiaaGreatDoor

/- The document's Parse of a number answers what dec.Parse does. No program in sight. -/
namespace Go.Proofs.YtfkiomjplpbmiaaGreatDoor
open Go.RowKit Go.Lib

theorem digN_reverse (l : List UInt8) : (digN l).reverse = digN l.reverse := by unfold digN; rw [List.map_reverse]
theorem digN_length (l : List UInt8) : (digN l).length = l.length := by unfold digN; simp
theorem digit_zero {b : UInt8} (h : Pl.digit b = true) : (b == 48) = (b.toNat - 48 == 0) := by
  have := (digit_iff b).1 h
  rw [Bool.eq_iff_iff, beq_iff_eq, beq_iff_eq]
  constructor
  · rintro rfl; rfl
  · intro e; apply UInt8.toNat_inj.1; show b.toNat = 48; omega
theorem digN_dropWhile : ∀ l : List UInt8, l.all Pl.digit = true → (digN l).dropWhile (· == 0) = digN (l.dropWhile (· == 48))
  | [], _ => rfl
  | b :: l, h => by
    simp only [List.all_cons, Bool.and_eq_true] at h
    show ((b.toNat - 48) :: digN l).dropWhile _ = _
    rw [List.dropWhile_cons, List.dropWhile_cons, digit_zero h.1, digN_dropWhile l h.2]
    split <;> rfl
/-- The digits without noughts at the high end, the lowest first. -/
theorem trimL_all (D : List UInt8) (h : D.all Pl.digit = true) : trimL (digN D).reverse = (digN (Lib.trimLeftB D 48)).reverse := by
  unfold trimL Lib.trimLeftB
  rw [List.reverse_reverse, digN_dropWhile D h]

theorem valD_snoc (l : List Nat) (d : Nat) : valD (d :: l) = d + 10 * valD l := rfl
/-- The digits' number, from the highest. -/
def numD (l : List Nat) : Nat := l.foldl (fun n d => 10 * n + d) 0
theorem numD_snoc (l : List Nat) (d : Nat) : numD (l ++ [d]) = 10 * numD l + d := by unfold numD; rw [List.foldl_append]; rfl
theorem valD_reverse : ∀ (k : Nat) (l : List Nat), l.length = k → valD l.reverse = numD l
  | 0, l, h => by obtain rfl := List.eq_nil_of_length_eq_zero h; rfl
  | k + 1, l, h => by
    rcases List.eq_nil_or_concat l with rfl | ⟨l', b, e⟩
    · rfl
    · rw [e, List.concat_eq_append] at h ⊢
      rw [List.length_append, List.length_singleton] at h
      rw [List.reverse_append, List.reverse_singleton, List.singleton_append, valD, valD_reverse k l' (by omega), numD_snoc]; omega
theorem valF_numD : ∀ (k : Nat) (l : List UInt8), l.length = k → l.all Pl.digit = true → valF (digsOf l) = numD (digN l)
  | 0, l, h, _ => by obtain rfl := List.eq_nil_of_length_eq_zero h; rfl
  | k + 1, l, h, hd => by
    rcases List.eq_nil_or_concat l with rfl | ⟨l', b, e⟩
    · rfl
    · rw [e, List.concat_eq_append] at h hd ⊢
      rw [List.length_append, List.length_singleton] at h
      rw [List.all_append, Bool.and_eq_true] at hd
      have hb : Pl.digit b = true := by simpa using hd.2
      have := (digit_iff b).1 hb
      have e1 : digsOf (l' ++ [b]) = digsOf l' ++ [⟨(b.toNat - 48) % 10, Nat.mod_lt _ (by decide)⟩] := by unfold digsOf; simp
      have e2 : digN (l' ++ [b]) = digN l' ++ [b.toNat - 48] := by unfold digN; simp
      rw [e1, e2, valF_snoc, numD_snoc, valF_numD k l' (by omega) hd.1]
      show _ + (b.toNat - 48) % 10 = _
      omega
theorem valX_numD (l : List UInt8) : valX l = numD (digN l) := rfl
theorem wideF_valF : ∀ (k : Nat) (xs : List (Fin 10)), xs.length = k → valF xs < 340282366920938463463374607431768211456 → wideF xs = valF xs
  | 0, xs, h, _ => by obtain rfl := List.eq_nil_of_length_eq_zero h; rfl
  | k + 1, xs, h, hv => by
    rcases List.eq_nil_or_concat xs with rfl | ⟨q, x, e⟩
    · rfl
    · rw [e, List.concat_eq_append] at h hv ⊢
      rw [List.length_append, List.length_singleton] at h
      rw [valF_snoc] at hv
      rw [wideF_snoc, valF_snoc, wideF_valF k q (by omega) (by omega)]
      omega

/-! ### Products by ten -/
theorem tensF_pow : ∀ (k W : Nat), W ≠ 0 → (W * 10 ^ k < 340282366920938463463374607431768211456 → tensF k W = (W * 10 ^ k, true)) ∧ ((tensF k W).2 = true → (tensF k W).1 = W * 10 ^ k)
  | 0, W, _ => ⟨fun _ => by rw [tensF, Nat.pow_zero, Nat.mul_one], fun _ => by rw [tensF, Nat.pow_zero, Nat.mul_one]⟩
  | k + 1, W, h => by
    have e : W * 10 ^ (k + 1) = W * 10 * 10 ^ k := by rw [Nat.pow_succ, Nat.mul_comm (10 ^ k) 10, Nat.mul_assoc]
    have ih := tensF_pow k (W * 10) (by omega)
    rw [e]
    have hp : 0 < 10 ^ k := Nat.pow_pos (by decide)
    have hle : W * 10 ≤ W * 10 * 10 ^ k := Nat.le_mul_of_pos_right _ hp
    rw [tensF, if_neg h]
    by_cases h2 : W * 10 < 340282366920938463463374607431768211456
    · rw [if_pos h2]
      exact ih
    · rw [if_neg h2]
      exact ⟨fun h3 => by omega, fun h3 => by cases h3⟩

theorem valD_zeros (d : List Nat) : valD (0 :: d) = 10 * valD d := by rw [valD]; omega
theorem valD_lt : ∀ (l : List Nat), DigL l → valD l < 10 ^ l.length
  | [], _ => by decide
  | d :: l, h => by
    have h1 := valD_lt l (fun x hx => h x (List.mem_cons_of_mem _ hx))
    have h2 := h d List.mem_cons_self
    rw [valD, List.length_cons, Nat.pow_succ]; omega
theorem valD_ge : ∀ (l : List Nat), Trimmed l → 10 ^ (l.length - 1) ≤ valD l
  | [], h => absurd rfl h.1
  | d :: l, h => by
    have h2 := h.2
    rw [trimL_cons] at h2
    by_cases hl : trimL l = []
    · rw [if_pos hl] at h2
      by_cases hd : d = 0
      · rw [if_pos hd] at h2; cases h2
      · rw [if_neg hd] at h2
        injection h2 with _ h2
        subst h2
        rw [valD]; simp; omega
    · rw [if_neg hl] at h2
      injection h2 with _ h2
      have ht : Trimmed l := ⟨by rintro rfl; exact hl rfl, h2⟩
      have ih := valD_ge l ht
      have hlen : 1 ≤ l.length := List.length_pos_iff.2 ht.1
      rw [valD, List.length_cons, Nat.add_sub_cancel]
      have e : 10 ^ l.length = 10 ^ (l.length - 1) * 10 := by rw [← Nat.pow_succ]; congr 1; omega
      omega

/-- What the document makes of a number whose digits end with none that is nought, at either end. -/
theorem upR_val : ∀ (f : Nat) (ds : List Nat) (e : Int), Trimmed ds → DigL ds → (30 ≤ f + ds.length) →
    (18 < (upR f ds e).2 ∧ 30 < (e - 18).toNat + ds.length) ∨ ((upR f ds e).2 ≤ 18 ∧ (upR f ds e).2 = min e 18 ∧ valD (upR f ds e).1 = valD ds * 10 ^ (e - 18).toNat ∧ (18 < e → (e - 18).toNat + ds.length ≤ 30)) := by
  intro f
  induction f with
  | zero =>
    intro ds e ht hd hf
    rw [upR]
    by_cases h : 18 < e
    · exact Or.inl ⟨h, by omega⟩
    · refine Or.inr ⟨by show e ≤ 18; omega, by show e = min e 18; omega, ?_, fun h2 => absurd h2 h⟩
      rw [show (e - 18).toNat = 0 by omega, Nat.pow_zero, Nat.mul_one]
  | succ f ih =>
    intro ds e ht hd hf
    rw [upR]
    by_cases h : 18 < e ∧ ds.length < 30
    · rw [if_pos h]
      have hd0 : DigL (0 :: ds) := fun d hd' => by
        rcases List.mem_cons.1 hd' with rfl | h'
        · decide
        · exact hd d h'
      have k := ih (0 :: ds) (e - 1) ht.zero hd0 (by rw [List.length_cons]; omega)
      have et : (e - 18).toNat = (e - 1 - 18).toNat + 1 := by omega
      rw [List.length_cons, valD_zeros] at k
      rw [et]
      rcases k with ⟨a, b⟩ | ⟨a, b, c, d⟩
      · exact Or.inl ⟨a, by omega⟩
      · refine Or.inr ⟨a, by rw [b]; omega, ?_, fun _ => ?_⟩
        · rw [c, Nat.pow_succ, Nat.mul_comm 10, Nat.mul_assoc, Nat.mul_comm 10]
        · rcases Int.lt_or_le 18 (e - 1) with h3 | h3
          · have := d h3; omega
          · omega
    · rw [if_neg h]
      by_cases h18 : 18 < e
      · exact Or.inl ⟨h18, by omega⟩
      · refine Or.inr ⟨by show e ≤ 18; omega, by show e = min e 18; omega, ?_, fun h2 => absurd h2 h18⟩
        rw [show (e - 18).toNat = 0 by omega, Nat.pow_zero, Nat.mul_one]
end Go.Proofs.YtfkiomjplpbmiaaGreatDoor

/- The document's Parse of a number is dec.Parse's: the law. No program in sight. -/
namespace Go.Proofs.YtfkiomjplpbmiaaGreatDoor
open Go.RowKit Go.Lib

theorem strip_facts : ∀ (f : Nat) (ds : List Nat) (e : Int), Trimmed ds → ds.length ≤ f →
    Trimmed (stripR f ds e).1 ∧ (stripR f ds e).1.head? ≠ some 0 ∧ (stripR f ds e).1 = ds.dropWhile (· == 0) ∧ (stripR f ds e).2 = e + ((ds.length : Int) - ((stripR f ds e).1.length : Int)) ∧ (stripR f ds e).1.length ≤ ds.length
  | _, [], _, h, _ => absurd rfl h.1
  | 0, d :: t, _, _, h2 => by simp at h2
  | f + 1, 0 :: t, e, h, h2 => by
    have ih := strip_facts f t (e + 1) h.tail (by simpa using h2)
    rw [stripR, List.dropWhile_cons]
    obtain ⟨a, b, c, d, g⟩ := ih
    exact ⟨a, b, c, by rw [d, List.length_cons]; omega, by rw [List.length_cons]; omega⟩
  | f + 1, (d + 1) :: t, e, h, h2 => by
    have e1 : stripR (f + 1) ((d + 1) :: t) e = ((d + 1) :: t, e) := rfl
    rw [e1]
    refine ⟨h, by simp, ?_, by simp, Nat.le_refl _⟩
    rw [List.dropWhile_cons]; rfl
theorem stripF_not (f W : Nat) (e : Int) (h : W % 10 ≠ 0) : stripF f W e = (W, e) := by
  cases f with
  | zero => rfl
  | succ f => rw [stripF, if_neg h]
theorem head_mod {ds : List Nat} (hd : DigL ds) (h0 : ds ≠ []) (hh : ds.head? ≠ some 0) : valD ds % 10 ≠ 0 := by
  cases ds with
  | nil => exact absurd rfl h0
  | cons d l =>
    have h1 := hd d List.mem_cons_self
    have h2 : d ≠ 0 := fun h => hh (by rw [h]; rfl)
    rw [valD]; omega
theorem top_lt (neg : Bool) : topF neg < 10 ^ 30 := by unfold topF; split <;> decide

/-- Both ways to tell a number agree on its digits. -/
theorem tell_same (neg : Bool) (ds : List Nat) (e : Int) (ht : Trimmed ds) (hd : DigL ds) (hh : ds.head? ≠ some 0) :
    endR neg (upR 60 ds e) = if 30 < ds.length then (30, 0, 0) else tellF neg (valD ds) e := by
  have hpos : 1 ≤ ds.length := List.length_pos_iff.2 ht.1
  have hge := valD_ge ds ht
  have hlt := valD_lt ds hd
  by_cases h30 : 30 < ds.length
  · rw [if_pos h30]
    have hu : upR 60 ds e = (ds, e) := by rw [upR, if_neg (by omega)]
    have hf : fitsF neg ds = false := by
      rw [fitsF_val neg hd]
      apply decide_eq_false
      have h1 := top_lt neg
      have h2 : 10 ^ 30 ≤ 10 ^ (ds.length - 1) := Nat.pow_le_pow_right (by decide) (by omega)
      omega
    rw [hu]
    unfold endR
    rw [if_pos (Or.inr (Or.inr hf))]
  · rw [if_neg h30]
    have hW0 : valD ds ≠ 0 := fun h => head_mod hd ht.1 hh (by rw [h])
    unfold tellF
    rw [if_neg hW0, stripF_not _ _ _ (head_mod hd ht.1 hh)]
    dsimp only
    have hp30 : 10 ^ ds.length ≤ 10 ^ 30 := Nat.pow_le_pow_right (by decide) (by omega)
    rcases upR_val 60 ds e ht hd (by omega) with ⟨a, b⟩ | ⟨a, b, c, d⟩
    · -- too many digits: ErrNum
      have hl : endR neg (upR 60 ds e) = (30, 0, 0) := by unfold endR; rw [if_pos (Or.inl a)]
      rw [hl]
      have h18 : 18 < e := by omega
      unfold lowF
      rw [if_pos h18]
      unfold endF
      by_cases h58 : 58 < e
      · rw [if_pos (Or.inl (by rw [decide_eq_true h58]; simp))]
      · have hm : (min (e - 18) 40).toNat = (e - 18).toNat := by omega
        rw [hm]
        obtain ⟨j, hj⟩ : ∃ j, (e - 18).toNat = j := ⟨_, rfl⟩
        rw [hj] at b ⊢
        cases hb : (tensF j (valD ds)).2 with
        | false => exact (if_pos (Or.inl rfl)).symm
        | true =>
          have hv := (tensF_pow j (valD ds) hW0).2 hb
          have hbig : 10 ^ 30 ≤ valD ds * 10 ^ j := by
            have h1 : 10 ^ (ds.length - 1) * 10 ^ j ≤ valD ds * 10 ^ j := Nat.mul_le_mul_right _ hge
            rw [← Nat.pow_add] at h1
            have h2 : 10 ^ 30 ≤ 10 ^ (ds.length - 1 + j) := Nat.pow_le_pow_right (by decide) (by omega)
            omega
          have h1 := top_lt neg
          rw [if_pos (Or.inr (Or.inr (by show topF neg < (tensF j (valD ds)).1; rw [hv]; omega)))]
    · have hfit : ∀ x : List Nat, DigL x → valD x = valD ds * 10 ^ (e - 18).toNat → (fitsF neg x = false ↔ topF neg < valD ds * 10 ^ (e - 18).toNat) := fun x hx hxv => by
        rw [fitsF_val neg hx, decide_eq_false_iff_not, hxv]; omega
      have hud : DigL (upR 60 ds e).1 := by
        have : ∀ (f : Nat) (ds : List Nat) (e : Int), DigL ds → DigL (upR f ds e).1 := by
          intro f
          induction f with
          | zero => intro ds e h; exact h
          | succ f ih =>
            intro ds e h
            rw [upR]
            split
            · refine ih _ _ (fun d hd' => ?_)
              rcases List.mem_cons.1 hd' with rfl | h'
              · decide
              · exact h d h'
            · exact h
        exact this 60 ds e hd
      have hfx := hfit _ hud c
      by_cases h18 : 18 < e
      · have hj30 := d h18
        obtain ⟨j, hj⟩ : ∃ j, (e - 18).toNat = j := ⟨_, rfl⟩
        rw [hj] at hfx c hj30
        have hsm : valD ds * 10 ^ j < 10 ^ 30 := by
          have h1 : valD ds * 10 ^ j < 10 ^ ds.length * 10 ^ j := Nat.mul_lt_mul_of_pos_right hlt (Nat.pow_pos (by decide))
          rw [← Nat.pow_add] at h1
          have h2 : 10 ^ (ds.length + j) ≤ 10 ^ 30 := Nat.pow_le_pow_right (by decide) (by omega)
          omega
        have hT := (tensF_pow j (valD ds) hW0).1 (Nat.lt_trans hsm (by decide))
        have hm : (min (e - 18) 40).toNat = j := by omega
        unfold lowF
        rw [if_pos h18, hm, hT]
        have h58 : ¬ 58 < e := by omega
        rw [decide_eq_false h58]
        unfold endR endF
        dsimp only
        rw [b, show min e 18 = 18 by omega, c]
        by_cases hf : topF neg < valD ds * 10 ^ j
        · rw [if_pos (Or.inr (Or.inr (hfx.2 hf))), if_pos (Or.inr (Or.inr hf))]
        · refine (if_neg ?_).trans (if_neg ?_).symm
          · intro h
            rcases h with h | h | h
            · omega
            · omega
            · exact hf (hfx.1 h)
          · intro h
            rcases h with h | h | h
            · exact absurd h (by decide)
            · omega
            · exact hf h
      · have hj : (e - 18).toNat = 0 := by omega
        rw [hj, Nat.pow_zero, Nat.mul_one] at hfx c
        unfold lowF
        rw [if_neg h18]
        unfold endR endF
        dsimp only
        rw [b, show min e 18 = e by omega, c]
        by_cases h19 : e < -18
        · rw [if_pos (Or.inr (Or.inl h19)), if_pos (Or.inr (Or.inl h19))]
        · by_cases hf : topF neg < valD ds
          · rw [if_pos (Or.inr (Or.inr (hfx.2 hf))), if_pos (Or.inr (Or.inr hf))]
          · refine (if_neg ?_).trans (if_neg ?_).symm
            · intro h
              rcases h with h | h | h
              · omega
              · omega
              · exact hf (hfx.1 h)
            · intro h
              rcases h with h | h | h
              · exact absurd h (by decide)
              · omega
              · exact hf h

theorem tellF_big (neg : Bool) (W : Nat) (e : Int) (hW0 : W ≠ 0) (h : W % 10 ≠ 0) (h60 : 58 < e) : tellF neg W e = (30, 0, 0) := by
  unfold tellF
  rw [if_neg hW0, stripF_not _ _ _ h]
  unfold lowF
  dsimp only
  rw [if_pos (by omega)]
  unfold endF
  rw [if_pos (Or.inl (by rw [decide_eq_true h60]; simp))]

theorem tell_last (neg : Bool) (D : List UInt8) (p : Nat) (x : Int) (hD : D.all Pl.digit = true) :
    lastF neg (Lib.trimLeftB D 48) (Lib.trimRightB (Lib.trimLeftB D 48) 48) p x = tellR (neg && !(trimL (digN D).reverse).isEmpty) (trimL (digN D).reverse) (x - p) := by
  have hall : (Lib.trimLeftB D 48).all Pl.digit = true := (trimL_facts (Nat.le_refl _) hD).2
  have htr := trimL_idem (digN D).reverse
  rw [trimL_all D hD] at htr ⊢
  generalize Lib.trimLeftB D 48 = all at *
  have hsd : (Lib.trimRightB all 48).all Pl.digit = true := (trimR_facts hall).2
  have hsr : (digN all).reverse.dropWhile (· == 0) = (digN (Lib.trimRightB all 48)).reverse := by
    rw [digN_reverse, digN_reverse, digN_dropWhile _ (by rw [List.all_reverse]; exact hall)]
    unfold Lib.trimRightB
    rw [List.reverse_reverse]
  generalize Lib.trimRightB all 48 = short at *
  unfold lastF tellR
  by_cases h0 : (digN all).reverse = []
  · have ha : all = [] := by
      have := congrArg List.length h0
      rw [List.length_reverse, digN_length] at this
      exact List.eq_nil_of_length_eq_zero this
    have hs : short = [] := by
      rw [ha] at hsr
      have := congrArg List.length hsr
      rw [List.length_reverse, digN_length] at this
      exact List.eq_nil_of_length_eq_zero this.symm
    rw [if_pos h0, hs, if_neg (by decide)]
    rfl
  · have ht := htr.resolve_left h0
    obtain ⟨f1, f2, f3, f4, f5⟩ := strip_facts _ (digN all).reverse (x - p) ht (Nat.le_refl _)
    rw [if_neg h0]
    rw [f3, hsr] at f1 f2 f4 f5
    have hne : (neg && !(digN all).reverse.isEmpty) = neg := by
      cases hx : (digN all).reverse with
      | nil => exact absurd hx h0
      | cons a l => simp
    have hlen : (digN short).reverse.length = short.length := by rw [List.length_reverse, digN_length]
    have hal : (digN all).reverse.length = all.length := by rw [List.length_reverse, digN_length]
    replace f4 : (stripR (digN all).reverse.length (digN all).reverse (x - p)).2 = x - p + ((all.length : Int) - (short.length : Int)) := f4.trans (by rw [hlen, hal])
    rw [hlen, hal] at f5
    have hdS : DigL (digN short).reverse := fun d hd => by
      rw [List.mem_reverse] at hd
      unfold digN at hd
      rw [List.mem_map] at hd
      obtain ⟨b, hb, rfl⟩ := hd
      have := (digit_iff b).1 (List.all_eq_true.1 hsd b hb)
      omega
    have hval : ¬ 30 < short.length → wideF (digsOf short) = valD (digN short).reverse := fun h30 => by
      have e1 : valF (digsOf short) = valD (digN short).reverse := by
        rw [valD_reverse _ _ rfl, valF_numD _ _ rfl hsd]
      rw [← e1]
      refine wideF_valF _ _ rfl ?_
      have h1 := valF_lt (digsOf short)
      have h2 : (digsOf short).length = short.length := by unfold digsOf; simp
      rw [h2] at h1
      have h3 : 10 ^ short.length ≤ 10 ^ 30 := Nat.pow_le_pow_right (by decide) (by omega)
      exact Nat.lt_of_lt_of_le h1 (Nat.le_trans h3 (by decide))
    have hex : x - (p : Int) + ((all.length : Int) - (short.length : Int)) = (x - (p : Int)) + ((all.length : Int) - (short.length : Int)) := rfl
    rw [hne, f3, hsr, f4]
    have hsame := tell_same neg _ (x - p + ((all.length : Int) - (short.length : Int))) f1 hdS f2
    rw [hlen] at hsame
    by_cases h60 : 60 < x - (p : Int)
    · rw [if_pos h60]
      by_cases h30 : 30 < short.length
      · rw [if_pos h30]
      · rw [if_neg h30, hval h30]
        have hW0 : valD (digN short).reverse ≠ 0 := fun h => head_mod hdS f1.1 f2 (by rw [h])
        exact tellF_big neg _ _ hW0 (head_mod hdS f1.1 f2) (by omega)
    · rw [if_neg h60, hsame]
      by_cases h30 : 30 < short.length
      · rw [if_pos h30, if_pos h30]
      · rw [if_neg h30, if_neg h30, hval h30]

theorem signR_F (l : List UInt8) : signR l = signF l := by
  unfold signR signF pCut
  cases h1 : l.head? == some 45 with
  | true => rfl
  | false =>
    cases h2 : l.head? == some 43 with
    | true => rfl
    | false => rfl
theorem dW_digits (l : List UInt8) : (dW l).all Pl.digit = true := List.all_takeWhile
theorem isEmpty_iff {l : List UInt8} : l.isEmpty = true ↔ l = [] := List.isEmpty_iff
/-- The document's Parse of a number is the program's. -/
theorem parse_same (l : List UInt8) : parseR l = decF l := by
  unfold parseR decF
  by_cases h255 : 255 < l.length
  · rw [if_pos h255]
    have hk : (decide (l.length ≤ 255) && !(dW (pCut 45 l)).isEmpty) = false := by rw [decide_eq_false (by omega)]; rfl
    rw [hk]
    unfold restF
    rw [if_neg]
    rintro ⟨h1, _⟩
    unfold expF' dotF at h1
    split at h1 <;> split at h1 <;> simp at h1
  · rw [if_neg h255, decide_eq_true (show l.length ≤ 255 by omega), Bool.true_and]
    generalize (l.head? == some 45) = neg
    have hWd := dW_digits (pCut 45 l)
    generalize dW (pCut 45 l) = W at *
    generalize dR (pCut 45 l) = l2
    by_cases hW : W = []
    · rw [if_pos hW, hW]
      unfold restF
      rw [if_neg]
      rintro ⟨h1, _⟩
      unfold expF' dotF at h1
      split at h1 <;> split at h1 <;> simp at h1
    · rw [if_neg hW]
      have hWe : (!W.isEmpty) = true := by
        cases W with
        | nil => exact absurd rfl hW
        | cons a t => rfl
      rw [hWe]
      have rest : ∀ (P : List UInt8) (l3 : List UInt8), P.all Pl.digit = true → expR neg (W ++ P) (-(P.length : Int)) l3 = restF neg W P (expF' true l3) := by
        intro P l3 hP
        have hD : (W ++ P).all Pl.digit = true := by rw [List.all_append, hWd, hP]; rfl
        have fin : ∀ (x : Int) (l6 : List UInt8), endP neg (W ++ P) (-(P.length : Int) + x) l6 = if l6 = [] then lastF neg (Lib.trimLeftB (W ++ P) 48) (Lib.trimRightB (Lib.trimLeftB (W ++ P) 48) 48) P.length x else (40, 0, 0) := by
          intro x l6
          unfold endP
          by_cases h6 : l6 = []
          · rw [if_pos h6, if_pos h6, tell_last neg (W ++ P) P.length x hD]
            congr 1; omega
          · rw [if_neg h6, if_neg h6]
        unfold expR expF'
        by_cases hE : (l3.head? == some 101 || l3.head? == some 69) = true
        · rw [if_pos hE, if_pos hE, signR_F]
          generalize hX : dW (signF l3.tail) = X
          have hXd : X.all Pl.digit = true := by rw [← hX]; exact dW_digits _
          have hval : (valX X : Int) = (valF (digsOf X) : Int) := by rw [valX_numD, valF_numD _ _ rfl hXd]
          by_cases h1 : X = [] ∨ 3 < X.length
          · rw [if_pos h1]
            unfold restF
            rw [if_neg]
            rintro ⟨h2, _⟩
            simp only [Bool.true_and, Bool.and_eq_true, decide_eq_true_eq] at h2
            rcases h1 with h1 | h1
            · rw [h1] at h2; simp at h2
            · omega
          · rw [if_neg h1]
            have hX1 : 1 ≤ X.length := by
              rcases Nat.eq_zero_or_pos X.length with h | h
              · exact absurd (Or.inl (List.eq_nil_of_length_eq_zero h)) h1
              · exact h
            have hX3 : X.length ≤ 3 := by
              rcases Nat.lt_or_ge 3 X.length with h | h
              · exact absurd (Or.inr h) h1
              · exact h
            rw [decide_eq_true hX1, decide_eq_true hX3, fin, hval]
            unfold restF
            simp only [Bool.and_self, if_true, true_and]
        · rw [if_neg hE, if_neg hE]
          have := fin 0 l3
          rw [Int.add_zero] at this
          rw [this]
          unfold restF
          simp only [true_and]
      unfold partR dotF
      by_cases h46 : (l2.head? == some 46) = true
      · rw [if_pos h46, if_pos h46]
        dsimp only
        have hP := dW_digits l2.tail
        generalize dW l2.tail = P at *
        by_cases hPe : P = []
        · rw [if_pos hPe, hPe]
          unfold restF
          rw [if_neg]
          rintro ⟨h1, _⟩
          unfold expF' at h1
          split at h1 <;> simp at h1
        · rw [if_neg hPe]
          have hPn : (true && !P.isEmpty) = true := by
            cases P with
            | nil => exact absurd rfl hPe
            | cons a t => rfl
          rw [hPn]
          exact rest P _ hP
      · rw [if_neg h46, if_neg h46]
        have := rest [] l2 rfl
        rw [List.append_nil] at this
        exact this
end Go.Proofs.YtfkiomjplpbmiaaGreatDoor

