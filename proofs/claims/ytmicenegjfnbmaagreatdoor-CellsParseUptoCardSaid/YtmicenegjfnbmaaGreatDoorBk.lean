/- The plain law of CellsBack: what is written is read again, and what is read is what was written. No program in sight. -/
import Derived.Test.YtmicenegjfnbmaaGreatDoorCp
namespace Go.Proofs.YtmicenegjfnbmaaGreatDoor
open Go.Lib

/-! ### Numerals -/
def dig (u : Nat) : UInt8 := UInt8.ofNat (48 + u)
theorem dig_toNat {u : Nat} (h : u < 10) : (dig u).toNat = 48 + u := by
  unfold dig; rw [UInt8.toNat_ofNat']; omega
theorem dec_small {u : Nat} (h : u < 10) : decDigits u = [dig u] := by rw [decDigits, dif_pos h]; rfl
theorem dec_big {u : Nat} (h : ¬ u < 10) : decDigits u = decDigits (u / 10) ++ [dig (u % 10)] := by rw [decDigits, dif_neg h]; rfl
theorem num_snoc (l : List UInt8) (b : UInt8) : num (l ++ [b]) = 10 * num l + (b.toNat - 48) := by unfold num; rw [List.foldl_append]; rfl
theorem digit_dig {u : Nat} (h : u < 10) : Pl.digit (dig u) = true := by rw [digit_iff, dig_toNat h]; omega

/-- A decimal numeral: digits, the first of them no zero, and its number. -/
theorem dec_facts : ∀ (n u : Nat), u ≤ n → 1 ≤ u → (decDigits u).all Pl.digit = true ∧ num (decDigits u) = u ∧ (decDigits u).isEmpty = false ∧ (decDigits u).head? ≠ some 48 := by
  intro n
  induction n with
  | zero => intro u h h1; omega
  | succ n ih =>
    intro u h h1
    by_cases h10 : u < 10
    · rw [dec_small h10]
      refine ⟨by simp [digit_dig h10], ?_, rfl, ?_⟩
      · show 10 * 0 + ((dig u).toNat - 48) = u
        rw [dig_toNat h10]; omega
      · intro e
        have e : dig u = 48 := by simpa using e
        have := dig_toNat h10
        rw [e] at this
        have h48 : (48 : UInt8).toNat = 48 := rfl
        omega
    · rw [dec_big h10]
      obtain ⟨i1, i2, i3, i4⟩ := ih (u / 10) (by omega) (by omega)
      have hm : u % 10 < 10 := Nat.mod_lt _ (by decide)
      refine ⟨?_, ?_, ?_, ?_⟩
      · rw [List.all_append, i1]; simp [digit_dig hm]
      · rw [num_snoc, i2, dig_toNat hm]; omega
      · cases hd : decDigits (u / 10) with
        | nil => rw [hd] at i3; cases i3
        | cons b l => rfl
      · cases hd : decDigits (u / 10) with
        | nil => rw [hd] at i3; cases i3
        | cons b l => rw [hd] at i4; simpa using i4

theorem dec_num : ∀ (l : List UInt8), l.reverse.all Pl.digit = true → l ≠ [] → l.reverse.head? ≠ some 48 → decDigits (num l.reverse) = l.reverse ∧ 1 ≤ num l.reverse
  | [], _, h, _ => absurd rfl h
  | [b], h, _, hz => by
    have hb : Pl.digit b = true := by simpa using h
    rw [digit_iff] at hb
    have e : num [b] = b.toNat - 48 := by show 10 * 0 + (b.toNat - 48) = _; omega
    have hne : b.toNat ≠ 48 := by
      intro e
      apply hz
      have : b = 48 := UInt8.toNat_inj.1 e
      rw [this]; rfl
    show decDigits (num [b]) = [b] ∧ 1 ≤ num [b]
    rw [e, dec_small (by omega)]
    refine ⟨?_, by omega⟩
    have : dig (b.toNat - 48) = b := by
      apply UInt8.toNat_inj.1
      rw [dig_toNat (by omega)]; omega
    rw [this]
  | b :: c :: l, h, _, hz => by
    have hr : (b :: c :: l).reverse = (c :: l).reverse ++ [b] := List.reverse_cons
    rw [hr] at h hz ⊢
    rw [List.all_append, Bool.and_eq_true] at h
    have hb : Pl.digit b = true := by simpa using h.2
    rw [digit_iff] at hb
    have hz' : (c :: l).reverse.head? ≠ some 48 := by
      intro e
      apply hz
      rw [List.head?_append, e]; rfl
    obtain ⟨i1, i2⟩ := dec_num (c :: l) h.1 (by simp) hz'
    rw [num_snoc]
    refine ⟨?_, by omega⟩
    rw [dec_big (by omega)]
    have e1 : (10 * num (c :: l).reverse + (b.toNat - 48)) / 10 = num (c :: l).reverse := by omega
    have e2 : (10 * num (c :: l).reverse + (b.toNat - 48)) % 10 = b.toNat - 48 := by omega
    rw [e1, e2, i1]
    have : dig (b.toNat - 48) = b := by
      apply UInt8.toNat_inj.1
      rw [dig_toNat (by omega)]; omega
    rw [this]

theorem itoa_num {l : List UInt8} (h : l.all Pl.digit = true) (h0 : l.isEmpty = false) (hz : l.head? ≠ some 48) : itoa (num l : Int) = l ∧ 1 ≤ num l := by
  have hne : l.reverse ≠ [] := by
    intro e
    rw [List.reverse_eq_nil_iff.1 e] at h0; cases h0
  have hk := dec_num l.reverse (by rw [List.reverse_reverse]; exact h) hne (by rw [List.reverse_reverse]; exact hz)
  rw [List.reverse_reverse] at hk
  refine ⟨?_, hk.2⟩
  unfold itoa
  rw [if_neg (by omega), Int.toNat_natCast]; exact hk.1

theorem itoa_facts {r : Int} (h1 : 1 ≤ r) (h2 : r ≤ 512) : (itoa r).all Pl.digit = true ∧ num (itoa r) = r.toNat ∧ (itoa r).isEmpty = false ∧ (itoa r).head? ≠ some 48 ∧ (itoa r).length ≤ 3 := by
  have e : itoa r = decDigits r.toNat := by unfold itoa; rw [if_neg (by omega)]
  rw [e]
  obtain ⟨i1, i2, i3, i4⟩ := dec_facts r.toNat r.toNat (Nat.le_refl _) (by omega)
  refine ⟨i1, i2, i3, i4, ?_⟩
  rw [decDigits_length]
  by_cases a : r.toNat < 10
  · rw [nDigits_small a]; decide
  · rw [nDigits_big a]
    by_cases b : r.toNat / 10 < 10
    · rw [nDigits_small b]; decide
    · rw [nDigits_big b, nDigits_small (by omega)]; decide

/-! ### Letters -/
theorem letters_facts {c : Int} (h1 : 1 ≤ c) (h2 : c ≤ 64) : Pl.col (Pl.letters c) = (c, true) ∧ (Pl.letters c).all Pl.capital = true ∧ (Pl.letters c).isEmpty = false ∧ (Pl.letters c).length ≤ 2 := by
  have h : ∀ i : Fin 64, Pl.col (Pl.letters (i.val + 1 : Nat)) = (((i.val + 1 : Nat) : Int), true) ∧ (Pl.letters (i.val + 1 : Nat)).all Pl.capital = true ∧ (Pl.letters (i.val + 1 : Nat)).isEmpty = false ∧ (Pl.letters (i.val + 1 : Nat)).length ≤ 2 := by decide +kernel
  have k := h ⟨c.toNat - 1, by omega⟩
  have e : ((c.toNat - 1 + 1 : Nat) : Int) = c := by omega
  simp only [e] at k
  exact k

theorem letters_col {l : List UInt8} (h0 : l.isEmpty = false) (h : (Pl.col l).2 = true) : Pl.letters (Pl.col l).1 = l ∧ 1 ≤ (Pl.col l).1 ∧ (Pl.col l).1 ≤ 64 := by
  have hc : Pl.col l = if l.isEmpty || decide (3 < l.length) || !l.all Pl.capital || decide (64 < Pl.colNum l) then (0, false) else ((Pl.colNum l : Int), true) := rfl
  by_cases hb : (l.isEmpty || decide (3 < l.length) || !l.all Pl.capital || decide (64 < Pl.colNum l)) = true
  · rw [hc, if_pos hb] at h; cases h
  · rw [hc, if_neg hb]
    simp only [Bool.or_eq_true, not_or, decide_eq_true_eq, Bool.not_eq_true', Bool.not_eq_false] at hb
    obtain ⟨⟨⟨_, b2⟩, b3⟩, b4⟩ := hb
    dsimp only
    match l, h0, b2, b3, b4 with
    | [a], _, _, b3, b4 =>
      have ha : Pl.capital a = true := by simpa using b3
      rw [capital_iff] at ha
      have e : Pl.colNum [a] = a.toNat - 64 := by show 26 * 0 + (a.toNat - 65) + 1 = _; omega
      rw [e]
      refine ⟨?_, by omega, by omega⟩
      unfold Pl.letters
      rw [if_neg (by omega), if_pos (by omega)]
      have : UInt8.ofNat (64 + ((a.toNat - 64 : Nat) : Int).toNat) = a := by
        apply UInt8.toNat_inj.1
        rw [UInt8.toNat_ofNat']; omega
      rw [this]
    | [a, b], _, _, b3, b4 =>
      simp only [List.all_cons, List.all_nil, Bool.and_true, Bool.and_eq_true] at b3
      obtain ⟨ha, hb⟩ := b3
      rw [capital_iff] at ha hb
      have e : Pl.colNum [a, b] = 26 * (a.toNat - 64) + (b.toNat - 64) := by show 26 * (26 * 0 + (a.toNat - 65) + 1) + (b.toNat - 65) + 1 = _; omega
      rw [e] at b4 ⊢
      refine ⟨?_, by omega, by omega⟩
      unfold Pl.letters
      rw [if_neg (by omega), if_neg (by omega)]
      have e1 : UInt8.ofNat (64 + (((26 * (a.toNat - 64) + (b.toNat - 64) : Nat) : Int).toNat - 1) / 26) = a := by
        apply UInt8.toNat_inj.1
        rw [UInt8.toNat_ofNat']; omega
      have e2 : UInt8.ofNat (65 + (((26 * (a.toNat - 64) + (b.toNat - 64) : Nat) : Int).toNat - 1) % 26) = b := by
        apply UInt8.toNat_inj.1
        rw [UInt8.toNat_ofNat']; omega
      rw [e1, e2]
    | [a, b, d], _, _, b3, b4 =>
      simp only [List.all_cons, List.all_nil, Bool.and_true, Bool.and_eq_true] at b3
      obtain ⟨ha, hb, hd⟩ := b3
      rw [capital_iff] at ha hb hd
      have e : Pl.colNum [a, b, d] = 26 * (26 * (26 * 0 + (a.toNat - 65) + 1) + (b.toNat - 65) + 1) + (d.toNat - 65) + 1 := rfl
      omega
    | _ :: _ :: _ :: _ :: _, _, b2, _, _ => simp at b2

/-! ### A cell -/
theorem mark_cut (l : List UInt8) : mark (l.head? == some 36) ++ cutD l = l := by
  unfold cutD
  cases l with
  | nil => rfl
  | cons b l =>
    by_cases h : b = 36
    · subst h; rfl
    · have : ((b :: l).head? == some 36) = false := by simp [h]
      rw [this]; rfl

theorem cut_mark (b : Bool) (l : List UInt8) (h : l.head? ≠ some 36) : cutD (mark b ++ l) = l ∧ ((mark b ++ l).head? == some 36) = b := by
  unfold cutD
  cases b
  · show (if (l.head? == some 36) = true then l.tail else l) = l ∧ (l.head? == some 36) = false
    have : (l.head? == some 36) = false := by simpa using h
    rw [this]; simp
  · exact ⟨rfl, rfl⟩

theorem take_drop_all {p : UInt8 → Bool} {a b : List UInt8} (h : a.all p = true) (hb : ∀ x, b.head? = some x → p x = false) : (a ++ b).takeWhile p = a ∧ (a ++ b).dropWhile p = b := by
  induction a with
  | nil =>
    cases b with
    | nil => exact ⟨rfl, rfl⟩
    | cons x b =>
      have := hb x rfl
      simp [this]
  | cons x a ih =>
    simp only [List.all_cons, Bool.and_eq_true] at h
    obtain ⟨i1, i2⟩ := ih h.2
    simp [h.1, i1, i2]

theorem head_all {p : UInt8 → Bool} {l : List UInt8} (h : l.all p = true) {x : UInt8} (hx : l.head? = some x) : p x = true := by
  cases l with
  | nil => cases hx
  | cons b l =>
    simp only [List.all_cons, Bool.and_eq_true] at h
    obtain rfl : b = x := by simpa using hx
    exact h.1
theorem head_append {a b : List UInt8} (h : a.isEmpty = false) : (a ++ b).head? = a.head? := by
  cases a with
  | nil => cases h
  | cons _ _ => rfl

theorem cell_parts (ac ar : Bool) {L D : List UInt8} (hL : L.all Pl.capital = true) (hL0 : L.isEmpty = false) (hD : D.all Pl.digit = true) :
    cellF (mark ac ++ L ++ mark ar ++ D) = cellG L D [] ac ar := by
  have hDh : D.head? ≠ some 36 := fun e => by have := head_all hD e; revert this; decide
  have hLh : (L ++ (mark ar ++ D)).head? ≠ some 36 := fun e => by
    rw [head_append hL0] at e
    have := head_all hL e; revert this; decide
  have e0 : mark ac ++ L ++ mark ar ++ D = mark ac ++ (L ++ (mark ar ++ D)) := by simp
  obtain ⟨c1, c2⟩ := cut_mark ac _ hLh
  obtain ⟨d1, d2⟩ := cut_mark ar _ hDh
  have hx : ∀ x, (mark ar ++ D).head? = some x → Pl.capital x = false := by
    intro x hx
    cases ar
    · have := head_all hD hx
      rw [digit_iff] at this
      cases hc : Pl.capital x with
      | true => rw [capital_iff] at hc; omega
      | false => rfl
    · obtain rfl : (36 : UInt8) = x := by simpa [mark] using hx
      rfl
  obtain ⟨t1, t2⟩ := take_drop_all hL hx
  have hD2 := take_drop_all (b := []) hD (fun x hx => by cases hx)
  rw [List.append_nil] at hD2
  rw [e0]
  unfold cellF
  rw [c1, c2, t1, t2, d1, d2, hD2.1, hD2.2]

theorem cell_print {c r : Int} (ac ar : Bool) (h : Pl.rightN c r = true) : cellF (bareF c r ac ar) = (0, c, r, ac, ar) := by
  unfold Pl.rightN at h
  simp only [Bool.and_eq_true, decide_eq_true_eq] at h
  obtain ⟨⟨⟨h1, h2⟩, h3⟩, h4⟩ := h
  obtain ⟨l1, l2, l3, l4⟩ := letters_facts h1 h2
  obtain ⟨d1, d2, d3, d4, d5⟩ := itoa_facts h3 h4
  unfold bareF
  rw [cell_parts ac ar l2 l3 d1]
  unfold cellG
  have e1 : decide (3 < (Pl.letters c).length) = false := by rw [decide_eq_false_iff_not]; omega
  have e2 : decide (7 < (itoa r).length) = false := by rw [decide_eq_false_iff_not]; omega
  have e3 : ((itoa r).head? == some 48) = false := by simpa using d4
  have e4 : decide (512 < num (itoa r)) = false := by rw [decide_eq_false_iff_not, d2]; omega
  rw [l3, d3, e1, e2, e3, l1, e4, d2]
  simp
  omega

theorem cell_back {l : List UInt8} {c r : Int} {ac ar : Bool} (h : cellF l = (0, c, r, ac, ar)) : bareF c r ac ar = l ∧ Pl.rightN c r = true := by
  have k1 := mark_cut l
  have k2 := List.takeWhile_append_dropWhile (p := Pl.capital) (l := cutD l)
  have k3 := mark_cut ((cutD l).dropWhile Pl.capital)
  have k4 := List.takeWhile_append_dropWhile (p := Pl.digit) (l := cutD ((cutD l).dropWhile Pl.capital))
  have kd := takeWhile_all_digit (cutD ((cutD l).dropWhile Pl.capital))
  unfold cellF at h
  generalize (l.head? == some 36) = b1 at *
  generalize cutD l = l1 at *
  generalize ((l1.dropWhile Pl.capital).head? == some 36) = b2 at *
  generalize l1.takeWhile Pl.capital = L at *
  generalize l1.dropWhile Pl.capital = l2 at *
  generalize cutD l2 = l3 at *
  generalize l3.takeWhile Pl.digit = D at *
  generalize l3.dropWhile Pl.digit = l4 at *
  unfold cellG at h
  by_cases hb : (L.isEmpty || decide (3 < L.length) || D.isEmpty || decide (7 < D.length) || (D.head? == some 48) || !l4.isEmpty) = true
  · rw [if_pos hb] at h; cases h
  · rw [if_neg hb] at h
    simp only [Bool.or_eq_true, not_or, decide_eq_true_eq, Bool.not_eq_true', Bool.not_eq_false, Bool.not_eq_true] at hb
    obtain ⟨⟨⟨⟨⟨b1', _⟩, b3⟩, _⟩, b5⟩, b6⟩ := hb
    by_cases hc : (!(Pl.col L).2 || decide (512 < num D)) = true
    · rw [if_pos hc] at h; cases h
    · rw [if_neg hc] at h
      simp only [Bool.or_eq_true, not_or, decide_eq_true_eq, Bool.not_eq_true', Bool.not_eq_false] at hc
      simp only [Prod.mk.injEq, true_and] at h
      obtain ⟨rfl, rfl, rfl, rfl⟩ := h
      obtain ⟨m1, m2, m3⟩ := letters_col b1' hc.1
      obtain ⟨n1, n2⟩ := itoa_num kd b3 (by simpa using b5)
      refine ⟨?_, ?_⟩
      · unfold bareF
        rw [m1, n1, ← k1, ← k2, ← k3, ← k4, List.isEmpty_iff.1 b6]
        simp
      · unfold Pl.rightN
        simp only [Bool.and_eq_true, decide_eq_true_eq]
        omega

/-! ### A sheet -/
theorem quoted_print : ∀ (sh acc r : List UInt8), r.head? ≠ some 39 → quotedL acc (sh.flatMap Pl.quoteB ++ 39 :: r) = some (acc ++ sh, r)
  | [], acc, r, h => by
    rw [List.flatMap_nil, List.nil_append, quotedL, if_pos rfl, if_neg h, List.append_nil]
  | b :: sh, acc, r, h => by
    have ih := quoted_print sh (acc ++ [b]) r h
    rw [List.append_assoc] at ih
    by_cases hb : b = 39
    · subst hb
      show quotedL acc (39 :: 39 :: (sh.flatMap Pl.quoteB ++ 39 :: r)) = _
      rw [quotedL, if_pos rfl, if_pos List.head?_cons]
      exact ih
    · have e : (b :: sh).flatMap Pl.quoteB ++ 39 :: r = b :: (sh.flatMap Pl.quoteB ++ 39 :: r) := by
        rw [List.flatMap_cons]; unfold Pl.quoteB; rw [if_neg hb]; rfl
      rw [e, quotedL, if_neg hb]
      exact ih

theorem quoted_back : ∀ (k : Nat) (l acc n r : List UInt8), l.length ≤ k → quotedL acc l = some (n, r) → ∃ m, n = acc ++ m ∧ l = m.flatMap Pl.quoteB ++ 39 :: r := by
  intro k
  induction k with
  | zero =>
    intro l acc n r hk h
    obtain rfl : l = [] := List.length_eq_zero_iff.1 (by omega)
    rw [quotedL] at h; cases h
  | succ k ih =>
    intro l acc n r hk h
    cases l with
    | nil => rw [quotedL] at h; cases h
    | cons c l =>
      simp only [List.length_cons] at hk
      rw [quotedL] at h
      by_cases hc : c = 39
      · subst hc
        rw [if_pos rfl] at h
        by_cases hh : l.head? = some 39
        · rw [if_pos hh] at h
          cases l with
          | nil => cases hh
          | cons d l =>
            obtain rfl : d = 39 := by simpa using hh
            obtain ⟨m, m1, m2⟩ := ih l _ n r (by simp only [List.length_cons] at hk; omega) h
            refine ⟨39 :: m, by rw [m1]; simp, ?_⟩
            rw [m2]; rfl
        · rw [if_neg hh] at h
          injection h with h
          injection h with h1 h2
          exact ⟨[], by simp [h1], by rw [h2]; rfl⟩
      · rw [if_neg hc] at h
        obtain ⟨m, m1, m2⟩ := ih l _ n r (by omega) h
        refine ⟨c :: m, by rw [m1]; simp, ?_⟩
        rw [m2, List.flatMap_cons]
        unfold Pl.quoteB
        rw [if_neg hc]; rfl

theorem wordly_facts {l : List UInt8} (h : Pl.wordly l = true) : l.head? ≠ some 39 ∧ l.all (· != 33) = true ∧ l.isEmpty = false := by
  cases l with
  | nil => cases h
  | cons b l =>
    have h' : (Pl.letter b && l.all fun c => Pl.letter c || Pl.digit c) = true := h
    rw [Bool.and_eq_true] at h'
    have hl : ∀ c : UInt8, (Pl.letter c || Pl.digit c) = true → (c != 33) = true ∧ c ≠ 39 := by
      intro c hc
      rw [Bool.or_eq_true, letter_iff, digit_iff] at hc
      have a : c ≠ 33 := by rintro rfl; revert hc; decide
      exact ⟨by simpa using a, by rintro rfl; revert hc; decide⟩
    refine ⟨?_, ?_, rfl⟩
    · intro e
      have e : b = 39 := by simpa using e
      exact (hl b (by rw [h'.1]; rfl)).2 e
    · rw [List.all_cons, (hl b (by rw [h'.1]; rfl)).1, Bool.true_and]
      rw [List.all_eq_true] at h' ⊢
      exact fun c hc => (hl c (h'.2 c hc)).1

theorem contains_false_iff {l : List UInt8} {c : UInt8} : l.all (· != c) = true ↔ l.contains c = false := by
  induction l with
  | nil => simp
  | cons b l ih =>
    rw [List.all_cons, Bool.and_eq_true, List.contains_cons, Bool.or_eq_false_iff, ih]
    constructor
    · rintro ⟨h1, h2⟩
      exact ⟨by rw [beq_eq_false_iff_ne]; rintro rfl; simp at h1, h2⟩
    · rintro ⟨h1, h2⟩
      exact ⟨by rw [bne_iff_ne]; rintro rfl; simp at h1, h2⟩

/-- A sheet's name, as it is written, and what is behind. -/
theorem sheet_print {sh t : List UInt8} (h : Pl.sheetName sh = true) : sheetF (Pl.quote sh ++ [33] ++ t) = (sh, t, true) := by
  cases hw : Pl.wordly sh with
  | true =>
    obtain ⟨w1, w2, w3⟩ := wordly_facts hw
    have e : Pl.quote sh ++ [33] ++ t = sh ++ 33 :: t := by unfold Pl.quote; rw [hw, if_pos rfl]; simp
    rw [e]
    obtain ⟨t1, t2⟩ := take_drop_all (b := 33 :: t) w2 (fun x hx => by obtain rfl : (33 : UInt8) = x := by simpa using hx
                                                                       rfl)
    unfold sheetF
    rw [if_neg (by rw [head_append w3]; exact w1), if_pos (by simp), t1, t2, hw, h]
    rfl
  | false =>
    have e : Pl.quote sh ++ [33] ++ t = 39 :: (sh.flatMap Pl.quoteB ++ 39 :: 33 :: t) := by unfold Pl.quote; rw [hw, if_neg (by decide)]; simp
    have q := quoted_print sh [] (33 :: t) (by simp)
    rw [e]
    unfold sheetF quoted
    rw [if_pos List.head?_cons]
    show (match quotedL [] (sh.flatMap Pl.quoteB ++ 39 :: 33 :: t) with
      | none => ([], [], false)
      | some (n, r) => (n, if r.head? = some 33 then r.tail else r, (r.head? == some 33) && Pl.sheetName n && !Pl.wordly n)) = _
    rw [q]
    show (sh, t, true && Pl.sheetName sh && !Pl.wordly sh) = _
    rw [h, hw]; rfl

theorem sheet_none {t : List UInt8} (h : t.all (· != 33) = true) (h' : t.head? ≠ some 39) : sheetF t = ([], t, true) := by
  unfold sheetF
  rw [if_neg h', if_neg (by rw [contains_false_iff.1 h]; decide)]

theorem sheet_back {l nm rest : List UInt8} (h : sheetF l = (nm, rest, true)) : (if nm.isEmpty then rest else Pl.quote nm ++ [33] ++ rest) = l ∧ (nm.isEmpty || Pl.sheetName nm) = true := by
  have hne : ∀ n, Pl.sheetName n = true → n.isEmpty = false := by
    intro n hn
    unfold Pl.sheetName at hn
    simp only [Bool.and_eq_true, Bool.not_eq_true'] at hn
    exact hn.1.1.1.1
  unfold sheetF at h
  by_cases h39 : l.head? = some 39
  · rw [if_pos h39] at h
    cases hq : quoted l.tail with
    | none => rw [hq] at h; cases h
    | some p =>
      obtain ⟨n, r⟩ := p
      rw [hq] at h
      simp only [Prod.mk.injEq, Bool.and_eq_true, Bool.not_eq_true'] at h
      obtain ⟨rfl, rfl, ⟨h3, h4⟩, h5⟩ := h
      obtain ⟨m, m1, m2⟩ := quoted_back _ _ _ _ _ (Nat.le_refl _) hq
      rw [List.nil_append] at m1
      subst m1
      have h3' : r.head? = some 33 := by simpa using h3
      rw [hne _ h4, if_neg (by decide), if_pos h3', h4]
      refine ⟨?_, rfl⟩
      cases l with
      | nil => cases h39
      | cons b l =>
        obtain rfl : b = 39 := by simpa using h39
        have m2 : l = n.flatMap Pl.quoteB ++ 39 :: r := m2
        cases r with
        | nil => cases h3'
        | cons d r =>
          obtain rfl : d = 33 := by simpa using h3'
          rw [m2]
          unfold Pl.quote
          rw [h5, if_neg (by decide)]
          simp
  · rw [if_neg h39] at h
    by_cases h33 : l.contains 33 = true
    · rw [if_pos h33] at h
      simp only [Prod.mk.injEq, Bool.and_eq_true] at h
      obtain ⟨h1, h2, h3, h4⟩ := h
      rw [h1] at h3 h4
      rw [hne _ h4, if_neg (by decide), h4]
      refine ⟨?_, rfl⟩
      have k := List.takeWhile_append_dropWhile (p := (· != 33)) (l := l)
      have hd : ∃ t, l.dropWhile (· != 33) = 33 :: t := by
        cases hx : l.dropWhile (· != 33) with
        | nil =>
          have := dropWhile_nil _ _ hx
          have h33' : l.all (· != 33) = true := by rw [List.all_eq_true]; exact this
          rw [contains_false_iff.1 h33'] at h33; cases h33
        | cons b t =>
          have hp : ∀ (l : List UInt8), l.dropWhile (· != 33) = b :: t → (b != 33) = false := by
            intro l
            induction l with
            | nil => intro h; cases h
            | cons d l ih =>
              intro h
              rw [List.dropWhile_cons] at h
              split at h
              · exact ih h
              · rename_i hd
                injection h with h _
                subst h; simpa using hd
          have := hp l hx
          have : b = 33 := by simpa using this
          exact ⟨t, by rw [this]⟩
      obtain ⟨t, ht⟩ := hd
      rw [ht] at h2 k
      have h2 : t = rest := h2
      subst h2
      rw [h1] at k
      unfold Pl.quote
      rw [h3, if_pos rfl, ← k]; simp
    · rw [if_neg h33] at h
      simp only [Prod.mk.injEq, and_true] at h
      obtain ⟨rfl, rfl⟩ := h
      exact ⟨rfl, rfl⟩

/-! ### References and ranges -/
def bareB (b : UInt8) : Bool := Pl.capital b || Pl.digit b || b == 36
theorem bareB_not {b : UInt8} (h : bareB b = true) : (b != 33) = true ∧ (b != 39) = true ∧ (b != 58) = true := by
  refine ⟨?_, ?_, ?_⟩ <;> (rw [bne_iff_ne]; rintro rfl; revert h; decide)
theorem bare_all {c r : Int} (ac ar : Bool) (h : Pl.rightN c r = true) : (bareF c r ac ar).all bareB = true ∧ (bareF c r ac ar).isEmpty = false := by
  unfold Pl.rightN at h
  simp only [Bool.and_eq_true, decide_eq_true_eq] at h
  obtain ⟨⟨⟨h1, h2⟩, h3⟩, h4⟩ := h
  obtain ⟨_, l2, l3, _⟩ := letters_facts h1 h2
  obtain ⟨d1, _, d3, _, _⟩ := itoa_facts h3 h4
  have hm : ∀ b, (mark b).all bareB = true := by decide
  have e1 : (Pl.letters c).all bareB = true := by
    rw [List.all_eq_true] at l2 ⊢
    intro x hx; unfold bareB; rw [l2 x hx]; rfl
  have e2 : (itoa r).all bareB = true := by
    rw [List.all_eq_true] at d1 ⊢
    intro x hx; unfold bareB; rw [d1 x hx]; simp
  unfold bareF
  refine ⟨by simp only [List.all_append, hm, e1, e2]; rfl, ?_⟩
  cases hd : Pl.letters c with
  | nil => rw [hd] at l3; cases l3
  | cons b l => cases ac <;> rfl
theorem all_of {p q : UInt8 → Bool} {l : List UInt8} (h : l.all p = true) (hpq : ∀ b, p b = true → q b = true) : l.all q = true := by
  rw [List.all_eq_true] at h ⊢
  exact fun x hx => hpq x (h x hx)

theorem right_parts {sh : List UInt8} {c r : Int} (h : Pl.right sh c r = true) : Pl.rightN c r = true ∧ (sh.isEmpty = true ∨ sh.isEmpty = false ∧ Pl.sheetName sh = true) := by
  unfold Pl.right at h
  rw [Bool.and_eq_true, Bool.or_eq_true] at h
  refine ⟨h.1, ?_⟩
  cases he : sh.isEmpty with
  | true => exact Or.inl rfl
  | false => rw [he] at h; exact Or.inr ⟨rfl, by simpa using h.2⟩

/-- A text behind a sheet's name, or alone. -/
theorem sheet_of {sh t : List UInt8} (hs : sh.isEmpty = true ∨ sh.isEmpty = false ∧ Pl.sheetName sh = true) (ht : t.all (fun b => bareB b || b == 58) = true) :
    sheetF ((if sh.isEmpty then [] else Pl.quote sh ++ [33]) ++ t) = (sh, t, true) := by
  have hn : ∀ b : UInt8, (bareB b || b == 58) = true → (b != 33) = true ∧ (b != 39) = true := by
    intro b hb
    rw [Bool.or_eq_true] at hb
    rcases hb with hb | hb
    · exact ⟨(bareB_not hb).1, (bareB_not hb).2.1⟩
    · obtain rfl : b = 58 := by simpa using hb
      decide
  rcases hs with hs | ⟨hs, hn'⟩
  · rw [if_pos hs, List.nil_append, List.isEmpty_iff.1 hs]
    refine sheet_none (all_of ht fun b hb => (hn b hb).1) fun e => ?_
    have := hn _ (head_all ht e)
    revert this; decide
  · rw [if_neg (by rw [hs]; decide)]
    exact sheet_print hn'

theorem printF_eq {sh : List UInt8} {c r : Int} (ac ar : Bool) (h : Pl.right sh c r = true) : printF sh c r ac ar = (if sh.isEmpty then [] else Pl.quote sh ++ [33]) ++ bareF c r ac ar := by
  unfold printF
  rw [h]
  cases sh.isEmpty <;> simp

theorem parse_print {sh : List UInt8} {c r : Int} (ac ar : Bool) (h : Pl.right sh c r = true) : parseF (printF sh c r ac ar) = (0, sh, c, r, ac, ar) := by
  obtain ⟨h1, h2⟩ := right_parts h
  have hb := (bare_all ac ar h1).1
  rw [printF_eq ac ar h]
  unfold parseF
  rw [sheet_of h2 (all_of hb fun b hb => by rw [hb]; rfl)]
  dsimp only
  rw [cell_print ac ar h1]
  rfl

theorem print_parse {l sh : List UInt8} {c r : Int} {ac ar : Bool} (h : parseF l = (0, sh, c, r, ac, ar)) : printF sh c r ac ar = l ∧ Pl.right sh c r = true := by
  unfold parseF at h
  rcases hx : sheetF l with ⟨nm, rest, is⟩
  rw [hx] at h
  dsimp only at h
  rcases hy : cellF rest with ⟨e, y⟩
  rw [hy] at h
  unfold parseG at h
  dsimp only at h
  cases is with
  | false => simp at h
  | true =>
    by_cases he : e = 0
    · subst he
      simp only [Bool.not_true, Bool.false_eq_true, if_false, ne_eq, not_true_eq_false, Prod.mk.injEq, true_and] at h
      obtain ⟨rfl, rfl⟩ := h
      obtain ⟨s1, s2⟩ := sheet_back hx
      obtain ⟨c1, c2⟩ := cell_back hy
      have hr : Pl.right nm c r = true := by unfold Pl.right; rw [c2, s2]; rfl
      refine ⟨?_, hr⟩
      rw [printF_eq ac ar hr, c1, ← s1]
      cases nm.isEmpty <;> simp
    · simp only [Bool.not_true, Bool.false_eq_true, if_false, ne_eq, he, not_false_eq_true, if_true, Prod.mk.injEq] at h
      exact h.1.elim

theorem parse_range_print {sh : List UInt8} {c r d s : Int} (ac ar ad a2 : Bool) (h : Pl.right sh c r = true) (h' : Pl.right sh d s = true) :
    parseRF (printRF sh c r ac ar sh d s ad a2) = (0, sh, (c, r, ac, ar), (d, s, ad, a2)) := by
  obtain ⟨h1, h2⟩ := right_parts h
  obtain ⟨k1, _⟩ := right_parts h'
  have ha := (bare_all ac ar h1).1
  have hb := (bare_all ad a2 k1).1
  have e : printRF sh c r ac ar sh d s ad a2 = (if sh.isEmpty then [] else Pl.quote sh ++ [33]) ++ (bareF c r ac ar ++ 58 :: bareF d s ad a2) := by
    unfold printRF
    rw [h, h']
    have : (sh != sh) = false := by simp
    rw [this, Bool.and_false, printF_eq ac ar h]
    simp
  rw [e]
  unfold parseRF
  have hall : (bareF c r ac ar ++ 58 :: bareF d s ad a2).all (fun b => bareB b || b == 58) = true := by
    rw [List.all_append, List.all_cons, all_of ha fun b hb => by rw [hb]; rfl, all_of hb fun b hb => by rw [hb]; rfl]; rfl
  rw [sheet_of h2 hall]
  dsimp only
  have ha58 : (bareF c r ac ar).all (· != 58) = true := all_of ha fun b hb => (bareB_not hb).2.2
  obtain ⟨t1, t2⟩ := take_drop_all (b := 58 :: bareF d s ad a2) ha58 (fun x hx => by obtain rfl : (58 : UInt8) = x := by simpa using hx
                                                                                     rfl)
  have ec : Pl.cut1 58 (bareF c r ac ar ++ 58 :: bareF d s ad a2) = (bareF c r ac ar, bareF d s ad a2, true) := by
    unfold Pl.cut1
    rw [t1, t2]
    simp
  rw [ec]
  dsimp only
  rw [cell_print ac ar h1, cell_print ad a2 k1]
  rfl
end Go.Proofs.YtmicenegjfnbmaaGreatDoor
