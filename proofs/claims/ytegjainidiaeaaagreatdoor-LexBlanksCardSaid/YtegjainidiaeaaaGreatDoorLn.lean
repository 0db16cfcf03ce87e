/- Blanks part, and change nothing else: the plain law of LexBlanks. No program in sight. -/
import Derived.Test.YtegjainidiaeaaaGreatDoorLm
namespace Go.Proofs.YtegjainidiaeaaaGreatDoor
open Go.RowKit Go.Lib

theorem runN_st {p : UInt8 → Bool} (hp : p 32 = false) (x : List UInt8) : ∀ l : List UInt8, runN p (l ++ 32 :: x) = runN p l
  | [] => by unfold runN; simp [hp]
  | b :: l => by
    have ih := runN_st hp x l
    unfold runN at *
    rw [List.cons_append, List.takeWhile_cons, List.takeWhile_cons]
    split
    · simp only [List.length_cons, ih]
    · rfl
theorem drop_st {l : List UInt8} {k : Nat} (x : List UInt8) (h : k ≤ l.length) : (l ++ x).drop k = l.drop k ++ x := List.drop_append_of_le_length h
theorem take_st {l : List UInt8} {k : Nat} (x : List UInt8) (h : k ≤ l.length) : (l ++ x).take k = l.take k := List.take_append_of_le_length h
theorem head_st {l x : List UInt8} {c : UInt8} (hc : c ≠ 32) : ((l ++ 32 :: x).head? = some c) = (l.head? = some c) := by
  cases l with
  | nil => simp; exact fun e => hc e.symm
  | cons b l => rfl
theorem headb_st {l x : List UInt8} {c : UInt8} (hc : c ≠ 32) : ((l ++ 32 :: x).head? == some c) = (l.head? == some c) := by
  rw [Bool.eq_iff_iff]; simp only [beq_iff_eq]; rw [head_st hc]
theorem runN_drop_st {p : UInt8 → Bool} (hp : p 32 = false) {l x : List UInt8} {k : Nat} (h : k ≤ l.length) : runN p ((l ++ 32 :: x).drop k) = runN p (l.drop k) := by
  rw [drop_st _ h, runN_st hp]
theorem dig32 : Pl.digit 32 = false := by decide
theorem isW32 : isW 32 = false := by decide
theorem isC32 : isC 32 = false := by decide

theorem numP_st (l x : List UInt8) : numP (l ++ 32 :: x) = numP l := by
  unfold numP
  rw [runN_st dig32, drop_st _ (runN_le _ _)]
  simp only [head_st (c := 46) (by decide)]
  by_cases h : (l.drop (runN Pl.digit l)).head? = some 46
  · have h1 := head_lt (by rw [h]; rfl : ((l.drop (runN Pl.digit l)).head? == some 46) = true)
    rw [runN_drop_st dig32 (by omega)]
  · rw [if_neg (fun e => h e.1), if_neg (fun e => h e.1)]
theorem expN_st (l x : List UInt8) : expN (l ++ 32 :: x) = expN l := by
  unfold expN
  simp only [head_st (c := 101) (by decide), head_st (c := 69) (by decide)]
  by_cases h : l.head? = some 101 ∨ l.head? = some 69
  · have h1 : 1 ≤ l.length := by cases l <;> simp at h ⊢
    have h2 : signN (l ++ 32 :: x) = signN l := by
      unfold signN
      rw [drop_st _ h1]
      simp only [head_st (c := 43) (by decide), head_st (c := 45) (by decide)]
    have h3 : signN l ≤ l.length := by
      unfold signN
      split
      · rename_i hx
        rcases hx with hx | hx
        · have := head_lt (by rw [hx]; rfl : ((l.drop 1).head? == some 43) = true); omega
        · have := head_lt (by rw [hx]; rfl : ((l.drop 1).head? == some 45) = true); omega
      · exact h1
    rw [h2, runN_drop_st dig32 h3]
  · rw [if_neg (fun e => h e.1), if_neg (fun e => h e.1)]
theorem numN_st (l x : List UInt8) : numN (l ++ 32 :: x) = numN l := by
  unfold numN
  rw [numP_st, drop_st _ (numP_le l), expN_st]

theorem quotedM_st (m : UInt8) (hm : m ≠ 32) (x : List UInt8) : ∀ (k : Nat) (l acc t r : List UInt8), l.length ≤ k → quotedM m acc l = some (t, r) → quotedM m acc (l ++ 32 :: x) = some (t, r ++ 32 :: x)
  | _, [], acc, t, r, _, h => by rw [quotedM] at h; cases h
  | 0, c :: l, acc, t, r, hk, h => by simp at hk
  | k + 1, c :: l, acc, t, r, hk, h => by
    have hk2 : l.length ≤ k := by simpa using hk
    rw [quotedM] at h
    rw [List.cons_append, quotedM]
    split at h
    · rename_i hc
      rw [if_pos hc]
      simp only [head_st (c := m) hm]
      split at h
      · rename_i hh
        rw [if_pos hh]
        have ht : l.tail.length ≤ k := by rw [List.length_tail]; omega
        have e : (l ++ 32 :: x).tail = l.tail ++ 32 :: x := by cases l with
          | nil => cases hh
          | cons b l => rfl
        rw [e]
        exact quotedM_st m hm x k l.tail _ t r ht h
      · rename_i hh
        rw [if_neg hh]
        injection h with h; injection h with h1 h2; subst h1 h2; rfl
    · rename_i hc
      rw [if_neg hc]
      exact quotedM_st m hm x k l _ t r hk2 h

theorem prefix_st {x : List UInt8} : ∀ (p l : List UInt8), p.contains 32 = false → p.isPrefixOf (l ++ 32 :: x) = p.isPrefixOf l
  | [], l, _ => by simp
  | a :: p, [], h => by
    simp only [List.contains_cons, Bool.or_eq_false_iff, beq_eq_false_iff_ne] at h
    have : (a == 32) = false := by simp only [beq_eq_false_iff_ne]; exact fun e => h.1 e.symm
    simp [List.isPrefixOf, this]
  | a :: p, b :: l, h => by
    simp only [List.contains_cons, Bool.or_eq_false_iff] at h
    rw [List.cons_append, List.isPrefixOf, List.isPrefixOf, prefix_st p l h.2]

theorem afterN_st {l x : List UInt8} {n : Nat} (h : n < l.length) : afterN (l ++ 32 :: x) n = afterN l n := by
  unfold afterN; rw [runN_drop_st isC32 (by omega)]
theorem refOne_st (P : FP) {l x : List UInt8} {n : Nat} (h : n ≤ l.length) : refOne P (l ++ 32 :: x) n = refOne P l n := by
  unfold refOne; rw [take_st _ h]

/-- Where there is no error, a blank behind changes nothing. -/
theorem text_st (X : FX) (c : UInt8) (l x : List UInt8) (h : (textOne X (c :: l)).2.2 = 0) : textOne X (c :: l ++ 32 :: x) = textOne X (c :: l) := by
  unfold textOne at *
  have h1 : (c :: l ++ 32 :: x).drop 1 = (c :: l).drop 1 ++ 32 :: x := rfl
  rw [h1]
  cases hx : quotedM 34 [] ((c :: l).drop 1) with
  | none => rw [hx] at h; cases h
  | some p =>
    obtain ⟨t, r⟩ := p
    rw [quotedM_st 34 (by decide) x _ _ _ t r (Nat.le_refl _) hx]
    dsimp only
    have e : (c :: l ++ 32 :: x).length - (r ++ 32 :: x).length = (c :: l).length - r.length := by rw [List.length_append, List.length_append]; omega
    rw [e]
theorem sheet_st (P : FP) (c : UInt8) (l x : List UInt8) (h : (sheetOne P (c :: l)).2.2 = 0) : sheetOne P (c :: l ++ 32 :: x) = sheetOne P (c :: l) := by
  unfold sheetOne at *
  have h1 : (c :: l ++ 32 :: x).drop 1 = (c :: l).drop 1 ++ 32 :: x := rfl
  rw [h1]
  cases hx : quotedM 39 [] ((c :: l).drop 1) with
  | none => rw [hx] at h; cases h
  | some p =>
    obtain ⟨t, r⟩ := p
    rw [hx] at h
    dsimp only at h
    rw [quotedM_st 39 (by decide) x _ _ _ t r (Nat.le_refl _) hx]
    have hl := quotedM_lt hx
    rw [List.drop_one, List.tail_cons] at hl
    dsimp only
    rw [headb_st (by decide)]
    by_cases hr : (r.head? == some 33) = true
    · rw [if_pos hr, if_pos hr]
      have h1 : 1 ≤ r.length := by cases r <;> simp at hr ⊢
      have e : (c :: l ++ 32 :: x).length - (r ++ 32 :: x).length = (c :: l).length - r.length := by rw [List.length_append, List.length_append]; omega
      have h2 : (c :: l).length - r.length < (c :: l).length := by simp only [List.length_cons]; omega
      rw [e, afterN_st h2, refOne_st _ (afterN_le _ _ h2)]
    · rw [if_neg hr] at h; cases h
theorem word_st (P : FP) (c : UInt8) (l x : List UInt8) : wordOne P (c :: l ++ 32 :: x) = wordOne P (c :: l) := by
  have hn : wordN (c :: l ++ 32 :: x) = wordN (c :: l) := runN_st isW32 x _
  have hl : wordN (c :: l) ≤ (c :: l).length := runN_le _ _
  unfold wordOne
  rw [hn, drop_st _ hl, take_st _ hl, headb_st (by decide), headb_st (by decide)]
  by_cases hr : ((List.drop (wordN (c :: l)) (c :: l)).head? == some 33) = true
  · rw [afterN_st (head_lt hr), refOne_st _ (afterN_le _ _ (head_lt hr)), refOne_st _ hl]
  · rw [if_neg (c := _ = true ∧ _ = false) (fun e => hr e.1), refOne_st _ hl]
    symm
    rw [if_neg (c := _ = true ∧ _ = false) (fun e => hr e.1)]
theorem oneM_st (P : FP) (D : FD) (X : FX) (c : UInt8) (l x : List UInt8) (h : (oneM P D X (c :: l)).2.2 = 0) : oneM P D X (c :: l ++ 32 :: x) = oneM P D X (c :: l) := by
  have hh : (c :: l ++ 32 :: x).headD 0 = c := rfl
  have hh2 : (c :: l).headD 0 = c := rfl
  unfold oneM at *
  rw [hh]
  rw [hh2] at h ⊢
  by_cases hd : Pl.digit c = true
  · rw [if_pos hd, if_pos hd]
    unfold numOne
    rw [numN_st, take_st _ (numN_le _)]
  · rw [if_neg hd] at h ⊢
    rw [if_neg hd]
    by_cases hq : c = 34
    · rw [if_pos hq] at h ⊢
      rw [if_pos hq, text_st X c l x h]
    · rw [if_neg hq] at h ⊢
      rw [if_neg hq]
      by_cases hs : c = 39
      · rw [if_pos hs] at h ⊢
        rw [if_pos hs, sheet_st P c l x h]
      · rw [if_neg hs] at h ⊢
        rw [if_neg hs]
        by_cases hw : c = 36 ∨ isL c = true
        · rw [if_pos hw, if_pos hw, word_st P c l x]
        · rw [if_neg hw, if_neg hw]
          unfold markOne
          rw [prefix_st _ _ (by decide), prefix_st _ _ (by decide), prefix_st _ _ (by decide), prefix_st _ _ (by decide), hh, hh2, take_st _ (by simp)]

/-! ### Fuel, and places -/
def Reach (one : List UInt8 → One) : Prop := ∀ c l, Fits (c :: l) (one (c :: l))
def Steady (one : List UInt8 → One) : Prop := ∀ c l x, (one (c :: l)).2.2 = 0 → one (c :: l ++ 32 :: x) = one (c :: l)

theorem lexM_fuel {one : List UInt8 → One} (hr : Reach one) : ∀ (f g at_ : Nat) (l : List UInt8), l.length ≤ f → l.length ≤ g → lexM one f at_ l = lexM one g at_ l
  | 0, 0, _, _, _, _ => rfl
  | 0, g + 1, _, [], _, _ => rfl
  | 0, g + 1, _, c :: l, h, _ => by simp at h
  | f + 1, 0, _, [], _, _ => rfl
  | f + 1, 0, _, c :: l, _, h => by simp at h
  | f + 1, g + 1, _, [], _, _ => rfl
  | f + 1, g + 1, at_, c :: l, hf, hg => by
    have hf' : l.length ≤ f := by simpa using hf
    have hg' : l.length ≤ g := by simpa using hg
    rw [lexM, lexM]
    split
    · exact lexM_fuel hr f g _ l hf' hg'
    · split
      · rfl
      · rename_i he
        have h1 := hr c l (by simpa using he)
        have hd : ((c :: l).drop (one (c :: l)).2.1).length ≤ l.length := by rw [List.length_drop]; simp only [List.length_cons]; omega
        rw [lexM_fuel hr f g _ _ (by omega) (by omega)]

def shiftTs (k : Nat) (ts : List (Nat × Tok)) : List (Nat × Tok) := ts.map fun p => (p.1 + k, p.2)
theorem lexM_shift (one : List UInt8 → One) (k : Nat) : ∀ (f at_ : Nat) (l : List UInt8) (ts : List (Nat × Tok)), lexM one f at_ l = .ok ts → lexM one f (at_ + k) l = .ok (shiftTs k ts)
  | 0, _, _, ts, h => by rw [lexM] at *; injection h with h; subst h; rfl
  | f + 1, _, [], ts, h => by rw [lexM] at *; injection h with h; subst h; rfl
  | f + 1, at_, c :: l, ts, h => by
    rw [lexM] at *
    split at h
    · rename_i hc
      rw [if_pos hc, Nat.add_right_comm]
      exact lexM_shift one k f _ l ts h
    · rename_i hc
      rw [if_neg hc]
      split at h
      · cases h
      · rename_i he
        rw [if_neg he]
        split at h
        · cases h
        · rename_i us hu
          injection h with h; subst h
          rw [Nat.add_right_comm, lexM_shift one k f _ _ us hu]
          rfl

/-- A text, a blank, another text: the tokens of both. -/
theorem lexM_part {one : List UInt8 → One} (hr : Reach one) (hs : Steady one) (x : List UInt8) (us : List (Nat × Tok)) : ∀ (f at_ : Nat) (l : List UInt8) (ts : List (Nat × Tok)), l.length ≤ f → lexM one f at_ l = .ok ts →
    ∀ g, l.length + 1 + x.length ≤ g → lexM one g (at_ + l.length + 1) x = .ok us → lexM one g at_ (l ++ 32 :: x) = .ok (ts ++ us)
  | f, at_, [], ts, _, h, g, hg, hx => by
    have h0 : ts = [] := by
      cases f with
      | zero => rw [lexM] at h; injection h with h; exact h.symm
      | succ f => rw [lexM] at h; injection h with h; exact h.symm
    subst h0
    obtain ⟨g, rfl⟩ : ∃ g', g = g' + 1 := ⟨g - 1, by simp at hg; omega⟩
    have hg2 : x.length ≤ g := by simp at hg; omega
    rw [List.nil_append, lexM, if_pos rfl, lexM_fuel hr g (g + 1) _ x hg2 (by omega)]
    simpa using hx
  | 0, _, c :: l, ts, hf, _, _, _, _ => by simp at hf
  | f + 1, at_, c :: l, ts, hf, h, g, hg, hx => by
    have hf' : l.length ≤ f := by simpa using hf
    obtain ⟨g, rfl⟩ : ∃ g', g = g' + 1 := ⟨g - 1, by simp at hg; omega⟩
    have hg2 : l.length + 1 + x.length ≤ g := by simp at hg; omega
    have hx2 : lexM one g (at_ + (c :: l).length + 1) x = .ok us := by rw [lexM_fuel hr g (g + 1) _ x (by omega) (by omega)]; exact hx
    rw [lexM] at h
    rw [List.cons_append, lexM]
    split at h
    · rename_i hc
      rw [if_pos hc]
      refine lexM_part hr hs x us f (at_ + 1) l ts hf' h g hg2 ?_
      rw [← hx2, List.length_cons]; congr 1; omega
    · rename_i hc
      rw [if_neg hc]
      split at h
      · cases h
      · rename_i he
        have he' : (one (c :: l)).2.2 = 0 := by simpa using he
        have e : one (c :: (l ++ 32 :: x)) = one (c :: l) := hs c l x he'
        rw [e, if_neg he]
        split at h
        · cases h
        · rename_i vs hv
          injection h with h; subst h
          have h1 := hr c l he'
          have hd : ((c :: l).drop (one (c :: l)).2.1).length = l.length + 1 - (one (c :: l)).2.1 := by rw [List.length_drop]; rfl
          have h2 := h1.2
          rw [List.length_cons] at h2
          have := lexM_part hr hs x us f (at_ + (one (c :: l)).2.1) ((c :: l).drop (one (c :: l)).2.1) vs (by omega) hv g (by omega) (by
            rw [← hx2, hd, List.length_cons]; congr 1; omega)
          have e2 : (c :: (l ++ 32 :: x)).drop (one (c :: l)).2.1 = (c :: l).drop (one (c :: l)).2.1 ++ 32 :: x := drop_st (l := c :: l) _ h1.2
          rw [e2, this]; rfl

theorem lexM_blanks {one : List UInt8 → One} (hr : Reach one) (x : List UInt8) : ∀ (k f at_ : Nat), k + x.length ≤ f → lexM one f at_ (List.replicate k 32 ++ x) = lexM one f (at_ + k) x
  | 0, f, at_, _ => by simp
  | k + 1, f, at_, h => by
    obtain ⟨f, rfl⟩ : ∃ f', f = f' + 1 := ⟨f - 1, by omega⟩
    rw [List.replicate_succ, List.cons_append, lexM, if_pos rfl, lexM_blanks hr x k f _ (by omega), lexM_fuel hr f (f + 1) _ x (by omega) (by omega)]
    congr 1; omega

/-- The tokens of a whole text. -/
def lexA (one : List UInt8 → One) (l : List UInt8) : Except (Nat × Int) (List (Nat × Tok)) := lexM one l.length 0 l

/-- The plain law of LexBlanks. -/
theorem blanks_plain {one : List UInt8 → One} (hr : Reach one) (hs : Steady one) (a b : List UInt8) (n : Nat) (hn : 1 ≤ n) (ts us : List (Nat × Tok)) (ha : lexA one a = .ok ts) (hb : lexA one b = .ok us) :
    lexA one (a ++ List.replicate n 32 ++ b) = .ok (ts ++ shiftTs (a.length + n) us) := by
  obtain ⟨k, rfl⟩ : ∃ k, n = k + 1 := ⟨n - 1, by omega⟩
  unfold lexA at *
  have hb2 := lexM_shift one (a.length + (k + 1)) _ 0 b us hb
  rw [List.replicate_succ, List.append_assoc, List.cons_append]
  generalize hg : (a ++ 32 :: (List.replicate k 32 ++ b)).length = g
  have hg2 : a.length + 1 + (List.replicate k (32 : UInt8) ++ b).length = g := by rw [← hg]; simp only [List.length_append, List.length_cons, List.length_replicate]; omega
  have hl : (List.replicate k (32 : UInt8) ++ b).length = k + b.length := by rw [List.length_append, List.length_replicate]
  refine lexM_part hr hs _ _ _ 0 a ts (Nat.le_refl _) ha g (by omega) ?_
  rw [lexM_blanks hr b k g _ (by omega), ← hb2, lexM_fuel hr g b.length _ b (by omega) (Nat.le_refl _)]
  congr 1; omega
end Go.Proofs.YtegjainidiaeaaaGreatDoor
