/- lex.Quote; a quoted text is read as what it is. -/
import Derived.Test.YtfkiomjplpbmiaaGreatDoorM7
namespace Go.Proofs.YtfkiomjplpbmiaaGreatDoor
open Go.RowKit Go.Lib

def quoteB (b : UInt8) : List UInt8 := if b = 34 then [34, 34] else [b]
/-- A text between marks, each mark in it twice. -/
def quoteL (l : List UInt8) : List UInt8 := 34 :: (l.flatMap quoteB ++ [34])

theorem contains_count_q (l : List UInt8) : (l.contains 34 = false) ↔ l.count 34 = 0 := by
  rw [List.count_eq_zero]; simp

theorem flatMap_no_q : ∀ (l : List UInt8), l.contains 34 = false → l.flatMap quoteB = l
  | [], _ => rfl
  | b :: l, h => by
    simp only [List.contains_cons, Bool.or_eq_false_iff, beq_eq_false_iff_ne] at h
    rw [List.flatMap_cons, flatMap_no_q l h.2]
    unfold quoteB
    rw [if_neg (fun e => h.1 e.symm)]; rfl

theorem flatMap_yes_q (l : List UInt8) (h : l.contains 34 = true) :
    l.flatMap quoteB = l.takeWhile (· != 34) ++ [34, 34] ++ (l.drop ((l.takeWhile (· != 34)).length + 1)).flatMap quoteB := by
  induction l with
  | nil => simp at h
  | cons b l ih =>
    by_cases hb : b = 34
    · subst hb
      simp [List.flatMap_cons, quoteB]
    · have hl : l.contains 34 = true := by
        simp only [List.contains_cons, Bool.or_eq_true, beq_iff_eq] at h
        exact h.resolve_left (fun e => hb e.symm)
      have hbb : (b != 34) = true := by simp [hb]
      rw [List.flatMap_cons, ih hl]
      simp [hbb, quoteB, hb]

theorem count_drop_q (l : List UInt8) (h : l.contains 34 = true) : (l.drop ((l.takeWhile (· != 34)).length + 1)).count 34 + 1 = l.count 34 := by
  induction l with
  | nil => simp at h
  | cons b l ih =>
    by_cases hb : b = 34
    · subst hb; simp
    · have hl : l.contains 34 = true := by
        simp only [List.contains_cons, Bool.or_eq_true, beq_iff_eq] at h
        exact h.resolve_left (fun e => hb e.symm)
      have hbb : (b != 34) = true := by simp [hb]
      simp [hbb, hb, ← ih hl]

theorem replaceK_quote_q : ∀ (k : Nat) (l : List UInt8), l.count 34 ≤ k → Lib.replaceK [34] [34, 34] k l = l.flatMap quoteB
  | 0, l, h => by
    rw [Lib.replaceK, flatMap_no_q l ((contains_count_q l).2 (by omega))]
  | k + 1, l, h => by
    by_cases hc : l.contains 34 = true
    · have hi : Lib.index l [34] = ((l.takeWhile (· != 34)).length : Int) := by rw [Pl.index_one, if_pos hc]
      rw [Lib.replaceK_hit _ _ _ _ _ hi, Pl.take_takeWhile]
      have := count_drop_q l hc
      rw [replaceK_quote_q k _ (by rw [List.length_singleton]; omega), flatMap_yes_q l hc]; rfl
    · have hc' : l.contains 34 = false := by simpa using hc
      have hi : (Lib.index l [34] == -1) = true := by rw [Pl.index_one, if_neg hc]; rfl
      rw [Lib.replaceK, if_pos hi, flatMap_no_q l hc']

theorem count_from_q : ∀ (f : Nat) (l : List UInt8), l.length < f → l.count 34 ≤ Lib.countFrom [34] f l
  | 0, l, h => by omega
  | f + 1, l, h => by
    by_cases hc : l.contains 34 = true
    · have hi : Lib.index l [34] = ((l.takeWhile (· != 34)).length : Int) := by rw [Pl.index_one, if_pos hc]
      have hn : ¬ (Lib.index l [34] == -1) = true := by rw [hi]; intro e; have := beq_iff_eq.1 e; omega
      have h1 := count_drop_q l hc
      have h2 := count_from_q f (l.drop ((l.takeWhile (· != 34)).length + 1)) (by
        have : (l.drop ((l.takeWhile (· != 34)).length + 1)).length ≤ l.length - 1 := by rw [List.length_drop]; omega
        have h3 : 0 < l.length := by cases l with
          | nil => simp at hc
          | cons _ _ => simp
        omega)
      rw [Lib.countFrom, if_neg hn, hi, Int.toNat_natCast, List.length_singleton]; omega
    · have hc' : l.contains 34 = false := by simpa using hc
      have := (contains_count_q l).1 hc'
      omega

theorem replaceAll_quote_q (l : List UInt8) : Lib.replaceAll l [34] [34, 34] = l.flatMap quoteB := by
  unfold Lib.replaceAll Lib.replace
  rw [if_neg (by decide)]
  unfold Lib.replaceNum
  rw [if_pos (.inl (by decide))]
  exact replaceK_quote_q _ _ (count_from_q _ _ (by omega))

theorem replace_calls_q (s : ByteArray) (w : World) (hs : s.size ≤ 4294967280) (hg : Glob w) :
    Calls Tryz.prog 51 #[.string s, .string ⟨#[34]⟩, .string ⟨#[34, 34]⟩] w (Q (.string ⟨(s.data.toList.flatMap quoteB).toArray⟩) w) := by
  obtain ⟨m, hm⟩ := hg.most
  have hcount : Lib.countB s ⟨#[34]⟩ ≤ s.size := by
    have := Lib.countB_mul_le ⟨#[34]⟩ (Nat.le_refl 1) s.size s (Nat.le_refl _)
    have e : (⟨#[34]⟩ : ByteArray).size = 1 := rfl
    rw [e] at this; omega
  have e2 : (⟨#[34, 34]⟩ : ByteArray).size = 2 := rfl
  have h := Tryz.strings_ReplaceAll s ⟨#[34]⟩ ⟨#[34, 34]⟩ m w (by omega) hm (Nat.le_refl 1) (by rw [e2]; omega)
  have e : Lib.replaceAll s.data.toList (⟨#[34]⟩ : ByteArray).data.toList (⟨#[34, 34]⟩ : ByteArray).data.toList = s.data.toList.flatMap quoteB := replaceAll_quote_q s.data.toList
  rw [e] at h
  exact h.mono fun _ _ h => h

theorem flatMap_length_q (l : List UInt8) : (l.flatMap quoteB).length ≤ 2 * l.length := by
  induction l with
  | nil => simp
  | cons b l ih =>
    rw [List.flatMap_cons, List.length_append, List.length_cons]
    have : (quoteB b).length ≤ 2 := by unfold quoteB; split <;> simp
    omega


set_option maxHeartbeats 1000000 in
theorem lexQuote_core (s q : ByteArray) (w : World) (hs : q.size ≤ 8589934560)
    (C : Hid (∀ w, Glob w → Calls Tryz.prog 51 #[.string s, .string ⟨#[34]⟩, .string ⟨#[34, 34]⟩] w (Q (.string q) w))) (hg : Glob w) :
    Calls Tryz.prog 16 #[.string s] w (Q (.string (⟨#[34]⟩ ++ q ++ ⟨#[34]⟩)) w) := by
  have HG := Lib.hid hg
  have h1 : (⟨#[34]⟩ : ByteArray).size = 1 := rfl
  clear hg
  go_enter Tryz.func16, Tryz.ntmps16
  go_wp2_with fail
  refine (C.out _ HG.out).mono ?_
  rintro e w1 ⟨rfl, hb⟩
  go_wp2_with fail
  go_ret
  exact ⟨rfl, hb⟩

theorem lexQuote_any (s : ByteArray) (w : World) (hs : s.size ≤ 4294967280) (hg : Glob w) :
    Calls Tryz.prog 16 #[.string s] w (Q (.string ⟨(quoteL s.data.toList).toArray⟩) w) := by
  have hl := flatMap_length_q s.data.toList
  have hsz : s.data.toList.length = s.size := rfl
  have h := lexQuote_core s ⟨(s.data.toList.flatMap quoteB).toArray⟩ w (by rw [size_mk]; omega) (Lib.hid fun w hg => replace_calls_q s w hs hg) hg
  have he : (⟨(quoteL s.data.toList).toArray⟩ : ByteArray) = ⟨#[34]⟩ ++ ⟨(s.data.toList.flatMap quoteB).toArray⟩ ++ ⟨#[34]⟩ := by
    apply ByteArray.ext; unfold quoteL; simp
  rw [he]
  exact h

/-! ### Read again -/
theorem quotedM_quote : ∀ (l acc r : List UInt8), r.head? ≠ some 34 → quotedM 34 acc (l.flatMap quoteB ++ 34 :: r) = some (acc ++ l, r)
  | [], acc, r, h => by
    rw [List.flatMap_nil, List.nil_append, quotedM, if_pos rfl, if_neg h, List.append_nil]
  | b :: l, acc, r, h => by
    by_cases hb : b = 34
    · subst hb
      show quotedM 34 acc (34 :: 34 :: (l.flatMap quoteB ++ 34 :: r)) = _
      rw [quotedM, if_pos rfl, if_pos (List.head?_cons), List.tail_cons, quotedM_quote l _ r h]; simp
    · have e : (b :: l).flatMap quoteB ++ 34 :: r = b :: (l.flatMap quoteB ++ 34 :: r) := by
        rw [List.flatMap_cons]; unfold quoteB; rw [if_neg hb]; rfl
      rw [e, quotedM, if_neg hb, quotedM_quote l _ r h]; simp

/-- What a quoted text is read as. -/
theorem lex_quote (D : FD) (X : FX) (l : List UInt8) :
    lexA (oneM parseF D X) (quoteL l) = (if 255 < l.length then .error (0, 3) else if X l ≠ 0 then .error (0, X l) else .ok [(0, ⟨2, l, 0, 0, tok0.r⟩)]) := by
  have hq : quotedM 34 [] (l.flatMap quoteB ++ [34]) = some (l, []) := by rw [quotedM_quote l [] [] (by simp)]; rfl
  have ho : oneM parseF D X (quoteL l) = if 255 < l.length then (tok0, 0, 3) else (⟨2, l, 0, 0, tok0.r⟩, (quoteL l).length, X l) := by
    unfold quoteL
    rw [one_text (by decide) rfl]
    unfold textOne
    rw [show (34 :: (l.flatMap quoteB ++ [34])).drop 1 = l.flatMap quoteB ++ [34] from rfl, hq]
    dsimp only
    rw [List.length_nil, Nat.sub_zero]
  by_cases h : 255 < l.length
  · rw [if_pos h] at ho ⊢
    exact lex_fail (by decide) ho (by decide)
  · rw [if_neg h] at ho ⊢
    by_cases hx : X l = 0
    · rw [if_neg (by rw [hx]; decide)]
      rw [hx] at ho
      have hd : (34 :: (l.flatMap quoteB ++ [34])).drop (quoteL l).length = [] := List.drop_eq_nil_of_le (Nat.le_refl _)
      exact lex_step (r := .ok []) (by decide) ho (by rw [hd, lex_end])
    · rw [if_pos hx]
      exact lex_fail (by decide) ho hx
end Go.Proofs.YtfkiomjplpbmiaaGreatDoor

