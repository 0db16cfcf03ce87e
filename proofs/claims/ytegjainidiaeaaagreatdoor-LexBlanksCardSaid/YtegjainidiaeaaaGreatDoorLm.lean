/- The tokens of a text, in plain words: what lex.Lex answers, over any answers of cells.Parse (P), dec.Parse (D) and utf.Xml (X). No program in sight. -/
import Derived.Test.YtegjainidiaeaaaGreatDoorLe
namespace Go.Proofs.YtegjainidiaeaaaGreatDoor
open Go.RowKit Go.Lib

abbrev wordS : ByteArray := ⟨#[65, 66, 67, 68, 69, 70, 71, 72, 73, 74, 75, 76, 77, 78, 79, 80, 81, 82, 83, 84, 85, 86, 87, 88, 89, 90, 97, 98, 99, 100, 101, 102, 103, 104, 105, 106, 107, 108, 109, 110, 111, 112, 113, 114, 115, 116, 117, 118, 119, 120, 121, 122, 95, 48, 49, 50, 51, 52, 53, 54, 55, 56, 57, 46, 36]⟩
abbrev cellS : ByteArray := ⟨#[65, 66, 67, 68, 69, 70, 71, 72, 73, 74, 75, 76, 77, 78, 79, 80, 81, 82, 83, 84, 85, 86, 87, 88, 89, 90, 48, 49, 50, 51, 52, 53, 54, 55, 56, 57, 36]⟩
abbrev lettS : ByteArray := ⟨#[65, 66, 67, 68, 69, 70, 71, 72, 73, 74, 75, 76, 77, 78, 79, 80, 81, 82, 83, 84, 85, 86, 87, 88, 89, 90, 97, 98, 99, 100, 101, 102, 103, 104, 105, 106, 107, 108, 109, 110, 111, 112, 113, 114, 115, 116, 117, 118, 119, 120, 121, 122, 95]⟩
abbrev markS : ByteArray := ⟨#[60, 62, 61, 43, 45, 42, 47, 94, 38, 37, 40, 41, 44, 58]⟩
def isW (b : UInt8) : Bool := wordS.data.toList.contains b
def isC (b : UInt8) : Bool := cellS.data.toList.contains b
def isL (b : UInt8) : Bool := lettS.data.toList.contains b
def isM (b : UInt8) : Bool := markS.data.toList.contains b

/-- A token without its place. -/
structure Tok where
  kind : Int
  s : List UInt8
  c : Int
  e : Int
  r : List UInt8 × Int × Int × Bool × Bool
def tok0 : Tok := ⟨0, [], 0, 0, ([], 0, 0, false, false)⟩
abbrev One := Tok × Nat × Int
abbrev FP := List UInt8 → Int × List UInt8 × Int × Int × Bool × Bool
abbrev FD := List UInt8 → Int × Int × Int
abbrev FX := List UInt8 → Int

def refOne (P : FP) (l : List UInt8) (n : Nat) : One := (⟨3, [], 0, 0, (P (l.take n)).2⟩, n, (P (l.take n)).1)
def wordN (l : List UInt8) : Nat := runN isW l
def afterN (l : List UInt8) (n : Nat) : Nat := n + 1 + runN isC (l.drop (n + 1))
def wordOne (P : FP) (l : List UInt8) : One :=
  if ((l.drop (wordN l)).head? == some 33) = true ∧ ((l.take (wordN l)).any fun b => b == 36 || b == 46) = false then refOne P l (afterN l (wordN l))
  else if (P (l.take (wordN l))).1 ≠ 40 ∧ ((l.drop (wordN l)).head? == some 40) = false then refOne P l (wordN l)
  else if (l.take (wordN l)).contains 36 = true then (tok0, 0, 40)
  else (⟨4, l.take (wordN l), 0, 0, tok0.r⟩, wordN l, 0)
def sheetOne (P : FP) (l : List UInt8) : One :=
  match quotedM 39 [] (l.drop 1) with
  | none => (tok0, 0, 40)
  | some (_, r) => if (r.head? == some 33) = true then refOne P l (afterN l (l.length - r.length)) else (tok0, 0, 40)
def textOne (X : FX) (l : List UInt8) : One :=
  match quotedM 34 [] (l.drop 1) with
  | none => (tok0, 0, 40)
  | some (t, r) => if 255 < t.length then (tok0, 0, 3) else (⟨2, t, 0, 0, tok0.r⟩, l.length - r.length, X t)
def markOne (l : List UInt8) : One :=
  if ([35, 82, 69, 70, 33] : List UInt8).isPrefixOf l = true then (⟨6, [], 0, 0, tok0.r⟩, 5, 0)
  else if ([60, 62] : List UInt8).isPrefixOf l = true then (⟨5, [60, 62], 0, 0, tok0.r⟩, 2, 0)
  else if ([60, 61] : List UInt8).isPrefixOf l = true then (⟨5, [60, 61], 0, 0, tok0.r⟩, 2, 0)
  else if ([62, 61] : List UInt8).isPrefixOf l = true then (⟨5, [62, 61], 0, 0, tok0.r⟩, 2, 0)
  else if isM (l.headD 0) = true then (⟨5, l.take 1, 0, 0, tok0.r⟩, 1, 0)
  else (tok0, 0, 40)
def numOne (D : FD) (l : List UInt8) : One := (⟨1, [], (D (l.take (numN l))).2.1, (D (l.take (numN l))).2.2, tok0.r⟩, numN l, (D (l.take (numN l))).1)
def oneM (P : FP) (D : FD) (X : FX) (l : List UInt8) : One :=
  if Pl.digit (l.headD 0) = true then numOne D l
  else if l.headD 0 = 34 then textOne X l
  else if l.headD 0 = 39 then sheetOne P l
  else if l.headD 0 = 36 ∨ isL (l.headD 0) = true then wordOne P l
  else markOne l

/-- The tokens and their places, or the first error's place and the error. -/
def lexM (one : List UInt8 → One) : Nat → Nat → List UInt8 → Except (Nat × Int) (List (Nat × Tok))
  | 0, _, _ => .ok []
  | _ + 1, _, [] => .ok []
  | f + 1, at_, c :: l =>
    if c = 32 then lexM one f (at_ + 1) l
    else if (one (c :: l)).2.2 ≠ 0 then .error (at_, (one (c :: l)).2.2)
    else match lexM one f (at_ + (one (c :: l)).2.1) ((c :: l).drop (one (c :: l)).2.1) with
      | .error x => .error x
      | .ok ts => .ok ((at_, (one (c :: l)).1) :: ts)

/-! ### How far a token reaches -/
theorem quotedM_len (m : UInt8) : ∀ (k : Nat) (l acc t r : List UInt8), l.length ≤ k → quotedM m acc l = some (t, r) → r.length < l.length ∧ t.length ≤ acc.length + (l.length - r.length)
  | _, [], acc, t, r, _, h => by rw [quotedM] at h; cases h
  | 0, c :: l, acc, t, r, hk, h => by simp at hk
  | k + 1, c :: l, acc, t, r, hk, h => by
    have hk2 : l.length ≤ k := by simpa using hk
    rw [quotedM] at h
    split at h
    · split at h
      · have ht : l.tail.length ≤ k := by rw [List.length_tail]; omega
        have := quotedM_len m k l.tail _ t r ht h
        rw [List.length_tail, List.length_append, List.length_singleton] at this
        simp; omega
      · injection h with h; injection h with h1 h2; subst h1 h2; simp
    · have := quotedM_len m k l _ t r hk2 h
      rw [List.length_append, List.length_singleton] at this
      simp; omega
theorem quotedM_lt {m : UInt8} {l acc t r : List UInt8} (h : quotedM m acc l = some (t, r)) : r.length < l.length := (quotedM_len m _ l acc t r (Nat.le_refl _) h).1

theorem numP_le (l : List UInt8) : numP l ≤ l.length := by
  unfold numP
  split
  · rename_i h
    have h1 : runN Pl.digit l < l.length := by
      rcases Nat.lt_or_ge (runN Pl.digit l) l.length with h1 | h1
      · exact h1
      · rw [List.drop_eq_nil_of_le h1] at h; cases h.1
    have := runN_le Pl.digit (l.drop (runN Pl.digit l + 1))
    rw [List.length_drop] at this
    omega
  · exact runN_le _ _
theorem expN_le (l : List UInt8) : expN l ≤ l.length := by
  unfold expN
  split
  · rename_i h
    have h1 := runN_le Pl.digit (l.drop (signN l))
    rw [List.length_drop] at h1
    omega
  · omega
theorem numN_le (l : List UInt8) : numN l ≤ l.length := by
  unfold numN
  have h1 := numP_le l
  have h2 := expN_le (l.drop (numP l))
  rw [List.length_drop] at h2
  omega
theorem afterN_le (l : List UInt8) (n : Nat) (h : n < l.length) : afterN l n ≤ l.length := by
  unfold afterN
  have := runN_le isC (l.drop (n + 1))
  rw [List.length_drop] at this
  omega
theorem head_lt {l : List UInt8} {n : Nat} {c : UInt8} (h : ((l.drop n).head? == some c) = true) : n < l.length := by
  rcases Nat.lt_or_ge n l.length with h1 | h1
  · exact h1
  · rw [List.drop_eq_nil_of_le h1] at h; cases h
theorem runN_pos {p : UInt8 → Bool} {c : UInt8} {l : List UInt8} (h : p c = true) : 1 ≤ runN p (c :: l) := by
  unfold runN; rw [List.takeWhile_cons, h]; simp
theorem numN_pos {c : UInt8} {l : List UInt8} (h : Pl.digit c = true) : 1 ≤ numN (c :: l) := by
  have h1 := runN_pos (l := l) h
  have : runN Pl.digit (c :: l) ≤ numP (c :: l) := by unfold numP; split <;> omega
  unfold numN; omega
theorem isL_isW {b : UInt8} (h : b = 36 ∨ isL b = true) : isW b = true := by
  rcases h with rfl | h
  · decide
  · unfold isL isW at *
    simp only [List.contains_iff_mem] at *
    revert h
    have : ∀ x ∈ lettS.data.toList, x ∈ wordS.data.toList := by decide
    exact this b
theorem mark_le {p : List UInt8} {l : List UInt8} (h : p.isPrefixOf l = true) : p.length ≤ l.length := (List.isPrefixOf_iff_prefix.1 h).length_le

/-- How far a token reaches that is none, or one. -/
def Fits (l : List UInt8) (o : One) : Prop := o.2.2 = 0 → 1 ≤ o.2.1 ∧ o.2.1 ≤ l.length
theorem fits_no (l : List UInt8) : Fits l (tok0, 0, 40) := fun h => by cases h
theorem fits_text (X : FX) (c : UInt8) (l : List UInt8) : Fits (c :: l) (textOne X (c :: l)) := by
  unfold textOne
  split
  · exact fits_no _
  · rename_i t r hx
    have := quotedM_lt hx
    rw [List.drop_one, List.tail_cons] at this
    split
    · exact fun h => by cases h
    · intro _
      simp only [List.length_cons] at *
      omega
theorem fits_sheet (P : FP) (c : UInt8) (l : List UInt8) : Fits (c :: l) (sheetOne P (c :: l)) := by
  unfold sheetOne
  split
  · exact fits_no _
  · rename_i t r hx
    have := quotedM_lt hx
    rw [List.drop_one, List.tail_cons] at this
    split
    · rename_i hr
      have h1 : 1 ≤ r.length := by cases r <;> simp at hr ⊢
      have := afterN_le (c :: l) ((c :: l).length - r.length) (by simp only [List.length_cons]; omega)
      intro _
      refine ⟨?_, this⟩
      unfold refOne afterN; dsimp only; omega
    · exact fits_no _
theorem fits_word (P : FP) (c : UInt8) (l : List UInt8) (hw : c = 36 ∨ isL c = true) : Fits (c :: l) (wordOne P (c :: l)) := by
  have h1 : 1 ≤ wordN (c :: l) := runN_pos (isL_isW hw)
  have h2 : wordN (c :: l) ≤ (c :: l).length := runN_le _ _
  unfold wordOne
  split
  · rename_i hr
    exact fun _ => ⟨by unfold refOne afterN; dsimp only; omega, afterN_le _ _ (head_lt hr.1)⟩
  · split
    · exact fun _ => ⟨h1, h2⟩
    · split
      · exact fits_no _
      · exact fun _ => ⟨h1, h2⟩
theorem fits_mark (c : UInt8) (l : List UInt8) : Fits (c :: l) (markOne (c :: l)) := by
  unfold markOne
  split
  · rename_i hp; exact fun _ => ⟨by decide, mark_le hp⟩
  · split
    · rename_i hp; exact fun _ => ⟨by decide, mark_le hp⟩
    · split
      · rename_i hp; exact fun _ => ⟨by decide, mark_le hp⟩
      · split
        · rename_i hp; exact fun _ => ⟨by decide, mark_le hp⟩
        · split
          · exact fun _ => ⟨Nat.le_refl 1, by simp⟩
          · exact fits_no _
theorem oneM_fits (P : FP) (D : FD) (X : FX) (c : UInt8) (l : List UInt8) : Fits (c :: l) (oneM P D X (c :: l)) := by
  have hh2 : (c :: l).headD 0 = c := rfl
  unfold oneM
  rw [hh2]
  by_cases hd : Pl.digit c = true
  · rw [if_pos hd]
    exact fun _ => ⟨numN_pos hd, numN_le _⟩
  · rw [if_neg hd]
    by_cases hq : c = 34
    · rw [if_pos hq]
      exact fits_text X c l
    · rw [if_neg hq]
      by_cases hs : c = 39
      · rw [if_pos hs]
        exact fits_sheet P c l
      · rw [if_neg hs]
        by_cases hw : c = 36 ∨ isL c = true
        · rw [if_pos hw]; exact fits_word P c l hw
        · rw [if_neg hw]; exact fits_mark c l
end Go.Proofs.YtegjainidiaeaaaGreatDoor
