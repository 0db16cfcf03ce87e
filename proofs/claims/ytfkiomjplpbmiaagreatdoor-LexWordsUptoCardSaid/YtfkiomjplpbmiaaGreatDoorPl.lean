/- Plain words and lemmas: bytes, sheets' names, columns, numbers. No program in sight. -/
import Derived.Lib.Replace
import Derived.Lib.CutLaws
import Derived.Lib.ItoaNum

import Derived.Lib.TrimU
import Derived.Laws.RangeString
import Derived.Laws.RangeAny
import Derived.Shelf.GgClosure.StringsIndexFunc
namespace Go.Proofs.YtfkiomjplpbmiaaGreatDoor
namespace Pl

abbrev Bytes := List UInt8

/-! ### One byte as a separator, at the head, at the end -/
theorem index_one (c : UInt8) : ∀ l : Bytes, Lib.index l [c] = if l.contains c then ((l.takeWhile (· != c)).length : Int) else -1
  | [] => by simp [Lib.index]
  | b :: l => by
    have ih := index_one c l
    simp only [Lib.index, List.isPrefixOf, Bool.and_true]
    by_cases h : c = b
    · subst h; simp
    · have h' : ¬ b = c := fun e => h e.symm
      have e1 : (c == b) = false := by simp [h]
      have e2 : (b != c) = true := by simp [h']
      rw [e1, ih]
      simp only [List.contains_cons, e1, Bool.false_or, List.takeWhile_cons, e2, if_true, Bool.false_eq_true, if_false]
      by_cases hc : l.contains c = true
      · rw [if_pos hc, if_pos hc]
        have : ¬ (((List.takeWhile (fun x => x != c) l).length : Int) == -1) = true := by
          intro e; have := beq_iff_eq.1 e; omega
        rw [if_neg this]; simp
      · rw [if_neg hc, if_neg hc]; rfl

/-- strings.Cut at one byte. -/
def cut1 (c : UInt8) (l : Bytes) : Bytes × Bytes × Bool := (l.takeWhile (· != c), (l.dropWhile (· != c)).tail, l.contains c)

theorem takeWhile_all {c : UInt8} : ∀ {l : Bytes}, l.contains c = false → l.takeWhile (· != c) = l ∧ l.dropWhile (· != c) = []
  | [], _ => ⟨rfl, rfl⟩
  | b :: l, h => by
    simp only [List.contains_cons, Bool.or_eq_false_iff] at h
    obtain ⟨h1, h2⟩ := takeWhile_all h.2
    have : (b != c) = true := by
      have := h.1; simp only [beq_eq_false_iff_ne] at this; simp only [bne_iff_ne]; exact fun e => this e.symm
    simp [this, h1, h2]

theorem take_takeWhile (p : UInt8 → Bool) : ∀ l : Bytes, l.take (l.takeWhile p).length = l.takeWhile p
  | [] => rfl
  | b :: l => by
    simp only [List.takeWhile_cons]
    split
    · simp [take_takeWhile p l]
    · rfl
theorem drop_takeWhile (p : UInt8 → Bool) : ∀ l : Bytes, l.drop (l.takeWhile p).length = l.dropWhile p
  | [] => rfl
  | b :: l => by
    simp only [List.takeWhile_cons, List.dropWhile_cons]
    split
    · simp [drop_takeWhile p l]
    · rfl

theorem cut_one (c : UInt8) (l : Bytes) : Lib.cut l [c] = cut1 c l := by
  unfold Lib.cut cut1
  rw [index_one]
  by_cases h : l.contains c = true
  · rw [if_pos h, if_pos (by omega), h, Int.toNat_natCast, take_takeWhile]
    rw [List.length_singleton, ← List.drop_drop, drop_takeWhile, List.drop_one]
  · have h' : l.contains c = false := by simpa using h
    rw [if_neg h, if_neg (by omega), h']
    rw [(takeWhile_all h').1, (takeWhile_all h').2]; rfl

theorem hasPrefix_one (c : UInt8) (l : Bytes) : Lib.hasPrefix l [c] = (l.head? == some c) := by
  unfold Lib.hasPrefix
  cases l with
  | nil => rfl
  | cons b l =>
    simp only [List.isPrefixOf, Bool.and_true, List.head?_cons]
    rw [Bool.eq_iff_iff]
    simp only [beq_iff_eq, Option.some.injEq]
    exact ⟨fun h => h.symm, fun h => h.symm⟩

theorem hasSuffix_one (c : UInt8) (l : Bytes) : Lib.hasSuffix l [c] = (l.getLast? == some c) := by
  unfold Lib.hasSuffix List.isSuffixOf
  rw [List.getLast?_eq_head?_reverse, ← hasPrefix_one]; rfl

theorem trimPrefix_one (c : UInt8) (l : Bytes) : Lib.trimPrefix l [c] = if l.head? == some c then l.tail else l := by
  unfold Lib.trimPrefix
  rw [hasPrefix_one]; simp

/-! ### A sheet's name -/
def bad (b : UInt8) : Bool := decide (b < 32) || decide (126 < b) || [58, 92, 47, 63, 42, 91, 93].contains b
def oddR (r : Nat) : Bool := decide (r < 32) || decide (126 < r) || decide (0 ≤ Lib.indexByte [58, 92, 47, 63, 42, 91, 93] r.toUInt8)
def sheetName (l : Bytes) : Bool := !l.isEmpty && decide (l.length ≤ 31) && !(l.head? == some 39) && !(l.getLast? == some 39) && !l.any bad

theorem odd_bad : ∀ b : UInt8, oddR b.toNat = bad b := by
  intro b
  have : ∀ i : Fin 256, oddR i.val = bad (UInt8.ofNat i.val) := by decide +kernel
  have h := this ⟨b.toNat, b.toNat_lt⟩
  simpa using h

theorem odd_high {r : Nat} (h : 128 ≤ r) : oddR r = true := by
  unfold oddR; simp; omega
theorem bad_high {b : UInt8} (h : 128 ≤ b.toNat) : bad b = true := by rw [← odd_bad]; exact odd_high h

theorem any_from (s : ByteArray) : ∀ (f pos : Nat), s.size ≤ pos + f → (decide (0 ≤ Lib.idxFuncFrom oddR true s f pos)) = (s.data.toList.drop pos).any bad
  | 0, pos, h => by
    have e : s.data.toList.drop pos = [] := by apply List.drop_eq_nil_of_le; show s.data.size ≤ pos; exact h
    rw [e]; rfl
  | f + 1, pos, h => by
    by_cases hp : pos < s.size
    · have hp' : pos < s.data.toList.length := hp
      rw [List.drop_eq_getElem_cons hp', List.any_cons]
      have hg : s[pos]'hp = s.data.toList[pos] := by simp; rfl
      unfold Lib.idxFuncFrom
      rw [if_pos hp]
      by_cases ha : (s[pos]'hp).toNat < 128
      · rw [decode_ascii s pos hp ha]
        dsimp only
        rw [odd_bad, ← hg]
        cases hb : bad (s[pos]'hp) with
        | true => simp
        | false => simp only [Bool.false_eq_true, if_false, Bool.false_or]; exact any_from s f (pos + 1) (by omega)
      · have := decode_high s pos hp (by omega)
        rw [odd_high this.1, if_pos rfl, ← hg, bad_high (by omega)]; simp
    · have e : s.data.toList.drop pos = [] := by apply List.drop_eq_nil_of_le; show s.size ≤ pos; omega
      rw [e, Lib.idxFuncFrom_end _ _ _ _ _ hp]; rfl

theorem any_odd (s : ByteArray) : decide (0 ≤ Lib.idxFunc oddR true s) = s.data.toList.any bad := by
  unfold Lib.idxFunc; rw [any_from s s.size 0 (by omega)]; rfl

/-! ### Columns -/
def letters (n : Int) : Bytes :=
  if n < 1 ∨ 64 < n then [] else if n ≤ 26 then [UInt8.ofNat (64 + n.toNat)] else [UInt8.ofNat (64 + (n.toNat - 1) / 26), UInt8.ofNat (65 + (n.toNat - 1) % 26)]
def capital (b : UInt8) : Bool := decide (65 ≤ b) && decide (b ≤ 90)
def digit (b : UInt8) : Bool := decide (48 ≤ b) && decide (b ≤ 57)
def letter (b : UInt8) : Bool := decide (97 ≤ b) && decide (b ≤ 122) || capital b || decide (b = 95)
def colNum (l : Bytes) : Nat := l.foldl (fun n b => 26 * n + (b.toNat - 65) + 1) 0
def col (l : Bytes) : Int × Bool :=
  if l.isEmpty || decide (3 < l.length) || !l.all capital || decide (64 < colNum l) then (0, false) else (colNum l, true)

/-- A letter, then letters and digits. -/
def wordly : Bytes → Bool
  | [] => false
  | b :: l => letter b && l.all fun c => letter c || digit c

def quoteB (b : UInt8) : Bytes := if b = 39 then [39, 39] else [b]
def quote (l : Bytes) : Bytes := if wordly l then l else 39 :: (l.flatMap quoteB ++ [39])

/-! ### References -/
def rightN (c r : Int) : Bool := decide (1 ≤ c) && decide (c ≤ 64) && decide (1 ≤ r) && decide (r ≤ 512)
def right (sh : Bytes) (c r : Int) : Bool := rightN c r && (sh.isEmpty || sheetName sh)

theorem right_col {sh : Bytes} {c r : Int} (h : right sh c r = true) : 1 ≤ c ∧ c ≤ 64 ∧ 1 ≤ r ∧ r ≤ 512 := by
  unfold right rightN at h
  simp only [Bool.and_eq_true, decide_eq_true_eq] at h
  omega

end Pl
end Go.Proofs.YtfkiomjplpbmiaaGreatDoor
