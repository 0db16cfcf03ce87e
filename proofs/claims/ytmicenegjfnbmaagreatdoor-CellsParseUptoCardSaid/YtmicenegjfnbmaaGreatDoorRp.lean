/- What the document's Letters, Col, plain and Quote are, in plain words: the printed contracts' plain functions. -/
import Derived.Test.YtmicenegjfnbmaaGreatDoorPCellsPrintx3
import Derived.Test.YtmicenegjfnbmaaGreatDoorPCellsPrintx1
import Derived.Test.YtmicenegjfnbmaaGreatDoorBk
namespace Go.Proofs.YtmicenegjfnbmaaGreatDoor
open Go.RowKit Go.Lib

namespace RefP
open Go.Proofs.YtmicenegjfnbmaaGreatDoor.PCellsPrint

theorem bt_nat (s : ByteArray) (j : Nat) (h : j < s.data.toList.length) : Go.Proofs.YtmicenegjfnbmaaGreatDoorW.PrintWords.bt s (j : Int) = ((s.data.toList[j]'h).toNat : Int) := by
  have h' : (j : Int).toNat < s.size := by rw [Int.toNat_natCast]; exact h
  rw [← Go.Proofs.YtmicenegjfnbmaaGreatDoorW.PrintWords.bt_at s j h']
  simp only [Int.toNat_natCast]
  rfl
theorem wrap_of {x : Int} (h1 : -9223372036854775808 ≤ x) (h2 : x ≤ 9223372036854775807) : wrap64 x = x := by unfold wrap64; omega

theorem letter_eq (b : UInt8) : quireref10_letter.f (b.toNat : Int) = some (Pl.letter b) := by
  have h : ∀ i : Fin 256, quireref10_letter.f ((UInt8.ofNat i.val).toNat : Int) = some (Pl.letter (UInt8.ofNat i.val)) := by decide +kernel
  have k := h ⟨b.toNat, b.toNat_lt⟩
  simpa using k
theorem digit_eq (b : UInt8) : quireref10_digit.f (b.toNat : Int) = some (Pl.digit b) := by
  have h : ∀ i : Fin 256, quireref10_digit.f ((UInt8.ofNat i.val).toNat : Int) = some (Pl.digit (UInt8.ofNat i.val)) := by decide +kernel
  have k := h ⟨b.toNat, b.toNat_lt⟩
  simpa using k

theorem plain_loop (s : ByteArray) (hs : s.size ≤ 4294967280) : ∀ (n k : Nat), k + n = s.data.toList.length → quireref10_plain.l0 (n + 1) s (k : Int) = some ((s.data.toList.drop k).all fun c => Pl.letter c || Pl.digit c) := by
  have hsz : s.data.toList.length = s.size := rfl
  intro n
  induction n with
  | zero =>
    intro k hk
    rw [quireref10_plain.l0, if_neg (by omega), List.drop_eq_nil_of_le (by omega)]; rfl
  | succ n ih =>
    intro k hk
    have hkl : k < s.data.toList.length := by omega
    have i1 := ih (k + 1) (by omega)
    have e : wrap64 ((k : Int) + 1) = ((k + 1 : Nat) : Int) := by rw [wrap_of (by omega) (by omega)]; omega
    rw [quireref10_plain.l0, if_pos (by omega), if_pos (by omega), bt_nat s k hkl, letter_eq, digit_eq, List.drop_eq_getElem_cons hkl, List.all_cons, e, i1]
    simp only [Option.bind_some]
    cases Pl.letter s.data.toList[k] with
    | true => simp
    | false =>
      cases Pl.digit s.data.toList[k] with
      | true => simp
      | false => simp

theorem plain_eq (s : ByteArray) (hs : s.size ≤ 4294967280) : quireref10_plain.f (s.size + 1) s = some (Pl.wordly s.data.toList) := by
  have hsz : s.data.toList.length = s.size := rfl
  unfold quireref10_plain.f
  cases hl : s.data.toList with
  | nil =>
    rw [hl] at hsz
    have h0 : s.size = 0 := by simpa using hsz.symm
    rw [if_pos (by omega), quireref10_plain.j0, if_pos rfl]; rfl
  | cons b l =>
    have h1 : 0 < s.data.toList.length := by rw [hl]; simp
    have hb : s.data.toList[0]'h1 = b := by simp [hl]
    have hbt := bt_nat s 0 h1
    rw [hb] at hbt
    rw [if_neg (by omega), if_pos (by omega), show Go.Proofs.YtmicenegjfnbmaaGreatDoorW.PrintWords.bt s 0 = _ from hbt, letter_eq]
    simp only [Option.bind_some]
    rw [quireref10_plain.j0]
    have hw : Pl.wordly (b :: l) = (Pl.letter b && l.all fun c => Pl.letter c || Pl.digit c) := rfl
    rw [hw]
    cases Pl.letter b with
    | false => rw [if_pos (show (!false) = true from rfl)]; rfl
    | true =>
      rw [if_neg (by decide)]
      have h := plain_loop s hs (s.size - 1) 1 (by omega)
      rw [hl, show s.size - 1 + 1 = s.size by omega] at h
      rw [show quireref10_plain.l0 s.size s 1 = _ from h]
      simp

def enc (l : List UInt8) : List Int := l.map fun b => (b.toNat : Int)
theorem enc_str (l : List UInt8) : strOfNums (enc l) = ⟨l.toArray⟩ := by
  apply ByteArray.ext
  apply Array.toList_inj.1
  rw [strOfNums_data, enc, List.map_map]
  show l.map _ = l
  have : ((fun n : Int => UInt8.ofNat n.toNat) ∘ fun b : UInt8 => (b.toNat : Int)) = id := by funext b; simp
  rw [this, List.map_id]

theorem quote_loop (s : ByteArray) (hs : s.size ≤ 4294967280) : ∀ (n k : Nat) (acc : List UInt8), k + n = s.data.toList.length → acc.length + 2 * n + 2 ≤ 140737488355327 →
    quireref10_Quote.l0 (n + 1) s (enc acc) (k : Int) = some ⟨(acc ++ (s.data.toList.drop k).flatMap Pl.quoteB ++ [39]).toArray⟩ := by
  have hsz : s.data.toList.length = s.size := rfl
  intro n
  induction n with
  | zero =>
    intro k acc hk ha
    have hlen : (enc acc).length = acc.length := by simp [enc]
    rw [quireref10_Quote.l0, if_neg (by omega), if_pos (by omega), List.drop_eq_nil_of_le (by omega), List.flatMap_nil, List.append_nil]
    rw [show enc acc ++ [39] = enc (acc ++ [39]) by simp [enc], enc_str]
  | succ n ih =>
    intro k acc hk ha
    have hlen : (enc acc).length = acc.length := by simp [enc]
    have hkl : k < s.data.toList.length := by omega
    have e : wrap64 ((k : Int) + 1) = ((k + 1 : Nat) : Int) := by rw [wrap_of (by omega) (by omega)]; omega
    rw [quireref10_Quote.l0, if_pos (by omega), if_pos (by omega), if_pos (by omega), bt_nat s k hkl, List.drop_eq_getElem_cons hkl, List.flatMap_cons, e]
    simp only [Option.bind_some]
    generalize s.data.toList[k] = b
    by_cases hb : b = 39
    · subst hb
      rw [if_pos (show (((39 : UInt8).toNat : Nat) : Int) = 39 from rfl), if_pos (by rw [List.length_append, hlen]; simp; omega)]
      rw [show (enc acc ++ [((39 : UInt8).toNat : Int)]) ++ [((39 : UInt8).toNat : Int)] = enc (acc ++ [39, 39]) by simp [enc]]
      rw [ih (k + 1) (acc ++ [39, 39]) (by omega) (by simp; omega)]
      unfold Pl.quoteB
      rw [if_pos rfl, List.append_assoc acc]
    · have hb' : ¬ ((b.toNat : Int) = 39) := by
        intro h
        apply hb
        apply UInt8.toNat_inj.1
        have : (39 : UInt8).toNat = 39 := rfl
        omega
      rw [if_neg hb']
      rw [show enc acc ++ [(b.toNat : Int)] = enc (acc ++ [b]) by simp [enc]]
      rw [ih (k + 1) (acc ++ [b]) (by omega) (by simp; omega)]
      unfold Pl.quoteB
      rw [if_neg hb, List.append_assoc acc]

theorem quote_eq (s : ByteArray) (hs : s.size ≤ 4294967280) : quireref10_Quote.f (s.size + 1) s = some ⟨(Pl.quote s.data.toList).toArray⟩ := by
  unfold quireref10_Quote.f
  rw [plain_eq s hs]
  simp only [Option.bind_some]
  have hq : Pl.quote s.data.toList = if Pl.wordly s.data.toList then s.data.toList else 39 :: (s.data.toList.flatMap Pl.quoteB ++ [39]) := rfl
  rw [hq]
  cases Pl.wordly s.data.toList with
  | true => rw [if_pos rfl, if_pos rfl, bytes_eq]
  | false =>
    rw [if_neg (by decide), if_neg (by decide)]
    have h := quote_loop s hs s.size 0 [39] (by show 0 + s.size = s.size; omega) (by simp; omega)
    rw [show quireref10_Quote.l0 (s.size + 1) s [39] 0 = _ from h]
    simp

theorem letters_eq (k : Nat) (c : Int) : quireref10_Letters.f (k + 1) c = some ⟨(Pl.letters c).toArray⟩ := by
  have hk : quireref10_Letters.f (k + 1) c = quireref10_Letters.f 1 c := rfl
  rw [hk]
  by_cases h1 : c < 1
  · unfold quireref10_Letters.f Pl.letters
    rw [if_pos h1, if_pos (Or.inl h1)]; rfl
  · by_cases h2 : 64 < c
    · unfold quireref10_Letters.f Pl.letters
      rw [if_neg h1, if_pos (Or.inr h2), quireref10_Letters.j0, if_pos (by rw [decide_eq_true_eq]; omega)]
    · have h : ∀ i : Fin 64, quireref10_Letters.f 1 ((i.val + 1 : Nat) : Int) = some ⟨(Pl.letters ((i.val + 1 : Nat) : Int)).toArray⟩ := by decide +kernel
      have k := h ⟨c.toNat - 1, by omega⟩
      have e : ((c.toNat - 1 + 1 : Nat) : Int) = c := by omega
      simp only [e] at k
      exact k

theorem col_loop (s : ByteArray) : ∀ (n : Nat) (c : Int), c + n = 65 → 1 ≤ c → ((Pl.col s.data.toList).2 = true → c ≤ (Pl.col s.data.toList).1) →
    quireref10_Col.l0 (n + 2) s c = some (if (Pl.col s.data.toList).2 = true then ((Pl.col s.data.toList).1, true) else (0, false)) := by
  have hne : (Pl.col s.data.toList).2 = true → s.data.toList.isEmpty = false := by
    intro h
    cases hl : s.data.toList with
    | nil => rw [hl] at h; cases h
    | cons _ _ => rfl
  intro n
  induction n with
  | zero =>
    intro c hc h1 hle
    rw [quireref10_Col.l0, if_neg (by omega)]
    cases h : (Pl.col s.data.toList).2 with
    | false => rfl
    | true =>
      have := (letters_col (hne h) h).2.2
      have := hle h
      omega
  | succ n ih =>
    intro c hc h1 hle
    have e : wrap64 (c + 1) = c + 1 := wrap_of (by omega) (by omega)
    rw [quireref10_Col.l0, if_pos (by omega), letters_eq, e]
    simp only [Option.bind_some]
    have ht : (⟨(Pl.letters c).toArray⟩ : ByteArray).toList = Pl.letters c := by rw [Lib.toList_data]
    rw [ht, Lib.toList_data s]
    by_cases hx : Pl.letters c = s.data.toList
    · rw [if_pos hx, ← hx, (letters_facts (by omega : 1 ≤ c) (by omega : c ≤ 64)).1]; rfl
    · rw [if_neg hx]
      refine ih (c + 1) (by omega) (by omega) (fun h => ?_)
      have h2 := hle h
      have h3 := (letters_col (hne h) h).1
      have : c ≠ (Pl.col s.data.toList).1 := by rintro rfl; exact hx h3
      omega

theorem col_eq (s : ByteArray) : quireref10_Col.f 66 s = some (Pl.col s.data.toList) := by
  have hc : Pl.col s.data.toList = if s.data.toList.isEmpty || decide (3 < s.data.toList.length) || !s.data.toList.all Pl.capital || decide (64 < Pl.colNum s.data.toList) then (0, false) else ((Pl.colNum s.data.toList : Int), true) := rfl
  unfold quireref10_Col.f
  rw [col_loop s 64 1 (by omega) (by omega) (fun h => (letters_col (by
    cases hl : s.data.toList with
    | nil => rw [hl] at h; cases h
    | cons _ _ => rfl) h).2.1)]
  congr 1
  rw [hc]
  split
  · rfl
  · rfl
end RefP

/-! ### The contracts -/
theorem refLetters_any (c : Int) (w : World) : Calls Tryz.prog 13 #[.int .i64 c] w (Q (.string ⟨(Pl.letters c).toArray⟩) w) :=
  (PCellsPrint.quireref10_Letters.calls 1 c _ w (RefP.letters_eq 0 c)).mono fun _ _ h => h
theorem refCol_any (s : ByteArray) (w : World) : Calls Tryz.prog 7 #[.string s] w (Q (.tuple #[.int .i64 (Pl.col s.data.toList).1, .bool (Pl.col s.data.toList).2]) w) :=
  (PCellsPrint.quireref10_Col.calls 66 s _ _ w (RefP.col_eq s)).mono fun _ _ h => h
theorem refPlain_any (s : ByteArray) (w : World) (hs : s.size ≤ 4294967280) : Calls Tryz.prog 36 #[.string s] w (Q (.bool (Pl.wordly s.data.toList)) w) :=
  (PCellsPrint.quireref10_plain.calls _ s _ w (RefP.plain_eq s hs)).mono fun _ _ ⟨he, h⟩ => ⟨he, by
    obtain ⟨n, hn⟩ := h.out
    rw [hn]; exact below_drewN (Below.refl _ _) n⟩
theorem refDigit_any (b : UInt8) (w : World) : Calls Tryz.prog 58 #[.int .u8 b.toNat] w (Q (.bool (Pl.digit b)) w) :=
  (PCellsPrint.quireref10_digit.calls _ _ w (RefP.digit_eq b)).mono fun _ _ ⟨he, h⟩ => ⟨he, by
    obtain ⟨n, hn⟩ := h.out
    rw [hn]; exact below_drewN (Below.refl _ _) n⟩
theorem refQuote_any (s : ByteArray) (w : World) (hs : s.size ≤ 4294967280) : Calls Tryz.prog 15 #[.string s] w (Q (.string ⟨(Pl.quote s.data.toList).toArray⟩) w) :=
  (PCellsPrint.quireref10_Quote.calls _ s _ w (RefP.quote_eq s hs)).mono fun _ _ h => h
end Go.Proofs.YtmicenegjfnbmaaGreatDoor
