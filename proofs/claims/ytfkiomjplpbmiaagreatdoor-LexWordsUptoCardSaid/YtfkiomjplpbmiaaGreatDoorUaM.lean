/- The document's first, Write, Xml of quireref06 in plain words, and that its Xml is utf.Xml's. -/
import Derived.Test.YtfkiomjplpbmiaaGreatDoorM3
import Derived.Lib.MapLaws
import Derived.Lib.ValidLaws
namespace Go.Proofs.YtfkiomjplpbmiaaGreatDoor
open Go.RowKit Go.Lib

/-- What is taken off the first byte. -/
def offN (k : Nat) : Int := if k = 2 then 192 else if k = 3 then 224 else if k = 4 then 240 else 0
/-- The number after i bytes of k. -/
def numK (k : Nat) (l : List UInt8) : Nat → Int
  | 0 => 0
  | 1 => ((l.getD 0 0).toNat : Int) - offN k
  | i + 2 => numK k l (i + 1) * 64 + ((l.getD (i + 1) 0).toNat : Int) - 128
def charP (n : Int) : Prop := 0 ≤ n ∧ n ≤ 1114111 ∧ ¬ (55296 ≤ n ∧ n ≤ 57343)
instance (n : Int) : Decidable (charP n) := by unfold charP; infer_instance
def testK (l : List UInt8) (k : Nat) : Prop := charP (numK k l k) ∧ encodeRune (numK k l k) = l.take k
instance (l : List UInt8) (k : Nat) : Decidable (testK l k) := by unfold testK; infer_instance
/-- What first answers from size k on. -/
def firstK (l : List UInt8) : Nat → Nat → Int × Nat × Bool
  | 0, _ => (65533, 1, false)
  | f + 1, k => if 4 < k ∨ l.length < k then (65533, 1, false) else if testK l k then (numK k l k, k, true) else firstK l f (k + 1)
def firstM (l : List UInt8) : Int × Nat × Bool := firstK l 4 1

def errD (l : List UInt8) : Prop := (decodeL l).1 = 65533 ∧ (decodeL l).2 = 1
instance (l : List UInt8) : Decidable (errD l) := by unfold errD; infer_instance

theorem byte_of {x : Int} {b : UInt8} (h : x.toNat.toUInt8 = b) (h0 : 0 ≤ x) (h1 : x < 256) : (b.toNat : Int) = x := by
  subst h
  have : x.toNat.toUInt8.toNat = x.toNat % 256 := by simp
  omega

theorem enc_cases (n : Int) (h : charP n) : (n ≤ 127 ∧ encodeRune n = [n.toNat.toUInt8]) ∨ (128 ≤ n ∧ n ≤ 2047 ∧ encodeRune n = [(192 + n / 64).toNat.toUInt8, (128 + n % 64).toNat.toUInt8]) ∨
    (2048 ≤ n ∧ n ≤ 65535 ∧ encodeRune n = [(224 + n / 4096).toNat.toUInt8, (128 + n / 64 % 64).toNat.toUInt8, (128 + n % 64).toNat.toUInt8]) ∨
    (65536 ≤ n ∧ encodeRune n = [(240 + n / 262144).toNat.toUInt8, (128 + n / 4096 % 64).toNat.toUInt8, (128 + n / 64 % 64).toNat.toUInt8, (128 + n % 64).toNat.toUInt8]) := by
  obtain ⟨h0, h1, h2⟩ := h
  unfold encodeRune encodeRuneZ
  by_cases a : n ≤ 127
  · left; rw [if_pos ⟨h0, a⟩]; exact ⟨a, rfl⟩
  · rw [if_neg (by omega)]
    by_cases b : n ≤ 2047
    · right; left; rw [if_pos ⟨by omega, b⟩]; exact ⟨by omega, b, rfl⟩
    · rw [if_neg (by omega)]
      by_cases c : n ≤ 65535
      · right; right; left; rw [if_pos (by omega)]; exact ⟨by omega, c, rfl⟩
      · right; right; right; rw [if_neg (by omega), if_pos (by omega)]; exact ⟨by omega, rfl⟩

/-- The test's yes is the decoder's. -/
theorem test_dec (l : List UInt8) (k : Nat) (hk : k ≤ l.length) (h : testK l k) : decodeL l = ((numK k l k).toNat, k) ∧ ¬ errD l := by
  obtain ⟨hc, he⟩ := h
  obtain ⟨n, hn⟩ : ∃ n, numK k l k = n := ⟨_, rfl⟩
  rw [hn] at hc he ⊢
  have hlen : (encodeRune n).length = k := by rw [he, List.length_take]; omega
  have hd := decodeL_N l
  have hall : decodeL l = (n.toNat, k) ∧ (k = 1 → n ≤ 127) := by
    rcases enc_cases n hc with ⟨a, e⟩ | ⟨a, b, e⟩ | ⟨a, b, e⟩ | ⟨a, e⟩
    · rw [e] at hlen he
      obtain rfl : k = 1 := by simpa using hlen.symm
      rw [takeA l (by omega)] at he
      injection he with h1 _
      have b0 := byte_of h1 (by have := hc.1; omega) (by omega)
      refine ⟨?_, fun _ => a⟩
      rw [hd]; unfold decodeN
      rw [if_pos (by omega)]
      congr 1; omega
    · rw [e] at hlen he
      obtain rfl : k = 2 := by simpa using hlen.symm
      rw [takeB l (by omega)] at he
      injection he with h1 he
      injection he with h2 _
      have b0 := byte_of h1 (by omega) (by omega)
      have b1 := byte_of h2 (by omega) (by omega)
      refine ⟨?_, fun h => by cases h⟩
      rw [hd]; unfold decodeN
      rw [if_neg (by omega), if_pos (by omega), if_pos (by omega)]
      congr 1; omega
    · rw [e] at hlen he
      obtain rfl : k = 3 := by simpa using hlen.symm
      rw [takeC l (by omega)] at he
      injection he with h1 he
      injection he with h2 he
      injection he with h3 _
      have b0 := byte_of h1 (by omega) (by omega)
      have b1 := byte_of h2 (by omega) (by omega)
      have b2 := byte_of h3 (by omega) (by omega)
      have hs := hc.2.2
      refine ⟨?_, fun h => by cases h⟩
      rw [hd]; unfold decodeN
      rw [if_neg (by omega), if_neg (by omega), if_pos (by omega), if_pos (by omega)]
      congr 1; omega
    · rw [e] at hlen he
      obtain rfl : k = 4 := by simpa using hlen.symm
      rw [takeD l (by omega)] at he
      injection he with h1 he
      injection he with h2 he
      injection he with h3 he
      injection he with h4 _
      have hs := hc.2
      have b0 := byte_of h1 (by omega) (by omega)
      have b1 := byte_of h2 (by omega) (by omega)
      have b2 := byte_of h3 (by omega) (by omega)
      have b3 := byte_of h4 (by omega) (by omega)
      refine ⟨?_, fun h => by cases h⟩
      rw [hd]; unfold decodeN
      rw [if_neg (by omega), if_neg (by omega), if_neg (by omega), if_pos (by omega), if_pos (by omega)]
      congr 1; omega
  refine ⟨hall.1, fun he2 => ?_⟩
  unfold errD at he2
  rw [hall.1] at he2
  have := hall.2 he2.2
  have := he2.1
  simp only at this
  omega

theorem dec_test (l : List UInt8) (hne : l ≠ []) (h : ¬ errD l) : testK l (decodeL l).2 ∧ numK (decodeL l).2 l (decodeL l).2 = ((decodeL l).1 : Int) ∧ (decodeL l).2 ≤ 4 := by
  have hen := encode_decode l hne h
  unfold errD at h
  unfold testK
  have k0 := (l.getD 0 0).toNat_lt
  have k1 := (l.getD 1 0).toNat_lt
  have k2 := (l.getD 2 0).toNat_lt
  have k3 := (l.getD 3 0).toNat_lt
  have hd := decodeL_N l
  have key : numK (decodeL l).2 l (decodeL l).2 = ((decodeL l).1 : Int) ∧ (decodeL l).2 ≤ 4 ∧ charP ((decodeL l).1 : Int) := by
    rcases decodeN_shape l.length (l.getD 0 0).toNat (l.getD 1 0).toNat (l.getD 2 0).toNat (l.getD 3 0).toNat with ⟨c, e⟩ | ⟨c1, c2, c3, cv, e⟩ | ⟨c1, c2, c3, c4, cv, cs, e⟩ | ⟨c1, c2, c3, c4, c5, cv, cw, e⟩ | e
    · rw [hd, e]; refine ⟨?_, (by show (1 : Nat) ≤ 4; decide), ?_⟩
      · show ((l.getD 0 0).toNat : Int) - offN 1 = _
        simp [offN]
      · unfold charP; simp only; omega
    · rw [hd, e]; refine ⟨?_, (by show (2 : Nat) ≤ 4; decide), ?_⟩
      · show (((l.getD 0 0).toNat : Int) - 192) * 64 + ((l.getD 1 0).toNat : Int) - 128 = _
        simp only; omega
      · unfold charP; simp only; omega
    · rw [hd, e]; refine ⟨?_, (by show (3 : Nat) ≤ 4; decide), ?_⟩
      · show ((((l.getD 0 0).toNat : Int) - 224) * 64 + ((l.getD 1 0).toNat : Int) - 128) * 64 + ((l.getD 2 0).toNat : Int) - 128 = _
        simp only; omega
      · unfold charP; simp only; omega
    · rw [hd, e]; refine ⟨?_, (by show (4 : Nat) ≤ 4; decide), ?_⟩
      · show (((((l.getD 0 0).toNat : Int) - 240) * 64 + ((l.getD 1 0).toNat : Int) - 128) * 64 + ((l.getD 2 0).toNat : Int) - 128) * 64 + ((l.getD 3 0).toNat : Int) - 128 = _
        simp only; omega
      · unfold charP; simp only; omega
    · exact absurd (by rw [hd, e]; exact ⟨rfl, rfl⟩) h
  refine ⟨⟨by rw [key.1]; exact key.2.2, by rw [key.1]; exact hen⟩, key.1, key.2.1⟩

theorem firstK_at (l : List UInt8) (hne : l ≠ []) (h : ¬ errD l) : ∀ (f k : Nat), 1 ≤ k → k ≤ (decodeL l).2 → (decodeL l).2 < k + f → firstK l f k = (((decodeL l).1 : Int), (decodeL l).2, true) := by
  obtain ⟨ht, hn, h4⟩ := dec_test l hne h
  have hle := decodeL_le l hne
  intro f
  induction f with
  | zero => intro k h1 h2 h3; omega
  | succ f ih =>
    intro k h1 h2 h3
    rw [firstK, if_neg (by omega)]
    by_cases hk : k = (decodeL l).2
    · rw [hk, if_pos ht, hn]
    · rw [if_neg (fun h5 => hk (by have := (test_dec l k (by omega) h5).1; rw [this])), ih (k + 1) (by omega) (by omega) (by omega)]
theorem firstK_err (l : List UInt8) (h : errD l) : ∀ (f k : Nat), firstK l f k = (65533, 1, false) := by
  intro f
  induction f with
  | zero => intro k; rfl
  | succ f ih =>
    intro k
    rw [firstK]
    split
    · rfl
    · rename_i hk
      rw [if_neg (fun h5 => (test_dec l k (by omega) h5).2 h), ih]
theorem firstM_eq (l : List UInt8) (hne : l ≠ []) : firstM l = if errD l then (65533, 1, false) else (((decodeL l).1 : Int), (decodeL l).2, true) := by
  unfold firstM
  by_cases h : errD l
  · rw [if_pos h, firstK_err l h]
  · rw [if_neg h]
    have := dec_test l hne h
    exact firstK_at l hne h 4 1 (Nat.le_refl _) (decodeL_width l) (by omega)

/-- What the document's Xml answers. -/
def badC (c : Int) : Bool := decide (c < 32) && c != 9 && c != 10 && c != 13 || c == 65534 || c == 65535
def xmlR : Nat → List UInt8 → Int
  | 0, _ => 0
  | _ + 1, [] => 0
  | f + 1, c :: l => if (firstM (c :: l)).2.2 = false ∨ badC (firstM (c :: l)).1 = true then 20 else xmlR f ((c :: l).drop (firstM (c :: l)).2.1)

theorem okR_bad (r : Nat) : okR r = !badC (r : Int) := by
  rw [Bool.eq_iff_iff]
  unfold okR badC
  simp only [Bool.or_eq_true, Bool.not_eq_true', Bool.or_eq_false_iff, beq_iff_eq, beq_eq_false_iff_ne, decide_eq_false_iff_not, Bool.and_eq_false_iff, bne_eq_false_iff_eq, ne_eq]
  omega

theorem xmlR_eq : ∀ (f : Nat) (l : List UInt8), l.length ≤ f → xmlR f l = if validD l = true ∧ xmlOk f l = true then 0 else 20
  | 0, l, h => by
    obtain rfl : l = [] := List.eq_nil_of_length_eq_zero (by omega)
    rfl
  | f + 1, [], h => rfl
  | f + 1, c :: l, h => by
    have hw := decodeL_width (c :: l)
    rw [xmlR, firstM_eq _ (by simp), xmlOk, validD_step _ (by simp)]
    by_cases he : errD (c :: l)
    · have he' := he
      unfold errD at he'
      rw [if_pos he, if_pos (Or.inl rfl), if_pos he', if_neg (by rintro ⟨h, _⟩; cases h)]
    · rw [if_neg he]
      have he' := he
      unfold errD at he'
      rw [if_neg he']
      dsimp only
      cases hb : badC ((decodeL (c :: l)).1 : Int) with
      | true =>
        rw [if_pos (Or.inr rfl), if_neg]
        rintro ⟨_, h2⟩
        rw [okR_bad, hb] at h2
        cases h2
      | false =>
        rw [if_neg (by rintro (h | h) <;> cases h), xmlR_eq f _ (by rw [List.length_drop]; simp at h ⊢; omega), okR_bad, hb]
        rfl
theorem xmlR_F (l : List UInt8) : xmlR l.length l = xmlF l := xmlR_eq _ _ (Nat.le_refl _)
end Go.Proofs.YtfkiomjplpbmiaaGreatDoor

