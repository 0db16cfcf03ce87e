/- The document's cell, in plain words. -/
import Derived.Test.YtmicenegjfnbmaaGreatDoorRx
import Derived.Test.YtmicenegjfnbmaaGreatDoorRs
namespace Go.Proofs.YtmicenegjfnbmaaGreatDoor
open Go.RowKit Go.Lib

theorem tw_all (p : UInt8 → Bool) : ∀ (l : List UInt8) (m : Nat), m < (l.takeWhile p).length → ∃ h' : m < l.length, p l[m] = true
  | [], m, h => absurd h (Nat.not_lt_zero _)
  | b :: l, m, h => by
    rw [List.takeWhile_cons] at h
    cases hb : p b with
    | false => rw [hb] at h; simp at h
    | true =>
      rw [hb] at h
      cases m with
      | zero => exact ⟨by simp, hb⟩
      | succ m =>
        simp only [if_true, List.length_cons] at h
        obtain ⟨h', hp⟩ := tw_all p l m (by omega)
        exact ⟨by simp; omega, hp⟩
theorem tw_end (p : UInt8 → Bool) : ∀ (l : List UInt8) (h : (l.takeWhile p).length < l.length), p (l[(l.takeWhile p).length]'h) = false
  | [], h => absurd h (Nat.not_lt_zero _)
  | b :: l, h => by
    cases hb : p b with
    | false => simp [hb]
    | true =>
      have h' : (l.takeWhile p).length < l.length := by
        rw [List.takeWhile_cons, hb] at h
        simp only [if_true, List.length_cons] at h
        omega
      have ih := tw_end p l h'
      simp only [List.takeWhile_cons, hb, if_true, List.length_cons, List.getElem_cons_succ]
      exact ih

theorem ends_of (p : UInt8 → Bool) (s : ByteArray) (i : Nat) (hi : i ≤ s.size) : EndsAt p s i (i + ((s.data.toList.drop i).takeWhile p).length) := by
  have hl : (s.data.toList.drop i).length = s.size - i := by rw [List.length_drop]; rfl
  have hle := takeWhile_le p (s.data.toList.drop i)
  refine ⟨by omega, by omega, fun j h h1 h2 => ?_, fun h => ?_⟩
  · obtain ⟨h', hp⟩ := tw_all p (s.data.toList.drop i) (j - i) (by omega)
    rw [List.getElem_drop] at hp
    have : i + (j - i) = j := by omega
    simp only [this] at hp
    exact hp
  · have hp := tw_end p (s.data.toList.drop i) (by omega)
    rw [List.getElem_drop] at hp
    exact hp
theorem dollar_of (s : ByteArray) (k : Nat) : DollarAt s k ((s.data.toList.drop k).head? == some 36) := by
  have hh : (s.data.toList.drop k).head? = s.data.toList[k]? := by rw [List.head?_drop]
  rw [hh]
  by_cases h : k < s.size
  · have h' : k < s.data.toList.length := h
    rw [List.getElem?_eq_getElem h', beq_byte]
    refine ⟨fun e => ⟨h, ?_⟩, fun e _ => ?_⟩
    · have := beq_iff_eq.1 e
      exact this
    · exact beq_eq_false_iff_ne.1 e
  · have h' : s.data.toList.length ≤ k := by show s.size ≤ k; omega
    rw [List.getElem?_eq_none h']
    exact ⟨fun e => (by cases e), fun _ hk => absurd hk h⟩
theorem cutD_drop (l : List UInt8) : cutD l = l.drop (if (l.head? == some 36) = true then 1 else 0) := by
  unfold cutD
  split
  · rw [List.drop_one]
  · rfl

theorem refCell_any (s : ByteArray) (hs : s.size ≤ 4294967280) : ∃ (c r : Int) (ac ar : Bool),
    (∀ w, Calls Tryz.prog 45 #[.string s] w (Q (.tuple #[refV ⟨#[]⟩ c r ac ar, .bool ((cellF s.data.toList).1 != 40), .bool ((cellF s.data.toList).1 == 0)]) w)) ∧
    ((cellF s.data.toList).1 = 0 → (c, r, ac, ar) = (cellF s.data.toList).2) := by
  obtain ⟨n0, hn0⟩ : ∃ n0, n0 = if (s.data.toList.head? == some 36) = true then 1 else 0 := ⟨_, rfl⟩
  have hsz : s.data.toList.length = s.size := rfl
  have hn0s : n0 ≤ s.size := by
    rw [hn0]
    cases hl : s.data.toList with
    | nil => simp
    | cons b l =>
      rw [hl] at hsz
      simp only [List.length_cons] at hsz
      split <;> omega
  have hc0 : cutD s.data.toList = s.data.toList.drop n0 := by rw [cutD_drop, ← hn0]
  obtain ⟨a1, ha1⟩ : ∃ a1, a1 = n0 + ((s.data.toList.drop n0).takeWhile Pl.capital).length := ⟨_, rfl⟩
  have hE1 := ends_of Pl.capital s n0 hn0s
  rw [← ha1] at hE1
  have hdw : (s.data.toList.drop n0).dropWhile Pl.capital = s.data.toList.drop a1 := by rw [← Pl.drop_takeWhile, List.drop_drop, ha1]
  obtain ⟨n2, hn2⟩ : ∃ n2, n2 = a1 + if ((s.data.toList.drop a1).head? == some 36) = true then 1 else 0 := ⟨_, rfl⟩
  have hc1 : cutD (s.data.toList.drop a1) = s.data.toList.drop n2 := by rw [cutD_drop, List.drop_drop, ← hn2]
  have hn2s : n2 ≤ s.size := by
    rw [hn2]
    have := hE1.2.1
    cases hl : s.data.toList.drop a1 with
    | nil => simp; omega
    | cons b l =>
      have hd : (s.data.toList.drop a1).length = s.size - a1 := by rw [List.length_drop]; rfl
      rw [hl] at hd
      simp only [List.length_cons] at hd
      split <;> omega
  obtain ⟨e, he⟩ : ∃ e, e = n2 + ((s.data.toList.drop n2).takeWhile Pl.digit).length := ⟨_, rfl⟩
  have hE2 := ends_of Pl.digit s n2 hn2s
  rw [← he] at hE2
  have hdw2 : (s.data.toList.drop n2).dropWhile Pl.digit = s.data.toList.drop e := by rw [← Pl.drop_takeWhile, List.drop_drop, he]
  have hF : cellF s.data.toList = cellG ((s.data.toList.drop n0).takeWhile Pl.capital) ((s.data.toList.drop n2).takeWhile Pl.digit) (s.data.toList.drop e) (s.data.toList.head? == some 36) ((s.data.toList.drop a1).head? == some 36) := by
    unfold cellF
    rw [hc0, hdw, hc1, hdw2]
  have hD0 := dollar_of s 0
  rw [List.drop_zero] at hD0
  have hD1 := dollar_of s a1
  have hlt : s.extract n0 a1 = ⟨((s.data.toList.drop n0).takeWhile Pl.capital).toArray⟩ := by
    apply ByteArray.ext
    apply Array.toList_inj.1
    rw [ByteArray.data_extract, Array.toList_extract]
    have e1 : a1 - n0 = ((s.data.toList.drop n0).takeWhile Pl.capital).length := by omega
    show (s.data.toList.extract n0 a1) = (s.data.toList.drop n0).takeWhile Pl.capital
    rw [List.extract_eq_take_drop, e1, Pl.take_takeWhile]
  have hal : ((s.data.toList.drop n0).takeWhile Pl.capital).length = a1 - n0 := by omega
  have hdl : ((s.data.toList.drop n2).takeWhile Pl.digit).length = e - n2 := by omega
  have hel : (s.data.toList.drop e).length = s.size - e := by rw [List.length_drop]; rfl
  have hdhead : ∀ h : n2 < s.size, n2 < e → ((s.data.toList.drop n2).takeWhile Pl.digit).head? = some (s[n2]'h) := by
    intro h hne
    obtain ⟨b, l, hbl⟩ : ∃ b l, s.data.toList.drop n2 = b :: l := ⟨_, _, List.drop_eq_getElem_cons (show n2 < s.data.toList.length from h)⟩
    have hb : b = s[n2]'h := by
      have := List.drop_eq_getElem_cons (show n2 < s.data.toList.length from h)
      rw [hbl] at this
      injection this with this _
    rw [hbl] at hdl ⊢
    rw [List.takeWhile_cons] at hdl ⊢
    cases hp : Pl.digit b with
    | false => rw [hp] at hdl; simp at hdl; omega
    | true => simp [hb]
  have hrow : e - n2 ≤ 7 → rowAt (s.data.toList.drop n2) (e - n2) = (num ((s.data.toList.drop n2).takeWhile Pl.digit) : Int) := by
    intro h7
    unfold rowAt
    rw [← hdl, Pl.take_takeWhile, List.take_of_length_le (by omega)]
  generalize hlts : (s.data.toList.drop n0).takeWhile Pl.capital = lt at *
  generalize hdgs : (s.data.toList.drop n2).takeWhile Pl.digit = dg at *
  generalize hac : (s.data.toList.head? == some 36) = ac at *
  generalize har : ((s.data.toList.drop a1).head? == some 36) = ar at *
  obtain ⟨bad, hbad⟩ : ∃ bad, bad = (lt.isEmpty || decide (3 < lt.length) || dg.isEmpty || decide (7 < dg.length) || (dg.head? == some 48) || !(s.data.toList.drop e).isEmpty) := ⟨_, rfl⟩
  have he1 := hE2.1
  have he2 := hE2.2.1
  have ha2 := hE1.1
  have empty_iff : ∀ l : List UInt8, l.isEmpty = decide (l.length = 0) := by
    intro l; cases l <;> simp
  have hBad : BadIs s n0 a1 n2 e bad := by
    rw [empty_iff lt, empty_iff dg, empty_iff (s.data.toList.drop e), hal, hdl, hel] at hbad
    refine ⟨fun h => ?_, fun h => ?_, fun h => ?_, fun h => ?_, fun h h48 => ?_, fun h => ?_, fun h1 h2 h3 h4 h5 h6 => ?_⟩
    · rw [hbad, show decide (a1 - n0 = 0) = true by rw [decide_eq_true_eq]; omega]; rfl
    · rw [hbad, show decide (3 < a1 - n0) = true by rw [decide_eq_true_eq]; omega]; simp
    · rw [hbad, show decide (e - n2 = 0) = true by rw [decide_eq_true_eq]; omega]; simp
    · rw [hbad, show decide (7 < e - n2) = true by rw [decide_eq_true_eq]; omega]; simp
    · by_cases hne : n2 < e
      · have hb : s[n2]'h = 48 := UInt8.toNat_inj.1 h48
        rw [hbad, hdhead h hne, hb]; simp
      · rw [hbad, show decide (e - n2 = 0) = true by rw [decide_eq_true_eq]; omega]; simp
    · rw [hbad, show decide (s.size - e = 0) = false by rw [decide_eq_false_iff_not]; omega]; simp
    · have h48 : (dg.head? == some 48) = false := by
        have h := h5 (by omega)
        rw [hdhead (by omega) h3, beq_byte, beq_eq_false_iff_ne]
        exact h
      rw [hbad, h48, show decide (a1 - n0 = 0) = false by rw [decide_eq_false_iff_not]; omega, show decide (3 < a1 - n0) = false by rw [decide_eq_false_iff_not]; omega, show decide (e - n2 = 0) = false by rw [decide_eq_false_iff_not]; omega,
        show decide (7 < e - n2) = false by rw [decide_eq_false_iff_not]; omega, show decide (s.size - e = 0) = true by rw [decide_eq_true_eq]; omega]
      rfl
  have hC5 := fun w => refCol_any ⟨lt.toArray⟩ w
  have hcore := fun w => refCell_core s w hs ac ar n0 a1 n2 e hn0 (Lib.hid hD0) (Lib.hid hE1) hn2 (Lib.hid hD1) (Lib.hid hE2) ⟨lt.toArray⟩ (Lib.hid hlt.symm) bad (Lib.hid hBad) (Pl.col lt).1 (Pl.col lt).2 (Lib.hid hC5) _ (Lib.hid rfl)
  rw [hF]
  unfold cellRV at hcore
  unfold cellG
  rw [← hbad]
  cases hb : bad with
  | true =>
    rw [hb] at hcore
    exact ⟨0, 0, false, false, hcore, fun h => (by cases h)⟩
  | false =>
    rw [hb] at hcore
    have h7 : e - n2 ≤ 7 := by
      rcases Nat.lt_or_ge 7 (e - n2) with h | h
      · have := hBad.2.2.2.1 (by omega)
        rw [hb] at this; cases this
      · exact h
    rw [hrow h7] at hcore
    refine ⟨(Pl.col lt).1, num dg, ac, ar, ?_, ?_⟩
    · cases hc : (Pl.col lt).2 with
      | false => rw [hc] at hcore; exact hcore
      | true =>
        rw [hc] at hcore
        by_cases h512 : 512 < num dg
        · have e1 : decide ((num dg : Int) ≤ 512) = false := by rw [decide_eq_false_iff_not]; omega
          have e2 : decide (512 < num dg) = true := by rw [decide_eq_true_eq]; exact h512
          rw [e1] at hcore
          rw [e2]
          exact hcore
        · have e1 : decide ((num dg : Int) ≤ 512) = true := by rw [decide_eq_true_eq]; omega
          have e2 : decide (512 < num dg) = false := by rw [decide_eq_false_iff_not]; exact h512
          rw [e1] at hcore
          rw [e2]
          exact hcore
    · intro h
      by_cases hc : (!(Pl.col lt).2 || decide (512 < num dg)) = true
      · rw [if_neg (by decide), if_pos hc] at h; cases h
      · rw [if_neg (by decide), if_neg hc]
end Go.Proofs.YtmicenegjfnbmaaGreatDoor
