/- Contracts of package cells, eighth part: the sheet ahead of a reference. -/
import Derived.Test.YtegjainidiaeaaaGreatDoorCg
namespace Go.Proofs.YtegjainidiaeaaaGreatDoor
open Go.RowKit Go.Lib

theorem bytes_eq (s : ByteArray) : (⟨s.data.toList.toArray⟩ : ByteArray) = s := by cases s; simp

theorem cut_no (s : ByteArray) (c : UInt8) (hs : s.size < 4294967281) (h : s.data.toList.contains c = false) (w : World) (hg : Glob w) :
    Calls Tryz.prog 98 #[.string s, .string ⟨#[c]⟩] w (Q (.tuple #[.string s, .string ⟨#[]⟩, .bool false]) w) := by
  have h0 := cut_one s c w hs hg
  unfold Pl.cut1 at h0
  rw [(Pl.takeWhile_all h).1, (Pl.takeWhile_all h).2, h, bytes_eq] at h0
  exact h0.mono fun _ _ ⟨he, n, hn⟩ => ⟨he, by rw [hn]; exact below_drewN (Below.refl _ _) n⟩

theorem dropWhile_nil (p : UInt8 → Bool) : ∀ l : List UInt8, l.dropWhile p = [] → ∀ x ∈ l, p x = true
  | [], _, _, hx => by simp at hx
  | b :: l, h, x, hx => by
    rw [List.dropWhile_cons] at h
    split at h
    case isTrue hb =>
      rcases List.mem_cons.1 hx with rfl | hx
      · exact hb
      · exact dropWhile_nil p l h x hx
    case isFalse hb => cases h

theorem cut_parts (l : List UInt8) (c : UInt8) (h : l.contains c = true) : (l.takeWhile (· != c)).length + (l.dropWhile (· != c)).tail.length + 1 = l.length := by
  have h1 := congrArg List.length (List.takeWhile_append_dropWhile (p := (· != c)) (l := l))
  rw [List.length_append] at h1
  have h2 : l.dropWhile (· != c) ≠ [] := by
    intro e
    have h3 : ∀ x ∈ l, (x != c) = true := dropWhile_nil _ l e
    have h4 := h3 c (by simpa using h)
    simp at h4
  have h5 : 0 < (l.dropWhile (· != c)).length := List.length_pos_iff.2 h2
  rw [List.length_tail]; omega

/-- strings.Cut where the byte is there: what is ahead of it, what is behind it. -/
theorem cut_yes (s : ByteArray) (c : UInt8) (hs : s.size < 4294967281) (h : s.data.toList.contains c = true) :
    ∃ a b : ByteArray, a.data.toList = s.data.toList.takeWhile (· != c) ∧ b.data.toList = (s.data.toList.dropWhile (· != c)).tail ∧ a.size + b.size + 1 = s.size ∧
      ∀ w, Glob w → Calls Tryz.prog 98 #[.string s, .string ⟨#[c]⟩] w (Q (.tuple #[.string a, .string b, .bool true]) w) := by
  refine ⟨⟨(s.data.toList.takeWhile (· != c)).toArray⟩, ⟨(s.data.toList.dropWhile (· != c)).tail.toArray⟩, by simp, by simp, ?_, fun w hg => ?_⟩
  · have := cut_parts s.data.toList c h
    show (s.data.toList.takeWhile (· != c)).toArray.size + (s.data.toList.dropWhile (· != c)).tail.toArray.size + 1 = s.data.toList.length
    simpa using this
  · have h0 := cut_one s c w hs hg
    unfold Pl.cut1 at h0
    rw [h] at h0
    exact h0.mono fun _ _ ⟨he, n, hn⟩ => ⟨he, by rw [hn]; exact below_drewN (Below.refl _ _) n⟩

/-- What stands between two marks, with two for one: its text, and what is behind; none: it does not end. -/
def quotedL (acc : List UInt8) : List UInt8 → Option (List UInt8 × List UInt8)
  | [] => none
  | c :: r => if c = 39 then (if r.head? = some 39 then quotedL (acc ++ [39]) r.tail else some (acc, r)) else quotedL (acc ++ [c]) r
termination_by l => l.length
decreasing_by
  · cases r <;> simp; omega
  · simp

theorem quotedL_no : ∀ (l acc : List UInt8), l.contains 39 = false → quotedL acc l = none
  | [], acc, _ => by rw [quotedL]
  | c :: r, acc, h => by
    simp only [List.contains_cons, Bool.or_eq_false_iff, beq_eq_false_iff_ne] at h
    rw [quotedL, if_neg (fun e => h.1 e.symm)]
    exact quotedL_no r _ h.2

theorem quotedL_yes : ∀ (l acc : List UInt8), l.contains 39 = true → quotedL acc l =
    if (l.dropWhile (· != 39)).tail.head? = some 39 then quotedL (acc ++ l.takeWhile (· != 39) ++ [39]) (l.dropWhile (· != 39)).tail.tail else some (acc ++ l.takeWhile (· != 39), (l.dropWhile (· != 39)).tail)
  | [], acc, h => by simp at h
  | c :: r, acc, h => by
    by_cases hc : c = 39
    · subst hc
      rw [quotedL, if_pos rfl]; simp
    · have hr : r.contains 39 = true := by
        simp only [List.contains_cons, Bool.or_eq_true, beq_iff_eq] at h
        exact h.resolve_left (fun e => hc e.symm)
      have hb : (c != 39) = true := by simp [hc]
      rw [quotedL, if_neg hc, quotedL_yes r _ hr]
      simp [hb]

def quoted (l : List UInt8) : Option (List UInt8 × List UInt8) := quotedL [] l

/-- The sheet with which a text begins, what is left, and whether it is one. -/
def sheetF (l : List UInt8) : List UInt8 × List UInt8 × Bool :=
  if l.head? = some 39 then
    match quoted l.tail with
    | none => ([], [], false)
    | some (n, r) => (n, if r.head? = some 33 then r.tail else r, (r.head? == some 33) && Pl.sheetName n && !Pl.wordly n)
  else if l.contains 33 then (l.takeWhile (· != 33), (l.dropWhile (· != 33)).tail, Pl.wordly (l.takeWhile (· != 33)) && Pl.sheetName (l.takeWhile (· != 33)))
  else ([], l, true)

/-- A triple of two texts and a bool, as Go hands it back. -/
def V3 (x : List UInt8 × List UInt8 × Bool) : Value := .tuple #[.string ⟨x.1.toArray⟩, .string ⟨x.2.1.toArray⟩, .bool x.2.2]

set_option maxHeartbeats 2000000 in
theorem sheet_plain (s : ByteArray) (w : World) (hs : s.size ≤ 4294967280) (hg : Glob w) (hq : s.data.toList.head? ≠ some 39) :
    Calls Tryz.prog 70 #[.string s] w (Q (V3 (sheetF s.data.toList)) w) := by
  have hf : sheetF s.data.toList = if s.data.toList.contains 33 then (s.data.toList.takeWhile (· != 33), (s.data.toList.dropWhile (· != 33)).tail, Pl.wordly (s.data.toList.takeWhile (· != 33)) && Pl.sheetName (s.data.toList.takeWhile (· != 33))) else ([], s.data.toList, true) := by
    unfold sheetF; rw [if_neg hq]
  have c1 := prefix_one s 39
  have hq' : (s.data.toList.head? == some 39) = false := by simpa using hq
  rw [hq'] at c1
  have C1 := Lib.hid c1
  clear c1 hq hq'
  by_cases h : s.data.toList.contains 33 = true
  · rw [if_pos h] at hf
    obtain ⟨a, b, ha, hb, hab, hcut⟩ := cut_yes s 33 (by omega) h
    rw [← ha, ← hb] at hf
    rw [hf]
    unfold V3
    dsimp only
    rw [bytes_eq, bytes_eq]
    have C2 := Lib.hid hcut
    have C3 := Lib.hid (fun w => wordly_any a w (by omega))
    have C4 := Lib.hid (fun w => sheetName_any a w)
    clear hf ha hb hab hcut h hs
    generalize Pl.wordly a.data.toList = b1 at *
    generalize Pl.sheetName a.data.toList = b2 at *
    go_enter Tryz.func70, Tryz.ntmps70
    go_wp2_with fail
    go_step3
    go_wp2_with fail
    refine (C1.out _).mono ?_
    rintro e w1 ⟨rfl, rfl⟩
    go_wp2_with fail
    refine (C2.out _ hg).mono ?_
    rintro e w1 ⟨rfl, hb1⟩
    go_wp2_with fail
    refine (C3.out _).mono ?_
    rintro e w2 ⟨rfl, hb2⟩
    have hb3 : Below w.heap.size w w2 := hb1.trans (hb2.mono hb1.size)
    clear hb1 hb2
    cases b1 with
    | false =>
      go_wp2_with fail
      go_ret3
      exact ⟨rfl, hb3⟩
    | true =>
      go_wp2_with fail
      refine (C4.out _).mono ?_
      rintro e w4 ⟨rfl, hb4⟩
      have hb5 : Below w.heap.size w w4 := hb3.trans (hb4.mono hb3.size)
      clear hb3 hb4
      go_wp2_with fail
      go_ret3
      exact ⟨rfl, hb5⟩
  · have h' : s.data.toList.contains 33 = false := by simpa using h
    rw [if_neg h] at hf
    rw [hf]
    unfold V3
    dsimp only
    rw [bytes_eq]
    have C2 := Lib.hid (fun w hg => cut_no s 33 (by omega) h' w hg)
    clear hf h h' hs
    go_enter Tryz.func70, Tryz.ntmps70
    go_wp2_with fail
    go_step3
    go_wp2_with fail
    refine (C1.out _).mono ?_
    rintro e w1 ⟨rfl, rfl⟩
    go_wp2_with fail
    refine (C2.out _ hg).mono ?_
    rintro e w1 ⟨rfl, hb1⟩
    go_wp2_with fail
    go_ret3
    exact ⟨rfl, hb1⟩

/-- A text without its first byte, as Go cuts it. -/
theorem tail_cut (s : ByteArray) : (s.extract 1 s.size).data.toList = s.data.toList.tail := by rw [Lib.extract_to_end, List.drop_one]

set_option maxHeartbeats 4000000 in
theorem sheet_quoted (s : ByteArray) (w : World) (hs : s.size ≤ 4294967280) (hg : Glob w) (hq : s.data.toList.head? = some 39) :
    Calls Tryz.prog 70 #[.string s] w (Q (V3 (sheetF s.data.toList)) w) := by
  have hf : sheetF s.data.toList = match quoted s.data.toList.tail with
    | none => ([], [], false)
    | some (n, r) => (n, if r.head? = some 33 then r.tail else r, (r.head? == some 33) && Pl.sheetName n && !Pl.wordly n) := by
    unfold sheetF; rw [if_pos hq]
  have c1 := prefix_one s 39
  have hq' : (s.data.toList.head? == some 39) = true := by simpa using hq
  rw [hq'] at c1
  have C1 := Lib.hid c1
  have hs1 : 1 ≤ s.size := by
    have : s.data.toList ≠ [] := by intro e; rw [e] at hq; cases hq
    have := List.length_pos_iff.2 this
    exact this
  clear c1 hq hq'
  have htc := tail_cut s
  have hts : (s.extract 1 s.size).size = s.size - 1 := by simp
  have HF := Lib.hid hf
  generalize sheetF s.data.toList = R at HF ⊢
  clear hf
  go_enter Tryz.func70, Tryz.ntmps70
  go_wp2_with fail
  go_step3
  go_wp2_with fail
  refine (C1.out _).mono ?_
  rintro e w1 ⟨rfl, rfl⟩
  go_wp2_with fail
  go_quiet (fail)
  go_wp2_with fail
  go_step3
  go_wp2_with fail
  rename_i nq
  go_loopg [8, 9] s.size (fun gf nm rs wx => ∃ n r : ByteArray, nm = .string n ∧ rs = .string r ∧ n.size + r.size ≤ s.size ∧ r.size < gf ∧ Below w.heap.size w wx ∧ Hid (quotedL n.data.toList r.data.toList = quoted s.data.toList.tail))
  case atStart => exact ⟨⟨#[]⟩, s.extract 1 s.size, rfl, rfl, by rw [hts]; show 0 + _ ≤ _; omega, by rw [hts]; omega, below_drewN (Below.refl _ _) _, by show quotedL [] _ = _; rw [htc]; rfl⟩
  case round =>
    obtain ⟨n, r, rfl, rfl, hsz, hfu, hbw, HQ⟩ := hrel
    have hgr := hg.below hbw
    obtain ⟨g', rfl⟩ : ∃ g', gk = g' + 1 := ⟨gk - 1, by omega⟩
    by_cases h : r.data.toList.contains 39 = true
    · obtain ⟨a, b, ha, hb, hab, hcut⟩ := cut_yes r 39 (by omega) h
      have hq2 := quotedL_yes _ n.data.toList h
      rw [← ha, ← hb, HQ.out] at hq2
      have HQ2 := Lib.hid hq2
      have C2 := Lib.hid hcut
      clear hcut h ha hb HQ hq2
      cases hhd : (b.data.toList.head? == some 39) with
      | true =>
        have c3 := prefix_one b 39
        rw [hhd] at c3
        have C3 := Lib.hid c3
        have hh : b.data.toList.head? = some 39 := by simpa using hhd
        have hb1 : 1 ≤ b.size := by
          have : b.data.toList ≠ [] := by intro e; rw [e] at hh; cases hh
          exact List.length_pos_iff.2 this
        have hbe : (b.extract 1 b.size).size = b.size - 1 := by simp
        have HB := Lib.hid hbe
        have htb := tail_cut b
        have HE : Hid (quotedL (n ++ a ++ ⟨#[39]⟩).data.toList (b.extract 1 b.size).data.toList = quoted s.data.toList.tail) := by
          show _ = _
          rw [htb, HQ2.out, if_pos hh]; simp
        clear c3 hhd hh hbe htb HQ2
        have h39 : (⟨#[39]⟩ : ByteArray).size ≤ 1 := Nat.le_refl 1
        go_wp2_with fail
        refine (C2.out _ hgr).mono ?_
        rintro e w1 ⟨rfl, hb2⟩
        have hb3 : Below w.heap.size w w1 := hbw.trans (hb2.mono hbw.size)
        clear hb2 hbw
        go_wp2_with fail
        refine (C3.out _).mono ?_
        rintro e w2 ⟨rfl, rfl⟩
        go_wp2_with fail
        go_roundg g'
        case measure => omega
        case rel => exact ⟨n ++ a ++ ⟨#[39]⟩, b.extract 1 b.size, rfl, rfl, by rw [HB.out]; simp; omega, by rw [HB.out]; omega, hb3, HE⟩
      | false =>
        have c3 := prefix_one b 39
        rw [hhd] at c3
        have C3 := Lib.hid c3
        have hh : ¬ b.data.toList.head? = some 39 := by simpa using hhd
        have hsn : (n ++ a).size ≤ s.size := by rw [ByteArray.size_append]; omega
        have HE : Hid (R = ((n ++ a).data.toList, if b.data.toList.head? = some 33 then b.data.toList.tail else b.data.toList, (b.data.toList.head? == some 33) && Pl.sheetName (n ++ a).data.toList && !Pl.wordly (n ++ a).data.toList)) := by
          show _ = _
          rw [HF.out, HQ2.out, if_neg hh]
          simp
        have C4 := Lib.hid (cutPrefix_one b 33)
        have C5 := Lib.hid (sheetName_any (n ++ a))
        have C6 := Lib.hid (fun w => wordly_any (n ++ a) w (by omega))
        clear c3 hhd hh HQ2 HF hs1 htc hts
        obtain ⟨m, hm⟩ : ∃ m, n ++ a = m := ⟨_, rfl⟩
        rw [hm] at HE C5 C6
        obtain ⟨bt, hbt⟩ : ∃ bt : ByteArray, (⟨(if b.data.toList.head? == some 33 then b.data.toList.tail else b.data.toList).toArray⟩ : ByteArray) = bt := ⟨_, rfl⟩
        have hbt2 : (if b.data.toList.head? = some 33 then b.data.toList.tail else b.data.toList) = bt.data.toList := by
          rw [← hbt]
          by_cases h : b.data.toList.head? = some 33 <;> simp [h]
        rw [hbt] at C4
        rw [hbt2] at HE
        clear hbt hbt2
        have HV : Hid (V3 R = .tuple #[.string m, .string bt, .bool ((b.data.toList.head? == some 33) && Pl.sheetName m.data.toList && !Pl.wordly m.data.toList)]) := by
          show _ = _
          rw [HE.out]; unfold V3; dsimp only
        clear HE
        generalize (b.data.toList.head? == some 33) = b1 at *
        generalize Pl.sheetName m.data.toList = b2 at *
        generalize Pl.wordly m.data.toList = b3 at *
        have HM := Lib.hid hm
        clear hm
        go_wp2_with fail
        refine (C2.out _ hgr).mono ?_
        rintro e w1 ⟨rfl, hb2⟩
        have hb3 : Below w.heap.size w w1 := hbw.trans (hb2.mono hbw.size)
        clear hb2 hbw
        go_wp2_with fail
        refine (C3.out _).mono ?_
        rintro e w2 ⟨rfl, rfl⟩
        go_wp2_with fail
        refine (C4.out _).mono ?_
        rintro e w2 ⟨rfl, rfl⟩
        rw [HM.out]
        cases b1 with
        | false =>
          go_wp2_with fail
          try rw [Exit.noGoto_ret]
          go_ret3
          exact ⟨by rw [HV.out]; rfl, hb3⟩
        | true =>
          go_wp2_with fail
          refine (C5.out _).mono ?_
          rintro e w2 ⟨rfl, hb4⟩
          have hb5 : Below w.heap.size w w2 := hb3.trans (hb4.mono hb3.size)
          clear hb3 hb4
          cases b2 with
          | false =>
            go_wp2_with fail
            try rw [Exit.noGoto_ret]
            go_ret3
            exact ⟨by rw [HV.out]; rfl, hb5⟩
          | true =>
            go_wp2_with fail
            refine (C6.out _).mono ?_
            rintro e w3 ⟨rfl, hb6⟩
            have hb7 : Below w.heap.size w w3 := hb5.trans (hb6.mono hb5.size)
            clear hb5 hb6
            go_wp2_with fail
            try rw [Exit.noGoto_ret]
            go_ret3
            exact ⟨by rw [HV.out]; rfl, hb7⟩
    · have h' : r.data.toList.contains 39 = false := by simpa using h
      have C2 := Lib.hid (fun w hg => cut_no r 39 (by omega) h' w hg)
      have hR : R = ([], [], false) := by rw [HF.out, ← HQ.out, quotedL_no _ _ h']
      have HR := Lib.hid hR
      clear h h' hR HF HQ
      go_wp2_with fail
      refine (C2.out _ hgr).mono ?_
      rintro e w1 ⟨rfl, hb1⟩
      go_wp2_with fail
      try rw [Exit.noGoto_ret]
      go_ret3
      exact ⟨by rw [HR.out]; rfl, hbw.trans (hb1.mono hbw.size)⟩

theorem sheet_any (s : ByteArray) (w : World) (hs : s.size ≤ 4294967280) (hg : Glob w) :
    Calls Tryz.prog 70 #[.string s] w (Q (V3 (sheetF s.data.toList)) w) := by
  by_cases hq : s.data.toList.head? = some 39
  · exact sheet_quoted s w hs hg hq
  · exact sheet_plain s w hs hg hq
end Go.Proofs.YtegjainidiaeaaaGreatDoor
