/- The document's sheet at every text; Parse. -/
import Derived.Test.YtmicenegjfnbmaaGreatDoorRw
namespace Go.Proofs.YtmicenegjfnbmaaGreatDoor
open Go.RowKit Go.Lib

theorem drop_cons_tail (p : UInt8 → Bool) (l : List UInt8) : (l.dropWhile p).tail = l.drop ((l.takeWhile p).length + 1) := by
  rw [← Pl.drop_takeWhile, List.tail_drop]
theorem tw_contains (l : List UInt8) (c : UInt8) : l.contains c = decide ((l.takeWhile (· != c)).length < l.length) := by
  induction l with
  | nil => rfl
  | cons b l ih =>
    by_cases h : b = c
    · subst h; simp
    · have hb : (b != c) = true := by simp [h]
      have hc : (c == b) = false := by simp; exact fun e => h e.symm
      rw [List.contains_cons, hc, Bool.false_or, ih, List.takeWhile_cons, hb]
      simp

theorem refSheet_any (s : ByteArray) (hs : s.size ≤ 4294967280) : ∃ nm rest : ByteArray,
    (∀ w, Calls Tryz.prog 44 #[.string s] w (Q (.tuple #[.string nm, .string rest, .bool (sheetF s.data.toList).2.2]) w)) ∧
    ((sheetF s.data.toList).2.2 = true → nm = ⟨(sheetF s.data.toList).1.toArray⟩ ∧ rest = ⟨(sheetF s.data.toList).2.1.toArray⟩) ∧ rest.size ≤ s.size := by
  have hl : s.data.toList.length = s.size := rfl
  by_cases hq : s.data.toList.head? = some 39
  · have h0 : 0 < s.size := by
      cases hx : s.data.toList with
      | nil => rw [hx] at hq; cases hq
      | cons b l => rw [← hl, hx]; simp
    have h39 : (s[0]'h0).toNat = 39 := by
      rw [head_get s h0] at hq
      injection hq with hq
      rw [hq]; rfl
    have hF : sheetF s.data.toList = match quotedL [] (s.data.toList.drop 1) with
        | none => ([], [], false)
        | some (n, r) => (n, if r.head? = some 33 then r.tail else r, (r.head? == some 33) && Pl.sheetName n && !Pl.wordly n) := by
      unfold sheetF quoted
      rw [if_pos hq, List.drop_one]
      rfl
    have hcore := fun w => refSheet_quoted s w hs h0 h39 _ (Lib.hid rfl)
    have hle := sheetF_le s.data.toList
    rw [hF] at hle ⊢
    cases hqq : quotedL [] (s.data.toList.drop 1) with
    | none =>
      rw [hqq] at hcore
      exact ⟨⟨#[]⟩, ⟨#[]⟩, hcore, fun h => (by cases h), Nat.zero_le _⟩
    | some p =>
      obtain ⟨n, r⟩ := p
      rw [hqq, sheetRV_some] at hcore
      rw [hqq] at hle
      have hle : (if r.head? = some 33 then r.tail else r).length ≤ s.data.toList.length := hle
      show ∃ nm rest : ByteArray, (∀ w, Calls _ _ _ w (Q (.tuple #[.string nm, .string rest, .bool ((r.head? == some 33) && Pl.sheetName n && !Pl.wordly n)]) w)) ∧ (((r.head? == some 33) && Pl.sheetName n && !Pl.wordly n) = true → nm = ⟨n.toArray⟩ ∧ rest = ⟨(if r.head? = some 33 then r.tail else r).toArray⟩) ∧ rest.size ≤ s.size
      cases hb : ((r.head? == some 33) && Pl.sheetName n && !Pl.wordly n) with
      | false =>
        rw [hb] at hcore
        exact ⟨⟨#[]⟩, ⟨#[]⟩, hcore, fun h => (by cases h), Nat.zero_le _⟩
      | true =>
        rw [hb] at hcore
        have h33 : r.head? = some 33 := by
          simp only [Bool.and_eq_true] at hb
          simpa using hb.1.1
        rw [if_pos h33] at hle ⊢
        exact ⟨⟨n.toArray⟩, ⟨r.tail.toArray⟩, hcore, fun _ => ⟨rfl, rfl⟩, by rw [size_mk]; exact hle⟩
  · obtain ⟨a1, ha1⟩ : ∃ a1, a1 = (s.data.toList.takeWhile (· != 33)).length := ⟨_, rfl⟩
    have hE := ends_of (· != 33) s 0 (Nat.zero_le _)
    rw [List.drop_zero, Nat.zero_add, ← ha1] at hE
    have hx : s.extract 0 a1 = ⟨(s.data.toList.takeWhile (· != 33)).toArray⟩ := by
      apply ByteArray.ext
      apply Array.toList_inj.1
      rw [ByteArray.data_extract, Array.toList_extract]
      show (s.data.toList.extract 0 a1) = s.data.toList.takeWhile (· != 33)
      rw [List.extract_eq_take_drop, List.drop_zero, Nat.sub_zero, ha1, Pl.take_takeWhile]
    have hsx : (s.extract 0 a1).size ≤ 4294967280 := by rw [ByteArray.size_extract]; omega
    have C1 := fun w => refPlain_any (s.extract 0 a1) w hsx
    have C2 := fun w => refSheetName_any (s.extract 0 a1) w
    have D1 : ∀ w, Calls Tryz.prog 36 #[.string (s.extract 0 a1)] w fun e w' => e = .returned (.bool (Pl.wordly (s.extract 0 a1).data.toList)) ∧ ∃ m, w' = w.drewN m := fun w =>
      (PCellsPrint.quireref10_plain.calls _ (s.extract 0 a1) _ w (RefP.plain_eq (s.extract 0 a1) hsx)).mono fun _ _ ⟨he, h⟩ => ⟨he, h.out⟩
    have hcore := fun w => refSheet_bare s w hs (fun h e => hq (by rw [head_get s h]; congr 1; exact UInt8.toNat_inj.1 e)) a1 (Lib.hid hE) _ _ (Lib.hid C1) (Lib.hid D1) (Lib.hid C2) _ (Lib.hid rfl)
    have hF : sheetF s.data.toList = if s.data.toList.contains 33 then (s.data.toList.takeWhile (· != 33), (s.data.toList.dropWhile (· != 33)).tail, Pl.wordly (s.data.toList.takeWhile (· != 33)) && Pl.sheetName (s.data.toList.takeWhile (· != 33))) else ([], s.data.toList, true) := by
      unfold sheetF
      rw [if_neg hq]
    rw [hF, tw_contains, ← ha1, hl]
    by_cases hlt : a1 < s.size
    · rw [decide_eq_true hlt, if_pos rfl]
      have e1 : (s.extract 0 a1).data.toList = s.data.toList.takeWhile (· != 33) := by rw [hx]
      rw [if_pos hlt, e1] at hcore
      refine ⟨_, _, hcore, fun _ => ⟨hx, ?_⟩, by rw [ByteArray.size_extract]; omega⟩
      apply ByteArray.ext
      apply Array.toList_inj.1
      rw [Lib.extract_to_end, drop_cons_tail, ← ha1]
    · rw [decide_eq_false hlt, if_neg (by decide)]
      rw [if_neg hlt] at hcore
      exact ⟨_, _, hcore, fun _ => ⟨rfl, by rw [bytes_eq]⟩, Nat.le_refl _⟩

/-! ### Parse -/
def refParseRV (nm : ByteArray) (is wr th : Bool) (c r : Int) (ac ar : Bool) : Value :=
  if !is || !wr then .tuple #[refV ⟨#[]⟩ 0 0 false false, .int .i64 40] else if !th then .tuple #[refV ⟨#[]⟩ 0 0 false false, .int .i64 41] else .tuple #[refV nm c r ac ar, .int .i64 0]

set_option maxHeartbeats 4000000 in
theorem refParse_core (s nm rest : ByteArray) (is wr th : Bool) (cc cr : Int) (ca cb : Bool) (w : World)
    (C1 : Hid (∀ w, Calls Tryz.prog 44 #[.string s] w (Q (.tuple #[.string nm, .string rest, .bool is]) w)))
    (C2 : Hid (∀ w, Calls Tryz.prog 45 #[.string rest] w (Q (.tuple #[refV ⟨#[]⟩ cc cr ca cb, .bool wr, .bool th]) w))) :
    Calls Tryz.prog 22 #[.string s] w (Q (refParseRV nm is wr th cc cr ca cb) w) := by
  obtain ⟨R, hR⟩ : ∃ R, refParseRV nm is wr th cc cr ca cb = R := ⟨_, rfl⟩
  rw [hR]
  have HG := Lib.hid hR
  clear hR
  have R1 := Lib.hid (RefAt.new w ⟨#[]⟩ 0 0 false false)
  have HB := Lib.hid ((Below.refl w.heap.size w).alloc (Nat.le_refl _) (.cells #[.string ⟨#[]⟩, .int .i64 0, .int .i64 0, .bool false, .bool false] 23))
  go_enter Tryz.func22, Tryz.ntmps22
  go_wp2_with fail
  refine (C1.out _).mono ?_
  rintro e w1 ⟨rfl, hb⟩
  replace R1 := Lib.hid (R1.out.below hb)
  replace HB := Lib.hid (bt HB.out hb)
  clear hb C1
  go_wp2_with fail
  refine (C2.out _).mono ?_
  rintro e w2 ⟨rfl, hb⟩
  replace R1 := Lib.hid (R1.out.below hb)
  replace HB := Lib.hid (bt HB.out hb)
  clear hb C2
  obtain ⟨p0, p1, p2, p3, p4, pf, pl⟩ := R1.out
  by_cases hok : is = true ∧ wr = true ∧ th = true
  · obtain ⟨rfl, rfl, rfl⟩ := hok
    have HR : Hid (R = .tuple #[refV nm cc cr ca cb, .int .i64 0]) := by show _ = _; rw [← HG.out]; rfl
    clear HG
    go_wp2_with fail
    obtain ⟨t0, t1, t2, t3, t4, tf, tl⟩ := (R1.out.set5 nm cc cr ca cb).alloc (.cells #[.string nm, .int .i64 cc, .int .i64 cr, .bool ca, .bool cb] 23)
    rw [HR.out]
    exact bodyPost_ret (v := .tuple #[refV nm cc cr ca cb, .int .i64 0]) (by simp [results, Tryz.results22, go_sem, t0, t1, t2, t3, t4]) rfl ⟨rfl, (below_set5 HB.out (Nat.le_refl _) _ _ _ _ _).alloc (below_set5 HB.out (Nat.le_refl _) _ _ _ _ _).size _⟩
  · obtain ⟨er, her⟩ : ∃ er : Int, er = if !is || !wr then 40 else 41 := ⟨_, rfl⟩
    have HR : Hid (R = .tuple #[refV ⟨#[]⟩ 0 0 false false, .int .i64 er]) := by
      show _ = _; rw [← HG.out, her]; unfold refParseRV
      cases is <;> cases wr <;> cases th <;> simp_all
    clear HG
    cases is with
    | false =>
      have her' : er = 40 := her
      subst her'
      clear her
      go_wp2_with fail
      obtain ⟨t0, t1, t2, t3, t4, tf, tl⟩ := (R1.out.set5 ⟨#[]⟩ 0 0 false false).alloc (.cells #[.string ⟨#[]⟩, .int .i64 cc, .int .i64 cr, .bool ca, .bool cb] 23)
      rw [HR.out]
      exact bodyPost_ret (v := .tuple #[refV ⟨#[]⟩ 0 0 false false, .int .i64 40]) (by simp [results, Tryz.results22, go_sem, t0, t1, t2, t3, t4]) rfl ⟨rfl, (below_set5 HB.out (Nat.le_refl _) _ _ _ _ _).alloc (below_set5 HB.out (Nat.le_refl _) _ _ _ _ _).size _⟩
    | true =>
      cases wr with
      | false =>
        have her' : er = 40 := her
        subst her'
        clear her
        go_wp2_with fail
        obtain ⟨t0, t1, t2, t3, t4, tf, tl⟩ := (R1.out.set5 ⟨#[]⟩ 0 0 false false).alloc (.cells #[.string ⟨#[]⟩, .int .i64 cc, .int .i64 cr, .bool ca, .bool cb] 23)
        rw [HR.out]
        exact bodyPost_ret (v := .tuple #[refV ⟨#[]⟩ 0 0 false false, .int .i64 40]) (by simp [results, Tryz.results22, go_sem, t0, t1, t2, t3, t4]) rfl ⟨rfl, (below_set5 HB.out (Nat.le_refl _) _ _ _ _ _).alloc (below_set5 HB.out (Nat.le_refl _) _ _ _ _ _).size _⟩
      | true =>
        have hth : th = false := by
          cases th with
          | true => exact absurd ⟨rfl, rfl, rfl⟩ hok
          | false => rfl
        subst hth
        have her' : er = 41 := her
        subst her'
        clear her
        go_wp2_with fail
        obtain ⟨t0, t1, t2, t3, t4, tf, tl⟩ := (R1.out.set5 ⟨#[]⟩ 0 0 false false).alloc (.cells #[.string ⟨#[]⟩, .int .i64 cc, .int .i64 cr, .bool ca, .bool cb] 23)
        rw [HR.out]
        exact bodyPost_ret (v := .tuple #[refV ⟨#[]⟩ 0 0 false false, .int .i64 41]) (by simp [results, Tryz.results22, go_sem, t0, t1, t2, t3, t4]) rfl ⟨rfl, (below_set5 HB.out (Nat.le_refl _) _ _ _ _ _).alloc (below_set5 HB.out (Nat.le_refl _) _ _ _ _ _).size _⟩

theorem cellF_err (l : List UInt8) : (cellF l).1 = 0 ∨ (cellF l).1 = 40 ∨ (cellF l).1 = 41 := by
  unfold cellF cellG
  split
  · exact Or.inr (Or.inl rfl)
  · split
    · exact Or.inr (Or.inr rfl)
    · exact Or.inl rfl

theorem refParse_any (s : ByteArray) (w : World) (hs : s.size ≤ 4294967280) :
    Calls Tryz.prog 22 #[.string s] w (Q (parseV (parseF s.data.toList)) w) := by
  obtain ⟨nm, rest, h1, h2, h3⟩ := refSheet_any s hs
  obtain ⟨c, r, ac, ar, k1, k2⟩ := refCell_any rest (by omega)
  have h := refParse_core s nm rest _ _ _ c r ac ar w (Lib.hid h1) (Lib.hid k1)
  have e : refParseRV nm (sheetF s.data.toList).2.2 ((cellF rest.data.toList).1 != 40) ((cellF rest.data.toList).1 == 0) c r ac ar = parseV (parseF s.data.toList) := by
    unfold parseF parseG
    cases his : (sheetF s.data.toList).2.2 with
    | false => rfl
    | true =>
      obtain ⟨rfl, rfl⟩ := h2 his
      have er : (⟨(sheetF s.data.toList).2.1.toArray⟩ : ByteArray).data.toList = (sheetF s.data.toList).2.1 := rfl
      rw [er] at k2 ⊢
      unfold refParseRV
      rcases cellF_err (sheetF s.data.toList).2.1 with h | h | h
      · have hk := k2 h
        have e2 : (cellF (sheetF s.data.toList).2.1) = (0, c, r, ac, ar) := by rw [hk, ← h]
        rw [e2]; rfl
      · rw [h]; rfl
      · rw [h]; rfl
  rw [e] at h
  exact h
end Go.Proofs.YtmicenegjfnbmaaGreatDoor
