/- Contracts of package cells, eleventh part: Parse. -/
import Derived.Test.YtegjainidiaeaaaGreatDoorCj
namespace Go.Proofs.YtegjainidiaeaaaGreatDoor
open Go.RowKit Go.Lib

theorem size_mk (l : List UInt8) : (⟨l.toArray⟩ : ByteArray).size = l.length := by show l.toArray.size = _; simp
theorem takeWhile_all_digit (l : List UInt8) : (l.takeWhile Pl.digit).all Pl.digit = true := List.all_takeWhile
theorem cutD_length (l : List UInt8) : (cutD l).length ≤ l.length := by unfold cutD; split <;> simp
theorem takeWhile_le (p : UInt8 → Bool) (l : List UInt8) : (l.takeWhile p).length ≤ l.length := List.Sublist.length_le (List.takeWhile_sublist p)
theorem dropWhile_le (p : UInt8 → Bool) (l : List UInt8) : (l.dropWhile p).length ≤ l.length := List.Sublist.length_le (List.dropWhile_sublist p)

theorem cell_any (s : ByteArray) (w : World) (hs : s.size ≤ 4294967280) :
    Calls Tryz.prog 71 #[.string s] w (Q (cellV (cellF s.data.toList)) w) := by
  have l0 : s.data.toList.length ≤ 4294967280 := hs
  have l1 := cutD_length s.data.toList
  have l2 := dropWhile_le Pl.capital (cutD s.data.toList)
  have l3 := cutD_length ((cutD s.data.toList).dropWhile Pl.capital)
  have l4 := takeWhile_le Pl.capital (cutD s.data.toList)
  have l5 := takeWhile_le Pl.digit (cutD ((cutD s.data.toList).dropWhile Pl.capital))
  have h := cell_core s ⟨(cutD s.data.toList).toArray⟩ ⟨((cutD s.data.toList).takeWhile Pl.capital).toArray⟩ ⟨((cutD s.data.toList).dropWhile Pl.capital).toArray⟩
    ⟨(cutD ((cutD s.data.toList).dropWhile Pl.capital)).toArray⟩ ⟨((cutD ((cutD s.data.toList).dropWhile Pl.capital)).takeWhile Pl.digit).toArray⟩ ⟨((cutD ((cutD s.data.toList).dropWhile Pl.capital)).dropWhile Pl.digit).toArray⟩
    (s.data.toList.head? == some 36) (((cutD s.data.toList).dropWhile Pl.capital).head? == some 36) w
    (Lib.hid (fun w => cutPrefix_one s 36 w)) (Lib.hid (fun w => some_caps ⟨(cutD s.data.toList).toArray⟩ w (by rw [size_mk]; omega)))
    (Lib.hid (fun w => cutPrefix_one ⟨((cutD s.data.toList).dropWhile Pl.capital).toArray⟩ 36 w)) (Lib.hid (fun w => some_digs ⟨(cutD ((cutD s.data.toList).dropWhile Pl.capital)).toArray⟩ w (by rw [size_mk]; omega)))
    (takeWhile_all_digit _) (by rw [size_mk]; omega) (by rw [size_mk]; omega)
  exact h

/-- What Parse tells of a text: the error, the sheet, the column, the row, what is fixed. -/
def parseG (x : List UInt8 × List UInt8 × Bool) (y : Int × Int × Int × Bool × Bool) : Int × List UInt8 × Int × Int × Bool × Bool :=
  if !x.2.2 then (40, [], 0, 0, false, false) else if y.1 ≠ 0 then (y.1, [], 0, 0, false, false) else (0, x.1, y.2)
def parseF (l : List UInt8) : Int × List UInt8 × Int × Int × Bool × Bool := parseG (sheetF l) (cellF (sheetF l).2.1)
def parseV (x : Int × List UInt8 × Int × Int × Bool × Bool) : Value := .tuple #[refV ⟨x.2.1.toArray⟩ x.2.2.1 x.2.2.2.1 x.2.2.2.2.1 x.2.2.2.2.2, .int .i64 x.1]

theorem sheetF_le (l : List UInt8) : (sheetF l).2.1.length ≤ l.length := by
  have hq : ∀ (k : Nat) (l acc n r : List UInt8), l.length ≤ k → quotedL acc l = some (n, r) → r.length ≤ l.length := by
    intro k
    induction k with
    | zero =>
      intro l acc n r hk h
      obtain rfl : l = [] := List.length_eq_zero_iff.1 (by omega)
      rw [quotedL] at h; cases h
    | succ k ih =>
      intro l acc n r hk h
      cases l with
      | nil => rw [quotedL] at h; cases h
      | cons c l =>
        simp only [List.length_cons] at hk ⊢
        rw [quotedL] at h
        split at h
        · split at h
          · have := ih l.tail _ n r (by simp; omega) h
            simp at this; omega
          · injection h with h; injection h with _ h; subst h; omega
        · have := ih l _ n r (by omega) h
          omega
  unfold sheetF
  split
  · rename_i h39
    cases hx : quoted l.tail with
    | none => simp
    | some p =>
      obtain ⟨n, r⟩ := p
      have h1 := hq _ _ _ n r (Nat.le_refl _) hx
      have h2 : l.tail.length ≤ l.length := by simp
      dsimp only
      split
      · simp; omega
      · omega
  · split
    · have := dropWhile_le (· != 33) l
      simp; omega
    · exact Nat.le_refl _

/-- Five stores into one block of the call's own. -/
theorem below_set5 {B b : Nat} {w w1 : World} (h : Below B w w1) (hb : B ≤ b) (v0 v1 v2 v3 v4 : Value) :
    Below B w (((((w1.setCell ⟨b, 0, none⟩ v0).setCell ⟨b, 1, none⟩ v1).setCell ⟨b, 2, none⟩ v2).setCell ⟨b, 3, none⟩ v3).setCell ⟨b, 4, none⟩ v4) :=
  ((((h.setCell (p := ⟨b, 0, none⟩) hb _).setCell (p := ⟨b, 1, none⟩) hb _).setCell (p := ⟨b, 2, none⟩) hb _).setCell (p := ⟨b, 3, none⟩) hb _).setCell (p := ⟨b, 4, none⟩) hb _

theorem RefAt.set5 {w : World} {B : Nat} {sh : ByteArray} {c r : Int} {ac ar : Bool} (h : RefAt w B sh c r ac ar) (sh' : ByteArray) (c' r' : Int) (ac' ar' : Bool) :
    RefAt (((((w.setCell ⟨B, 0, none⟩ (.string sh')).setCell ⟨B, 1, none⟩ (.int .i64 c')).setCell ⟨B, 2, none⟩ (.int .i64 r')).setCell ⟨B, 3, none⟩ (.bool ac')).setCell ⟨B, 4, none⟩ (.bool ar')) B sh' c' r' ac' ar' :=
  ((((h.set0 sh').set1 c').set2 r').set3 ac').set4 ar'

set_option maxHeartbeats 4000000 in
theorem parse_core (s nm rest : ByteArray) (is : Bool) (ce cc cr : Int) (ca cb : Bool) (w : World)
    (C1 : Hid (∀ w, Glob w → Calls Tryz.prog 70 #[.string s] w (Q (.tuple #[.string nm, .string rest, .bool is]) w)))
    (C2 : Hid (∀ w, Calls Tryz.prog 71 #[.string rest] w (Q (.tuple #[refV ⟨#[]⟩ cc cr ca cb, .int .i64 ce]) w)))
    (hg : Glob w) :
    Calls Tryz.prog 38 #[.string s] w (Q (parseV (parseG (nm.data.toList, rest.data.toList, is) (ce, cc, cr, ca, cb))) w) := by
  obtain ⟨R, hR⟩ : ∃ R, parseG (nm.data.toList, rest.data.toList, is) (ce, cc, cr, ca, cb) = R := ⟨_, rfl⟩
  rw [hR]
  have HG := Lib.hid hR
  clear hR
  have r1 := RefAt.new w ⟨#[]⟩ 0 0 false false
  have hB : Below w.heap.size w (w.alloc (.cells #[.string ⟨#[]⟩, .int .i64 0, .int .i64 0, .bool false, .bool false] 32)) := (Below.refl _ _).alloc (Nat.le_refl _) _
  have hg1 := hg.below hB
  have R1 := Lib.hid r1
  clear r1
  go_enter Tryz.func38, Tryz.ntmps38
  go_wp2_with fail
  refine (C1.out _ hg1).mono ?_
  rintro e w1 ⟨rfl, hb⟩
  have R1 := Lib.hid (R1.out.below hb)
  have hB := hB.trans (hb.mono hB.size)
  clear hb hg1 C1
  cases is with
  | false =>
    have hR : Hid (R = (40, [], 0, 0, false, false)) := by show _ = _; rw [← HG.out]; rfl
    clear HG
    obtain ⟨p0, p1, p2, p3, p4, pf, pl⟩ := R1.out
    go_wp2_with fail
    exact bodyPost_ret (v := .tuple #[refV ⟨#[]⟩ 0 0 false false, .int .i64 40]) (by simp [results, Tryz.results38, go_sem, p0, p1, p2, p3, p4]) rfl ⟨by rw [hR.out]; rfl, ((((hB.setCell (by simp) _).setCell (by simp) _).setCell (by simp) _).setCell (by simp) _).setCell (by simp) _⟩
  | true =>
    go_wp2_with fail
    refine (C2.out _).mono ?_
    rintro e w2 ⟨rfl, hb⟩
    have R1 := Lib.hid (R1.out.below hb)
    have hB := hB.trans (hb.mono hB.size)
    clear hb C2
    obtain ⟨p0, p1, p2, p3, p4, pf, pl⟩ := R1.out
    by_cases he : ce = 0
    · subst he
      have hR : Hid (R = (0, nm.data.toList, cc, cr, ca, cb)) := by show _ = _; rw [← HG.out]; rfl
      clear HG
      go_wp2_with fail
      obtain ⟨t0, t1, t2, t3, t4, tf, tl⟩ := (R1.out.set5 nm cc cr ca cb).alloc (.cells #[.string nm, .int .i64 cc, .int .i64 cr, .bool ca, .bool cb] 32)
      exact bodyPost_ret (v := .tuple #[refV nm cc cr ca cb, .int .i64 0]) (by simp [results, Tryz.results38, go_sem, t0, t1, t2, t3, t4]) rfl
        ⟨by rw [hR.out]; unfold parseV; dsimp only, (below_set5 hB (Nat.le_refl _) _ _ _ _ _).alloc (below_set5 hB (Nat.le_refl _) _ _ _ _ _).size _⟩
    · have hR : Hid (R = (ce, [], 0, 0, false, false)) := by show _ = _; rw [← HG.out]; unfold parseG; simp [he]
      clear HG
      have he' : (ce != 0) = true := by simpa using he
      go_wp2_with fail
      obtain ⟨t0, t1, t2, t3, t4, tf, tl⟩ := (R1.out.set5 ⟨#[]⟩ 0 0 false false).alloc (.cells #[.string ⟨#[]⟩, .int .i64 cc, .int .i64 cr, .bool ca, .bool cb] 32)
      exact bodyPost_ret (v := .tuple #[refV ⟨#[]⟩ 0 0 false false, .int .i64 ce]) (by simp [results, Tryz.results38, go_sem, t0, t1, t2, t3, t4]) rfl
        ⟨by rw [hR.out]; rfl, (below_set5 hB (Nat.le_refl _) _ _ _ _ _).alloc (below_set5 hB (Nat.le_refl _) _ _ _ _ _).size _⟩

theorem parse_any (s : ByteArray) (w : World) (hs : s.size ≤ 4294967280) (hg : Glob w) :
    Calls Tryz.prog 38 #[.string s] w (Q (parseV (parseF s.data.toList)) w) := by
  have hle : (⟨(sheetF s.data.toList).2.1.toArray⟩ : ByteArray).size ≤ 4294967280 := by
    have h1 := sheetF_le s.data.toList
    have h2 : s.data.toList.length ≤ 4294967280 := hs
    rw [size_mk]; omega
  have h := parse_core s ⟨(sheetF s.data.toList).1.toArray⟩ ⟨(sheetF s.data.toList).2.1.toArray⟩ (sheetF s.data.toList).2.2 (cellF (sheetF s.data.toList).2.1).1 (cellF (sheetF s.data.toList).2.1).2.1 (cellF (sheetF s.data.toList).2.1).2.2.1 (cellF (sheetF s.data.toList).2.1).2.2.2.1 (cellF (sheetF s.data.toList).2.1).2.2.2.2 w
    (Lib.hid (fun w hg => sheet_any s w hs hg)) (Lib.hid (fun w => cell_any ⟨(sheetF s.data.toList).2.1.toArray⟩ w hle)) hg
  exact h
end Go.Proofs.YtegjainidiaeaaaGreatDoor
