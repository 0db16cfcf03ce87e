/- Contracts of package cells, twelfth part: bare, Quote, Print. -/
import Derived.Test.YtmicenegjfnbmaaGreatDoorCd
import Derived.Test.YtmicenegjfnbmaaGreatDoorCk
import Derived.Deep.RegionHeld3
import Derived.Lib.ItoaLen
namespace Go.Proofs.YtmicenegjfnbmaaGreatDoor
open Go.RowKit Go.Lib

theorem itoa_calls (n : Int) (w : World) (h0 : -9223372036854775808 ≤ n) (h1 : n ≤ 9223372036854775807) (hg : Glob w) :
    Calls Tryz.prog 53 #[.int .i64 n] w (Q (.string ⟨(Lib.itoa n).toArray⟩) w) :=
  (Tryz.strconv_Itoa n h0 h1 w hg.pow).mono fun _ _ ⟨he, k, os, hw⟩ => ⟨he, by
    rw [hw]
    exact ⟨rfl, rfl, rfl, by show w.heap.size ≤ (w.heap ++ os).size; rw [Array.size_append]; omega, fun _ hj => Sort.heap_grow_old (w.drewN k) os hj⟩⟩

def mark (b : Bool) : List UInt8 := if b then [36] else []
/-- A reference without its sheet, as it is written. -/
def bareF (c r : Int) (ac ar : Bool) : List UInt8 := mark ac ++ Pl.letters c ++ mark ar ++ Lib.itoa r

def markS (b : Bool) : ByteArray := ⟨(mark b).toArray⟩
theorem mark_calls (b : Bool) (w : World) : Calls Tryz.prog 52 #[.bool b] w fun e w' => e = .returned (.string (markS b)) ∧ w = w' := mark_any b w
theorem markS_le (b : Bool) : (markS b).size ≤ 1 := by cases b <;> decide
theorem Glob.drew {w : World} (h : Glob w) : Glob w.drew := h.below (below_drewN (Below.refl _ _) 1)
theorem bt {w X Y : World} (h : Below w.heap.size w X) (k : Below X.heap.size X Y) : Below w.heap.size w Y := h.trans (k.mono h.size)

set_option maxHeartbeats 4000000 in
theorem bare_core (sh : ByteArray) (c r : Int) (ac ar : Bool) (le di : ByteArray) (w : World) (h2 : le.size ≤ 2) (h4 : di.size ≤ 21)
    (C2 : Hid (∀ w, Calls Tryz.prog 12 #[.int .i64 c] w (Q (.string le) w)))
    (C4 : Hid (∀ w, Glob w → Calls Tryz.prog 53 #[.int .i64 r] w (Q (.string di) w)))
    (hg : Glob w) :
    Calls Tryz.prog 31 #[refV sh c r ac ar] w (Q (.string (markS ac ++ le ++ markS ar ++ di)) w) := by
  have r1 := RefAt.new w sh c r ac ar
  have hB : Below w.heap.size w (w.alloc (.cells #[.string sh, .int .i64 c, .int .i64 r, .bool ac, .bool ar] 23)) := (Below.refl _ _).alloc (Nat.le_refl _) _
  have hg1 := hg.below hB
  go_enter Tryz.func31, Tryz.ntmps31
  go_wp2_with fail
  obtain ⟨W, hW⟩ : ∃ W, w.alloc (.cells #[.string sh, .int .i64 c, .int .i64 r, .bool ac, .bool ar] 23) = W := ⟨_, rfl⟩
  rw [hW] at r1 hB hg1 ⊢
  clear hW hg
  have rd : RefAt W.drew w.heap.size sh c r ac ar := r1.below (below_drewN (Below.refl _ _) 1)
  have hgd := hg1.drew
  have hBd := hB.drew
  clear r1 hB hg1
  have y1 := markS_le ac
  have y2 := markS_le ar
  have n1 : ¬ 9223372036854775807 < (markS ac).size + le.size := by omega
  have n2 : ¬ 9223372036854775807 < (markS ac).size + le.size + (markS ar).size := by omega
  have n3 : ¬ 9223372036854775807 < (markS ac).size + le.size + (markS ar).size + di.size := by omega
  go_region_held3 (fun w' => w'.cell? ⟨w.heap.size, 1, none⟩ = some (.int .i64 c) ∧ w'.cell? ⟨w.heap.size, 2, none⟩ = some (.int .i64 r) ∧ w'.cell? ⟨w.heap.size, 3, none⟩ = some (.bool ac) ∧ w'.cell? ⟨w.heap.size, 4, none⟩ = some (.bool ar) ∧ RefAt w' w.heap.size sh c r ac ar ∧ Glob w' ∧ Below w.heap.size w w')
    (first
      | exact ⟨hr.c1, hr.c2, hr.c3, hr.c4, hr, hgl, hbl⟩
      | exact ⟨rd.c1, rd.c2, rd.c3, rd.c4, rd, hgd, hBd⟩)
    (first
      | (go_at_call 52; refine (mark_calls _ _).mono ?_; rintro e w' ⟨rfl, rfl⟩)
      | (go_at_call 12; refine (C2.out _).mono ?_; rintro e w' ⟨rfl, hb⟩; have hr := RefAt.below (sh := sh) (c := c) (r := r) (ac := ac) (ar := ar) (B := w.heap.size) (by assumption) hb; have hgl := Glob.below (by assumption) hb; have hbl := bt (w := w) (by assumption) hb)
      | (go_at_call 53; refine (C4.out _ (by assumption)).mono ?_; rintro e w' ⟨rfl, hb⟩; have hr := RefAt.below (sh := sh) (c := c) (r := r) (ac := ac) (ar := ar) (B := w.heap.size) (by assumption) hb; have hgl := Glob.below (by assumption) hb; have hbl := bt (w := w) (by assumption) hb))
  go_wp2
  go_ret
  exact ⟨rfl, hbl⟩

theorem letters_le (c : Int) : (Pl.letters c).length ≤ 2 := by
  unfold Pl.letters
  split
  · simp
  · split <;> simp

theorem bare_any (sh : ByteArray) (c r : Int) (ac ar : Bool) (w : World) (hc : -9223372036854775808 ≤ c) (hr0 : -9223372036854775808 ≤ r) (hr1 : r ≤ 9223372036854775807) (hg : Glob w) :
    Calls Tryz.prog 31 #[refV sh c r ac ar] w (Q (.string ⟨(bareF c r ac ar).toArray⟩) w) := by
  have h := bare_core sh c r ac ar ⟨(Pl.letters c).toArray⟩ ⟨(Lib.itoa r).toArray⟩ w (by rw [size_mk]; exact letters_le c) (by rw [size_mk]; exact Lib.itoa_length_le r hr0 hr1)
    (Lib.hid (fun w => letters_any c w hc)) (Lib.hid (fun w hg => itoa_calls r w hr0 hr1 hg)) hg
  have e : markS ac ++ (⟨(Pl.letters c).toArray⟩ : ByteArray) ++ markS ar ++ ⟨(Lib.itoa r).toArray⟩ = ⟨(bareF c r ac ar).toArray⟩ := by
    apply ByteArray.ext; unfold bareF markS; simp
  rw [e] at h
  exact h

/-! ### Quote -/
theorem contains_count (l : List UInt8) : (l.contains 39 = false) ↔ l.count 39 = 0 := by
  rw [List.count_eq_zero]; simp

theorem flatMap_no : ∀ (l : List UInt8), l.contains 39 = false → l.flatMap Pl.quoteB = l
  | [], _ => rfl
  | b :: l, h => by
    simp only [List.contains_cons, Bool.or_eq_false_iff, beq_eq_false_iff_ne] at h
    rw [List.flatMap_cons, flatMap_no l h.2]
    unfold Pl.quoteB
    rw [if_neg (fun e => h.1 e.symm)]; rfl

theorem flatMap_yes (l : List UInt8) (h : l.contains 39 = true) :
    l.flatMap Pl.quoteB = l.takeWhile (· != 39) ++ [39, 39] ++ (l.drop ((l.takeWhile (· != 39)).length + 1)).flatMap Pl.quoteB := by
  induction l with
  | nil => simp at h
  | cons b l ih =>
    by_cases hb : b = 39
    · subst hb
      simp [List.flatMap_cons, Pl.quoteB]
    · have hl : l.contains 39 = true := by
        simp only [List.contains_cons, Bool.or_eq_true, beq_iff_eq] at h
        exact h.resolve_left (fun e => hb e.symm)
      have hbb : (b != 39) = true := by simp [hb]
      rw [List.flatMap_cons, ih hl]
      simp [hbb, Pl.quoteB, hb]

theorem count_drop (l : List UInt8) (h : l.contains 39 = true) : (l.drop ((l.takeWhile (· != 39)).length + 1)).count 39 + 1 = l.count 39 := by
  induction l with
  | nil => simp at h
  | cons b l ih =>
    by_cases hb : b = 39
    · subst hb; simp
    · have hl : l.contains 39 = true := by
        simp only [List.contains_cons, Bool.or_eq_true, beq_iff_eq] at h
        exact h.resolve_left (fun e => hb e.symm)
      have hbb : (b != 39) = true := by simp [hb]
      simp [hbb, hb, ← ih hl]

theorem replaceK_quote : ∀ (k : Nat) (l : List UInt8), l.count 39 ≤ k → Lib.replaceK [39] [39, 39] k l = l.flatMap Pl.quoteB
  | 0, l, h => by
    rw [Lib.replaceK, flatMap_no l ((contains_count l).2 (by omega))]
  | k + 1, l, h => by
    by_cases hc : l.contains 39 = true
    · have hi : Lib.index l [39] = ((l.takeWhile (· != 39)).length : Int) := by rw [Pl.index_one, if_pos hc]
      rw [Lib.replaceK_hit _ _ _ _ _ hi, Pl.take_takeWhile]
      have := count_drop l hc
      rw [replaceK_quote k _ (by rw [List.length_singleton]; omega), flatMap_yes l hc]; rfl
    · have hc' : l.contains 39 = false := by simpa using hc
      have hi : (Lib.index l [39] == -1) = true := by rw [Pl.index_one, if_neg hc]; rfl
      rw [Lib.replaceK, if_pos hi, flatMap_no l hc']

theorem count_from : ∀ (f : Nat) (l : List UInt8), l.length < f → l.count 39 ≤ Lib.countFrom [39] f l
  | 0, l, h => by omega
  | f + 1, l, h => by
    by_cases hc : l.contains 39 = true
    · have hi : Lib.index l [39] = ((l.takeWhile (· != 39)).length : Int) := by rw [Pl.index_one, if_pos hc]
      have hn : ¬ (Lib.index l [39] == -1) = true := by rw [hi]; intro e; have := beq_iff_eq.1 e; omega
      have h1 := count_drop l hc
      have h2 := count_from f (l.drop ((l.takeWhile (· != 39)).length + 1)) (by
        have : (l.drop ((l.takeWhile (· != 39)).length + 1)).length ≤ l.length - 1 := by rw [List.length_drop]; omega
        have h3 : 0 < l.length := by cases l with
          | nil => simp at hc
          | cons _ _ => simp
        omega)
      rw [Lib.countFrom, if_neg hn, hi, Int.toNat_natCast, List.length_singleton]; omega
    · have hc' : l.contains 39 = false := by simpa using hc
      have := (contains_count l).1 hc'
      omega

theorem replaceAll_quote (l : List UInt8) : Lib.replaceAll l [39] [39, 39] = l.flatMap Pl.quoteB := by
  unfold Lib.replaceAll Lib.replace
  rw [if_neg (by decide)]
  unfold Lib.replaceNum
  rw [if_pos (.inl (by decide))]
  exact replaceK_quote _ _ (count_from _ _ (by omega))

theorem replace_calls (s : ByteArray) (w : World) (hs : s.size ≤ 4294967280) (hg : Glob w) :
    Calls Tryz.prog 35 #[.string s, .string ⟨#[39]⟩, .string ⟨#[39, 39]⟩] w (Q (.string ⟨(s.data.toList.flatMap Pl.quoteB).toArray⟩) w) := by
  obtain ⟨m, hm⟩ := hg.most
  have hcount : Lib.countB s ⟨#[39]⟩ ≤ s.size := by
    have := Lib.countB_mul_le ⟨#[39]⟩ (Nat.le_refl 1) s.size s (Nat.le_refl _)
    have e : (⟨#[39]⟩ : ByteArray).size = 1 := rfl
    rw [e] at this; omega
  have e2 : (⟨#[39, 39]⟩ : ByteArray).size = 2 := rfl
  have h := Tryz.strings_ReplaceAll s ⟨#[39]⟩ ⟨#[39, 39]⟩ m w (by omega) hm (Nat.le_refl 1) (by rw [e2]; omega)
  have e : Lib.replaceAll s.data.toList (⟨#[39]⟩ : ByteArray).data.toList (⟨#[39, 39]⟩ : ByteArray).data.toList = s.data.toList.flatMap Pl.quoteB := replaceAll_quote s.data.toList
  rw [e] at h
  exact h.mono fun _ _ h => h

theorem flatMap_length (l : List UInt8) : (l.flatMap Pl.quoteB).length ≤ 2 * l.length := by
  induction l with
  | nil => simp
  | cons b l ih =>
    rw [List.flatMap_cons, List.length_append, List.length_cons]
    have : (Pl.quoteB b).length ≤ 2 := by unfold Pl.quoteB; split <;> simp
    omega

set_option maxHeartbeats 1000000 in
theorem quote_any (s : ByteArray) (w : World) (hs : s.size ≤ 4294967280) (hg : Glob w) :
    Calls Tryz.prog 14 #[.string s] w (Q (.string ⟨(Pl.quote s.data.toList).toArray⟩) w) := by
  have c1 := wordly_any s w (by omega)
  have c2 := fun w hg => replace_calls s w hs hg
  have hl := flatMap_length s.data.toList
  have hq : Pl.quote s.data.toList = if Pl.wordly s.data.toList then s.data.toList else 39 :: (s.data.toList.flatMap Pl.quoteB ++ [39]) := rfl
  rw [hq]
  clear hq
  cases hw : Pl.wordly s.data.toList with
  | true =>
    rw [hw] at c1
    rw [if_pos rfl, bytes_eq]
    have C1 := Lib.hid c1
    clear c1 c2 hw hl
    go_enter Tryz.func14, Tryz.ntmps14
    go_wp2_with fail
    refine C1.out.mono ?_
    rintro e w1 ⟨rfl, hb⟩
    go_wp2_with fail
    go_ret
    exact ⟨rfl, hb⟩
  | false =>
    rw [hw] at c1
    rw [if_neg (by decide)]
    have he : (⟨(39 :: (s.data.toList.flatMap Pl.quoteB ++ [39])).toArray⟩ : ByteArray) = ⟨#[39]⟩ ++ ⟨(s.data.toList.flatMap Pl.quoteB).toArray⟩ ++ ⟨#[39]⟩ := by
      apply ByteArray.ext; simp
    rw [he]
    have hsz : (⟨(s.data.toList.flatMap Pl.quoteB).toArray⟩ : ByteArray).size ≤ 8589934560 := by
      rw [size_mk]
      have : s.data.toList.length ≤ 4294967280 := hs
      omega
    have h39 : (⟨#[39]⟩ : ByteArray).size ≤ 1 := Nat.le_refl 1
    generalize (⟨(s.data.toList.flatMap Pl.quoteB).toArray⟩ : ByteArray) = q at *
    have C1 := Lib.hid c1
    have C2 := Lib.hid c2
    clear c1 c2 hw hl he
    go_enter Tryz.func14, Tryz.ntmps14
    go_wp2_with fail
    refine C1.out.mono ?_
    rintro e w1 ⟨rfl, hb⟩
    have hg1 := hg.below hb
    go_wp2_with fail
    refine (C2.out _ hg1).mono ?_
    rintro e w2 ⟨rfl, hb2⟩
    have hb3 := bt hb hb2
    clear hb hb2
    go_wp2_with fail
    go_ret
    exact ⟨rfl, hb3⟩
end Go.Proofs.YtmicenegjfnbmaaGreatDoor
