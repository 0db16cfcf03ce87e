/- Contracts of package cells, twelfth part: bare, Quote, Print. -/
import Derived.Test.YtfkiomjplpbmiaaGreatDoorCdM
import Derived.Test.YtfkiomjplpbmiaaGreatDoorM1
import Derived.Deep.RegionHeld3
import Derived.Lib.ItoaLen
namespace Go.Proofs.YtfkiomjplpbmiaaGreatDoor
open Go.RowKit Go.Lib

theorem itoa_calls (n : Int) (w : World) (h0 : -9223372036854775808 ≤ n) (h1 : n ≤ 9223372036854775807) (hg : Glob w) :
    Calls Tryz.prog 214 #[.int .i64 n] w (Q (.string ⟨(Lib.itoa n).toArray⟩) w) :=
  (Tryz.strconv_Itoa n h0 h1 w hg.pow).mono fun _ _ ⟨he, k, os, hw⟩ => ⟨he, by
    rw [hw]
    exact ⟨rfl, rfl, rfl, by show w.heap.size ≤ (w.heap ++ os).size; rw [Array.size_append]; omega, fun _ hj => Sort.heap_grow_old (w.drewN k) os hj⟩⟩

def mark (b : Bool) : List UInt8 := if b then [36] else []
/-- A reference without its sheet, as it is written. -/
def bareF (c r : Int) (ac ar : Bool) : List UInt8 := mark ac ++ Pl.letters c ++ mark ar ++ Lib.itoa r

def markBS (b : Bool) : ByteArray := ⟨(mark b).toArray⟩
theorem mark_calls (b : Bool) (w : World) : Calls Tryz.prog 212 #[.bool b] w fun e w' => e = .returned (.string (markBS b)) ∧ w = w' := mark_any b w
theorem markBS_le (b : Bool) : (markBS b).size ≤ 1 := by cases b <;> decide
theorem Glob.drew {w : World} (h : Glob w) : Glob w.drew := h.below (below_drewN (Below.refl _ _) 1)
theorem bt {w X Y : World} (h : Below w.heap.size w X) (k : Below X.heap.size X Y) : Below w.heap.size w Y := h.trans (k.mono h.size)

set_option maxHeartbeats 4000000 in
theorem bare_core (sh : ByteArray) (c r : Int) (ac ar : Bool) (le di : ByteArray) (w : World) (h2 : le.size ≤ 2) (h4 : di.size ≤ 21)
    (C2 : Hid (∀ w, Calls Tryz.prog 213 #[.int .i64 c] w (Q (.string le) w)))
    (C4 : Hid (∀ w, Glob w → Calls Tryz.prog 214 #[.int .i64 r] w (Q (.string di) w)))
    (hg : Glob w) :
    Calls Tryz.prog 168 #[refV sh c r ac ar] w (Q (.string (markBS ac ++ le ++ markBS ar ++ di)) w) := by
  have r1 := RefAt.new w sh c r ac ar
  have hB : Below w.heap.size w (w.alloc (.cells #[.string sh, .int .i64 c, .int .i64 r, .bool ac, .bool ar] 32)) := (Below.refl _ _).alloc (Nat.le_refl _) _
  have hg1 := hg.below hB
  go_enter Tryz.func168, Tryz.ntmps168
  go_wp2_with fail
  obtain ⟨W, hW⟩ : ∃ W, w.alloc (.cells #[.string sh, .int .i64 c, .int .i64 r, .bool ac, .bool ar] 32) = W := ⟨_, rfl⟩
  rw [hW] at r1 hB hg1 ⊢
  clear hW hg
  have rd : RefAt W.drew w.heap.size sh c r ac ar := r1.below (below_drewN (Below.refl _ _) 1)
  have hgd := hg1.drew
  have hBd := hB.drew
  clear r1 hB hg1
  have y1 := markBS_le ac
  have y2 := markBS_le ar
  have n1 : ¬ 9223372036854775807 < (markBS ac).size + le.size := by omega
  have n2 : ¬ 9223372036854775807 < (markBS ac).size + le.size + (markBS ar).size := by omega
  have n3 : ¬ 9223372036854775807 < (markBS ac).size + le.size + (markBS ar).size + di.size := by omega
  go_region_held3 (fun w' => w'.cell? ⟨w.heap.size, 1, none⟩ = some (.int .i64 c) ∧ w'.cell? ⟨w.heap.size, 2, none⟩ = some (.int .i64 r) ∧ w'.cell? ⟨w.heap.size, 3, none⟩ = some (.bool ac) ∧ w'.cell? ⟨w.heap.size, 4, none⟩ = some (.bool ar) ∧ RefAt w' w.heap.size sh c r ac ar ∧ Glob w' ∧ Below w.heap.size w w')
    (first
      | exact ⟨hr.c1, hr.c2, hr.c3, hr.c4, hr, hgl, hbl⟩
      | exact ⟨rd.c1, rd.c2, rd.c3, rd.c4, rd, hgd, hBd⟩)
    (first
      | (go_at_call 212; refine (mark_calls _ _).mono ?_; rintro e w' ⟨rfl, rfl⟩)
      | (go_at_call 213; refine (C2.out _).mono ?_; rintro e w' ⟨rfl, hb⟩; have hr := RefAt.below (sh := sh) (c := c) (r := r) (ac := ac) (ar := ar) (B := w.heap.size) (by assumption) hb; have hgl := Glob.below (by assumption) hb; have hbl := bt (w := w) (by assumption) hb)
      | (go_at_call 214; refine (C4.out _ (by assumption)).mono ?_; rintro e w' ⟨rfl, hb⟩; have hr := RefAt.below (sh := sh) (c := c) (r := r) (ac := ac) (ar := ar) (B := w.heap.size) (by assumption) hb; have hgl := Glob.below (by assumption) hb; have hbl := bt (w := w) (by assumption) hb))
  go_wp2
  go_ret
  exact ⟨rfl, hbl⟩

theorem letters_le (c : Int) : (Pl.letters c).length ≤ 2 := by
  unfold Pl.letters
  split
  · simp
  · split <;> simp

theorem bare_any (sh : ByteArray) (c r : Int) (ac ar : Bool) (w : World) (hc : -9223372036854775808 ≤ c) (hr0 : -9223372036854775808 ≤ r) (hr1 : r ≤ 9223372036854775807) (hg : Glob w) :
    Calls Tryz.prog 168 #[refV sh c r ac ar] w (Q (.string ⟨(bareF c r ac ar).toArray⟩) w) := by
  have h := bare_core sh c r ac ar ⟨(Pl.letters c).toArray⟩ ⟨(Lib.itoa r).toArray⟩ w (by rw [size_mk]; exact letters_le c) (by rw [size_mk]; exact Lib.itoa_length_le r hr0 hr1)
    (Lib.hid (fun w => letters_any c w hc)) (Lib.hid (fun w hg => itoa_calls r w hr0 hr1 hg)) hg
  have e : markBS ac ++ (⟨(Pl.letters c).toArray⟩ : ByteArray) ++ markBS ar ++ ⟨(Lib.itoa r).toArray⟩ = ⟨(bareF c r ac ar).toArray⟩ := by
    apply ByteArray.ext; unfold bareF markBS; simp
  rw [e] at h
  exact h

/-! ### Quote -/
theorem contains_count (l : List UInt8) : (l.contains 39 = false) ↔ l.count 39 = 0 := by
  rw [List.count_eq_zero]; simp

theorem flatMap_no : ∀ (l : List UInt8), l.contains 39 = false → l.flatMap Pl.quoteB = l
  | [], _ => rfl
  | b :: l, h => by
    simp only [List.contains_cons, Bool.or_eq_false_iff, beq_eq_false_iff_ne] at h
    rw [List.flatMap_cons, flatMap_no l h.2]
    unfold Pl.quoteB
    rw [if_neg (fun e => h.1 e.symm)]; rfl

theorem flatMap_yes (l : List UInt8) (h : l.contains 39 = true) :
    l.flatMap Pl.quoteB = l.takeWhile (· != 39) ++ [39, 39] ++ (l.drop ((l.takeWhile (· != 39)).length + 1)).flatMap Pl.quoteB := by
  induction l with
  | nil => simp at h
  | cons b l ih =>
    by_cases hb : b = 39
    · subst hb
      simp [List.flatMap_cons, Pl.quoteB]
    · have hl : l.contains 39 = true := by
        simp only [List.contains_cons, Bool.or_eq_true, beq_iff_eq] at h
        exact h.resolve_left (fun e => hb e.symm)
      have hbb : (b != 39) = true := by simp [hb]
      rw [List.flatMap_cons, ih hl]
      simp [hbb, Pl.quoteB, hb]

theorem count_drop (l : List UInt8) (h : l.contains 39 = true) : (l.drop ((l.takeWhile (· != 39)).length + 1)).count 39 + 1 = l.count 39 := by
  induction l with
  | nil => simp at h
  | cons b l ih =>
    by_cases hb : b = 39
    · subst hb; simp
    · have hl : l.contains 39 = true := by
        simp only [List.contains_cons, Bool.or_eq_true, beq_iff_eq] at h
        exact h.resolve_left (fun e => hb e.symm)
      have hbb : (b != 39) = true := by simp [hb]
      simp [hbb, hb, ← ih hl]

theorem replaceK_quote : ∀ (k : Nat) (l : List UInt8), l.count 39 ≤ k → Lib.replaceK [39] [39, 39] k l = l.flatMap Pl.quoteB
  | 0, l, h => by
    rw [Lib.replaceK, flatMap_no l ((contains_count l).2 (by omega))]
  | k + 1, l, h => by
    by_cases hc : l.contains 39 = true
    · have hi : Lib.index l [39] = ((l.takeWhile (· != 39)).length : Int) := by rw [Pl.index_one, if_pos hc]
      rw [Lib.replaceK_hit _ _ _ _ _ hi, Pl.take_takeWhile]
      have := count_drop l hc
      rw [replaceK_quote k _ (by rw [List.length_singleton]; omega), flatMap_yes l hc]; rfl
    · have hc' : l.contains 39 = false := by simpa using hc
      have hi : (Lib.index l [39] == -1) = true := by rw [Pl.index_one, if_neg hc]; rfl
      rw [Lib.replaceK, if_pos hi, flatMap_no l hc']

theorem count_from : ∀ (f : Nat) (l : List UInt8), l.length < f → l.count 39 ≤ Lib.countFrom [39] f l
  | 0, l, h => by omega
  | f + 1, l, h => by
    by_cases hc : l.contains 39 = true
    · have hi : Lib.index l [39] = ((l.takeWhile (· != 39)).length : Int) := by rw [Pl.index_one, if_pos hc]
      have hn : ¬ (Lib.index l [39] == -1) = true := by rw [hi]; intro e; have := beq_iff_eq.1 e; omega
      have h1 := count_drop l hc
      have h2 := count_from f (l.drop ((l.takeWhile (· != 39)).length + 1)) (by
        have : (l.drop ((l.takeWhile (· != 39)).length + 1)).length ≤ l.length - 1 := by rw [List.length_drop]; omega
        have h3 : 0 < l.length := by cases l with
          | nil => simp at hc
          | cons _ _ => simp
        omega)
      rw [Lib.countFrom, if_neg hn, hi, Int.toNat_natCast, List.length_singleton]; omega
    · have hc' : l.contains 39 = false := by simpa using hc
      have := (contains_count l).1 hc'
      omega

theorem replaceAll_quote (l : List UInt8) : Lib.replaceAll l [39] [39, 39] = l.flatMap Pl.quoteB := by
  unfold Lib.replaceAll Lib.replace
  rw [if_neg (by decide)]
  unfold Lib.replaceNum
  rw [if_pos (.inl (by decide))]
  exact replaceK_quote _ _ (count_from _ _ (by omega))

theorem replace_calls (s : ByteArray) (w : World) (hs : s.size ≤ 4294967280) (hg : Glob w) :
    Calls Tryz.prog 51 #[.string s, .string ⟨#[39]⟩, .string ⟨#[39, 39]⟩] w (Q (.string ⟨(s.data.toList.flatMap Pl.quoteB).toArray⟩) w) := by
  obtain ⟨m, hm⟩ := hg.most
  have hcount : Lib.countB s ⟨#[39]⟩ ≤ s.size := by
    have := Lib.countB_mul_le ⟨#[39]⟩ (Nat.le_refl 1) s.size s (Nat.le_refl _)
    have e : (⟨#[39]⟩ : ByteArray).size = 1 := rfl
    rw [e] at this; omega
  have e2 : (⟨#[39, 39]⟩ : ByteArray).size = 2 := rfl
  have h := Tryz.strings_ReplaceAll s ⟨#[39]⟩ ⟨#[39, 39]⟩ m w (by omega) hm (Nat.le_refl 1) (by rw [e2]; omega)
  have e : Lib.replaceAll s.data.toList (⟨#[39]⟩ : ByteArray).data.toList (⟨#[39, 39]⟩ : ByteArray).data.toList = s.data.toList.flatMap Pl.quoteB := replaceAll_quote s.data.toList
  rw [e] at h
  exact h.mono fun _ _ h => h

theorem flatMap_length (l : List UInt8) : (l.flatMap Pl.quoteB).length ≤ 2 * l.length := by
  induction l with
  | nil => simp
  | cons b l ih =>
    rw [List.flatMap_cons, List.length_append, List.length_cons]
    have : (Pl.quoteB b).length ≤ 2 := by unfold Pl.quoteB; split <;> simp
    omega

set_option maxHeartbeats 1000000 in
theorem quote_any (s : ByteArray) (w : World) (hs : s.size ≤ 4294967280) (hg : Glob w) :
    Calls Tryz.prog 169 #[.string s] w (Q (.string ⟨(Pl.quote s.data.toList).toArray⟩) w) := by
  have c1 := wordly_any s w (by omega)
  have c2 := fun w hg => replace_calls s w hs hg
  have hl := flatMap_length s.data.toList
  have hq : Pl.quote s.data.toList = if Pl.wordly s.data.toList then s.data.toList else 39 :: (s.data.toList.flatMap Pl.quoteB ++ [39]) := rfl
  rw [hq]
  clear hq
  cases hw : Pl.wordly s.data.toList with
  | true =>
    rw [hw] at c1
    rw [if_pos rfl, bytes_eq]
    have C1 := Lib.hid c1
    clear c1 c2 hw hl
    go_enter Tryz.func169, Tryz.ntmps169
    go_wp2_with fail
    refine C1.out.mono ?_
    rintro e w1 ⟨rfl, hb⟩
    go_wp2_with fail
    go_ret
    exact ⟨rfl, hb⟩
  | false =>
    rw [hw] at c1
    rw [if_neg (by decide)]
    have he : (⟨(39 :: (s.data.toList.flatMap Pl.quoteB ++ [39])).toArray⟩ : ByteArray) = ⟨#[39]⟩ ++ ⟨(s.data.toList.flatMap Pl.quoteB).toArray⟩ ++ ⟨#[39]⟩ := by
      apply ByteArray.ext; simp
    rw [he]
    have hsz : (⟨(s.data.toList.flatMap Pl.quoteB).toArray⟩ : ByteArray).size ≤ 8589934560 := by
      rw [size_mk]
      have : s.data.toList.length ≤ 4294967280 := hs
      omega
    have h39 : (⟨#[39]⟩ : ByteArray).size ≤ 1 := Nat.le_refl 1
    generalize (⟨(s.data.toList.flatMap Pl.quoteB).toArray⟩ : ByteArray) = q at *
    have C1 := Lib.hid c1
    have C2 := Lib.hid c2
    clear c1 c2 hw hl he
    go_enter Tryz.func169, Tryz.ntmps169
    go_wp2_with fail
    refine C1.out.mono ?_
    rintro e w1 ⟨rfl, hb⟩
    have hg1 := hg.below hb
    go_wp2_with fail
    refine (C2.out _ hg1).mono ?_
    rintro e w2 ⟨rfl, hb2⟩
    have hb3 := bt hb hb2
    clear hb hb2
    go_wp2_with fail
    go_ret
    exact ⟨rfl, hb3⟩
end Go.Proofs.YtfkiomjplpbmiaaGreatDoor

/- Contracts of package cells, thirteenth part: Print. -/
namespace Go.Proofs.YtfkiomjplpbmiaaGreatDoor
open Go.RowKit Go.Lib

def refWord : List UInt8 := [35, 82, 69, 70, 33]
/-- A reference, as it is written. -/
def printF (sh : List UInt8) (c r : Int) (ac ar : Bool) : List UInt8 :=
  if !Pl.right sh c r then refWord else if sh.isEmpty then bareF c r ac ar else Pl.quote sh ++ [33] ++ bareF c r ac ar

theorem right_sheet {sh : List UInt8} {c r : Int} (h : Pl.right sh c r = true) : sh.length ≤ 31 := by
  unfold Pl.right at h
  simp only [Bool.and_eq_true, Bool.or_eq_true] at h
  rcases h.2 with h | h
  · rw [List.isEmpty_iff.1 h]; simp
  · unfold Pl.sheetName at h
    simp only [Bool.and_eq_true, decide_eq_true_eq] at h
    omega

theorem bareF_le (c r : Int) (ac ar : Bool) (h0 : -9223372036854775808 ≤ r) (h1 : r ≤ 9223372036854775807) : (bareF c r ac ar).length ≤ 30 := by
  unfold bareF
  have h2 := letters_le c
  have h3 := Lib.itoa_length_le r h0 h1
  have h4 : ∀ b, (mark b).length ≤ 1 := fun b => by cases b <;> decide
  have := h4 ac
  have := h4 ar
  simp only [List.length_append]; omega
theorem quote_le (l : List UInt8) : (Pl.quote l).length ≤ 2 * l.length + 2 := by
  unfold Pl.quote
  have := flatMap_length l
  split
  · omega
  · simp only [List.length_cons, List.length_append, List.length_nil]; omega

set_option maxHeartbeats 4000000 in
theorem print_sheet (sh : ByteArray) (c r : Int) (ac ar : Bool) (q b : ByteArray) (w : World) (h1 : q.size ≤ 100) (h2 : b.size ≤ 30) (hne : sh.toList.isEmpty = false)
    (C1 : Hid (∀ w, Calls Tryz.prog 112 #[refV sh c r ac ar] w (Q (.bool true) w)))
    (C2 : Hid (∀ w, Glob w → Calls Tryz.prog 169 #[.string sh] w (Q (.string q) w)))
    (C3 : Hid (∀ w, Glob w → Calls Tryz.prog 168 #[refV sh c r ac ar] w (Q (.string b) w)))
    (hg : Glob w) :
    Calls Tryz.prog 115 #[refV sh c r ac ar] w (Q (.string (q ++ ⟨#[33]⟩ ++ b)) w) := by
  have r1 := RefAt.new w sh c r ac ar
  have hB : Below w.heap.size w (w.alloc (.cells #[.string sh, .int .i64 c, .int .i64 r, .bool ac, .bool ar] 32)) := (Below.refl _ _).alloc (Nat.le_refl _) _
  have hg1 := hg.below hB
  have R1 := Lib.hid r1
  clear r1
  go_enter Tryz.func115, Tryz.ntmps115
  go_wp2_with fail
  refine (C1.out _).mono ?_
  rintro e W ⟨rfl, hb⟩
  have r1 := R1.out.below hb
  have hB := bt hB hb
  have hg1 := hg1.below hb
  clear hb R1 C1
  obtain ⟨q0, q1, q2, q3, q4, qf, ql⟩ := r1
  go_wp2_with fail
  have rd : RefAt W.drew w.heap.size sh c r ac ar := (RefAt.mk q0 q1 q2 q3 q4 qf ql).below (below_drewN (Below.refl _ _) 1)
  have hgd := hg1.drew
  have hBd := hB.drew
  have y1 : (⟨#[33]⟩ : ByteArray).size ≤ 1 := Nat.le_refl 1
  have n1 : ¬ 9223372036854775807 < q.size + (⟨#[33]⟩ : ByteArray).size := by omega
  have n2 : ¬ 9223372036854775807 < q.size + (⟨#[33]⟩ : ByteArray).size + b.size := by omega
  have n1' : ¬ 9223372036854775807 < q.size + 1 := by omega
  have n2' : ¬ 9223372036854775807 < q.size + 1 + b.size := by omega
  clear hB hg1 hg q0 q1 q2 q3 q4 qf ql
  go_region_held3 (fun w' => w'.cell? ⟨w.heap.size, 0, none⟩ = some (.string sh) ∧ w'.cell? ⟨w.heap.size, 1, none⟩ = some (.int .i64 c) ∧ w'.cell? ⟨w.heap.size, 2, none⟩ = some (.int .i64 r) ∧ w'.cell? ⟨w.heap.size, 3, none⟩ = some (.bool ac) ∧ w'.cell? ⟨w.heap.size, 4, none⟩ = some (.bool ar) ∧ RefAt w' w.heap.size sh c r ac ar ∧ Glob w' ∧ Below w.heap.size w w')
    (first
      | exact ⟨hr.c0, hr.c1, hr.c2, hr.c3, hr.c4, hr, hgl, hbl⟩
      | exact ⟨rd.c0, rd.c1, rd.c2, rd.c3, rd.c4, rd, hgd, hBd⟩)
    (first
      | (go_at_call 169; refine (C2.out _ (by assumption)).mono ?_; rintro e w' ⟨rfl, hb⟩; have hr := RefAt.below (sh := sh) (c := c) (r := r) (ac := ac) (ar := ar) (B := w.heap.size) (by assumption) hb; have hgl := Glob.below (by assumption) hb; have hbl := bt (w := w) (by assumption) hb)
      | (go_at_call 168; refine (C3.out _ (by assumption)).mono ?_; rintro e w' ⟨rfl, hb⟩; have hr := RefAt.below (sh := sh) (c := c) (r := r) (ac := ac) (ar := ar) (B := w.heap.size) (by assumption) hb; have hgl := Glob.below (by assumption) hb; have hbl := bt (w := w) (by assumption) hb))
  go_wp2
  go_ret
  exact ⟨rfl, hbl⟩

set_option maxHeartbeats 2000000 in
theorem print_any (sh : ByteArray) (c r : Int) (ac ar : Bool) (w : World) (hc0 : -9223372036854775808 ≤ c) (hr0 : -9223372036854775808 ≤ r) (hr1 : r ≤ 9223372036854775807) (hg : Glob w) :
    Calls Tryz.prog 115 #[refV sh c r ac ar] w (Q (.string ⟨(printF sh.data.toList c r ac ar).toArray⟩) w) := by
  have c1 := right_any sh c r ac ar
  have hp : printF sh.data.toList c r ac ar = if !Pl.right sh.data.toList c r then refWord else if sh.data.toList.isEmpty then bareF c r ac ar else Pl.quote sh.data.toList ++ [33] ++ bareF c r ac ar := rfl
  have hB : Below w.heap.size w (w.alloc (.cells #[.string sh, .int .i64 c, .int .i64 r, .bool ac, .bool ar] 32)) := (Below.refl _ _).alloc (Nat.le_refl _) _
  cases hR : Pl.right sh.data.toList c r with
  | false =>
    rw [hR] at c1 hp
    rw [hp]
    show Calls _ _ _ _ (Q (.string ⟨#[35, 82, 69, 70, 33]⟩) w)
    have C1 := Lib.hid c1
    clear c1 hp hR
    go_enter Tryz.func115, Tryz.ntmps115
    go_wp2_with fail
    refine (C1.out _).mono ?_
    rintro e w1 ⟨rfl, hb⟩
    have hB := bt hB hb
    clear hb
    go_wp2_with fail
    go_ret
    exact ⟨rfl, hB⟩
  | true =>
    have h31 := right_sheet hR
    rw [hR] at c1 hp
    by_cases h0 : sh.toList = []
    · have he : sh.data.toList.isEmpty = true := by rw [toList_nil.1 h0]; rfl
      rw [he] at hp
      rw [hp]
      show Calls _ _ _ _ (Q (.string ⟨(bareF c r ac ar).toArray⟩) w)
      have hne : sh.toList.isEmpty = true := by rw [h0]; rfl
      have C1 := Lib.hid c1
      have C3 := Lib.hid (fun w hg => bare_any sh c r ac ar w hc0 hr0 hr1 hg)
      generalize (⟨(bareF c r ac ar).toArray⟩ : ByteArray) = b at *
      have hg1 := hg.below hB
      have R1 := Lib.hid (RefAt.new w sh c r ac ar)
      clear c1 hp hR h31 he h0
      go_enter Tryz.func115, Tryz.ntmps115
      go_wp2_with fail
      refine (C1.out _).mono ?_
      rintro e w1 ⟨rfl, hb⟩
      obtain ⟨q0, q1, q2, q3, q4, qf, ql⟩ := R1.out.below hb
      have hg2 := hg1.below hb
      have hB := bt hB hb
      clear hb R1
      go_wp2_with fail
      refine (C3.out _ hg2).mono ?_
      rintro e w2 ⟨rfl, hb⟩
      have hB := bt hB hb
      clear hb
      go_wp2_with fail
      go_ret
      exact ⟨rfl, hB⟩
    · obtain ⟨h1, h2, h3⟩ := isEmpty_nil h0
      rw [h2] at hp
      rw [hp]
      have hq := quote_le sh.data.toList
      have hb := bareF_le c r ac ar hr0 hr1
      have h := print_sheet sh c r ac ar ⟨(Pl.quote sh.data.toList).toArray⟩ ⟨(bareF c r ac ar).toArray⟩ w (by rw [size_mk]; omega) (by rw [size_mk]; omega) h1 (Lib.hid c1)
        (Lib.hid (fun w hg => quote_any sh w (by have : sh.size ≤ 31 := h31; omega) hg)) (Lib.hid (fun w hg => bare_any sh c r ac ar w hc0 hr0 hr1 hg)) hg
      have e : (⟨(Pl.quote sh.data.toList).toArray⟩ : ByteArray) ++ ⟨#[33]⟩ ++ ⟨(bareF c r ac ar).toArray⟩ = ⟨(Pl.quote sh.data.toList ++ [33] ++ bareF c r ac ar).toArray⟩ := by
        apply ByteArray.ext; simp
      rw [e] at h
      exact h
end Go.Proofs.YtfkiomjplpbmiaaGreatDoor

/- Contracts of package cells, fourteenth part: PrintRange. -/
namespace Go.Proofs.YtfkiomjplpbmiaaGreatDoor
open Go.RowKit Go.Lib

/-- A range, as it is written. -/
def printRF (sa : List UInt8) (ca ra : Int) (aca ara : Bool) (sb : List UInt8) (cb rb : Int) (acb arb : Bool) : List UInt8 :=
  if !Pl.right sa ca ra || !Pl.right sb cb rb || (!sb.isEmpty && sb != sa) then refWord else printF sa ca ra aca ara ++ [58] ++ bareF cb rb acb arb

section
variable (sa : ByteArray) (ca ra : Int) (aca ara : Bool) (sb : ByteArray) (cb rb : Int) (acb arb : Bool) (w : World)
def W2 : World := (w.alloc (.cells #[.string sa, .int .i64 ca, .int .i64 ra, .bool aca, .bool ara] 32)).alloc (.cells #[.string sb, .int .i64 cb, .int .i64 rb, .bool acb, .bool arb] 32)
theorem W2_below : Below w.heap.size w (W2 sa ca ra aca ara sb cb rb acb arb w) := ((Below.refl _ _).alloc (Nat.le_refl _) _).alloc (by simp) _
theorem W2_a : RefAt (W2 sa ca ra aca ara sb cb rb acb arb w) w.heap.size sa ca ra aca ara := (RefAt.new w sa ca ra aca ara).alloc _
theorem W2_b : RefAt (W2 sa ca ra aca ara sb cb rb acb arb w) (w.heap.size + 1) sb cb rb acb arb := by
  have h := RefAt.new (w.alloc (.cells #[.string sa, .int .i64 ca, .int .i64 ra, .bool aca, .bool ara] 32)) sb cb rb acb arb
  rw [World.size_alloc] at h
  exact h

set_option maxHeartbeats 4000000 in
theorem range_no1
    (C1 : Hid (∀ w, Calls Tryz.prog 112 #[refV sa ca ra aca ara] w (Q (.bool false) w))) :
    Calls Tryz.prog 116 #[refV sa ca ra aca ara, refV sb cb rb acb arb] w (Q (.string ⟨#[35, 82, 69, 70, 33]⟩) w) := by
  have hB : Hid (Below w.heap.size w (W2 sa ca ra aca ara sb cb rb acb arb w)) := W2_below sa ca ra aca ara sb cb rb acb arb w
  go_enter Tryz.func116, Tryz.ntmps116
  go_wp2_with fail
  refine (C1.out _).mono ?_
  rintro e w1 ⟨rfl, hb⟩
  have hB := bt hB.out hb
  clear hb
  go_wp2_with fail
  go_ret
  exact ⟨rfl, hB⟩

set_option maxHeartbeats 4000000 in
theorem range_no2
    (C1 : Hid (∀ w, Calls Tryz.prog 112 #[refV sa ca ra aca ara] w (Q (.bool true) w)))
    (C2 : Hid (∀ w, Calls Tryz.prog 112 #[refV sb cb rb acb arb] w (Q (.bool false) w))) :
    Calls Tryz.prog 116 #[refV sa ca ra aca ara, refV sb cb rb acb arb] w (Q (.string ⟨#[35, 82, 69, 70, 33]⟩) w) := by
  have hB : Hid (Below w.heap.size w (W2 sa ca ra aca ara sb cb rb acb arb w)) := W2_below sa ca ra aca ara sb cb rb acb arb w
  have R2 : Hid (RefAt (W2 sa ca ra aca ara sb cb rb acb arb w) (w.heap.size + 1) sb cb rb acb arb) := W2_b sa ca ra aca ara sb cb rb acb arb w
  go_enter Tryz.func116, Tryz.ntmps116
  go_wp2_with fail
  refine (C1.out _).mono ?_
  rintro e w1 ⟨rfl, hb⟩
  have hB := bt hB.out hb
  obtain ⟨q0, q1, q2, q3, q4, qf, ql⟩ := R2.out.below hb
  clear hb
  go_wp2_with fail
  refine (C2.out _).mono ?_
  rintro e w2 ⟨rfl, hb⟩
  have hB := bt hB hb
  clear hb
  go_wp2_with fail
  go_ret
  exact ⟨rfl, hB⟩

set_option maxHeartbeats 4000000 in
theorem range_no3 (hne : sb.toList.isEmpty = false) (hab : (sb.toList == sa.toList) = false)
    (C1 : Hid (∀ w, Calls Tryz.prog 112 #[refV sa ca ra aca ara] w (Q (.bool true) w)))
    (C2 : Hid (∀ w, Calls Tryz.prog 112 #[refV sb cb rb acb arb] w (Q (.bool true) w))) :
    Calls Tryz.prog 116 #[refV sa ca ra aca ara, refV sb cb rb acb arb] w (Q (.string ⟨#[35, 82, 69, 70, 33]⟩) w) := by
  have hB : Hid (Below w.heap.size w (W2 sa ca ra aca ara sb cb rb acb arb w)) := W2_below sa ca ra aca ara sb cb rb acb arb w
  have R1 : Hid (RefAt (W2 sa ca ra aca ara sb cb rb acb arb w) w.heap.size sa ca ra aca ara) := W2_a sa ca ra aca ara sb cb rb acb arb w
  have R2 : Hid (RefAt (W2 sa ca ra aca ara sb cb rb acb arb w) (w.heap.size + 1) sb cb rb acb arb) := W2_b sa ca ra aca ara sb cb rb acb arb w
  go_enter Tryz.func116, Tryz.ntmps116
  go_wp2_with fail
  refine (C1.out _).mono ?_
  rintro e w1 ⟨rfl, hb⟩
  have hB := bt hB.out hb
  have R1 := Lib.hid (R1.out.below hb)
  have r2 := R2.out.below hb
  have R2 := Lib.hid r2
  obtain ⟨q0, q1, q2, q3, q4, qf, ql⟩ := r2
  clear hb
  go_wp2_with fail
  refine (C2.out _).mono ?_
  rintro e w2 ⟨rfl, hb⟩
  have hB := bt hB hb
  obtain ⟨p0, p1, p2, p3, p4, pf, pl⟩ := R1.out.below hb
  obtain ⟨t0, t1, t2, t3, t4, tf, tl⟩ := R2.out.below hb
  clear hb q0 q1 q2 q3 q4 qf ql R1 R2
  go_wp2_with fail
  go_ret
  exact ⟨rfl, hB⟩

set_option maxHeartbeats 8000000 in
theorem range_yes (p b : ByteArray) (h1 : p.size ≤ 200) (h2 : b.size ≤ 30) (hab : sb.toList.isEmpty = true ∨ sb.toList.isEmpty = false ∧ sb = sa)
    (C1 : Hid (∀ w, Calls Tryz.prog 112 #[refV sa ca ra aca ara] w (Q (.bool true) w)))
    (C2 : Hid (∀ w, Calls Tryz.prog 112 #[refV sb cb rb acb arb] w (Q (.bool true) w)))
    (C3 : Hid (∀ w, Glob w → Calls Tryz.prog 115 #[refV sa ca ra aca ara] w (Q (.string p) w)))
    (C4 : Hid (∀ w, Glob w → Calls Tryz.prog 168 #[refV sb cb rb acb arb] w (Q (.string b) w)))
    (hg : Glob w) :
    Calls Tryz.prog 116 #[refV sa ca ra aca ara, refV sb cb rb acb arb] w (Q (.string (p ++ ⟨#[58]⟩ ++ b)) w) := by
  have hB : Hid (Below w.heap.size w (W2 sa ca ra aca ara sb cb rb acb arb w)) := W2_below sa ca ra aca ara sb cb rb acb arb w
  have R1 : Hid (RefAt (W2 sa ca ra aca ara sb cb rb acb arb w) w.heap.size sa ca ra aca ara) := W2_a sa ca ra aca ara sb cb rb acb arb w
  have R2 : Hid (RefAt (W2 sa ca ra aca ara sb cb rb acb arb w) (w.heap.size + 1) sb cb rb acb arb) := W2_b sa ca ra aca ara sb cb rb acb arb w
  go_enter Tryz.func116, Tryz.ntmps116
  go_wp2_with fail
  refine (C1.out _).mono ?_
  rintro e w1 ⟨rfl, hb⟩
  have hB := bt hB.out hb
  have R1 := Lib.hid (R1.out.below hb)
  have r2 := R2.out.below hb
  have R2 := Lib.hid r2
  obtain ⟨q0, q1, q2, q3, q4, qf, ql⟩ := r2
  clear hb
  go_wp2_with fail
  refine (C2.out _).mono ?_
  rintro e W ⟨rfl, hb⟩
  have hB := bt hB hb
  have hg1 := hg.below hB
  have R1 := R1.out.below hb
  have R2 := R2.out.below hb
  have r2 := R2
  obtain ⟨p0, p1, p2, p3, p4, pf, pl⟩ := R1
  obtain ⟨t0, t1, t2, t3, t4, tf, tl⟩ := r2
  clear hb q0 q1 q2 q3 q4 qf ql
  have rd : RefAt W.drew w.heap.size sa ca ra aca ara := (RefAt.mk p0 p1 p2 p3 p4 pf pl).below (below_drewN (Below.refl _ _) 1)
  have sd : RefAt W.drew (w.heap.size + 1) sb cb rb acb arb := (RefAt.mk t0 t1 t2 t3 t4 tf tl).below (below_drewN (Below.refl _ _) 1)
  have HR := Lib.hid rd
  have HS := Lib.hid sd
  have HGd := Lib.hid hg1.drew
  have HBd := Lib.hid hB.drew
  clear rd sd R2 hg1 hB hg
  have y1 : (⟨#[58]⟩ : ByteArray).size ≤ 1 := Nat.le_refl 1
  have n1 : ¬ 9223372036854775807 < p.size + (⟨#[58]⟩ : ByteArray).size := by omega
  have n2 : ¬ 9223372036854775807 < p.size + (⟨#[58]⟩ : ByteArray).size + b.size := by omega
  have n1' : ¬ 9223372036854775807 < p.size + 1 := by omega
  have n2' : ¬ 9223372036854775807 < p.size + 1 + b.size := by omega
  rcases hab with hab | ⟨hab, hab2⟩
  · go_wp2_with fail
    clear p0 p1 p2 p3 p4 pf pl t0 t1 t2 t3 t4 tf tl
    have rd := HR.out
    have sd := HS.out
    have hgd := HGd.out
    have hBd := HBd.out
    go_region_held3 (fun w' => w'.cell? ⟨w.heap.size, 0, none⟩ = some (.string sa) ∧ w'.cell? ⟨w.heap.size, 1, none⟩ = some (.int .i64 ca) ∧ w'.cell? ⟨w.heap.size, 2, none⟩ = some (.int .i64 ra) ∧ w'.cell? ⟨w.heap.size, 3, none⟩ = some (.bool aca) ∧ w'.cell? ⟨w.heap.size, 4, none⟩ = some (.bool ara) ∧ w'.cell? ⟨w.heap.size + 1, 0, none⟩ = some (.string sb) ∧ w'.cell? ⟨w.heap.size + 1, 1, none⟩ = some (.int .i64 cb) ∧ w'.cell? ⟨w.heap.size + 1, 2, none⟩ = some (.int .i64 rb) ∧ w'.cell? ⟨w.heap.size + 1, 3, none⟩ = some (.bool acb) ∧ w'.cell? ⟨w.heap.size + 1, 4, none⟩ = some (.bool arb) ∧ RefAt w' w.heap.size sa ca ra aca ara ∧ RefAt w' (w.heap.size + 1) sb cb rb acb arb ∧ Glob w' ∧ Below w.heap.size w w')
      (first
        | exact ⟨hr.c0, hr.c1, hr.c2, hr.c3, hr.c4, hs.c0, hs.c1, hs.c2, hs.c3, hs.c4, hr, hs, hgl, hbl⟩
        | exact ⟨rd.c0, rd.c1, rd.c2, rd.c3, rd.c4, sd.c0, sd.c1, sd.c2, sd.c3, sd.c4, rd, sd, hgd, hBd⟩)
      (first
        | (go_at_call 115; refine (C3.out _ (by assumption)).mono ?_; rintro e w' ⟨rfl, hb⟩; have hr := RefAt.below (sh := sa) (c := ca) (r := ra) (ac := aca) (ar := ara) (B := w.heap.size) (by assumption) hb; have hs := RefAt.below (sh := sb) (c := cb) (r := rb) (ac := acb) (ar := arb) (B := w.heap.size + 1) (by assumption) hb; have hgl := Glob.below (by assumption) hb; have hbl := bt (w := w) (by assumption) hb)
        | (go_at_call 168; refine (C4.out _ (by assumption)).mono ?_; rintro e w' ⟨rfl, hb⟩; have hr := RefAt.below (sh := sa) (c := ca) (r := ra) (ac := aca) (ar := ara) (B := w.heap.size) (by assumption) hb; have hs := RefAt.below (sh := sb) (c := cb) (r := rb) (ac := acb) (ar := arb) (B := w.heap.size + 1) (by assumption) hb; have hgl := Glob.below (by assumption) hb; have hbl := bt (w := w) (by assumption) hb))
    go_wp2
    go_ret
    exact ⟨rfl, hbl⟩
  · subst hab2
    go_wp2_with fail
    clear p0 p1 p2 p3 p4 pf pl t0 t1 t2 t3 t4 tf tl
    have rd := HR.out
    have sd := HS.out
    have hgd := HGd.out
    have hBd := HBd.out
    go_region_held3 (fun w' => w'.cell? ⟨w.heap.size, 0, none⟩ = some (.string sb) ∧ w'.cell? ⟨w.heap.size, 1, none⟩ = some (.int .i64 ca) ∧ w'.cell? ⟨w.heap.size, 2, none⟩ = some (.int .i64 ra) ∧ w'.cell? ⟨w.heap.size, 3, none⟩ = some (.bool aca) ∧ w'.cell? ⟨w.heap.size, 4, none⟩ = some (.bool ara) ∧ w'.cell? ⟨w.heap.size + 1, 0, none⟩ = some (.string sb) ∧ w'.cell? ⟨w.heap.size + 1, 1, none⟩ = some (.int .i64 cb) ∧ w'.cell? ⟨w.heap.size + 1, 2, none⟩ = some (.int .i64 rb) ∧ w'.cell? ⟨w.heap.size + 1, 3, none⟩ = some (.bool acb) ∧ w'.cell? ⟨w.heap.size + 1, 4, none⟩ = some (.bool arb) ∧ RefAt w' w.heap.size sb ca ra aca ara ∧ RefAt w' (w.heap.size + 1) sb cb rb acb arb ∧ Glob w' ∧ Below w.heap.size w w')
      (first
        | exact ⟨hr.c0, hr.c1, hr.c2, hr.c3, hr.c4, hs.c0, hs.c1, hs.c2, hs.c3, hs.c4, hr, hs, hgl, hbl⟩
        | exact ⟨rd.c0, rd.c1, rd.c2, rd.c3, rd.c4, sd.c0, sd.c1, sd.c2, sd.c3, sd.c4, rd, sd, hgd, hBd⟩)
      (first
        | (go_at_call 115; refine (C3.out _ (by assumption)).mono ?_; rintro e w' ⟨rfl, hb⟩; have hr := RefAt.below (sh := sb) (c := ca) (r := ra) (ac := aca) (ar := ara) (B := w.heap.size) (by assumption) hb; have hs := RefAt.below (sh := sb) (c := cb) (r := rb) (ac := acb) (ar := arb) (B := w.heap.size + 1) (by assumption) hb; have hgl := Glob.below (by assumption) hb; have hbl := bt (w := w) (by assumption) hb)
        | (go_at_call 168; refine (C4.out _ (by assumption)).mono ?_; rintro e w' ⟨rfl, hb⟩; have hr := RefAt.below (sh := sb) (c := ca) (r := ra) (ac := aca) (ar := ara) (B := w.heap.size) (by assumption) hb; have hs := RefAt.below (sh := sb) (c := cb) (r := rb) (ac := acb) (ar := arb) (B := w.heap.size + 1) (by assumption) hb; have hgl := Glob.below (by assumption) hb; have hbl := bt (w := w) (by assumption) hb))
    go_wp2
    go_ret
    exact ⟨rfl, hbl⟩
end

theorem printF_le (sh : List UInt8) (c r : Int) (ac ar : Bool) (h0 : -9223372036854775808 ≤ r) (h1 : r ≤ 9223372036854775807) : (printF sh c r ac ar).length ≤ 100 := by
  have hb := bareF_le c r ac ar h0 h1
  unfold printF
  split
  · decide
  · rename_i hR
    have h31 := right_sheet (by simpa using hR)
    have hq := quote_le sh
    split
    · omega
    · simp only [List.length_append, List.length_cons, List.length_nil]; omega

theorem printRange_any (sa : ByteArray) (ca ra : Int) (aca ara : Bool) (sb : ByteArray) (cb rb : Int) (acb arb : Bool) (w : World) (hc0 : -9223372036854775808 ≤ ca) (hr0 : -9223372036854775808 ≤ ra) (hr1 : ra ≤ 9223372036854775807)
    (kc0 : -9223372036854775808 ≤ cb) (kr0 : -9223372036854775808 ≤ rb) (kr1 : rb ≤ 9223372036854775807) (hg : Glob w) :
    Calls Tryz.prog 116 #[refV sa ca ra aca ara, refV sb cb rb acb arb] w (Q (.string ⟨(printRF sa.data.toList ca ra aca ara sb.data.toList cb rb acb arb).toArray⟩) w) := by
  have c1 := right_any sa ca ra aca ara
  have c2 := right_any sb cb rb acb arb
  have hp : printRF sa.data.toList ca ra aca ara sb.data.toList cb rb acb arb = if !Pl.right sa.data.toList ca ra || !Pl.right sb.data.toList cb rb || (!sb.data.toList.isEmpty && sb.data.toList != sa.data.toList) then refWord else printF sa.data.toList ca ra aca ara ++ [58] ++ bareF cb rb acb arb := rfl
  rw [hp]
  cases hA : Pl.right sa.data.toList ca ra with
  | false =>
    rw [hA] at c1
    exact range_no1 sa ca ra aca ara sb cb rb acb arb w (Lib.hid c1)
  | true =>
    cases hB : Pl.right sb.data.toList cb rb with
    | false =>
      rw [hA] at c1
      rw [hB] at c2
      exact range_no2 sa ca ra aca ara sb cb rb acb arb w (Lib.hid c1) (Lib.hid c2)
    | true =>
      rw [hA] at c1
      rw [hB] at c2
      have hyes : ∀ hab : sb.toList.isEmpty = true ∨ sb.toList.isEmpty = false ∧ sb = sa, Calls Tryz.prog 116 #[refV sa ca ra aca ara, refV sb cb rb acb arb] w (Q (.string ⟨(printF sa.data.toList ca ra aca ara ++ [58] ++ bareF cb rb acb arb).toArray⟩) w) := by
        intro hab
        have h := range_yes sa ca ra aca ara sb cb rb acb arb w ⟨(printF sa.data.toList ca ra aca ara).toArray⟩ ⟨(bareF cb rb acb arb).toArray⟩
          (by rw [size_mk]; have := printF_le sa.data.toList ca ra aca ara hr0 hr1; omega) (by rw [size_mk]; exact bareF_le cb rb acb arb kr0 kr1) hab (Lib.hid c1) (Lib.hid c2)
          (Lib.hid (fun w hg => print_any sa ca ra aca ara w hc0 hr0 hr1 hg)) (Lib.hid (fun w hg => bare_any sb cb rb acb arb w kc0 kr0 kr1 hg)) hg
        have e : (⟨(printF sa.data.toList ca ra aca ara).toArray⟩ : ByteArray) ++ ⟨#[58]⟩ ++ ⟨(bareF cb rb acb arb).toArray⟩ = ⟨(printF sa.data.toList ca ra aca ara ++ [58] ++ bareF cb rb acb arb).toArray⟩ := by
          apply ByteArray.ext; simp
        rw [e] at h
        exact h
      by_cases h0 : sb.toList = []
      · have he : sb.data.toList.isEmpty = true := by rw [toList_nil.1 h0]; rfl
        rw [he]
        exact hyes (Or.inl (by rw [h0]; rfl))
      · obtain ⟨h1, h2, h3⟩ := isEmpty_nil h0
        rw [h2]
        by_cases hab : sb = sa
        · have e : (sb.data.toList != sa.data.toList) = false := by rw [hab]; simp
          rw [e]
          exact hyes (Or.inr ⟨h1, hab⟩)
        · have e : (sb.data.toList != sa.data.toList) = true := by
            rw [bne_iff_ne]; exact fun e => hab (ByteArray.ext (Array.toList_inj.1 e))
          rw [e]
          have hab' : (sb.toList == sa.toList) = false := by
            rw [Lib.toList_data, Lib.toList_data]
            cases hx : (sb.data.toList == sa.data.toList) with
            | true => exact absurd (ByteArray.ext (Array.toList_inj.1 (beq_iff_eq.1 hx))) hab
            | false => rfl
          exact range_no3 sa ca ra aca ara sb cb rb acb arb w h1 hab' (Lib.hid c1) (Lib.hid c2)
end Go.Proofs.YtfkiomjplpbmiaaGreatDoor

/- Contracts of package cells, fifteenth part: ParseRange. -/
namespace Go.Proofs.YtfkiomjplpbmiaaGreatDoor
open Go.RowKit Go.Lib

/-- What ParseRange tells of a text: the error, the sheet, the two cells. -/
def rangeG (nm : List UInt8) (is two : Bool) (x y : Int × Int × Int × Bool × Bool) : Int × List UInt8 × (Int × Int × Bool × Bool) × (Int × Int × Bool × Bool) :=
  if !is || !two || x.1 == 40 || y.1 == 40 then (40, [], (0, 0, false, false), (0, 0, false, false))
  else if x.1 != 0 || y.1 != 0 then (41, [], (0, 0, false, false), (0, 0, false, false)) else (0, nm, x.2, y.2)
def parseRF (l : List UInt8) : Int × List UInt8 × (Int × Int × Bool × Bool) × (Int × Int × Bool × Bool) :=
  rangeG (sheetF l).1 (sheetF l).2.2 (Pl.cut1 58 (sheetF l).2.1).2.2 (cellF (Pl.cut1 58 (sheetF l).2.1).1) (cellF (Pl.cut1 58 (sheetF l).2.1).2.1)
def parseRV (x : Int × List UInt8 × (Int × Int × Bool × Bool) × (Int × Int × Bool × Bool)) : Value :=
  .tuple #[refV ⟨x.2.1.toArray⟩ x.2.2.1.1 x.2.2.1.2.1 x.2.2.1.2.2.1 x.2.2.1.2.2.2, refV ⟨x.2.1.toArray⟩ x.2.2.2.1 x.2.2.2.2.1 x.2.2.2.2.2.1 x.2.2.2.2.2.2, .int .i64 x.1]
def zeroV (e : Int) : Value := .tuple #[refV ⟨#[]⟩ 0 0 false false, refV ⟨#[]⟩ 0 0 false false, .int .i64 e]

/-- Five stores into another block. -/
theorem RefAt.other5 {w : World} {B D : Nat} {sh : ByteArray} {c r : Int} {ac ar : Bool} (h : RefAt w B sh c r ac ar) (hne : B ≠ D) (v0 v1 v2 v3 v4 : Value) :
    RefAt (((((w.setCell ⟨D, 0, none⟩ v0).setCell ⟨D, 1, none⟩ v1).setCell ⟨D, 2, none⟩ v2).setCell ⟨D, 3, none⟩ v3).setCell ⟨D, 4, none⟩ v4) B sh c r ac ar :=
  ((((h.other ⟨D, 0, none⟩ v0 hne).other ⟨D, 1, none⟩ v1 hne).other ⟨D, 2, none⟩ v2 hne).other ⟨D, 3, none⟩ v3 hne).other ⟨D, 4, none⟩ v4 hne
theorem RefAt.drew {w : World} {B : Nat} {sh : ByteArray} {c r : Int} {ac ar : Bool} (h : RefAt w B sh c r ac ar) : RefAt w.drew B sh c r ac ar := h.below (below_drewN (Below.refl _ _) 1)

def zeroTwo (w : World) (B : Nat) : World :=
  (((((((((w.setCell ⟨B, 0, none⟩ (.string ⟨#[]⟩)).setCell ⟨B, 1, none⟩ (.int .i64 0)).setCell ⟨B, 2, none⟩ (.int .i64 0)).setCell ⟨B, 3, none⟩ (.bool false)).setCell ⟨B, 4, none⟩ (.bool false)).setCell ⟨B + 1, 0, none⟩ (.string ⟨#[]⟩)).setCell ⟨B + 1, 1, none⟩ (.int .i64 0)).setCell ⟨B + 1, 2, none⟩ (.int .i64 0)).setCell ⟨B + 1, 3, none⟩ (.bool false)).setCell ⟨B + 1, 4, none⟩ (.bool false)
theorem two_zero {w w4 : World} (Z1 : RefAt w4 w.heap.size ⟨#[]⟩ 0 0 false false) (Z2 : RefAt w4 (w.heap.size + 1) ⟨#[]⟩ 0 0 false false) (HB : Below w.heap.size w w4) (o : Obj) :
    RefAt ((zeroTwo w4 w.heap.size).alloc o) w.heap.size ⟨#[]⟩ 0 0 false false ∧ RefAt ((zeroTwo w4 w.heap.size).alloc o) (w.heap.size + 1) ⟨#[]⟩ 0 0 false false ∧ Below w.heap.size w ((zeroTwo w4 w.heap.size).alloc o) :=
  ⟨((Z1.set5 ⟨#[]⟩ 0 0 false false).other5 (D := w.heap.size + 1) (by omega) (.string ⟨#[]⟩) (.int .i64 0) (.int .i64 0) (.bool false) (.bool false)).alloc o,
   ((Z2.other5 (D := w.heap.size) (by omega) (.string ⟨#[]⟩) (.int .i64 0) (.int .i64 0) (.bool false) (.bool false)).set5 ⟨#[]⟩ 0 0 false false).alloc o,
   (below_set5 (below_set5 HB (Nat.le_refl _) _ _ _ _ _) (Nat.le_succ _) _ _ _ _ _).alloc (below_set5 (below_set5 HB (Nat.le_refl _) _ _ _ _ _) (Nat.le_succ _) _ _ _ _ _).size o⟩

theorem cut_le (c : UInt8) (l : List UInt8) : (Pl.cut1 c l).1.length ≤ l.length ∧ (Pl.cut1 c l).2.1.length ≤ l.length := by
  refine ⟨takeWhile_le _ l, ?_⟩
  have := dropWhile_le (· != c) l
  show ((l.dropWhile (· != c)).tail).length ≤ l.length
  rw [List.length_tail]; omega

end Go.Proofs.YtfkiomjplpbmiaaGreatDoor

/- The plain law of CellsBack: what is written is read again, and what is read is what was written. No program in sight. -/
namespace Go.Proofs.YtfkiomjplpbmiaaGreatDoor
open Go.Lib

/-! ### Numerals -/
def dig (u : Nat) : UInt8 := UInt8.ofNat (48 + u)
theorem dig_toNat {u : Nat} (h : u < 10) : (dig u).toNat = 48 + u := by
  unfold dig; rw [UInt8.toNat_ofNat']; omega
theorem dec_small {u : Nat} (h : u < 10) : decDigits u = [dig u] := by rw [decDigits, dif_pos h]; rfl
theorem dec_big {u : Nat} (h : ¬ u < 10) : decDigits u = decDigits (u / 10) ++ [dig (u % 10)] := by rw [decDigits, dif_neg h]; rfl
theorem num_snoc (l : List UInt8) (b : UInt8) : num (l ++ [b]) = 10 * num l + (b.toNat - 48) := by unfold num; rw [List.foldl_append]; rfl
theorem digit_dig {u : Nat} (h : u < 10) : Pl.digit (dig u) = true := by rw [digit_iff, dig_toNat h]; omega

/-- A decimal numeral: digits, the first of them no zero, and its number. -/
theorem dec_facts : ∀ (n u : Nat), u ≤ n → 1 ≤ u → (decDigits u).all Pl.digit = true ∧ num (decDigits u) = u ∧ (decDigits u).isEmpty = false ∧ (decDigits u).head? ≠ some 48 := by
  intro n
  induction n with
  | zero => intro u h h1; omega
  | succ n ih =>
    intro u h h1
    by_cases h10 : u < 10
    · rw [dec_small h10]
      refine ⟨by simp [digit_dig h10], ?_, rfl, ?_⟩
      · show 10 * 0 + ((dig u).toNat - 48) = u
        rw [dig_toNat h10]; omega
      · intro e
        have e : dig u = 48 := by simpa using e
        have := dig_toNat h10
        rw [e] at this
        have h48 : (48 : UInt8).toNat = 48 := rfl
        omega
    · rw [dec_big h10]
      obtain ⟨i1, i2, i3, i4⟩ := ih (u / 10) (by omega) (by omega)
      have hm : u % 10 < 10 := Nat.mod_lt _ (by decide)
      refine ⟨?_, ?_, ?_, ?_⟩
      · rw [List.all_append, i1]; simp [digit_dig hm]
      · rw [num_snoc, i2, dig_toNat hm]; omega
      · cases hd : decDigits (u / 10) with
        | nil => rw [hd] at i3; cases i3
        | cons b l => rfl
      · cases hd : decDigits (u / 10) with
        | nil => rw [hd] at i3; cases i3
        | cons b l => rw [hd] at i4; simpa using i4

theorem dec_num : ∀ (l : List UInt8), l.reverse.all Pl.digit = true → l ≠ [] → l.reverse.head? ≠ some 48 → decDigits (num l.reverse) = l.reverse ∧ 1 ≤ num l.reverse
  | [], _, h, _ => absurd rfl h
  | [b], h, _, hz => by
    have hb : Pl.digit b = true := by simpa using h
    rw [digit_iff] at hb
    have e : num [b] = b.toNat - 48 := by show 10 * 0 + (b.toNat - 48) = _; omega
    have hne : b.toNat ≠ 48 := by
      intro e
      apply hz
      have : b = 48 := UInt8.toNat_inj.1 e
      rw [this]; rfl
    show decDigits (num [b]) = [b] ∧ 1 ≤ num [b]
    rw [e, dec_small (by omega)]
    refine ⟨?_, by omega⟩
    have : dig (b.toNat - 48) = b := by
      apply UInt8.toNat_inj.1
      rw [dig_toNat (by omega)]; omega
    rw [this]
  | b :: c :: l, h, _, hz => by
    have hr : (b :: c :: l).reverse = (c :: l).reverse ++ [b] := List.reverse_cons
    rw [hr] at h hz ⊢
    rw [List.all_append, Bool.and_eq_true] at h
    have hb : Pl.digit b = true := by simpa using h.2
    rw [digit_iff] at hb
    have hz' : (c :: l).reverse.head? ≠ some 48 := by
      intro e
      apply hz
      rw [List.head?_append, e]; rfl
    obtain ⟨i1, i2⟩ := dec_num (c :: l) h.1 (by simp) hz'
    rw [num_snoc]
    refine ⟨?_, by omega⟩
    rw [dec_big (by omega)]
    have e1 : (10 * num (c :: l).reverse + (b.toNat - 48)) / 10 = num (c :: l).reverse := by omega
    have e2 : (10 * num (c :: l).reverse + (b.toNat - 48)) % 10 = b.toNat - 48 := by omega
    rw [e1, e2, i1]
    have : dig (b.toNat - 48) = b := by
      apply UInt8.toNat_inj.1
      rw [dig_toNat (by omega)]; omega
    rw [this]

theorem itoa_num {l : List UInt8} (h : l.all Pl.digit = true) (h0 : l.isEmpty = false) (hz : l.head? ≠ some 48) : itoa (num l : Int) = l ∧ 1 ≤ num l := by
  have hne : l.reverse ≠ [] := by
    intro e
    rw [List.reverse_eq_nil_iff.1 e] at h0; cases h0
  have hk := dec_num l.reverse (by rw [List.reverse_reverse]; exact h) hne (by rw [List.reverse_reverse]; exact hz)
  rw [List.reverse_reverse] at hk
  refine ⟨?_, hk.2⟩
  unfold itoa
  rw [if_neg (by omega), Int.toNat_natCast]; exact hk.1

theorem itoa_facts {r : Int} (h1 : 1 ≤ r) (h2 : r ≤ 512) : (itoa r).all Pl.digit = true ∧ num (itoa r) = r.toNat ∧ (itoa r).isEmpty = false ∧ (itoa r).head? ≠ some 48 ∧ (itoa r).length ≤ 3 := by
  have e : itoa r = decDigits r.toNat := by unfold itoa; rw [if_neg (by omega)]
  rw [e]
  obtain ⟨i1, i2, i3, i4⟩ := dec_facts r.toNat r.toNat (Nat.le_refl _) (by omega)
  refine ⟨i1, i2, i3, i4, ?_⟩
  rw [decDigits_length]
  by_cases a : r.toNat < 10
  · rw [nDigits_small a]; decide
  · rw [nDigits_big a]
    by_cases b : r.toNat / 10 < 10
    · rw [nDigits_small b]; decide
    · rw [nDigits_big b, nDigits_small (by omega)]; decide

/-! ### Letters -/
theorem letters_facts {c : Int} (h1 : 1 ≤ c) (h2 : c ≤ 64) : Pl.col (Pl.letters c) = (c, true) ∧ (Pl.letters c).all Pl.capital = true ∧ (Pl.letters c).isEmpty = false ∧ (Pl.letters c).length ≤ 2 := by
  have h : ∀ i : Fin 64, Pl.col (Pl.letters (i.val + 1 : Nat)) = (((i.val + 1 : Nat) : Int), true) ∧ (Pl.letters (i.val + 1 : Nat)).all Pl.capital = true ∧ (Pl.letters (i.val + 1 : Nat)).isEmpty = false ∧ (Pl.letters (i.val + 1 : Nat)).length ≤ 2 := by decide +kernel
  have k := h ⟨c.toNat - 1, by omega⟩
  have e : ((c.toNat - 1 + 1 : Nat) : Int) = c := by omega
  simp only [e] at k
  exact k

theorem letters_col {l : List UInt8} (h0 : l.isEmpty = false) (h : (Pl.col l).2 = true) : Pl.letters (Pl.col l).1 = l ∧ 1 ≤ (Pl.col l).1 ∧ (Pl.col l).1 ≤ 64 := by
  have hc : Pl.col l = if l.isEmpty || decide (3 < l.length) || !l.all Pl.capital || decide (64 < Pl.colNum l) then (0, false) else ((Pl.colNum l : Int), true) := rfl
  by_cases hb : (l.isEmpty || decide (3 < l.length) || !l.all Pl.capital || decide (64 < Pl.colNum l)) = true
  · rw [hc, if_pos hb] at h; cases h
  · rw [hc, if_neg hb]
    simp only [Bool.or_eq_true, not_or, decide_eq_true_eq, Bool.not_eq_true', Bool.not_eq_false] at hb
    obtain ⟨⟨⟨_, b2⟩, b3⟩, b4⟩ := hb
    dsimp only
    match l, h0, b2, b3, b4 with
    | [a], _, _, b3, b4 =>
      have ha : Pl.capital a = true := by simpa using b3
      rw [capital_iff] at ha
      have e : Pl.colNum [a] = a.toNat - 64 := by show 26 * 0 + (a.toNat - 65) + 1 = _; omega
      rw [e]
      refine ⟨?_, by omega, by omega⟩
      unfold Pl.letters
      rw [if_neg (by omega), if_pos (by omega)]
      have : UInt8.ofNat (64 + ((a.toNat - 64 : Nat) : Int).toNat) = a := by
        apply UInt8.toNat_inj.1
        rw [UInt8.toNat_ofNat']; omega
      rw [this]
    | [a, b], _, _, b3, b4 =>
      simp only [List.all_cons, List.all_nil, Bool.and_true, Bool.and_eq_true] at b3
      obtain ⟨ha, hb⟩ := b3
      rw [capital_iff] at ha hb
      have e : Pl.colNum [a, b] = 26 * (a.toNat - 64) + (b.toNat - 64) := by show 26 * (26 * 0 + (a.toNat - 65) + 1) + (b.toNat - 65) + 1 = _; omega
      rw [e] at b4 ⊢
      refine ⟨?_, by omega, by omega⟩
      unfold Pl.letters
      rw [if_neg (by omega), if_neg (by omega)]
      have e1 : UInt8.ofNat (64 + (((26 * (a.toNat - 64) + (b.toNat - 64) : Nat) : Int).toNat - 1) / 26) = a := by
        apply UInt8.toNat_inj.1
        rw [UInt8.toNat_ofNat']; omega
      have e2 : UInt8.ofNat (65 + (((26 * (a.toNat - 64) + (b.toNat - 64) : Nat) : Int).toNat - 1) % 26) = b := by
        apply UInt8.toNat_inj.1
        rw [UInt8.toNat_ofNat']; omega
      rw [e1, e2]
    | [a, b, d], _, _, b3, b4 =>
      simp only [List.all_cons, List.all_nil, Bool.and_true, Bool.and_eq_true] at b3
      obtain ⟨ha, hb, hd⟩ := b3
      rw [capital_iff] at ha hb hd
      have e : Pl.colNum [a, b, d] = 26 * (26 * (26 * 0 + (a.toNat - 65) + 1) + (b.toNat - 65) + 1) + (d.toNat - 65) + 1 := rfl
      omega
    | _ :: _ :: _ :: _ :: _, _, b2, _, _ => simp at b2

/-! ### A cell -/
theorem mark_cut (l : List UInt8) : mark (l.head? == some 36) ++ cutD l = l := by
  unfold cutD
  cases l with
  | nil => rfl
  | cons b l =>
    by_cases h : b = 36
    · subst h; rfl
    · have : ((b :: l).head? == some 36) = false := by simp [h]
      rw [this]; rfl

theorem cut_mark (b : Bool) (l : List UInt8) (h : l.head? ≠ some 36) : cutD (mark b ++ l) = l ∧ ((mark b ++ l).head? == some 36) = b := by
  unfold cutD
  cases b
  · show (if (l.head? == some 36) = true then l.tail else l) = l ∧ (l.head? == some 36) = false
    have : (l.head? == some 36) = false := by simpa using h
    rw [this]; simp
  · exact ⟨rfl, rfl⟩

theorem take_drop_all {p : UInt8 → Bool} {a b : List UInt8} (h : a.all p = true) (hb : ∀ x, b.head? = some x → p x = false) : (a ++ b).takeWhile p = a ∧ (a ++ b).dropWhile p = b := by
  induction a with
  | nil =>
    cases b with
    | nil => exact ⟨rfl, rfl⟩
    | cons x b =>
      have := hb x rfl
      simp [this]
  | cons x a ih =>
    simp only [List.all_cons, Bool.and_eq_true] at h
    obtain ⟨i1, i2⟩ := ih h.2
    simp [h.1, i1, i2]

theorem head_all {p : UInt8 → Bool} {l : List UInt8} (h : l.all p = true) {x : UInt8} (hx : l.head? = some x) : p x = true := by
  cases l with
  | nil => cases hx
  | cons b l =>
    simp only [List.all_cons, Bool.and_eq_true] at h
    obtain rfl : b = x := by simpa using hx
    exact h.1
theorem head_append {a b : List UInt8} (h : a.isEmpty = false) : (a ++ b).head? = a.head? := by
  cases a with
  | nil => cases h
  | cons _ _ => rfl

theorem cell_parts (ac ar : Bool) {L D : List UInt8} (hL : L.all Pl.capital = true) (hL0 : L.isEmpty = false) (hD : D.all Pl.digit = true) :
    cellF (mark ac ++ L ++ mark ar ++ D) = cellG L D [] ac ar := by
  have hDh : D.head? ≠ some 36 := fun e => by have := head_all hD e; revert this; decide
  have hLh : (L ++ (mark ar ++ D)).head? ≠ some 36 := fun e => by
    rw [head_append hL0] at e
    have := head_all hL e; revert this; decide
  have e0 : mark ac ++ L ++ mark ar ++ D = mark ac ++ (L ++ (mark ar ++ D)) := by simp
  obtain ⟨c1, c2⟩ := cut_mark ac _ hLh
  obtain ⟨d1, d2⟩ := cut_mark ar _ hDh
  have hx : ∀ x, (mark ar ++ D).head? = some x → Pl.capital x = false := by
    intro x hx
    cases ar
    · have := head_all hD hx
      rw [digit_iff] at this
      cases hc : Pl.capital x with
      | true => rw [capital_iff] at hc; omega
      | false => rfl
    · obtain rfl : (36 : UInt8) = x := by simpa [mark] using hx
      rfl
  obtain ⟨t1, t2⟩ := take_drop_all hL hx
  have hD2 := take_drop_all (b := []) hD (fun x hx => by cases hx)
  rw [List.append_nil] at hD2
  rw [e0]
  unfold cellF
  rw [c1, c2, t1, t2, d1, d2, hD2.1, hD2.2]

theorem cell_print {c r : Int} (ac ar : Bool) (h : Pl.rightN c r = true) : cellF (bareF c r ac ar) = (0, c, r, ac, ar) := by
  unfold Pl.rightN at h
  simp only [Bool.and_eq_true, decide_eq_true_eq] at h
  obtain ⟨⟨⟨h1, h2⟩, h3⟩, h4⟩ := h
  obtain ⟨l1, l2, l3, l4⟩ := letters_facts h1 h2
  obtain ⟨d1, d2, d3, d4, d5⟩ := itoa_facts h3 h4
  unfold bareF
  rw [cell_parts ac ar l2 l3 d1]
  unfold cellG
  have e1 : decide (3 < (Pl.letters c).length) = false := by rw [decide_eq_false_iff_not]; omega
  have e2 : decide (7 < (itoa r).length) = false := by rw [decide_eq_false_iff_not]; omega
  have e3 : ((itoa r).head? == some 48) = false := by simpa using d4
  have e4 : decide (512 < num (itoa r)) = false := by rw [decide_eq_false_iff_not, d2]; omega
  rw [l3, d3, e1, e2, e3, l1, e4, d2]
  simp
  omega

theorem cell_back {l : List UInt8} {c r : Int} {ac ar : Bool} (h : cellF l = (0, c, r, ac, ar)) : bareF c r ac ar = l ∧ Pl.rightN c r = true := by
  have k1 := mark_cut l
  have k2 := List.takeWhile_append_dropWhile (p := Pl.capital) (l := cutD l)
  have k3 := mark_cut ((cutD l).dropWhile Pl.capital)
  have k4 := List.takeWhile_append_dropWhile (p := Pl.digit) (l := cutD ((cutD l).dropWhile Pl.capital))
  have kd := takeWhile_all_digit (cutD ((cutD l).dropWhile Pl.capital))
  unfold cellF at h
  generalize (l.head? == some 36) = b1 at *
  generalize cutD l = l1 at *
  generalize ((l1.dropWhile Pl.capital).head? == some 36) = b2 at *
  generalize l1.takeWhile Pl.capital = L at *
  generalize l1.dropWhile Pl.capital = l2 at *
  generalize cutD l2 = l3 at *
  generalize l3.takeWhile Pl.digit = D at *
  generalize l3.dropWhile Pl.digit = l4 at *
  unfold cellG at h
  by_cases hb : (L.isEmpty || decide (3 < L.length) || D.isEmpty || decide (7 < D.length) || (D.head? == some 48) || !l4.isEmpty) = true
  · rw [if_pos hb] at h; cases h
  · rw [if_neg hb] at h
    simp only [Bool.or_eq_true, not_or, decide_eq_true_eq, Bool.not_eq_true', Bool.not_eq_false, Bool.not_eq_true] at hb
    obtain ⟨⟨⟨⟨⟨b1', _⟩, b3⟩, _⟩, b5⟩, b6⟩ := hb
    by_cases hc : (!(Pl.col L).2 || decide (512 < num D)) = true
    · rw [if_pos hc] at h; cases h
    · rw [if_neg hc] at h
      simp only [Bool.or_eq_true, not_or, decide_eq_true_eq, Bool.not_eq_true', Bool.not_eq_false] at hc
      simp only [Prod.mk.injEq, true_and] at h
      obtain ⟨rfl, rfl, rfl, rfl⟩ := h
      obtain ⟨m1, m2, m3⟩ := letters_col b1' hc.1
      obtain ⟨n1, n2⟩ := itoa_num kd b3 (by simpa using b5)
      refine ⟨?_, ?_⟩
      · unfold bareF
        rw [m1, n1, ← k1, ← k2, ← k3, ← k4, List.isEmpty_iff.1 b6]
        simp
      · unfold Pl.rightN
        simp only [Bool.and_eq_true, decide_eq_true_eq]
        omega

/-! ### A sheet -/
theorem quoted_print : ∀ (sh acc r : List UInt8), r.head? ≠ some 39 → quotedL acc (sh.flatMap Pl.quoteB ++ 39 :: r) = some (acc ++ sh, r)
  | [], acc, r, h => by
    rw [List.flatMap_nil, List.nil_append, quotedL, if_pos rfl, if_neg h, List.append_nil]
  | b :: sh, acc, r, h => by
    have ih := quoted_print sh (acc ++ [b]) r h
    rw [List.append_assoc] at ih
    by_cases hb : b = 39
    · subst hb
      show quotedL acc (39 :: 39 :: (sh.flatMap Pl.quoteB ++ 39 :: r)) = _
      rw [quotedL, if_pos rfl, if_pos List.head?_cons]
      exact ih
    · have e : (b :: sh).flatMap Pl.quoteB ++ 39 :: r = b :: (sh.flatMap Pl.quoteB ++ 39 :: r) := by
        rw [List.flatMap_cons]; unfold Pl.quoteB; rw [if_neg hb]; rfl
      rw [e, quotedL, if_neg hb]
      exact ih

theorem quoted_back : ∀ (k : Nat) (l acc n r : List UInt8), l.length ≤ k → quotedL acc l = some (n, r) → ∃ m, n = acc ++ m ∧ l = m.flatMap Pl.quoteB ++ 39 :: r := by
  intro k
  induction k with
  | zero =>
    intro l acc n r hk h
    obtain rfl : l = [] := List.length_eq_zero_iff.1 (by omega)
    rw [quotedL] at h; cases h
  | succ k ih =>
    intro l acc n r hk h
    cases l with
    | nil => rw [quotedL] at h; cases h
    | cons c l =>
      simp only [List.length_cons] at hk
      rw [quotedL] at h
      by_cases hc : c = 39
      · subst hc
        rw [if_pos rfl] at h
        by_cases hh : l.head? = some 39
        · rw [if_pos hh] at h
          cases l with
          | nil => cases hh
          | cons d l =>
            obtain rfl : d = 39 := by simpa using hh
            obtain ⟨m, m1, m2⟩ := ih l _ n r (by simp only [List.length_cons] at hk; omega) h
            refine ⟨39 :: m, by rw [m1]; simp, ?_⟩
            rw [m2]; rfl
        · rw [if_neg hh] at h
          injection h with h
          injection h with h1 h2
          exact ⟨[], by simp [h1], by rw [h2]; rfl⟩
      · rw [if_neg hc] at h
        obtain ⟨m, m1, m2⟩ := ih l _ n r (by omega) h
        refine ⟨c :: m, by rw [m1]; simp, ?_⟩
        rw [m2, List.flatMap_cons]
        unfold Pl.quoteB
        rw [if_neg hc]; rfl

theorem wordly_facts {l : List UInt8} (h : Pl.wordly l = true) : l.head? ≠ some 39 ∧ l.all (· != 33) = true ∧ l.isEmpty = false := by
  cases l with
  | nil => cases h
  | cons b l =>
    have h' : (Pl.letter b && l.all fun c => Pl.letter c || Pl.digit c) = true := h
    rw [Bool.and_eq_true] at h'
    have hl : ∀ c : UInt8, (Pl.letter c || Pl.digit c) = true → (c != 33) = true ∧ c ≠ 39 := by
      intro c hc
      rw [Bool.or_eq_true, letter_iff, digit_iff] at hc
      have a : c ≠ 33 := by rintro rfl; revert hc; decide
      exact ⟨by simpa using a, by rintro rfl; revert hc; decide⟩
    refine ⟨?_, ?_, rfl⟩
    · intro e
      have e : b = 39 := by simpa using e
      exact (hl b (by rw [h'.1]; rfl)).2 e
    · rw [List.all_cons, (hl b (by rw [h'.1]; rfl)).1, Bool.true_and]
      rw [List.all_eq_true] at h' ⊢
      exact fun c hc => (hl c (h'.2 c hc)).1

theorem contains_false_iff {l : List UInt8} {c : UInt8} : l.all (· != c) = true ↔ l.contains c = false := by
  induction l with
  | nil => simp
  | cons b l ih =>
    rw [List.all_cons, Bool.and_eq_true, List.contains_cons, Bool.or_eq_false_iff, ih]
    constructor
    · rintro ⟨h1, h2⟩
      exact ⟨by rw [beq_eq_false_iff_ne]; rintro rfl; simp at h1, h2⟩
    · rintro ⟨h1, h2⟩
      exact ⟨by rw [bne_iff_ne]; rintro rfl; simp at h1, h2⟩

/-- A sheet's name, as it is written, and what is behind. -/
theorem sheet_print {sh t : List UInt8} (h : Pl.sheetName sh = true) : sheetF (Pl.quote sh ++ [33] ++ t) = (sh, t, true) := by
  cases hw : Pl.wordly sh with
  | true =>
    obtain ⟨w1, w2, w3⟩ := wordly_facts hw
    have e : Pl.quote sh ++ [33] ++ t = sh ++ 33 :: t := by unfold Pl.quote; rw [hw, if_pos rfl]; simp
    rw [e]
    obtain ⟨t1, t2⟩ := take_drop_all (b := 33 :: t) w2 (fun x hx => by obtain rfl : (33 : UInt8) = x := by simpa using hx
                                                                       rfl)
    unfold sheetF
    rw [if_neg (by rw [head_append w3]; exact w1), if_pos (by simp), t1, t2, hw, h]
    rfl
  | false =>
    have e : Pl.quote sh ++ [33] ++ t = 39 :: (sh.flatMap Pl.quoteB ++ 39 :: 33 :: t) := by unfold Pl.quote; rw [hw, if_neg (by decide)]; simp
    have q := quoted_print sh [] (33 :: t) (by simp)
    rw [e]
    unfold sheetF quoted
    rw [if_pos List.head?_cons]
    show (match quotedL [] (sh.flatMap Pl.quoteB ++ 39 :: 33 :: t) with
      | none => ([], [], false)
      | some (n, r) => (n, if r.head? = some 33 then r.tail else r, (r.head? == some 33) && Pl.sheetName n && !Pl.wordly n)) = _
    rw [q]
    show (sh, t, true && Pl.sheetName sh && !Pl.wordly sh) = _
    rw [h, hw]; rfl

theorem sheet_none {t : List UInt8} (h : t.all (· != 33) = true) (h' : t.head? ≠ some 39) : sheetF t = ([], t, true) := by
  unfold sheetF
  rw [if_neg h', if_neg (by rw [contains_false_iff.1 h]; decide)]

theorem sheet_back {l nm rest : List UInt8} (h : sheetF l = (nm, rest, true)) : (if nm.isEmpty then rest else Pl.quote nm ++ [33] ++ rest) = l ∧ (nm.isEmpty || Pl.sheetName nm) = true := by
  have hne : ∀ n, Pl.sheetName n = true → n.isEmpty = false := by
    intro n hn
    unfold Pl.sheetName at hn
    simp only [Bool.and_eq_true, Bool.not_eq_true'] at hn
    exact hn.1.1.1.1
  unfold sheetF at h
  by_cases h39 : l.head? = some 39
  · rw [if_pos h39] at h
    cases hq : quoted l.tail with
    | none => rw [hq] at h; cases h
    | some p =>
      obtain ⟨n, r⟩ := p
      rw [hq] at h
      simp only [Prod.mk.injEq, Bool.and_eq_true, Bool.not_eq_true'] at h
      obtain ⟨rfl, rfl, ⟨h3, h4⟩, h5⟩ := h
      obtain ⟨m, m1, m2⟩ := quoted_back _ _ _ _ _ (Nat.le_refl _) hq
      rw [List.nil_append] at m1
      subst m1
      have h3' : r.head? = some 33 := by simpa using h3
      rw [hne _ h4, if_neg (by decide), if_pos h3', h4]
      refine ⟨?_, rfl⟩
      cases l with
      | nil => cases h39
      | cons b l =>
        obtain rfl : b = 39 := by simpa using h39
        have m2 : l = n.flatMap Pl.quoteB ++ 39 :: r := m2
        cases r with
        | nil => cases h3'
        | cons d r =>
          obtain rfl : d = 33 := by simpa using h3'
          rw [m2]
          unfold Pl.quote
          rw [h5, if_neg (by decide)]
          simp
  · rw [if_neg h39] at h
    by_cases h33 : l.contains 33 = true
    · rw [if_pos h33] at h
      simp only [Prod.mk.injEq, Bool.and_eq_true] at h
      obtain ⟨h1, h2, h3, h4⟩ := h
      rw [h1] at h3 h4
      rw [hne _ h4, if_neg (by decide), h4]
      refine ⟨?_, rfl⟩
      have k := List.takeWhile_append_dropWhile (p := (· != 33)) (l := l)
      have hd : ∃ t, l.dropWhile (· != 33) = 33 :: t := by
        cases hx : l.dropWhile (· != 33) with
        | nil =>
          have := dropWhile_nil _ _ hx
          have h33' : l.all (· != 33) = true := by rw [List.all_eq_true]; exact this
          rw [contains_false_iff.1 h33'] at h33; cases h33
        | cons b t =>
          have hp : ∀ (l : List UInt8), l.dropWhile (· != 33) = b :: t → (b != 33) = false := by
            intro l
            induction l with
            | nil => intro h; cases h
            | cons d l ih =>
              intro h
              rw [List.dropWhile_cons] at h
              split at h
              · exact ih h
              · rename_i hd
                injection h with h _
                subst h; simpa using hd
          have := hp l hx
          have : b = 33 := by simpa using this
          exact ⟨t, by rw [this]⟩
      obtain ⟨t, ht⟩ := hd
      rw [ht] at h2 k
      have h2 : t = rest := h2
      subst h2
      rw [h1] at k
      unfold Pl.quote
      rw [h3, if_pos rfl, ← k]; simp
    · rw [if_neg h33] at h
      simp only [Prod.mk.injEq, and_true] at h
      obtain ⟨rfl, rfl⟩ := h
      exact ⟨rfl, rfl⟩

/-! ### References and ranges -/
def bareB (b : UInt8) : Bool := Pl.capital b || Pl.digit b || b == 36
theorem bareB_not {b : UInt8} (h : bareB b = true) : (b != 33) = true ∧ (b != 39) = true ∧ (b != 58) = true := by
  refine ⟨?_, ?_, ?_⟩ <;> (rw [bne_iff_ne]; rintro rfl; revert h; decide)
theorem bare_all {c r : Int} (ac ar : Bool) (h : Pl.rightN c r = true) : (bareF c r ac ar).all bareB = true ∧ (bareF c r ac ar).isEmpty = false := by
  unfold Pl.rightN at h
  simp only [Bool.and_eq_true, decide_eq_true_eq] at h
  obtain ⟨⟨⟨h1, h2⟩, h3⟩, h4⟩ := h
  obtain ⟨_, l2, l3, _⟩ := letters_facts h1 h2
  obtain ⟨d1, _, d3, _, _⟩ := itoa_facts h3 h4
  have hm : ∀ b, (mark b).all bareB = true := by decide
  have e1 : (Pl.letters c).all bareB = true := by
    rw [List.all_eq_true] at l2 ⊢
    intro x hx; unfold bareB; rw [l2 x hx]; rfl
  have e2 : (itoa r).all bareB = true := by
    rw [List.all_eq_true] at d1 ⊢
    intro x hx; unfold bareB; rw [d1 x hx]; simp
  unfold bareF
  refine ⟨by simp only [List.all_append, hm, e1, e2]; rfl, ?_⟩
  cases hd : Pl.letters c with
  | nil => rw [hd] at l3; cases l3
  | cons b l => cases ac <;> rfl
theorem all_of {p q : UInt8 → Bool} {l : List UInt8} (h : l.all p = true) (hpq : ∀ b, p b = true → q b = true) : l.all q = true := by
  rw [List.all_eq_true] at h ⊢
  exact fun x hx => hpq x (h x hx)

theorem right_parts {sh : List UInt8} {c r : Int} (h : Pl.right sh c r = true) : Pl.rightN c r = true ∧ (sh.isEmpty = true ∨ sh.isEmpty = false ∧ Pl.sheetName sh = true) := by
  unfold Pl.right at h
  rw [Bool.and_eq_true, Bool.or_eq_true] at h
  refine ⟨h.1, ?_⟩
  cases he : sh.isEmpty with
  | true => exact Or.inl rfl
  | false => rw [he] at h; exact Or.inr ⟨rfl, by simpa using h.2⟩

/-- A text behind a sheet's name, or alone. -/
theorem sheet_of {sh t : List UInt8} (hs : sh.isEmpty = true ∨ sh.isEmpty = false ∧ Pl.sheetName sh = true) (ht : t.all (fun b => bareB b || b == 58) = true) :
    sheetF ((if sh.isEmpty then [] else Pl.quote sh ++ [33]) ++ t) = (sh, t, true) := by
  have hn : ∀ b : UInt8, (bareB b || b == 58) = true → (b != 33) = true ∧ (b != 39) = true := by
    intro b hb
    rw [Bool.or_eq_true] at hb
    rcases hb with hb | hb
    · exact ⟨(bareB_not hb).1, (bareB_not hb).2.1⟩
    · obtain rfl : b = 58 := by simpa using hb
      decide
  rcases hs with hs | ⟨hs, hn'⟩
  · rw [if_pos hs, List.nil_append, List.isEmpty_iff.1 hs]
    refine sheet_none (all_of ht fun b hb => (hn b hb).1) fun e => ?_
    have := hn _ (head_all ht e)
    revert this; decide
  · rw [if_neg (by rw [hs]; decide)]
    exact sheet_print hn'

theorem printF_eq {sh : List UInt8} {c r : Int} (ac ar : Bool) (h : Pl.right sh c r = true) : printF sh c r ac ar = (if sh.isEmpty then [] else Pl.quote sh ++ [33]) ++ bareF c r ac ar := by
  unfold printF
  rw [h]
  cases sh.isEmpty <;> simp

theorem parse_print {sh : List UInt8} {c r : Int} (ac ar : Bool) (h : Pl.right sh c r = true) : parseF (printF sh c r ac ar) = (0, sh, c, r, ac, ar) := by
  obtain ⟨h1, h2⟩ := right_parts h
  have hb := (bare_all ac ar h1).1
  rw [printF_eq ac ar h]
  unfold parseF
  rw [sheet_of h2 (all_of hb fun b hb => by rw [hb]; rfl)]
  dsimp only
  rw [cell_print ac ar h1]
  rfl

theorem print_parse {l sh : List UInt8} {c r : Int} {ac ar : Bool} (h : parseF l = (0, sh, c, r, ac, ar)) : printF sh c r ac ar = l ∧ Pl.right sh c r = true := by
  unfold parseF at h
  rcases hx : sheetF l with ⟨nm, rest, is⟩
  rw [hx] at h
  dsimp only at h
  rcases hy : cellF rest with ⟨e, y⟩
  rw [hy] at h
  unfold parseG at h
  dsimp only at h
  cases is with
  | false => simp at h
  | true =>
    by_cases he : e = 0
    · subst he
      simp only [Bool.not_true, Bool.false_eq_true, if_false, ne_eq, not_true_eq_false, Prod.mk.injEq, true_and] at h
      obtain ⟨rfl, rfl⟩ := h
      obtain ⟨s1, s2⟩ := sheet_back hx
      obtain ⟨c1, c2⟩ := cell_back hy
      have hr : Pl.right nm c r = true := by unfold Pl.right; rw [c2, s2]; rfl
      refine ⟨?_, hr⟩
      rw [printF_eq ac ar hr, c1, ← s1]
      cases nm.isEmpty <;> simp
    · simp only [Bool.not_true, Bool.false_eq_true, if_false, ne_eq, he, not_false_eq_true, if_true, Prod.mk.injEq] at h
      exact h.1.elim

theorem parse_range_print {sh : List UInt8} {c r d s : Int} (ac ar ad a2 : Bool) (h : Pl.right sh c r = true) (h' : Pl.right sh d s = true) :
    parseRF (printRF sh c r ac ar sh d s ad a2) = (0, sh, (c, r, ac, ar), (d, s, ad, a2)) := by
  obtain ⟨h1, h2⟩ := right_parts h
  obtain ⟨k1, _⟩ := right_parts h'
  have ha := (bare_all ac ar h1).1
  have hb := (bare_all ad a2 k1).1
  have e : printRF sh c r ac ar sh d s ad a2 = (if sh.isEmpty then [] else Pl.quote sh ++ [33]) ++ (bareF c r ac ar ++ 58 :: bareF d s ad a2) := by
    unfold printRF
    rw [h, h']
    have : (sh != sh) = false := by simp
    rw [this, Bool.and_false, printF_eq ac ar h]
    simp
  rw [e]
  unfold parseRF
  have hall : (bareF c r ac ar ++ 58 :: bareF d s ad a2).all (fun b => bareB b || b == 58) = true := by
    rw [List.all_append, List.all_cons, all_of ha fun b hb => by rw [hb]; rfl, all_of hb fun b hb => by rw [hb]; rfl]; rfl
  rw [sheet_of h2 hall]
  dsimp only
  have ha58 : (bareF c r ac ar).all (· != 58) = true := all_of ha fun b hb => (bareB_not hb).2.2
  obtain ⟨t1, t2⟩ := take_drop_all (b := 58 :: bareF d s ad a2) ha58 (fun x hx => by obtain rfl : (58 : UInt8) = x := by simpa using hx
                                                                                     rfl)
  have ec : Pl.cut1 58 (bareF c r ac ar ++ 58 :: bareF d s ad a2) = (bareF c r ac ar, bareF d s ad a2, true) := by
    unfold Pl.cut1
    rw [t1, t2]
    simp
  rw [ec]
  dsimp only
  rw [cell_print ac ar h1, cell_print ad a2 k1]
  rfl
end Go.Proofs.YtfkiomjplpbmiaaGreatDoor

