/- Contracts of package cells, thirteenth part: Print. -/
import Derived.Test.YtmicenegjfnbmaaGreatDoorCl
namespace Go.Proofs.YtmicenegjfnbmaaGreatDoor
open Go.RowKit Go.Lib

def refWord : List UInt8 := [35, 82, 69, 70, 33]
/-- A reference, as it is written. -/
def printF (sh : List UInt8) (c r : Int) (ac ar : Bool) : List UInt8 :=
  if !Pl.right sh c r then refWord else if sh.isEmpty then bareF c r ac ar else Pl.quote sh ++ [33] ++ bareF c r ac ar

theorem right_sheet {sh : List UInt8} {c r : Int} (h : Pl.right sh c r = true) : sh.length ≤ 31 := by
  unfold Pl.right at h
  simp only [Bool.and_eq_true, Bool.or_eq_true] at h
  rcases h.2 with h | h
  · rw [List.isEmpty_iff.1 h]; simp
  · unfold Pl.sheetName at h
    simp only [Bool.and_eq_true, decide_eq_true_eq] at h
    omega

theorem bareF_le (c r : Int) (ac ar : Bool) (h0 : -9223372036854775808 ≤ r) (h1 : r ≤ 9223372036854775807) : (bareF c r ac ar).length ≤ 30 := by
  unfold bareF
  have h2 := letters_le c
  have h3 := Lib.itoa_length_le r h0 h1
  have h4 : ∀ b, (mark b).length ≤ 1 := fun b => by cases b <;> decide
  have := h4 ac
  have := h4 ar
  simp only [List.length_append]; omega
theorem quote_le (l : List UInt8) : (Pl.quote l).length ≤ 2 * l.length + 2 := by
  unfold Pl.quote
  have := flatMap_length l
  split
  · omega
  · simp only [List.length_cons, List.length_append, List.length_nil]; omega

set_option maxHeartbeats 4000000 in
theorem print_sheet (sh : ByteArray) (c r : Int) (ac ar : Bool) (q b : ByteArray) (w : World) (h1 : q.size ≤ 100) (h2 : b.size ≤ 30) (hne : sh.toList.isEmpty = false)
    (C1 : Hid (∀ w, Calls Tryz.prog 18 #[refV sh c r ac ar] w (Q (.bool true) w)))
    (C2 : Hid (∀ w, Glob w → Calls Tryz.prog 14 #[.string sh] w (Q (.string q) w)))
    (C3 : Hid (∀ w, Glob w → Calls Tryz.prog 31 #[refV sh c r ac ar] w (Q (.string b) w)))
    (hg : Glob w) :
    Calls Tryz.prog 8 #[refV sh c r ac ar] w (Q (.string (q ++ ⟨#[33]⟩ ++ b)) w) := by
  have r1 := RefAt.new w sh c r ac ar
  have hB : Below w.heap.size w (w.alloc (.cells #[.string sh, .int .i64 c, .int .i64 r, .bool ac, .bool ar] 23)) := (Below.refl _ _).alloc (Nat.le_refl _) _
  have hg1 := hg.below hB
  have R1 := Lib.hid r1
  clear r1
  go_enter Tryz.func8, Tryz.ntmps8
  go_wp2_with fail
  refine (C1.out _).mono ?_
  rintro e W ⟨rfl, hb⟩
  have r1 := R1.out.below hb
  have hB := bt hB hb
  have hg1 := hg1.below hb
  clear hb R1 C1
  obtain ⟨q0, q1, q2, q3, q4, qf, ql⟩ := r1
  go_wp2_with fail
  have rd : RefAt W.drew w.heap.size sh c r ac ar := (RefAt.mk q0 q1 q2 q3 q4 qf ql).below (below_drewN (Below.refl _ _) 1)
  have hgd := hg1.drew
  have hBd := hB.drew
  have y1 : (⟨#[33]⟩ : ByteArray).size ≤ 1 := Nat.le_refl 1
  have n1 : ¬ 9223372036854775807 < q.size + (⟨#[33]⟩ : ByteArray).size := by omega
  have n2 : ¬ 9223372036854775807 < q.size + (⟨#[33]⟩ : ByteArray).size + b.size := by omega
  have n1' : ¬ 9223372036854775807 < q.size + 1 := by omega
  have n2' : ¬ 9223372036854775807 < q.size + 1 + b.size := by omega
  clear hB hg1 hg q0 q1 q2 q3 q4 qf ql
  go_region_held3 (fun w' => w'.cell? ⟨w.heap.size, 0, none⟩ = some (.string sh) ∧ w'.cell? ⟨w.heap.size, 1, none⟩ = some (.int .i64 c) ∧ w'.cell? ⟨w.heap.size, 2, none⟩ = some (.int .i64 r) ∧ w'.cell? ⟨w.heap.size, 3, none⟩ = some (.bool ac) ∧ w'.cell? ⟨w.heap.size, 4, none⟩ = some (.bool ar) ∧ RefAt w' w.heap.size sh c r ac ar ∧ Glob w' ∧ Below w.heap.size w w')
    (first
      | exact ⟨hr.c0, hr.c1, hr.c2, hr.c3, hr.c4, hr, hgl, hbl⟩
      | exact ⟨rd.c0, rd.c1, rd.c2, rd.c3, rd.c4, rd, hgd, hBd⟩)
    (first
      | (go_at_call 14; refine (C2.out _ (by assumption)).mono ?_; rintro e w' ⟨rfl, hb⟩; have hr := RefAt.below (sh := sh) (c := c) (r := r) (ac := ac) (ar := ar) (B := w.heap.size) (by assumption) hb; have hgl := Glob.below (by assumption) hb; have hbl := bt (w := w) (by assumption) hb)
      | (go_at_call 31; refine (C3.out _ (by assumption)).mono ?_; rintro e w' ⟨rfl, hb⟩; have hr := RefAt.below (sh := sh) (c := c) (r := r) (ac := ac) (ar := ar) (B := w.heap.size) (by assumption) hb; have hgl := Glob.below (by assumption) hb; have hbl := bt (w := w) (by assumption) hb))
  go_wp2
  go_ret
  exact ⟨rfl, hbl⟩

set_option maxHeartbeats 2000000 in
theorem print_any (sh : ByteArray) (c r : Int) (ac ar : Bool) (w : World) (hc0 : -9223372036854775808 ≤ c) (hr0 : -9223372036854775808 ≤ r) (hr1 : r ≤ 9223372036854775807) (hg : Glob w) :
    Calls Tryz.prog 8 #[refV sh c r ac ar] w (Q (.string ⟨(printF sh.data.toList c r ac ar).toArray⟩) w) := by
  have c1 := right_any sh c r ac ar
  have hp : printF sh.data.toList c r ac ar = if !Pl.right sh.data.toList c r then refWord else if sh.data.toList.isEmpty then bareF c r ac ar else Pl.quote sh.data.toList ++ [33] ++ bareF c r ac ar := rfl
  have hB : Below w.heap.size w (w.alloc (.cells #[.string sh, .int .i64 c, .int .i64 r, .bool ac, .bool ar] 23)) := (Below.refl _ _).alloc (Nat.le_refl _) _
  cases hR : Pl.right sh.data.toList c r with
  | false =>
    rw [hR] at c1 hp
    rw [hp]
    show Calls _ _ _ _ (Q (.string ⟨#[35, 82, 69, 70, 33]⟩) w)
    have C1 := Lib.hid c1
    clear c1 hp hR
    go_enter Tryz.func8, Tryz.ntmps8
    go_wp2_with fail
    refine (C1.out _).mono ?_
    rintro e w1 ⟨rfl, hb⟩
    have hB := bt hB hb
    clear hb
    go_wp2_with fail
    go_ret
    exact ⟨rfl, hB⟩
  | true =>
    have h31 := right_sheet hR
    rw [hR] at c1 hp
    by_cases h0 : sh.toList = []
    · have he : sh.data.toList.isEmpty = true := by rw [toList_nil.1 h0]; rfl
      rw [he] at hp
      rw [hp]
      show Calls _ _ _ _ (Q (.string ⟨(bareF c r ac ar).toArray⟩) w)
      have hne : sh.toList.isEmpty = true := by rw [h0]; rfl
      have C1 := Lib.hid c1
      have C3 := Lib.hid (fun w hg => bare_any sh c r ac ar w hc0 hr0 hr1 hg)
      generalize (⟨(bareF c r ac ar).toArray⟩ : ByteArray) = b at *
      have hg1 := hg.below hB
      have R1 := Lib.hid (RefAt.new w sh c r ac ar)
      clear c1 hp hR h31 he h0
      go_enter Tryz.func8, Tryz.ntmps8
      go_wp2_with fail
      refine (C1.out _).mono ?_
      rintro e w1 ⟨rfl, hb⟩
      obtain ⟨q0, q1, q2, q3, q4, qf, ql⟩ := R1.out.below hb
      have hg2 := hg1.below hb
      have hB := bt hB hb
      clear hb R1
      go_wp2_with fail
      refine (C3.out _ hg2).mono ?_
      rintro e w2 ⟨rfl, hb⟩
      have hB := bt hB hb
      clear hb
      go_wp2_with fail
      go_ret
      exact ⟨rfl, hB⟩
    · obtain ⟨h1, h2, h3⟩ := isEmpty_nil h0
      rw [h2] at hp
      rw [hp]
      have hq := quote_le sh.data.toList
      have hb := bareF_le c r ac ar hr0 hr1
      have h := print_sheet sh c r ac ar ⟨(Pl.quote sh.data.toList).toArray⟩ ⟨(bareF c r ac ar).toArray⟩ w (by rw [size_mk]; omega) (by rw [size_mk]; omega) h1 (Lib.hid c1)
        (Lib.hid (fun w hg => quote_any sh w (by have : sh.size ≤ 31 := h31; omega) hg)) (Lib.hid (fun w hg => bare_any sh c r ac ar w hc0 hr0 hr1 hg)) hg
      have e : (⟨(Pl.quote sh.data.toList).toArray⟩ : ByteArray) ++ ⟨#[33]⟩ ++ ⟨(bareF c r ac ar).toArray⟩ = ⟨(Pl.quote sh.data.toList ++ [33] ++ bareF c r ac ar).toArray⟩ := by
        apply ByteArray.ext; simp
      rw [e] at h
      exact h
end Go.Proofs.YtmicenegjfnbmaaGreatDoor
