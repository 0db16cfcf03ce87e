/- The document's Number, bare and Print. -/
import Derived.Test.YtmicenegjfnbmaaGreatDoorRn
import Derived.Test.YtmicenegjfnbmaaGreatDoorRt
namespace Go.Proofs.YtmicenegjfnbmaaGreatDoor
open Go.RowKit Go.Lib

theorem number_any : ∀ (k n : Nat), n ≤ k → n ≤ 10000 → ∀ w, Calls Tryz.prog 54 #[.int .i64 (n : Int)] w (Q (.string ⟨(decDigits n).toArray⟩) w) := by
  intro k
  induction k with
  | zero =>
    intro n hn _ w
    obtain rfl : n = 0 := by omega
    rw [dec_small (by decide)]
    exact number_small 0 w (by omega) (by omega)
  | succ k ih =>
    intro n hn h4 w
    by_cases h10 : n < 10
    · rw [dec_small h10]
      exact number_small n w (by omega) (by omega)
    · rw [dec_big h10]
      have i1 := ih (n / 10) (by omega) (by omega)
      have hl : (decDigits (n / 10)).length ≤ 100 := by
        rw [decDigits_length]
        have : ∀ u, u ≤ 1000 → nDigits u ≤ 100 := by
          intro u hu
          by_cases a : u < 10
          · rw [nDigits_small a]; decide
          · rw [nDigits_big a]
            by_cases b : u / 10 < 10
            · rw [nDigits_small b]; decide
            · rw [nDigits_big b]
              by_cases c : u / 10 / 10 < 10
              · rw [nDigits_small c]; decide
              · rw [nDigits_big c, nDigits_small (by omega)]; decide
        exact this _ (by omega)
      have e1 : wrap64 ((n : Int).tdiv 10) = ((n / 10 : Nat) : Int) := by
        have : (n : Int).tdiv 10 = ((n / 10 : Nat) : Int) := rfl
        rw [this]; unfold wrap64; omega
      have e2 : (n : Int).tmod 10 = ((n % 10 : Nat) : Int) := rfl
      have hm : n % 10 < 10 := Nat.mod_lt _ (by decide)
      have e3 : IntKind.u8.wrap (wrap64 (48 + (n : Int).tmod 10)) = ((dig (n % 10)).toNat : Int) := by
        rw [e2, dig_toNat hm]
        have h : ∀ x : Int, IntKind.u8.wrap x = x % 256 := fun _ => rfl
        rw [h]; unfold wrap64; omega
      have h := number_step n (dig (n % 10)) ⟨(decDigits (n / 10)).toArray⟩ w (by omega) e3 (by rw [size_mk]; exact hl) (by rw [e1]; exact Lib.hid i1)
      have e : (⟨(decDigits (n / 10)).toArray⟩ : ByteArray) ++ ⟨#[dig (n % 10)]⟩ = ⟨(decDigits (n / 10) ++ [dig (n % 10)]).toArray⟩ := by
        apply ByteArray.ext; simp
      rw [e] at h
      exact h
theorem refNumber_any (r : Int) (w : World) (h1 : 1 ≤ r) (h2 : r ≤ 512) : Calls Tryz.prog 54 #[.int .i64 r] w (Q (.string ⟨(itoa r).toArray⟩) w) := by
  have h := number_any r.toNat r.toNat (Nat.le_refl _) (by omega) w
  have e : ((r.toNat : Nat) : Int) = r := by omega
  have e' : itoa r = decDigits r.toNat := by unfold itoa; rw [if_neg (by omega)]
  rw [e] at h
  rw [e']
  exact h

set_option maxHeartbeats 4000000 in
theorem refBare_ff (sh : ByteArray) (c r : Int) (le di R : ByteArray) (w : World) (h2 : le.size ≤ 2) (h4 : di.size ≤ 21) (HR : Hid (R = markS false ++ le ++ markS false ++ di))
    (C2 : Hid (∀ w, Calls Tryz.prog 13 #[.int .i64 c] w (Q (.string le) w)))
    (C4 : Hid (∀ w, Calls Tryz.prog 54 #[.int .i64 r] w (Q (.string di) w))) :
    Calls Tryz.prog 32 #[refV sh c r false false] w (Q (.string R) w) := by
  have HB := Lib.hid ((Below.refl w.heap.size w).alloc (Nat.le_refl _) (.cells #[.string sh, .int .i64 c, .int .i64 r, .bool false, .bool false] 23))
  have R1 := Lib.hid (RefAt.new w sh c r false false)
  go_enter Tryz.func32, Tryz.ntmps32
  go_wp2_with fail
  refine (C2.out _).mono ?_
  rintro e w1 ⟨rfl, hb⟩
  replace HB := Lib.hid (bt HB.out hb)
  replace R1 := Lib.hid (R1.out.below hb)
  clear hb
  obtain ⟨q0, q1, q2, q3, q4, qf, ql⟩ := R1.out
  go_wp2_with fail
  refine (C4.out _).mono ?_
  rintro e w2 ⟨rfl, hb⟩
  replace HB := Lib.hid (bt HB.out hb)
  clear hb q0 q1 q2 q3 q4 qf ql
  go_wp2_with fail
  go_ret
  exact ⟨(show Ending.returned (.string (⟨#[]⟩ ++ le ++ di)) = Ending.returned (.string R) by rw [HR.out]; first | rfl | (congr 2; apply ByteArray.ext; simp [markS, mark])), HB.out⟩

set_option maxHeartbeats 4000000 in
theorem refBare_ft (sh : ByteArray) (c r : Int) (le di R : ByteArray) (w : World) (h2 : le.size ≤ 2) (h4 : di.size ≤ 21) (HR : Hid (R = markS false ++ le ++ markS true ++ di))
    (C2 : Hid (∀ w, Calls Tryz.prog 13 #[.int .i64 c] w (Q (.string le) w)))
    (C4 : Hid (∀ w, Calls Tryz.prog 54 #[.int .i64 r] w (Q (.string di) w))) :
    Calls Tryz.prog 32 #[refV sh c r false true] w (Q (.string R) w) := by
  have HB := Lib.hid ((Below.refl w.heap.size w).alloc (Nat.le_refl _) (.cells #[.string sh, .int .i64 c, .int .i64 r, .bool false, .bool true] 23))
  have R1 := Lib.hid (RefAt.new w sh c r false true)
  go_enter Tryz.func32, Tryz.ntmps32
  go_wp2_with fail
  refine (C2.out _).mono ?_
  rintro e w1 ⟨rfl, hb⟩
  replace HB := Lib.hid (bt HB.out hb)
  replace R1 := Lib.hid (R1.out.below hb)
  clear hb
  obtain ⟨q0, q1, q2, q3, q4, qf, ql⟩ := R1.out
  go_wp2_with fail
  refine (C4.out _).mono ?_
  rintro e w2 ⟨rfl, hb⟩
  replace HB := Lib.hid (bt HB.out hb)
  clear hb q0 q1 q2 q3 q4 qf ql
  go_wp2_with fail
  go_ret
  exact ⟨(show Ending.returned (.string (⟨#[]⟩ ++ le ++ ⟨#[36]⟩ ++ di)) = Ending.returned (.string R) by rw [HR.out]; first | rfl | (congr 2; apply ByteArray.ext; simp [markS, mark])), HB.out⟩

set_option maxHeartbeats 4000000 in
theorem refBare_tf (sh : ByteArray) (c r : Int) (le di R : ByteArray) (w : World) (h2 : le.size ≤ 2) (h4 : di.size ≤ 21) (HR : Hid (R = markS true ++ le ++ markS false ++ di))
    (C2 : Hid (∀ w, Calls Tryz.prog 13 #[.int .i64 c] w (Q (.string le) w)))
    (C4 : Hid (∀ w, Calls Tryz.prog 54 #[.int .i64 r] w (Q (.string di) w))) :
    Calls Tryz.prog 32 #[refV sh c r true false] w (Q (.string R) w) := by
  have HB := Lib.hid ((Below.refl w.heap.size w).alloc (Nat.le_refl _) (.cells #[.string sh, .int .i64 c, .int .i64 r, .bool true, .bool false] 23))
  have R1 := Lib.hid (RefAt.new w sh c r true false)
  go_enter Tryz.func32, Tryz.ntmps32
  go_wp2_with fail
  refine (C2.out _).mono ?_
  rintro e w1 ⟨rfl, hb⟩
  replace HB := Lib.hid (bt HB.out hb)
  replace R1 := Lib.hid (R1.out.below hb)
  clear hb
  obtain ⟨q0, q1, q2, q3, q4, qf, ql⟩ := R1.out
  go_wp2_with fail
  refine (C4.out _).mono ?_
  rintro e w2 ⟨rfl, hb⟩
  replace HB := Lib.hid (bt HB.out hb)
  clear hb q0 q1 q2 q3 q4 qf ql
  go_wp2_with fail
  go_ret
  exact ⟨(show Ending.returned (.string (⟨#[36]⟩ ++ le ++ di)) = Ending.returned (.string R) by rw [HR.out]; first | rfl | (congr 2; apply ByteArray.ext; simp [markS, mark])), HB.out⟩

set_option maxHeartbeats 4000000 in
theorem refBare_tt (sh : ByteArray) (c r : Int) (le di R : ByteArray) (w : World) (h2 : le.size ≤ 2) (h4 : di.size ≤ 21) (HR : Hid (R = markS true ++ le ++ markS true ++ di))
    (C2 : Hid (∀ w, Calls Tryz.prog 13 #[.int .i64 c] w (Q (.string le) w)))
    (C4 : Hid (∀ w, Calls Tryz.prog 54 #[.int .i64 r] w (Q (.string di) w))) :
    Calls Tryz.prog 32 #[refV sh c r true true] w (Q (.string R) w) := by
  have HB := Lib.hid ((Below.refl w.heap.size w).alloc (Nat.le_refl _) (.cells #[.string sh, .int .i64 c, .int .i64 r, .bool true, .bool true] 23))
  have R1 := Lib.hid (RefAt.new w sh c r true true)
  go_enter Tryz.func32, Tryz.ntmps32
  go_wp2_with fail
  refine (C2.out _).mono ?_
  rintro e w1 ⟨rfl, hb⟩
  replace HB := Lib.hid (bt HB.out hb)
  replace R1 := Lib.hid (R1.out.below hb)
  clear hb
  obtain ⟨q0, q1, q2, q3, q4, qf, ql⟩ := R1.out
  go_wp2_with fail
  refine (C4.out _).mono ?_
  rintro e w2 ⟨rfl, hb⟩
  replace HB := Lib.hid (bt HB.out hb)
  clear hb q0 q1 q2 q3 q4 qf ql
  go_wp2_with fail
  go_ret
  exact ⟨(show Ending.returned (.string (⟨#[36]⟩ ++ le ++ ⟨#[36]⟩ ++ di)) = Ending.returned (.string R) by rw [HR.out]; first | rfl | (congr 2; apply ByteArray.ext; simp [markS, mark])), HB.out⟩

theorem refBare_any (sh : ByteArray) (c r : Int) (ac ar : Bool) (w : World) (hr : Pl.rightN c r = true) :
    Calls Tryz.prog 32 #[refV sh c r ac ar] w (Q (.string ⟨(bareF c r ac ar).toArray⟩) w) := by
  unfold Pl.rightN at hr
  simp only [Bool.and_eq_true, decide_eq_true_eq] at hr
  obtain ⟨⟨⟨h1, h2⟩, h3⟩, h4⟩ := hr
  have e : (⟨(bareF c r ac ar).toArray⟩ : ByteArray) = markS ac ++ (⟨(Pl.letters c).toArray⟩ : ByteArray) ++ markS ar ++ ⟨(itoa r).toArray⟩ := by
    apply ByteArray.ext; unfold bareF markS; simp
  have s1 : (⟨(Pl.letters c).toArray⟩ : ByteArray).size ≤ 2 := by rw [size_mk]; exact letters_le c
  have s2 : (⟨(itoa r).toArray⟩ : ByteArray).size ≤ 21 := by rw [size_mk]; exact itoa_length_le r (by omega) (by omega)
  have C2 := Lib.hid (fun w => refLetters_any c w)
  have C4 := Lib.hid (fun w => refNumber_any r w h3 h4)
  cases ac <;> cases ar
  · exact refBare_ff sh c r _ _ _ w s1 s2 (Lib.hid e) C2 C4
  · exact refBare_ft sh c r _ _ _ w s1 s2 (Lib.hid e) C2 C4
  · exact refBare_tf sh c r _ _ _ w s1 s2 (Lib.hid e) C2 C4
  · exact refBare_tt sh c r _ _ _ w s1 s2 (Lib.hid e) C2 C4

set_option maxHeartbeats 4000000 in
theorem refPrint_sheet (sh : ByteArray) (c r : Int) (ac ar : Bool) (q b : ByteArray) (w : World) (h1 : q.size ≤ 100) (h2 : b.size ≤ 30) (hne : sh.toList.isEmpty = false)
    (C1 : Hid (∀ w, Calls Tryz.prog 19 #[refV sh c r ac ar] w (Q (.bool true) w)))
    (C2 : Hid (∀ w, Glob w → Calls Tryz.prog 15 #[.string sh] w (Q (.string q) w)))
    (C3 : Hid (∀ w, Glob w → Calls Tryz.prog 32 #[refV sh c r ac ar] w (Q (.string b) w)))
    (hg : Glob w) :
    Calls Tryz.prog 9 #[refV sh c r ac ar] w (Q (.string (q ++ ⟨#[33]⟩ ++ b)) w) := by
  have r1 := RefAt.new w sh c r ac ar
  have hB : Below w.heap.size w (w.alloc (.cells #[.string sh, .int .i64 c, .int .i64 r, .bool ac, .bool ar] 23)) := (Below.refl _ _).alloc (Nat.le_refl _) _
  have hg1 := hg.below hB
  have R1 := Lib.hid r1
  clear r1
  go_enter Tryz.func9, Tryz.ntmps9
  go_wp2_with fail
  refine (C1.out _).mono ?_
  rintro e W ⟨rfl, hb⟩
  have r1 := R1.out.below hb
  have hB := bt hB hb
  have hg1 := hg1.below hb
  clear hb R1 C1
  obtain ⟨q0, q1, q2, q3, q4, qf, ql⟩ := r1
  go_wp2_with fail
  have rd : RefAt W.drew w.heap.size sh c r ac ar := (RefAt.mk q0 q1 q2 q3 q4 qf ql).below (below_drewN (Below.refl _ _) 1)
  have hgd := hg1.drew
  have hBd := hB.drew
  have y1 : (⟨#[33]⟩ : ByteArray).size ≤ 1 := Nat.le_refl 1
  have n1 : ¬ 9223372036854775807 < q.size + (⟨#[33]⟩ : ByteArray).size := by omega
  have n2 : ¬ 9223372036854775807 < q.size + (⟨#[33]⟩ : ByteArray).size + b.size := by omega
  have n1' : ¬ 9223372036854775807 < q.size + 1 := by omega
  have n2' : ¬ 9223372036854775807 < q.size + 1 + b.size := by omega
  clear hB hg1 hg q0 q1 q2 q3 q4 qf ql
  go_region_held3 (fun w' => w'.cell? ⟨w.heap.size, 0, none⟩ = some (.string sh) ∧ w'.cell? ⟨w.heap.size, 1, none⟩ = some (.int .i64 c) ∧ w'.cell? ⟨w.heap.size, 2, none⟩ = some (.int .i64 r) ∧ w'.cell? ⟨w.heap.size, 3, none⟩ = some (.bool ac) ∧ w'.cell? ⟨w.heap.size, 4, none⟩ = some (.bool ar) ∧ RefAt w' w.heap.size sh c r ac ar ∧ Glob w' ∧ Below w.heap.size w w')
    (first
      | exact ⟨hr.c0, hr.c1, hr.c2, hr.c3, hr.c4, hr, hgl, hbl⟩
      | exact ⟨rd.c0, rd.c1, rd.c2, rd.c3, rd.c4, rd, hgd, hBd⟩)
    (first
      | (go_at_call 15; refine (C2.out _ (by assumption)).mono ?_; rintro e w' ⟨rfl, hb⟩; have hr := RefAt.below (sh := sh) (c := c) (r := r) (ac := ac) (ar := ar) (B := w.heap.size) (by assumption) hb; have hgl := Glob.below (by assumption) hb; have hbl := bt (w := w) (by assumption) hb)
      | (go_at_call 32; refine (C3.out _ (by assumption)).mono ?_; rintro e w' ⟨rfl, hb⟩; have hr := RefAt.below (sh := sh) (c := c) (r := r) (ac := ac) (ar := ar) (B := w.heap.size) (by assumption) hb; have hgl := Glob.below (by assumption) hb; have hbl := bt (w := w) (by assumption) hb))
  go_wp2
  go_ret
  exact ⟨rfl, hbl⟩

set_option maxHeartbeats 2000000 in
theorem refPrint_any (sh : ByteArray) (c r : Int) (ac ar : Bool) (w : World) (hr0 : -9223372036854775808 ≤ r) (hr1 : r ≤ 9223372036854775807) (hg : Glob w) :
    Calls Tryz.prog 9 #[refV sh c r ac ar] w (Q (.string ⟨(printF sh.data.toList c r ac ar).toArray⟩) w) := by
  have c1 := refRight_any sh c r ac ar
  have hp : printF sh.data.toList c r ac ar = if !Pl.right sh.data.toList c r then refWord else if sh.data.toList.isEmpty then bareF c r ac ar else Pl.quote sh.data.toList ++ [33] ++ bareF c r ac ar := rfl
  have hB : Below w.heap.size w (w.alloc (.cells #[.string sh, .int .i64 c, .int .i64 r, .bool ac, .bool ar] 23)) := (Below.refl _ _).alloc (Nat.le_refl _) _
  cases hR : Pl.right sh.data.toList c r with
  | false =>
    rw [hR] at c1 hp
    rw [hp]
    show Calls _ _ _ _ (Q (.string ⟨#[35, 82, 69, 70, 33]⟩) w)
    have C1 := Lib.hid c1
    clear c1 hp hR
    go_enter Tryz.func9, Tryz.ntmps9
    go_wp2_with fail
    refine (C1.out _).mono ?_
    rintro e w1 ⟨rfl, hb⟩
    have hB := bt hB hb
    clear hb
    go_wp2_with fail
    go_ret
    exact ⟨rfl, hB⟩
  | true =>
    have h31 := right_sheet hR
    rw [hR] at c1 hp
    by_cases h0 : sh.toList = []
    · have he : sh.data.toList.isEmpty = true := by rw [toList_nil.1 h0]; rfl
      rw [he] at hp
      rw [hp]
      show Calls _ _ _ _ (Q (.string ⟨(bareF c r ac ar).toArray⟩) w)
      have hne : sh.toList.isEmpty = true := by rw [h0]; rfl
      have C1 := Lib.hid c1
      have C3 := Lib.hid (fun w (_ : Glob w) => refBare_any sh c r ac ar w (right_parts hR).1)
      generalize (⟨(bareF c r ac ar).toArray⟩ : ByteArray) = b at *
      have hg1 := hg.below hB
      have R1 := Lib.hid (RefAt.new w sh c r ac ar)
      clear c1 hp hR h31 he h0
      go_enter Tryz.func9, Tryz.ntmps9
      go_wp2_with fail
      refine (C1.out _).mono ?_
      rintro e w1 ⟨rfl, hb⟩
      obtain ⟨q0, q1, q2, q3, q4, qf, ql⟩ := R1.out.below hb
      have hg2 := hg1.below hb
      have hB := bt hB hb
      clear hb R1
      go_wp2_with fail
      refine (C3.out _ hg2).mono ?_
      rintro e w2 ⟨rfl, hb⟩
      have hB := bt hB hb
      clear hb
      go_wp2_with fail
      go_ret
      exact ⟨rfl, hB⟩
    · obtain ⟨h1, h2, h3⟩ := isEmpty_nil h0
      rw [h2] at hp
      rw [hp]
      have hq := quote_le sh.data.toList
      have hb := bareF_le c r ac ar hr0 hr1
      have h := refPrint_sheet sh c r ac ar ⟨(Pl.quote sh.data.toList).toArray⟩ ⟨(bareF c r ac ar).toArray⟩ w (by rw [size_mk]; omega) (by rw [size_mk]; omega) h1 (Lib.hid c1)
        (Lib.hid (fun w _ => refQuote_any sh w (by have : sh.size ≤ 31 := h31; omega))) (Lib.hid (fun w (_ : Glob w) => refBare_any sh c r ac ar w (right_parts hR).1)) hg
      have e : (⟨(Pl.quote sh.data.toList).toArray⟩ : ByteArray) ++ ⟨#[33]⟩ ++ ⟨(bareF c r ac ar).toArray⟩ = ⟨(Pl.quote sh.data.toList ++ [33] ++ bareF c r ac ar).toArray⟩ := by
        apply ByteArray.ext; simp
      rw [e] at h
      exact h
end Go.Proofs.YtmicenegjfnbmaaGreatDoor
