/- Contracts of package cells, fourteenth part: PrintRange. -/
import Derived.Test.YtmicenegjfnbmaaGreatDoorCm
namespace Go.Proofs.YtmicenegjfnbmaaGreatDoor
open Go.RowKit Go.Lib

/-- A range, as it is written. -/
def printRF (sa : List UInt8) (ca ra : Int) (aca ara : Bool) (sb : List UInt8) (cb rb : Int) (acb arb : Bool) : List UInt8 :=
  if !Pl.right sa ca ra || !Pl.right sb cb rb || (!sb.isEmpty && sb != sa) then refWord else printF sa ca ra aca ara ++ [58] ++ bareF cb rb acb arb

section
variable (sa : ByteArray) (ca ra : Int) (aca ara : Bool) (sb : ByteArray) (cb rb : Int) (acb arb : Bool) (w : World)
def W2 : World := (w.alloc (.cells #[.string sa, .int .i64 ca, .int .i64 ra, .bool aca, .bool ara] 23)).alloc (.cells #[.string sb, .int .i64 cb, .int .i64 rb, .bool acb, .bool arb] 23)
theorem W2_below : Below w.heap.size w (W2 sa ca ra aca ara sb cb rb acb arb w) := ((Below.refl _ _).alloc (Nat.le_refl _) _).alloc (by simp) _
theorem W2_a : RefAt (W2 sa ca ra aca ara sb cb rb acb arb w) w.heap.size sa ca ra aca ara := (RefAt.new w sa ca ra aca ara).alloc _
theorem W2_b : RefAt (W2 sa ca ra aca ara sb cb rb acb arb w) (w.heap.size + 1) sb cb rb acb arb := by
  have h := RefAt.new (w.alloc (.cells #[.string sa, .int .i64 ca, .int .i64 ra, .bool aca, .bool ara] 23)) sb cb rb acb arb
  rw [World.size_alloc] at h
  exact h

set_option maxHeartbeats 4000000 in
theorem range_no1
    (C1 : Hid (∀ w, Calls Tryz.prog 18 #[refV sa ca ra aca ara] w (Q (.bool false) w))) :
    Calls Tryz.prog 10 #[refV sa ca ra aca ara, refV sb cb rb acb arb] w (Q (.string ⟨#[35, 82, 69, 70, 33]⟩) w) := by
  have hB : Hid (Below w.heap.size w (W2 sa ca ra aca ara sb cb rb acb arb w)) := W2_below sa ca ra aca ara sb cb rb acb arb w
  go_enter Tryz.func10, Tryz.ntmps10
  go_wp2_with fail
  refine (C1.out _).mono ?_
  rintro e w1 ⟨rfl, hb⟩
  have hB := bt hB.out hb
  clear hb
  go_wp2_with fail
  go_ret
  exact ⟨rfl, hB⟩

set_option maxHeartbeats 4000000 in
theorem range_no2
    (C1 : Hid (∀ w, Calls Tryz.prog 18 #[refV sa ca ra aca ara] w (Q (.bool true) w)))
    (C2 : Hid (∀ w, Calls Tryz.prog 18 #[refV sb cb rb acb arb] w (Q (.bool false) w))) :
    Calls Tryz.prog 10 #[refV sa ca ra aca ara, refV sb cb rb acb arb] w (Q (.string ⟨#[35, 82, 69, 70, 33]⟩) w) := by
  have hB : Hid (Below w.heap.size w (W2 sa ca ra aca ara sb cb rb acb arb w)) := W2_below sa ca ra aca ara sb cb rb acb arb w
  have R2 : Hid (RefAt (W2 sa ca ra aca ara sb cb rb acb arb w) (w.heap.size + 1) sb cb rb acb arb) := W2_b sa ca ra aca ara sb cb rb acb arb w
  go_enter Tryz.func10, Tryz.ntmps10
  go_wp2_with fail
  refine (C1.out _).mono ?_
  rintro e w1 ⟨rfl, hb⟩
  have hB := bt hB.out hb
  obtain ⟨q0, q1, q2, q3, q4, qf, ql⟩ := R2.out.below hb
  clear hb
  go_wp2_with fail
  refine (C2.out _).mono ?_
  rintro e w2 ⟨rfl, hb⟩
  have hB := bt hB hb
  clear hb
  go_wp2_with fail
  go_ret
  exact ⟨rfl, hB⟩

set_option maxHeartbeats 4000000 in
theorem range_no3 (hne : sb.toList.isEmpty = false) (hab : (sb.toList == sa.toList) = false)
    (C1 : Hid (∀ w, Calls Tryz.prog 18 #[refV sa ca ra aca ara] w (Q (.bool true) w)))
    (C2 : Hid (∀ w, Calls Tryz.prog 18 #[refV sb cb rb acb arb] w (Q (.bool true) w))) :
    Calls Tryz.prog 10 #[refV sa ca ra aca ara, refV sb cb rb acb arb] w (Q (.string ⟨#[35, 82, 69, 70, 33]⟩) w) := by
  have hB : Hid (Below w.heap.size w (W2 sa ca ra aca ara sb cb rb acb arb w)) := W2_below sa ca ra aca ara sb cb rb acb arb w
  have R1 : Hid (RefAt (W2 sa ca ra aca ara sb cb rb acb arb w) w.heap.size sa ca ra aca ara) := W2_a sa ca ra aca ara sb cb rb acb arb w
  have R2 : Hid (RefAt (W2 sa ca ra aca ara sb cb rb acb arb w) (w.heap.size + 1) sb cb rb acb arb) := W2_b sa ca ra aca ara sb cb rb acb arb w
  go_enter Tryz.func10, Tryz.ntmps10
  go_wp2_with fail
  refine (C1.out _).mono ?_
  rintro e w1 ⟨rfl, hb⟩
  have hB := bt hB.out hb
  have R1 := Lib.hid (R1.out.below hb)
  have r2 := R2.out.below hb
  have R2 := Lib.hid r2
  obtain ⟨q0, q1, q2, q3, q4, qf, ql⟩ := r2
  clear hb
  go_wp2_with fail
  refine (C2.out _).mono ?_
  rintro e w2 ⟨rfl, hb⟩
  have hB := bt hB hb
  obtain ⟨p0, p1, p2, p3, p4, pf, pl⟩ := R1.out.below hb
  obtain ⟨t0, t1, t2, t3, t4, tf, tl⟩ := R2.out.below hb
  clear hb q0 q1 q2 q3 q4 qf ql R1 R2
  go_wp2_with fail
  go_ret
  exact ⟨rfl, hB⟩

set_option maxHeartbeats 8000000 in
theorem range_yes (p b : ByteArray) (h1 : p.size ≤ 200) (h2 : b.size ≤ 30) (hab : sb.toList.isEmpty = true ∨ sb.toList.isEmpty = false ∧ sb = sa)
    (C1 : Hid (∀ w, Calls Tryz.prog 18 #[refV sa ca ra aca ara] w (Q (.bool true) w)))
    (C2 : Hid (∀ w, Calls Tryz.prog 18 #[refV sb cb rb acb arb] w (Q (.bool true) w)))
    (C3 : Hid (∀ w, Glob w → Calls Tryz.prog 8 #[refV sa ca ra aca ara] w (Q (.string p) w)))
    (C4 : Hid (∀ w, Glob w → Calls Tryz.prog 31 #[refV sb cb rb acb arb] w (Q (.string b) w)))
    (hg : Glob w) :
    Calls Tryz.prog 10 #[refV sa ca ra aca ara, refV sb cb rb acb arb] w (Q (.string (p ++ ⟨#[58]⟩ ++ b)) w) := by
  have hB : Hid (Below w.heap.size w (W2 sa ca ra aca ara sb cb rb acb arb w)) := W2_below sa ca ra aca ara sb cb rb acb arb w
  have R1 : Hid (RefAt (W2 sa ca ra aca ara sb cb rb acb arb w) w.heap.size sa ca ra aca ara) := W2_a sa ca ra aca ara sb cb rb acb arb w
  have R2 : Hid (RefAt (W2 sa ca ra aca ara sb cb rb acb arb w) (w.heap.size + 1) sb cb rb acb arb) := W2_b sa ca ra aca ara sb cb rb acb arb w
  go_enter Tryz.func10, Tryz.ntmps10
  go_wp2_with fail
  refine (C1.out _).mono ?_
  rintro e w1 ⟨rfl, hb⟩
  have hB := bt hB.out hb
  have R1 := Lib.hid (R1.out.below hb)
  have r2 := R2.out.below hb
  have R2 := Lib.hid r2
  obtain ⟨q0, q1, q2, q3, q4, qf, ql⟩ := r2
  clear hb
  go_wp2_with fail
  refine (C2.out _).mono ?_
  rintro e W ⟨rfl, hb⟩
  have hB := bt hB hb
  have hg1 := hg.below hB
  have R1 := R1.out.below hb
  have R2 := R2.out.below hb
  have r2 := R2
  obtain ⟨p0, p1, p2, p3, p4, pf, pl⟩ := R1
  obtain ⟨t0, t1, t2, t3, t4, tf, tl⟩ := r2
  clear hb q0 q1 q2 q3 q4 qf ql
  have rd : RefAt W.drew w.heap.size sa ca ra aca ara := (RefAt.mk p0 p1 p2 p3 p4 pf pl).below (below_drewN (Below.refl _ _) 1)
  have sd : RefAt W.drew (w.heap.size + 1) sb cb rb acb arb := (RefAt.mk t0 t1 t2 t3 t4 tf tl).below (below_drewN (Below.refl _ _) 1)
  have HR := Lib.hid rd
  have HS := Lib.hid sd
  have HGd := Lib.hid hg1.drew
  have HBd := Lib.hid hB.drew
  clear rd sd R2 hg1 hB hg
  have y1 : (⟨#[58]⟩ : ByteArray).size ≤ 1 := Nat.le_refl 1
  have n1 : ¬ 9223372036854775807 < p.size + (⟨#[58]⟩ : ByteArray).size := by omega
  have n2 : ¬ 9223372036854775807 < p.size + (⟨#[58]⟩ : ByteArray).size + b.size := by omega
  have n1' : ¬ 9223372036854775807 < p.size + 1 := by omega
  have n2' : ¬ 9223372036854775807 < p.size + 1 + b.size := by omega
  rcases hab with hab | ⟨hab, hab2⟩
  · go_wp2_with fail
    clear p0 p1 p2 p3 p4 pf pl t0 t1 t2 t3 t4 tf tl
    have rd := HR.out
    have sd := HS.out
    have hgd := HGd.out
    have hBd := HBd.out
    go_region_held3 (fun w' => w'.cell? ⟨w.heap.size, 0, none⟩ = some (.string sa) ∧ w'.cell? ⟨w.heap.size, 1, none⟩ = some (.int .i64 ca) ∧ w'.cell? ⟨w.heap.size, 2, none⟩ = some (.int .i64 ra) ∧ w'.cell? ⟨w.heap.size, 3, none⟩ = some (.bool aca) ∧ w'.cell? ⟨w.heap.size, 4, none⟩ = some (.bool ara) ∧ w'.cell? ⟨w.heap.size + 1, 0, none⟩ = some (.string sb) ∧ w'.cell? ⟨w.heap.size + 1, 1, none⟩ = some (.int .i64 cb) ∧ w'.cell? ⟨w.heap.size + 1, 2, none⟩ = some (.int .i64 rb) ∧ w'.cell? ⟨w.heap.size + 1, 3, none⟩ = some (.bool acb) ∧ w'.cell? ⟨w.heap.size + 1, 4, none⟩ = some (.bool arb) ∧ RefAt w' w.heap.size sa ca ra aca ara ∧ RefAt w' (w.heap.size + 1) sb cb rb acb arb ∧ Glob w' ∧ Below w.heap.size w w')
      (first
        | exact ⟨hr.c0, hr.c1, hr.c2, hr.c3, hr.c4, hs.c0, hs.c1, hs.c2, hs.c3, hs.c4, hr, hs, hgl, hbl⟩
        | exact ⟨rd.c0, rd.c1, rd.c2, rd.c3, rd.c4, sd.c0, sd.c1, sd.c2, sd.c3, sd.c4, rd, sd, hgd, hBd⟩)
      (first
        | (go_at_call 8; refine (C3.out _ (by assumption)).mono ?_; rintro e w' ⟨rfl, hb⟩; have hr := RefAt.below (sh := sa) (c := ca) (r := ra) (ac := aca) (ar := ara) (B := w.heap.size) (by assumption) hb; have hs := RefAt.below (sh := sb) (c := cb) (r := rb) (ac := acb) (ar := arb) (B := w.heap.size + 1) (by assumption) hb; have hgl := Glob.below (by assumption) hb; have hbl := bt (w := w) (by assumption) hb)
        | (go_at_call 31; refine (C4.out _ (by assumption)).mono ?_; rintro e w' ⟨rfl, hb⟩; have hr := RefAt.below (sh := sa) (c := ca) (r := ra) (ac := aca) (ar := ara) (B := w.heap.size) (by assumption) hb; have hs := RefAt.below (sh := sb) (c := cb) (r := rb) (ac := acb) (ar := arb) (B := w.heap.size + 1) (by assumption) hb; have hgl := Glob.below (by assumption) hb; have hbl := bt (w := w) (by assumption) hb))
    go_wp2
    go_ret
    exact ⟨rfl, hbl⟩
  · subst hab2
    go_wp2_with fail
    clear p0 p1 p2 p3 p4 pf pl t0 t1 t2 t3 t4 tf tl
    have rd := HR.out
    have sd := HS.out
    have hgd := HGd.out
    have hBd := HBd.out
    go_region_held3 (fun w' => w'.cell? ⟨w.heap.size, 0, none⟩ = some (.string sb) ∧ w'.cell? ⟨w.heap.size, 1, none⟩ = some (.int .i64 ca) ∧ w'.cell? ⟨w.heap.size, 2, none⟩ = some (.int .i64 ra) ∧ w'.cell? ⟨w.heap.size, 3, none⟩ = some (.bool aca) ∧ w'.cell? ⟨w.heap.size, 4, none⟩ = some (.bool ara) ∧ w'.cell? ⟨w.heap.size + 1, 0, none⟩ = some (.string sb) ∧ w'.cell? ⟨w.heap.size + 1, 1, none⟩ = some (.int .i64 cb) ∧ w'.cell? ⟨w.heap.size + 1, 2, none⟩ = some (.int .i64 rb) ∧ w'.cell? ⟨w.heap.size + 1, 3, none⟩ = some (.bool acb) ∧ w'.cell? ⟨w.heap.size + 1, 4, none⟩ = some (.bool arb) ∧ RefAt w' w.heap.size sb ca ra aca ara ∧ RefAt w' (w.heap.size + 1) sb cb rb acb arb ∧ Glob w' ∧ Below w.heap.size w w')
      (first
        | exact ⟨hr.c0, hr.c1, hr.c2, hr.c3, hr.c4, hs.c0, hs.c1, hs.c2, hs.c3, hs.c4, hr, hs, hgl, hbl⟩
        | exact ⟨rd.c0, rd.c1, rd.c2, rd.c3, rd.c4, sd.c0, sd.c1, sd.c2, sd.c3, sd.c4, rd, sd, hgd, hBd⟩)
      (first
        | (go_at_call 8; refine (C3.out _ (by assumption)).mono ?_; rintro e w' ⟨rfl, hb⟩; have hr := RefAt.below (sh := sb) (c := ca) (r := ra) (ac := aca) (ar := ara) (B := w.heap.size) (by assumption) hb; have hs := RefAt.below (sh := sb) (c := cb) (r := rb) (ac := acb) (ar := arb) (B := w.heap.size + 1) (by assumption) hb; have hgl := Glob.below (by assumption) hb; have hbl := bt (w := w) (by assumption) hb)
        | (go_at_call 31; refine (C4.out _ (by assumption)).mono ?_; rintro e w' ⟨rfl, hb⟩; have hr := RefAt.below (sh := sb) (c := ca) (r := ra) (ac := aca) (ar := ara) (B := w.heap.size) (by assumption) hb; have hs := RefAt.below (sh := sb) (c := cb) (r := rb) (ac := acb) (ar := arb) (B := w.heap.size + 1) (by assumption) hb; have hgl := Glob.below (by assumption) hb; have hbl := bt (w := w) (by assumption) hb))
    go_wp2
    go_ret
    exact ⟨rfl, hbl⟩
end

theorem printF_le (sh : List UInt8) (c r : Int) (ac ar : Bool) (h0 : -9223372036854775808 ≤ r) (h1 : r ≤ 9223372036854775807) : (printF sh c r ac ar).length ≤ 100 := by
  have hb := bareF_le c r ac ar h0 h1
  unfold printF
  split
  · decide
  · rename_i hR
    have h31 := right_sheet (by simpa using hR)
    have hq := quote_le sh
    split
    · omega
    · simp only [List.length_append, List.length_cons, List.length_nil]; omega

theorem printRange_any (sa : ByteArray) (ca ra : Int) (aca ara : Bool) (sb : ByteArray) (cb rb : Int) (acb arb : Bool) (w : World) (hc0 : -9223372036854775808 ≤ ca) (hr0 : -9223372036854775808 ≤ ra) (hr1 : ra ≤ 9223372036854775807)
    (kc0 : -9223372036854775808 ≤ cb) (kr0 : -9223372036854775808 ≤ rb) (kr1 : rb ≤ 9223372036854775807) (hg : Glob w) :
    Calls Tryz.prog 10 #[refV sa ca ra aca ara, refV sb cb rb acb arb] w (Q (.string ⟨(printRF sa.data.toList ca ra aca ara sb.data.toList cb rb acb arb).toArray⟩) w) := by
  have c1 := right_any sa ca ra aca ara
  have c2 := right_any sb cb rb acb arb
  have hp : printRF sa.data.toList ca ra aca ara sb.data.toList cb rb acb arb = if !Pl.right sa.data.toList ca ra || !Pl.right sb.data.toList cb rb || (!sb.data.toList.isEmpty && sb.data.toList != sa.data.toList) then refWord else printF sa.data.toList ca ra aca ara ++ [58] ++ bareF cb rb acb arb := rfl
  rw [hp]
  cases hA : Pl.right sa.data.toList ca ra with
  | false =>
    rw [hA] at c1
    exact range_no1 sa ca ra aca ara sb cb rb acb arb w (Lib.hid c1)
  | true =>
    cases hB : Pl.right sb.data.toList cb rb with
    | false =>
      rw [hA] at c1
      rw [hB] at c2
      exact range_no2 sa ca ra aca ara sb cb rb acb arb w (Lib.hid c1) (Lib.hid c2)
    | true =>
      rw [hA] at c1
      rw [hB] at c2
      have hyes : ∀ hab : sb.toList.isEmpty = true ∨ sb.toList.isEmpty = false ∧ sb = sa, Calls Tryz.prog 10 #[refV sa ca ra aca ara, refV sb cb rb acb arb] w (Q (.string ⟨(printF sa.data.toList ca ra aca ara ++ [58] ++ bareF cb rb acb arb).toArray⟩) w) := by
        intro hab
        have h := range_yes sa ca ra aca ara sb cb rb acb arb w ⟨(printF sa.data.toList ca ra aca ara).toArray⟩ ⟨(bareF cb rb acb arb).toArray⟩
          (by rw [size_mk]; have := printF_le sa.data.toList ca ra aca ara hr0 hr1; omega) (by rw [size_mk]; exact bareF_le cb rb acb arb kr0 kr1) hab (Lib.hid c1) (Lib.hid c2)
          (Lib.hid (fun w hg => print_any sa ca ra aca ara w hc0 hr0 hr1 hg)) (Lib.hid (fun w hg => bare_any sb cb rb acb arb w kc0 kr0 kr1 hg)) hg
        have e : (⟨(printF sa.data.toList ca ra aca ara).toArray⟩ : ByteArray) ++ ⟨#[58]⟩ ++ ⟨(bareF cb rb acb arb).toArray⟩ = ⟨(printF sa.data.toList ca ra aca ara ++ [58] ++ bareF cb rb acb arb).toArray⟩ := by
          apply ByteArray.ext; simp
        rw [e] at h
        exact h
      by_cases h0 : sb.toList = []
      · have he : sb.data.toList.isEmpty = true := by rw [toList_nil.1 h0]; rfl
        rw [he]
        exact hyes (Or.inl (by rw [h0]; rfl))
      · obtain ⟨h1, h2, h3⟩ := isEmpty_nil h0
        rw [h2]
        by_cases hab : sb = sa
        · have e : (sb.data.toList != sa.data.toList) = false := by rw [hab]; simp
          rw [e]
          exact hyes (Or.inr ⟨h1, hab⟩)
        · have e : (sb.data.toList != sa.data.toList) = true := by
            rw [bne_iff_ne]; exact fun e => hab (ByteArray.ext (Array.toList_inj.1 e))
          rw [e]
          have hab' : (sb.toList == sa.toList) = false := by
            rw [Lib.toList_data, Lib.toList_data]
            cases hx : (sb.data.toList == sa.data.toList) with
            | true => exact absurd (ByteArray.ext (Array.toList_inj.1 (beq_iff_eq.1 hx))) hab
            | false => rfl
          exact range_no3 sa ca ra aca ara sb cb rb acb arb w h1 hab' (Lib.hid c1) (Lib.hid c2)
end Go.Proofs.YtmicenegjfnbmaaGreatDoor
