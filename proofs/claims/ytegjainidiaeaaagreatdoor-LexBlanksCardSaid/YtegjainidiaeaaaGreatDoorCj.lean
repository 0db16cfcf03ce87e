/- Contracts of package cells, tenth part: cell, Parse, ParseRange. -/
import Derived.Test.YtegjainidiaeaaaGreatDoorCi
namespace Go.Proofs.YtegjainidiaeaaaGreatDoor
open Go.RowKit Go.Lib

/-- What cell tells of a text: the error, the column, the row, what is fixed. -/
def cellG (lt dg l4 : List UInt8) (ac ar : Bool) : Int × Int × Int × Bool × Bool :=
  if lt.isEmpty || decide (3 < lt.length) || dg.isEmpty || decide (7 < dg.length) || (dg.head? == some 48) || !l4.isEmpty then (40, 0, 0, false, false)
  else if !(Pl.col lt).2 || decide (512 < num dg) then (41, 0, 0, false, false) else (0, (Pl.col lt).1, num dg, ac, ar)
def cutD (l : List UInt8) : List UInt8 := if l.head? == some 36 then l.tail else l
def cellF (l : List UInt8) : Int × Int × Int × Bool × Bool :=
  cellG ((cutD l).takeWhile Pl.capital) ((cutD ((cutD l).dropWhile Pl.capital)).takeWhile Pl.digit) ((cutD ((cutD l).dropWhile Pl.capital)).dropWhile Pl.digit) (l.head? == some 36) (((cutD l).dropWhile Pl.capital).head? == some 36)
def cellV (x : Int × Int × Int × Bool × Bool) : Value := .tuple #[refV ⟨#[]⟩ x.2.1 x.2.2.1 x.2.2.2.1 x.2.2.2.2, .int .i64 x.1]

theorem isEmpty_nil {s : ByteArray} (h : ¬ s.toList = []) : s.toList.isEmpty = false ∧ s.data.toList.isEmpty = false ∧ 1 ≤ s.size := by
  have h1 : s.toList.isEmpty = false := by
    cases hd : s.toList with
    | nil => exact absurd hd h
    | cons _ _ => rfl
  refine ⟨h1, by rw [← Lib.toList_data]; exact h1, ?_⟩
  have : s.data.toList ≠ [] := fun e => h (toList_nil.2 e)
  exact List.length_pos_iff.2 this

set_option maxHeartbeats 4000000 in
theorem cell_core (s s1 lt s2 s3 dg s4 : ByteArray) (b1 b2 : Bool) (w : World)
    (C1 : Hid (∀ w, Calls Tryz.prog 54 #[.string s, .string ⟨#[36]⟩] w fun e w' => e = .returned (.tuple #[.string s1, .bool b1]) ∧ w = w'))
    (C2 : Hid (∀ w, Calls Tryz.prog 101 #[.string s1, .string ⟨#[65, 66, 67, 68, 69, 70, 71, 72, 73, 74, 75, 76, 77, 78, 79, 80, 81, 82, 83, 84, 85, 86, 87, 88, 89, 90]⟩] w (Q (.tuple #[.string lt, .string s2]) w)))
    (C3 : Hid (∀ w, Calls Tryz.prog 54 #[.string s2, .string ⟨#[36]⟩] w fun e w' => e = .returned (.tuple #[.string s3, .bool b2]) ∧ w = w'))
    (C4 : Hid (∀ w, Calls Tryz.prog 101 #[.string s3, .string ⟨#[48, 49, 50, 51, 52, 53, 54, 55, 56, 57]⟩] w (Q (.tuple #[.string dg, .string s4]) w)))
    (hdg : dg.data.toList.all Pl.digit = true) (_hl1 : lt.size ≤ 9223372036854775807) (_hl2 : dg.size ≤ 9223372036854775807) :
    Calls Tryz.prog 71 #[.string s] w (Q (cellV (cellG lt.data.toList dg.data.toList s4.data.toList b1 b2)) w) := by
  have HDG := Lib.hid hdg
  clear hdg
  obtain ⟨R, hR⟩ : ∃ R, cellG lt.data.toList dg.data.toList s4.data.toList b1 b2 = R := ⟨_, rfl⟩
  rw [hR]
  have HG := Lib.hid hR
  clear hR
  go_enter Tryz.func71, Tryz.ntmps71
  go_wp2_with fail
  refine (C1.out _).mono ?_
  rintro e w1 ⟨rfl, rfl⟩
  have r1 := RefAt.new (w.alloc (.cells #[.string ⟨#[]⟩, .int .i64 0, .int .i64 0, .bool false, .bool false] 32)) ⟨#[]⟩ 0 0 b1 false
  have r2 := (RefAt.new w ⟨#[]⟩ 0 0 false false).alloc (.cells #[.string ⟨#[]⟩, .int .i64 0, .int .i64 0, .bool b1, .bool false] 32)
  have hB : Below w.heap.size w ((w.alloc (.cells #[.string ⟨#[]⟩, .int .i64 0, .int .i64 0, .bool false, .bool false] 32)).alloc (.cells #[.string ⟨#[]⟩, .int .i64 0, .int .i64 0, .bool b1, .bool false] 32)) := ((Below.refl _ _).alloc (Nat.le_refl _) _).alloc (by simp) _
  rw [World.size_alloc] at r1
  have R1 := Lib.hid r1
  have R2 := Lib.hid r2
  clear r1 r2
  go_wp2_with fail
  refine (C2.out _).mono ?_
  rintro e w1 ⟨rfl, hb⟩
  have R1 := Lib.hid (R1.out.below hb)
  have R2 := Lib.hid (R2.out.below hb)
  have hB := hB.trans (hb.mono hB.size)
  clear hb
  go_wp2_with fail
  refine (C3.out _).mono ?_
  rintro e w2 ⟨rfl, rfl⟩
  obtain ⟨q0, q1, q2, q3, q4, qf, ql⟩ := R1.out
  go_wp2_with fail
  refine (C4.out _).mono ?_
  rintro e w2 ⟨rfl, hb⟩
  have R1 := Lib.hid ((R1.out.set4 b2).below hb)
  have R2 := Lib.hid ((R2.out.other ⟨w.heap.size + 1, 4, none⟩ (.bool b2) (by simp)).below hb)
  have hB := (hB.setCell (p := ⟨w.heap.size + 1, 4, none⟩) (by simp) (.bool b2)).trans (hb.mono (hB.setCell (p := ⟨w.heap.size + 1, 4, none⟩) (by simp) (.bool b2)).size)
  clear hb q0 q1 q2 q3 q4 qf ql C1 C2 C3 C4
  obtain ⟨p0, p1, p2, p3, p4, pf, pl⟩ := R2.out
  by_cases h1 : lt.toList = []
  · have e1 : lt.data.toList.isEmpty = true := by rw [toList_nil.1 h1]; rfl
    have e1' : lt.toList.isEmpty = true := by rw [h1]; rfl
    have hR : Hid (R = (40, 0, 0, false, false)) := by
      show _ = _
      rw [← HG.out]; unfold cellG
      rw [e1]; rfl
    clear HG
    go_wp2_with fail
    exact bodyPost_ret (v := .tuple #[refV ⟨#[]⟩ 0 0 false false, .int .i64 40]) (by simp [results, Tryz.results71, go_sem, p0, p1, p2, p3, p4]) rfl ⟨by rw [hR.out]; rfl, ((((hB.setCell (by simp) _).setCell (by simp) _).setCell (by simp) _).setCell (by simp) _).setCell (by simp) _⟩
  obtain ⟨e1', e1, _⟩ := isEmpty_nil h1
  clear h1
  by_cases h2 : 3 < (lt.size : Int)
  · have e2 : decide (3 < lt.data.toList.length) = true := by
      have : 3 < lt.data.toList.length := by show 3 < lt.size; omega
      exact decide_eq_true this
    have hR : Hid (R = (40, 0, 0, false, false)) := by
      show _ = _
      rw [← HG.out]; unfold cellG
      rw [e1, e2]; rfl
    clear HG
    go_wp2_with fail
    exact bodyPost_ret (v := .tuple #[refV ⟨#[]⟩ 0 0 false false, .int .i64 40]) (by simp [results, Tryz.results71, go_sem, p0, p1, p2, p3, p4]) rfl ⟨by rw [hR.out]; rfl, ((((hB.setCell (by simp) _).setCell (by simp) _).setCell (by simp) _).setCell (by simp) _).setCell (by simp) _⟩
  have e2 : decide (3 < lt.data.toList.length) = false := by
    have : ¬ 3 < lt.data.toList.length := by show ¬ 3 < lt.size; omega
    exact decide_eq_false this
  by_cases h3 : dg.toList = []
  · have e3 : dg.data.toList.isEmpty = true := by rw [toList_nil.1 h3]; rfl
    have e3' : dg.toList.isEmpty = true := by rw [h3]; rfl
    have hR : Hid (R = (40, 0, 0, false, false)) := by
      show _ = _
      rw [← HG.out]; unfold cellG
      rw [e1, e2, e3]; rfl
    clear HG
    go_wp2_with fail
    exact bodyPost_ret (v := .tuple #[refV ⟨#[]⟩ 0 0 false false, .int .i64 40]) (by simp [results, Tryz.results71, go_sem, p0, p1, p2, p3, p4]) rfl ⟨by rw [hR.out]; rfl, ((((hB.setCell (by simp) _).setCell (by simp) _).setCell (by simp) _).setCell (by simp) _).setCell (by simp) _⟩
  obtain ⟨e3', e3, hdg1⟩ := isEmpty_nil h3
  by_cases h4 : 7 < (dg.size : Int)
  · have e4 : decide (7 < dg.data.toList.length) = true := by
      have : 7 < dg.data.toList.length := by show 7 < dg.size; omega
      exact decide_eq_true this
    clear h3
    have hR : Hid (R = (40, 0, 0, false, false)) := by
      show _ = _
      rw [← HG.out]; unfold cellG
      rw [e1, e2, e3, e4]; rfl
    clear HG
    go_wp2_with fail
    exact bodyPost_ret (v := .tuple #[refV ⟨#[]⟩ 0 0 false false, .int .i64 40]) (by simp [results, Tryz.results71, go_sem, p0, p1, p2, p3, p4]) rfl ⟨by rw [hR.out]; rfl, ((((hB.setCell (by simp) _).setCell (by simp) _).setCell (by simp) _).setCell (by simp) _).setCell (by simp) _⟩
  have e4 : decide (7 < dg.data.toList.length) = false := by
    have : ¬ 7 < dg.data.toList.length := by show ¬ 7 < dg.size; omega
    exact decide_eq_false this
  have hd0 : dg.data.toList.head? = some (dg[0]'(by omega)) := by
    have : dg.data.toList = (dg[0]'(by omega)) :: dg.data.toList.tail := by
      have h0 : 0 < dg.data.toList.length := hdg1
      rw [← List.drop_one, show (dg[0]'(by omega)) = dg.data.toList[0]'h0 from rfl]
      exact (List.drop_eq_getElem_cons h0)
    rw [this]; rfl
  have HA := Lib.hid (atoi_calls dg)
  have HD := Lib.hid (show dg.data.toList ≠ [] from fun e => h3 (toList_nil.2 e))
  clear h3
  generalize hz : dg[0]'(by omega) = z at hd0
  have hzn : (0 : Nat) < dg.size := by omega
  by_cases h5 : z = 48
  · have e5 : (dg.data.toList.head? == some 48) = true := by rw [hd0, h5]; rfl
    have e5' : (((dg[0]'hzn).toNat : Int) == 48) = true := by rw [hz, h5]; rfl
    clear hd0 hz h5
    have hR : Hid (R = (40, 0, 0, false, false)) := by
      show _ = _
      rw [← HG.out]; unfold cellG
      rw [e1, e2, e3, e4, e5]; rfl
    clear HG
    go_wp2_with fail
    exact bodyPost_ret (v := .tuple #[refV ⟨#[]⟩ 0 0 false false, .int .i64 40]) (by simp [results, Tryz.results71, go_sem, p0, p1, p2, p3, p4]) rfl ⟨by rw [hR.out]; rfl, ((((hB.setCell (by simp) _).setCell (by simp) _).setCell (by simp) _).setCell (by simp) _).setCell (by simp) _⟩
  have e5 : (dg.data.toList.head? == some 48) = false := by rw [hd0]; simpa using h5
  have e5' : (((dg[0]'hzn).toNat : Int) == 48) = false := by
    rw [hz, beq_eq_false_iff_ne]
    intro e; apply h5; apply UInt8.toNat_inj.1; show z.toNat = 48; omega
  clear hd0 hz h5
  by_cases h6 : s4.toList = []
  case neg =>
    obtain ⟨e6', e6, _⟩ := isEmpty_nil h6
    clear h6
    have hR : Hid (R = (40, 0, 0, false, false)) := by
      show _ = _
      rw [← HG.out]; unfold cellG
      rw [e1, e2, e3, e4, e5, e6]; rfl
    clear HG
    go_wp2_with fail
    exact bodyPost_ret (v := .tuple #[refV ⟨#[]⟩ 0 0 false false, .int .i64 40]) (by simp [results, Tryz.results71, go_sem, p0, p1, p2, p3, p4]) rfl ⟨by rw [hR.out]; rfl, ((((hB.setCell (by simp) _).setCell (by simp) _).setCell (by simp) _).setCell (by simp) _).setCell (by simp) _⟩
  have e6 : s4.data.toList.isEmpty = true := by rw [toList_nil.1 h6]; rfl
  have e6' : s4.toList.isEmpty = true := by rw [h6]; rfl
  clear h6
  have hRR : R = if !(Pl.col lt.data.toList).2 || decide (512 < num dg.data.toList) then (41, 0, 0, false, false) else (0, (Pl.col lt.data.toList).1, (num dg.data.toList : Int), b1, b2) := by
    rw [← HG.out]; unfold cellG
    rw [e1, e2, e3, e4, e5, e6]; rfl
  have HRR := Lib.hid hRR
  have C5 := Lib.hid (col_any lt)
  have hn7 : num dg.data.toList < 10 ^ 7 := Nat.lt_of_lt_of_le (num_lt _ HDG.out) (Nat.pow_le_pow_right (by decide) (by show dg.size ≤ 7; omega))
  have hnum : (10 : Nat) ^ 7 = 10000000 := by decide
  rw [hnum] at hn7
  have C6 := Lib.hid (fun w => HA.out w HDG.out HD.out (by omega))
  clear hRR HG HA HD HDG e1 e2 e3 e4 e5 e6 hnum
  generalize Pl.col lt.data.toList = cc at *
  obtain ⟨cn, is⟩ := cc
  generalize num dg.data.toList = n at *
  go_wp2_with fail
  refine (C5.out _).mono ?_
  rintro e w3 ⟨rfl, rfl⟩
  go_wp2_with fail
  refine (C6.out _).mono ?_
  rintro e w3 ⟨rfl, hb⟩
  have R1 := Lib.hid (R1.out.below hb)
  have R2 := Lib.hid (R2.out.below hb)
  have hB := hB.trans (hb.mono hB.size)
  clear hb p0 p1 p2 p3 p4 pf pl C5 C6
  obtain ⟨p0, p1, p2, p3, p4, pf, pl⟩ := R2.out
  cases is with
  | false =>
    have hR : Hid (R = (41, 0, 0, false, false)) := by show _ = _; rw [HRR.out]; rfl
    clear HRR
    go_wp2_with fail
    exact bodyPost_ret (v := .tuple #[refV ⟨#[]⟩ 0 0 false false, .int .i64 41]) (by simp [results, Tryz.results71, go_sem, p0, p1, p2, p3, p4]) rfl ⟨by rw [hR.out]; rfl, ((((hB.setCell (by simp) _).setCell (by simp) _).setCell (by simp) _).setCell (by simp) _).setCell (by simp) _⟩
  | true =>
    have hne : ∀ W, (binOp .neq 117 .nilIface .nilIface).run Tryz.prog W = .ok (.bool false) W := fun W => by kernel_rfl
    by_cases h7 : 512 < (n : Int)
    · have hR : Hid (R = (41, 0, 0, false, false)) := by
        have : 512 < n := by omega
        show _ = _; rw [HRR.out, decide_eq_true this]; rfl
      clear HRR
      go_wp2_with fail
      exact bodyPost_ret (v := .tuple #[refV ⟨#[]⟩ 0 0 false false, .int .i64 41]) (by simp [results, Tryz.results71, go_sem, p0, p1, p2, p3, p4]) rfl ⟨by rw [hR.out]; rfl, ((((hB.setCell (by simp) _).setCell (by simp) _).setCell (by simp) _).setCell (by simp) _).setCell (by simp) _⟩
    · have hR : Hid (R = (0, cn, (n : Int), b1, b2)) := by
        have : ¬ 512 < n := by omega
        show _ = _; rw [HRR.out, decide_eq_false this]; rfl
      clear HRR
      have r3 := (R1.out.set1 cn).set2 n
      obtain ⟨q0, q1, q2, q3, q4, qf, ql⟩ := R1.out
      obtain ⟨t0, t1, t2, t3, t4, tf, tl⟩ := r3
      go_wp2_with fail
      exact bodyPost_ret (v := .tuple #[refV ⟨#[]⟩ cn n b1 b2, .int .i64 0]) (by simp [results, Tryz.results71, go_sem, p0, p1, p2, p3, p4]) rfl ⟨by rw [hR.out]; rfl, ((((((hB.setCell (by simp) _).setCell (by simp) _).setCell (by simp) _).setCell (by simp) _).setCell (by simp) _).setCell (by simp) _).setCell (by simp) _⟩
end Go.Proofs.YtegjainidiaeaaaGreatDoor
