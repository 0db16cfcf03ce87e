/- Contracts of package cells, third part: Right, Shift. -/
import Derived.Test.YtmicenegjfnbmaaGreatDoorCb
namespace Go.Proofs.YtmicenegjfnbmaaGreatDoor
open Go.RowKit Go.Lib

/-- A reference as a value. -/
abbrev refV (sh : ByteArray) (c r : Int) (ac ar : Bool) : Value := .agg #[.string sh, .int .i64 c, .int .i64 r, .bool ac, .bool ar]

set_option maxHeartbeats 2000000 in
theorem right_any (sh : ByteArray) (c r : Int) (ac ar : Bool) (w : World) :
    Calls Tryz.prog 18 #[refV sh c r ac ar] w (Q (.bool (Pl.right sh.data.toList c r)) w) := by
  have hB : ∀ o, Below w.heap.size w (w.alloc o) := fun o => (Below.refl _ _).alloc (Nat.le_refl _) _
  by_cases h1 : 1 ≤ c
  case neg =>
    have e : Pl.right sh.data.toList c r = false := by simp [Pl.right, Pl.rightN, h1]
    rw [e]
    go_enter Tryz.func18, Tryz.ntmps18
    go_wp2_with fail
    go_ret
    exact ⟨rfl, hB _⟩
  by_cases h2 : c ≤ 64
  case neg =>
    have e : Pl.right sh.data.toList c r = false := by simp [Pl.right, Pl.rightN, h2]
    rw [e]
    go_enter Tryz.func18, Tryz.ntmps18
    go_wp2_with fail
    go_ret
    exact ⟨rfl, hB _⟩
  by_cases h3 : 1 ≤ r
  case neg =>
    have e : Pl.right sh.data.toList c r = false := by simp [Pl.right, Pl.rightN, h3]
    rw [e]
    go_enter Tryz.func18, Tryz.ntmps18
    go_wp2_with fail
    go_ret
    exact ⟨rfl, hB _⟩
  by_cases h4 : r ≤ 512
  case neg =>
    have e : Pl.right sh.data.toList c r = false := by simp [Pl.right, Pl.rightN, h4]
    rw [e]
    go_enter Tryz.func18, Tryz.ntmps18
    go_wp2_with fail
    go_ret
    exact ⟨rfl, hB _⟩
  have e : Pl.right sh.data.toList c r = (sh.data.toList.isEmpty || Pl.sheetName sh.data.toList) := by simp [Pl.right, Pl.rightN, h1, h2, h3, h4]
  by_cases h0 : sh.toList = []
  · have e' : Pl.right sh.data.toList c r = true := by rw [e, toList_nil.1 h0]; rfl
    rw [e']
    clear e e'
    have hne : sh.toList.isEmpty = true := by rw [h0]; rfl
    clear h0
    go_enter Tryz.func18, Tryz.ntmps18
    go_wp2_with fail
    go_ret
    exact ⟨rfl, hB _⟩
  · have hd : sh.data.toList.isEmpty = false := by
      have : ¬ sh.data.toList = [] := fun e => h0 (toList_nil.2 e)
      cases hh : sh.data.toList with
      | nil => exact absurd hh this
      | cons _ _ => rfl
    have hne : sh.toList.isEmpty = false := by rw [Lib.toList_data]; exact hd
    rw [e, hd, Bool.false_or]
    clear e hd h0
    have c1 := sheetName_any sh
    generalize Pl.sheetName sh.data.toList = b at *
    have C1 := Lib.hid c1
    clear c1
    go_enter Tryz.func18, Tryz.ntmps18
    go_wp2_with fail
    refine (C1.out _).mono ?_
    rintro e w1 ⟨rfl, hb⟩
    have hb' : Below w.heap.size w w1 := (hB _).trans (hb.mono (by simp))
    clear hb
    cases b
    all_goals
      go_wp2_with fail
      go_ret
      exact ⟨rfl, hb'⟩

theorem moved_any (n b m : Int) (fx : Bool) (w : World) (hn0 : -9223372036854775808 ≤ n) (hn1 : n ≤ 9223372036854775807) (hb0 : -9223372036854775808 ≤ b) (hb1 : b ≤ 9223372036854775807) (hm0 : 1 ≤ m) (hm1 : m ≤ 512) :
    Calls Tryz.prog 47 #[.int .i64 n, .int .i64 b, .int .i64 m, .bool fx] w fun e w' => e = .returned (.tuple #[.int .i64 (movedF n b m fx).1, .bool (movedF n b m fx).2]) ∧ w = w' := by
  cases fx
  · exact moved_free n b m w hn0 hn1 hb0 hb1 hm0 hm1
  · exact moved_fixed n b m w

/-- Shift, plainly. -/
def shiftF (sh : ByteArray) (c r : Int) (ac ar : Bool) (dc dr : Int) : Bool := (movedF c dc 64 ac).2 && (movedF r dr 512 ar).2 && Pl.right sh.data.toList c r
def zeroRef : Value := refV ⟨#[]⟩ 0 0 false false
def shiftV (sh : ByteArray) (c r : Int) (ac ar : Bool) (dc dr : Int) : Value :=
  if shiftF sh c r ac ar dc dr then refV sh (movedF c dc 64 ac).1 (movedF r dr 512 ar).1 ac ar else zeroRef

set_option maxHeartbeats 2000000 in
theorem shift_any (sh : ByteArray) (c r : Int) (ac ar : Bool) (dc dr : Int) (w : World) (hc0 : -9223372036854775808 ≤ c) (hc1 : c ≤ 9223372036854775807) (hr0 : -9223372036854775808 ≤ r) (hr1 : r ≤ 9223372036854775807)
    (hd0 : -9223372036854775808 ≤ dc) (hd1 : dc ≤ 9223372036854775807) (he0 : -9223372036854775808 ≤ dr) (he1 : dr ≤ 9223372036854775807) :
    Calls Tryz.prog 25 #[refV sh c r ac ar, .int .i64 dc, .int .i64 dr] w (Q (.tuple #[shiftV sh c r ac ar dc dr, .bool (shiftF sh c r ac ar dc dr)]) w) := by
  have m1 := fun w => moved_any c dc 64 ac w hc0 hc1 hd0 hd1 (by omega) (by omega)
  have m2 := fun w => moved_any r dr 512 ar w hr0 hr1 he0 he1 (by omega) (by omega)
  have m3 := right_any sh c r ac ar
  unfold shiftV shiftF zeroRef
  generalize movedF c dc 64 ac = p1 at *
  generalize movedF r dr 512 ar = p2 at *
  generalize Pl.right sh.data.toList c r = b3 at *
  obtain ⟨n1, b1⟩ := p1
  obtain ⟨n2, b2⟩ := p2
  have M1 := Lib.hid m1
  have M2 := Lib.hid m2
  have M3 := Lib.hid m3
  clear m1 m2 m3
  have hz : Below w.heap.size w ((w.alloc (.cells #[.string sh, .int .i64 c, .int .i64 r, .bool ac, .bool ar] 23)).alloc (.cells #[.string ⟨#[]⟩, .int .i64 0, .int .i64 0, .bool false, .bool false] 23)) :=
    ((Below.refl _ _).alloc (Nat.le_refl _) _).alloc (by simp) _
  cases b1
  · simp only [Bool.false_and, Bool.false_eq_true, if_false]
    go_enter Tryz.func25, Tryz.ntmps25
    go_wp2_with fail
    refine (M1.out _).mono ?_
    rintro e w1 ⟨rfl, rfl⟩
    go_wp2_with fail
    refine (M2.out _).mono ?_
    rintro e w1 ⟨rfl, rfl⟩
    cases b2
    all_goals
      go_wp2_with fail
      exact bodyPost_ret (v := .tuple #[refV ⟨#[]⟩ 0 0 false false, .bool false]) (by simp [results, Tryz.results25, go_sem]) rfl ⟨rfl, hz⟩
  · cases b2
    · simp only [Bool.and_false, Bool.false_and, Bool.false_eq_true, if_false]
      go_enter Tryz.func25, Tryz.ntmps25
      go_wp2_with fail
      refine (M1.out _).mono ?_
      rintro e w1 ⟨rfl, rfl⟩
      go_wp2_with fail
      refine (M2.out _).mono ?_
      rintro e w1 ⟨rfl, rfl⟩
      go_wp2_with fail
      exact bodyPost_ret (v := .tuple #[refV ⟨#[]⟩ 0 0 false false, .bool false]) (by simp [results, Tryz.results25, go_sem]) rfl ⟨rfl, hz⟩
    · cases b3
      · simp only [Bool.and_false, Bool.false_eq_true, if_false]
        go_enter Tryz.func25, Tryz.ntmps25
        go_wp2_with fail
        refine (M1.out _).mono ?_
        rintro e w1 ⟨rfl, rfl⟩
        go_wp2_with fail
        refine (M2.out _).mono ?_
        rintro e w1 ⟨rfl, rfl⟩
        go_wp2_with fail
        refine (M3.out _).mono ?_
        rintro e w1 ⟨rfl, hb⟩
        obtain ⟨hc, hf⟩ := bcell hb
        have hsz : w.heap.size + 1 < w1.heap.size := by have := hb.size; simp at this; omega
        have hw : Below w.heap.size w w1 := hz.trans (hb.mono (by simp; omega))
        clear hb hz
        go_wp2_with fail
        exact bodyPost_ret (v := .tuple #[refV ⟨#[]⟩ 0 0 false false, .bool false]) (by simp [results, Tryz.results25, go_sem, hc]) rfl ⟨rfl, (((((hw.setCell (by simp) _).setCell (by simp) _).setCell (by simp) _).setCell (by simp) _).setCell (by simp) _)⟩
      · simp only [Bool.and_self, if_true]
        go_enter Tryz.func25, Tryz.ntmps25
        go_wp2_with fail
        refine (M1.out _).mono ?_
        rintro e w1 ⟨rfl, rfl⟩
        go_wp2_with fail
        refine (M2.out _).mono ?_
        rintro e w1 ⟨rfl, rfl⟩
        go_wp2_with fail
        refine (M3.out _).mono ?_
        rintro e w1 ⟨rfl, hb⟩
        obtain ⟨hc, hf⟩ := bcell hb
        have hsz : w.heap.size + 1 < w1.heap.size := by have := hb.size; simp at this; omega
        have hw : Below w.heap.size w w1 := hz.trans (hb.mono (by simp; omega))
        clear hb hz
        have q0 : w1.cell? ⟨w.heap.size, 0, none⟩ = some (.string sh) := by rw [hc _ _ (by simp; omega)]; simp [go_sem]
        have q1 : w1.cell? ⟨w.heap.size, 1, none⟩ = some (.int .i64 c) := by rw [hc _ _ (by simp; omega)]; simp [go_sem]
        have q2 : w1.cell? ⟨w.heap.size, 2, none⟩ = some (.int .i64 r) := by rw [hc _ _ (by simp; omega)]; simp [go_sem]
        have q3 : w1.cell? ⟨w.heap.size, 3, none⟩ = some (.bool ac) := by rw [hc _ _ (by simp; omega)]; simp [go_sem]
        have q4 : w1.cell? ⟨w.heap.size, 4, none⟩ = some (.bool ar) := by rw [hc _ _ (by simp; omega)]; simp [go_sem]
        have p0 : w1.cell? ⟨w.heap.size + 1, 0, none⟩ = some (.string ⟨#[]⟩) := by rw [hc _ _ (by simp)]; simp [go_sem]
        have p1 : w1.cell? ⟨w.heap.size + 1, 1, none⟩ = some (.int .i64 0) := by rw [hc _ _ (by simp)]; simp [go_sem]
        have p2 : w1.cell? ⟨w.heap.size + 1, 2, none⟩ = some (.int .i64 0) := by rw [hc _ _ (by simp)]; simp [go_sem]
        have p3 : w1.cell? ⟨w.heap.size + 1, 3, none⟩ = some (.bool false) := by rw [hc _ _ (by simp)]; simp [go_sem]
        have p4 : w1.cell? ⟨w.heap.size + 1, 4, none⟩ = some (.bool false) := by rw [hc _ _ (by simp)]; simp [go_sem]
        go_wp2_with fail
        exact bodyPost_ret (v := .tuple #[refV sh n1 n2 ac ar, .bool true]) (by simp [results, Tryz.results25, go_sem, p0, p1, p2, p3, p4]) rfl ⟨rfl, (((((((hw.setCell (by simp) _).setCell (by simp) _).setCell (by simp) _).setCell (by simp) _).setCell (by simp) _).setCell (by simp) _).setCell (by simp) _)⟩
end Go.Proofs.YtmicenegjfnbmaaGreatDoor
