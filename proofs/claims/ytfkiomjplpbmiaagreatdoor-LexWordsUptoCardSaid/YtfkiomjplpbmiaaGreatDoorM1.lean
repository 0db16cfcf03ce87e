/- Contracts of package cells, second part: sheets' names, the test of a reference, shifting. -/
import Derived.Test.YtfkiomjplpbmiaaGreatDoorCa
import Derived.Test.YtfkiomjplpbmiaaGreatDoorPl
import Derived.Test.YtfkiomjplpbmiaaGreatDoorShelf
import Derived.Shelf.Unicode.DecodeSlow
import Derived.Deep.QuietTactic
import Derived.BigQuiet
import Derived.Deep.LoopGhost
import Derived.Lib.OthersKept
namespace Go.Proofs.YtfkiomjplpbmiaaGreatDoor
open Go.RowKit Go.Lib

/-- A call that hands back v; what lay in w lies. -/
def Q (v : Value) (w : World) (e : Ending) (w' : World) : Prop := e = .returned v ∧ Below w.heap.size w w'

theorem bcell {W w1 : World} (hb : Below W.heap.size W w1) : (∀ b o, b < W.heap.size → w1.cell? ⟨b, o, none⟩ = W.cell? ⟨b, o, none⟩) ∧ (∀ b o, b < W.heap.size → w1.frozen? ⟨b, o, none⟩ = W.frozen? ⟨b, o, none⟩) :=
  ⟨fun b o h => hb.cell (p := ⟨b, o, none⟩) h, fun b o h => hb.frozen (p := ⟨b, o, none⟩) h⟩
theorem below_drewN {B : Nat} {a w : World} (h : Below B a w) (n : Nat) : Below B a (w.drewN n) := ⟨h.os, h.tape, h.output, h.size, h.block⟩

/-- What the walks ask of the library's own variables. -/
structure Glob (w : World) : Prop where
  most : ∃ m : Int, w.cell? ⟨0, 0, none⟩ = some (.int .i64 m)
  pow : Lib.TabIs Tryz.prog w "internal/strconv.uint64pow10" .u64 Lib.pow10Tab
  big : 7 < w.heap.size ∧ 0 < w.heap.size
  utf : Lib.Utf8Tabs 1 2 w

theorem gPow : Tryz.prog.globalNamed "internal/strconv.uint64pow10" = some 7 := by kernel_rfl
theorem Glob.below {w w' : World} (h : Glob w) (hb : Below w.heap.size w w') : Glob w' := by
  refine ⟨?_, ?_, ?_, Utf8Tabs_below h.utf hb⟩
  · obtain ⟨m, hm⟩ := h.most
    exact ⟨m, (hb.cell (p := ⟨0, 0, none⟩) h.big.2).trans hm⟩
  · exact var?_below hb gPow h.big.1 h.pow
  · exact ⟨Nat.lt_of_lt_of_le h.big.1 hb.size, Nat.lt_of_lt_of_le h.big.2 hb.size⟩

theorem str_data (l : List UInt8) : (⟨l.toArray⟩ : ByteArray).data.toList = l := by simp

set_option maxHeartbeats 1000000 in
/-- The closure 'odd' of SheetName, at every rune. -/
theorem odd_calls (W : World) (x : Nat) (hx : x ≤ 1114111) :
    Calls Tryz.prog 208 #[.int .i32 (x : Int)] W fun e w' => e = .returned (.bool (Pl.oddR x)) ∧ W = w' := by
  by_cases h1 : (x : Int) < 32
  · have e : Pl.oddR x = true := by unfold Pl.oddR; simp; omega
    rw [e]
    go_enter Tryz.func208, Tryz.ntmps208
    go_wp2_with fail
    go_ret
    exact ⟨rfl, rfl⟩
  · by_cases h2 : 126 < (x : Int)
    · have e : Pl.oddR x = true := by unfold Pl.oddR; simp; omega
      rw [e]
      go_enter Tryz.func208, Tryz.ntmps208
      go_wp2_with fail
      go_ret
      exact ⟨rfl, rfl⟩
    · have e : Pl.oddR x = decide (0 ≤ Lib.indexByte [58, 92, 47, 63, 42, 91, 93] x.toUInt8) := by
        unfold Pl.oddR; simp; omega
      rw [e]
      go_enter Tryz.func208, Tryz.ntmps208
      go_wp2_with fail
      refine (Tryz.strings_ContainsRune_ascii _ _ _ (by omega) (by omega)).mono ?_
      rintro e w' ⟨rfl, rfl⟩
      go_wp2_with fail
      go_ret
      exact ⟨rfl, rfl⟩

theorem odd_pred (w : World) : PredAtRunes Tryz.prog 208 #[] Pl.oddR w := fun W x hx _ => by
  unfold FnGives
  exact (odd_calls W x hx).mono fun _ _ ⟨he, hw⟩ => ⟨he, 0, hw.symm⟩

theorem odd_enters : ∀ args w, (callFunc 208 args).run Tryz.prog w = .ok (.enter 208 args) w := enters_of Tryz.func208 (by kernel_rfl) rfl

theorem contains_odd (s : ByteArray) (w : World) :
    Calls Tryz.prog 74 #[.string s, .func (.func 208) #[] #[]] w (Q (.bool (s.data.toList.any Pl.bad)) w) := by
  rw [← Pl.any_odd]
  exact (Tryz.strings_ContainsFunc_runes _ #[] odd_enters _ s w (odd_pred w)).mono fun _ _ h => h

theorem prefix_one (s : ByteArray) (c : UInt8) (w : World) :
    Calls Tryz.prog 77 #[.string s, .string ⟨#[c]⟩] w fun e w' => e = .returned (.bool (s.data.toList.head? == some c)) ∧ w = w' :=
  (Tryz.strings_HasPrefix s ⟨#[c]⟩ w).mono fun _ _ ⟨he, hw⟩ => ⟨by rw [he]; exact congrArg (fun b => Ending.returned (.bool b)) (Pl.hasPrefix_one c _), hw.symm⟩
theorem suffix_one (s : ByteArray) (c : UInt8) (w : World) (hs : s.size ≤ 9223372036854775807) :
    Calls Tryz.prog 209 #[.string s, .string ⟨#[c]⟩] w fun e w' => e = .returned (.bool (s.data.toList.getLast? == some c)) ∧ w = w' :=
  (Tryz.strings_HasSuffix s ⟨#[c]⟩ w hs).mono fun _ _ ⟨he, hw⟩ => ⟨by rw [he]; exact congrArg (fun b => Ending.returned (.bool b)) (Pl.hasSuffix_one c _), hw.symm⟩
theorem cutPrefix_one (s : ByteArray) (c : UInt8) (w : World) :
    Calls Tryz.prog 126 #[.string s, .string ⟨#[c]⟩] w fun e w' => e = .returned (.tuple #[.string ⟨(if s.data.toList.head? == some c then s.data.toList.tail else s.data.toList).toArray⟩, .bool (s.data.toList.head? == some c)]) ∧ w = w' :=
  (Tryz.strings_CutPrefix s ⟨#[c]⟩ w).mono fun _ _ ⟨he, hw⟩ => ⟨by
    rw [he]; show Ending.returned (.tuple #[.string ⟨(Lib.trimPrefix s.data.toList [c]).toArray⟩, .bool (Lib.hasPrefix s.data.toList [c])]) = _
    rw [Pl.trimPrefix_one, Pl.hasPrefix_one], hw.symm⟩
theorem cut_one (s : ByteArray) (c : UInt8) (w : World) (hs : s.size < 4294967281) (hg : Glob w) :
    Calls Tryz.prog 185 #[.string s, .string ⟨#[c]⟩] w fun e w' => e = .returned (.tuple #[.string ⟨(Pl.cut1 c s.data.toList).1.toArray⟩, .string ⟨(Pl.cut1 c s.data.toList).2.1.toArray⟩, .bool (Pl.cut1 c s.data.toList).2.2]) ∧ ∃ n, w' = w.drewN n := by
  obtain ⟨m, hm⟩ := hg.most
  have h := Tryz.strings_Cut s ⟨#[c]⟩ m w hs hm
  rw [show (⟨#[c]⟩ : ByteArray).data.toList = [c] from rfl, Pl.cut_one] at h
  exact h


theorem toList_nil {s : ByteArray} : s.toList = [] ↔ s.data.toList = [] := by rw [Lib.toList_data]

set_option maxHeartbeats 2000000 in
theorem sheetName_any (s : ByteArray) (w : World) :
    Calls Tryz.prog 163 #[.string s] w (Q (.bool (Pl.sheetName s.data.toList)) w) := by
  by_cases h0 : s.toList = []
  · have e : Pl.sheetName s.data.toList = false := by rw [toList_nil.1 h0]; rfl
    rw [e]
    go_enter Tryz.func163, Tryz.ntmps163
    go_wp2_with fail
    go_ret
    exact ⟨rfl, Below.refl _ _⟩
  · by_cases h1 : 31 < (s.size : Int)
    · have e : Pl.sheetName s.data.toList = false := by
        have : ¬ s.data.toList.length ≤ 31 := by show ¬ s.size ≤ 31; omega
        unfold Pl.sheetName; rw [decide_eq_false this]; simp
      rw [e]
      go_enter Tryz.func163, Tryz.ntmps163
      go_wp2_with fail
      go_ret
      exact ⟨rfl, Below.refl _ _⟩
    · have hd : s.data.toList.isEmpty = false := by
        have : ¬ s.data.toList = [] := fun e => h0 (toList_nil.2 e)
        cases hh : s.data.toList with
        | nil => exact absurd hh this
        | cons _ _ => rfl
      have hsn : Pl.sheetName s.data.toList = (!(s.data.toList.head? == some 39) && !(s.data.toList.getLast? == some 39) && !s.data.toList.any Pl.bad) := by
        have : s.data.toList.length ≤ 31 := by show s.size ≤ 31; omega
        unfold Pl.sheetName; rw [decide_eq_true this, hd]; simp
      have hne : s.toList.isEmpty = false := by rw [Lib.toList_data]; exact hd
      have c1 := prefix_one s 39
      have c2 := fun w => suffix_one s 39 w (by omega)
      have c3 := contains_odd s
      rw [hsn]
      clear hsn hd h0
      generalize (s.data.toList.head? == some 39) = b1 at *
      generalize (s.data.toList.getLast? == some 39) = b2 at *
      generalize (s.data.toList.any Pl.bad) = b3 at *
      have C1 := Lib.hid c1
      have C2 := Lib.hid c2
      have C3 := Lib.hid c3
      clear c1 c2 c3
      go_enter Tryz.func163, Tryz.ntmps163
      cases b1 with
      | true =>
        go_wp2_with fail
        refine (C1.out _).mono ?_
        rintro e w' ⟨rfl, rfl⟩
        go_wp2_with fail
        go_ret
        exact ⟨rfl, Below.refl _ _⟩
      | false =>
        go_wp2_with fail
        refine (C1.out _).mono ?_
        rintro e w' ⟨rfl, rfl⟩
        go_wp2_with fail
        refine (C2.out _).mono ?_
        rintro e w' ⟨rfl, rfl⟩
        cases b2 with
        | true =>
          go_wp2_with fail
          go_ret
          exact ⟨rfl, Below.refl _ _⟩
        | false =>
          go_wp2_with fail
          refine (C3.out _).mono ?_
          rintro e w' ⟨rfl, hb⟩
          cases b3
          all_goals
            go_wp2_with fail
            go_ret
            exact ⟨rfl, hb⟩
end Go.Proofs.YtfkiomjplpbmiaaGreatDoor

/- Contracts of package cells, third part: Right, Shift. -/
namespace Go.Proofs.YtfkiomjplpbmiaaGreatDoor
open Go.RowKit Go.Lib

/-- A reference as a value. -/
abbrev refV (sh : ByteArray) (c r : Int) (ac ar : Bool) : Value := .agg #[.string sh, .int .i64 c, .int .i64 r, .bool ac, .bool ar]

set_option maxHeartbeats 2000000 in
theorem right_any (sh : ByteArray) (c r : Int) (ac ar : Bool) (w : World) :
    Calls Tryz.prog 112 #[refV sh c r ac ar] w (Q (.bool (Pl.right sh.data.toList c r)) w) := by
  have hB : ∀ o, Below w.heap.size w (w.alloc o) := fun o => (Below.refl _ _).alloc (Nat.le_refl _) _
  by_cases h1 : 1 ≤ c
  case neg =>
    have e : Pl.right sh.data.toList c r = false := by simp [Pl.right, Pl.rightN, h1]
    rw [e]
    go_enter Tryz.func112, Tryz.ntmps112
    go_wp2_with fail
    go_ret
    exact ⟨rfl, hB _⟩
  by_cases h2 : c ≤ 64
  case neg =>
    have e : Pl.right sh.data.toList c r = false := by simp [Pl.right, Pl.rightN, h2]
    rw [e]
    go_enter Tryz.func112, Tryz.ntmps112
    go_wp2_with fail
    go_ret
    exact ⟨rfl, hB _⟩
  by_cases h3 : 1 ≤ r
  case neg =>
    have e : Pl.right sh.data.toList c r = false := by simp [Pl.right, Pl.rightN, h3]
    rw [e]
    go_enter Tryz.func112, Tryz.ntmps112
    go_wp2_with fail
    go_ret
    exact ⟨rfl, hB _⟩
  by_cases h4 : r ≤ 512
  case neg =>
    have e : Pl.right sh.data.toList c r = false := by simp [Pl.right, Pl.rightN, h4]
    rw [e]
    go_enter Tryz.func112, Tryz.ntmps112
    go_wp2_with fail
    go_ret
    exact ⟨rfl, hB _⟩
  have e : Pl.right sh.data.toList c r = (sh.data.toList.isEmpty || Pl.sheetName sh.data.toList) := by simp [Pl.right, Pl.rightN, h1, h2, h3, h4]
  by_cases h0 : sh.toList = []
  · have e' : Pl.right sh.data.toList c r = true := by rw [e, toList_nil.1 h0]; rfl
    rw [e']
    clear e e'
    have hne : sh.toList.isEmpty = true := by rw [h0]; rfl
    clear h0
    go_enter Tryz.func112, Tryz.ntmps112
    go_wp2_with fail
    go_ret
    exact ⟨rfl, hB _⟩
  · have hd : sh.data.toList.isEmpty = false := by
      have : ¬ sh.data.toList = [] := fun e => h0 (toList_nil.2 e)
      cases hh : sh.data.toList with
      | nil => exact absurd hh this
      | cons _ _ => rfl
    have hne : sh.toList.isEmpty = false := by rw [Lib.toList_data]; exact hd
    rw [e, hd, Bool.false_or]
    clear e hd h0
    have c1 := sheetName_any sh
    generalize Pl.sheetName sh.data.toList = b at *
    have C1 := Lib.hid c1
    clear c1
    go_enter Tryz.func112, Tryz.ntmps112
    go_wp2_with fail
    refine (C1.out _).mono ?_
    rintro e w1 ⟨rfl, hb⟩
    have hb' : Below w.heap.size w w1 := (hB _).trans (hb.mono (by simp))
    clear hb
    cases b
    all_goals
      go_wp2_with fail
      go_ret
      exact ⟨rfl, hb'⟩

theorem moved_any (n b m : Int) (fx : Bool) (w : World) (hn0 : -9223372036854775808 ≤ n) (hn1 : n ≤ 9223372036854775807) (hb0 : -9223372036854775808 ≤ b) (hb1 : b ≤ 9223372036854775807) (hm0 : 1 ≤ m) (hm1 : m ≤ 512) :
    Calls Tryz.prog 119 #[.int .i64 n, .int .i64 b, .int .i64 m, .bool fx] w fun e w' => e = .returned (.tuple #[.int .i64 (movedF n b m fx).1, .bool (movedF n b m fx).2]) ∧ w = w' := by
  cases fx
  · exact moved_free n b m w hn0 hn1 hb0 hb1 hm0 hm1
  · exact moved_fixed n b m w

/-- Shift, plainly. -/
def shiftF (sh : ByteArray) (c r : Int) (ac ar : Bool) (dc dr : Int) : Bool := (movedF c dc 64 ac).2 && (movedF r dr 512 ar).2 && Pl.right sh.data.toList c r
def zeroRef : Value := refV ⟨#[]⟩ 0 0 false false
def shiftV (sh : ByteArray) (c r : Int) (ac ar : Bool) (dc dr : Int) : Value :=
  if shiftF sh c r ac ar dc dr then refV sh (movedF c dc 64 ac).1 (movedF r dr 512 ar).1 ac ar else zeroRef

set_option maxHeartbeats 2000000 in
theorem shift_any (sh : ByteArray) (c r : Int) (ac ar : Bool) (dc dr : Int) (w : World) (hc0 : -9223372036854775808 ≤ c) (hc1 : c ≤ 9223372036854775807) (hr0 : -9223372036854775808 ≤ r) (hr1 : r ≤ 9223372036854775807)
    (hd0 : -9223372036854775808 ≤ dc) (hd1 : dc ≤ 9223372036854775807) (he0 : -9223372036854775808 ≤ dr) (he1 : dr ≤ 9223372036854775807) :
    Calls Tryz.prog 68 #[refV sh c r ac ar, .int .i64 dc, .int .i64 dr] w (Q (.tuple #[shiftV sh c r ac ar dc dr, .bool (shiftF sh c r ac ar dc dr)]) w) := by
  have m1 := fun w => moved_any c dc 64 ac w hc0 hc1 hd0 hd1 (by omega) (by omega)
  have m2 := fun w => moved_any r dr 512 ar w hr0 hr1 he0 he1 (by omega) (by omega)
  have m3 := right_any sh c r ac ar
  unfold shiftV shiftF zeroRef
  generalize movedF c dc 64 ac = p1 at *
  generalize movedF r dr 512 ar = p2 at *
  generalize Pl.right sh.data.toList c r = b3 at *
  obtain ⟨n1, b1⟩ := p1
  obtain ⟨n2, b2⟩ := p2
  have M1 := Lib.hid m1
  have M2 := Lib.hid m2
  have M3 := Lib.hid m3
  clear m1 m2 m3
  have hz : Below w.heap.size w ((w.alloc (.cells #[.string sh, .int .i64 c, .int .i64 r, .bool ac, .bool ar] 32)).alloc (.cells #[.string ⟨#[]⟩, .int .i64 0, .int .i64 0, .bool false, .bool false] 32)) :=
    ((Below.refl _ _).alloc (Nat.le_refl _) _).alloc (by simp) _
  cases b1
  · simp only [Bool.false_and, Bool.false_eq_true, if_false]
    go_enter Tryz.func68, Tryz.ntmps68
    go_wp2_with fail
    refine (M1.out _).mono ?_
    rintro e w1 ⟨rfl, rfl⟩
    go_wp2_with fail
    refine (M2.out _).mono ?_
    rintro e w1 ⟨rfl, rfl⟩
    cases b2
    all_goals
      go_wp2_with fail
      exact bodyPost_ret (v := .tuple #[refV ⟨#[]⟩ 0 0 false false, .bool false]) (by simp [results, Tryz.results68, go_sem]) rfl ⟨rfl, hz⟩
  · cases b2
    · simp only [Bool.and_false, Bool.false_and, Bool.false_eq_true, if_false]
      go_enter Tryz.func68, Tryz.ntmps68
      go_wp2_with fail
      refine (M1.out _).mono ?_
      rintro e w1 ⟨rfl, rfl⟩
      go_wp2_with fail
      refine (M2.out _).mono ?_
      rintro e w1 ⟨rfl, rfl⟩
      go_wp2_with fail
      exact bodyPost_ret (v := .tuple #[refV ⟨#[]⟩ 0 0 false false, .bool false]) (by simp [results, Tryz.results68, go_sem]) rfl ⟨rfl, hz⟩
    · cases b3
      · simp only [Bool.and_false, Bool.false_eq_true, if_false]
        go_enter Tryz.func68, Tryz.ntmps68
        go_wp2_with fail
        refine (M1.out _).mono ?_
        rintro e w1 ⟨rfl, rfl⟩
        go_wp2_with fail
        refine (M2.out _).mono ?_
        rintro e w1 ⟨rfl, rfl⟩
        go_wp2_with fail
        refine (M3.out _).mono ?_
        rintro e w1 ⟨rfl, hb⟩
        obtain ⟨hc, hf⟩ := bcell hb
        have hsz : w.heap.size + 1 < w1.heap.size := by have := hb.size; simp at this; omega
        have hw : Below w.heap.size w w1 := hz.trans (hb.mono (by simp; omega))
        clear hb hz
        go_wp2_with fail
        exact bodyPost_ret (v := .tuple #[refV ⟨#[]⟩ 0 0 false false, .bool false]) (by simp [results, Tryz.results68, go_sem, hc]) rfl ⟨rfl, (((((hw.setCell (by simp) _).setCell (by simp) _).setCell (by simp) _).setCell (by simp) _).setCell (by simp) _)⟩
      · simp only [Bool.and_self, if_true]
        go_enter Tryz.func68, Tryz.ntmps68
        go_wp2_with fail
        refine (M1.out _).mono ?_
        rintro e w1 ⟨rfl, rfl⟩
        go_wp2_with fail
        refine (M2.out _).mono ?_
        rintro e w1 ⟨rfl, rfl⟩
        go_wp2_with fail
        refine (M3.out _).mono ?_
        rintro e w1 ⟨rfl, hb⟩
        obtain ⟨hc, hf⟩ := bcell hb
        have hsz : w.heap.size + 1 < w1.heap.size := by have := hb.size; simp at this; omega
        have hw : Below w.heap.size w w1 := hz.trans (hb.mono (by simp; omega))
        clear hb hz
        have q0 : w1.cell? ⟨w.heap.size, 0, none⟩ = some (.string sh) := by rw [hc _ _ (by simp; omega)]; simp [go_sem]
        have q1 : w1.cell? ⟨w.heap.size, 1, none⟩ = some (.int .i64 c) := by rw [hc _ _ (by simp; omega)]; simp [go_sem]
        have q2 : w1.cell? ⟨w.heap.size, 2, none⟩ = some (.int .i64 r) := by rw [hc _ _ (by simp; omega)]; simp [go_sem]
        have q3 : w1.cell? ⟨w.heap.size, 3, none⟩ = some (.bool ac) := by rw [hc _ _ (by simp; omega)]; simp [go_sem]
        have q4 : w1.cell? ⟨w.heap.size, 4, none⟩ = some (.bool ar) := by rw [hc _ _ (by simp; omega)]; simp [go_sem]
        have p0 : w1.cell? ⟨w.heap.size + 1, 0, none⟩ = some (.string ⟨#[]⟩) := by rw [hc _ _ (by simp)]; simp [go_sem]
        have p1 : w1.cell? ⟨w.heap.size + 1, 1, none⟩ = some (.int .i64 0) := by rw [hc _ _ (by simp)]; simp [go_sem]
        have p2 : w1.cell? ⟨w.heap.size + 1, 2, none⟩ = some (.int .i64 0) := by rw [hc _ _ (by simp)]; simp [go_sem]
        have p3 : w1.cell? ⟨w.heap.size + 1, 3, none⟩ = some (.bool false) := by rw [hc _ _ (by simp)]; simp [go_sem]
        have p4 : w1.cell? ⟨w.heap.size + 1, 4, none⟩ = some (.bool false) := by rw [hc _ _ (by simp)]; simp [go_sem]
        go_wp2_with fail
        exact bodyPost_ret (v := .tuple #[refV sh n1 n2 ac ar, .bool true]) (by simp [results, Tryz.results68, go_sem, p0, p1, p2, p3, p4]) rfl ⟨rfl, (((((((hw.setCell (by simp) _).setCell (by simp) _).setCell (by simp) _).setCell (by simp) _).setCell (by simp) _).setCell (by simp) _).setCell (by simp) _)⟩
end Go.Proofs.YtfkiomjplpbmiaaGreatDoor

/- Contracts of package cells, fifth part: Col, wordly, cutLeft, some. -/
namespace Go.Proofs.YtfkiomjplpbmiaaGreatDoor
open Go.RowKit Go.Lib

theorem colNum_le (l : List UInt8) (h : l.length ≤ 3) : Pl.colNum l ≤ 200000 := by
  match l, h with
  | [], _ => decide
  | [a], _ => have := a.toNat_lt; simp [Pl.colNum]; omega
  | [a, b], _ => have := a.toNat_lt; have := b.toNat_lt; simp [Pl.colNum]; omega
  | [a, b, c], _ => have := a.toNat_lt; have := b.toNat_lt; have := c.toNat_lt; simp [Pl.colNum]; omega
theorem colNum_snoc (l : List UInt8) (b : UInt8) : Pl.colNum (l ++ [b]) = 26 * Pl.colNum l + (b.toNat - 65) + 1 := by simp [Pl.colNum]
theorem take_snoc (s : ByteArray) (k : Nat) (h : k < s.size) : s.data.toList.take (k + 1) = s.data.toList.take k ++ [s[k]] := by
  rw [List.take_succ_eq_append_getElem (by simpa using h)]; rfl
theorem mem_of_get (s : ByteArray) (k : Nat) (h : k < s.size) : s[k] ∈ s.data.toList := by
  have : s[k] = s.data.toList[k]'(by simpa using h) := rfl
  rw [this]; exact List.getElem_mem _
theorem capital_iff (b : UInt8) : Pl.capital b = true ↔ 65 ≤ b.toNat ∧ b.toNat ≤ 90 := by
  unfold Pl.capital; simp [UInt8.le_iff_toNat_le]

set_option maxHeartbeats 2000000 in
theorem col_any (s : ByteArray) (w : World) :
    Calls Tryz.prog 188 #[.string s] w fun e w' => e = .returned (.tuple #[.int .i64 (Pl.col s.data.toList).1, .bool (Pl.col s.data.toList).2]) ∧ w = w' := by
  by_cases h0 : s.toList = []
  · have e : Pl.col s.data.toList = (0, false) := by rw [toList_nil.1 h0]; rfl
    rw [e]
    have hne : s.toList.isEmpty = true := by rw [h0]; rfl
    clear h0
    go_enter Tryz.func188, Tryz.ntmps188
    go_wp2
    go_ret2
    exact ⟨rfl, rfl⟩
  have hd : s.data.toList.isEmpty = false := by
    have : ¬ s.data.toList = [] := fun e => h0 (toList_nil.2 e)
    cases hh : s.data.toList with
    | nil => exact absurd hh this
    | cons _ _ => rfl
  have hne : s.toList.isEmpty = false := by rw [Lib.toList_data]; exact hd
  clear h0
  by_cases h3 : 3 < (s.size : Int)
  · have e : Pl.col s.data.toList = (0, false) := by
      have : 3 < s.data.toList.length := by show 3 < s.size; omega
      unfold Pl.col; rw [decide_eq_true this]; simp
    rw [e]
    go_enter Tryz.func188, Tryz.ntmps188
    go_wp2
    go_ret2
    exact ⟨rfl, rfl⟩
  have hcol : Pl.col s.data.toList = if !s.data.toList.all Pl.capital || decide (64 < Pl.colNum s.data.toList) then (0, false) else ((Pl.colNum s.data.toList : Int), true) := by
    have : ¬ 3 < s.data.toList.length := by show ¬ 3 < s.size; omega
    unfold Pl.col; rw [hd, decide_eq_false this]; simp
  have HC := Lib.hid hcol
  generalize Pl.col s.data.toList = R at HC ⊢
  clear hcol hd
  go_enter Tryz.func188, Tryz.ntmps188
  go_wp2
  go_loop [4, 15] (fun n i => ∃ k : Nat, k ≤ s.size ∧ i = .int .i64 k ∧ n = .int .i64 (Pl.colNum (s.data.toList.take k)) ∧ ∀ j, (h : j < s.size) → j < k → Pl.capital s[j] = true) (fun _ i => s.size - (intOf i).toNat)
  case atStart => exact ⟨0, Nat.zero_le _, rfl, rfl, fun j _ h => absurd h (Nat.not_lt_zero _)⟩
  case round =>
    obtain ⟨k, hk, rfl, rfl, hcap⟩ := hrel
    have hl : (s.data.toList.take k).length ≤ 3 := by have := List.length_take_le k s.data.toList; omega
    have hb := colNum_le _ hl
    have HCap := Lib.hid hcap
    clear hcap hl
    by_cases hlt : k < s.size
    · have hsn := colNum_snoc (s.data.toList.take k) s[k]
      rw [← take_snoc s k hlt] at hsn
      have HS := Lib.hid hsn
      clear hsn
      by_cases hc : 65 ≤ s[k].toNat ∧ s[k].toNat ≤ 90
      · obtain ⟨hc1, hc2⟩ := hc
        have hthis : Pl.capital s[k] = true := (capital_iff _).2 ⟨hc1, hc2⟩
        have HT := Lib.hid hthis
        clear hthis
        go_wp2
        go_round
        case rel =>
          refine ⟨k + 1, by omega, by go_num, ?_, fun j hj hjk => ?_⟩
          · rw [HS.out]; congr 1; omega
          · rcases Nat.lt_or_ge j k with h | h
            · exact HCap.out j hj h
            · obtain rfl : j = k := by omega
              exact HT.out
        case measure => simp [intOf]; omega
      · have hR : R = (0, false) := by
          have h1 : ¬ Pl.capital s[k] = true := fun h => hc ((capital_iff _).1 h)
          have h2 : s.data.toList.all Pl.capital = false := by
            cases h : s.data.toList.all Pl.capital with
            | false => rfl
            | true => exact absurd (List.all_eq_true.1 h _ (mem_of_get s k hlt)) h1
          rw [HC.out, h2]; rfl
        have HR := Lib.hid hR
        clear hR
        go_wp2
        all_goals
          go_ret2
          exact ⟨by rw [HR.out]; rfl, rfl⟩
    · obtain rfl : k = s.size := by omega
      have htk : s.data.toList.take s.size = s.data.toList := List.take_of_length_le (Nat.le_refl _)
      rw [htk]
      rw [htk] at hb
      have hall : s.data.toList.all Pl.capital = true := by
        rw [List.all_eq_true]
        intro b hbm
        obtain ⟨j, hj, rfl⟩ := List.getElem_of_mem hbm
        exact HCap.out j hj hj
      by_cases h64 : 64 < (Pl.colNum s.data.toList : Int)
      · have hR : R = (0, false) := by
          have : 64 < Pl.colNum s.data.toList := by omega
          rw [HC.out, hall, decide_eq_true this]; rfl
        have HR := Lib.hid hR
        clear hall htk hR
        go_wp2
        go_ret2
        exact ⟨by rw [HR.out]; rfl, rfl⟩
      · have hR : R = ((Pl.colNum s.data.toList : Int), true) := by
          have : ¬ 64 < Pl.colNum s.data.toList := by omega
          rw [HC.out, hall, decide_eq_false this]; rfl
        have HR := Lib.hid hR
        clear hall htk hR
        go_wp2
        go_ret2
        exact ⟨by rw [HR.out]; rfl, rfl⟩
end Go.Proofs.YtfkiomjplpbmiaaGreatDoor

/- Contracts of package cells, sixth part: wordly, cutLeft, some. -/
namespace Go.Proofs.YtfkiomjplpbmiaaGreatDoor
open Go.RowKit Go.Lib

/-- A byte's number at a place of a word. -/
def okB (pos c : Nat) : Prop := (97 ≤ c ∧ c ≤ 122) ∨ (65 ≤ c ∧ c ≤ 90) ∨ c = 95 ∨ (0 < pos ∧ 48 ≤ c ∧ c ≤ 57)
theorem letter_iff (b : UInt8) : Pl.letter b = true ↔ (97 ≤ b.toNat ∧ b.toNat ≤ 122) ∨ (65 ≤ b.toNat ∧ b.toNat ≤ 90) ∨ b.toNat = 95 := by
  unfold Pl.letter; simp [UInt8.le_iff_toNat_le, capital_iff, or_assoc, ← UInt8.toNat_inj]
theorem digit_iff (b : UInt8) : Pl.digit b = true ↔ 48 ≤ b.toNat ∧ b.toNat ≤ 57 := by
  unfold Pl.digit; simp [UInt8.le_iff_toNat_le]
theorem okB_zero (b : UInt8) : okB 0 b.toNat ↔ Pl.letter b = true := by rw [letter_iff]; unfold okB; omega
theorem okB_pos (j : Nat) (b : UInt8) (h : 0 < j) : okB j b.toNat ↔ (Pl.letter b || Pl.digit b) = true := by
  rw [Bool.or_eq_true, letter_iff, digit_iff]; unfold okB; omega
theorem wordly_iff (l : List UInt8) : Pl.wordly l = true ↔ l ≠ [] ∧ ∀ j, (h : j < l.length) → okB j l[j].toNat := by
  cases l with
  | nil => simp [Pl.wordly]
  | cons b l =>
    simp only [Pl.wordly, Bool.and_eq_true, ne_eq, List.cons_ne_nil, not_false_eq_true, true_and]
    constructor
    · rintro ⟨h1, h2⟩ j hj
      cases j with
      | zero => exact (okB_zero b).2 h1
      | succ j =>
        have hj' : j < l.length := by simpa using hj
        exact (okB_pos (j + 1) _ (by omega)).2 (List.all_eq_true.1 h2 _ (List.getElem_mem hj'))
    · intro h
      refine ⟨(okB_zero b).1 (h 0 (by simp)), List.all_eq_true.2 fun c hc => ?_⟩
      obtain ⟨j, hj, rfl⟩ := List.getElem_of_mem hc
      exact (okB_pos (j + 1) _ (by omega)).1 (h (j + 1) (by simpa using hj))

set_option maxHeartbeats 2000000 in
theorem wordly_any (s : ByteArray) (w : World) (_hs : s.size ≤ 9223372036854775807) :
    Calls Tryz.prog 186 #[.string s] w (Q (.bool (Pl.wordly s.data.toList)) w) := by
  have hemp : s.toList.isEmpty = s.data.toList.isEmpty := by rw [Lib.toList_data]
  have hiff := wordly_iff s.data.toList
  have HI := Lib.hid hiff
  clear hiff
  generalize hB : Pl.wordly s.data.toList = B at HI ⊢
  clear hB
  have HE := Lib.hid hemp
  clear hemp
  go_enter Tryz.func186, Tryz.ntmps186
  go_wp2
  go_loopg [] s.size (fun gf wx => ∃ pos : Nat, wx.heap[w.heap.size]? = some (.stringIter s pos) ∧ Below w.heap.size w wx ∧ pos ≤ s.size ∧ s.size ≤ pos + gf ∧ Hid (∀ j, (h : j < s.size) → j < pos → okB j (s[j]'h).toNat))
  case atStart => exact ⟨0, World.iter_heap w s 0, (Below.refl _ w).alloc (Nat.le_refl _) _, Nat.zero_le _, by omega, fun j _ h => absurd h (Nat.not_lt_zero _)⟩
  case round =>
    obtain ⟨pos, hit, hbw, hps, hfu, HJ⟩ := hrel
    by_cases hlt : pos < s.size
    · obtain ⟨g', rfl⟩ : ∃ g', gk = g' + 1 := ⟨gk - 1, by omega⟩
      obtain ⟨r, hr⟩ : ∃ r, (Utf8.decode s pos).1 = r := ⟨_, rfl⟩
      obtain ⟨K, hK⟩ : ∃ K, (Utf8.decode s pos).2 = K := ⟨_, rfl⟩
      have hnx : ∀ ty, (Instr.next (.pointer (some ⟨w.heap.size, 0, none⟩)) true ty).run Tryz.prog wr = _ := fun ty => Lib.run_next_any_at wr w.heap.size s pos ty hit hlt
      rw [hr, hK] at hnx
      have hit2 := Lib.iterAt_heap wr w.heap.size s pos (pos + K) hit
      have hbw2 := Lib.below_iterAt hbw (k := w.heap.size) (Nat.le_refl _) s (pos + K)
      obtain ⟨W, hWd⟩ : ∃ W, wr.iterAt w.heap.size s (pos + K) = W := ⟨_, rfl⟩
      rw [hWd] at hnx hit2 hbw2
      clear hWd hit hbw
      by_cases hok : okB pos r
      · have hasc : (s[pos]'hlt).toNat < 128 := by
          rcases Nat.lt_or_ge (s[pos]'hlt).toNat 128 with h | h
          · exact h
          · have := (decode_high s pos hlt h).1
            rw [hr] at this
            unfold okB at hok; omega
        have hdec := decode_ascii s pos hlt hasc
        have h1 : (s[pos]'hlt).toNat = r := by rw [← hr, hdec]
        have h2 : K = 1 := by rw [← hK, hdec]
        subst h2
        have HJ2 : Hid (∀ j, (h : j < s.size) → j < pos + 1 → okB j (s[j]'h).toNat) := fun j hj hj2 => by
          rcases Nat.lt_or_ge j pos with h | h
          · exact HJ.out j hj h
          · obtain rfl : j = pos := by omega
            rw [h1]; exact hok
        clear hr hK hdec h1 hasc
        unfold okB at hok
        go_wp2
        all_goals
          go_roundg g'
          case measure => omega
          case rel => exact ⟨pos + 1, hit2, hbw2, by omega, by omega, HJ2⟩
      · have hBf : B = false := by
          cases B with
          | false => rfl
          | true =>
            have h1 := (HI.out.1 rfl).2 pos hlt
            exfalso
            have h1' : okB pos (s[pos]'hlt).toNat := h1
            rcases Nat.lt_or_ge (s[pos]'hlt).toNat 128 with h | h
            · have hdec := decode_ascii s pos hlt h
              have : (s[pos]'hlt).toNat = r := by rw [← hr, hdec]
              rw [this] at h1'; exact hok h1'
            · unfold okB at h1'; omega
        have HR := Lib.hid hBf
        clear hBf hr hK
        unfold okB at hok
        go_wp2
        all_goals
          go_ret
          exact ⟨by rw [HR.out]; rfl, hbw2⟩
    · have hnx : ∀ ty, (Instr.next (.pointer (some ⟨w.heap.size, 0, none⟩)) true ty).run Tryz.prog wr = _ := fun ty => Lib.run_next_end_at wr w.heap.size s pos ty hit hlt
      have hB : Hid (B = !s.toList.isEmpty) := by
        show B = _
        rw [HE.out]
        cases hd : s.data.toList.isEmpty with
        | true =>
          cases B with
          | false => rfl
          | true => exact absurd (List.isEmpty_iff.1 hd) (HI.out.1 rfl).1
        | false =>
          refine HI.out.2 ⟨fun e => (by rw [e] at hd; cases hd), fun j hj => ?_⟩
          have hj' : j < s.size := hj
          exact HJ.out j hj' (by omega)
      by_cases h0 : s.toList = []
      · have hne : s.toList.isEmpty = true := by rw [h0]; rfl
        clear h0
        go_wp2
        go_ret
        exact ⟨by rw [hB.out, hne]; rfl, hbw⟩
      · have hne : s.toList.isEmpty = false := by
          cases hd : s.toList with
          | nil => exact absurd hd h0
          | cons _ _ => rfl
        clear h0
        go_wp2
        go_ret
        exact ⟨by rw [hB.out, hne]; rfl, hbw⟩
end Go.Proofs.YtfkiomjplpbmiaaGreatDoor

/- Contracts of package cells, seventh part: cutLeft, some. -/
namespace Go.Proofs.YtfkiomjplpbmiaaGreatDoor
open Go.RowKit Go.Lib

theorem dropWhile_at (p : UInt8 → Bool) : ∀ (l : List UInt8) (k : Nat), k ≤ l.length → (∀ j, (h : j < l.length) → j < k → p l[j] = true) → (∀ h : k < l.length, p l[k] = false) → l.dropWhile p = l.drop k
  | [], k, hk, _, _ => by simp
  | b :: l, 0, _, _, h => by
    have := h (by simp)
    simp at this
    simp [this]
  | b :: l, k + 1, hk, h1, h2 => by
    have hb : p b = true := h1 0 (by simp) (by omega)
    rw [List.dropWhile_cons, if_pos hb, List.drop_succ_cons]
    exact dropWhile_at p l k (by simpa using hk) (fun j hj hjk => h1 (j + 1) (by simpa using hj) (by omega)) (fun h => h2 (by simpa using h))

/-- Has one of a text's first p bytes this number? -/
def hasN (t : ByteArray) (p : Nat) (r : Nat) : Bool := (t.data.toList.take p).any fun b => b.toNat == r
theorem hasN_succ (t : ByteArray) (p r : Nat) (h : p < t.size) : hasN t (p + 1) r = (hasN t p r || (t[p]'h).toNat == r) := by
  unfold hasN; rw [take_snoc t p h]; simp
theorem hasN_all (t : ByteArray) (r : Nat) : hasN t t.size r = t.data.toList.any fun b => b.toNat == r := by
  unfold hasN; rw [show t.data.toList.take t.size = t.data.toList from List.take_of_length_le (Nat.le_refl _)]
theorem has_contains (l : List UInt8) (b : UInt8) : (l.any fun c => c.toNat == b.toNat) = l.contains b := by
  induction l with
  | nil => rfl
  | cons a l ih =>
    rw [List.any_cons, ih, List.contains_cons]
    congr 1
    rw [Bool.eq_iff_iff, beq_iff_eq, beq_iff_eq, UInt8.toNat_inj]
    exact ⟨fun h => h.symm, fun h => h.symm⟩

set_option maxHeartbeats 4000000 in
theorem cutLeft_any (s t : ByteArray) (w : World) (ht : ∀ j, (h : j < t.size) → (t[j]'h).toNat < 128) :
    Calls Tryz.prog 223 #[.string s, .string t] w (Q (.string ⟨(s.data.toList.dropWhile (t.data.toList.contains ·)).toArray⟩) w) := by
  have HT := Lib.hid ht
  clear ht
  have hd : ∀ k, k ≤ s.data.toList.length → (∀ j, (h : j < s.data.toList.length) → j < k → t.data.toList.contains s.data.toList[j] = true) → (∀ h : k < s.data.toList.length, t.data.toList.contains s.data.toList[k] = false) → s.data.toList.dropWhile (t.data.toList.contains ·) = s.data.toList.drop k :=
    dropWhile_at (t.data.toList.contains ·) s.data.toList
  have HD := Lib.hid hd
  clear hd
  generalize s.data.toList.dropWhile (t.data.toList.contains ·) = R at HD ⊢
  go_enter Tryz.func223, Tryz.ntmps223
  go_wp2
  go_loopg [] s.size (fun gf wx => ∃ pos : Nat, wx.heap[w.heap.size]? = some (.stringIter s pos) ∧ Below w.heap.size w wx ∧ pos ≤ s.size ∧ s.size ≤ pos + gf ∧ Hid (∀ j, (h : j < s.data.toList.length) → j < pos → t.data.toList.contains s.data.toList[j] = true))
  case atStart => exact ⟨0, World.iter_heap w s 0, (Below.refl _ w).alloc (Nat.le_refl _) _, Nat.zero_le _, by omega, fun j _ h => absurd h (Nat.not_lt_zero _)⟩
  case round =>
    obtain ⟨pos, hit, hbw, hps, hfu, HJ⟩ := hrel
    by_cases hlt : pos < s.size
    · obtain ⟨g', rfl⟩ : ∃ g', gk = g' + 1 := ⟨gk - 1, by omega⟩
      obtain ⟨r, hr⟩ : ∃ r, (Utf8.decode s pos).1 = r := ⟨_, rfl⟩
      obtain ⟨K, hK⟩ : ∃ K, (Utf8.decode s pos).2 = K := ⟨_, rfl⟩
      have hnx : ∀ ty, (Instr.next (.pointer (some ⟨w.heap.size, 0, none⟩)) true ty).run Tryz.prog wr = _ := fun ty => Lib.run_next_any_at wr w.heap.size s pos ty hit hlt
      rw [hr, hK] at hnx
      have hit2 := Lib.iterAt_heap wr w.heap.size s pos (pos + K) hit
      have hbw2 := Lib.below_iterAt hbw (k := w.heap.size) (Nat.le_refl _) s (pos + K)
      obtain ⟨W, hWd⟩ : ∃ W, wr.iterAt w.heap.size s (pos + K) = W := ⟨_, rfl⟩
      rw [hWd] at hnx hit2 hbw2
      clear hWd hit hbw
      go_wp2
      clear hnx
      go_loopg [7] t.size (fun gf inn wx => ∃ (p : Nat) (b : Bool), wx.heap[W.heap.size]? = some (.stringIter t p) ∧ Below W.heap.size W wx ∧ p ≤ t.size ∧ t.size ≤ p + gf ∧ inn = .bool b ∧ Hid (b = hasN t p r))
      case atStart => exact ⟨0, false, World.iter_heap W t 0, (Below.refl _ W).alloc (Nat.le_refl _) _, Nat.zero_le _, by omega, rfl, by show false = _; simp [hasN]⟩
      case round =>
        obtain ⟨p, b, hit3, hbw3, hps3, hfu3, rfl, hb⟩ := hrel
        by_cases hlt3 : p < t.size
        · obtain ⟨k', rfl⟩ : ∃ k', gk = k' + 1 := ⟨gk - 1, by omega⟩
          have hnx : ∀ ty, (Instr.next (.pointer (some ⟨W.heap.size, 0, none⟩)) true ty).run Tryz.prog wr = _ := fun ty => Lib.run_next_ascii_at wr W.heap.size t p ty hit3 hlt3 (HT.out p hlt3)
          have hit4 := Lib.iterAt_heap wr W.heap.size t p (p + 1) hit3
          have hbw4 := Lib.below_iterAt hbw3 (k := W.heap.size) (Nat.le_refl _) t (p + 1)
          obtain ⟨W4, hW4⟩ : ∃ W4, wr.iterAt W.heap.size t (p + 1) = W4 := ⟨_, rfl⟩
          rw [hW4] at hnx hit4 hbw4
          clear hW4 hit3 hbw3
          have hsucc : hasN t (p + 1) r = (b || (t[p]'hlt3).toNat == r) := by rw [hasN_succ t p r hlt3, ← hb.out]
          have HS := Lib.hid hsucc
          clear hsucc
          generalize (t[p]'hlt3).toNat = q at hnx HS
          cases b with
          | true =>
            go_wp2
            go_roundg k'
            case measure => omega
            case rel => exact ⟨p + 1, true, hit4, hbw4, by omega, by omega, rfl, by show true = _; rw [HS.out]; rfl⟩
          | false =>
            by_cases hq : q = r
            · have hq1 : (((r : Nat) : Int) == (q : Int)) = true := by rw [hq]; simp
              have HS2 : Hid (true = hasN t (p + 1) r) := by show true = _; rw [HS.out, hq]; simp
              clear HS hq
              go_wp2
              go_roundg k'
              case measure => omega
              case rel => exact ⟨p + 1, true, hit4, hbw4, by omega, by omega, rfl, HS2⟩
            · have hq1 : (((r : Nat) : Int) == (q : Int)) = false := by rw [beq_eq_false_iff_ne]; omega
              have HS2 : Hid (false = hasN t (p + 1) r) := by show false = _; rw [HS.out]; simp [hq]
              clear HS hq
              go_wp2
              go_roundg k'
              case measure => omega
              case rel => exact ⟨p + 1, false, hit4, hbw4, by omega, by omega, rfl, HS2⟩
        · have hnx : ∀ ty, (Instr.next (.pointer (some ⟨W.heap.size, 0, none⟩)) true ty).run Tryz.prog wr = _ := fun ty => Lib.run_next_end_at wr W.heap.size t p ty hit3 hlt3
          have hall : Hid (b = t.data.toList.any fun c => c.toNat == r) := by
            have : p = t.size := by omega
            show b = _
            rw [hb.out, this, hasN_all]
          have hbw5 : Below w.heap.size w wr := hbw2.trans (hbw3.mono hbw2.size)
          have hit5 : wr.heap[w.heap.size]? = some (.stringIter s (pos + K)) := (hbw3.block w.heap.size (Array.getElem?_eq_some_iff.1 hit2).1).trans hit2
          clear hit3 hbw3 hb
          cases b with
          | true =>
            have hasc : (s[pos]'hlt).toNat < 128 := by
              rcases Nat.lt_or_ge (s[pos]'hlt).toNat 128 with h | h
              · exact h
              · exfalso
                have h1 := (decode_high s pos hlt h).1
                obtain ⟨c, hc, hcr⟩ := List.any_eq_true.1 hall.out.symm
                obtain ⟨j, hj, rfl⟩ := List.getElem_of_mem hc
                have h2 := HT.out j hj
                have h3 : (t[j]'hj).toNat = r := beq_iff_eq.1 hcr
                omega
            have hdec := decode_ascii s pos hlt hasc
            have h1 : (s[pos]'hlt).toNat = r := by rw [← hr, hdec]
            have h2 : K = 1 := by rw [← hK, hdec]
            subst h2
            have HJ2 : Hid (∀ j, (h : j < s.data.toList.length) → j < pos + 1 → t.data.toList.contains s.data.toList[j] = true) := fun j hj hj2 => by
              rcases Nat.lt_or_ge j pos with h | h
              · exact HJ.out j hj h
              · obtain rfl : j = pos := by omega
                rw [← has_contains, show (s.data.toList[j]).toNat = r from h1]; exact hall.out.symm
            clear hr hK hdec h1 hasc hall HJ
            go_wp2
            go_roundg g'
            case measure => omega
            case rel => exact ⟨pos + 1, hit5, hbw5, by omega, by omega, HJ2⟩
          | false =>
            have hno : t.data.toList.contains (s.data.toList[pos]'hlt) = false := by
              rw [← has_contains]
              rcases Nat.lt_or_ge (s[pos]'hlt).toNat 128 with h | h
              · have hdec := decode_ascii s pos hlt h
                have h1 : (s.data.toList[pos]'hlt).toNat = r := by rw [← hr, hdec]; rfl
                rw [h1]; exact hall.out.symm
              · cases hc : t.data.toList.any fun c => c.toNat == (s.data.toList[pos]'hlt).toNat with
                | false => rfl
                | true =>
                  exfalso
                  obtain ⟨c, hc, hcr⟩ := List.any_eq_true.1 hc
                  obtain ⟨j, hj, rfl⟩ := List.getElem_of_mem hc
                  have h2 := HT.out j hj
                  have h3 : (t[j]'hj).toNat = (s[pos]'hlt).toNat := beq_iff_eq.1 hcr
                  omega
            have hR : Hid (R = s.data.toList.drop pos) := HD.out pos (by show pos ≤ s.size; omega) HJ.out (fun _ => hno)
            have hext : (s.extract pos s.size) = ⟨(s.data.toList.drop pos).toArray⟩ := by
              apply ByteArray.ext
              rw [← Array.toList_inj, Lib.extract_to_end]
            have HX := Lib.hid hext
            clear hext hno hall HJ HD hr hK
            go_wp2
            go_ret
            exact ⟨by rw [hR.out, ← HX.out]; rfl, hbw5⟩
    · have hnx : ∀ ty, (Instr.next (.pointer (some ⟨w.heap.size, 0, none⟩)) true ty).run Tryz.prog wr = _ := fun ty => Lib.run_next_end_at wr w.heap.size s pos ty hit hlt
      have hR : Hid (R = []) := by
        show R = []
        have hp : pos = s.data.toList.length := by show pos = s.size; omega
        rw [HD.out pos (by omega) HJ.out (fun h => absurd h (by omega))]
        exact List.drop_eq_nil_of_le (by omega)
      clear HD HJ
      go_wp2
      go_ret
      exact ⟨by rw [hR.out]; rfl, hbw⟩

theorem take_drop_len (p : UInt8 → Bool) (l : List UInt8) : l.take (l.length - (l.dropWhile p).length) = l.takeWhile p := by
  have h : l.length = (l.takeWhile p).length + (l.dropWhile p).length := by
    have := congrArg List.length (List.takeWhile_append_dropWhile (p := p) (l := l))
    rw [List.length_append] at this; omega
  rw [show l.length - (l.dropWhile p).length = (l.takeWhile p).length by omega, Pl.take_takeWhile]

set_option maxHeartbeats 1000000 in
theorem some_any (s t : ByteArray) (w : World) (hs : s.size ≤ 9223372036854775807) (ht : ∀ j, (h : j < t.size) → (t[j]'h).toNat < 128) :
    Calls Tryz.prog 187 #[.string s, .string t] w (Q (.tuple #[.string ⟨(s.data.toList.takeWhile (t.data.toList.contains ·)).toArray⟩, .string ⟨(s.data.toList.dropWhile (t.data.toList.contains ·)).toArray⟩]) w) := by
  have c1 := cutLeft_any s t w ht
  have hle : (⟨(s.data.toList.dropWhile (t.data.toList.contains ·)).toArray⟩ : ByteArray).size ≤ s.size := by
    show (s.data.toList.dropWhile (t.data.toList.contains ·)).toArray.size ≤ s.data.toList.length
    simpa using List.Sublist.length_le (List.dropWhile_sublist (l := s.data.toList) (t.data.toList.contains ·))
  have hx : s.extract 0 (s.size - (⟨(s.data.toList.dropWhile (t.data.toList.contains ·)).toArray⟩ : ByteArray).size) = ⟨(s.data.toList.takeWhile (t.data.toList.contains ·)).toArray⟩ := by
    apply ByteArray.ext
    rw [← Array.toList_inj, Lib.extract_data, List.drop_zero]
    rw [← take_drop_len (t.data.toList.contains ·) s.data.toList]
    rfl
  generalize (⟨(s.data.toList.dropWhile (t.data.toList.contains ·)).toArray⟩ : ByteArray) = R at *
  rw [← hx]
  have C1 := Lib.hid c1
  clear c1 hx ht
  go_enter Tryz.func187, Tryz.ntmps187
  go_wp2_with fail
  refine C1.out.mono ?_
  rintro e w1 ⟨rfl, hb⟩
  go_wp2_with fail
  go_ret2
  exact ⟨rfl, hb⟩
end Go.Proofs.YtfkiomjplpbmiaaGreatDoor

/- Contracts of package cells, eighth part: the sheet ahead of a reference. -/
namespace Go.Proofs.YtfkiomjplpbmiaaGreatDoor
open Go.RowKit Go.Lib

theorem bytes_eq (s : ByteArray) : (⟨s.data.toList.toArray⟩ : ByteArray) = s := by cases s; simp

theorem cut_no (s : ByteArray) (c : UInt8) (hs : s.size < 4294967281) (h : s.data.toList.contains c = false) (w : World) (hg : Glob w) :
    Calls Tryz.prog 185 #[.string s, .string ⟨#[c]⟩] w (Q (.tuple #[.string s, .string ⟨#[]⟩, .bool false]) w) := by
  have h0 := cut_one s c w hs hg
  unfold Pl.cut1 at h0
  rw [(Pl.takeWhile_all h).1, (Pl.takeWhile_all h).2, h, bytes_eq] at h0
  exact h0.mono fun _ _ ⟨he, n, hn⟩ => ⟨he, by rw [hn]; exact below_drewN (Below.refl _ _) n⟩

theorem dropWhile_nil (p : UInt8 → Bool) : ∀ l : List UInt8, l.dropWhile p = [] → ∀ x ∈ l, p x = true
  | [], _, _, hx => by simp at hx
  | b :: l, h, x, hx => by
    rw [List.dropWhile_cons] at h
    split at h
    case isTrue hb =>
      rcases List.mem_cons.1 hx with rfl | hx
      · exact hb
      · exact dropWhile_nil p l h x hx
    case isFalse hb => cases h

theorem cut_parts (l : List UInt8) (c : UInt8) (h : l.contains c = true) : (l.takeWhile (· != c)).length + (l.dropWhile (· != c)).tail.length + 1 = l.length := by
  have h1 := congrArg List.length (List.takeWhile_append_dropWhile (p := (· != c)) (l := l))
  rw [List.length_append] at h1
  have h2 : l.dropWhile (· != c) ≠ [] := by
    intro e
    have h3 : ∀ x ∈ l, (x != c) = true := dropWhile_nil _ l e
    have h4 := h3 c (by simpa using h)
    simp at h4
  have h5 : 0 < (l.dropWhile (· != c)).length := List.length_pos_iff.2 h2
  rw [List.length_tail]; omega

/-- strings.Cut where the byte is there: what is ahead of it, what is behind it. -/
theorem cut_yes (s : ByteArray) (c : UInt8) (hs : s.size < 4294967281) (h : s.data.toList.contains c = true) :
    ∃ a b : ByteArray, a.data.toList = s.data.toList.takeWhile (· != c) ∧ b.data.toList = (s.data.toList.dropWhile (· != c)).tail ∧ a.size + b.size + 1 = s.size ∧
      ∀ w, Glob w → Calls Tryz.prog 185 #[.string s, .string ⟨#[c]⟩] w (Q (.tuple #[.string a, .string b, .bool true]) w) := by
  refine ⟨⟨(s.data.toList.takeWhile (· != c)).toArray⟩, ⟨(s.data.toList.dropWhile (· != c)).tail.toArray⟩, by simp, by simp, ?_, fun w hg => ?_⟩
  · have := cut_parts s.data.toList c h
    show (s.data.toList.takeWhile (· != c)).toArray.size + (s.data.toList.dropWhile (· != c)).tail.toArray.size + 1 = s.data.toList.length
    simpa using this
  · have h0 := cut_one s c w hs hg
    unfold Pl.cut1 at h0
    rw [h] at h0
    exact h0.mono fun _ _ ⟨he, n, hn⟩ => ⟨he, by rw [hn]; exact below_drewN (Below.refl _ _) n⟩

/-- What stands between two marks, with two for one: its text, and what is behind; none: it does not end. -/
def quotedL (acc : List UInt8) : List UInt8 → Option (List UInt8 × List UInt8)
  | [] => none
  | c :: r => if c = 39 then (if r.head? = some 39 then quotedL (acc ++ [39]) r.tail else some (acc, r)) else quotedL (acc ++ [c]) r
termination_by l => l.length
decreasing_by
  · cases r <;> simp; omega
  · simp

theorem quotedL_no : ∀ (l acc : List UInt8), l.contains 39 = false → quotedL acc l = none
  | [], acc, _ => by rw [quotedL]
  | c :: r, acc, h => by
    simp only [List.contains_cons, Bool.or_eq_false_iff, beq_eq_false_iff_ne] at h
    rw [quotedL, if_neg (fun e => h.1 e.symm)]
    exact quotedL_no r _ h.2

theorem quotedL_yes : ∀ (l acc : List UInt8), l.contains 39 = true → quotedL acc l =
    if (l.dropWhile (· != 39)).tail.head? = some 39 then quotedL (acc ++ l.takeWhile (· != 39) ++ [39]) (l.dropWhile (· != 39)).tail.tail else some (acc ++ l.takeWhile (· != 39), (l.dropWhile (· != 39)).tail)
  | [], acc, h => by simp at h
  | c :: r, acc, h => by
    by_cases hc : c = 39
    · subst hc
      rw [quotedL, if_pos rfl]; simp
    · have hr : r.contains 39 = true := by
        simp only [List.contains_cons, Bool.or_eq_true, beq_iff_eq] at h
        exact h.resolve_left (fun e => hc e.symm)
      have hb : (c != 39) = true := by simp [hc]
      rw [quotedL, if_neg hc, quotedL_yes r _ hr]
      simp [hb]

def quoted (l : List UInt8) : Option (List UInt8 × List UInt8) := quotedL [] l

/-- The sheet with which a text begins, what is left, and whether it is one. -/
def sheetF (l : List UInt8) : List UInt8 × List UInt8 × Bool :=
  if l.head? = some 39 then
    match quoted l.tail with
    | none => ([], [], false)
    | some (n, r) => (n, if r.head? = some 33 then r.tail else r, (r.head? == some 33) && Pl.sheetName n && !Pl.wordly n)
  else if l.contains 33 then (l.takeWhile (· != 33), (l.dropWhile (· != 33)).tail, Pl.wordly (l.takeWhile (· != 33)) && Pl.sheetName (l.takeWhile (· != 33)))
  else ([], l, true)

/-- A triple of two texts and a bool, as Go hands it back. -/
def V3 (x : List UInt8 × List UInt8 × Bool) : Value := .tuple #[.string ⟨x.1.toArray⟩, .string ⟨x.2.1.toArray⟩, .bool x.2.2]

set_option maxHeartbeats 2000000 in
theorem sheet_plain (s : ByteArray) (w : World) (hs : s.size ≤ 4294967280) (hg : Glob w) (hq : s.data.toList.head? ≠ some 39) :
    Calls Tryz.prog 142 #[.string s] w (Q (V3 (sheetF s.data.toList)) w) := by
  have hf : sheetF s.data.toList = if s.data.toList.contains 33 then (s.data.toList.takeWhile (· != 33), (s.data.toList.dropWhile (· != 33)).tail, Pl.wordly (s.data.toList.takeWhile (· != 33)) && Pl.sheetName (s.data.toList.takeWhile (· != 33))) else ([], s.data.toList, true) := by
    unfold sheetF; rw [if_neg hq]
  have c1 := prefix_one s 39
  have hq' : (s.data.toList.head? == some 39) = false := by simpa using hq
  rw [hq'] at c1
  have C1 := Lib.hid c1
  clear c1 hq hq'
  by_cases h : s.data.toList.contains 33 = true
  · rw [if_pos h] at hf
    obtain ⟨a, b, ha, hb, hab, hcut⟩ := cut_yes s 33 (by omega) h
    rw [← ha, ← hb] at hf
    rw [hf]
    unfold V3
    dsimp only
    rw [bytes_eq, bytes_eq]
    have C2 := Lib.hid hcut
    have C3 := Lib.hid (fun w => wordly_any a w (by omega))
    have C4 := Lib.hid (fun w => sheetName_any a w)
    clear hf ha hb hab hcut h hs
    generalize Pl.wordly a.data.toList = b1 at *
    generalize Pl.sheetName a.data.toList = b2 at *
    go_enter Tryz.func142, Tryz.ntmps142
    go_wp2_with fail
    go_step3
    go_wp2_with fail
    refine (C1.out _).mono ?_
    rintro e w1 ⟨rfl, rfl⟩
    go_wp2_with fail
    refine (C2.out _ hg).mono ?_
    rintro e w1 ⟨rfl, hb1⟩
    go_wp2_with fail
    refine (C3.out _).mono ?_
    rintro e w2 ⟨rfl, hb2⟩
    have hb3 : Below w.heap.size w w2 := hb1.trans (hb2.mono hb1.size)
    clear hb1 hb2
    cases b1 with
    | false =>
      go_wp2_with fail
      go_ret3
      exact ⟨rfl, hb3⟩
    | true =>
      go_wp2_with fail
      refine (C4.out _).mono ?_
      rintro e w4 ⟨rfl, hb4⟩
      have hb5 : Below w.heap.size w w4 := hb3.trans (hb4.mono hb3.size)
      clear hb3 hb4
      go_wp2_with fail
      go_ret3
      exact ⟨rfl, hb5⟩
  · have h' : s.data.toList.contains 33 = false := by simpa using h
    rw [if_neg h] at hf
    rw [hf]
    unfold V3
    dsimp only
    rw [bytes_eq]
    have C2 := Lib.hid (fun w hg => cut_no s 33 (by omega) h' w hg)
    clear hf h h' hs
    go_enter Tryz.func142, Tryz.ntmps142
    go_wp2_with fail
    go_step3
    go_wp2_with fail
    refine (C1.out _).mono ?_
    rintro e w1 ⟨rfl, rfl⟩
    go_wp2_with fail
    refine (C2.out _ hg).mono ?_
    rintro e w1 ⟨rfl, hb1⟩
    go_wp2_with fail
    go_ret3
    exact ⟨rfl, hb1⟩

/-- A text without its first byte, as Go cuts it. -/
theorem tail_cut (s : ByteArray) : (s.extract 1 s.size).data.toList = s.data.toList.tail := by rw [Lib.extract_to_end, List.drop_one]

set_option maxHeartbeats 4000000 in
theorem sheet_quoted (s : ByteArray) (w : World) (hs : s.size ≤ 4294967280) (hg : Glob w) (hq : s.data.toList.head? = some 39) :
    Calls Tryz.prog 142 #[.string s] w (Q (V3 (sheetF s.data.toList)) w) := by
  have hf : sheetF s.data.toList = match quoted s.data.toList.tail with
    | none => ([], [], false)
    | some (n, r) => (n, if r.head? = some 33 then r.tail else r, (r.head? == some 33) && Pl.sheetName n && !Pl.wordly n) := by
    unfold sheetF; rw [if_pos hq]
  have c1 := prefix_one s 39
  have hq' : (s.data.toList.head? == some 39) = true := by simpa using hq
  rw [hq'] at c1
  have C1 := Lib.hid c1
  have hs1 : 1 ≤ s.size := by
    have : s.data.toList ≠ [] := by intro e; rw [e] at hq; cases hq
    have := List.length_pos_iff.2 this
    exact this
  clear c1 hq hq'
  have htc := tail_cut s
  have hts : (s.extract 1 s.size).size = s.size - 1 := by simp
  have HF := Lib.hid hf
  generalize sheetF s.data.toList = R at HF ⊢
  clear hf
  go_enter Tryz.func142, Tryz.ntmps142
  go_wp2_with fail
  go_step3
  go_wp2_with fail
  refine (C1.out _).mono ?_
  rintro e w1 ⟨rfl, rfl⟩
  go_wp2_with fail
  go_quiet (fail)
  go_wp2_with fail
  go_step3
  go_wp2_with fail
  rename_i nq
  go_loopg [8, 9] s.size (fun gf nm rs wx => ∃ n r : ByteArray, nm = .string n ∧ rs = .string r ∧ n.size + r.size ≤ s.size ∧ r.size < gf ∧ Below w.heap.size w wx ∧ Hid (quotedL n.data.toList r.data.toList = quoted s.data.toList.tail))
  case atStart => exact ⟨⟨#[]⟩, s.extract 1 s.size, rfl, rfl, by rw [hts]; show 0 + _ ≤ _; omega, by rw [hts]; omega, below_drewN (Below.refl _ _) _, by show quotedL [] _ = _; rw [htc]; rfl⟩
  case round =>
    obtain ⟨n, r, rfl, rfl, hsz, hfu, hbw, HQ⟩ := hrel
    have hgr := hg.below hbw
    obtain ⟨g', rfl⟩ : ∃ g', gk = g' + 1 := ⟨gk - 1, by omega⟩
    by_cases h : r.data.toList.contains 39 = true
    · obtain ⟨a, b, ha, hb, hab, hcut⟩ := cut_yes r 39 (by omega) h
      have hq2 := quotedL_yes _ n.data.toList h
      rw [← ha, ← hb, HQ.out] at hq2
      have HQ2 := Lib.hid hq2
      have C2 := Lib.hid hcut
      clear hcut h ha hb HQ hq2
      cases hhd : (b.data.toList.head? == some 39) with
      | true =>
        have c3 := prefix_one b 39
        rw [hhd] at c3
        have C3 := Lib.hid c3
        have hh : b.data.toList.head? = some 39 := by simpa using hhd
        have hb1 : 1 ≤ b.size := by
          have : b.data.toList ≠ [] := by intro e; rw [e] at hh; cases hh
          exact List.length_pos_iff.2 this
        have hbe : (b.extract 1 b.size).size = b.size - 1 := by simp
        have HB := Lib.hid hbe
        have htb := tail_cut b
        have HE : Hid (quotedL (n ++ a ++ ⟨#[39]⟩).data.toList (b.extract 1 b.size).data.toList = quoted s.data.toList.tail) := by
          show _ = _
          rw [htb, HQ2.out, if_pos hh]; simp
        clear c3 hhd hh hbe htb HQ2
        have h39 : (⟨#[39]⟩ : ByteArray).size ≤ 1 := Nat.le_refl 1
        go_wp2_with fail
        refine (C2.out _ hgr).mono ?_
        rintro e w1 ⟨rfl, hb2⟩
        have hb3 : Below w.heap.size w w1 := hbw.trans (hb2.mono hbw.size)
        clear hb2 hbw
        go_wp2_with fail
        refine (C3.out _).mono ?_
        rintro e w2 ⟨rfl, rfl⟩
        go_wp2_with fail
        go_roundg g'
        case measure => omega
        case rel => exact ⟨n ++ a ++ ⟨#[39]⟩, b.extract 1 b.size, rfl, rfl, by rw [HB.out]; simp; omega, by rw [HB.out]; omega, hb3, HE⟩
      | false =>
        have c3 := prefix_one b 39
        rw [hhd] at c3
        have C3 := Lib.hid c3
        have hh : ¬ b.data.toList.head? = some 39 := by simpa using hhd
        have hsn : (n ++ a).size ≤ s.size := by rw [ByteArray.size_append]; omega
        have HE : Hid (R = ((n ++ a).data.toList, if b.data.toList.head? = some 33 then b.data.toList.tail else b.data.toList, (b.data.toList.head? == some 33) && Pl.sheetName (n ++ a).data.toList && !Pl.wordly (n ++ a).data.toList)) := by
          show _ = _
          rw [HF.out, HQ2.out, if_neg hh]
          simp
        have C4 := Lib.hid (cutPrefix_one b 33)
        have C5 := Lib.hid (sheetName_any (n ++ a))
        have C6 := Lib.hid (fun w => wordly_any (n ++ a) w (by omega))
        clear c3 hhd hh HQ2 HF hs1 htc hts
        obtain ⟨m, hm⟩ : ∃ m, n ++ a = m := ⟨_, rfl⟩
        rw [hm] at HE C5 C6
        obtain ⟨bt, hbt⟩ : ∃ bt : ByteArray, (⟨(if b.data.toList.head? == some 33 then b.data.toList.tail else b.data.toList).toArray⟩ : ByteArray) = bt := ⟨_, rfl⟩
        have hbt2 : (if b.data.toList.head? = some 33 then b.data.toList.tail else b.data.toList) = bt.data.toList := by
          rw [← hbt]
          by_cases h : b.data.toList.head? = some 33 <;> simp [h]
        rw [hbt] at C4
        rw [hbt2] at HE
        clear hbt hbt2
        have HV : Hid (V3 R = .tuple #[.string m, .string bt, .bool ((b.data.toList.head? == some 33) && Pl.sheetName m.data.toList && !Pl.wordly m.data.toList)]) := by
          show _ = _
          rw [HE.out]; unfold V3; dsimp only
        clear HE
        generalize (b.data.toList.head? == some 33) = b1 at *
        generalize Pl.sheetName m.data.toList = b2 at *
        generalize Pl.wordly m.data.toList = b3 at *
        have HM := Lib.hid hm
        clear hm
        go_wp2_with fail
        refine (C2.out _ hgr).mono ?_
        rintro e w1 ⟨rfl, hb2⟩
        have hb3 : Below w.heap.size w w1 := hbw.trans (hb2.mono hbw.size)
        clear hb2 hbw
        go_wp2_with fail
        refine (C3.out _).mono ?_
        rintro e w2 ⟨rfl, rfl⟩
        go_wp2_with fail
        refine (C4.out _).mono ?_
        rintro e w2 ⟨rfl, rfl⟩
        rw [HM.out]
        cases b1 with
        | false =>
          go_wp2_with fail
          try rw [Exit.noGoto_ret]
          go_ret3
          exact ⟨by rw [HV.out]; rfl, hb3⟩
        | true =>
          go_wp2_with fail
          refine (C5.out _).mono ?_
          rintro e w2 ⟨rfl, hb4⟩
          have hb5 : Below w.heap.size w w2 := hb3.trans (hb4.mono hb3.size)
          clear hb3 hb4
          cases b2 with
          | false =>
            go_wp2_with fail
            try rw [Exit.noGoto_ret]
            go_ret3
            exact ⟨by rw [HV.out]; rfl, hb5⟩
          | true =>
            go_wp2_with fail
            refine (C6.out _).mono ?_
            rintro e w3 ⟨rfl, hb6⟩
            have hb7 : Below w.heap.size w w3 := hb5.trans (hb6.mono hb5.size)
            clear hb5 hb6
            go_wp2_with fail
            try rw [Exit.noGoto_ret]
            go_ret3
            exact ⟨by rw [HV.out]; rfl, hb7⟩
    · have h' : r.data.toList.contains 39 = false := by simpa using h
      have C2 := Lib.hid (fun w hg => cut_no r 39 (by omega) h' w hg)
      have hR : R = ([], [], false) := by rw [HF.out, ← HQ.out, quotedL_no _ _ h']
      have HR := Lib.hid hR
      clear h h' hR HF HQ
      go_wp2_with fail
      refine (C2.out _ hgr).mono ?_
      rintro e w1 ⟨rfl, hb1⟩
      go_wp2_with fail
      try rw [Exit.noGoto_ret]
      go_ret3
      exact ⟨by rw [HR.out]; rfl, hbw.trans (hb1.mono hbw.size)⟩

theorem sheet_any (s : ByteArray) (w : World) (hs : s.size ≤ 4294967280) (hg : Glob w) :
    Calls Tryz.prog 142 #[.string s] w (Q (V3 (sheetF s.data.toList)) w) := by
  by_cases hq : s.data.toList.head? = some 39
  · exact sheet_quoted s w hs hg hq
  · exact sheet_plain s w hs hg hq
end Go.Proofs.YtfkiomjplpbmiaaGreatDoor

/- Contracts of package cells, ninth part: a reference without a sheet. -/
namespace Go.Proofs.YtfkiomjplpbmiaaGreatDoor
open Go.RowKit Go.Lib

/-- A reference in memory. -/
structure RefAt (w : World) (B : Nat) (sh : ByteArray) (c r : Int) (ac ar : Bool) : Prop where
  c0 : w.cell? ⟨B, 0, none⟩ = some (.string sh)
  c1 : w.cell? ⟨B, 1, none⟩ = some (.int .i64 c)
  c2 : w.cell? ⟨B, 2, none⟩ = some (.int .i64 r)
  c3 : w.cell? ⟨B, 3, none⟩ = some (.bool ac)
  c4 : w.cell? ⟨B, 4, none⟩ = some (.bool ar)
  fz : ∀ o, w.frozen? ⟨B, o, none⟩ = false
  lt : B < w.heap.size

section
variable {w w' : World} {B : Nat} {sh : ByteArray} {c r : Int} {ac ar : Bool}
theorem RefAt.of_block (h : RefAt w B sh c r ac ar) (hz : w.heap.size ≤ w'.heap.size) (hb : w'.heap[B]? = w.heap[B]?) : RefAt w' B sh c r ac ar :=
  ⟨(World.cell?_of_block (a := ⟨B, 0, none⟩) hb).trans h.c0, (World.cell?_of_block (a := ⟨B, 1, none⟩) hb).trans h.c1, (World.cell?_of_block (a := ⟨B, 2, none⟩) hb).trans h.c2,
   (World.cell?_of_block (a := ⟨B, 3, none⟩) hb).trans h.c3, (World.cell?_of_block (a := ⟨B, 4, none⟩) hb).trans h.c4, fun o => (World.frozen?_of_block (a := ⟨B, o, none⟩) hb).trans (h.fz o), Nat.lt_of_lt_of_le h.lt hz⟩
theorem RefAt.below (h : RefAt w B sh c r ac ar) (hb : Below w.heap.size w w') : RefAt w' B sh c r ac ar := h.of_block hb.size (hb.block B h.lt)
theorem RefAt.alloc (h : RefAt w B sh c r ac ar) (o : Obj) : RefAt (w.alloc o) B sh c r ac ar := h.of_block (by simp) (Below.heap_alloc _ _ _ h.lt)
theorem RefAt.new (w : World) (sh : ByteArray) (c r : Int) (ac ar : Bool) : RefAt (w.alloc (.cells #[.string sh, .int .i64 c, .int .i64 r, .bool ac, .bool ar] 32)) w.heap.size sh c r ac ar :=
  ⟨by simp [go_sem], by simp [go_sem], by simp [go_sem], by simp [go_sem], by simp [go_sem], fun o => by simp [go_sem], by simp⟩
theorem setCell_size (w : World) (a : Addr) (v : Value) : (w.setCell a v).heap.size = w.heap.size := by simp [World.setCell]
theorem RefAt.other (h : RefAt w B sh c r ac ar) (a : Addr) (v : Value) (hne : B ≠ a.block) : RefAt (w.setCell a v) B sh c r ac ar :=
  h.of_block (by rw [setCell_size]; exact Nat.le_refl _) (Below.heap_setCell _ _ _ _ hne)
theorem cell_set_ne (w : World) (B i j : Nat) (v : Value) (h : i ≠ j) : (w.setCell ⟨B, i, none⟩ v).cell? ⟨B, j, none⟩ = w.cell? ⟨B, j, none⟩ :=
  World.cell?_setCell_other _ _ _ _ (by intro e; injection e with _ e; exact h e)
theorem RefAt.set0 (h : RefAt w B sh c r ac ar) (x : ByteArray) : RefAt (w.setCell ⟨B, 0, none⟩ (.string x)) B x c r ac ar :=
  ⟨World.cell?_setCell_same _ _ _ h.c0, (cell_set_ne _ _ _ _ _ (by decide)).trans h.c1, (cell_set_ne _ _ _ _ _ (by decide)).trans h.c2, (cell_set_ne _ _ _ _ _ (by decide)).trans h.c3, (cell_set_ne _ _ _ _ _ (by decide)).trans h.c4, fun o => by rw [World.frozen?_setCell]; exact h.fz o, by rw [setCell_size]; exact h.lt⟩
theorem RefAt.set1 (h : RefAt w B sh c r ac ar) (x : Int) : RefAt (w.setCell ⟨B, 1, none⟩ (.int .i64 x)) B sh x r ac ar :=
  ⟨(cell_set_ne _ _ _ _ _ (by decide)).trans h.c0, World.cell?_setCell_same _ _ _ h.c1, (cell_set_ne _ _ _ _ _ (by decide)).trans h.c2, (cell_set_ne _ _ _ _ _ (by decide)).trans h.c3, (cell_set_ne _ _ _ _ _ (by decide)).trans h.c4, fun o => by rw [World.frozen?_setCell]; exact h.fz o, by rw [setCell_size]; exact h.lt⟩
theorem RefAt.set2 (h : RefAt w B sh c r ac ar) (x : Int) : RefAt (w.setCell ⟨B, 2, none⟩ (.int .i64 x)) B sh c x ac ar :=
  ⟨(cell_set_ne _ _ _ _ _ (by decide)).trans h.c0, (cell_set_ne _ _ _ _ _ (by decide)).trans h.c1, World.cell?_setCell_same _ _ _ h.c2, (cell_set_ne _ _ _ _ _ (by decide)).trans h.c3, (cell_set_ne _ _ _ _ _ (by decide)).trans h.c4, fun o => by rw [World.frozen?_setCell]; exact h.fz o, by rw [setCell_size]; exact h.lt⟩
theorem RefAt.set3 (h : RefAt w B sh c r ac ar) (x : Bool) : RefAt (w.setCell ⟨B, 3, none⟩ (.bool x)) B sh c r x ar :=
  ⟨(cell_set_ne _ _ _ _ _ (by decide)).trans h.c0, (cell_set_ne _ _ _ _ _ (by decide)).trans h.c1, (cell_set_ne _ _ _ _ _ (by decide)).trans h.c2, World.cell?_setCell_same _ _ _ h.c3, (cell_set_ne _ _ _ _ _ (by decide)).trans h.c4, fun o => by rw [World.frozen?_setCell]; exact h.fz o, by rw [setCell_size]; exact h.lt⟩
theorem RefAt.set4 (h : RefAt w B sh c r ac ar) (x : Bool) : RefAt (w.setCell ⟨B, 4, none⟩ (.bool x)) B sh c r ac x :=
  ⟨(cell_set_ne _ _ _ _ _ (by decide)).trans h.c0, (cell_set_ne _ _ _ _ _ (by decide)).trans h.c1, (cell_set_ne _ _ _ _ _ (by decide)).trans h.c2, (cell_set_ne _ _ _ _ _ (by decide)).trans h.c3, World.cell?_setCell_same _ _ _ h.c4, fun o => by rw [World.frozen?_setCell]; exact h.fz o, by rw [setCell_size]; exact h.lt⟩
end

/-! ### Letters, digits -/
theorem caps_contains : ((⟨#[65, 66, 67, 68, 69, 70, 71, 72, 73, 74, 75, 76, 77, 78, 79, 80, 81, 82, 83, 84, 85, 86, 87, 88, 89, 90]⟩ : ByteArray).data.toList.contains ·) = Pl.capital := by
  funext b
  have : ∀ i : Fin 256, (⟨#[65, 66, 67, 68, 69, 70, 71, 72, 73, 74, 75, 76, 77, 78, 79, 80, 81, 82, 83, 84, 85, 86, 87, 88, 89, 90]⟩ : ByteArray).data.toList.contains (UInt8.ofNat i.val) = Pl.capital (UInt8.ofNat i.val) := by decide +kernel
  have h := this ⟨b.toNat, b.toNat_lt⟩
  simpa using h
theorem digs_contains : ((⟨#[48, 49, 50, 51, 52, 53, 54, 55, 56, 57]⟩ : ByteArray).data.toList.contains ·) = Pl.digit := by
  funext b
  have : ∀ i : Fin 256, (⟨#[48, 49, 50, 51, 52, 53, 54, 55, 56, 57]⟩ : ByteArray).data.toList.contains (UInt8.ofNat i.val) = Pl.digit (UInt8.ofNat i.val) := by decide +kernel
  have h := this ⟨b.toNat, b.toNat_lt⟩
  simpa using h
theorem ascii_all (t : ByteArray) (h : t.data.toList.all (fun b => decide (b.toNat < 128)) = true) : ∀ j, (h : j < t.size) → (t[j]'h).toNat < 128 := by
  intro j hj
  have := List.all_eq_true.1 h _ (mem_of_get t j hj)
  simpa using this

theorem some_caps (s : ByteArray) (w : World) (hs : s.size ≤ 9223372036854775807) :
    Calls Tryz.prog 187 #[.string s, .string ⟨#[65, 66, 67, 68, 69, 70, 71, 72, 73, 74, 75, 76, 77, 78, 79, 80, 81, 82, 83, 84, 85, 86, 87, 88, 89, 90]⟩] w (Q (.tuple #[.string ⟨(s.data.toList.takeWhile Pl.capital).toArray⟩, .string ⟨(s.data.toList.dropWhile Pl.capital).toArray⟩]) w) := by
  have h := some_any s ⟨#[65, 66, 67, 68, 69, 70, 71, 72, 73, 74, 75, 76, 77, 78, 79, 80, 81, 82, 83, 84, 85, 86, 87, 88, 89, 90]⟩ w hs (ascii_all _ (by decide +kernel))
  rw [caps_contains] at h
  exact h
theorem some_digs (s : ByteArray) (w : World) (hs : s.size ≤ 9223372036854775807) :
    Calls Tryz.prog 187 #[.string s, .string ⟨#[48, 49, 50, 51, 52, 53, 54, 55, 56, 57]⟩] w (Q (.tuple #[.string ⟨(s.data.toList.takeWhile Pl.digit).toArray⟩, .string ⟨(s.data.toList.dropWhile Pl.digit).toArray⟩]) w) := by
  have h := some_any s ⟨#[48, 49, 50, 51, 52, 53, 54, 55, 56, 57]⟩ w hs (ascii_all _ (by decide +kernel))
  rw [digs_contains] at h
  exact h

/-! ### A numeral -/
def num (l : List UInt8) : Nat := l.foldl (fun n b => 10 * n + (b.toNat - 48)) 0
theorem parse_num : ∀ (l : List UInt8) (acc : Nat), l.all Pl.digit = true → acc < 10 ^ (15 - l.length) → l.length ≤ 15 → Lib.parseUint10 acc l = .ok (l.foldl (fun n b => 10 * n + (b.toNat - 48)) acc)
  | [], acc, _, _, _ => rfl
  | b :: l, acc, h, ha, hl => by
    simp only [List.all_cons, Bool.and_eq_true] at h
    obtain ⟨h1, h2⟩ := (digit_iff b).1 h.1
    have hl' : l.length + 1 ≤ 15 := by simpa using hl
    have hp : 10 ^ (15 - l.length) = 10 * 10 ^ (15 - (l.length + 1)) := by
      rw [show 15 - l.length = (15 - (l.length + 1)) + 1 by omega, Nat.pow_succ, Nat.mul_comm]
    have hbig : 10 ^ (15 - l.length) ≤ 10 ^ 15 := Nat.pow_le_pow_right (by decide) (by omega)
    have ha' : acc < 10 ^ (15 - (l.length + 1)) := by simpa using ha
    have hnum : (10 : Nat) ^ 15 = 1000000000000000 := by decide
    rw [hnum] at hbig
    rw [Lib.parseUint10, if_pos ⟨h1, h2⟩, if_neg (by omega), if_neg (by omega), parse_num l _ h.2 (by omega) (by omega)]
    rw [List.foldl_cons, Nat.mul_comm acc 10]
theorem num_lt (l : List UInt8) (h : l.all Pl.digit = true) : num l < 10 ^ l.length := by
  have key : ∀ (l : List UInt8) (acc : Nat), l.all Pl.digit = true → l.foldl (fun n b => 10 * n + (b.toNat - 48)) acc < (acc + 1) * 10 ^ l.length := by
    intro l
    induction l with
    | nil => intro acc _; simp
    | cons b l ih =>
      intro acc h
      simp only [List.all_cons, Bool.and_eq_true] at h
      obtain ⟨h1, h2⟩ := (digit_iff b).1 h.1
      rw [List.foldl_cons, List.length_cons, Nat.pow_succ]
      have h3 := ih (10 * acc + (b.toNat - 48)) h.2
      have h4 : (10 * acc + (b.toNat - 48) + 1) * 10 ^ l.length ≤ (acc + 1) * (10 ^ l.length * 10) := by
        rw [Nat.mul_comm (10 ^ l.length) 10, ← Nat.mul_assoc]
        exact Nat.mul_le_mul_right _ (by omega)
      omega
  have := key l 0 h
  simpa [num] using this

theorem atoi_num (l : List UInt8) (h : l.all Pl.digit = true) (h0 : l ≠ []) (h7 : l.length ≤ 7) : Lib.atoiAll l = .ok (num l) := by
  cases l with
  | nil => exact absurd rfl h0
  | cons b r =>
    have hb := h
    simp only [List.all_cons, Bool.and_eq_true] at hb
    obtain ⟨h1, h2⟩ := (digit_iff b).1 hb.1
    have e1 : ¬ (b.toNat = 43 ∨ b.toNat = 45) := by omega
    have e2 : ¬ b.toNat = 45 := by omega
    have e3 : parseMag (b :: r) = .ok (num (b :: r)) := by
      unfold parseMag
      rw [if_neg (by simp), parse_num (b :: r) 0 h (Nat.pow_pos (by decide)) (by omega)]; rfl
    have e4 := num_lt (b :: r) h
    have e5 : 10 ^ (b :: r).length ≤ 10 ^ 7 := Nat.pow_le_pow_right (by decide) h7
    have hnum : (10 : Nat) ^ 7 = 10000000 := by decide
    rw [hnum] at e5
    have e6 : ¬ (¬ b.toNat = 45 ∧ 9223372036854775808 ≤ num (b :: r)) := by omega
    have e7 : ¬ (b.toNat = 45 ∧ 9223372036854775808 < num (b :: r)) := by omega
    simp only [Lib.atoiAll]
    rw [if_neg e1, e3]
    dsimp only
    rw [if_neg e6, if_neg e7, if_neg e2]

theorem below_bytes (w : World) (e : TypeId) (t : ByteArray) : Below w.heap.size w (Lib.bytesWorld w e t) :=
  ⟨rfl, rfl, rfl, by rw [Lib.bytesWorld_size]; omega, fun k hk => Lib.bytesWorld_at_old w e t k hk⟩

theorem atoi_calls (s : ByteArray) (w : World) (h : s.data.toList.all Pl.digit = true) (h0 : s.data.toList ≠ []) (h7 : s.size ≤ 7) :
    Calls Tryz.prog 189 #[.string s] w (Q (.tuple #[.int .i64 (num s.data.toList), .nilIface]) w) :=
  (Tryz.strconv_Atoi_ok s (by omega) (num s.data.toList) (atoi_num _ h h0 h7) w).mono fun _ w' ⟨he, hw⟩ => ⟨he, by
    rcases hw with rfl | ⟨t, rfl⟩
    · exact Below.refl _ _
    · exact below_bytes _ _ _⟩
end Go.Proofs.YtfkiomjplpbmiaaGreatDoor

/- Contracts of package cells, tenth part: cell, Parse, ParseRange. -/
namespace Go.Proofs.YtfkiomjplpbmiaaGreatDoor
open Go.RowKit Go.Lib

/-- What cell tells of a text: the error, the column, the row, what is fixed. -/
def cellG (lt dg l4 : List UInt8) (ac ar : Bool) : Int × Int × Int × Bool × Bool :=
  if lt.isEmpty || decide (3 < lt.length) || dg.isEmpty || decide (7 < dg.length) || (dg.head? == some 48) || !l4.isEmpty then (40, 0, 0, false, false)
  else if !(Pl.col lt).2 || decide (512 < num dg) then (41, 0, 0, false, false) else (0, (Pl.col lt).1, num dg, ac, ar)
def cutD (l : List UInt8) : List UInt8 := if l.head? == some 36 then l.tail else l
def cellF (l : List UInt8) : Int × Int × Int × Bool × Bool :=
  cellG ((cutD l).takeWhile Pl.capital) ((cutD ((cutD l).dropWhile Pl.capital)).takeWhile Pl.digit) ((cutD ((cutD l).dropWhile Pl.capital)).dropWhile Pl.digit) (l.head? == some 36) (((cutD l).dropWhile Pl.capital).head? == some 36)
def cellV (x : Int × Int × Int × Bool × Bool) : Value := .tuple #[refV ⟨#[]⟩ x.2.1 x.2.2.1 x.2.2.2.1 x.2.2.2.2, .int .i64 x.1]

theorem isEmpty_nil {s : ByteArray} (h : ¬ s.toList = []) : s.toList.isEmpty = false ∧ s.data.toList.isEmpty = false ∧ 1 ≤ s.size := by
  have h1 : s.toList.isEmpty = false := by
    cases hd : s.toList with
    | nil => exact absurd hd h
    | cons _ _ => rfl
  refine ⟨h1, by rw [← Lib.toList_data]; exact h1, ?_⟩
  have : s.data.toList ≠ [] := fun e => h (toList_nil.2 e)
  exact List.length_pos_iff.2 this

set_option maxHeartbeats 4000000 in
theorem cell_core (s s1 lt s2 s3 dg s4 : ByteArray) (b1 b2 : Bool) (w : World)
    (C1 : Hid (∀ w, Calls Tryz.prog 126 #[.string s, .string ⟨#[36]⟩] w fun e w' => e = .returned (.tuple #[.string s1, .bool b1]) ∧ w = w'))
    (C2 : Hid (∀ w, Calls Tryz.prog 187 #[.string s1, .string ⟨#[65, 66, 67, 68, 69, 70, 71, 72, 73, 74, 75, 76, 77, 78, 79, 80, 81, 82, 83, 84, 85, 86, 87, 88, 89, 90]⟩] w (Q (.tuple #[.string lt, .string s2]) w)))
    (C3 : Hid (∀ w, Calls Tryz.prog 126 #[.string s2, .string ⟨#[36]⟩] w fun e w' => e = .returned (.tuple #[.string s3, .bool b2]) ∧ w = w'))
    (C4 : Hid (∀ w, Calls Tryz.prog 187 #[.string s3, .string ⟨#[48, 49, 50, 51, 52, 53, 54, 55, 56, 57]⟩] w (Q (.tuple #[.string dg, .string s4]) w)))
    (hdg : dg.data.toList.all Pl.digit = true) (_hl1 : lt.size ≤ 9223372036854775807) (_hl2 : dg.size ≤ 9223372036854775807) :
    Calls Tryz.prog 143 #[.string s] w (Q (cellV (cellG lt.data.toList dg.data.toList s4.data.toList b1 b2)) w) := by
  have HDG := Lib.hid hdg
  clear hdg
  obtain ⟨R, hR⟩ : ∃ R, cellG lt.data.toList dg.data.toList s4.data.toList b1 b2 = R := ⟨_, rfl⟩
  rw [hR]
  have HG := Lib.hid hR
  clear hR
  go_enter Tryz.func143, Tryz.ntmps143
  go_wp2_with fail
  refine (C1.out _).mono ?_
  rintro e w1 ⟨rfl, rfl⟩
  have r1 := RefAt.new (w.alloc (.cells #[.string ⟨#[]⟩, .int .i64 0, .int .i64 0, .bool false, .bool false] 32)) ⟨#[]⟩ 0 0 b1 false
  have r2 := (RefAt.new w ⟨#[]⟩ 0 0 false false).alloc (.cells #[.string ⟨#[]⟩, .int .i64 0, .int .i64 0, .bool b1, .bool false] 32)
  have hB : Below w.heap.size w ((w.alloc (.cells #[.string ⟨#[]⟩, .int .i64 0, .int .i64 0, .bool false, .bool false] 32)).alloc (.cells #[.string ⟨#[]⟩, .int .i64 0, .int .i64 0, .bool b1, .bool false] 32)) := ((Below.refl _ _).alloc (Nat.le_refl _) _).alloc (by simp) _
  rw [World.size_alloc] at r1
  have R1 := Lib.hid r1
  have R2 := Lib.hid r2
  clear r1 r2
  go_wp2_with fail
  refine (C2.out _).mono ?_
  rintro e w1 ⟨rfl, hb⟩
  have R1 := Lib.hid (R1.out.below hb)
  have R2 := Lib.hid (R2.out.below hb)
  have hB := hB.trans (hb.mono hB.size)
  clear hb
  go_wp2_with fail
  refine (C3.out _).mono ?_
  rintro e w2 ⟨rfl, rfl⟩
  obtain ⟨q0, q1, q2, q3, q4, qf, ql⟩ := R1.out
  go_wp2_with fail
  refine (C4.out _).mono ?_
  rintro e w2 ⟨rfl, hb⟩
  have R1 := Lib.hid ((R1.out.set4 b2).below hb)
  have R2 := Lib.hid ((R2.out.other ⟨w.heap.size + 1, 4, none⟩ (.bool b2) (by simp)).below hb)
  have hB := (hB.setCell (p := ⟨w.heap.size + 1, 4, none⟩) (by simp) (.bool b2)).trans (hb.mono (hB.setCell (p := ⟨w.heap.size + 1, 4, none⟩) (by simp) (.bool b2)).size)
  clear hb q0 q1 q2 q3 q4 qf ql C1 C2 C3 C4
  obtain ⟨p0, p1, p2, p3, p4, pf, pl⟩ := R2.out
  by_cases h1 : lt.toList = []
  · have e1 : lt.data.toList.isEmpty = true := by rw [toList_nil.1 h1]; rfl
    have e1' : lt.toList.isEmpty = true := by rw [h1]; rfl
    have hR : Hid (R = (40, 0, 0, false, false)) := by
      show _ = _
      rw [← HG.out]; unfold cellG
      rw [e1]; rfl
    clear HG
    go_wp2_with fail
    exact bodyPost_ret (v := .tuple #[refV ⟨#[]⟩ 0 0 false false, .int .i64 40]) (by simp [results, Tryz.results143, go_sem, p0, p1, p2, p3, p4]) rfl ⟨by rw [hR.out]; rfl, ((((hB.setCell (by simp) _).setCell (by simp) _).setCell (by simp) _).setCell (by simp) _).setCell (by simp) _⟩
  obtain ⟨e1', e1, _⟩ := isEmpty_nil h1
  clear h1
  by_cases h2 : 3 < (lt.size : Int)
  · have e2 : decide (3 < lt.data.toList.length) = true := by
      have : 3 < lt.data.toList.length := by show 3 < lt.size; omega
      exact decide_eq_true this
    have hR : Hid (R = (40, 0, 0, false, false)) := by
      show _ = _
      rw [← HG.out]; unfold cellG
      rw [e1, e2]; rfl
    clear HG
    go_wp2_with fail
    exact bodyPost_ret (v := .tuple #[refV ⟨#[]⟩ 0 0 false false, .int .i64 40]) (by simp [results, Tryz.results143, go_sem, p0, p1, p2, p3, p4]) rfl ⟨by rw [hR.out]; rfl, ((((hB.setCell (by simp) _).setCell (by simp) _).setCell (by simp) _).setCell (by simp) _).setCell (by simp) _⟩
  have e2 : decide (3 < lt.data.toList.length) = false := by
    have : ¬ 3 < lt.data.toList.length := by show ¬ 3 < lt.size; omega
    exact decide_eq_false this
  by_cases h3 : dg.toList = []
  · have e3 : dg.data.toList.isEmpty = true := by rw [toList_nil.1 h3]; rfl
    have e3' : dg.toList.isEmpty = true := by rw [h3]; rfl
    have hR : Hid (R = (40, 0, 0, false, false)) := by
      show _ = _
      rw [← HG.out]; unfold cellG
      rw [e1, e2, e3]; rfl
    clear HG
    go_wp2_with fail
    exact bodyPost_ret (v := .tuple #[refV ⟨#[]⟩ 0 0 false false, .int .i64 40]) (by simp [results, Tryz.results143, go_sem, p0, p1, p2, p3, p4]) rfl ⟨by rw [hR.out]; rfl, ((((hB.setCell (by simp) _).setCell (by simp) _).setCell (by simp) _).setCell (by simp) _).setCell (by simp) _⟩
  obtain ⟨e3', e3, hdg1⟩ := isEmpty_nil h3
  by_cases h4 : 7 < (dg.size : Int)
  · have e4 : decide (7 < dg.data.toList.length) = true := by
      have : 7 < dg.data.toList.length := by show 7 < dg.size; omega
      exact decide_eq_true this
    clear h3
    have hR : Hid (R = (40, 0, 0, false, false)) := by
      show _ = _
      rw [← HG.out]; unfold cellG
      rw [e1, e2, e3, e4]; rfl
    clear HG
    go_wp2_with fail
    exact bodyPost_ret (v := .tuple #[refV ⟨#[]⟩ 0 0 false false, .int .i64 40]) (by simp [results, Tryz.results143, go_sem, p0, p1, p2, p3, p4]) rfl ⟨by rw [hR.out]; rfl, ((((hB.setCell (by simp) _).setCell (by simp) _).setCell (by simp) _).setCell (by simp) _).setCell (by simp) _⟩
  have e4 : decide (7 < dg.data.toList.length) = false := by
    have : ¬ 7 < dg.data.toList.length := by show ¬ 7 < dg.size; omega
    exact decide_eq_false this
  have hd0 : dg.data.toList.head? = some (dg[0]'(by omega)) := by
    have : dg.data.toList = (dg[0]'(by omega)) :: dg.data.toList.tail := by
      have h0 : 0 < dg.data.toList.length := hdg1
      rw [← List.drop_one, show (dg[0]'(by omega)) = dg.data.toList[0]'h0 from rfl]
      exact (List.drop_eq_getElem_cons h0)
    rw [this]; rfl
  have HA := Lib.hid (atoi_calls dg)
  have HD := Lib.hid (show dg.data.toList ≠ [] from fun e => h3 (toList_nil.2 e))
  clear h3
  generalize hz : dg[0]'(by omega) = z at hd0
  have hzn : (0 : Nat) < dg.size := by omega
  by_cases h5 : z = 48
  · have e5 : (dg.data.toList.head? == some 48) = true := by rw [hd0, h5]; rfl
    have e5' : (((dg[0]'hzn).toNat : Int) == 48) = true := by rw [hz, h5]; rfl
    clear hd0 hz h5
    have hR : Hid (R = (40, 0, 0, false, false)) := by
      show _ = _
      rw [← HG.out]; unfold cellG
      rw [e1, e2, e3, e4, e5]; rfl
    clear HG
    go_wp2_with fail
    exact bodyPost_ret (v := .tuple #[refV ⟨#[]⟩ 0 0 false false, .int .i64 40]) (by simp [results, Tryz.results143, go_sem, p0, p1, p2, p3, p4]) rfl ⟨by rw [hR.out]; rfl, ((((hB.setCell (by simp) _).setCell (by simp) _).setCell (by simp) _).setCell (by simp) _).setCell (by simp) _⟩
  have e5 : (dg.data.toList.head? == some 48) = false := by rw [hd0]; simpa using h5
  have e5' : (((dg[0]'hzn).toNat : Int) == 48) = false := by
    rw [hz, beq_eq_false_iff_ne]
    intro e; apply h5; apply UInt8.toNat_inj.1; show z.toNat = 48; omega
  clear hd0 hz h5
  by_cases h6 : s4.toList = []
  case neg =>
    obtain ⟨e6', e6, _⟩ := isEmpty_nil h6
    clear h6
    have hR : Hid (R = (40, 0, 0, false, false)) := by
      show _ = _
      rw [← HG.out]; unfold cellG
      rw [e1, e2, e3, e4, e5, e6]; rfl
    clear HG
    go_wp2_with fail
    exact bodyPost_ret (v := .tuple #[refV ⟨#[]⟩ 0 0 false false, .int .i64 40]) (by simp [results, Tryz.results143, go_sem, p0, p1, p2, p3, p4]) rfl ⟨by rw [hR.out]; rfl, ((((hB.setCell (by simp) _).setCell (by simp) _).setCell (by simp) _).setCell (by simp) _).setCell (by simp) _⟩
  have e6 : s4.data.toList.isEmpty = true := by rw [toList_nil.1 h6]; rfl
  have e6' : s4.toList.isEmpty = true := by rw [h6]; rfl
  clear h6
  have hRR : R = if !(Pl.col lt.data.toList).2 || decide (512 < num dg.data.toList) then (41, 0, 0, false, false) else (0, (Pl.col lt.data.toList).1, (num dg.data.toList : Int), b1, b2) := by
    rw [← HG.out]; unfold cellG
    rw [e1, e2, e3, e4, e5, e6]; rfl
  have HRR := Lib.hid hRR
  have C5 := Lib.hid (col_any lt)
  have hn7 : num dg.data.toList < 10 ^ 7 := Nat.lt_of_lt_of_le (num_lt _ HDG.out) (Nat.pow_le_pow_right (by decide) (by show dg.size ≤ 7; omega))
  have hnum : (10 : Nat) ^ 7 = 10000000 := by decide
  rw [hnum] at hn7
  have C6 := Lib.hid (fun w => HA.out w HDG.out HD.out (by omega))
  clear hRR HG HA HD HDG e1 e2 e3 e4 e5 e6 hnum
  generalize Pl.col lt.data.toList = cc at *
  obtain ⟨cn, is⟩ := cc
  generalize num dg.data.toList = n at *
  go_wp2_with fail
  refine (C5.out _).mono ?_
  rintro e w3 ⟨rfl, rfl⟩
  go_wp2_with fail
  refine (C6.out _).mono ?_
  rintro e w3 ⟨rfl, hb⟩
  have R1 := Lib.hid (R1.out.below hb)
  have R2 := Lib.hid (R2.out.below hb)
  have hB := hB.trans (hb.mono hB.size)
  clear hb p0 p1 p2 p3 p4 pf pl C5 C6
  obtain ⟨p0, p1, p2, p3, p4, pf, pl⟩ := R2.out
  cases is with
  | false =>
    have hR : Hid (R = (41, 0, 0, false, false)) := by show _ = _; rw [HRR.out]; rfl
    clear HRR
    go_wp2_with fail
    exact bodyPost_ret (v := .tuple #[refV ⟨#[]⟩ 0 0 false false, .int .i64 41]) (by simp [results, Tryz.results143, go_sem, p0, p1, p2, p3, p4]) rfl ⟨by rw [hR.out]; rfl, ((((hB.setCell (by simp) _).setCell (by simp) _).setCell (by simp) _).setCell (by simp) _).setCell (by simp) _⟩
  | true =>
    have hne : ∀ W, (binOp .neq 155 .nilIface .nilIface).run Tryz.prog W = .ok (.bool false) W := fun W => by kernel_rfl
    by_cases h7 : 512 < (n : Int)
    · have hR : Hid (R = (41, 0, 0, false, false)) := by
        have : 512 < n := by omega
        show _ = _; rw [HRR.out, decide_eq_true this]; rfl
      clear HRR
      go_wp2_with fail
      exact bodyPost_ret (v := .tuple #[refV ⟨#[]⟩ 0 0 false false, .int .i64 41]) (by simp [results, Tryz.results143, go_sem, p0, p1, p2, p3, p4]) rfl ⟨by rw [hR.out]; rfl, ((((hB.setCell (by simp) _).setCell (by simp) _).setCell (by simp) _).setCell (by simp) _).setCell (by simp) _⟩
    · have hR : Hid (R = (0, cn, (n : Int), b1, b2)) := by
        have : ¬ 512 < n := by omega
        show _ = _; rw [HRR.out, decide_eq_false this]; rfl
      clear HRR
      have r3 := (R1.out.set1 cn).set2 n
      obtain ⟨q0, q1, q2, q3, q4, qf, ql⟩ := R1.out
      obtain ⟨t0, t1, t2, t3, t4, tf, tl⟩ := r3
      go_wp2_with fail
      exact bodyPost_ret (v := .tuple #[refV ⟨#[]⟩ cn n b1 b2, .int .i64 0]) (by simp [results, Tryz.results143, go_sem, p0, p1, p2, p3, p4]) rfl ⟨by rw [hR.out]; rfl, ((((((hB.setCell (by simp) _).setCell (by simp) _).setCell (by simp) _).setCell (by simp) _).setCell (by simp) _).setCell (by simp) _).setCell (by simp) _⟩
end Go.Proofs.YtfkiomjplpbmiaaGreatDoor

/- Contracts of package cells, eleventh part: Parse. -/
namespace Go.Proofs.YtfkiomjplpbmiaaGreatDoor
open Go.RowKit Go.Lib

theorem size_mk (l : List UInt8) : (⟨l.toArray⟩ : ByteArray).size = l.length := by show l.toArray.size = _; simp
theorem takeWhile_all_digit (l : List UInt8) : (l.takeWhile Pl.digit).all Pl.digit = true := List.all_takeWhile
theorem cutD_length (l : List UInt8) : (cutD l).length ≤ l.length := by unfold cutD; split <;> simp
theorem takeWhile_le (p : UInt8 → Bool) (l : List UInt8) : (l.takeWhile p).length ≤ l.length := List.Sublist.length_le (List.takeWhile_sublist p)
theorem dropWhile_le (p : UInt8 → Bool) (l : List UInt8) : (l.dropWhile p).length ≤ l.length := List.Sublist.length_le (List.dropWhile_sublist p)

theorem cell_any (s : ByteArray) (w : World) (hs : s.size ≤ 4294967280) :
    Calls Tryz.prog 143 #[.string s] w (Q (cellV (cellF s.data.toList)) w) := by
  have l0 : s.data.toList.length ≤ 4294967280 := hs
  have l1 := cutD_length s.data.toList
  have l2 := dropWhile_le Pl.capital (cutD s.data.toList)
  have l3 := cutD_length ((cutD s.data.toList).dropWhile Pl.capital)
  have l4 := takeWhile_le Pl.capital (cutD s.data.toList)
  have l5 := takeWhile_le Pl.digit (cutD ((cutD s.data.toList).dropWhile Pl.capital))
  have h := cell_core s ⟨(cutD s.data.toList).toArray⟩ ⟨((cutD s.data.toList).takeWhile Pl.capital).toArray⟩ ⟨((cutD s.data.toList).dropWhile Pl.capital).toArray⟩
    ⟨(cutD ((cutD s.data.toList).dropWhile Pl.capital)).toArray⟩ ⟨((cutD ((cutD s.data.toList).dropWhile Pl.capital)).takeWhile Pl.digit).toArray⟩ ⟨((cutD ((cutD s.data.toList).dropWhile Pl.capital)).dropWhile Pl.digit).toArray⟩
    (s.data.toList.head? == some 36) (((cutD s.data.toList).dropWhile Pl.capital).head? == some 36) w
    (Lib.hid (fun w => cutPrefix_one s 36 w)) (Lib.hid (fun w => some_caps ⟨(cutD s.data.toList).toArray⟩ w (by rw [size_mk]; omega)))
    (Lib.hid (fun w => cutPrefix_one ⟨((cutD s.data.toList).dropWhile Pl.capital).toArray⟩ 36 w)) (Lib.hid (fun w => some_digs ⟨(cutD ((cutD s.data.toList).dropWhile Pl.capital)).toArray⟩ w (by rw [size_mk]; omega)))
    (takeWhile_all_digit _) (by rw [size_mk]; omega) (by rw [size_mk]; omega)
  exact h

/-- What Parse tells of a text: the error, the sheet, the column, the row, what is fixed. -/
def parseG (x : List UInt8 × List UInt8 × Bool) (y : Int × Int × Int × Bool × Bool) : Int × List UInt8 × Int × Int × Bool × Bool :=
  if !x.2.2 then (40, [], 0, 0, false, false) else if y.1 ≠ 0 then (y.1, [], 0, 0, false, false) else (0, x.1, y.2)
def parseF (l : List UInt8) : Int × List UInt8 × Int × Int × Bool × Bool := parseG (sheetF l) (cellF (sheetF l).2.1)
def parseV (x : Int × List UInt8 × Int × Int × Bool × Bool) : Value := .tuple #[refV ⟨x.2.1.toArray⟩ x.2.2.1 x.2.2.2.1 x.2.2.2.2.1 x.2.2.2.2.2, .int .i64 x.1]

theorem sheetF_le (l : List UInt8) : (sheetF l).2.1.length ≤ l.length := by
  have hq : ∀ (k : Nat) (l acc n r : List UInt8), l.length ≤ k → quotedL acc l = some (n, r) → r.length ≤ l.length := by
    intro k
    induction k with
    | zero =>
      intro l acc n r hk h
      obtain rfl : l = [] := List.length_eq_zero_iff.1 (by omega)
      rw [quotedL] at h; cases h
    | succ k ih =>
      intro l acc n r hk h
      cases l with
      | nil => rw [quotedL] at h; cases h
      | cons c l =>
        simp only [List.length_cons] at hk ⊢
        rw [quotedL] at h
        split at h
        · split at h
          · have := ih l.tail _ n r (by simp; omega) h
            simp at this; omega
          · injection h with h; injection h with _ h; subst h; omega
        · have := ih l _ n r (by omega) h
          omega
  unfold sheetF
  split
  · rename_i h39
    cases hx : quoted l.tail with
    | none => simp
    | some p =>
      obtain ⟨n, r⟩ := p
      have h1 := hq _ _ _ n r (Nat.le_refl _) hx
      have h2 : l.tail.length ≤ l.length := by simp
      dsimp only
      split
      · simp; omega
      · omega
  · split
    · have := dropWhile_le (· != 33) l
      simp; omega
    · exact Nat.le_refl _

/-- Five stores into one block of the call's own. -/
theorem below_set5 {B b : Nat} {w w1 : World} (h : Below B w w1) (hb : B ≤ b) (v0 v1 v2 v3 v4 : Value) :
    Below B w (((((w1.setCell ⟨b, 0, none⟩ v0).setCell ⟨b, 1, none⟩ v1).setCell ⟨b, 2, none⟩ v2).setCell ⟨b, 3, none⟩ v3).setCell ⟨b, 4, none⟩ v4) :=
  ((((h.setCell (p := ⟨b, 0, none⟩) hb _).setCell (p := ⟨b, 1, none⟩) hb _).setCell (p := ⟨b, 2, none⟩) hb _).setCell (p := ⟨b, 3, none⟩) hb _).setCell (p := ⟨b, 4, none⟩) hb _

theorem RefAt.set5 {w : World} {B : Nat} {sh : ByteArray} {c r : Int} {ac ar : Bool} (h : RefAt w B sh c r ac ar) (sh' : ByteArray) (c' r' : Int) (ac' ar' : Bool) :
    RefAt (((((w.setCell ⟨B, 0, none⟩ (.string sh')).setCell ⟨B, 1, none⟩ (.int .i64 c')).setCell ⟨B, 2, none⟩ (.int .i64 r')).setCell ⟨B, 3, none⟩ (.bool ac')).setCell ⟨B, 4, none⟩ (.bool ar')) B sh' c' r' ac' ar' :=
  ((((h.set0 sh').set1 c').set2 r').set3 ac').set4 ar'

set_option maxHeartbeats 4000000 in
theorem parse_core (s nm rest : ByteArray) (is : Bool) (ce cc cr : Int) (ca cb : Bool) (w : World)
    (C1 : Hid (∀ w, Glob w → Calls Tryz.prog 142 #[.string s] w (Q (.tuple #[.string nm, .string rest, .bool is]) w)))
    (C2 : Hid (∀ w, Calls Tryz.prog 143 #[.string rest] w (Q (.tuple #[refV ⟨#[]⟩ cc cr ca cb, .int .i64 ce]) w)))
    (hg : Glob w) :
    Calls Tryz.prog 90 #[.string s] w (Q (parseV (parseG (nm.data.toList, rest.data.toList, is) (ce, cc, cr, ca, cb))) w) := by
  obtain ⟨R, hR⟩ : ∃ R, parseG (nm.data.toList, rest.data.toList, is) (ce, cc, cr, ca, cb) = R := ⟨_, rfl⟩
  rw [hR]
  have HG := Lib.hid hR
  clear hR
  have r1 := RefAt.new w ⟨#[]⟩ 0 0 false false
  have hB : Below w.heap.size w (w.alloc (.cells #[.string ⟨#[]⟩, .int .i64 0, .int .i64 0, .bool false, .bool false] 32)) := (Below.refl _ _).alloc (Nat.le_refl _) _
  have hg1 := hg.below hB
  have R1 := Lib.hid r1
  clear r1
  go_enter Tryz.func90, Tryz.ntmps90
  go_wp2_with fail
  refine (C1.out _ hg1).mono ?_
  rintro e w1 ⟨rfl, hb⟩
  have R1 := Lib.hid (R1.out.below hb)
  have hB := hB.trans (hb.mono hB.size)
  clear hb hg1 C1
  cases is with
  | false =>
    have hR : Hid (R = (40, [], 0, 0, false, false)) := by show _ = _; rw [← HG.out]; rfl
    clear HG
    obtain ⟨p0, p1, p2, p3, p4, pf, pl⟩ := R1.out
    go_wp2_with fail
    exact bodyPost_ret (v := .tuple #[refV ⟨#[]⟩ 0 0 false false, .int .i64 40]) (by simp [results, Tryz.results90, go_sem, p0, p1, p2, p3, p4]) rfl ⟨by rw [hR.out]; rfl, ((((hB.setCell (by simp) _).setCell (by simp) _).setCell (by simp) _).setCell (by simp) _).setCell (by simp) _⟩
  | true =>
    go_wp2_with fail
    refine (C2.out _).mono ?_
    rintro e w2 ⟨rfl, hb⟩
    have R1 := Lib.hid (R1.out.below hb)
    have hB := hB.trans (hb.mono hB.size)
    clear hb C2
    obtain ⟨p0, p1, p2, p3, p4, pf, pl⟩ := R1.out
    by_cases he : ce = 0
    · subst he
      have hR : Hid (R = (0, nm.data.toList, cc, cr, ca, cb)) := by show _ = _; rw [← HG.out]; rfl
      clear HG
      go_wp2_with fail
      obtain ⟨t0, t1, t2, t3, t4, tf, tl⟩ := (R1.out.set5 nm cc cr ca cb).alloc (.cells #[.string nm, .int .i64 cc, .int .i64 cr, .bool ca, .bool cb] 32)
      exact bodyPost_ret (v := .tuple #[refV nm cc cr ca cb, .int .i64 0]) (by simp [results, Tryz.results90, go_sem, t0, t1, t2, t3, t4]) rfl
        ⟨by rw [hR.out]; unfold parseV; dsimp only, (below_set5 hB (Nat.le_refl _) _ _ _ _ _).alloc (below_set5 hB (Nat.le_refl _) _ _ _ _ _).size _⟩
    · have hR : Hid (R = (ce, [], 0, 0, false, false)) := by show _ = _; rw [← HG.out]; unfold parseG; simp [he]
      clear HG
      have he' : (ce != 0) = true := by simpa using he
      go_wp2_with fail
      obtain ⟨t0, t1, t2, t3, t4, tf, tl⟩ := (R1.out.set5 ⟨#[]⟩ 0 0 false false).alloc (.cells #[.string ⟨#[]⟩, .int .i64 cc, .int .i64 cr, .bool ca, .bool cb] 32)
      exact bodyPost_ret (v := .tuple #[refV ⟨#[]⟩ 0 0 false false, .int .i64 ce]) (by simp [results, Tryz.results90, go_sem, t0, t1, t2, t3, t4]) rfl
        ⟨by rw [hR.out]; rfl, (below_set5 hB (Nat.le_refl _) _ _ _ _ _).alloc (below_set5 hB (Nat.le_refl _) _ _ _ _ _).size _⟩

theorem parse_any (s : ByteArray) (w : World) (hs : s.size ≤ 4294967280) (hg : Glob w) :
    Calls Tryz.prog 90 #[.string s] w (Q (parseV (parseF s.data.toList)) w) := by
  have hle : (⟨(sheetF s.data.toList).2.1.toArray⟩ : ByteArray).size ≤ 4294967280 := by
    have h1 := sheetF_le s.data.toList
    have h2 : s.data.toList.length ≤ 4294967280 := hs
    rw [size_mk]; omega
  have h := parse_core s ⟨(sheetF s.data.toList).1.toArray⟩ ⟨(sheetF s.data.toList).2.1.toArray⟩ (sheetF s.data.toList).2.2 (cellF (sheetF s.data.toList).2.1).1 (cellF (sheetF s.data.toList).2.1).2.1 (cellF (sheetF s.data.toList).2.1).2.2.1 (cellF (sheetF s.data.toList).2.1).2.2.2.1 (cellF (sheetF s.data.toList).2.1).2.2.2.2 w
    (Lib.hid (fun w hg => sheet_any s w hs hg)) (Lib.hid (fun w => cell_any ⟨(sheetF s.data.toList).2.1.toArray⟩ w hle)) hg
  exact h
end Go.Proofs.YtfkiomjplpbmiaaGreatDoor

