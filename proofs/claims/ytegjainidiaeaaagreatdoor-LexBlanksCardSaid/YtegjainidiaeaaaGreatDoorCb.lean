/- Contracts of package cells, second part: sheets' names, the test of a reference, shifting. -/
import Derived.Test.YtegjainidiaeaaaGreatDoorCa
import Derived.Test.YtegjainidiaeaaaGreatDoorPl
import Derived.Test.YtegjainidiaeaaaGreatDoorShelf
import Derived.Shelf.Unicode.DecodeSlow
import Derived.Deep.QuietTactic
import Derived.BigQuiet
namespace Go.Proofs.YtegjainidiaeaaaGreatDoor
open Go.RowKit Go.Lib

/-- A call that hands back v; what lay in w lies. -/
def Q (v : Value) (w : World) (e : Ending) (w' : World) : Prop := e = .returned v ∧ Below w.heap.size w w'

theorem bcell {W w1 : World} (hb : Below W.heap.size W w1) : (∀ b o, b < W.heap.size → w1.cell? ⟨b, o, none⟩ = W.cell? ⟨b, o, none⟩) ∧ (∀ b o, b < W.heap.size → w1.frozen? ⟨b, o, none⟩ = W.frozen? ⟨b, o, none⟩) :=
  ⟨fun b o h => hb.cell (p := ⟨b, o, none⟩) h, fun b o h => hb.frozen (p := ⟨b, o, none⟩) h⟩
theorem below_drewN {B : Nat} {a w : World} (h : Below B a w) (n : Nat) : Below B a (w.drewN n) := ⟨h.os, h.tape, h.output, h.size, h.block⟩

/-- What the walks ask of the library's own variables. -/
structure Glob (w : World) : Prop where
  most : ∃ m : Int, w.cell? ⟨0, 0, none⟩ = some (.int .i64 m)
  pow : Lib.TabIs Tryz.prog w "internal/strconv.uint64pow10" .u64 Lib.pow10Tab
  big : 7 < w.heap.size ∧ 0 < w.heap.size
  utf : Lib.Utf8Tabs 1 2 w

theorem gPow : Tryz.prog.globalNamed "internal/strconv.uint64pow10" = some 7 := by kernel_rfl
theorem Glob.below {w w' : World} (h : Glob w) (hb : Below w.heap.size w w') : Glob w' := by
  refine ⟨?_, ?_, ?_, Utf8Tabs_below h.utf hb⟩
  · obtain ⟨m, hm⟩ := h.most
    exact ⟨m, (hb.cell (p := ⟨0, 0, none⟩) h.big.2).trans hm⟩
  · exact var?_below hb gPow h.big.1 h.pow
  · exact ⟨Nat.lt_of_lt_of_le h.big.1 hb.size, Nat.lt_of_lt_of_le h.big.2 hb.size⟩

theorem str_data (l : List UInt8) : (⟨l.toArray⟩ : ByteArray).data.toList = l := by simp

set_option maxHeartbeats 1000000 in
/-- The closure 'odd' of SheetName, at every rune. -/
theorem odd_calls (W : World) (x : Nat) (hx : x ≤ 1114111) :
    Calls Tryz.prog 122 #[.int .i32 (x : Int)] W fun e w' => e = .returned (.bool (Pl.oddR x)) ∧ W = w' := by
  by_cases h1 : (x : Int) < 32
  · have e : Pl.oddR x = true := by unfold Pl.oddR; simp; omega
    rw [e]
    go_enter Tryz.func122, Tryz.ntmps122
    go_wp2_with fail
    go_ret
    exact ⟨rfl, rfl⟩
  · by_cases h2 : 126 < (x : Int)
    · have e : Pl.oddR x = true := by unfold Pl.oddR; simp; omega
      rw [e]
      go_enter Tryz.func122, Tryz.ntmps122
      go_wp2_with fail
      go_ret
      exact ⟨rfl, rfl⟩
    · have e : Pl.oddR x = decide (0 ≤ Lib.indexByte [58, 92, 47, 63, 42, 91, 93] x.toUInt8) := by
        unfold Pl.oddR; simp; omega
      rw [e]
      go_enter Tryz.func122, Tryz.ntmps122
      go_wp2_with fail
      refine (Tryz.strings_ContainsRune_ascii _ _ _ (by omega) (by omega)).mono ?_
      rintro e w' ⟨rfl, rfl⟩
      go_wp2_with fail
      go_ret
      exact ⟨rfl, rfl⟩

theorem odd_pred (w : World) : PredAtRunes Tryz.prog 122 #[] Pl.oddR w := fun W x hx _ => by
  unfold FnGives
  exact (odd_calls W x hx).mono fun _ _ ⟨he, hw⟩ => ⟨he, 0, hw.symm⟩

theorem odd_enters : ∀ args w, (callFunc 122 args).run Tryz.prog w = .ok (.enter 122 args) w := enters_of Tryz.func122 (by kernel_rfl) rfl

theorem contains_odd (s : ByteArray) (w : World) :
    Calls Tryz.prog 124 #[.string s, .func (.func 122) #[] #[]] w (Q (.bool (s.data.toList.any Pl.bad)) w) := by
  rw [← Pl.any_odd]
  exact (Tryz.strings_ContainsFunc_runes _ #[] odd_enters _ s w (odd_pred w)).mono fun _ _ h => h

theorem prefix_one (s : ByteArray) (c : UInt8) (w : World) :
    Calls Tryz.prog 25 #[.string s, .string ⟨#[c]⟩] w fun e w' => e = .returned (.bool (s.data.toList.head? == some c)) ∧ w = w' :=
  (Tryz.strings_HasPrefix s ⟨#[c]⟩ w).mono fun _ _ ⟨he, hw⟩ => ⟨by rw [he]; exact congrArg (fun b => Ending.returned (.bool b)) (Pl.hasPrefix_one c _), hw.symm⟩
theorem suffix_one (s : ByteArray) (c : UInt8) (w : World) (hs : s.size ≤ 9223372036854775807) :
    Calls Tryz.prog 123 #[.string s, .string ⟨#[c]⟩] w fun e w' => e = .returned (.bool (s.data.toList.getLast? == some c)) ∧ w = w' :=
  (Tryz.strings_HasSuffix s ⟨#[c]⟩ w hs).mono fun _ _ ⟨he, hw⟩ => ⟨by rw [he]; exact congrArg (fun b => Ending.returned (.bool b)) (Pl.hasSuffix_one c _), hw.symm⟩
theorem cutPrefix_one (s : ByteArray) (c : UInt8) (w : World) :
    Calls Tryz.prog 54 #[.string s, .string ⟨#[c]⟩] w fun e w' => e = .returned (.tuple #[.string ⟨(if s.data.toList.head? == some c then s.data.toList.tail else s.data.toList).toArray⟩, .bool (s.data.toList.head? == some c)]) ∧ w = w' :=
  (Tryz.strings_CutPrefix s ⟨#[c]⟩ w).mono fun _ _ ⟨he, hw⟩ => ⟨by
    rw [he]; show Ending.returned (.tuple #[.string ⟨(Lib.trimPrefix s.data.toList [c]).toArray⟩, .bool (Lib.hasPrefix s.data.toList [c])]) = _
    rw [Pl.trimPrefix_one, Pl.hasPrefix_one], hw.symm⟩
theorem cut_one (s : ByteArray) (c : UInt8) (w : World) (hs : s.size < 4294967281) (hg : Glob w) :
    Calls Tryz.prog 98 #[.string s, .string ⟨#[c]⟩] w fun e w' => e = .returned (.tuple #[.string ⟨(Pl.cut1 c s.data.toList).1.toArray⟩, .string ⟨(Pl.cut1 c s.data.toList).2.1.toArray⟩, .bool (Pl.cut1 c s.data.toList).2.2]) ∧ ∃ n, w' = w.drewN n := by
  obtain ⟨m, hm⟩ := hg.most
  have h := Tryz.strings_Cut s ⟨#[c]⟩ m w hs hm
  rw [show (⟨#[c]⟩ : ByteArray).data.toList = [c] from rfl, Pl.cut_one] at h
  exact h


theorem toList_nil {s : ByteArray} : s.toList = [] ↔ s.data.toList = [] := by rw [Lib.toList_data]

set_option maxHeartbeats 2000000 in
theorem sheetName_any (s : ByteArray) (w : World) :
    Calls Tryz.prog 100 #[.string s] w (Q (.bool (Pl.sheetName s.data.toList)) w) := by
  by_cases h0 : s.toList = []
  · have e : Pl.sheetName s.data.toList = false := by rw [toList_nil.1 h0]; rfl
    rw [e]
    go_enter Tryz.func100, Tryz.ntmps100
    go_wp2_with fail
    go_ret
    exact ⟨rfl, Below.refl _ _⟩
  · by_cases h1 : 31 < (s.size : Int)
    · have e : Pl.sheetName s.data.toList = false := by
        have : ¬ s.data.toList.length ≤ 31 := by show ¬ s.size ≤ 31; omega
        unfold Pl.sheetName; rw [decide_eq_false this]; simp
      rw [e]
      go_enter Tryz.func100, Tryz.ntmps100
      go_wp2_with fail
      go_ret
      exact ⟨rfl, Below.refl _ _⟩
    · have hd : s.data.toList.isEmpty = false := by
        have : ¬ s.data.toList = [] := fun e => h0 (toList_nil.2 e)
        cases hh : s.data.toList with
        | nil => exact absurd hh this
        | cons _ _ => rfl
      have hsn : Pl.sheetName s.data.toList = (!(s.data.toList.head? == some 39) && !(s.data.toList.getLast? == some 39) && !s.data.toList.any Pl.bad) := by
        have : s.data.toList.length ≤ 31 := by show s.size ≤ 31; omega
        unfold Pl.sheetName; rw [decide_eq_true this, hd]; simp
      have hne : s.toList.isEmpty = false := by rw [Lib.toList_data]; exact hd
      have c1 := prefix_one s 39
      have c2 := fun w => suffix_one s 39 w (by omega)
      have c3 := contains_odd s
      rw [hsn]
      clear hsn hd h0
      generalize (s.data.toList.head? == some 39) = b1 at *
      generalize (s.data.toList.getLast? == some 39) = b2 at *
      generalize (s.data.toList.any Pl.bad) = b3 at *
      have C1 := Lib.hid c1
      have C2 := Lib.hid c2
      have C3 := Lib.hid c3
      clear c1 c2 c3
      go_enter Tryz.func100, Tryz.ntmps100
      cases b1 with
      | true =>
        go_wp2_with fail
        refine (C1.out _).mono ?_
        rintro e w' ⟨rfl, rfl⟩
        go_wp2_with fail
        go_ret
        exact ⟨rfl, Below.refl _ _⟩
      | false =>
        go_wp2_with fail
        refine (C1.out _).mono ?_
        rintro e w' ⟨rfl, rfl⟩
        go_wp2_with fail
        refine (C2.out _).mono ?_
        rintro e w' ⟨rfl, rfl⟩
        cases b2 with
        | true =>
          go_wp2_with fail
          go_ret
          exact ⟨rfl, Below.refl _ _⟩
        | false =>
          go_wp2_with fail
          refine (C3.out _).mono ?_
          rintro e w' ⟨rfl, hb⟩
          cases b3
          all_goals
            go_wp2_with fail
            go_ret
            exact ⟨rfl, hb⟩
end Go.Proofs.YtegjainidiaeaaaGreatDoor
