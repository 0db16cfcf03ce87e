/- The document's answer, first part: SheetName, walked. -/
import Derived.Test.YtmicenegjfnbmaaGreatDoorCe
namespace Go.Proofs.YtmicenegjfnbmaaGreatDoor
open Go.RowKit Go.Lib

abbrev T7 : ByteArray := ⟨#[58, 92, 47, 63, 42, 91, 93]⟩
def bad7 (b : UInt8) : Bool := b.toNat == 58 || b.toNat == 92 || b.toNat == 47 || b.toNat == 63 || b.toNat == 42 || b.toNat == 91 || b.toNat == 93
theorem bad_split (b : UInt8) : Pl.bad b = (decide (b.toNat < 32) || decide (126 < b.toNat) || bad7 b) := by
  have h : ∀ i : Fin 256, Pl.bad (UInt8.ofNat i.val) = (decide ((UInt8.ofNat i.val).toNat < 32) || decide (126 < (UInt8.ofNat i.val).toNat) || bad7 (UInt8.ofNat i.val)) := by decide +kernel
  have k := h ⟨b.toNat, b.toNat_lt⟩
  simpa using k
/-- Has one of the first k signs been met? -/
def met7 (b : UInt8) (k : Nat) : Bool := (T7.data.toList.take k).any fun c => b.toNat == c.toNat
theorem met7_all (b : UInt8) : met7 b 7 = bad7 b := by
  have h : ∀ i : Fin 256, met7 (UInt8.ofNat i.val) 7 = bad7 (UInt8.ofNat i.val) := by decide +kernel
  have k := h ⟨b.toNat, b.toNat_lt⟩
  simpa using k
theorem met7_succ (b : UInt8) (k : Nat) (h : k < 7) : met7 b (k + 1) = (met7 b k || b.toNat == (T7[k]'h).toNat) := by
  unfold met7; rw [take_snoc T7 k h, List.any_append]; simp

def okTill (s : ByteArray) (k : Nat) : Prop := ∀ j, (h : j < s.size) → j < k → Pl.bad s[j] = false
theorem okTill_all (s : ByteArray) (h : okTill s s.size) : s.data.toList.any Pl.bad = false := by
  rw [List.any_eq_false]
  intro b hb
  obtain ⟨j, hj, rfl⟩ := List.getElem_of_mem hb
  have := h j hj hj
  rw [show s.data.toList[j] = s[j]'hj from rfl, this]; decide
theorem bad_some (s : ByteArray) (k : Nat) (h : k < s.size) (hb : Pl.bad s[k] = true) : s.data.toList.any Pl.bad = true := by
  rw [List.any_eq_true]; exact ⟨s[k], mem_of_get s k h, hb⟩

theorem head_get (s : ByteArray) (h : 0 < s.size) : s.data.toList.head? = some (s[0]'h) := by
  cases hl : s.data.toList with
  | nil =>
    have : s.data.toList.length = s.size := rfl
    rw [hl] at this; simp at this; omega
  | cons x l =>
    have : s[0]'h = s.data.toList[0]'h := rfl
    rw [this]; simp [hl]
theorem last_get (s : ByteArray) (h : 0 < s.size) : s.data.toList.getLast? = some (s[s.size - 1]'(by omega)) := by
  have hl : s.data.toList.length = s.size := rfl
  rw [List.getLast?_eq_getElem?, List.getElem?_eq_getElem (by omega)]; rfl
theorem beq_byte (a b : UInt8) : (some a == some b) = (a.toNat == b.toNat) := by
  rw [Bool.eq_iff_iff]; simp only [beq_iff_eq, Option.some.injEq]
  exact ⟨fun h => by rw [h], fun h => UInt8.toNat_inj.1 h⟩

set_option maxHeartbeats 4000000 in
theorem refSheetName_long (s : ByteArray) (w : World) (h1 : 1 ≤ s.size) (h31 : s.size ≤ 31) (hf : (((s[0]'h1).toNat : Int) == 39) = false) (hl : (((s[s.size - 1]'(by omega)).toNat : Int) == 39) = false) :
    Calls Tryz.prog 17 #[.string s] w (Q (.bool (!s.data.toList.any Pl.bad)) w) := by
  obtain ⟨R, hR⟩ : ∃ R, (!s.data.toList.any Pl.bad) = R := ⟨_, rfl⟩
  rw [hR]
  have HR := Lib.hid hR
  clear hR
  have hz0 : ((s.size : Int) == 0) = false := by rw [beq_eq_false_iff_ne]; omega
  have hz31 : decide (31 < (s.size : Int)) = false := by rw [decide_eq_false_iff_not]; omega
  go_enter Tryz.func17, Tryz.ntmps17
  go_wp2
  clear hz0 hz31 hf hl
  go_loopg [4] s.size (fun gf i wx => ∃ k : Nat, k ≤ s.size ∧ s.size ≤ k + gf ∧ i = .int .i64 k ∧ Hid (okTill s k) ∧ Hid (Below w.heap.size w wx))
  case atStart => exact ⟨0, Nat.zero_le _, by omega, rfl, fun j _ h => absurd h (Nat.not_lt_zero _), Below.refl _ _⟩
  case round =>
    obtain ⟨k, hk, hfu, rfl, HO, HB⟩ := hrel
    by_cases hlt : k < s.size
    · obtain ⟨g', rfl⟩ : ∃ g', gk = g' + 1 := ⟨gk - 1, by omega⟩
      have hbs := bad_split s[k]
      by_cases h32 : s[k].toNat < 32
      · have hR : Hid (R = false) := by show _ = _; rw [← HR.out, bad_some s k hlt (by rw [hbs]; simp [h32])]; rfl
        have d32 : decide ((s[k].toNat : Int) < 32) = true := by rw [decide_eq_true_eq]; omega
        clear hbs h32
        go_wp2
        go_ret
        exact ⟨by rw [hR.out]; rfl, HB.out⟩
      have d32 : decide ((s[k].toNat : Int) < 32) = false := by rw [decide_eq_false_iff_not]; omega
      by_cases h126 : 126 < s[k].toNat
      · have hR : Hid (R = false) := by show _ = _; rw [← HR.out, bad_some s k hlt (by rw [hbs]; simp [h126])]; rfl
        have d126 : decide (126 < (s[k].toNat : Int)) = true := by rw [decide_eq_true_eq]; omega
        clear hbs h32 h126
        go_wp2
        go_ret
        exact ⟨by rw [hR.out]; rfl, HB.out⟩
      have d126 : decide (126 < (s[k].toNat : Int)) = false := by rw [decide_eq_false_iff_not]; omega
      have hb7 : Pl.bad s[k] = bad7 s[k] := by rw [hbs]; simp [h32, h126]
      have H7 := Lib.hid hb7
      clear hbs hb7 h32 h126
      go_wp2
      clear d32 d126
      go_loopg [5] 7 (fun gf i wx => ∃ m : Nat, m ≤ 7 ∧ 7 ≤ m + gf ∧ i = .int .i64 m ∧ Hid (met7 s[k] m = false) ∧ Hid (Below w.heap.size w wx))
      case atStart => exact ⟨0, Nat.zero_le _, by omega, rfl, rfl, HB.out⟩
      case round =>
        obtain ⟨m, hm, hfm, rfl, HM, HB2⟩ := hrel
        by_cases hm7 : m < 7
        · obtain ⟨f', rfl⟩ : ∃ f', gk = f' + 1 := ⟨gk - 1, by omega⟩
          have hs := met7_succ s[k] m hm7
          rw [HM.out, Bool.false_or] at hs
          have dm : decide ((m : Int) < 7) = true := by rw [decide_eq_true_eq]; omega
          have hmi : ((m : Int) < 7) = True := eq_true (by omega)
          cases hc : ((s[k].toNat : Int) == ((T7[m]'hm7).toNat : Int)) with
          | true =>
            have hR : Hid (R = false) := by
              show _ = _
              have e : bad7 s[k] = true := by
                rw [← met7_all]
                unfold met7
                rw [List.any_eq_true]
                exact ⟨T7[m], by rw [show T7.data.toList.take 7 = T7.data.toList from rfl]; exact mem_of_get T7 m hm7, by have := beq_iff_eq.1 hc; rw [beq_iff_eq]; omega⟩
              rw [← HR.out, bad_some s k hlt (by rw [H7.out, e])]; rfl
            clear hs
            go_wp2
            go_quiet (fail)
            go_wp2
            go_ret
            exact ⟨by rw [hR.out]; rfl, below_drewN HB2.out _⟩
          | false =>
            have HS : Hid (met7 s[k] (m + 1) = false) := by
              show _ = _
              rw [hs, beq_eq_false_iff_ne]
              have := beq_eq_false_iff_ne.1 hc
              omega
            clear hs
            go_wp2
            go_quiet (fail)
            go_wp2
            go_roundg f'
            case measure => omega
            case rel => exact ⟨m + 1, by omega, by omega, by go_num, HS.out, below_drewN HB2.out _⟩
        · have dm : decide ((m : Int) < 7) = false := by rw [decide_eq_false_iff_not]; omega
          have hok : Hid (okTill s (k + 1)) := by
            intro j hj hjk
            rcases Nat.lt_or_ge j k with h | h
            · exact HO.out j hj h
            · obtain rfl : j = k := by omega
              obtain rfl : m = 7 := by omega
              rw [H7.out, ← met7_all, HM.out]
          clear HM
          go_wp2
          go_roundg g'
          case measure => omega
          case rel => exact ⟨k + 1, by omega, by omega, by go_num, hok.out, HB2.out⟩
    · have hR : Hid (R = true) := by
        show _ = _
        have e : k = s.size := by omega
        have ho := HO.out
        rw [e] at ho
        rw [← HR.out, okTill_all s ho]; rfl
      have dk : decide (k < s.size) = false := by rw [decide_eq_false_iff_not]; omega
      go_wp2
      go_ret
      exact ⟨by rw [hR.out]; rfl, HB.out⟩

theorem refSheetName_any (s : ByteArray) (w : World) :
    Calls Tryz.prog 17 #[.string s] w (Q (.bool (Pl.sheetName s.data.toList)) w) := by
  have hl : s.data.toList.length = s.size := rfl
  have hshort : ∀ (_ : Pl.sheetName s.data.toList = false) (_ : Calls Tryz.prog 17 #[.string s] w (Q (.bool false) w)), Calls Tryz.prog 17 #[.string s] w (Q (.bool (Pl.sheetName s.data.toList)) w) := by
    intro h1 h2; rw [h1]; exact h2
  by_cases h0 : s.size = 0
  · refine hshort (by rw [List.length_eq_zero_iff.1 (hl.trans h0)]; rfl) ?_
    have hz0 : ((s.size : Int) == 0) = true := by rw [beq_iff_eq]; omega
    clear hshort hl h0
    go_enter Tryz.func17, Tryz.ntmps17
    go_wp2
    go_ret
    exact ⟨rfl, Below.refl _ _⟩
  by_cases h31 : 31 < s.size
  · refine hshort (by unfold Pl.sheetName; rw [hl, show decide (s.size ≤ 31) = false by rw [decide_eq_false_iff_not]; omega]; simp) ?_
    have hz0 : ((s.size : Int) == 0) = false := by rw [beq_eq_false_iff_ne]; omega
    have hz31 : decide (31 < (s.size : Int)) = true := by rw [decide_eq_true_eq]; omega
    clear hshort hl h0 h31
    go_enter Tryz.func17, Tryz.ntmps17
    go_wp2
    go_ret
    exact ⟨rfl, Below.refl _ _⟩
  have h1 : 1 ≤ s.size := by omega
  have hne : s.data.toList.isEmpty = false := by
    cases hx : s.data.toList with
    | nil => rw [hx] at hl; simp at hl; omega
    | cons _ _ => rfl
  have hspec : Pl.sheetName s.data.toList = (!((s[0]'h1).toNat == 39) && !((s[s.size - 1]'(by omega)).toNat == 39) && !s.data.toList.any Pl.bad) := by
    unfold Pl.sheetName
    rw [hne, hl, show decide (s.size ≤ 31) = true by rw [decide_eq_true_eq]; omega, head_get s h1, last_get s h1, beq_byte, beq_byte]; rfl
  have hz0 : ((s.size : Int) == 0) = false := by rw [beq_eq_false_iff_ne]; omega
  have hz31 : decide (31 < (s.size : Int)) = false := by rw [decide_eq_false_iff_not]; omega
  cases hf : (((s[0]'h1).toNat : Int) == 39) with
  | true =>
    refine hshort (by rw [hspec, show ((s[0]'h1).toNat == 39) = true by rw [beq_iff_eq]; have := beq_iff_eq.1 hf; omega]; rfl) ?_
    clear hshort hl h0 h31 hspec hne
    go_enter Tryz.func17, Tryz.ntmps17
    go_wp2
    go_ret
    exact ⟨rfl, Below.refl _ _⟩
  | false =>
    have hf' : ((s[0]'h1).toNat == 39) = false := by rw [beq_eq_false_iff_ne]; have := beq_eq_false_iff_ne.1 hf; omega
    cases hla : (((s[s.size - 1]'(by omega)).toNat : Int) == 39) with
    | true =>
      refine hshort (by rw [hspec, show ((s[s.size - 1]'(by omega)).toNat == 39) = true by rw [beq_iff_eq]; have := beq_iff_eq.1 hla; omega]; simp) ?_
      clear hshort h0 hspec hne hf'
      go_enter Tryz.func17, Tryz.ntmps17
      go_wp2
      go_ret
      exact ⟨rfl, Below.refl _ _⟩
    | false =>
      have hl' : ((s[s.size - 1]'(by omega)).toNat == 39) = false := by rw [beq_eq_false_iff_ne]; have := beq_eq_false_iff_ne.1 hla; omega
      rw [hspec, hf', hl', Bool.not_false, Bool.true_and, Bool.true_and]
      exact refSheetName_long s w h1 (by omega) hf hla
end Go.Proofs.YtmicenegjfnbmaaGreatDoor
