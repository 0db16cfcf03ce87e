/- Contracts of package lex: cutLeft, run. -/
import Derived.Test.YtegjainidiaeaaaGreatDoorCk
namespace Go.Proofs.YtegjainidiaeaaaGreatDoor
open Go.RowKit Go.Lib

set_option maxHeartbeats 4000000 in
theorem lexCut_any (s t : ByteArray) (w : World) (ht : ∀ j, (h : j < t.size) → (t[j]'h).toNat < 128) :
    Calls Tryz.prog 52 #[.string s, .string t] w (Q (.string ⟨(s.data.toList.dropWhile (t.data.toList.contains ·)).toArray⟩) w) := by
  have HT := Lib.hid ht
  clear ht
  have hd : ∀ k, k ≤ s.data.toList.length → (∀ j, (h : j < s.data.toList.length) → j < k → t.data.toList.contains s.data.toList[j] = true) → (∀ h : k < s.data.toList.length, t.data.toList.contains s.data.toList[k] = false) → s.data.toList.dropWhile (t.data.toList.contains ·) = s.data.toList.drop k :=
    dropWhile_at (t.data.toList.contains ·) s.data.toList
  have HD := Lib.hid hd
  clear hd
  generalize s.data.toList.dropWhile (t.data.toList.contains ·) = R at HD ⊢
  go_enter Tryz.func52, Tryz.ntmps52
  go_wp2
  go_loopg [] s.size (fun gf wx => ∃ pos : Nat, wx.heap[w.heap.size]? = some (.stringIter s pos) ∧ Below w.heap.size w wx ∧ pos ≤ s.size ∧ s.size ≤ pos + gf ∧ Hid (∀ j, (h : j < s.data.toList.length) → j < pos → t.data.toList.contains s.data.toList[j] = true))
  case atStart => exact ⟨0, World.iter_heap w s 0, (Below.refl _ w).alloc (Nat.le_refl _) _, Nat.zero_le _, by omega, fun j _ h => absurd h (Nat.not_lt_zero _)⟩
  case round =>
    obtain ⟨pos, hit, hbw, hps, hfu, HJ⟩ := hrel
    by_cases hlt : pos < s.size
    · obtain ⟨g', rfl⟩ : ∃ g', gk = g' + 1 := ⟨gk - 1, by omega⟩
      obtain ⟨r, hr⟩ : ∃ r, (Utf8.decode s pos).1 = r := ⟨_, rfl⟩
      obtain ⟨K, hK⟩ : ∃ K, (Utf8.decode s pos).2 = K := ⟨_, rfl⟩
      have hnx : ∀ ty, (Instr.next (.pointer (some ⟨w.heap.size, 0, none⟩)) true ty).run Tryz.prog wr = _ := fun ty => Lib.run_next_any_at wr w.heap.size s pos ty hit hlt
      rw [hr, hK] at hnx
      have hit2 := Lib.iterAt_heap wr w.heap.size s pos (pos + K) hit
      have hbw2 := Lib.below_iterAt hbw (k := w.heap.size) (Nat.le_refl _) s (pos + K)
      obtain ⟨W, hWd⟩ : ∃ W, wr.iterAt w.heap.size s (pos + K) = W := ⟨_, rfl⟩
      rw [hWd] at hnx hit2 hbw2
      clear hWd hit hbw
      go_wp2
      clear hnx
      go_loopg [7] t.size (fun gf inn wx => ∃ (p : Nat) (b : Bool), wx.heap[W.heap.size]? = some (.stringIter t p) ∧ Below W.heap.size W wx ∧ p ≤ t.size ∧ t.size ≤ p + gf ∧ inn = .bool b ∧ Hid (b = hasN t p r))
      case atStart => exact ⟨0, false, World.iter_heap W t 0, (Below.refl _ W).alloc (Nat.le_refl _) _, Nat.zero_le _, by omega, rfl, by show false = _; simp [hasN]⟩
      case round =>
        obtain ⟨p, b, hit3, hbw3, hps3, hfu3, rfl, hb⟩ := hrel
        by_cases hlt3 : p < t.size
        · obtain ⟨k', rfl⟩ : ∃ k', gk = k' + 1 := ⟨gk - 1, by omega⟩
          have hnx : ∀ ty, (Instr.next (.pointer (some ⟨W.heap.size, 0, none⟩)) true ty).run Tryz.prog wr = _ := fun ty => Lib.run_next_ascii_at wr W.heap.size t p ty hit3 hlt3 (HT.out p hlt3)
          have hit4 := Lib.iterAt_heap wr W.heap.size t p (p + 1) hit3
          have hbw4 := Lib.below_iterAt hbw3 (k := W.heap.size) (Nat.le_refl _) t (p + 1)
          obtain ⟨W4, hW4⟩ : ∃ W4, wr.iterAt W.heap.size t (p + 1) = W4 := ⟨_, rfl⟩
          rw [hW4] at hnx hit4 hbw4
          clear hW4 hit3 hbw3
          have hsucc : hasN t (p + 1) r = (b || (t[p]'hlt3).toNat == r) := by rw [hasN_succ t p r hlt3, ← hb.out]
          have HS := Lib.hid hsucc
          clear hsucc
          generalize (t[p]'hlt3).toNat = q at hnx HS
          cases b with
          | true =>
            go_wp2
            go_roundg k'
            case measure => omega
            case rel => exact ⟨p + 1, true, hit4, hbw4, by omega, by omega, rfl, by show true = _; rw [HS.out]; rfl⟩
          | false =>
            by_cases hq : q = r
            · have hq1 : (((r : Nat) : Int) == (q : Int)) = true := by rw [hq]; simp
              have HS2 : Hid (true = hasN t (p + 1) r) := by show true = _; rw [HS.out, hq]; simp
              clear HS hq
              go_wp2
              go_roundg k'
              case measure => omega
              case rel => exact ⟨p + 1, true, hit4, hbw4, by omega, by omega, rfl, HS2⟩
            · have hq1 : (((r : Nat) : Int) == (q : Int)) = false := by rw [beq_eq_false_iff_ne]; omega
              have HS2 : Hid (false = hasN t (p + 1) r) := by show false = _; rw [HS.out]; simp [hq]
              clear HS hq
              go_wp2
              go_roundg k'
              case measure => omega
              case rel => exact ⟨p + 1, false, hit4, hbw4, by omega, by omega, rfl, HS2⟩
        · have hnx : ∀ ty, (Instr.next (.pointer (some ⟨W.heap.size, 0, none⟩)) true ty).run Tryz.prog wr = _ := fun ty => Lib.run_next_end_at wr W.heap.size t p ty hit3 hlt3
          have hall : Hid (b = t.data.toList.any fun c => c.toNat == r) := by
            have : p = t.size := by omega
            show b = _
            rw [hb.out, this, hasN_all]
          have hbw5 : Below w.heap.size w wr := hbw2.trans (hbw3.mono hbw2.size)
          have hit5 : wr.heap[w.heap.size]? = some (.stringIter s (pos + K)) := (hbw3.block w.heap.size (Array.getElem?_eq_some_iff.1 hit2).1).trans hit2
          clear hit3 hbw3 hb
          cases b with
          | true =>
            have hasc : (s[pos]'hlt).toNat < 128 := by
              rcases Nat.lt_or_ge (s[pos]'hlt).toNat 128 with h | h
              · exact h
              · exfalso
                have h1 := (decode_high s pos hlt h).1
                obtain ⟨c, hc, hcr⟩ := List.any_eq_true.1 hall.out.symm
                obtain ⟨j, hj, rfl⟩ := List.getElem_of_mem hc
                have h2 := HT.out j hj
                have h3 : (t[j]'hj).toNat = r := beq_iff_eq.1 hcr
                omega
            have hdec := decode_ascii s pos hlt hasc
            have h1 : (s[pos]'hlt).toNat = r := by rw [← hr, hdec]
            have h2 : K = 1 := by rw [← hK, hdec]
            subst h2
            have HJ2 : Hid (∀ j, (h : j < s.data.toList.length) → j < pos + 1 → t.data.toList.contains s.data.toList[j] = true) := fun j hj hj2 => by
              rcases Nat.lt_or_ge j pos with h | h
              · exact HJ.out j hj h
              · obtain rfl : j = pos := by omega
                rw [← has_contains, show (s.data.toList[j]).toNat = r from h1]; exact hall.out.symm
            clear hr hK hdec h1 hasc hall HJ
            go_wp2
            go_roundg g'
            case measure => omega
            case rel => exact ⟨pos + 1, hit5, hbw5, by omega, by omega, HJ2⟩
          | false =>
            have hno : t.data.toList.contains (s.data.toList[pos]'hlt) = false := by
              rw [← has_contains]
              rcases Nat.lt_or_ge (s[pos]'hlt).toNat 128 with h | h
              · have hdec := decode_ascii s pos hlt h
                have h1 : (s.data.toList[pos]'hlt).toNat = r := by rw [← hr, hdec]; rfl
                rw [h1]; exact hall.out.symm
              · cases hc : t.data.toList.any fun c => c.toNat == (s.data.toList[pos]'hlt).toNat with
                | false => rfl
                | true =>
                  exfalso
                  obtain ⟨c, hc, hcr⟩ := List.any_eq_true.1 hc
                  obtain ⟨j, hj, rfl⟩ := List.getElem_of_mem hc
                  have h2 := HT.out j hj
                  have h3 : (t[j]'hj).toNat = (s[pos]'hlt).toNat := beq_iff_eq.1 hcr
                  omega
            have hR : Hid (R = s.data.toList.drop pos) := HD.out pos (by show pos ≤ s.size; omega) HJ.out (fun _ => hno)
            have hext : (s.extract pos s.size) = ⟨(s.data.toList.drop pos).toArray⟩ := by
              apply ByteArray.ext
              rw [← Array.toList_inj, Lib.extract_to_end]
            have HX := Lib.hid hext
            clear hext hno hall HJ HD hr hK
            go_wp2
            go_ret
            exact ⟨by rw [hR.out, ← HX.out]; rfl, hbw5⟩
    · have hnx : ∀ ty, (Instr.next (.pointer (some ⟨w.heap.size, 0, none⟩)) true ty).run Tryz.prog wr = _ := fun ty => Lib.run_next_end_at wr w.heap.size s pos ty hit hlt
      have hR : Hid (R = []) := by
        show R = []
        have hp : pos = s.data.toList.length := by show pos = s.size; omega
        rw [HD.out pos (by omega) HJ.out (fun h => absurd h (by omega))]
        exact List.drop_eq_nil_of_le (by omega)
      clear HD HJ
      go_wp2
      go_ret
      exact ⟨by rw [hR.out]; rfl, hbw⟩


theorem bt {w X Y : World} (h : Below w.heap.size w X) (k : Below X.heap.size X Y) : Below w.heap.size w Y := h.trans (k.mono h.size)
/-- How many of a text's first bytes stand in a list of bytes. -/
def runN (p : UInt8 → Bool) (l : List UInt8) : Nat := (l.takeWhile p).length
theorem runN_le (p : UInt8 → Bool) (l : List UInt8) : runN p l ≤ l.length := takeWhile_le p l
theorem run_any (s t : ByteArray) (w : World) (hs : s.size ≤ 9223372036854775807) (ht : ∀ j, (h : j < t.size) → (t[j]'h).toNat < 128) :
    Calls Tryz.prog 24 #[.string s, .string t] w (Q (.int .i64 (runN (t.data.toList.contains ·) s.data.toList)) w) := by
  have h := lexCut_any s t
  have hl : (runN (t.data.toList.contains ·) s.data.toList : Int) = (s.size : Int) - ((⟨(s.data.toList.dropWhile (t.data.toList.contains ·)).toArray⟩ : ByteArray).size : Int) := by
    have e0 : (⟨(s.data.toList.dropWhile (t.data.toList.contains ·)).toArray⟩ : ByteArray).size = (s.data.toList.dropWhile (t.data.toList.contains ·)).length := size_mk _
    have e2 : s.data.toList.length = s.size := rfl
    unfold runN
    have e := List.takeWhile_append_dropWhile (p := (t.data.toList.contains ·)) (l := s.data.toList)
    have e3 := congrArg List.length e
    rw [List.length_append] at e3
    omega
  have hd : (⟨(s.data.toList.dropWhile (t.data.toList.contains ·)).toArray⟩ : ByteArray).size ≤ s.size := by
    rw [size_mk]
    exact dropWhile_le _ s.data.toList
  rw [hl]
  have C := Lib.hid (fun w => h w ht)
  generalize (⟨(s.data.toList.dropWhile (t.data.toList.contains ·)).toArray⟩ : ByteArray) = r at *
  clear hl h
  have HT := Lib.hid ht
  clear ht
  go_enter Tryz.func24, Tryz.ntmps24
  go_wp2_with fail
  refine (C.out _).mono ?_
  rintro e w1 ⟨rfl, hb⟩
  go_wp2_with fail
  go_ret
  exact ⟨rfl, hb⟩
end Go.Proofs.YtegjainidiaeaaaGreatDoor
