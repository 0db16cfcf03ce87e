/- Contracts of package cells, seventh part: cutLeft, some. -/
import Derived.Test.YtegjainidiaeaaaGreatDoorCf
namespace Go.Proofs.YtegjainidiaeaaaGreatDoor
open Go.RowKit Go.Lib

theorem dropWhile_at (p : UInt8 → Bool) : ∀ (l : List UInt8) (k : Nat), k ≤ l.length → (∀ j, (h : j < l.length) → j < k → p l[j] = true) → (∀ h : k < l.length, p l[k] = false) → l.dropWhile p = l.drop k
  | [], k, hk, _, _ => by simp
  | b :: l, 0, _, _, h => by
    have := h (by simp)
    simp at this
    simp [this]
  | b :: l, k + 1, hk, h1, h2 => by
    have hb : p b = true := h1 0 (by simp) (by omega)
    rw [List.dropWhile_cons, if_pos hb, List.drop_succ_cons]
    exact dropWhile_at p l k (by simpa using hk) (fun j hj hjk => h1 (j + 1) (by simpa using hj) (by omega)) (fun h => h2 (by simpa using h))

/-- Has one of a text's first p bytes this number? -/
def hasN (t : ByteArray) (p : Nat) (r : Nat) : Bool := (t.data.toList.take p).any fun b => b.toNat == r
theorem hasN_succ (t : ByteArray) (p r : Nat) (h : p < t.size) : hasN t (p + 1) r = (hasN t p r || (t[p]'h).toNat == r) := by
  unfold hasN; rw [take_snoc t p h]; simp
theorem hasN_all (t : ByteArray) (r : Nat) : hasN t t.size r = t.data.toList.any fun b => b.toNat == r := by
  unfold hasN; rw [show t.data.toList.take t.size = t.data.toList from List.take_of_length_le (Nat.le_refl _)]
theorem has_contains (l : List UInt8) (b : UInt8) : (l.any fun c => c.toNat == b.toNat) = l.contains b := by
  induction l with
  | nil => rfl
  | cons a l ih =>
    rw [List.any_cons, ih, List.contains_cons]
    congr 1
    rw [Bool.eq_iff_iff, beq_iff_eq, beq_iff_eq, UInt8.toNat_inj]
    exact ⟨fun h => h.symm, fun h => h.symm⟩

set_option maxHeartbeats 4000000 in
theorem cutLeft_any (s t : ByteArray) (w : World) (ht : ∀ j, (h : j < t.size) → (t[j]'h).toNat < 128) :
    Calls Tryz.prog 125 #[.string s, .string t] w (Q (.string ⟨(s.data.toList.dropWhile (t.data.toList.contains ·)).toArray⟩) w) := by
  have HT := Lib.hid ht
  clear ht
  have hd : ∀ k, k ≤ s.data.toList.length → (∀ j, (h : j < s.data.toList.length) → j < k → t.data.toList.contains s.data.toList[j] = true) → (∀ h : k < s.data.toList.length, t.data.toList.contains s.data.toList[k] = false) → s.data.toList.dropWhile (t.data.toList.contains ·) = s.data.toList.drop k :=
    dropWhile_at (t.data.toList.contains ·) s.data.toList
  have HD := Lib.hid hd
  clear hd
  generalize s.data.toList.dropWhile (t.data.toList.contains ·) = R at HD ⊢
  go_enter Tryz.func125, Tryz.ntmps125
  go_wp2
  go_loopg [] s.size (fun gf wx => ∃ pos : Nat, wx.heap[w.heap.size]? = some (.stringIter s pos) ∧ Below w.heap.size w wx ∧ pos ≤ s.size ∧ s.size ≤ pos + gf ∧ Hid (∀ j, (h : j < s.data.toList.length) → j < pos → t.data.toList.contains s.data.toList[j] = true))
  case atStart => exact ⟨0, World.iter_heap w s 0, (Below.refl _ w).alloc (Nat.le_refl _) _, Nat.zero_le _, by omega, fun j _ h => absurd h (Nat.not_lt_zero _)⟩
  case round =>
    obtain ⟨pos, hit, hbw, hps, hfu, HJ⟩ := hrel
    by_cases hlt : pos < s.size
    · obtain ⟨g', rfl⟩ : ∃ g', gk = g' + 1 := ⟨gk - 1, by omega⟩
      obtain ⟨r, hr⟩ : ∃ r, (Utf8.decode s pos).1 = r := ⟨_, rfl⟩
      obtain ⟨K, hK⟩ : ∃ K, (Utf8.decode s pos).2 = K := ⟨_, rfl⟩
      have hnx : ∀ ty, (Instr.next (.pointer (some ⟨w.heap.size, 0, none⟩)) true ty).run Tryz.prog wr = _ := fun ty => Lib.run_next_any_at wr w.heap.size s pos ty hit hlt
      rw [hr, hK] at hnx
      have hit2 := Lib.iterAt_heap wr w.heap.size s pos (pos + K) hit
      have hbw2 := Lib.below_iterAt hbw (k := w.heap.size) (Nat.le_refl _) s (pos + K)
      obtain ⟨W, hWd⟩ : ∃ W, wr.iterAt w.heap.size s (pos + K) = W := ⟨_, rfl⟩
      rw [hWd] at hnx hit2 hbw2
      clear hWd hit hbw
      go_wp2
      clear hnx
      go_loopg [7] t.size (fun gf inn wx => ∃ (p : Nat) (b : Bool), wx.heap[W.heap.size]? = some (.stringIter t p) ∧ Below W.heap.size W wx ∧ p ≤ t.size ∧ t.size ≤ p + gf ∧ inn = .bool b ∧ Hid (b = hasN t p r))
      case atStart => exact ⟨0, false, World.iter_heap W t 0, (Below.refl _ W).alloc (Nat.le_refl _) _, Nat.zero_le _, by omega, rfl, by show false = _; simp [hasN]⟩
      case round =>
        obtain ⟨p, b, hit3, hbw3, hps3, hfu3, rfl, hb⟩ := hrel
        by_cases hlt3 : p < t.size
        · obtain ⟨k', rfl⟩ : ∃ k', gk = k' + 1 := ⟨gk - 1, by omega⟩
          have hnx : ∀ ty, (Instr.next (.pointer (some ⟨W.heap.size, 0, none⟩)) true ty).run Tryz.prog wr = _ := fun ty => Lib.run_next_ascii_at wr W.heap.size t p ty hit3 hlt3 (HT.out p hlt3)
          have hit4 := Lib.iterAt_heap wr W.heap.size t p (p + 1) hit3
          have hbw4 := Lib.below_iterAt hbw3 (k := W.heap.size) (Nat.le_refl _) t (p + 1)
          obtain ⟨W4, hW4⟩ : ∃ W4, wr.iterAt W.heap.size t (p + 1) = W4 := ⟨_, rfl⟩
          rw [hW4] at hnx hit4 hbw4
          clear hW4 hit3 hbw3
          have hsucc : hasN t (p + 1) r = (b || (t[p]'hlt3).toNat == r) := by rw [hasN_succ t p r hlt3, ← hb.out]
          have HS := Lib.hid hsucc
          clear hsucc
          generalize (t[p]'hlt3).toNat = q at hnx HS
          cases b with
          | true =>
            go_wp2
            go_roundg k'
            case measure => omega
            case rel => exact ⟨p + 1, true, hit4, hbw4, by omega, by omega, rfl, by show true = _; rw [HS.out]; rfl⟩
          | false =>
            by_cases hq : q = r
            · have hq1 : (((r : Nat) : Int) == (q : Int)) = true := by rw [hq]; simp
              have HS2 : Hid (true = hasN t (p + 1) r) := by show true = _; rw [HS.out, hq]; simp
              clear HS hq
              go_wp2
              go_roundg k'
              case measure => omega
              case rel => exact ⟨p + 1, true, hit4, hbw4, by omega, by omega, rfl, HS2⟩
            · have hq1 : (((r : Nat) : Int) == (q : Int)) = false := by rw [beq_eq_false_iff_ne]; omega
              have HS2 : Hid (false = hasN t (p + 1) r) := by show false = _; rw [HS.out]; simp [hq]
              clear HS hq
              go_wp2
              go_roundg k'
              case measure => omega
              case rel => exact ⟨p + 1, false, hit4, hbw4, by omega, by omega, rfl, HS2⟩
        · have hnx : ∀ ty, (Instr.next (.pointer (some ⟨W.heap.size, 0, none⟩)) true ty).run Tryz.prog wr = _ := fun ty => Lib.run_next_end_at wr W.heap.size t p ty hit3 hlt3
          have hall : Hid (b = t.data.toList.any fun c => c.toNat == r) := by
            have : p = t.size := by omega
            show b = _
            rw [hb.out, this, hasN_all]
          have hbw5 : Below w.heap.size w wr := hbw2.trans (hbw3.mono hbw2.size)
          have hit5 : wr.heap[w.heap.size]? = some (.stringIter s (pos + K)) := (hbw3.block w.heap.size (Array.getElem?_eq_some_iff.1 hit2).1).trans hit2
          clear hit3 hbw3 hb
          cases b with
          | true =>
            have hasc : (s[pos]'hlt).toNat < 128 := by
              rcases Nat.lt_or_ge (s[pos]'hlt).toNat 128 with h | h
              · exact h
              · exfalso
                have h1 := (decode_high s pos hlt h).1
                obtain ⟨c, hc, hcr⟩ := List.any_eq_true.1 hall.out.symm
                obtain ⟨j, hj, rfl⟩ := List.getElem_of_mem hc
                have h2 := HT.out j hj
                have h3 : (t[j]'hj).toNat = r := beq_iff_eq.1 hcr
                omega
            have hdec := decode_ascii s pos hlt hasc
            have h1 : (s[pos]'hlt).toNat = r := by rw [← hr, hdec]
            have h2 : K = 1 := by rw [← hK, hdec]
            subst h2
            have HJ2 : Hid (∀ j, (h : j < s.data.toList.length) → j < pos + 1 → t.data.toList.contains s.data.toList[j] = true) := fun j hj hj2 => by
              rcases Nat.lt_or_ge j pos with h | h
              · exact HJ.out j hj h
              · obtain rfl : j = pos := by omega
                rw [← has_contains, show (s.data.toList[j]).toNat = r from h1]; exact hall.out.symm
            clear hr hK hdec h1 hasc hall HJ
            go_wp2
            go_roundg g'
            case measure => omega
            case rel => exact ⟨pos + 1, hit5, hbw5, by omega, by omega, HJ2⟩
          | false =>
            have hno : t.data.toList.contains (s.data.toList[pos]'hlt) = false := by
              rw [← has_contains]
              rcases Nat.lt_or_ge (s[pos]'hlt).toNat 128 with h | h
              · have hdec := decode_ascii s pos hlt h
                have h1 : (s.data.toList[pos]'hlt).toNat = r := by rw [← hr, hdec]; rfl
                rw [h1]; exact hall.out.symm
              · cases hc : t.data.toList.any fun c => c.toNat == (s.data.toList[pos]'hlt).toNat with
                | false => rfl
                | true =>
                  exfalso
                  obtain ⟨c, hc, hcr⟩ := List.any_eq_true.1 hc
                  obtain ⟨j, hj, rfl⟩ := List.getElem_of_mem hc
                  have h2 := HT.out j hj
                  have h3 : (t[j]'hj).toNat = (s[pos]'hlt).toNat := beq_iff_eq.1 hcr
                  omega
            have hR : Hid (R = s.data.toList.drop pos) := HD.out pos (by show pos ≤ s.size; omega) HJ.out (fun _ => hno)
            have hext : (s.extract pos s.size) = ⟨(s.data.toList.drop pos).toArray⟩ := by
              apply ByteArray.ext
              rw [← Array.toList_inj, Lib.extract_to_end]
            have HX := Lib.hid hext
            clear hext hno hall HJ HD hr hK
            go_wp2
            go_ret
            exact ⟨by rw [hR.out, ← HX.out]; rfl, hbw5⟩
    · have hnx : ∀ ty, (Instr.next (.pointer (some ⟨w.heap.size, 0, none⟩)) true ty).run Tryz.prog wr = _ := fun ty => Lib.run_next_end_at wr w.heap.size s pos ty hit hlt
      have hR : Hid (R = []) := by
        show R = []
        have hp : pos = s.data.toList.length := by show pos = s.size; omega
        rw [HD.out pos (by omega) HJ.out (fun h => absurd h (by omega))]
        exact List.drop_eq_nil_of_le (by omega)
      clear HD HJ
      go_wp2
      go_ret
      exact ⟨by rw [hR.out]; rfl, hbw⟩

theorem take_drop_len (p : UInt8 → Bool) (l : List UInt8) : l.take (l.length - (l.dropWhile p).length) = l.takeWhile p := by
  have h : l.length = (l.takeWhile p).length + (l.dropWhile p).length := by
    have := congrArg List.length (List.takeWhile_append_dropWhile (p := p) (l := l))
    rw [List.length_append] at this; omega
  rw [show l.length - (l.dropWhile p).length = (l.takeWhile p).length by omega, Pl.take_takeWhile]

set_option maxHeartbeats 1000000 in
theorem some_any (s t : ByteArray) (w : World) (hs : s.size ≤ 9223372036854775807) (ht : ∀ j, (h : j < t.size) → (t[j]'h).toNat < 128) :
    Calls Tryz.prog 101 #[.string s, .string t] w (Q (.tuple #[.string ⟨(s.data.toList.takeWhile (t.data.toList.contains ·)).toArray⟩, .string ⟨(s.data.toList.dropWhile (t.data.toList.contains ·)).toArray⟩]) w) := by
  have c1 := cutLeft_any s t w ht
  have hle : (⟨(s.data.toList.dropWhile (t.data.toList.contains ·)).toArray⟩ : ByteArray).size ≤ s.size := by
    show (s.data.toList.dropWhile (t.data.toList.contains ·)).toArray.size ≤ s.data.toList.length
    simpa using List.Sublist.length_le (List.dropWhile_sublist (l := s.data.toList) (t.data.toList.contains ·))
  have hx : s.extract 0 (s.size - (⟨(s.data.toList.dropWhile (t.data.toList.contains ·)).toArray⟩ : ByteArray).size) = ⟨(s.data.toList.takeWhile (t.data.toList.contains ·)).toArray⟩ := by
    apply ByteArray.ext
    rw [← Array.toList_inj, Lib.extract_data, List.drop_zero]
    rw [← take_drop_len (t.data.toList.contains ·) s.data.toList]
    rfl
  generalize (⟨(s.data.toList.dropWhile (t.data.toList.contains ·)).toArray⟩ : ByteArray) = R at *
  rw [← hx]
  have C1 := Lib.hid c1
  clear c1 hx ht
  go_enter Tryz.func101, Tryz.ntmps101
  go_wp2_with fail
  refine C1.out.mono ?_
  rintro e w1 ⟨rfl, hb⟩
  go_wp2_with fail
  go_ret2
  exact ⟨rfl, hb⟩
end Go.Proofs.YtegjainidiaeaaaGreatDoor
