/- Contracts of package cells, sixth part: wordly, cutLeft, some. -/
import Derived.Test.YtegjainidiaeaaaGreatDoorCe
namespace Go.Proofs.YtegjainidiaeaaaGreatDoor
open Go.RowKit Go.Lib

/-- A byte's number at a place of a word. -/
def okB (pos c : Nat) : Prop := (97 ≤ c ∧ c ≤ 122) ∨ (65 ≤ c ∧ c ≤ 90) ∨ c = 95 ∨ (0 < pos ∧ 48 ≤ c ∧ c ≤ 57)
theorem letter_iff (b : UInt8) : Pl.letter b = true ↔ (97 ≤ b.toNat ∧ b.toNat ≤ 122) ∨ (65 ≤ b.toNat ∧ b.toNat ≤ 90) ∨ b.toNat = 95 := by
  unfold Pl.letter; simp [UInt8.le_iff_toNat_le, capital_iff, or_assoc, ← UInt8.toNat_inj]
theorem digit_iff (b : UInt8) : Pl.digit b = true ↔ 48 ≤ b.toNat ∧ b.toNat ≤ 57 := by
  unfold Pl.digit; simp [UInt8.le_iff_toNat_le]
theorem okB_zero (b : UInt8) : okB 0 b.toNat ↔ Pl.letter b = true := by rw [letter_iff]; unfold okB; omega
theorem okB_pos (j : Nat) (b : UInt8) (h : 0 < j) : okB j b.toNat ↔ (Pl.letter b || Pl.digit b) = true := by
  rw [Bool.or_eq_true, letter_iff, digit_iff]; unfold okB; omega
theorem wordly_iff (l : List UInt8) : Pl.wordly l = true ↔ l ≠ [] ∧ ∀ j, (h : j < l.length) → okB j l[j].toNat := by
  cases l with
  | nil => simp [Pl.wordly]
  | cons b l =>
    simp only [Pl.wordly, Bool.and_eq_true, ne_eq, List.cons_ne_nil, not_false_eq_true, true_and]
    constructor
    · rintro ⟨h1, h2⟩ j hj
      cases j with
      | zero => exact (okB_zero b).2 h1
      | succ j =>
        have hj' : j < l.length := by simpa using hj
        exact (okB_pos (j + 1) _ (by omega)).2 (List.all_eq_true.1 h2 _ (List.getElem_mem hj'))
    · intro h
      refine ⟨(okB_zero b).1 (h 0 (by simp)), List.all_eq_true.2 fun c hc => ?_⟩
      obtain ⟨j, hj, rfl⟩ := List.getElem_of_mem hc
      exact (okB_pos (j + 1) _ (by omega)).1 (h (j + 1) (by simpa using hj))

set_option maxHeartbeats 2000000 in
theorem wordly_any (s : ByteArray) (w : World) (_hs : s.size ≤ 9223372036854775807) :
    Calls Tryz.prog 99 #[.string s] w (Q (.bool (Pl.wordly s.data.toList)) w) := by
  have hemp : s.toList.isEmpty = s.data.toList.isEmpty := by rw [Lib.toList_data]
  have hiff := wordly_iff s.data.toList
  have HI := Lib.hid hiff
  clear hiff
  generalize hB : Pl.wordly s.data.toList = B at HI ⊢
  clear hB
  have HE := Lib.hid hemp
  clear hemp
  go_enter Tryz.func99, Tryz.ntmps99
  go_wp2
  go_loopg [] s.size (fun gf wx => ∃ pos : Nat, wx.heap[w.heap.size]? = some (.stringIter s pos) ∧ Below w.heap.size w wx ∧ pos ≤ s.size ∧ s.size ≤ pos + gf ∧ Hid (∀ j, (h : j < s.size) → j < pos → okB j (s[j]'h).toNat))
  case atStart => exact ⟨0, World.iter_heap w s 0, (Below.refl _ w).alloc (Nat.le_refl _) _, Nat.zero_le _, by omega, fun j _ h => absurd h (Nat.not_lt_zero _)⟩
  case round =>
    obtain ⟨pos, hit, hbw, hps, hfu, HJ⟩ := hrel
    by_cases hlt : pos < s.size
    · obtain ⟨g', rfl⟩ : ∃ g', gk = g' + 1 := ⟨gk - 1, by omega⟩
      obtain ⟨r, hr⟩ : ∃ r, (Utf8.decode s pos).1 = r := ⟨_, rfl⟩
      obtain ⟨K, hK⟩ : ∃ K, (Utf8.decode s pos).2 = K := ⟨_, rfl⟩
      have hnx : ∀ ty, (Instr.next (.pointer (some ⟨w.heap.size, 0, none⟩)) true ty).run Tryz.prog wr = _ := fun ty => Lib.run_next_any_at wr w.heap.size s pos ty hit hlt
      rw [hr, hK] at hnx
      have hit2 := Lib.iterAt_heap wr w.heap.size s pos (pos + K) hit
      have hbw2 := Lib.below_iterAt hbw (k := w.heap.size) (Nat.le_refl _) s (pos + K)
      obtain ⟨W, hWd⟩ : ∃ W, wr.iterAt w.heap.size s (pos + K) = W := ⟨_, rfl⟩
      rw [hWd] at hnx hit2 hbw2
      clear hWd hit hbw
      by_cases hok : okB pos r
      · have hasc : (s[pos]'hlt).toNat < 128 := by
          rcases Nat.lt_or_ge (s[pos]'hlt).toNat 128 with h | h
          · exact h
          · have := (decode_high s pos hlt h).1
            rw [hr] at this
            unfold okB at hok; omega
        have hdec := decode_ascii s pos hlt hasc
        have h1 : (s[pos]'hlt).toNat = r := by rw [← hr, hdec]
        have h2 : K = 1 := by rw [← hK, hdec]
        subst h2
        have HJ2 : Hid (∀ j, (h : j < s.size) → j < pos + 1 → okB j (s[j]'h).toNat) := fun j hj hj2 => by
          rcases Nat.lt_or_ge j pos with h | h
          · exact HJ.out j hj h
          · obtain rfl : j = pos := by omega
            rw [h1]; exact hok
        clear hr hK hdec h1 hasc
        unfold okB at hok
        go_wp2
        all_goals
          go_roundg g'
          case measure => omega
          case rel => exact ⟨pos + 1, hit2, hbw2, by omega, by omega, HJ2⟩
      · have hBf : B = false := by
          cases B with
          | false => rfl
          | true =>
            have h1 := (HI.out.1 rfl).2 pos hlt
            exfalso
            have h1' : okB pos (s[pos]'hlt).toNat := h1
            rcases Nat.lt_or_ge (s[pos]'hlt).toNat 128 with h | h
            · have hdec := decode_ascii s pos hlt h
              have : (s[pos]'hlt).toNat = r := by rw [← hr, hdec]
              rw [this] at h1'; exact hok h1'
            · unfold okB at h1'; omega
        have HR := Lib.hid hBf
        clear hBf hr hK
        unfold okB at hok
        go_wp2
        all_goals
          go_ret
          exact ⟨by rw [HR.out]; rfl, hbw2⟩
    · have hnx : ∀ ty, (Instr.next (.pointer (some ⟨w.heap.size, 0, none⟩)) true ty).run Tryz.prog wr = _ := fun ty => Lib.run_next_end_at wr w.heap.size s pos ty hit hlt
      have hB : Hid (B = !s.toList.isEmpty) := by
        show B = _
        rw [HE.out]
        cases hd : s.data.toList.isEmpty with
        | true =>
          cases B with
          | false => rfl
          | true => exact absurd (List.isEmpty_iff.1 hd) (HI.out.1 rfl).1
        | false =>
          refine HI.out.2 ⟨fun e => (by rw [e] at hd; cases hd), fun j hj => ?_⟩
          have hj' : j < s.size := hj
          exact HJ.out j hj' (by omega)
      by_cases h0 : s.toList = []
      · have hne : s.toList.isEmpty = true := by rw [h0]; rfl
        clear h0
        go_wp2
        go_ret
        exact ⟨by rw [hB.out, hne]; rfl, hbw⟩
      · have hne : s.toList.isEmpty = false := by
          cases hd : s.toList with
          | nil => exact absurd hd h0
          | cons _ _ => rfl
        clear h0
        go_wp2
        go_ret
        exact ⟨by rw [hB.out, hne]; rfl, hbw⟩
end Go.Proofs.YtegjainidiaeaaaGreatDoor
