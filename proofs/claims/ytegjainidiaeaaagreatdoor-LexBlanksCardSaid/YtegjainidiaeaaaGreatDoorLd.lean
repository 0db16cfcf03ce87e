/- lex.number at every text. -/
import Derived.Test.YtegjainidiaeaaaGreatDoorLc
namespace Go.Proofs.YtegjainidiaeaaaGreatDoor
open Go.RowKit Go.Lib

theorem or_e : ∀ b : UInt8, (bits .or .u8 (b.toNat : Int) 32 != 101) = !(b == 101 || b == 69) := by
  intro b
  have h : ∀ i : Fin 256, (bits .or .u8 ((UInt8.ofNat i.val).toNat : Int) 32 != 101) = !((UInt8.ofNat i.val) == 101 || (UInt8.ofNat i.val) == 69) := by decide +kernel
  have k := h ⟨b.toNat, b.toNat_lt⟩
  simpa using k
theorem eq_byte (b c : UInt8) : (((b.toNat : Nat) : Int) == ((c.toNat : Nat) : Int)) = (b == c) := by
  rw [Bool.eq_iff_iff]; simp only [beq_iff_eq]
  exact ⟨fun h => UInt8.toNat_inj.1 (by omega), fun h => by rw [h]⟩
theorem head_drop (s : ByteArray) (k : Nat) (h : k < s.size) : (s.data.toList.drop k).head? = some (s[k]'h) := by
  rw [List.head?_drop, List.getElem?_eq_getElem (show k < s.data.toList.length from h)]; rfl
theorem head_none (s : ByteArray) (k : Nat) (h : s.size ≤ k) : (s.data.toList.drop k).head? = none := by
  rw [List.head?_drop, List.getElem?_eq_none (show s.data.toList.length ≤ k from h)]

theorem number_any (s : ByteArray) (w : World) (hs : s.size ≤ 512) : Calls Tryz.prog 15 #[.string s] w (Q (.int .i64 (numN s.data.toList)) w) := by
  have hsz : s.data.toList.length = s.size := rfl
  have hn := runN_le Pl.digit s.data.toList
  have C1 := fun w => runD_any s w (by omega)
  have C2 := fun w => prefix_one (s.extract (runN Pl.digit s.data.toList) s.size) 46 w
  have C3 := fun w => runD_any (s.extract (runN Pl.digit s.data.toList + 1) s.size) w (by have := ext_le s (runN Pl.digit s.data.toList + 1); omega)
  rw [ext_drop] at C2 C3
  have hd1 := runN_le Pl.digit (s.data.toList.drop (runN Pl.digit s.data.toList + 1))
  rw [List.length_drop] at hd1
  have hdot : ((s.data.toList.drop (runN Pl.digit s.data.toList)).head? == some 46) = true → runN Pl.digit s.data.toList + 1 + runN Pl.digit (s.data.toList.drop (runN Pl.digit s.data.toList + 1)) ≤ s.size := by
    intro h
    rcases Nat.lt_or_ge (runN Pl.digit s.data.toList) s.size with h1 | h1
    · omega
    · rw [head_none s _ h1] at h; cases h
  have hnp : numP s.data.toList ≤ s.size := by
    unfold numP
    split
    · rename_i h; exact hdot (by simpa using h.1)
    · omega
  have hr := ext_drop s (numP s.data.toList)
  have hrs := ext_le s (numP s.data.toList)
  generalize hrr : s.extract (numP s.data.toList) s.size = r at *
  have hrl : r.data.toList.length = r.size := rfl
  have C4 := fun w => runD_any (r.extract (signN r.data.toList) r.size) w (by have := ext_le r (signN r.data.toList); omega)
  rw [ext_drop] at C4
  have hd2 := runN_le Pl.digit (r.data.toList.drop (signN r.data.toList))
  rw [List.length_drop] at hd2
  have hfin := number_core s w hs _ _ _ _ (by omega) (Lib.hid C1) (Lib.hid C2) hdot (Lib.hid C3) _ rfl (numP s.data.toList)
    (fun h => by
      unfold numP
      rw [if_neg]
      rintro ⟨h1, h2⟩
      rw [h1] at h; simp at h; omega)
    (fun h => by
      unfold numP
      rw [if_pos]
      simpa using h)
    r hrr.symm hnp (r.data.toList.head? == some 101 || r.data.toList.head? == some 69)
    (fun h => by rw [List.length_eq_zero_iff.1 (hrl.trans h)]; rfl)
    (fun h => by
      rw [or_e]
      have hh : r.data.toList.head? = some (r[0]'h) := by have := head_drop r 0 h; rwa [List.drop_zero] at this
      rw [hh]; rfl)
    (r.data.toList[1]? == some 43 || r.data.toList[1]? == some 45)
    (fun h => by rw [List.getElem?_eq_none (by omega)]; rfl)
    (fun h => by
      rw [List.getElem?_eq_getElem (show 1 < r.data.toList.length from h)]
      show ((r[1]'h == 43) || (r[1]'h == 45)) = _
      rw [← eq_byte, ← eq_byte]; rfl)
    (signN r.data.toList)
    (by unfold signN; rw [List.head?_drop]; simp)
    (Lib.hid C4) (by omega) _ rfl
  have e : (Value.int .i64 (if (r.data.toList.head? == some 101 || r.data.toList.head? == some 69) = true ∧ 0 < runN Pl.digit (r.data.toList.drop (signN r.data.toList)) then ((numP s.data.toList + signN r.data.toList + runN Pl.digit (r.data.toList.drop (signN r.data.toList)) : Nat) : Int) else (numP s.data.toList : Int))) = .int .i64 (numN s.data.toList) := by
    unfold numN expN
    rw [← hr]
    congr 1
    simp only [Bool.or_eq_true, beq_iff_eq]
    split <;> omega
  rw [e] at hfin
  exact hfin
end Go.Proofs.YtegjainidiaeaaaGreatDoor
