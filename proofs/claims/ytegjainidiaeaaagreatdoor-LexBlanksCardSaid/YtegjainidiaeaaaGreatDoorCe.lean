/- Contracts of package cells, fifth part: Col, wordly, cutLeft, some. -/
import Derived.Test.YtegjainidiaeaaaGreatDoorCc
import Derived.Deep.LoopGhost
import Derived.Lib.OthersKept
namespace Go.Proofs.YtegjainidiaeaaaGreatDoor
open Go.RowKit Go.Lib

theorem colNum_le (l : List UInt8) (h : l.length ≤ 3) : Pl.colNum l ≤ 200000 := by
  match l, h with
  | [], _ => decide
  | [a], _ => have := a.toNat_lt; simp [Pl.colNum]; omega
  | [a, b], _ => have := a.toNat_lt; have := b.toNat_lt; simp [Pl.colNum]; omega
  | [a, b, c], _ => have := a.toNat_lt; have := b.toNat_lt; have := c.toNat_lt; simp [Pl.colNum]; omega
theorem colNum_snoc (l : List UInt8) (b : UInt8) : Pl.colNum (l ++ [b]) = 26 * Pl.colNum l + (b.toNat - 65) + 1 := by simp [Pl.colNum]
theorem take_snoc (s : ByteArray) (k : Nat) (h : k < s.size) : s.data.toList.take (k + 1) = s.data.toList.take k ++ [s[k]] := by
  rw [List.take_succ_eq_append_getElem (by simpa using h)]; rfl
theorem mem_of_get (s : ByteArray) (k : Nat) (h : k < s.size) : s[k] ∈ s.data.toList := by
  have : s[k] = s.data.toList[k]'(by simpa using h) := rfl
  rw [this]; exact List.getElem_mem _
theorem capital_iff (b : UInt8) : Pl.capital b = true ↔ 65 ≤ b.toNat ∧ b.toNat ≤ 90 := by
  unfold Pl.capital; simp [UInt8.le_iff_toNat_le]

set_option maxHeartbeats 2000000 in
theorem col_any (s : ByteArray) (w : World) :
    Calls Tryz.prog 102 #[.string s] w fun e w' => e = .returned (.tuple #[.int .i64 (Pl.col s.data.toList).1, .bool (Pl.col s.data.toList).2]) ∧ w = w' := by
  by_cases h0 : s.toList = []
  · have e : Pl.col s.data.toList = (0, false) := by rw [toList_nil.1 h0]; rfl
    rw [e]
    have hne : s.toList.isEmpty = true := by rw [h0]; rfl
    clear h0
    go_enter Tryz.func102, Tryz.ntmps102
    go_wp2
    go_ret2
    exact ⟨rfl, rfl⟩
  have hd : s.data.toList.isEmpty = false := by
    have : ¬ s.data.toList = [] := fun e => h0 (toList_nil.2 e)
    cases hh : s.data.toList with
    | nil => exact absurd hh this
    | cons _ _ => rfl
  have hne : s.toList.isEmpty = false := by rw [Lib.toList_data]; exact hd
  clear h0
  by_cases h3 : 3 < (s.size : Int)
  · have e : Pl.col s.data.toList = (0, false) := by
      have : 3 < s.data.toList.length := by show 3 < s.size; omega
      unfold Pl.col; rw [decide_eq_true this]; simp
    rw [e]
    go_enter Tryz.func102, Tryz.ntmps102
    go_wp2
    go_ret2
    exact ⟨rfl, rfl⟩
  have hcol : Pl.col s.data.toList = if !s.data.toList.all Pl.capital || decide (64 < Pl.colNum s.data.toList) then (0, false) else ((Pl.colNum s.data.toList : Int), true) := by
    have : ¬ 3 < s.data.toList.length := by show ¬ 3 < s.size; omega
    unfold Pl.col; rw [hd, decide_eq_false this]; simp
  have HC := Lib.hid hcol
  generalize Pl.col s.data.toList = R at HC ⊢
  clear hcol hd
  go_enter Tryz.func102, Tryz.ntmps102
  go_wp2
  go_loop [4, 15] (fun n i => ∃ k : Nat, k ≤ s.size ∧ i = .int .i64 k ∧ n = .int .i64 (Pl.colNum (s.data.toList.take k)) ∧ ∀ j, (h : j < s.size) → j < k → Pl.capital s[j] = true) (fun _ i => s.size - (intOf i).toNat)
  case atStart => exact ⟨0, Nat.zero_le _, rfl, rfl, fun j _ h => absurd h (Nat.not_lt_zero _)⟩
  case round =>
    obtain ⟨k, hk, rfl, rfl, hcap⟩ := hrel
    have hl : (s.data.toList.take k).length ≤ 3 := by have := List.length_take_le k s.data.toList; omega
    have hb := colNum_le _ hl
    have HCap := Lib.hid hcap
    clear hcap hl
    by_cases hlt : k < s.size
    · have hsn := colNum_snoc (s.data.toList.take k) s[k]
      rw [← take_snoc s k hlt] at hsn
      have HS := Lib.hid hsn
      clear hsn
      by_cases hc : 65 ≤ s[k].toNat ∧ s[k].toNat ≤ 90
      · obtain ⟨hc1, hc2⟩ := hc
        have hthis : Pl.capital s[k] = true := (capital_iff _).2 ⟨hc1, hc2⟩
        have HT := Lib.hid hthis
        clear hthis
        go_wp2
        go_round
        case rel =>
          refine ⟨k + 1, by omega, by go_num, ?_, fun j hj hjk => ?_⟩
          · rw [HS.out]; congr 1; omega
          · rcases Nat.lt_or_ge j k with h | h
            · exact HCap.out j hj h
            · obtain rfl : j = k := by omega
              exact HT.out
        case measure => simp [intOf]; omega
      · have hR : R = (0, false) := by
          have h1 : ¬ Pl.capital s[k] = true := fun h => hc ((capital_iff _).1 h)
          have h2 : s.data.toList.all Pl.capital = false := by
            cases h : s.data.toList.all Pl.capital with
            | false => rfl
            | true => exact absurd (List.all_eq_true.1 h _ (mem_of_get s k hlt)) h1
          rw [HC.out, h2]; rfl
        have HR := Lib.hid hR
        clear hR
        go_wp2
        all_goals
          go_ret2
          exact ⟨by rw [HR.out]; rfl, rfl⟩
    · obtain rfl : k = s.size := by omega
      have htk : s.data.toList.take s.size = s.data.toList := List.take_of_length_le (Nat.le_refl _)
      rw [htk]
      rw [htk] at hb
      have hall : s.data.toList.all Pl.capital = true := by
        rw [List.all_eq_true]
        intro b hbm
        obtain ⟨j, hj, rfl⟩ := List.getElem_of_mem hbm
        exact HCap.out j hj hj
      by_cases h64 : 64 < (Pl.colNum s.data.toList : Int)
      · have hR : R = (0, false) := by
          have : 64 < Pl.colNum s.data.toList := by omega
          rw [HC.out, hall, decide_eq_true this]; rfl
        have HR := Lib.hid hR
        clear hall htk hR
        go_wp2
        go_ret2
        exact ⟨by rw [HR.out]; rfl, rfl⟩
      · have hR : R = ((Pl.colNum s.data.toList : Int), true) := by
          have : ¬ 64 < Pl.colNum s.data.toList := by omega
          rw [HC.out, hall, decide_eq_false this]; rfl
        have HR := Lib.hid hR
        clear hall htk hR
        go_wp2
        go_ret2
        exact ⟨by rw [HR.out]; rfl, rfl⟩
end Go.Proofs.YtegjainidiaeaaaGreatDoor
