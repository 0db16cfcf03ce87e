/- Package dec: tell at every number; the parser's take and some. -/
import Derived.Test.YtegjainidiaeaaaGreatDoorDd
import Derived.Test.YtegjainidiaeaaaGreatDoorDb
import Derived.Test.YtegjainidiaeaaaGreatDoorLb
namespace Go.Proofs.YtegjainidiaeaaaGreatDoor
open Go.RowKit Go.Lib

theorem div10_any (hi lo : Nat) (w : World) (h : hi < 10) (hlo : lo < 18446744073709551616) :
    Calls Tryz.prog 94 #[.int .u64 (hi : Int), .int .u64 (lo : Int), .int .u64 10] w (Q (.tuple #[.int .u64 (((hi * 18446744073709551616 + lo) / 10 : Nat) : Int), .int .u64 (((hi * 18446744073709551616 + lo) % 10 : Nat) : Int)]) w) := by
  rcases Nat.eq_zero_or_pos hi with h0 | h0
  · subst h0
    have e : 0 * 18446744073709551616 + lo = lo := by omega
    rw [e]
    exact div10_zero lo w hlo
  · exact div10_core hi lo w h0 h hlo
theorem by_any : By := fun X w hX => by
  have h := by_core (X / 18446744073709551616) (X % 18446744073709551616) (X / 18446744073709551616 / 10) (X / 18446744073709551616 % 10) ((X / 18446744073709551616 % 10 * 18446744073709551616 + X % 18446744073709551616) / 10) ((X / 18446744073709551616 % 10 * 18446744073709551616 + X % 18446744073709551616) % 10) w
    (Lib.hid fun w => div10_zero _ w (by omega)) (Lib.hid fun w => div10_any _ _ w (by omega) (by omega))
  have e1 : X / 10 / 18446744073709551616 = X / 18446744073709551616 / 10 := by omega
  have e2 : X / 10 % 18446744073709551616 = (X / 18446744073709551616 % 10 * 18446744073709551616 + X % 18446744073709551616) / 10 := by omega
  have e3 : X % 10 = (X / 18446744073709551616 % 10 * 18446744073709551616 + X % 18446744073709551616) % 10 := by omega
  unfold wv
  rw [e1, e2, e3]
  exact h

set_option maxRecDepth 100000 in
set_option maxHeartbeats 16000000 in
theorem tell_zero (neg : Bool) (e : Int) (w : World) :
    Calls Tryz.prog 33 #[.agg #[.bool neg, .int .u64 0, .int .u64 0, .int .i64 e]] w (Q (.tuple #[.agg #[.int .i64 0, .int .i64 0], .int .i64 0]) w) := by
  have CZ := Lib.hid (fun w => zero_any 0 w (by decide))
  have a1 := At.new w #[.bool neg, .int .u64 0, .int .u64 0, .int .i64 e] 66
  have hb1 : Below w.heap.size w (w.alloc (.cells #[.bool neg, .int .u64 0, .int .u64 0, .int .i64 e] 66)) := (Below.refl _ _).alloc (Nat.le_refl _) _
  have a2 := a1.alloc (.cells #[.int .i64 0, .int .i64 0] 30)
  have a3 := At.new (w.alloc (.cells #[.bool neg, .int .u64 0, .int .u64 0, .int .i64 e] 66)) #[.int .i64 0, .int .i64 0] 30
  have hb3 := hb1.alloc hb1.size (.cells #[.int .i64 0, .int .i64 0] 30)
  have hz : (w.alloc (.cells #[.bool neg, .int .u64 0, .int .u64 0, .int .i64 e] 66)).heap.size = w.heap.size + 1 := by simp
  rw [hz] at a3
  have A2 := Lib.hid a2
  have A3 := Lib.hid a3
  have HB := Lib.hid hb3
  clear a1 a2 a3 hb1 hb3 hz
  go_enter Tryz.func33, Tryz.ntmps33
  go_upto_region 0 with (fail)
  go_cut [1, 2] (fun v1 v2 wx => v1 = .pointer (some ⟨w.heap.size, 0, none⟩) ∧ v2 = .pointer (some ⟨w.heap.size + 1, 0, none⟩) ∧ At wx w.heap.size [.bool neg, .int .u64 0, .int .u64 0, .int .i64 e] ∧ At wx (w.heap.size + 1) [.int .i64 0, .int .i64 0] ∧ Below w.heap.size w wx)
  case first =>
    go_wp2_with fail
    go_meet
    exact ⟨rfl, rfl, A2.out, A3.out, HB.out⟩
  case rest =>
    obtain ⟨rfl, rfl, r1, r2, hb⟩ := hcut
    have p1 := r1.c 1 _ rfl
    have p2 := r1.c 2 _ rfl
    have R2 := Lib.hid r2
    replace HB := Lib.hid hb
    clear hb A2 A3 r1 r2
    go_wp2_with fail
    refine (CZ.out _).mono ?_
    rintro e1 w1 ⟨rfl, hb⟩
    have s2 := R2.out.below hb
    replace HB := Lib.hid (bt HB.out hb)
    have q0 := s2.c 0 _ rfl
    have q1 := s2.c 1 _ rfl
    have qf := s2.fz
    have S2 := Lib.hid s2
    clear hb p1 p2 s2
    go_wp2_with fail
    exact ret_two S2.out HB.out (by omega) decAgg decSize rfl rfl rfl rfl rfl

theorem tell_any (neg : Bool) (W : Nat) (e : Int) (w : World) (hW : W < 340282366920938463463374607431768211456) (he1 : -20000 ≤ e) (he2 : e ≤ 20000) :
    Calls Tryz.prog 33 #[.agg #[.bool neg, .int .u64 ((W / 18446744073709551616 : Nat) : Int), .int .u64 ((W % 18446744073709551616 : Nat) : Int), .int .i64 e]] w
      (Q (.tuple #[.agg #[.int .i64 (tellF neg W e).2.1, .int .i64 (tellF neg W e).2.2], .int .i64 (tellF neg W e).1]) w) := by
  unfold tellF
  by_cases h0 : W = 0
  · rw [if_pos h0]
    subst h0
    exact tell_zero neg e w
  · rw [if_neg h0]
    exact tell_core neg W e w by_any hW h0 he1 he2 _ rfl _ _ rfl rfl

set_option maxRecDepth 100000 in
set_option maxHeartbeats 8000000 in
theorem take_any (s : ByteArray) (c : UInt8) (B : Nat) (w : World) (h : At w B [.string s]) :
    Calls Tryz.prog 26 #[.pointer (some ⟨B, 0, none⟩), .string ⟨#[c]⟩] w fun e w' => e = .returned (.bool (s.data.toList.head? == some c)) ∧ w' = w.setCell ⟨B, 0, none⟩ (.string ⟨(if s.data.toList.head? == some c then s.data.toList.tail else s.data.toList).toArray⟩) := by
  have C := Lib.hid (fun w => cutPrefix_one s c w)
  obtain ⟨t, ht⟩ : ∃ t : ByteArray, (⟨(if s.data.toList.head? == some c then s.data.toList.tail else s.data.toList).toArray⟩ : ByteArray) = t := ⟨_, rfl⟩
  obtain ⟨b, hb⟩ : ∃ b : Bool, (s.data.toList.head? == some c) = b := ⟨_, rfl⟩
  rw [ht] at C ⊢
  rw [hb] at C ⊢
  have p0 := h.c 0 _ rfl
  have pf := h.fz
  clear ht hb h
  go_enter Tryz.func26, Tryz.ntmps26
  go_wp2_with fail
  refine (C.out _).mono ?_
  rintro e w1 ⟨rfl, rfl⟩
  go_wp2_with fail
  go_ret
  exact ⟨rfl, rfl⟩

set_option maxRecDepth 100000 in
set_option maxHeartbeats 8000000 in
theorem some_any' (s : ByteArray) (B n : Nat) (w : World) (hs : s.size ≤ 512) (h : At w B [.string s]) (hn : n = runN Pl.digit s.data.toList) :
    Calls Tryz.prog 27 #[.pointer (some ⟨B, 0, none⟩)] w fun e w' => e = .returned (.string (s.extract 0 n)) ∧ w' = w.setCell ⟨B, 0, none⟩ (.string (s.extract n s.size)) := by
  have p0 := h.c 0 _ rfl
  have pf := h.fz
  have HN := Lib.hid hn
  clear h hn
  go_enter Tryz.func27, Tryz.ntmps27
  go_wp2_with fail
  go_loopg [3] s.size (fun gf v3 wx => ∃ k : Nat, v3 = .int .i64 (k : Int) ∧ k ≤ s.size ∧ s.size ≤ k + gf ∧ wx = w ∧ Hid (runN Pl.digit (s.data.toList.drop k) + k = n))
  case atStart => exact ⟨0, rfl, by omega, by omega, rfl, by show _ = _; rw [List.drop_zero, HN.out]; rfl⟩
  case round =>
    obtain ⟨k, rfl, hk, hgf, rfl, HQ⟩ := hrel
    by_cases hlt : k < s.size
    · have hcl : s.data.toList.drop k = (s[k]'hlt) :: s.data.toList.drop (k + 1) := List.drop_eq_getElem_cons hlt
      have hq := HQ.out
      rw [hcl] at hq
      unfold runN at hq
      rw [List.takeWhile_cons] at hq
      obtain ⟨g', rfl⟩ : ∃ g', gk = g' + 1 := ⟨gk - 1, by omega⟩
      by_cases h1 : 48 ≤ (s[k]'hlt).toNat
      · by_cases h2 : (s[k]'hlt).toNat ≤ 57
        · have hd : Pl.digit (s[k]'hlt) = true := (digit_iff _).2 ⟨h1, h2⟩
          rw [hd] at hq
          have HQ2 : Hid (runN Pl.digit (s.data.toList.drop (k + 1)) + (k + 1) = n) := by
            show _ = _
            rw [if_pos rfl, List.length_cons] at hq
            unfold runN; omega
          clear hq hcl HQ HN
          go_wp2_with fail
          go_roundg g'
          case measure => omega
          case rel => exact ⟨k + 1, by go_num, by omega, by omega, rfl, HQ2⟩
        · have hd : Pl.digit (s[k]'hlt) = false := by
            cases hh : Pl.digit (s[k]'hlt) with
            | false => rfl
            | true => exact absurd ((digit_iff _).1 hh).2 h2
          rw [hd] at hq
          have hkn : k = n := by simpa using hq
          have HK := Lib.hid hkn
          clear hq hcl HQ HN hkn
          go_wp2_with fail
          go_ret
          exact ⟨by rw [← HK.out]; rfl, by rw [← HK.out]⟩
      · have hd : Pl.digit (s[k]'hlt) = false := by
          cases hh : Pl.digit (s[k]'hlt) with
          | false => rfl
          | true => exact absurd ((digit_iff _).1 hh).1 h1
        rw [hd] at hq
        have hkn : k = n := by simpa using hq
        have HK := Lib.hid hkn
        clear hq hcl HQ HN hkn
        go_wp2_with fail
        go_ret
        exact ⟨by rw [← HK.out]; rfl, by rw [← HK.out]⟩
    · have hkn : k = n := by
        have h := HQ.out
        rw [List.drop_eq_nil_of_le (by show s.size ≤ k; omega)] at h
        unfold runN at h; simpa using h
      have HK := Lib.hid hkn
      clear HQ HN hkn
      go_wp2_with fail
      go_ret
      exact ⟨by rw [← HK.out]; rfl, by rw [← HK.out]⟩
end Go.Proofs.YtegjainidiaeaaaGreatDoor
