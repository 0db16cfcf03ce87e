/- lex.quoted. -/
import Derived.Test.YtegjainidiaeaaaGreatDoorLm
import Derived.Deep.DeepCutAuto
namespace Go.Proofs.YtegjainidiaeaaaGreatDoor
open Go.RowKit Go.Lib

/-- What lex.quoted answers of a text of so many bytes. -/
def quotedV (n : Nat) : Option (List UInt8 × List UInt8) → Value
  | none => .tuple #[.int .i64 0, .string ⟨#[]⟩]
  | some (t, r) => .tuple #[.int .i64 ((n - r.length : Nat) : Int), .string ⟨t.toArray⟩]

theorem index_mark (s : ByteArray) (m : UInt8) (w : World) (i : Int) (h : i = if s.data.toList.contains m then ((s.data.toList.takeWhile (· != m)).length : Int) else -1) :
    Calls Tryz.prog 23 #[.string s, .string ⟨#[m]⟩] w fun e w' => e = .returned (.int .i64 i) ∧ w' = w := by
  have h0 := Tryz.strings_Index_one s m w
  rw [indexByte_tw, ← h] at h0
  exact h0

set_option maxRecDepth 100000 in
set_option maxHeartbeats 8000000 in
theorem lexQuoted_core (s : ByteArray) (m : UInt8) (w : World) (hs : s.size ≤ 512) (h0 : 1 ≤ s.size) (hm : s.extract 0 1 = ⟨#[m]⟩) (R : Option (List UInt8 × List UInt8)) (hR : R = quotedM m [] (s.data.toList.drop 1)) :
    Calls Tryz.prog 34 #[.string s] w (Q (quotedV s.size R) w) := by
  have HM := Lib.hid hm
  have HR := Lib.hid hR
  clear hm hR
  go_enter Tryz.func34, Tryz.ntmps34
  go_wp2_with fail
  go_step3
  go_wp2_with fail
  rw [HM.out]
  go_step3
  go_wp2_with fail
  go_loopg [5, 6] s.size (fun gf v5 v6 wx => ∃ (n : Nat) (o : ByteArray), v5 = .int .i64 (n : Int) ∧ v6 = .string o ∧ n ≤ s.size ∧ s.size < n + gf ∧ o.size ≤ n ∧ Below w.heap.size w wx ∧ Hid (quotedM m o.data.toList (s.data.toList.drop n) = R))
  case atStart => exact ⟨1, ⟨#[]⟩, rfl, rfl, h0, by omega, by show 0 ≤ 1; omega, Below.refl _ _, HR.out.symm⟩
  case round =>
    obtain ⟨n, o, rfl, rfl, hn, hfu, ho, hbw, HQ⟩ := hrel
    obtain ⟨g', rfl⟩ : ∃ g', gk = g' + 1 := ⟨gk - 1, by omega⟩
    have hrl : (s.extract n s.size).data.toList = s.data.toList.drop n := Lib.extract_to_end s n
    have hsz : s.data.toList.length = s.size := rfl
    by_cases h : (s.data.toList.drop n).contains m = true
    · obtain ⟨k, hk⟩ : ∃ k, k = ((s.data.toList.drop n).takeWhile (· != m)).length := ⟨_, rfl⟩
      have c1 := fun w => index_mark (s.extract n s.size) m w k (by rw [hrl, if_pos h, hk])
      have hkl : n + k + 1 ≤ s.size := by
        have := cut_parts _ m h
        rw [← hk, List.length_drop, hsz] at this
        omega
      have hdw : (s.data.toList.drop n).dropWhile (· != m) = s.data.toList.drop (n + k) := by
        rw [← Pl.drop_takeWhile, List.drop_drop, ← hk]
      have htl : ((s.data.toList.drop n).dropWhile (· != m)).tail = s.data.toList.drop (n + k + 1) := by
        rw [hdw, List.tail_drop]
      have hex : (s.extract n (n + k)).data.toList = (s.data.toList.drop n).takeWhile (· != m) := by
        rw [← Pl.take_takeWhile, ← hk]
        rw [ByteArray.data_extract, Array.toList_extract, List.extract_eq_take_drop]
        congr 1; omega
      have hq := quotedM_yes m _ o.data.toList h
      rw [htl, List.tail_drop, ← hex, HQ.out] at hq
      have c2 := prefix_one (s.extract (n + k + 1) s.size) m
      rw [Lib.extract_to_end] at c2
      have hes : (s.extract n (n + k)).size = k := by rw [ByteArray.size_extract]; omega
      have hos : (o ++ s.extract n (n + k)).size ≤ n + k := by rw [ByteArray.size_append, hes]; omega
      have C1 := Lib.hid c1
      have HQ2 := Lib.hid hq
      have HES := Lib.hid hes
      have HOS := Lib.hid hos
      have HX := Lib.hid hex
      clear c1 hq hex hes hos hdw htl hk h hrl HQ
      cases hb : ((s.data.toList.drop (n + k + 1)).head? == some m) with
      | true =>
        rw [hb] at c2
        have C2 := Lib.hid c2
        have hlt := head_lt hb
        rw [hsz] at hlt
        have HE : Hid (quotedM m (o ++ s.extract n (n + k) ++ ⟨#[m]⟩).data.toList (s.data.toList.drop (n + k + 2)) = R) := by
          show _ = _
          rw [HQ2.out, if_pos (by simpa using hb)]; simp
        clear c2 hb HQ2 hsz
        go_wp2_with fail
        refine (C1.out _).mono ?_
        rintro e w1 ⟨rfl, rfl⟩
        go_wp2_with fail
        refine (C2.out _).mono ?_
        rintro e w1 ⟨rfl, rfl⟩
        go_wp2_with fail
        go_roundg g'
        case measure => omega
        case rel => exact ⟨n + k + 2, o ++ s.extract n (n + k) ++ ⟨#[m]⟩, by go_num, rfl, by omega, by omega, by rw [ByteArray.size_append]; have := HOS.out; show _ + 1 ≤ _; omega, hbw, HE⟩
      | false =>
        rw [hb] at c2
        have C2 := Lib.hid c2
        have HE : Hid (quotedV s.size R = .tuple #[.int .i64 ((n + k + 1 : Nat) : Int), .string (o ++ s.extract n (n + k))]) := by
          show _ = _
          rw [HQ2.out, if_neg (by simpa using hb)]
          unfold quotedV
          dsimp only
          rw [List.length_drop, hsz]
          have e1 : s.size - (s.size - (n + k + 1)) = n + k + 1 := by omega
          have e2 : (⟨(o.data.toList ++ (s.extract n (n + k)).data.toList).toArray⟩ : ByteArray) = o ++ s.extract n (n + k) := by
            apply ByteArray.ext; rw [← Array.toList_inj]; simp
          rw [e1, e2]
        clear c2 hb HQ2 hsz
        go_wp2_with fail
        refine (C1.out _).mono ?_
        rintro e w1 ⟨rfl, rfl⟩
        go_wp2_with fail
        refine (C2.out _).mono ?_
        rintro e w1 ⟨rfl, rfl⟩
        go_wp2_with fail
        try rw [Exit.noGoto_ret]
        go_ret2
        exact ⟨by rw [HE.out]; rfl, hbw⟩
    · have h' : (s.data.toList.drop n).contains m = false := by simpa using h
      have C1 := Lib.hid (fun w => index_mark (s.extract n s.size) m w (-1) (by rw [hrl, h']; rfl))
      have HE : Hid (R = none) := by show _ = _; rw [← HQ.out, quotedM_no _ _ _ h']
      clear h h' hrl HQ
      go_wp2_with fail
      refine (C1.out _).mono ?_
      rintro e w1 ⟨rfl, rfl⟩
      go_wp2_with fail
      try rw [Exit.noGoto_ret]
      go_ret2
      exact ⟨by rw [HE.out]; rfl, hbw⟩
end Go.Proofs.YtegjainidiaeaaaGreatDoor
