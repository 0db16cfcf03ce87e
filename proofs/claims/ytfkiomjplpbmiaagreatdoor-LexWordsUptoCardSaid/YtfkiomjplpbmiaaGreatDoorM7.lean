/- What the document's Letters, Col, plain, letter and digit are: walked by hand. -/
import Derived.Test.YtfkiomjplpbmiaaGreatDoorM6
import Derived.Test.YtfkiomjplpbmiaaGreatDoorM4
import Derived.Laws.OwnMore
import Derived.Deep.QuietTactic
import Derived.BigQuiet
import Derived.Deep.DeepCutAuto
import Derived.BigRegion
import Derived.Test.YtfkiomjplpbmiaaGreatDoorM1
import Derived.Deep.RegionHeld3
import Derived.Test.YtfkiomjplpbmiaaGreatDoorLqM
namespace Go.Proofs.YtfkiomjplpbmiaaGreatDoor
open Go.RowKit Go.Lib

set_option maxRecDepth 100000 in
set_option maxHeartbeats 8000000 in
theorem refDigit_same (b : UInt8) (w : World) : Calls Tryz.prog 230 #[.int .u8 b.toNat] w (fun e w' => e = .returned (.bool (Pl.digit b)) ∧ w' = w) := by
  obtain ⟨r, hr⟩ : ∃ r, Pl.digit b = r := ⟨_, rfl⟩
  have HR := Lib.hid hr
  have hi : (48 ≤ b.toNat ∧ b.toNat ≤ 57) ↔ r = true := by
    rw [← hr]; unfold Pl.digit
    simp only [Bool.and_eq_true, decide_eq_true_eq, UInt8.le_iff_toNat_le]
    exact Iff.rfl
  rw [hr]
  have HI := Lib.hid hi
  have hlt := b.toNat_lt
  clear hr hi
  obtain ⟨n, hn⟩ : ∃ n, b.toNat = n := ⟨_, rfl⟩
  rw [hn] at HI hlt ⊢
  clear hn HR
  go_enter Tryz.func230, Tryz.ntmps230
  go_wp2_with fail
  all_goals go_ret
  all_goals
    refine ⟨?_, rfl⟩
    have h := HI.out
    cases r <;> simp at h ⊢ <;> omega

set_option maxRecDepth 100000 in
set_option maxHeartbeats 8000000 in
theorem refLetter_same (b : UInt8) (w : World) : Calls Tryz.prog 246 #[.int .u8 b.toNat] w (fun e w' => e = .returned (.bool (Pl.letter b)) ∧ w' = w) := by
  obtain ⟨r, hr⟩ : ∃ r, Pl.letter b = r := ⟨_, rfl⟩
  have hi : ((97 ≤ b.toNat ∧ b.toNat ≤ 122) ∨ (65 ≤ b.toNat ∧ b.toNat ≤ 90) ∨ b.toNat = 95) ↔ r = true := by
    rw [← hr]; unfold Pl.letter Pl.capital
    simp only [Bool.and_eq_true, Bool.or_eq_true, decide_eq_true_eq, UInt8.le_iff_toNat_le, ← UInt8.toNat_inj, or_assoc]
    exact Iff.rfl
  rw [hr]
  have HI := Lib.hid hi
  have hlt := b.toNat_lt
  clear hr hi
  obtain ⟨n, hn⟩ : ∃ n, b.toNat = n := ⟨_, rfl⟩
  rw [hn] at HI hlt ⊢
  clear hn
  go_enter Tryz.func246, Tryz.ntmps246
  go_wp2_with fail
  all_goals go_ret
  all_goals
    refine ⟨?_, rfl⟩
    have h := HI.out
    cases r <;> simp at h ⊢ <;> omega

theorem letters_cases (c : Int) : (c < 1 ∧ Pl.letters c = []) ∨ (64 < c ∧ Pl.letters c = []) ∨ (1 ≤ c ∧ c ≤ 26 ∧ Pl.letters c = [(65 + c - 1).toNat.toUInt8]) ∨
    (27 ≤ c ∧ c ≤ 64 ∧ Pl.letters c = [(65 + (c - 27) / 26).toNat.toUInt8, (65 + (c - 27) % 26).toNat.toUInt8]) := by
  by_cases h1 : c < 1
  · left; exact ⟨h1, by unfold Pl.letters; rw [if_pos (Or.inl h1)]⟩
  · by_cases h2 : 64 < c
    · right; left; exact ⟨h2, by unfold Pl.letters; rw [if_pos (Or.inr h2)]⟩
    · right; right
      have h : ∀ i : Fin 64, Pl.letters ((i.val + 1 : Nat) : Int) = if i.val + 1 ≤ 26 then [(65 + ((i.val + 1 : Nat) : Int) - 1).toNat.toUInt8] else [(65 + (((i.val + 1 : Nat) : Int) - 27) / 26).toNat.toUInt8, (65 + (((i.val + 1 : Nat) : Int) - 27) % 26).toNat.toUInt8] := by decide +kernel
      have k := h ⟨c.toNat - 1, by omega⟩
      have e : ((c.toNat - 1 + 1 : Nat) : Int) = c := by omega
      simp only [e] at k
      by_cases h3 : c ≤ 26
      · left; rw [if_pos (by omega)] at k; exact ⟨by omega, h3, k⟩
      · right; rw [if_neg (by omega)] at k; exact ⟨by omega, by omega, k⟩

theorem bytesV_of' (x : Int) (h0 : 0 ≤ x) (h1 : x < 256) : Value.int .u8 ((x.toNat.toUInt8).toNat : Int) = .int .u8 x := by
  have : x.toNat.toUInt8.toNat = x.toNat % 256 := by simp
  rw [this, show ((x.toNat % 256 : Nat) : Int) = x by omega]

set_option maxRecDepth 100000 in
set_option maxHeartbeats 8000000 in
theorem refLetters_any (c : Int) (w : World) : Calls Tryz.prog 247 #[.int .i64 c] w (Q (.string ⟨(Pl.letters c).toArray⟩) w) := by
  have hl := letters_cases c
  obtain ⟨L, hL⟩ : ∃ L, Pl.letters c = L := ⟨_, rfl⟩
  rw [hL] at hl ⊢
  clear hL
  have HB0 := Lib.hid (Below.refl w.heap.size w)
  rcases hl with ⟨h, rfl⟩ | ⟨h, rfl⟩ | ⟨h1, h2, rfl⟩ | ⟨h1, h2, rfl⟩
  · have d1 : decide (c < 1) = true := decide_eq_true h
    go_enter Tryz.func247, Tryz.ntmps247
    go_wp2_with fail
    go_ret
    exact ⟨rfl, HB0.out⟩
  · have d1 : decide (c < 1) = false := decide_eq_false (by omega)
    have d2 : decide (64 < c) = true := decide_eq_true h
    go_enter Tryz.func247, Tryz.ntmps247
    go_wp2_with fail
    go_ret
    exact ⟨rfl, HB0.out⟩
  · have d1 : decide (c < 1) = false := decide_eq_false (by omega)
    have d2 : decide (64 < c) = false := decide_eq_false (by omega)
    have d3 : decide (c ≤ 26) = true := decide_eq_true h2
    have ho := World.ownsRow_lit (base := w.heap.size) (e := 5) (size := 1) w #[.int .u8 (65 + c - 1)] 1 (Nat.le_refl _) (by simp only [maxLen]; omega) rfl
    have hcv := own_str (l := [(65 + c - 1).toNat.toUInt8]) (P := Tryz.prog) Tryz.underlying76 Tryz.underlying5 Tryz.underlying9 (by unfold bytesV; simp only [List.map_cons, List.map_nil]; rw [bytesV_of' _ (by omega) (by omega)]; exact ho)
    obtain ⟨S, hS⟩ : ∃ S : ByteArray, (⟨([(65 + c - 1).toNat.toUInt8] : List UInt8).toArray⟩ : ByteArray) = S := ⟨_, rfl⟩
    rw [hS] at hcv ⊢
    clear ho hS
    go_enter Tryz.func247, Tryz.ntmps247
    go_wp2_with fail
    go_ret
    exact ⟨rfl, HB0.out.alloc HB0.out.size _⟩
  · have d1 : decide (c < 1) = false := decide_eq_false (by omega)
    have d2 : decide (64 < c) = false := decide_eq_false (by omega)
    have d3 : decide (c ≤ 26) = false := decide_eq_false (by omega)
    have ho := World.ownsRow_lit (base := w.heap.size) (e := 5) (size := 1) w #[.int .u8 (65 + (c - 27) / 26), .int .u8 (65 + (c - 27) % 26)] 2 (Nat.le_refl _) (by simp only [maxLen]; omega) rfl
    have hcv := own_str (l := [(65 + (c - 27) / 26).toNat.toUInt8, (65 + (c - 27) % 26).toNat.toUInt8]) (P := Tryz.prog) Tryz.underlying76 Tryz.underlying5 Tryz.underlying9 (by unfold bytesV; simp only [List.map_cons, List.map_nil]; rw [bytesV_of' _ (by omega) (by omega), bytesV_of' _ (by omega) (by omega)]; exact ho)
    obtain ⟨S, hS⟩ : ∃ S : ByteArray, (⟨([(65 + (c - 27) / 26).toNat.toUInt8, (65 + (c - 27) % 26).toNat.toUInt8] : List UInt8).toArray⟩ : ByteArray) = S := ⟨_, rfl⟩
    rw [hS] at hcv ⊢
    clear ho hS
    go_enter Tryz.func247, Tryz.ntmps247
    go_wp2_with fail
    go_ret
    exact ⟨rfl, HB0.out.alloc HB0.out.size _⟩

set_option maxRecDepth 100000 in
set_option maxHeartbeats 8000000 in
theorem refCol_any (s : ByteArray) (w : World) : Calls Tryz.prog 231 #[.string s] w (Q (.tuple #[.int .i64 (Pl.col s.data.toList).1, .bool (Pl.col s.data.toList).2]) w) := by
  have hne : (Pl.col s.data.toList).2 = true → s.data.toList.isEmpty = false := by
    intro h
    cases hl : s.data.toList with
    | nil => rw [hl] at h; cases h
    | cons _ _ => rfl
  have hno : (Pl.col s.data.toList).2 = false → (Pl.col s.data.toList).1 = 0 := by
    have hc : Pl.col s.data.toList = if s.data.toList.isEmpty || decide (3 < s.data.toList.length) || !s.data.toList.all Pl.capital || decide (64 < Pl.colNum s.data.toList) then (0, false) else ((Pl.colNum s.data.toList : Int), true) := rfl
    rw [hc]
    split
    · intro _; rfl
    · intro h; cases h
  have hyes : ∀ c : Int, 1 ≤ c → c ≤ 64 → Pl.letters c = s.data.toList → Pl.col s.data.toList = (c, true) := fun c h1 h2 h => by rw [← h]; exact (letters_facts h1 h2).1
  have hback : (Pl.col s.data.toList).2 = true → Pl.letters (Pl.col s.data.toList).1 = s.data.toList ∧ 1 ≤ (Pl.col s.data.toList).1 ∧ (Pl.col s.data.toList).1 ≤ 64 := fun h => letters_col (hne h) h
  obtain ⟨R, hR⟩ : ∃ R, Pl.col s.data.toList = R := ⟨_, rfl⟩
  rw [hR] at hno hyes hback ⊢
  clear hR hne
  have HNO := Lib.hid hno
  have HYES := Lib.hid hyes
  have HBACK := Lib.hid hback
  clear hno hyes hback
  obtain ⟨V, hV⟩ : ∃ V, (Value.tuple #[.int .i64 R.1, .bool R.2]) = V := ⟨_, rfl⟩
  rw [hV]
  have HV := Lib.hid hV
  clear hV
  go_enter Tryz.func231, Tryz.ntmps231
  go_wp2_with fail
  go_loopg [4] 64 (fun gf v4 wx => ∃ k : Nat, v4 = .int .i64 (k : Int) ∧ 1 ≤ k ∧ k + gf = 65 ∧ Hid (Below w.heap.size w wx) ∧ Hid (R.2 = true → (k : Int) ≤ R.1))
  case atStart => exact ⟨1, rfl, Nat.le_refl _, rfl, Below.refl _ _, fun h => (HBACK.out h).2.1⟩
  case round =>
    obtain ⟨k, rfl, hk1, hkg, HB, HK⟩ := hrel
    by_cases hk : k ≤ 64
    · have dk : decide ((k : Int) ≤ 64) = true := decide_eq_true (by omega)
      obtain ⟨g', rfl⟩ : ∃ g', gk = g' + 1 := ⟨gk - 1, by omega⟩
      have C1 := Lib.hid (fun w => refLetters_any (k : Int) w)
      obtain ⟨S, hS⟩ : ∃ S : ByteArray, (⟨(Pl.letters (k : Int)).toArray⟩ : ByteArray) = S := ⟨_, rfl⟩
      have hes : S.toList = Pl.letters (k : Int) := by rw [← hS, Lib.toList_data]
      have hst : s.toList = s.data.toList := Lib.toList_data s
      rw [hS] at C1
      clear hS
      cases hb : (S.toList == s.toList) with
      | true =>
        have hq : V = .tuple #[.int .i64 (k : Int), .bool true] := by
          have e : Pl.letters (k : Int) = s.data.toList := by rw [← hes, ← hst]; simpa using hb
          rw [← HV.out, HYES.out (k : Int) (by omega) (by omega) e]
        have HQ := Lib.hid hq
        clear hq hes hst HV
        go_wp2_with fail
        refine (C1.out _).mono ?_
        rintro e w1 ⟨rfl, hb1⟩
        replace HB := Lib.hid (bt HB.out hb1)
        clear hb1 C1
        go_wp2_with fail
        go_ret2
        exact ⟨by rw [HQ.out]; rfl, HB.out⟩
      | false =>
        have HK2 : Hid (R.2 = true → ((k + 1 : Nat) : Int) ≤ R.1) := fun h => by
          have h2 := HK.out h
          have h3 := (HBACK.out h).1
          have : (k : Int) ≠ R.1 := by
            intro e
            rw [← e, ← hst, ← hes] at h3
            rw [h3, beq_self_eq_true] at hb
            cases hb
          omega
        clear hes hst HK
        go_wp2_with fail
        refine (C1.out _).mono ?_
        rintro e w1 ⟨rfl, hb1⟩
        replace HB := Lib.hid (bt HB.out hb1)
        clear hb1 C1
        go_wp2_with fail
        go_roundg g'
        case measure => omega
        case rel => exact ⟨k + 1, by go_num, by omega, by omega, HB, HK2⟩
    · have dk : decide ((k : Int) ≤ 64) = false := decide_eq_false (by omega)
      have hq : V = .tuple #[.int .i64 0, .bool false] := by
        rw [← HV.out]
        obtain ⟨a, b⟩ := R
        cases b with
        | true => have h1 := HK.out rfl; have h2 := (HBACK.out rfl).2.2; simp only at h1 h2; omega
        | false => have h1 := HNO.out rfl; simp only at h1; rw [h1]
      have HQ := Lib.hid hq
      clear hq HK HV
      go_wp2_with fail
      go_ret2
      exact ⟨by rw [HQ.out]; rfl, HB.out⟩

set_option maxRecDepth 100000 in
set_option maxHeartbeats 8000000 in
theorem refPlain_drew (s : ByteArray) (w : World) (hs : s.size ≤ 4294967280) : Calls Tryz.prog 229 #[.string s] w (fun e w' => e = .returned (.bool (Pl.wordly s.data.toList)) ∧ ∃ m, w' = w.drewN m) := by
  obtain ⟨R, hR⟩ : ∃ R, Pl.wordly s.data.toList = R := ⟨_, rfl⟩
  rw [hR]
  have HR := Lib.hid hR
  clear hR
  have hsz : s.data.toList.length = s.size := rfl
  by_cases h0 : 0 < s.size
  · have d0 : ((s.size : Int) == 0) = false := by rw [beq_eq_false_iff_ne]; omega
    have CL := fun w => refLetter_same (s[0]'h0) w
    have hw : Pl.wordly s.data.toList = (Pl.letter (s[0]'h0) && (s.data.toList.drop 1).all fun c => Pl.letter c || Pl.digit c) := by
      have h0' : 0 < s.data.toList.length := h0
      have e : s.data.toList = s[0]'h0 :: s.data.toList.drop 1 := by
        have := List.drop_eq_getElem_cons h0'
        rw [List.drop_zero] at this
        exact this
      rw [e]; rfl
    have hr := HR.out
    rw [hw] at hr
    clear HR hw
    cases hl0 : Pl.letter (s[0]'h0) with
    | false =>
      rw [hl0] at CL hr
      rw [← hr]
      have HC := Lib.hid CL
      clear CL hr hl0 hsz
      go_enter Tryz.func229, Tryz.ntmps229
      go_wp2_with fail
      refine (HC.out _).mono ?_
      rintro e w1 ⟨rfl, rfl⟩
      go_wp2_with fail
      go_ret
      exact ⟨rfl, 0, rfl⟩
    | true =>
      rw [hl0, Bool.true_and] at hr
      rw [hl0] at CL
      have HC := Lib.hid CL
      have HR := Lib.hid hr
      clear CL hr hl0
      go_enter Tryz.func229, Tryz.ntmps229
      go_wp2_with fail
      refine (HC.out _).mono ?_
      rintro e w1 ⟨rfl, rfl⟩
      go_wp2_with fail
      go_loopg [3] s.size (fun gf v3 wx => ∃ k : Nat, v3 = .int .i64 (k : Int) ∧ 1 ≤ k ∧ k ≤ s.size ∧ s.size ≤ k + gf ∧ wx = w1 ∧ Hid (((s.data.toList.drop k).all fun c => Pl.letter c || Pl.digit c) = R))
      case atStart => exact ⟨1, rfl, Nat.le_refl _, h0, by omega, rfl, HR.out⟩
      case round =>
        obtain ⟨k, rfl, hk1, hks, hkg, rfl, HK⟩ := hrel
        by_cases hlt : k < s.size
        · have hl : k < s.data.toList.length := hlt
          have hst : s.data.toList.drop k = s[k]'hlt :: s.data.toList.drop (k + 1) := List.drop_eq_getElem_cons hl
          have hq := HK.out
          rw [hst, List.all_cons] at hq
          obtain ⟨g', rfl⟩ : ∃ g', gk = g' + 1 := ⟨gk - 1, by omega⟩
          have CL := fun w => refLetter_same (s[k]'hlt) w
          have CD := fun w => refDigit_same (s[k]'hlt) w
          clear hst HK hl HR HC
          cases h1 : Pl.letter (s[k]'hlt) with
          | true =>
            rw [h1] at hq CL
            rw [Bool.true_or, Bool.true_and] at hq
            have HQ := Lib.hid hq
            have HL := Lib.hid CL
            clear hq CL CD h1
            go_wp2_with fail
            refine (HL.out _).mono ?_
            rintro e w2 ⟨rfl, rfl⟩
            go_wp2_with fail
            go_roundg g'
            case measure => omega
            case rel => exact ⟨k + 1, by go_num, by omega, by omega, by omega, rfl, HQ⟩
          | false =>
            cases h2 : Pl.digit (s[k]'hlt) with
            | true =>
              rw [h1, h2] at hq
              rw [h1] at CL
              rw [h2] at CD
              rw [Bool.false_or, Bool.true_and] at hq
              have HQ := Lib.hid hq
              have HL := Lib.hid CL
              have HD := Lib.hid CD
              clear hq CL CD h1 h2
              go_wp2_with fail
              refine (HL.out _).mono ?_
              rintro e w2 ⟨rfl, rfl⟩
              go_wp2_with fail
              refine (HD.out _).mono ?_
              rintro e w2 ⟨rfl, rfl⟩
              go_wp2_with fail
              go_roundg g'
              case measure => omega
              case rel => exact ⟨k + 1, by go_num, by omega, by omega, by omega, rfl, HQ⟩
            | false =>
              rw [h1, h2] at hq
              rw [h1] at CL
              rw [h2] at CD
              rw [Bool.false_or, Bool.false_and] at hq
              have HQ := Lib.hid hq
              have HL := Lib.hid CL
              have HD := Lib.hid CD
              clear hq CL CD h1 h2
              go_wp2_with fail
              refine (HL.out _).mono ?_
              rintro e w2 ⟨rfl, rfl⟩
              go_wp2_with fail
              refine (HD.out _).mono ?_
              rintro e w2 ⟨rfl, rfl⟩
              go_wp2_with fail
              go_ret
              exact ⟨by rw [← HQ.out]; rfl, 0, rfl⟩
        · have hr : R = true := by
            rw [← HK.out, List.drop_eq_nil_of_le (by omega)]; rfl
          have HQ := Lib.hid hr
          clear hr HK HR HC
          go_wp2_with fail
          go_ret
          exact ⟨by rw [HQ.out]; rfl, 0, rfl⟩
  · have d0 : ((s.size : Int) == 0) = true := by rw [beq_iff_eq]; omega
    have hr : R = false := by
      rw [← HR.out, show s.data.toList = [] from List.eq_nil_of_length_eq_zero (by omega)]; rfl
    rw [hr]
    clear hr HR
    go_enter Tryz.func229, Tryz.ntmps229
    go_wp2_with fail
    go_ret
    exact ⟨rfl, 0, rfl⟩

theorem refPlain_any (s : ByteArray) (w : World) (hs : s.size ≤ 4294967280) : Calls Tryz.prog 229 #[.string s] w (Q (.bool (Pl.wordly s.data.toList)) w) :=
  (refPlain_drew s w hs).mono fun _ _ ⟨he, h⟩ => ⟨he, by
    obtain ⟨n, hn⟩ := h
    rw [hn]; exact below_drewN (Below.refl _ _) n⟩
theorem refDigit_any (b : UInt8) (w : World) : Calls Tryz.prog 230 #[.int .u8 b.toNat] w (Q (.bool (Pl.digit b)) w) :=
  (refDigit_same b w).mono fun _ _ ⟨he, h⟩ => ⟨he, by rw [h]; exact Below.refl _ _⟩
end Go.Proofs.YtfkiomjplpbmiaaGreatDoor

/- The document's cell: a reference without a sheet. -/
namespace Go.Proofs.YtfkiomjplpbmiaaGreatDoor
open Go.RowKit Go.Lib

/-- Both references of cell in memory: what it will hand back, and what it fills. -/
structure CellMem (w wx : World) (c r : Int) (ac ar : Bool) : Prop where
  res : RefAt wx w.heap.size ⟨#[]⟩ 0 0 false false
  own : RefAt wx (w.heap.size + 1) ⟨#[]⟩ c r ac ar
  bel : Below w.heap.size w wx
theorem CellMem.below {w wx w' : World} {c r : Int} {ac ar : Bool} (h : CellMem w wx c r ac ar) (hb : Below wx.heap.size wx w') : CellMem w w' c r ac ar := ⟨h.res.below hb, h.own.below hb, bt h.bel hb⟩
theorem CellMem.col {w wx : World} {c r : Int} {ac ar : Bool} (h : CellMem w wx c r ac ar) (x : Int) : CellMem w (wx.setCell ⟨w.heap.size + 1, 1, none⟩ (.int .i64 x)) x r ac ar :=
  ⟨h.res.other _ _ (by show w.heap.size ≠ w.heap.size + 1; omega), h.own.set1 x, h.bel.setCell (p := ⟨w.heap.size + 1, 1, none⟩) (Nat.le_succ _) _⟩
theorem CellMem.row {w wx : World} {c r : Int} {ac ar : Bool} (h : CellMem w wx c r ac ar) (x : Int) : CellMem w (wx.setCell ⟨w.heap.size + 1, 2, none⟩ (.int .i64 x)) c x ac ar :=
  ⟨h.res.other _ _ (by show w.heap.size ≠ w.heap.size + 1; omega), h.own.set2 x, h.bel.setCell (p := ⟨w.heap.size + 1, 2, none⟩) (Nat.le_succ _) _⟩
theorem CellMem.fixCol {w wx : World} {c r : Int} {ac ar : Bool} (h : CellMem w wx c r ac ar) (x : Bool) : CellMem w (wx.setCell ⟨w.heap.size + 1, 3, none⟩ (.bool x)) c r x ar :=
  ⟨h.res.other _ _ (by show w.heap.size ≠ w.heap.size + 1; omega), h.own.set3 x, h.bel.setCell (p := ⟨w.heap.size + 1, 3, none⟩) (Nat.le_succ _) _⟩
theorem CellMem.fixRow {w wx : World} {c r : Int} {ac ar : Bool} (h : CellMem w wx c r ac ar) (x : Bool) : CellMem w (wx.setCell ⟨w.heap.size + 1, 4, none⟩ (.bool x)) c r ac x :=
  ⟨h.res.other _ _ (by show w.heap.size ≠ w.heap.size + 1; omega), h.own.set4 x, h.bel.setCell (p := ⟨w.heap.size + 1, 4, none⟩) (Nat.le_succ _) _⟩
theorem CellMem.drewN {w wx : World} {c r : Int} {ac ar : Bool} (h : CellMem w wx c r ac ar) (n : Nat) : CellMem w (wx.drewN n) c r ac ar := h.below (below_drewN (Below.refl _ _) n)

/-- A sign that may stand at k. -/
def DollarAt (s : ByteArray) (k : Nat) (b : Bool) : Prop := (b = true → ∃ h : k < s.size, (s[k]'h).toNat = 36) ∧ (b = false → ∀ h : k < s.size, (s[k]'h).toNat ≠ 36)
def EndsAt (p : UInt8 → Bool) (s : ByteArray) (i k : Nat) : Prop := i ≤ k ∧ k ≤ s.size ∧ (∀ j, (h : j < s.size) → i ≤ j → j < k → p (s[j]'h) = true) ∧ ∀ h : k < s.size, p (s[k]'h) = false
def BadIs (s : ByteArray) (n0 a1 n2 e : Nat) (bad : Bool) : Prop :=
  (a1 ≤ n0 → bad = true) ∧ (n0 + 3 < a1 → bad = true) ∧ (e ≤ n2 → bad = true) ∧ (n2 + 7 < e → bad = true) ∧ (∀ h : n2 < s.size, (s[n2]'h).toNat = 48 → bad = true) ∧ (e < s.size → bad = true) ∧
  (n0 < a1 → a1 ≤ n0 + 3 → n2 < e → e ≤ n2 + 7 → (∀ h : n2 < s.size, (s[n2]'h).toNat ≠ 48) → e = s.size → bad = false)
/-- The row: of the first seven digits. -/
def rowAt (l : List UInt8) (k : Nat) : Int := num ((l.take k).take 7)
theorem rowAt_low (l : List UInt8) (k : Nat) (hk : k < l.length) (h7 : k < 7) (hd : Pl.digit l[k] = true) : rowAt l (k + 1) = 10 * rowAt l k + ((l[k].toNat : Int) - 48) := by
  unfold rowAt
  have e1 : (l.take (k + 1)).take 7 = l.take k ++ [l[k]] := by
    rw [List.take_take, Nat.min_eq_right (by omega)]
    simp
  have e2 : (l.take k).take 7 = l.take k := by rw [List.take_take, Nat.min_eq_right (by omega)]
  rw [e1, e2, num_snoc]
  rw [digit_iff] at hd
  omega
theorem rowAt_high (l : List UInt8) (k : Nat) (h7 : 7 ≤ k) : rowAt l (k + 1) = rowAt l k := by
  unfold rowAt
  rw [List.take_take, List.take_take, Nat.min_eq_left (by omega), Nat.min_eq_left (by omega)]
theorem rowAt_le (l : List UInt8) (k : Nat) (h : (l.take k).all Pl.digit = true) : 0 ≤ rowAt l k ∧ rowAt l k ≤ 10000000 ∧ (k < 7 → rowAt l k ≤ 1000000) := by
  unfold rowAt
  have h7 : ((l.take k).take 7).all Pl.digit = true := by
    rw [List.all_eq_true] at h ⊢
    exact fun x hx => h x (List.mem_of_mem_take hx)
  have := num_lt _ h7
  have hl : ((l.take k).take 7).length ≤ 7 := List.length_take_le _ _
  have hp : 10 ^ ((l.take k).take 7).length ≤ 10 ^ 7 := Nat.pow_le_pow_right (by decide) hl
  have e7 : (10 : Nat) ^ 7 = 10000000 := by decide
  refine ⟨by omega, by omega, fun hk => ?_⟩
  have hl : ((l.take k).take 7).length ≤ 6 := by
    have := List.length_take_le 7 (l.take k)
    have := List.length_take_le k l
    have : ((l.take k).take 7).length ≤ (l.take k).length := List.length_take_le' _ _
    omega
  have hp : 10 ^ ((l.take k).take 7).length ≤ 10 ^ 6 := Nat.pow_le_pow_right (by decide) hl
  have e6 : (10 : Nat) ^ 6 = 1000000 := by decide
  omega

def cellRV (bad : Bool) (cc row : Int) (ac ar cis : Bool) : Value :=
  if bad then .tuple #[refV ⟨#[]⟩ 0 0 false false, .bool false, .bool false] else .tuple #[refV ⟨#[]⟩ cc row ac ar, .bool true, .bool (cis && decide (row ≤ 512))]

set_option maxRecDepth 100000 in
set_option maxHeartbeats 8000000 in
theorem refCell_core (s : ByteArray) (w : World) (hs : s.size ≤ 4294967280) (ac ar : Bool) (n0 a1 n2 e : Nat) (h0 : n0 = if ac then 1 else 0) (H0 : Hid (DollarAt s 0 ac)) (H1 : Hid (EndsAt Pl.capital s n0 a1)) (h2 : n2 = a1 + if ar then 1 else 0) (H2 : Hid (DollarAt s a1 ar)) (H3 : Hid (EndsAt Pl.digit s n2 e)) (lt : ByteArray) (HLT : Hid (lt = s.extract n0 a1)) (bad : Bool) (HBad : Hid (BadIs s n0 a1 n2 e bad)) (cc : Int) (cis : Bool)
    (C5 : Hid (∀ w, Calls Tryz.prog 231 #[.string lt] w (Q (.tuple #[.int .i64 cc, .bool cis]) w))) (V : Value)
    (HV : Hid (V = cellRV bad cc (rowAt (s.data.toList.drop n2) (e - n2)) ac ar cis)) :
    Calls Tryz.prog 195 #[.string s] w (Q V w) := by
  have HW := Lib.hid (CellMem.mk (W2_a ⟨#[]⟩ 0 0 false false ⟨#[]⟩ 0 0 false false w) (W2_b ⟨#[]⟩ 0 0 false false ⟨#[]⟩ 0 0 false false w) (W2_below ⟨#[]⟩ 0 0 false false ⟨#[]⟩ 0 0 false false w))
  unfold W2 at HW
  have E0 := Lib.hid h0
  have E2 := Lib.hid h2
  clear h0 h2
  go_enter Tryz.func195, Tryz.ntmps195
  go_upto_region 3 with (fail)
  obtain ⟨W, hW⟩ : ∃ W, (w.alloc (.cells #[.string ⟨#[]⟩, .int .i64 0, .int .i64 0, .bool false, .bool false] 32)).alloc (.cells #[.string ⟨#[]⟩, .int .i64 0, .int .i64 0, .bool false, .bool false] 32) = W := ⟨_, rfl⟩
  rw [hW] at HW ⊢
  clear hW
  go_cut [21] (fun v21 wx => v21 = .bool ac ∧ CellMem w wx 0 0 false false)
  case first =>
    by_cases hz : 0 < s.size
    · cases ac with
      | true =>
        obtain ⟨_, hd⟩ := H0.out.1 rfl
        have d1 : (((s[0]'hz).toNat : Int) == 36) = true := by rw [beq_iff_eq]; omega
        clear hd
        go_wp2_with fail
        go_meet
        exact ⟨rfl, HW.out⟩
      | false =>
        have hd := H0.out.2 rfl hz
        have d1 : (((s[0]'hz).toNat : Int) == 36) = false := by rw [beq_eq_false_iff_ne]; omega
        clear hd
        go_wp2_with fail
        go_meet
        exact ⟨rfl, HW.out⟩
    · have hac : ac = false := by
        cases ac with
        | true => exact absurd (H0.out.1 rfl).1 hz
        | false => rfl
      subst hac
      have dz : decide (0 < (s.size : Int)) = false := by rw [decide_eq_false_iff_not]; omega
      go_wp2_with fail
      go_meet
      exact ⟨rfl, HW.out⟩
  case rest =>
    obtain ⟨rfl, hM⟩ := hcut
    have HM := Lib.hid hM
    clear hM HW
    go_upto_if 21 with (fail)
    go_cut [6] (fun v6 wx => v6 = .int .i64 (n0 : Int) ∧ CellMem w wx 0 0 ac false)
    case first =>
      obtain ⟨p0, p1, p2, p3, p4, pf, pl⟩ := HM.out.own
      have e0 := E0.out
      cases ac with
      | true =>
        have e0' : n0 = 1 := e0
        clear e0
        go_wp2_with fail
        go_meet
        exact ⟨by rw [e0']; rfl, HM.out.fixCol true⟩
      | false =>
        have e0' : n0 = 0 := e0
        clear e0
        go_wp2_with fail
        go_meet
        exact ⟨by rw [e0']; rfl, HM.out⟩
    case rest =>
      obtain ⟨rfl, hM⟩ := hcut
      have HM := Lib.hid hM
      clear hM
      go_upto_block 0 with (fail)
      go_cut [6] (fun v6 wx => v6 = .int .i64 (a1 : Int) ∧ CellMem w wx 0 0 ac false)
      case first =>
        obtain ⟨f1, f2, f3, f4⟩ := H1.out
        have F3 := Lib.hid f3
        have F4 := Lib.hid f4
        clear f3 f4
        go_wp2_with fail
        go_loopg [6] s.size (fun gf v6 wx => ∃ k : Nat, n0 ≤ k ∧ k ≤ a1 ∧ a1 ≤ k + gf ∧ v6 = .int .i64 (k : Int) ∧ wc = wx)
        case atStart => exact ⟨n0, Nat.le_refl _, f1, by omega, rfl, rfl⟩
        case round =>
          obtain ⟨k, k1, k2, k3, rfl, rfl⟩ := hrel
          by_cases hlt : k < a1
          · obtain ⟨g', rfl⟩ : ∃ g', gk = g' + 1 := ⟨gk - 1, by omega⟩
            have hz : k < s.size := by omega
            have hcp := F3.out k hz k1 hlt
            rw [capital_iff] at hcp
            have d1 : decide (65 ≤ ((s[k]'hz).toNat : Int)) = true := by rw [decide_eq_true_eq]; omega
            have d2 : decide (((s[k]'hz).toNat : Int) ≤ 90) = true := by rw [decide_eq_true_eq]; omega
            clear hcp
            go_wp2_with fail
            go_roundg g'
            case measure => omega
            case rel => exact ⟨k + 1, by omega, by omega, by omega, by go_num, rfl⟩
          · obtain rfl : k = a1 := by omega
            by_cases hz : k < s.size
            · have hcp := F4.out hz
              by_cases c1 : 65 ≤ (s[k]'hz).toNat
              · have c2 : 90 < (s[k]'hz).toNat := by
                  rcases Nat.lt_or_ge 90 (s[k]'hz).toNat with h | h
                  · exact h
                  · rw [(capital_iff _).2 ⟨c1, h⟩] at hcp; cases hcp
                have d1 : decide (65 ≤ ((s[k]'hz).toNat : Int)) = true := by rw [decide_eq_true_eq]; omega
                have d2 : decide (((s[k]'hz).toNat : Int) ≤ 90) = false := by rw [decide_eq_false_iff_not]; omega
                clear hcp c1 c2
                go_wp2_with fail
                go_meet
                exact ⟨rfl, HM.out⟩
              · have d1 : decide (65 ≤ ((s[k]'hz).toNat : Int)) = false := by rw [decide_eq_false_iff_not]; omega
                clear hcp c1
                go_wp2_with fail
                go_meet
                exact ⟨rfl, HM.out⟩
            · have dk : decide (k < s.size) = false := by rw [decide_eq_false_iff_not]; exact hz
              go_wp2_with fail
              go_meet
              exact ⟨rfl, HM.out⟩
      case rest =>
        obtain ⟨rfl, hM⟩ := hcut
        have HM := Lib.hid hM
        clear hM
        obtain ⟨f1, f2, f3, f4⟩ := H1.out
        clear f3 f4
        go_upto_region 9 with (fail)
        go_cut [8] (fun v8 wx => v8 = .string lt ∧ wc = wx)
        case first =>
          go_wp2_with fail
          go_meet
          exact ⟨by rw [HLT.out], rfl⟩
        case rest =>
        obtain ⟨rfl, rfl⟩ := hcut
        go_upto_region 10 with (fail)
        go_cut [57] (fun v57 wx => v57 = .bool ar ∧ wc = wx)
        case first =>
          by_cases hz : a1 < s.size
          · cases ar with
            | true =>
              obtain ⟨_, hd⟩ := H2.out.1 rfl
              have d1 : (((s[a1]'hz).toNat : Int) == 36) = true := by rw [beq_iff_eq]; omega
              clear hd
              go_wp2_with fail
              go_meet
              exact ⟨rfl, rfl⟩
            | false =>
              have hd := H2.out.2 rfl hz
              have d1 : (((s[a1]'hz).toNat : Int) == 36) = false := by rw [beq_eq_false_iff_ne]; omega
              clear hd
              go_wp2_with fail
              go_meet
              exact ⟨rfl, rfl⟩
          · have har : ar = false := by
              cases ar with
              | true => exact absurd (H2.out.1 rfl).1 hz
              | false => rfl
            subst har
            have dz : decide (a1 < s.size) = false := by rw [decide_eq_false_iff_not]; exact hz
            go_wp2_with fail
            go_meet
            exact ⟨rfl, rfl⟩
        case rest =>
          obtain ⟨rfl, rfl⟩ := hcut
          go_upto_if 57 with (fail)
          go_cut [6] (fun v6 wx => v6 = .int .i64 (n2 : Int) ∧ CellMem w wx 0 0 ac ar)
          case first =>
            obtain ⟨p0, p1, p2, p3, p4, pf, pl⟩ := HM.out.own
            have e0 := E2.out
            cases ar with
            | true =>
              have e0' : n2 = a1 + 1 := e0
              have HE := Lib.hid e0'
              clear e0 e0'
              go_wp2_with fail
              go_meet
              exact ⟨by rw [HE.out]; rfl, HM.out.fixRow true⟩
            | false =>
              have e0' : n2 = a1 := e0
              have HE := Lib.hid e0'
              clear e0 e0'
              go_wp2_with fail
              go_meet
              exact ⟨by rw [HE.out], HM.out⟩
          case rest =>
            obtain ⟨rfl, hM⟩ := hcut
            have HM2 := Lib.hid hM
            clear hM HM
            go_upto_block 2 with (fail)
            go_cut [6] (fun v6 wx => v6 = .int .i64 (e : Int) ∧ CellMem w wx 0 (rowAt (s.data.toList.drop n2) (e - n2)) ac ar)
            case first =>
              obtain ⟨g1, g2, g3, g4⟩ := H3.out
              have G3 := Lib.hid g3
              have G4 := Lib.hid g4
              clear g3 g4
              go_wp2_with fail
              go_loopg [6] s.size (fun gf v6 wx => ∃ k : Nat, n2 ≤ k ∧ k ≤ e ∧ e ≤ k + gf ∧ v6 = .int .i64 (k : Int) ∧ Hid (CellMem w wx 0 (rowAt (s.data.toList.drop n2) (k - n2)) ac ar))
              case atStart => exact ⟨n2, Nat.le_refl _, g1, by omega, rfl, by show CellMem _ _ _ _ _ _; rw [Nat.sub_self]; exact HM2.out⟩
              case round =>
                obtain ⟨k, k1, k2, k3, rfl, HK⟩ := hrel
                by_cases hlt : k < e
                · obtain ⟨g', rfl⟩ : ∃ g', gk = g' + 1 := ⟨gk - 1, by omega⟩
                  have hz : k < s.size := by omega
                  have hdg := G3.out k hz k1 hlt
                  have cd := fun w => refDigit_any (s[k]'hz) w
                  rw [hdg] at cd
                  have CD := Lib.hid cd
                  clear cd
                  have hkl : k - n2 < (s.data.toList.drop n2).length := by rw [List.length_drop]; show k - n2 < s.size - n2; omega
                  have hel : (s.data.toList.drop n2)[k - n2]'hkl = s[k]'hz := by
                    rw [List.getElem_drop]
                    have : n2 + (k - n2) = k := by omega
                    simp only [this]; rfl
                  have hall : ((s.data.toList.drop n2).take (k - n2)).all Pl.digit = true := by
                    rw [List.all_eq_true]
                    intro x hx
                    obtain ⟨j, hj, rfl⟩ := List.getElem_of_mem hx
                    rw [List.length_take, List.length_drop] at hj
                    have hj2 : n2 + j < s.size := by
                      have : s.data.toList.length = s.size := rfl
                      omega
                    have := G3.out (n2 + j) hj2 (by omega) (by omega)
                    rw [List.getElem_take, List.getElem_drop]
                    exact this
                  obtain ⟨b1, b2, b3⟩ := rowAt_le _ _ hall
                  by_cases h7 : k - n2 < 7
                  · have hrow := rowAt_low _ _ hkl h7 (by rw [hel]; exact hdg)
                    rw [hel] at hrow
                    have b4 := b3 h7
                    clear b3
                    have hsub : k + 1 - n2 = k - n2 + 1 := by omega
                    rw [← hsub] at hrow
                    have HRow := Lib.hid hrow
                    have HK' := Lib.hid (rfl : rowAt (s.data.toList.drop n2) (k - n2) = _)
                    clear hrow hsub hall hel
                    generalize rowAt (s.data.toList.drop n2) (k - n2) = r0 at *
                    rw [digit_iff] at hdg
                    obtain ⟨t1, t2⟩ := hdg
                    have d7 : decide ((k : Int) - (n2 : Int) < 7) = true := by rw [decide_eq_true_eq]; omega
                    go_wp2_with fail
                    refine (CD.out _).mono ?_
                    rintro e' w1 ⟨rfl, hb⟩
                    have HK1 := Lib.hid (HK.out.below hb)
                    clear hb CD
                    obtain ⟨p0, p1, p2, p3, p4, pf, pl⟩ := HK1.out.own
                    go_wp2_with fail
                    go_region
                    go_wp2
                    go_roundg g'
                    case measure => omega
                    case rel =>
                      refine ⟨k + 1, by omega, by omega, by omega, by go_num, ?_⟩
                      show CellMem _ _ _ _ _ _
                      rw [HRow.out, show 10 * r0 + (((s[k]'hz).toNat : Int) - 48) = r0 * 10 + (((s[k]'hz).toNat : Int) - 48) by omega]
                      exact (HK1.out.row (r0 * 10 + (((s[k]'hz).toNat : Int) - 48))).drewN 1
                  · have hrow := rowAt_high (s.data.toList.drop n2) (k - n2) (by omega)
                    have hsub : k + 1 - n2 = k - n2 + 1 := by omega
                    rw [← hsub] at hrow
                    have HRow := Lib.hid hrow
                    clear hrow hsub hall hel b1 b2 b3 hdg
                    have d7 : decide ((k : Int) - (n2 : Int) < 7) = false := by rw [decide_eq_false_iff_not]; omega
                    go_wp2_with fail
                    refine (CD.out _).mono ?_
                    rintro e' w1 ⟨rfl, hb⟩
                    have HK1 := Lib.hid (HK.out.below hb)
                    clear hb CD
                    go_wp2_with fail
                    go_roundg g'
                    case measure => omega
                    case rel =>
                      refine ⟨k + 1, by omega, by omega, by omega, by go_num, ?_⟩
                      show CellMem _ _ _ _ _ _
                      rw [HRow.out]
                      exact HK1.out
                · obtain rfl : k = e := by omega
                  by_cases hz : k < s.size
                  · have cd := fun w => refDigit_any (s[k]'hz) w
                    rw [G4.out hz] at cd
                    have CD := Lib.hid cd
                    clear cd
                    go_wp2_with fail
                    refine (CD.out _).mono ?_
                    rintro e' w1 ⟨rfl, hb⟩
                    have HK1 := Lib.hid (HK.out.below hb)
                    clear hb CD
                    go_wp2_with fail
                    go_meet
                    exact ⟨rfl, HK1.out⟩
                  · have dk : decide (k < s.size) = false := by rw [decide_eq_false_iff_not]; exact hz
                    go_wp2_with fail
                    go_meet
                    exact ⟨rfl, HK.out⟩
            case rest =>
              obtain ⟨rfl, hM⟩ := hcut
              have HM3 := Lib.hid hM
              clear hM HM2
              obtain ⟨g1, g2, g3, g4⟩ := H3.out
              clear g3 g4
              have hll : lt.size = a1 - n0 := by rw [HLT.out, ByteArray.size_extract]; omega
              obtain ⟨x1, x2, x3, x4, x5, x6, x7⟩ := HBad.out
              have X1 := Lib.hid x1
              have X2 := Lib.hid x2
              have X3 := Lib.hid x3
              have X4 := Lib.hid x4
              have X5 := Lib.hid x5
              have X6 := Lib.hid x6
              have X7 := Lib.hid x7
              clear x1 x2 x3 x4 x5 x6 x7
              go_upto_region 19 with (fail)
              go_cut [118] (fun v118 wx => v118 = .bool bad ∧ wc = wx)
              case first =>
                by_cases c1 : a1 ≤ n0
                · obtain rfl := X1.out c1
                  have d1 : decide ((lt.size : Int) < 1) = true := by rw [decide_eq_true_eq]; omega
                  clear hll c1
                  go_wp2_with fail
                  go_meet
                  exact ⟨rfl, rfl⟩
                have d1 : decide ((lt.size : Int) < 1) = false := by rw [decide_eq_false_iff_not]; omega
                by_cases c2 : n0 + 3 < a1
                · obtain rfl := X2.out c2
                  have d2 : decide (3 < (lt.size : Int)) = true := by rw [decide_eq_true_eq]; omega
                  clear hll c1 c2
                  go_wp2_with fail
                  go_meet
                  exact ⟨rfl, rfl⟩
                have d2 : decide (3 < (lt.size : Int)) = false := by rw [decide_eq_false_iff_not]; omega
                by_cases c3 : e ≤ n2
                · obtain rfl := X3.out c3
                  have d3 : decide ((e : Int) - (n2 : Int) < 1) = true := by rw [decide_eq_true_eq]; omega
                  clear hll c1 c2 c3
                  go_wp2_with fail
                  go_meet
                  exact ⟨rfl, rfl⟩
                have d3 : decide ((e : Int) - (n2 : Int) < 1) = false := by rw [decide_eq_false_iff_not]; omega
                by_cases c4 : n2 + 7 < e
                · obtain rfl := X4.out c4
                  have d4 : decide (7 < (e : Int) - (n2 : Int)) = true := by rw [decide_eq_true_eq]; omega
                  clear hll c1 c2 c3 c4
                  go_wp2_with fail
                  go_meet
                  exact ⟨rfl, rfl⟩
                have d4 : decide (7 < (e : Int) - (n2 : Int)) = false := by rw [decide_eq_false_iff_not]; omega
                have hz : n2 < s.size := by omega
                by_cases c5 : (s[n2]'hz).toNat = 48
                · obtain rfl := X5.out hz c5
                  have d5 : (((s[n2]'hz).toNat : Int) == 48) = true := by rw [beq_iff_eq]; omega
                  clear hll c1 c2 c3 c4 c5
                  go_wp2_with fail
                  go_meet
                  exact ⟨rfl, rfl⟩
                have d5 : (((s[n2]'hz).toNat : Int) == 48) = false := by rw [beq_eq_false_iff_ne]; omega
                by_cases c6 : e < s.size
                · obtain rfl := X6.out c6
                  have d6 : decide (e < s.size) = true := by rw [decide_eq_true_eq]; exact c6
                  clear hll c1 c2 c3 c4 c5
                  go_wp2_with fail
                  go_meet
                  exact ⟨rfl, rfl⟩
                · obtain rfl := X7.out (by omega) (by omega) (by omega) (by omega) (fun _ => c5) (by omega)
                  have d6 : decide (e < s.size) = false := by rw [decide_eq_false_iff_not]; exact c6
                  clear hll c1 c2 c3 c4 c5
                  go_wp2_with fail
                  go_meet
                  exact ⟨rfl, rfl⟩
              case rest =>
                obtain ⟨rfl, rfl⟩ := hcut
                clear hll X1 X2 X3 X4 X5 X6 X7
                generalize rowAt (s.data.toList.drop n2) (e - n2) = row at *
                cases bad with
                | true =>
                  have HV' : Hid (V = .tuple #[refV ⟨#[]⟩ 0 0 false false, .bool false, .bool false]) := HV.out
                  clear HV
                  obtain ⟨p0, p1, p2, p3, p4, pf, pl⟩ := HM3.out.res
                  go_wp2_with fail
                  obtain ⟨t0, t1, t2, t3, t4, _, _⟩ := HM3.out.res.set5 ⟨#[]⟩ 0 0 false false
                  rw [HV'.out]
                  exact bodyPost_ret (v := .tuple #[refV ⟨#[]⟩ 0 0 false false, .bool false, .bool false]) (by simp [results, Tryz.results195, go_sem, t0, t1, t2, t3, t4]) rfl ⟨rfl, below_set5 HM3.out.bel (Nat.le_refl _) _ _ _ _ _⟩
                | false =>
                  have HV' : Hid (V = .tuple #[refV ⟨#[]⟩ cc row ac ar, .bool true, .bool (cis && decide (row ≤ 512))]) := HV.out
                  clear HV
                  go_wp2_with fail
                  refine (C5.out _).mono ?_
                  rintro e' w1 ⟨rfl, hb⟩
                  have HM4 := Lib.hid (HM3.out.below hb)
                  clear hb HM3 C5
                  obtain ⟨p0, p1, p2, p3, p4, pf, pl⟩ := HM4.out.own
                  go_wp2_with fail
                  clear p0 p1 p2 p3 p4 pf pl
                  obtain ⟨W5, hW5⟩ : ∃ W5, w1.setCell ⟨w.heap.size + 1, 1, none⟩ (.int .i64 cc) = W5 := ⟨_, rfl⟩
                  have hm5 := HM4.out.col cc
                  rw [hW5] at hm5 ⊢
                  clear hW5
                  have HM5 := Lib.hid hm5
                  clear hm5 HM4
                  obtain ⟨p0, p1, p2, p3, p4, pf, pl⟩ := HM5.out.own
                  obtain ⟨q0, q1, q2, q3, q4, qf, ql⟩ := HM5.out.res
                  have hne : ¬ w.heap.size = w.heap.size + 1 := by omega
                  cases cis with
                  | false =>
                    go_region
                    go_wp2_with fail
                    obtain ⟨t0, t1, t2, t3, t4, _, _⟩ := (HM5.out.res.set5 ⟨#[]⟩ cc row ac ar).drew
                    rw [HV'.out]
                    exact bodyPost_ret (v := .tuple #[refV ⟨#[]⟩ cc row ac ar, .bool true, .bool false]) (by simp [results, Tryz.results195, go_sem, t0, t1, t2, t3, t4]) rfl ⟨rfl, Below.drew (below_set5 HM5.out.bel (Nat.le_refl _) _ _ _ _ _)⟩
                  | true =>
                    cases hr : decide (row ≤ 512) with
                    | true =>
                      rw [hr] at HV'
                      go_region
                      go_wp2_with fail
                      obtain ⟨t0, t1, t2, t3, t4, _, _⟩ := (HM5.out.res.set5 ⟨#[]⟩ cc row ac ar).drew
                      rw [HV'.out]
                      exact bodyPost_ret (v := .tuple #[refV ⟨#[]⟩ cc row ac ar, .bool true, .bool true]) (by simp [results, Tryz.results195, go_sem, t0, t1, t2, t3, t4]) rfl ⟨rfl, Below.drew (below_set5 HM5.out.bel (Nat.le_refl _) _ _ _ _ _)⟩
                    | false =>
                      rw [hr] at HV'
                      go_region
                      go_wp2_with fail
                      obtain ⟨t0, t1, t2, t3, t4, _, _⟩ := (HM5.out.res.set5 ⟨#[]⟩ cc row ac ar).drew
                      rw [HV'.out]
                      exact bodyPost_ret (v := .tuple #[refV ⟨#[]⟩ cc row ac ar, .bool true, .bool false]) (by simp [results, Tryz.results195, go_sem, t0, t1, t2, t3, t4]) rfl ⟨rfl, Below.drew (below_set5 HM5.out.bel (Nat.le_refl _) _ _ _ _ _)⟩
end Go.Proofs.YtfkiomjplpbmiaaGreatDoor

/- The document's answer, first part: SheetName, walked. -/
namespace Go.Proofs.YtfkiomjplpbmiaaGreatDoor
open Go.RowKit Go.Lib

abbrev T7 : ByteArray := ⟨#[58, 92, 47, 63, 42, 91, 93]⟩
def bad7 (b : UInt8) : Bool := b.toNat == 58 || b.toNat == 92 || b.toNat == 47 || b.toNat == 63 || b.toNat == 42 || b.toNat == 91 || b.toNat == 93
theorem bad_split (b : UInt8) : Pl.bad b = (decide (b.toNat < 32) || decide (126 < b.toNat) || bad7 b) := by
  have h : ∀ i : Fin 256, Pl.bad (UInt8.ofNat i.val) = (decide ((UInt8.ofNat i.val).toNat < 32) || decide (126 < (UInt8.ofNat i.val).toNat) || bad7 (UInt8.ofNat i.val)) := by decide +kernel
  have k := h ⟨b.toNat, b.toNat_lt⟩
  simpa using k
/-- Has one of the first k signs been met? -/
def met7 (b : UInt8) (k : Nat) : Bool := (T7.data.toList.take k).any fun c => b.toNat == c.toNat
theorem met7_all (b : UInt8) : met7 b 7 = bad7 b := by
  have h : ∀ i : Fin 256, met7 (UInt8.ofNat i.val) 7 = bad7 (UInt8.ofNat i.val) := by decide +kernel
  have k := h ⟨b.toNat, b.toNat_lt⟩
  simpa using k
theorem met7_succ (b : UInt8) (k : Nat) (h : k < 7) : met7 b (k + 1) = (met7 b k || b.toNat == (T7[k]'h).toNat) := by
  unfold met7; rw [take_snoc T7 k h, List.any_append]; simp

def okTill (s : ByteArray) (k : Nat) : Prop := ∀ j, (h : j < s.size) → j < k → Pl.bad s[j] = false
theorem okTill_all (s : ByteArray) (h : okTill s s.size) : s.data.toList.any Pl.bad = false := by
  rw [List.any_eq_false]
  intro b hb
  obtain ⟨j, hj, rfl⟩ := List.getElem_of_mem hb
  have := h j hj hj
  rw [show s.data.toList[j] = s[j]'hj from rfl, this]; decide
theorem bad_some (s : ByteArray) (k : Nat) (h : k < s.size) (hb : Pl.bad s[k] = true) : s.data.toList.any Pl.bad = true := by
  rw [List.any_eq_true]; exact ⟨s[k], mem_of_get s k h, hb⟩

theorem head_get (s : ByteArray) (h : 0 < s.size) : s.data.toList.head? = some (s[0]'h) := by
  cases hl : s.data.toList with
  | nil =>
    have : s.data.toList.length = s.size := rfl
    rw [hl] at this; simp at this; omega
  | cons x l =>
    have : s[0]'h = s.data.toList[0]'h := rfl
    rw [this]; simp [hl]
theorem last_get (s : ByteArray) (h : 0 < s.size) : s.data.toList.getLast? = some (s[s.size - 1]'(by omega)) := by
  have hl : s.data.toList.length = s.size := rfl
  rw [List.getLast?_eq_getElem?, List.getElem?_eq_getElem (by omega)]; rfl
theorem beq_byte (a b : UInt8) : (some a == some b) = (a.toNat == b.toNat) := by
  rw [Bool.eq_iff_iff]; simp only [beq_iff_eq, Option.some.injEq]
  exact ⟨fun h => by rw [h], fun h => UInt8.toNat_inj.1 h⟩

set_option maxHeartbeats 4000000 in
theorem refSheetName_long (s : ByteArray) (w : World) (h1 : 1 ≤ s.size) (h31 : s.size ≤ 31) (hf : (((s[0]'h1).toNat : Int) == 39) = false) (hl : (((s[s.size - 1]'(by omega)).toNat : Int) == 39) = false) :
    Calls Tryz.prog 228 #[.string s] w (Q (.bool (!s.data.toList.any Pl.bad)) w) := by
  obtain ⟨R, hR⟩ : ∃ R, (!s.data.toList.any Pl.bad) = R := ⟨_, rfl⟩
  rw [hR]
  have HR := Lib.hid hR
  clear hR
  have hz0 : ((s.size : Int) == 0) = false := by rw [beq_eq_false_iff_ne]; omega
  have hz31 : decide (31 < (s.size : Int)) = false := by rw [decide_eq_false_iff_not]; omega
  go_enter Tryz.func228, Tryz.ntmps228
  go_wp2
  clear hz0 hz31 hf hl
  go_loopg [4] s.size (fun gf i wx => ∃ k : Nat, k ≤ s.size ∧ s.size ≤ k + gf ∧ i = .int .i64 k ∧ Hid (okTill s k) ∧ Hid (Below w.heap.size w wx))
  case atStart => exact ⟨0, Nat.zero_le _, by omega, rfl, fun j _ h => absurd h (Nat.not_lt_zero _), Below.refl _ _⟩
  case round =>
    obtain ⟨k, hk, hfu, rfl, HO, HB⟩ := hrel
    by_cases hlt : k < s.size
    · obtain ⟨g', rfl⟩ : ∃ g', gk = g' + 1 := ⟨gk - 1, by omega⟩
      have hbs := bad_split s[k]
      by_cases h32 : s[k].toNat < 32
      · have hR : Hid (R = false) := by show _ = _; rw [← HR.out, bad_some s k hlt (by rw [hbs]; simp [h32])]; rfl
        have d32 : decide ((s[k].toNat : Int) < 32) = true := by rw [decide_eq_true_eq]; omega
        clear hbs h32
        go_wp2
        go_ret
        exact ⟨by rw [hR.out]; rfl, HB.out⟩
      have d32 : decide ((s[k].toNat : Int) < 32) = false := by rw [decide_eq_false_iff_not]; omega
      by_cases h126 : 126 < s[k].toNat
      · have hR : Hid (R = false) := by show _ = _; rw [← HR.out, bad_some s k hlt (by rw [hbs]; simp [h126])]; rfl
        have d126 : decide (126 < (s[k].toNat : Int)) = true := by rw [decide_eq_true_eq]; omega
        clear hbs h32 h126
        go_wp2
        go_ret
        exact ⟨by rw [hR.out]; rfl, HB.out⟩
      have d126 : decide (126 < (s[k].toNat : Int)) = false := by rw [decide_eq_false_iff_not]; omega
      have hb7 : Pl.bad s[k] = bad7 s[k] := by rw [hbs]; simp [h32, h126]
      have H7 := Lib.hid hb7
      clear hbs hb7 h32 h126
      go_wp2
      clear d32 d126
      go_loopg [5] 7 (fun gf i wx => ∃ m : Nat, m ≤ 7 ∧ 7 ≤ m + gf ∧ i = .int .i64 m ∧ Hid (met7 s[k] m = false) ∧ Hid (Below w.heap.size w wx))
      case atStart => exact ⟨0, Nat.zero_le _, by omega, rfl, rfl, HB.out⟩
      case round =>
        obtain ⟨m, hm, hfm, rfl, HM, HB2⟩ := hrel
        by_cases hm7 : m < 7
        · obtain ⟨f', rfl⟩ : ∃ f', gk = f' + 1 := ⟨gk - 1, by omega⟩
          have hs := met7_succ s[k] m hm7
          rw [HM.out, Bool.false_or] at hs
          have dm : decide ((m : Int) < 7) = true := by rw [decide_eq_true_eq]; omega
          have hmi : ((m : Int) < 7) = True := eq_true (by omega)
          cases hc : ((s[k].toNat : Int) == ((T7[m]'hm7).toNat : Int)) with
          | true =>
            have hR : Hid (R = false) := by
              show _ = _
              have e : bad7 s[k] = true := by
                rw [← met7_all]
                unfold met7
                rw [List.any_eq_true]
                exact ⟨T7[m], by rw [show T7.data.toList.take 7 = T7.data.toList from rfl]; exact mem_of_get T7 m hm7, by have := beq_iff_eq.1 hc; rw [beq_iff_eq]; omega⟩
              rw [← HR.out, bad_some s k hlt (by rw [H7.out, e])]; rfl
            clear hs
            go_wp2
            go_quiet (fail)
            go_wp2
            go_ret
            exact ⟨by rw [hR.out]; rfl, below_drewN HB2.out _⟩
          | false =>
            have HS : Hid (met7 s[k] (m + 1) = false) := by
              show _ = _
              rw [hs, beq_eq_false_iff_ne]
              have := beq_eq_false_iff_ne.1 hc
              omega
            clear hs
            go_wp2
            go_quiet (fail)
            go_wp2
            go_roundg f'
            case measure => omega
            case rel => exact ⟨m + 1, by omega, by omega, by go_num, HS.out, below_drewN HB2.out _⟩
        · have dm : decide ((m : Int) < 7) = false := by rw [decide_eq_false_iff_not]; omega
          have hok : Hid (okTill s (k + 1)) := by
            intro j hj hjk
            rcases Nat.lt_or_ge j k with h | h
            · exact HO.out j hj h
            · obtain rfl : j = k := by omega
              obtain rfl : m = 7 := by omega
              rw [H7.out, ← met7_all, HM.out]
          clear HM
          go_wp2
          go_roundg g'
          case measure => omega
          case rel => exact ⟨k + 1, by omega, by omega, by go_num, hok.out, HB2.out⟩
    · have hR : Hid (R = true) := by
        show _ = _
        have e : k = s.size := by omega
        have ho := HO.out
        rw [e] at ho
        rw [← HR.out, okTill_all s ho]; rfl
      have dk : decide (k < s.size) = false := by rw [decide_eq_false_iff_not]; omega
      go_wp2
      go_ret
      exact ⟨by rw [hR.out]; rfl, HB.out⟩

theorem refSheetName_any (s : ByteArray) (w : World) :
    Calls Tryz.prog 228 #[.string s] w (Q (.bool (Pl.sheetName s.data.toList)) w) := by
  have hl : s.data.toList.length = s.size := rfl
  have hshort : ∀ (_ : Pl.sheetName s.data.toList = false) (_ : Calls Tryz.prog 228 #[.string s] w (Q (.bool false) w)), Calls Tryz.prog 228 #[.string s] w (Q (.bool (Pl.sheetName s.data.toList)) w) := by
    intro h1 h2; rw [h1]; exact h2
  by_cases h0 : s.size = 0
  · refine hshort (by rw [List.length_eq_zero_iff.1 (hl.trans h0)]; rfl) ?_
    have hz0 : ((s.size : Int) == 0) = true := by rw [beq_iff_eq]; omega
    clear hshort hl h0
    go_enter Tryz.func228, Tryz.ntmps228
    go_wp2
    go_ret
    exact ⟨rfl, Below.refl _ _⟩
  by_cases h31 : 31 < s.size
  · refine hshort (by unfold Pl.sheetName; rw [hl, show decide (s.size ≤ 31) = false by rw [decide_eq_false_iff_not]; omega]; simp) ?_
    have hz0 : ((s.size : Int) == 0) = false := by rw [beq_eq_false_iff_ne]; omega
    have hz31 : decide (31 < (s.size : Int)) = true := by rw [decide_eq_true_eq]; omega
    clear hshort hl h0 h31
    go_enter Tryz.func228, Tryz.ntmps228
    go_wp2
    go_ret
    exact ⟨rfl, Below.refl _ _⟩
  have h1 : 1 ≤ s.size := by omega
  have hne : s.data.toList.isEmpty = false := by
    cases hx : s.data.toList with
    | nil => rw [hx] at hl; simp at hl; omega
    | cons _ _ => rfl
  have hspec : Pl.sheetName s.data.toList = (!((s[0]'h1).toNat == 39) && !((s[s.size - 1]'(by omega)).toNat == 39) && !s.data.toList.any Pl.bad) := by
    unfold Pl.sheetName
    rw [hne, hl, show decide (s.size ≤ 31) = true by rw [decide_eq_true_eq]; omega, head_get s h1, last_get s h1, beq_byte, beq_byte]; rfl
  have hz0 : ((s.size : Int) == 0) = false := by rw [beq_eq_false_iff_ne]; omega
  have hz31 : decide (31 < (s.size : Int)) = false := by rw [decide_eq_false_iff_not]; omega
  cases hf : (((s[0]'h1).toNat : Int) == 39) with
  | true =>
    refine hshort (by rw [hspec, show ((s[0]'h1).toNat == 39) = true by rw [beq_iff_eq]; have := beq_iff_eq.1 hf; omega]; rfl) ?_
    clear hshort hl h0 h31 hspec hne
    go_enter Tryz.func228, Tryz.ntmps228
    go_wp2
    go_ret
    exact ⟨rfl, Below.refl _ _⟩
  | false =>
    have hf' : ((s[0]'h1).toNat == 39) = false := by rw [beq_eq_false_iff_ne]; have := beq_eq_false_iff_ne.1 hf; omega
    cases hla : (((s[s.size - 1]'(by omega)).toNat : Int) == 39) with
    | true =>
      refine hshort (by rw [hspec, show ((s[s.size - 1]'(by omega)).toNat == 39) = true by rw [beq_iff_eq]; have := beq_iff_eq.1 hla; omega]; simp) ?_
      clear hshort h0 hspec hne hf'
      go_enter Tryz.func228, Tryz.ntmps228
      go_wp2
      go_ret
      exact ⟨rfl, Below.refl _ _⟩
    | false =>
      have hl' : ((s[s.size - 1]'(by omega)).toNat == 39) = false := by rw [beq_eq_false_iff_ne]; have := beq_eq_false_iff_ne.1 hla; omega
      rw [hspec, hf', hl', Bool.not_false, Bool.true_and, Bool.true_and]
      exact refSheetName_long s w h1 (by omega) hf hla
end Go.Proofs.YtfkiomjplpbmiaaGreatDoor

/- The document's cell, in plain words. -/
namespace Go.Proofs.YtfkiomjplpbmiaaGreatDoor
open Go.RowKit Go.Lib

theorem tw_all (p : UInt8 → Bool) : ∀ (l : List UInt8) (m : Nat), m < (l.takeWhile p).length → ∃ h' : m < l.length, p l[m] = true
  | [], m, h => absurd h (Nat.not_lt_zero _)
  | b :: l, m, h => by
    rw [List.takeWhile_cons] at h
    cases hb : p b with
    | false => rw [hb] at h; simp at h
    | true =>
      rw [hb] at h
      cases m with
      | zero => exact ⟨by simp, hb⟩
      | succ m =>
        simp only [if_true, List.length_cons] at h
        obtain ⟨h', hp⟩ := tw_all p l m (by omega)
        exact ⟨by simp; omega, hp⟩
theorem tw_end (p : UInt8 → Bool) : ∀ (l : List UInt8) (h : (l.takeWhile p).length < l.length), p (l[(l.takeWhile p).length]'h) = false
  | [], h => absurd h (Nat.not_lt_zero _)
  | b :: l, h => by
    cases hb : p b with
    | false => simp [hb]
    | true =>
      have h' : (l.takeWhile p).length < l.length := by
        rw [List.takeWhile_cons, hb] at h
        simp only [if_true, List.length_cons] at h
        omega
      have ih := tw_end p l h'
      simp only [List.takeWhile_cons, hb, if_true, List.length_cons, List.getElem_cons_succ]
      exact ih

theorem ends_of (p : UInt8 → Bool) (s : ByteArray) (i : Nat) (hi : i ≤ s.size) : EndsAt p s i (i + ((s.data.toList.drop i).takeWhile p).length) := by
  have hl : (s.data.toList.drop i).length = s.size - i := by rw [List.length_drop]; rfl
  have hle := takeWhile_le p (s.data.toList.drop i)
  refine ⟨by omega, by omega, fun j h h1 h2 => ?_, fun h => ?_⟩
  · obtain ⟨h', hp⟩ := tw_all p (s.data.toList.drop i) (j - i) (by omega)
    rw [List.getElem_drop] at hp
    have : i + (j - i) = j := by omega
    simp only [this] at hp
    exact hp
  · have hp := tw_end p (s.data.toList.drop i) (by omega)
    rw [List.getElem_drop] at hp
    exact hp
theorem dollar_of (s : ByteArray) (k : Nat) : DollarAt s k ((s.data.toList.drop k).head? == some 36) := by
  have hh : (s.data.toList.drop k).head? = s.data.toList[k]? := by rw [List.head?_drop]
  rw [hh]
  by_cases h : k < s.size
  · have h' : k < s.data.toList.length := h
    rw [List.getElem?_eq_getElem h', beq_byte]
    refine ⟨fun e => ⟨h, ?_⟩, fun e _ => ?_⟩
    · have := beq_iff_eq.1 e
      exact this
    · exact beq_eq_false_iff_ne.1 e
  · have h' : s.data.toList.length ≤ k := by show s.size ≤ k; omega
    rw [List.getElem?_eq_none h']
    exact ⟨fun e => (by cases e), fun _ hk => absurd hk h⟩
theorem cutD_drop (l : List UInt8) : cutD l = l.drop (if (l.head? == some 36) = true then 1 else 0) := by
  unfold cutD
  split
  · rw [List.drop_one]
  · rfl

theorem refCell_any (s : ByteArray) (hs : s.size ≤ 4294967280) : ∃ (c r : Int) (ac ar : Bool),
    (∀ w, Calls Tryz.prog 195 #[.string s] w (Q (.tuple #[refV ⟨#[]⟩ c r ac ar, .bool ((cellF s.data.toList).1 != 40), .bool ((cellF s.data.toList).1 == 0)]) w)) ∧
    ((cellF s.data.toList).1 = 0 → (c, r, ac, ar) = (cellF s.data.toList).2) := by
  obtain ⟨n0, hn0⟩ : ∃ n0, n0 = if (s.data.toList.head? == some 36) = true then 1 else 0 := ⟨_, rfl⟩
  have hsz : s.data.toList.length = s.size := rfl
  have hn0s : n0 ≤ s.size := by
    rw [hn0]
    cases hl : s.data.toList with
    | nil => simp
    | cons b l =>
      rw [hl] at hsz
      simp only [List.length_cons] at hsz
      split <;> omega
  have hc0 : cutD s.data.toList = s.data.toList.drop n0 := by rw [cutD_drop, ← hn0]
  obtain ⟨a1, ha1⟩ : ∃ a1, a1 = n0 + ((s.data.toList.drop n0).takeWhile Pl.capital).length := ⟨_, rfl⟩
  have hE1 := ends_of Pl.capital s n0 hn0s
  rw [← ha1] at hE1
  have hdw : (s.data.toList.drop n0).dropWhile Pl.capital = s.data.toList.drop a1 := by rw [← Pl.drop_takeWhile, List.drop_drop, ha1]
  obtain ⟨n2, hn2⟩ : ∃ n2, n2 = a1 + if ((s.data.toList.drop a1).head? == some 36) = true then 1 else 0 := ⟨_, rfl⟩
  have hc1 : cutD (s.data.toList.drop a1) = s.data.toList.drop n2 := by rw [cutD_drop, List.drop_drop, ← hn2]
  have hn2s : n2 ≤ s.size := by
    rw [hn2]
    have := hE1.2.1
    cases hl : s.data.toList.drop a1 with
    | nil => simp; omega
    | cons b l =>
      have hd : (s.data.toList.drop a1).length = s.size - a1 := by rw [List.length_drop]; rfl
      rw [hl] at hd
      simp only [List.length_cons] at hd
      split <;> omega
  obtain ⟨e, he⟩ : ∃ e, e = n2 + ((s.data.toList.drop n2).takeWhile Pl.digit).length := ⟨_, rfl⟩
  have hE2 := ends_of Pl.digit s n2 hn2s
  rw [← he] at hE2
  have hdw2 : (s.data.toList.drop n2).dropWhile Pl.digit = s.data.toList.drop e := by rw [← Pl.drop_takeWhile, List.drop_drop, he]
  have hF : cellF s.data.toList = cellG ((s.data.toList.drop n0).takeWhile Pl.capital) ((s.data.toList.drop n2).takeWhile Pl.digit) (s.data.toList.drop e) (s.data.toList.head? == some 36) ((s.data.toList.drop a1).head? == some 36) := by
    unfold cellF
    rw [hc0, hdw, hc1, hdw2]
  have hD0 := dollar_of s 0
  rw [List.drop_zero] at hD0
  have hD1 := dollar_of s a1
  have hlt : s.extract n0 a1 = ⟨((s.data.toList.drop n0).takeWhile Pl.capital).toArray⟩ := by
    apply ByteArray.ext
    apply Array.toList_inj.1
    rw [ByteArray.data_extract, Array.toList_extract]
    have e1 : a1 - n0 = ((s.data.toList.drop n0).takeWhile Pl.capital).length := by omega
    show (s.data.toList.extract n0 a1) = (s.data.toList.drop n0).takeWhile Pl.capital
    rw [List.extract_eq_take_drop, e1, Pl.take_takeWhile]
  have hal : ((s.data.toList.drop n0).takeWhile Pl.capital).length = a1 - n0 := by omega
  have hdl : ((s.data.toList.drop n2).takeWhile Pl.digit).length = e - n2 := by omega
  have hel : (s.data.toList.drop e).length = s.size - e := by rw [List.length_drop]; rfl
  have hdhead : ∀ h : n2 < s.size, n2 < e → ((s.data.toList.drop n2).takeWhile Pl.digit).head? = some (s[n2]'h) := by
    intro h hne
    obtain ⟨b, l, hbl⟩ : ∃ b l, s.data.toList.drop n2 = b :: l := ⟨_, _, List.drop_eq_getElem_cons (show n2 < s.data.toList.length from h)⟩
    have hb : b = s[n2]'h := by
      have := List.drop_eq_getElem_cons (show n2 < s.data.toList.length from h)
      rw [hbl] at this
      injection this with this _
    rw [hbl] at hdl ⊢
    rw [List.takeWhile_cons] at hdl ⊢
    cases hp : Pl.digit b with
    | false => rw [hp] at hdl; simp at hdl; omega
    | true => simp [hb]
  have hrow : e - n2 ≤ 7 → rowAt (s.data.toList.drop n2) (e - n2) = (num ((s.data.toList.drop n2).takeWhile Pl.digit) : Int) := by
    intro h7
    unfold rowAt
    rw [← hdl, Pl.take_takeWhile, List.take_of_length_le (by omega)]
  generalize hlts : (s.data.toList.drop n0).takeWhile Pl.capital = lt at *
  generalize hdgs : (s.data.toList.drop n2).takeWhile Pl.digit = dg at *
  generalize hac : (s.data.toList.head? == some 36) = ac at *
  generalize har : ((s.data.toList.drop a1).head? == some 36) = ar at *
  obtain ⟨bad, hbad⟩ : ∃ bad, bad = (lt.isEmpty || decide (3 < lt.length) || dg.isEmpty || decide (7 < dg.length) || (dg.head? == some 48) || !(s.data.toList.drop e).isEmpty) := ⟨_, rfl⟩
  have he1 := hE2.1
  have he2 := hE2.2.1
  have ha2 := hE1.1
  have empty_iff : ∀ l : List UInt8, l.isEmpty = decide (l.length = 0) := by
    intro l; cases l <;> simp
  have hBad : BadIs s n0 a1 n2 e bad := by
    rw [empty_iff lt, empty_iff dg, empty_iff (s.data.toList.drop e), hal, hdl, hel] at hbad
    refine ⟨fun h => ?_, fun h => ?_, fun h => ?_, fun h => ?_, fun h h48 => ?_, fun h => ?_, fun h1 h2 h3 h4 h5 h6 => ?_⟩
    · rw [hbad, show decide (a1 - n0 = 0) = true by rw [decide_eq_true_eq]; omega]; rfl
    · rw [hbad, show decide (3 < a1 - n0) = true by rw [decide_eq_true_eq]; omega]; simp
    · rw [hbad, show decide (e - n2 = 0) = true by rw [decide_eq_true_eq]; omega]; simp
    · rw [hbad, show decide (7 < e - n2) = true by rw [decide_eq_true_eq]; omega]; simp
    · by_cases hne : n2 < e
      · have hb : s[n2]'h = 48 := UInt8.toNat_inj.1 h48
        rw [hbad, hdhead h hne, hb]; simp
      · rw [hbad, show decide (e - n2 = 0) = true by rw [decide_eq_true_eq]; omega]; simp
    · rw [hbad, show decide (s.size - e = 0) = false by rw [decide_eq_false_iff_not]; omega]; simp
    · have h48 : (dg.head? == some 48) = false := by
        have h := h5 (by omega)
        rw [hdhead (by omega) h3, beq_byte, beq_eq_false_iff_ne]
        exact h
      rw [hbad, h48, show decide (a1 - n0 = 0) = false by rw [decide_eq_false_iff_not]; omega, show decide (3 < a1 - n0) = false by rw [decide_eq_false_iff_not]; omega, show decide (e - n2 = 0) = false by rw [decide_eq_false_iff_not]; omega,
        show decide (7 < e - n2) = false by rw [decide_eq_false_iff_not]; omega, show decide (s.size - e = 0) = true by rw [decide_eq_true_eq]; omega]
      rfl
  have hC5 := fun w => refCol_any ⟨lt.toArray⟩ w
  have hcore := fun w => refCell_core s w hs ac ar n0 a1 n2 e hn0 (Lib.hid hD0) (Lib.hid hE1) hn2 (Lib.hid hD1) (Lib.hid hE2) ⟨lt.toArray⟩ (Lib.hid hlt.symm) bad (Lib.hid hBad) (Pl.col lt).1 (Pl.col lt).2 (Lib.hid hC5) _ (Lib.hid rfl)
  rw [hF]
  unfold cellRV at hcore
  unfold cellG
  rw [← hbad]
  cases hb : bad with
  | true =>
    rw [hb] at hcore
    exact ⟨0, 0, false, false, hcore, fun h => (by cases h)⟩
  | false =>
    rw [hb] at hcore
    have h7 : e - n2 ≤ 7 := by
      rcases Nat.lt_or_ge 7 (e - n2) with h | h
      · have := hBad.2.2.2.1 (by omega)
        rw [hb] at this; cases this
      · exact h
    rw [hrow h7] at hcore
    refine ⟨(Pl.col lt).1, num dg, ac, ar, ?_, ?_⟩
    · cases hc : (Pl.col lt).2 with
      | false => rw [hc] at hcore; exact hcore
      | true =>
        rw [hc] at hcore
        by_cases h512 : 512 < num dg
        · have e1 : decide ((num dg : Int) ≤ 512) = false := by rw [decide_eq_false_iff_not]; omega
          have e2 : decide (512 < num dg) = true := by rw [decide_eq_true_eq]; exact h512
          rw [e1] at hcore
          rw [e2]
          exact hcore
        · have e1 : decide ((num dg : Int) ≤ 512) = true := by rw [decide_eq_true_eq]; omega
          have e2 : decide (512 < num dg) = false := by rw [decide_eq_false_iff_not]; exact h512
          rw [e1] at hcore
          rw [e2]
          exact hcore
    · intro h
      by_cases hc : (!(Pl.col lt).2 || decide (512 < num dg)) = true
      · rw [if_neg (by decide), if_pos hc] at h; cases h
      · rw [if_neg (by decide), if_neg hc]
end Go.Proofs.YtfkiomjplpbmiaaGreatDoor

/- The document's sheet. -/
namespace Go.Proofs.YtfkiomjplpbmiaaGreatDoor
open Go.RowKit Go.Lib

def sheetRV (q : Option (List UInt8 × List UInt8)) : Value :=
  match q with
  | none => .tuple #[.string ⟨#[]⟩, .string ⟨#[]⟩, .bool false]
  | some (n, r) => if (r.head? == some 33) && Pl.sheetName n && !Pl.wordly n then .tuple #[.string ⟨n.toArray⟩, .string ⟨r.tail.toArray⟩, .bool true] else .tuple #[.string ⟨#[]⟩, .string ⟨#[]⟩, .bool false]

theorem sheetRV_some (n r : List UInt8) : sheetRV (some (n, r)) = if (r.head? == some 33) && Pl.sheetName n && !Pl.wordly n then .tuple #[.string ⟨n.toArray⟩, .string ⟨r.tail.toArray⟩, .bool true] else .tuple #[.string ⟨#[]⟩, .string ⟨#[]⟩, .bool false] := rfl

set_option maxRecDepth 100000 in
set_option maxHeartbeats 8000000 in
theorem refSheet_quoted (s : ByteArray) (w : World) (hs : s.size ≤ 4294967280) (h0 : 0 < s.size) (hq : (s[0]'h0).toNat = 39) (V : Value) (HV : Hid (V = sheetRV (quotedL [] (s.data.toList.drop 1)))) :
    Calls Tryz.prog 194 #[.string s] w (Q V w) := by
  have hsz : s.data.toList.length = s.size := rfl
  have dq : (((s[0]'h0).toNat : Int) == 39) = true := by rw [beq_iff_eq]; omega
  have HB0 := Lib.hid (Below.refl w.heap.size w)
  clear hq
  have HL := Lib.hid hsz
  clear hsz
  go_enter Tryz.func194, Tryz.ntmps194
  go_wp2_with fail
  clear dq
  go_loopg [5, 6] s.size (fun gf v5 v6 wx => ∃ (k : Nat) (acc : List UInt8), 1 ≤ k ∧ k ≤ s.size ∧ s.size ≤ k + gf ∧ acc.length ≤ k ∧ v6 = .int .i64 (k : Int) ∧ Hid (quotedL acc (s.data.toList.drop k) = quotedL [] (s.data.toList.drop 1)) ∧ Hid (wx.ownsRow w.heap.size 5 1 v5 acc.length (bytesV acc)) ∧ Hid (Below w.heap.size w wx))
  case atStart => exact ⟨1, [], Nat.le_refl _, h0, by omega, Nat.zero_le _, rfl, rfl, World.ownsRow_nil _ _ _ _, HB0.out⟩
  case round =>
    obtain ⟨k, acc, k1, k2, k3, k4, rfl, HQ, HO, HB⟩ := hrel
    by_cases hz : k < s.size
    · obtain ⟨g', rfl⟩ : ∃ g', gk = g' + 1 := ⟨gk - 1, by omega⟩
      have hdrop := List.drop_eq_getElem_cons (show k < s.data.toList.length from hz)
      have hq0 := HQ.out
      rw [hdrop, show s.data.toList[k] = s[k]'hz from rfl, quotedL] at hq0
      by_cases c39 : s[k]'hz = 39
      · rw [if_pos c39] at hq0
        have d1 : (((s[k]'hz).toNat : Int) == 39) = true := by rw [c39]; rfl
        have d2 : (((s[k]'hz).toNat : Int) != 39) = false := by rw [c39]; rfl
        clear hdrop c39 HQ
        by_cases h2 : k + 1 < s.size
        · have hd2 := List.drop_eq_getElem_cons (show k + 1 < s.data.toList.length from h2)
          have hh2 : (s.data.toList.drop (k + 1)).head? = some (s[k + 1]'h2) := by rw [hd2]; rfl
          have ht2 : (s.data.toList.drop (k + 1)).tail = s.data.toList.drop (k + 2) := by rw [hd2]; rfl
          have dl : ((k : Int) + 1 < (s.size : Int)) = True := eq_true (by omega)
          have dk : decide (k + 1 < s.size) = true := by rw [decide_eq_true_eq]; exact h2
          rw [hh2] at hq0
          by_cases c2 : s[k + 1]'h2 = 39
          · rw [if_pos (by rw [c2])] at hq0
            rw [ht2] at hq0
            have HQ2 := Lib.hid hq0
            have d3 : (((s[k + 1]'h2).toNat : Int) == 39) = true := by rw [c2]; rfl
            clear hq0 c2 hh2 hd2 ht2
            go_wp2_with ((at_builtin; refine own_append rfl (.tmp 45) (.tmp 46) 76 5 (.int .u8 0) 1 rfl Tryz.underlying76 byteInfo rfl u5 acc.length (bytesV acc) (.int .u8 39) rfl rfl rfl HO.out HB.out (by omega) (by omega) ?_; intro v1 w2 ho hb hg hat; rw [show Value.int .u8 39 = .int .u8 ((39 : UInt8).toNat : Int) from rfl, ← bytesV_snoc] at ho; replace HO := Lib.hid ho; replace HB := Lib.hid hb; clear ho hb hg hat))
            go_roundg g'
            case measure => omega
            case rel => exact ⟨k + 2, acc ++ [39], by omega, by omega, by omega, by rw [List.length_append]; simp; omega, by go_num, HQ2.out, by rw [List.length_append]; exact HO.out, HB.out⟩
          · rw [if_neg (fun h => c2 (by injection h))] at hq0
            have hv := HV.out
            rw [← hq0] at hv
            have HV2 := Lib.hid hv
            clear hq0 hv HV
            have hcv := own_str (P := Tryz.prog) Tryz.underlying76 Tryz.underlying5 Tryz.underlying9 HO.out
            have d3 : (((s[k + 1]'h2).toNat : Int) == 39) = false := by rw [beq_eq_false_iff_ne]; intro h; apply c2; apply UInt8.toNat_inj.1; have : (39 : UInt8).toNat = 39 := rfl; omega
            have C1 := Lib.hid (fun w => refSheetName_any ⟨acc.toArray⟩ w)
            have C2 := Lib.hid (fun w => refPlain_any ⟨acc.toArray⟩ w (by rw [size_mk]; omega))
            by_cases c33 : (s[k + 1]'h2).toNat = 33
            · have d4 : (((s[k + 1]'h2).toNat : Int) == 33) = true := by rw [beq_iff_eq]; omega
              have h33 : ((s.data.toList.drop (k + 1)).head? == some 33) = true := by rw [hh2, beq_byte, beq_iff_eq]; exact c33
              cases hsn : Pl.sheetName acc with
              | false =>
                have c1 := C1.out
                rw [show (⟨acc.toArray⟩ : ByteArray).data.toList = acc from rfl, hsn] at c1
                have D1 := Lib.hid c1
                have HZ : Hid (V = .tuple #[.string ⟨#[]⟩, .string ⟨#[]⟩, .bool false]) := by
                  show _ = _; rw [HV2.out]; rw [sheetRV_some, h33, hsn]; rfl
                clear c1 C1 C2 HV2 h33 hh2 ht2 hd2 c33 c2
                go_wp2_with fail
                refine (D1.out _).mono ?_
                rintro e' w1 ⟨rfl, hb⟩
                have HB2 := Lib.hid (bt HB.out hb)
                clear hb hcv
                go_wp2_with fail
                rw [HZ.out]
                exact bodyPost_ret (v := .tuple #[.string ⟨#[]⟩, .string ⟨#[]⟩, .bool false]) (by simp [results, Tryz.results194, go_sem]) rfl ⟨rfl, HB2.out⟩
              | true =>
                have c1 := C1.out
                rw [show (⟨acc.toArray⟩ : ByteArray).data.toList = acc from rfl, hsn] at c1
                have D1 := Lib.hid c1
                have c3 := C2.out
                rw [show (⟨acc.toArray⟩ : ByteArray).data.toList = acc from rfl] at c3
                cases hwd : Pl.wordly acc with
                | true =>
                  rw [hwd] at c3
                  have D2 := Lib.hid c3
                  have HZ : Hid (V = .tuple #[.string ⟨#[]⟩, .string ⟨#[]⟩, .bool false]) := by
                    show _ = _; rw [HV2.out]; rw [sheetRV_some, h33, hsn, hwd]; rfl
                  clear c1 c3 C1 C2 HV2 h33 hh2 ht2 hd2 c33 c2
                  go_wp2_with fail
                  refine (D1.out _).mono ?_
                  rintro e' w1 ⟨rfl, hb⟩
                  have HB2 := Lib.hid (bt HB.out hb)
                  clear hb hcv
                  go_wp2_with fail
                  refine (D2.out _).mono ?_
                  rintro e' w2 ⟨rfl, hb⟩
                  have HB3 := Lib.hid (bt HB2.out hb)
                  clear hb
                  go_wp2_with fail
                  rw [HZ.out]
                  exact bodyPost_ret (v := .tuple #[.string ⟨#[]⟩, .string ⟨#[]⟩, .bool false]) (by simp [results, Tryz.results194, go_sem]) rfl ⟨rfl, HB3.out⟩
                | false =>
                  rw [hwd] at c3
                  have D2 := Lib.hid c3
                  have hext : s.extract (k + 2) s.size = ⟨(s.data.toList.drop (k + 1)).tail.toArray⟩ := by
                    apply ByteArray.ext
                    apply Array.toList_inj.1
                    rw [Lib.extract_to_end, ht2]
                  have HZ : Hid (V = .tuple #[.string ⟨acc.toArray⟩, .string (s.extract (k + 2) s.size), .bool true]) := by
                    show _ = _; rw [HV2.out, hext]; rw [sheetRV_some, h33, hsn, hwd]; rfl
                  clear c1 c3 C1 C2 HV2 h33 hh2 ht2 hd2 c33 c2 hext
                  go_wp2_with fail
                  refine (D1.out _).mono ?_
                  rintro e' w1 ⟨rfl, hb⟩
                  have HB2 := Lib.hid (bt HB.out hb)
                  clear hb hcv
                  go_wp2_with fail
                  refine (D2.out _).mono ?_
                  rintro e' w2 ⟨rfl, hb⟩
                  have HB3 := Lib.hid (bt HB2.out hb)
                  clear hb
                  go_wp2_with fail
                  go_region
                  go_wp2_with fail
                  rw [HZ.out]
                  exact bodyPost_ret (v := .tuple #[.string ⟨acc.toArray⟩, .string (s.extract (k + 2) s.size), .bool true]) (by simp [results, Tryz.results194, go_sem]) rfl ⟨rfl, HB3.out.drew⟩
            · have d4 : (((s[k + 1]'h2).toNat : Int) == 33) = false := by rw [beq_eq_false_iff_ne]; omega
              have HZ : Hid (V = .tuple #[.string ⟨#[]⟩, .string ⟨#[]⟩, .bool false]) := by
                show _ = _
                have h33 : ((s.data.toList.drop (k + 1)).head? == some 33) = false := by rw [hh2, beq_byte, beq_eq_false_iff_ne]; exact c33
                rw [HV2.out]; rw [sheetRV_some, h33]; rfl
              clear C1 C2 HV2 hh2 ht2 hd2 c33 c2
              go_wp2_with fail
              rw [HZ.out]
              exact bodyPost_ret (v := .tuple #[.string ⟨#[]⟩, .string ⟨#[]⟩, .bool false]) (by simp [results, Tryz.results194, go_sem]) rfl ⟨rfl, HB.out⟩
        · have hnil : s.data.toList.drop (k + 1) = [] := List.drop_eq_nil_of_le (by show s.size ≤ k + 1; omega)
          rw [hnil] at hq0
          rw [if_neg (by simp)] at hq0
          have HZ : Hid (V = .tuple #[.string ⟨#[]⟩, .string ⟨#[]⟩, .bool false]) := by
            show _ = _; rw [HV.out, ← hq0]; rfl
          have dk : decide (k + 1 < s.size) = false := by rw [decide_eq_false_iff_not]; exact h2
          have hcv := own_str (P := Tryz.prog) Tryz.underlying76 Tryz.underlying5 Tryz.underlying9 HO.out
          clear hq0 hnil HV
          go_wp2_with fail
          rw [HZ.out]
          exact bodyPost_ret (v := .tuple #[.string ⟨#[]⟩, .string ⟨#[]⟩, .bool false]) (by simp [results, Tryz.results194, go_sem]) rfl ⟨rfl, HB.out⟩
      · rw [if_neg c39] at hq0
        have HQ2 := Lib.hid hq0
        have hne : ¬ (s[k]'hz).toNat = 39 := fun h => c39 (UInt8.toNat_inj.1 h)
        have d1 : (((s[k]'hz).toNat : Int) == 39) = false := by rw [beq_eq_false_iff_ne]; omega
        have d2 : (((s[k]'hz).toNat : Int) != 39) = true := by rw [bne_iff_ne]; omega
        clear hq0 hdrop hne c39 HQ
        go_wp2_with ((at_builtin; refine own_append rfl (.tmp 27) (.tmp 31) 76 5 (.int .u8 0) 1 rfl Tryz.underlying76 byteInfo rfl u5 acc.length (bytesV acc) (.int .u8 ((s[k]'hz).toNat : Int)) rfl rfl rfl HO.out HB.out (by omega) (by omega) ?_; intro v1 w2 ho hb hg hat; rw [← bytesV_snoc] at ho; replace HO := Lib.hid ho; replace HB := Lib.hid hb; clear ho hb hg hat))
        go_roundg g'
        case measure => omega
        case rel => exact ⟨k + 1, acc ++ [s[k]'hz], by omega, by omega, by omega, by rw [List.length_append]; simp; omega, by go_num, HQ2.out, by rw [List.length_append]; exact HO.out, HB.out⟩
    · obtain rfl : k = s.size := by omega
      have hnil : s.data.toList.drop s.size = [] := List.drop_eq_nil_of_le (Nat.le_refl _)
      have hq0 := HQ.out
      rw [hnil, quotedL] at hq0
      have HZ : Hid (V = .tuple #[.string ⟨#[]⟩, .string ⟨#[]⟩, .bool false]) := by
        show _ = _; rw [HV.out, ← hq0]; rfl
      have dk : decide (s.size < s.size) = false := by simp
      clear hq0 hnil HQ HV
      go_wp2_with fail
      rw [HZ.out]
      exact bodyPost_ret (v := .tuple #[.string ⟨#[]⟩, .string ⟨#[]⟩, .bool false]) (by simp [results, Tryz.results194, go_sem]) rfl ⟨rfl, HB.out⟩
end Go.Proofs.YtfkiomjplpbmiaaGreatDoor

/- The document's sheet, without a mark; and whole. -/
namespace Go.Proofs.YtfkiomjplpbmiaaGreatDoor
open Go.RowKit Go.Lib

set_option maxRecDepth 100000 in
set_option maxHeartbeats 8000000 in
theorem refSheet_bare (s : ByteArray) (w : World) (hs : s.size ≤ 4294967280) (hq : ∀ h : 0 < s.size, (s[0]'h).toNat ≠ 39) (a1 : Nat) (H1 : Hid (EndsAt (· != 33) s 0 a1)) (wd sn : Bool)
    (C1 : Hid (∀ w, Calls Tryz.prog 229 #[.string (s.extract 0 a1)] w (Q (.bool wd) w)))
    (D1 : Hid (∀ w, Calls Tryz.prog 229 #[.string (s.extract 0 a1)] w fun e w' => e = .returned (.bool wd) ∧ ∃ m, w' = w.drewN m))
    (C2 : Hid (∀ w, Calls Tryz.prog 228 #[.string (s.extract 0 a1)] w (Q (.bool sn) w))) (V : Value)
    (HV : Hid (V = if a1 < s.size then .tuple #[.string (s.extract 0 a1), .string (s.extract (a1 + 1) s.size), .bool (wd && sn)] else .tuple #[.string ⟨#[]⟩, .string s, .bool true])) :
    Calls Tryz.prog 194 #[.string s] w (Q V w) := by
  have HB0 := Lib.hid (Below.refl w.heap.size w)
  have HQ := Lib.hid hq
  clear hq
  go_enter Tryz.func194, Tryz.ntmps194
  go_upto_region 1 with (fail)
  go_cut [16] (fun v16 wx => v16 = .bool false ∧ w = wx)
  case first =>
    by_cases hz : 0 < s.size
    · have hd := HQ.out hz
      have d1 : (((s[0]'hz).toNat : Int) == 39) = false := by rw [beq_eq_false_iff_ne]; omega
      clear hd
      go_wp2_with fail
      go_meet
      exact ⟨rfl, rfl⟩
    · have dz : decide (0 < (s.size : Int)) = false := by rw [decide_eq_false_iff_not]; omega
      go_wp2_with fail
      go_meet
      exact ⟨rfl, rfl⟩
  case rest =>
    obtain ⟨rfl, rfl⟩ := hcut
    obtain ⟨f1, f2, f3, f4⟩ := H1.out
    have F3 := Lib.hid f3
    have F4 := Lib.hid f4
    clear f3 f4 f1
    go_wp2_with fail
    go_loopg [8] s.size (fun gf v8 wx => ∃ k : Nat, k ≤ a1 ∧ a1 ≤ k + gf ∧ v8 = .int .i64 (k : Int) ∧ w = wx)
    case atStart => exact ⟨0, Nat.zero_le _, by omega, rfl, rfl⟩
    case round =>
      obtain ⟨k, k2, k3, rfl, rfl⟩ := hrel
      by_cases hlt : k < a1
      · obtain ⟨g', rfl⟩ : ∃ g', gk = g' + 1 := ⟨gk - 1, by omega⟩
        have hz : k < s.size := by omega
        have hcp := F3.out k hz (Nat.zero_le _) hlt
        have hne : (s[k]'hz).toNat ≠ 33 := by
          intro h
          have : s[k]'hz = 33 := UInt8.toNat_inj.1 h
          rw [this] at hcp; cases hcp
        have d1 : (((s[k]'hz).toNat : Int) == 33) = false := by rw [beq_eq_false_iff_ne]; omega
        clear hcp hne
        go_wp2_with fail
        go_roundg g'
        case measure => omega
        case rel => exact ⟨k + 1, by omega, by omega, by go_num, rfl⟩
      · obtain rfl : k = a1 := by omega
        by_cases hz : k < s.size
        · have hcp := F4.out hz
          have h33 : s[k]'hz = 33 := by simpa using hcp
          have d1 : (((s[k]'hz).toNat : Int) == 33) = true := by rw [h33]; rfl
          have HV2 : Hid (V = .tuple #[.string (s.extract 0 k), .string (s.extract (k + 1) s.size), .bool (wd && sn)]) := by show _ = _; rw [HV.out, if_pos hz]
          clear hcp h33 HV
          go_wp2_with fail
          have hB0 := (Below.refl w.heap.size w).drew
          have kw : IntKind.i64.wrap ((k : Int) + 1) = (k : Int) + 1 := IntWalk.i64_in _ (by omega)
          have k0 : 0 ≤ (k : Int) + 1 := by omega
          have k1 : (k : Int) + 1 ≤ (s.size : Int) := by omega
          have kn : ((k : Int) + 1).toNat = k + 1 := by omega
          cases wd with
          | true =>
            go_region_held3 (fun w' => Below w.heap.size w w')
              (first | exact hbl | exact hB0)
              (first
                | (go_at_call 229; refine (C1.out _).mono ?_; rintro e w' ⟨rfl, hb⟩; have hbl := bt (w := w) (by assumption) hb)
                | (go_at_call 228; refine (C2.out _).mono ?_; rintro e w' ⟨rfl, hb⟩; have hbl := bt (w := w) (by assumption) hb))
            go_wp2
            rw [HV2.out]
            exact bodyPost_ret (v := .tuple #[.string (s.extract 0 k), .string (s.extract (k + 1) s.size), .bool (true && sn)]) (by simp [results, Tryz.results194, go_sem]) rfl ⟨rfl, hbl⟩
          | false =>
            go_quiet ((go_at_call 229; exact Calls.quiet_of (D1.out _)))
            go_wp2
            rw [HV2.out]
            exact bodyPost_ret (v := .tuple #[.string (s.extract 0 k), .string (s.extract (k + 1) s.size), .bool (false && sn)]) (by simp [results, Tryz.results194, go_sem]) rfl ⟨rfl, below_drewN (Below.refl _ _) _⟩
        · have dk : decide (k < s.size) = false := by rw [decide_eq_false_iff_not]; exact hz
          have HV2 : Hid (V = .tuple #[.string ⟨#[]⟩, .string s, .bool true]) := by show _ = _; rw [HV.out, if_neg hz]
          clear HV
          go_wp2_with fail
          rw [HV2.out]
          exact bodyPost_ret (v := .tuple #[.string ⟨#[]⟩, .string s, .bool true]) (by simp [results, Tryz.results194, go_sem]) rfl ⟨rfl, Below.refl _ _⟩
end Go.Proofs.YtfkiomjplpbmiaaGreatDoor

/- The document's sheet at every text; Parse. -/
namespace Go.Proofs.YtfkiomjplpbmiaaGreatDoor
open Go.RowKit Go.Lib

theorem drop_cons_tail (p : UInt8 → Bool) (l : List UInt8) : (l.dropWhile p).tail = l.drop ((l.takeWhile p).length + 1) := by
  rw [← Pl.drop_takeWhile, List.tail_drop]
theorem tw_contains (l : List UInt8) (c : UInt8) : l.contains c = decide ((l.takeWhile (· != c)).length < l.length) := by
  induction l with
  | nil => rfl
  | cons b l ih =>
    by_cases h : b = c
    · subst h; simp
    · have hb : (b != c) = true := by simp [h]
      have hc : (c == b) = false := by simp; exact fun e => h e.symm
      rw [List.contains_cons, hc, Bool.false_or, ih, List.takeWhile_cons, hb]
      simp

theorem refSheet_any (s : ByteArray) (hs : s.size ≤ 4294967280) : ∃ nm rest : ByteArray,
    (∀ w, Calls Tryz.prog 194 #[.string s] w (Q (.tuple #[.string nm, .string rest, .bool (sheetF s.data.toList).2.2]) w)) ∧
    ((sheetF s.data.toList).2.2 = true → nm = ⟨(sheetF s.data.toList).1.toArray⟩ ∧ rest = ⟨(sheetF s.data.toList).2.1.toArray⟩) ∧ rest.size ≤ s.size := by
  have hl : s.data.toList.length = s.size := rfl
  by_cases hq : s.data.toList.head? = some 39
  · have h0 : 0 < s.size := by
      cases hx : s.data.toList with
      | nil => rw [hx] at hq; cases hq
      | cons b l => rw [← hl, hx]; simp
    have h39 : (s[0]'h0).toNat = 39 := by
      rw [head_get s h0] at hq
      injection hq with hq
      rw [hq]; rfl
    have hF : sheetF s.data.toList = match quotedL [] (s.data.toList.drop 1) with
        | none => ([], [], false)
        | some (n, r) => (n, if r.head? = some 33 then r.tail else r, (r.head? == some 33) && Pl.sheetName n && !Pl.wordly n) := by
      unfold sheetF quoted
      rw [if_pos hq, List.drop_one]
      rfl
    have hcore := fun w => refSheet_quoted s w hs h0 h39 _ (Lib.hid rfl)
    have hle := sheetF_le s.data.toList
    rw [hF] at hle ⊢
    cases hqq : quotedL [] (s.data.toList.drop 1) with
    | none =>
      rw [hqq] at hcore
      exact ⟨⟨#[]⟩, ⟨#[]⟩, hcore, fun h => (by cases h), Nat.zero_le _⟩
    | some p =>
      obtain ⟨n, r⟩ := p
      rw [hqq, sheetRV_some] at hcore
      rw [hqq] at hle
      have hle : (if r.head? = some 33 then r.tail else r).length ≤ s.data.toList.length := hle
      show ∃ nm rest : ByteArray, (∀ w, Calls _ _ _ w (Q (.tuple #[.string nm, .string rest, .bool ((r.head? == some 33) && Pl.sheetName n && !Pl.wordly n)]) w)) ∧ (((r.head? == some 33) && Pl.sheetName n && !Pl.wordly n) = true → nm = ⟨n.toArray⟩ ∧ rest = ⟨(if r.head? = some 33 then r.tail else r).toArray⟩) ∧ rest.size ≤ s.size
      cases hb : ((r.head? == some 33) && Pl.sheetName n && !Pl.wordly n) with
      | false =>
        rw [hb] at hcore
        exact ⟨⟨#[]⟩, ⟨#[]⟩, hcore, fun h => (by cases h), Nat.zero_le _⟩
      | true =>
        rw [hb] at hcore
        have h33 : r.head? = some 33 := by
          simp only [Bool.and_eq_true] at hb
          simpa using hb.1.1
        rw [if_pos h33] at hle ⊢
        exact ⟨⟨n.toArray⟩, ⟨r.tail.toArray⟩, hcore, fun _ => ⟨rfl, rfl⟩, by rw [size_mk]; exact hle⟩
  · obtain ⟨a1, ha1⟩ : ∃ a1, a1 = (s.data.toList.takeWhile (· != 33)).length := ⟨_, rfl⟩
    have hE := ends_of (· != 33) s 0 (Nat.zero_le _)
    rw [List.drop_zero, Nat.zero_add, ← ha1] at hE
    have hx : s.extract 0 a1 = ⟨(s.data.toList.takeWhile (· != 33)).toArray⟩ := by
      apply ByteArray.ext
      apply Array.toList_inj.1
      rw [ByteArray.data_extract, Array.toList_extract]
      show (s.data.toList.extract 0 a1) = s.data.toList.takeWhile (· != 33)
      rw [List.extract_eq_take_drop, List.drop_zero, Nat.sub_zero, ha1, Pl.take_takeWhile]
    have hsx : (s.extract 0 a1).size ≤ 4294967280 := by rw [ByteArray.size_extract]; omega
    have C1 := fun w => refPlain_any (s.extract 0 a1) w hsx
    have C2 := fun w => refSheetName_any (s.extract 0 a1) w
    have D1 : ∀ w, Calls Tryz.prog 229 #[.string (s.extract 0 a1)] w fun e w' => e = .returned (.bool (Pl.wordly (s.extract 0 a1).data.toList)) ∧ ∃ m, w' = w.drewN m := fun w =>
      refPlain_drew (s.extract 0 a1) w hsx
    have hcore := fun w => refSheet_bare s w hs (fun h e => hq (by rw [head_get s h]; congr 1; exact UInt8.toNat_inj.1 e)) a1 (Lib.hid hE) _ _ (Lib.hid C1) (Lib.hid D1) (Lib.hid C2) _ (Lib.hid rfl)
    have hF : sheetF s.data.toList = if s.data.toList.contains 33 then (s.data.toList.takeWhile (· != 33), (s.data.toList.dropWhile (· != 33)).tail, Pl.wordly (s.data.toList.takeWhile (· != 33)) && Pl.sheetName (s.data.toList.takeWhile (· != 33))) else ([], s.data.toList, true) := by
      unfold sheetF
      rw [if_neg hq]
    rw [hF, tw_contains, ← ha1, hl]
    by_cases hlt : a1 < s.size
    · rw [decide_eq_true hlt, if_pos rfl]
      have e1 : (s.extract 0 a1).data.toList = s.data.toList.takeWhile (· != 33) := by rw [hx]
      rw [if_pos hlt, e1] at hcore
      refine ⟨_, _, hcore, fun _ => ⟨hx, ?_⟩, by rw [ByteArray.size_extract]; omega⟩
      apply ByteArray.ext
      apply Array.toList_inj.1
      rw [Lib.extract_to_end, drop_cons_tail, ← ha1]
    · rw [decide_eq_false hlt, if_neg (by decide)]
      rw [if_neg hlt] at hcore
      exact ⟨_, _, hcore, fun _ => ⟨rfl, by rw [bytes_eq]⟩, Nat.le_refl _⟩

/-! ### Parse -/
def refParseRV (nm : ByteArray) (is wr th : Bool) (c r : Int) (ac ar : Bool) : Value :=
  if !is || !wr then .tuple #[refV ⟨#[]⟩ 0 0 false false, .int .i64 40] else if !th then .tuple #[refV ⟨#[]⟩ 0 0 false false, .int .i64 41] else .tuple #[refV nm c r ac ar, .int .i64 0]

set_option maxHeartbeats 4000000 in
theorem refParse_core (s nm rest : ByteArray) (is wr th : Bool) (cc cr : Int) (ca cb : Bool) (w : World)
    (C1 : Hid (∀ w, Calls Tryz.prog 194 #[.string s] w (Q (.tuple #[.string nm, .string rest, .bool is]) w)))
    (C2 : Hid (∀ w, Calls Tryz.prog 195 #[.string rest] w (Q (.tuple #[refV ⟨#[]⟩ cc cr ca cb, .bool wr, .bool th]) w))) :
    Calls Tryz.prog 149 #[.string s] w (Q (refParseRV nm is wr th cc cr ca cb) w) := by
  obtain ⟨R, hR⟩ : ∃ R, refParseRV nm is wr th cc cr ca cb = R := ⟨_, rfl⟩
  rw [hR]
  have HG := Lib.hid hR
  clear hR
  have R1 := Lib.hid (RefAt.new w ⟨#[]⟩ 0 0 false false)
  have HB := Lib.hid ((Below.refl w.heap.size w).alloc (Nat.le_refl _) (.cells #[.string ⟨#[]⟩, .int .i64 0, .int .i64 0, .bool false, .bool false] 32))
  go_enter Tryz.func149, Tryz.ntmps149
  go_wp2_with fail
  refine (C1.out _).mono ?_
  rintro e w1 ⟨rfl, hb⟩
  replace R1 := Lib.hid (R1.out.below hb)
  replace HB := Lib.hid (bt HB.out hb)
  clear hb C1
  go_wp2_with fail
  refine (C2.out _).mono ?_
  rintro e w2 ⟨rfl, hb⟩
  replace R1 := Lib.hid (R1.out.below hb)
  replace HB := Lib.hid (bt HB.out hb)
  clear hb C2
  obtain ⟨p0, p1, p2, p3, p4, pf, pl⟩ := R1.out
  by_cases hok : is = true ∧ wr = true ∧ th = true
  · obtain ⟨rfl, rfl, rfl⟩ := hok
    have HR : Hid (R = .tuple #[refV nm cc cr ca cb, .int .i64 0]) := by show _ = _; rw [← HG.out]; rfl
    clear HG
    go_wp2_with fail
    obtain ⟨t0, t1, t2, t3, t4, tf, tl⟩ := (R1.out.set5 nm cc cr ca cb).alloc (.cells #[.string nm, .int .i64 cc, .int .i64 cr, .bool ca, .bool cb] 32)
    rw [HR.out]
    exact bodyPost_ret (v := .tuple #[refV nm cc cr ca cb, .int .i64 0]) (by simp [results, Tryz.results149, go_sem, t0, t1, t2, t3, t4]) rfl ⟨rfl, (below_set5 HB.out (Nat.le_refl _) _ _ _ _ _).alloc (below_set5 HB.out (Nat.le_refl _) _ _ _ _ _).size _⟩
  · obtain ⟨er, her⟩ : ∃ er : Int, er = if !is || !wr then 40 else 41 := ⟨_, rfl⟩
    have HR : Hid (R = .tuple #[refV ⟨#[]⟩ 0 0 false false, .int .i64 er]) := by
      show _ = _; rw [← HG.out, her]; unfold refParseRV
      cases is <;> cases wr <;> cases th <;> simp_all
    clear HG
    cases is with
    | false =>
      have her' : er = 40 := her
      subst her'
      clear her
      go_wp2_with fail
      obtain ⟨t0, t1, t2, t3, t4, tf, tl⟩ := (R1.out.set5 ⟨#[]⟩ 0 0 false false).alloc (.cells #[.string ⟨#[]⟩, .int .i64 cc, .int .i64 cr, .bool ca, .bool cb] 32)
      rw [HR.out]
      exact bodyPost_ret (v := .tuple #[refV ⟨#[]⟩ 0 0 false false, .int .i64 40]) (by simp [results, Tryz.results149, go_sem, t0, t1, t2, t3, t4]) rfl ⟨rfl, (below_set5 HB.out (Nat.le_refl _) _ _ _ _ _).alloc (below_set5 HB.out (Nat.le_refl _) _ _ _ _ _).size _⟩
    | true =>
      cases wr with
      | false =>
        have her' : er = 40 := her
        subst her'
        clear her
        go_wp2_with fail
        obtain ⟨t0, t1, t2, t3, t4, tf, tl⟩ := (R1.out.set5 ⟨#[]⟩ 0 0 false false).alloc (.cells #[.string ⟨#[]⟩, .int .i64 cc, .int .i64 cr, .bool ca, .bool cb] 32)
        rw [HR.out]
        exact bodyPost_ret (v := .tuple #[refV ⟨#[]⟩ 0 0 false false, .int .i64 40]) (by simp [results, Tryz.results149, go_sem, t0, t1, t2, t3, t4]) rfl ⟨rfl, (below_set5 HB.out (Nat.le_refl _) _ _ _ _ _).alloc (below_set5 HB.out (Nat.le_refl _) _ _ _ _ _).size _⟩
      | true =>
        have hth : th = false := by
          cases th with
          | true => exact absurd ⟨rfl, rfl, rfl⟩ hok
          | false => rfl
        subst hth
        have her' : er = 41 := her
        subst her'
        clear her
        go_wp2_with fail
        obtain ⟨t0, t1, t2, t3, t4, tf, tl⟩ := (R1.out.set5 ⟨#[]⟩ 0 0 false false).alloc (.cells #[.string ⟨#[]⟩, .int .i64 cc, .int .i64 cr, .bool ca, .bool cb] 32)
        rw [HR.out]
        exact bodyPost_ret (v := .tuple #[refV ⟨#[]⟩ 0 0 false false, .int .i64 41]) (by simp [results, Tryz.results149, go_sem, t0, t1, t2, t3, t4]) rfl ⟨rfl, (below_set5 HB.out (Nat.le_refl _) _ _ _ _ _).alloc (below_set5 HB.out (Nat.le_refl _) _ _ _ _ _).size _⟩

theorem cellF_err (l : List UInt8) : (cellF l).1 = 0 ∨ (cellF l).1 = 40 ∨ (cellF l).1 = 41 := by
  unfold cellF cellG
  split
  · exact Or.inr (Or.inl rfl)
  · split
    · exact Or.inr (Or.inr rfl)
    · exact Or.inl rfl

theorem refParse_any (s : ByteArray) (w : World) (hs : s.size ≤ 4294967280) :
    Calls Tryz.prog 149 #[.string s] w (Q (parseV (parseF s.data.toList)) w) := by
  obtain ⟨nm, rest, h1, h2, h3⟩ := refSheet_any s hs
  obtain ⟨c, r, ac, ar, k1, k2⟩ := refCell_any rest (by omega)
  have h := refParse_core s nm rest _ _ _ c r ac ar w (Lib.hid h1) (Lib.hid k1)
  have e : refParseRV nm (sheetF s.data.toList).2.2 ((cellF rest.data.toList).1 != 40) ((cellF rest.data.toList).1 == 0) c r ac ar = parseV (parseF s.data.toList) := by
    unfold parseF parseG
    cases his : (sheetF s.data.toList).2.2 with
    | false => rfl
    | true =>
      obtain ⟨rfl, rfl⟩ := h2 his
      have er : (⟨(sheetF s.data.toList).2.1.toArray⟩ : ByteArray).data.toList = (sheetF s.data.toList).2.1 := rfl
      rw [er] at k2 ⊢
      unfold refParseRV
      rcases cellF_err (sheetF s.data.toList).2.1 with h | h | h
      · have hk := k2 h
        have e2 : (cellF (sheetF s.data.toList).2.1) = (0, c, r, ac, ar) := by rw [hk, ← h]
        rw [e2]; rfl
      · rw [h]; rfl
      · rw [h]; rfl
  rw [e] at h
  exact h
end Go.Proofs.YtfkiomjplpbmiaaGreatDoor

/- lex.Word, lex.Quote. -/
namespace Go.Proofs.YtfkiomjplpbmiaaGreatDoor
open Go.RowKit Go.Lib

theorem lexM_ne {one : List UInt8 → One} : ∀ (f k : Nat) (l : List UInt8) {a : Nat} {x : Int}, lexM one f k l = .error (a, x) → x ≠ 0
  | 0, _, _, _, _, h => by rw [lexM] at h; cases h
  | f + 1, _, [], _, _, h => by rw [lexM] at h; cases h
  | f + 1, k, c :: l, a, x, h => by
    rw [lexM] at h
    split at h
    · exact lexM_ne f _ l h
    · split at h
      · rename_i hne
        injection h with h; injection h with h1 h2; rw [← h2]; exact hne
      · split at h
        · rename_i y hy
          injection h with h; subst h
          exact lexM_ne f _ _ hy
        · cases h

def trueS : List UInt8 := [84, 82, 85, 69]
def falseS : List UInt8 := [70, 65, 76, 83, 69]
/-- Is a text a word? -/
def wordM (one : List UInt8 → One) (l : List UInt8) : Bool :=
  if l = trueS ∨ l = falseS ∨ 512 < l.length then false else
  match lexA one l with
  | .ok [(_, t)] => t.kind == 4 && t.s == l
  | _ => false

set_option maxRecDepth 100000 in
set_option maxHeartbeats 8000000 in
theorem word_keyword (s : ByteArray) (w : World) (b : Bool) (h1 : (s.toList == [84, 82, 85, 69]) = b) (h2 : b = false → (s.toList == [70, 65, 76, 83, 69]) = true) :
    Calls Tryz.prog 14 #[.string s] w (Q (.bool false) w) := by
  cases b with
  | true =>
    clear h2
    go_enter Tryz.func14, Tryz.ntmps14
    go_wp2_with fail
    go_ret
    exact ⟨rfl, Below.refl _ _⟩
  | false =>
    replace h2 := h2 rfl
    go_enter Tryz.func14, Tryz.ntmps14
    go_wp2_with fail
    go_ret
    exact ⟨rfl, Below.refl _ _⟩

set_option maxRecDepth 100000 in
set_option maxHeartbeats 8000000 in
theorem word_error (s : ByteArray) (w : World) (a x : Int) (h1 : (s.toList == [84, 82, 85, 69]) = false) (h2 : (s.toList == [70, 65, 76, 83, 69]) = false) (hx : (x == 0) = false)
    (C : Hid (∀ w, Glob w → Calls Tryz.prog 11 #[.string s] w (Q (.tuple #[.slice none 0 0, .int .i64 a, .int .i64 x]) w))) (hg : Glob w) :
    Calls Tryz.prog 14 #[.string s] w (Q (.bool false) w) := by
  have HG := Lib.hid hg
  clear hg
  go_enter Tryz.func14, Tryz.ntmps14
  go_wp2_with fail
  refine (C.out _ HG.out).mono ?_
  rintro e w1 ⟨rfl, hb⟩
  have HB := Lib.hid hb
  clear hb
  go_wp2_with fail
  go_ret
  exact ⟨rfl, HB.out⟩

set_option maxRecDepth 100000 in
set_option maxHeartbeats 8000000 in
theorem word_other (s : ByteArray) (w : World) (ts : List (Nat × Tok)) (n : Nat) (hn : ts.length = n) (h1 : (s.toList == [84, 82, 85, 69]) = false) (h2 : (s.toList == [70, 65, 76, 83, 69]) = false) (hx : ((n : Int) == 1) = false)
    (C : Hid (∀ w, Glob w → Calls Tryz.prog 11 #[.string s] w fun e w' => ∃ v, e = .returned (.tuple #[v, .int .i64 0, .int .i64 0]) ∧ TokS w' v ts ∧ Below w.heap.size w w')) (hg : Glob w) :
    Calls Tryz.prog 14 #[.string s] w (Q (.bool false) w) := by
  have HG := Lib.hid hg
  clear hg
  go_enter Tryz.func14, Tryz.ntmps14
  go_wp2_with fail
  refine (C.out _ HG.out).mono ?_
  rintro e w1 ⟨v, rfl, ht, hb⟩
  have HB := Lib.hid hb
  obtain ⟨ao, cap, rfl, _, _, _⟩ := ht
  rw [hn]
  clear hb hn C
  go_wp2_with fail
  go_ret
  exact ⟨rfl, HB.out⟩

set_option maxRecDepth 100000 in
set_option maxHeartbeats 8000000 in
theorem word_one_tok (s : ByteArray) (w : World) (k : Nat) (t : Tok) (S : ByteArray) (hS : (⟨t.s.toArray⟩ : ByteArray) = S) (h1 : (s.toList == [84, 82, 85, 69]) = false) (h2 : (s.toList == [70, 65, 76, 83, 69]) = false) (b1 b2 : Bool) (hb1 : (t.kind == 4) = b1) (hb2 : (S.toList == s.toList) = b2)
    (C : Hid (∀ w, Glob w → Calls Tryz.prog 11 #[.string s] w fun e w' => ∃ v, e = .returned (.tuple #[v, .int .i64 0, .int .i64 0]) ∧ TokS w' v [(k, t)] ∧ Below w.heap.size w w')) (hg : Glob w) :
    Calls Tryz.prog 14 #[.string s] w (Q (.bool (b1 && b2)) w) := by
  have HG := Lib.hid hg
  have HS := Lib.hid hS
  clear hg hS
  go_enter Tryz.func14, Tryz.ntmps14
  go_wp2_with fail
  refine (C.out _ HG.out).mono ?_
  rintro e w1 ⟨v, rfl, ht, hb⟩
  have HB := Lib.hid hb
  obtain ⟨g1, cap1, rfl, hn1, hm1, k1⟩ := ht.some (n := 1) rfl (by decide)
  have a0 := k1.c 0 _ rfl
  have a2 := k1.c 2 _ rfl
  rw [HS.out] at a2
  clear hb C k1 ht
  generalize t.kind = kd at *
  cases b1 with
  | false =>
    go_wp2_with fail
    go_ret
    exact ⟨rfl, HB.out⟩
  | true =>
    cases b2 with
    | false =>
      go_wp2_with fail
      go_ret
      exact ⟨rfl, HB.out⟩
    | true =>
      go_wp2_with fail
      go_ret
      exact ⟨rfl, HB.out⟩

theorem wordM_any {D : FD} {X : FX} (hD : DecIs D) (hX : XmlIs X) (s : ByteArray) (w : World) (hg : Glob w) :
    Calls Tryz.prog 14 #[.string s] w (Q (.bool (wordM (oneM parseF D X) s.data.toList)) w) := by
  have hsz : s.data.toList.length = s.size := rfl
  unfold wordM
  cases h1 : (s.toList == [84, 82, 85, 69]) with
  | true =>
    have e : s.data.toList = trueS := by rw [← Lib.toList_data]; simpa [trueS] using h1
    rw [if_pos (Or.inl e)]
    exact word_keyword s w true h1 (fun h => by cases h)
  | false =>
    cases h2 : (s.toList == [70, 65, 76, 83, 69]) with
    | true =>
      have e : s.data.toList = falseS := by rw [← Lib.toList_data]; simpa [falseS] using h2
      rw [if_pos (Or.inr (Or.inl e))]
      exact word_keyword s w false h1 (fun _ => h2)
    | false =>
      have e1 : ¬ s.data.toList = trueS := by rw [← Lib.toList_data]; simpa [trueS] using h1
      have e2 : ¬ s.data.toList = falseS := by rw [← Lib.toList_data]; simpa [falseS] using h2
      by_cases h3 : 512 < s.size
      · rw [if_pos (Or.inr (Or.inr (by omega)))]
        exact word_error s w 0 3 h1 h2 (by decide) (Lib.hid fun w _ => lex_long s w h3) hg
      · rw [if_neg (by rintro (h | h | h); exact e1 h; exact e2 h; omega)]
        cases hl : lexA (oneM parseF D X) s.data.toList with
        | error p =>
          obtain ⟨a, x⟩ := p
          exact word_error s w a x h1 h2 (by simpa using lexM_ne _ _ _ hl) (Lib.hid fun w hg => lex_err hD hX s w (by omega) hg hl) hg
        | ok ts =>
          have C := Lib.hid fun w hg => lex_ok hD hX s w (by omega) hg hl
          match ts, C with
          | [], C => exact word_other s w [] 0 rfl h1 h2 (by decide) C hg
          | [(k, t)], C =>
            have e : (t.s == s.data.toList) = ((⟨t.s.toArray⟩ : ByteArray).toList == s.toList) := by rw [Lib.toList_data, Lib.toList_data]
            show Calls _ _ _ _ (Q (.bool (t.kind == 4 && t.s == s.data.toList)) w)
            rw [e]
            exact word_one_tok s w k t _ rfl h1 h2 _ _ rfl rfl C hg
          | p :: q :: ts, C => exact word_other s w (p :: q :: ts) _ rfl h1 h2 (by rw [beq_eq_false_iff_ne, List.length_cons, List.length_cons]; omega) C hg

end Go.Proofs.YtfkiomjplpbmiaaGreatDoor

