/- lex.number's walk. -/
import Derived.Test.YtegjainidiaeaaaGreatDoorLb
import Derived.Deep.DeepCutAuto
namespace Go.Proofs.YtegjainidiaeaaaGreatDoor
open Go.RowKit Go.Lib

theorem ext_drop (s : ByteArray) (n : Nat) : (s.extract n s.size).data.toList = s.data.toList.drop n := Lib.extract_to_end s n
theorem ext_le (s : ByteArray) (n : Nat) : (s.extract n s.size).size ≤ s.size := by rw [ByteArray.size_extract]; omega

set_option maxRecDepth 100000 in
set_option maxHeartbeats 8000000 in
theorem number_core (s : ByteArray) (w : World) (hs : s.size ≤ 512) (n d1 d2 : Nat) (dot : Bool) (h1 : n ≤ s.size)
    (C1 : Hid (∀ w, Calls Tryz.prog 24 #[.string s, .string ⟨#[48, 49, 50, 51, 52, 53, 54, 55, 56, 57]⟩] w (Q (.int .i64 n) w)))
    (C2 : Hid (∀ w, Calls Tryz.prog 25 #[.string (s.extract n s.size), .string ⟨#[46]⟩] w fun e w' => e = .returned (.bool dot) ∧ w = w'))
    (hdot : dot = true → n + 1 + d1 ≤ s.size)
    (C3 : Hid (∀ w, Calls Tryz.prog 24 #[.string (s.extract (n + 1) s.size), .string ⟨#[48, 49, 50, 51, 52, 53, 54, 55, 56, 57]⟩] w (Q (.int .i64 d1) w)))
    (b1 : Bool) (hb1 : b1 = (dot && decide (0 < d1))) (np : Nat) (hnp0 : b1 = false → np = n) (hnp1 : b1 = true → np = n + 1 + d1) (r : ByteArray) (hr : r = s.extract np s.size) (hnp : np ≤ s.size) (isE : Bool) (hE0 : r.size = 0 → isE = false) (hE1 : ∀ h : 0 < r.size, (bits .or .u8 ((r[0]'h).toNat : Int) 32 != 101) = !isE)
    (sg : Bool) (hS0 : r.size ≤ 1 → sg = false) (hS1 : ∀ h : 1 < r.size, sg = (((r[1]'h).toNat : Int) == 43 || ((r[1]'h).toNat : Int) == 45)) (k : Nat) (hk : k = if sg then 2 else 1)
    (C4 : Hid (∀ w, Calls Tryz.prog 24 #[.string (r.extract k r.size), .string ⟨#[48, 49, 50, 51, 52, 53, 54, 55, 56, 57]⟩] w (Q (.int .i64 d2) w))) (hd2 : d2 ≤ 512)
    (V : Value) (hV : V = .int .i64 (if isE = true ∧ 0 < d2 then ((np + k + d2 : Nat) : Int) else (np : Int))) :
    Calls Tryz.prog 15 #[.string s] w (Q V w) := by
  have hdot2 : b1 = true → n + 1 + d1 ≤ s.size := fun h => hdot (by rw [hb1] at h; revert h; cases dot <;> simp)
  have HB1 := Lib.hid hb1
  have hrs : r.size ≤ 512 := by rw [hr, ByteArray.size_extract]; omega
  have HR := Lib.hid hr
  have HV := Lib.hid hV
  have HK := Lib.hid hk
  have HE0 := Lib.hid hE0
  have HE1 := Lib.hid hE1
  have HS0 := Lib.hid hS0
  have HS1 := Lib.hid hS1
  have HP0 := Lib.hid hnp0
  have HP1 := Lib.hid hnp1
  have HD := Lib.hid hdot
  have HD2 := Lib.hid hdot2
  clear hb1 hr hV hk hE0 hE1 hS0 hS1 hnp0 hnp1 hdot hdot2
  go_enter Tryz.func15, Tryz.ntmps15
  go_wp2_with fail
  refine (C1.out _).mono ?_
  rintro e w1 ⟨rfl, hb⟩
  have HB := Lib.hid hb
  clear hb
  go_upto_region 2 with (fail)
  go_cut [20] (fun v20 wx => v20 = .bool b1 ∧ Below w.heap.size w wx)
  case first =>
    go_wp2_with fail
    refine (C2.out _).mono ?_
    rintro e w2 ⟨rfl, rfl⟩
    cases dot with
    | false =>
      go_wp2_with fail
      go_meet
      exact ⟨by rw [HB1.out]; rfl, HB.out⟩
    | true =>
      have hd := HD.out rfl
      go_wp2_with fail
      refine (C3.out _).mono ?_
      rintro e w2 ⟨rfl, hb⟩
      go_wp2_with fail
      go_meet
      exact ⟨by rw [HB1.out]; simp, bt HB.out hb⟩
  case rest =>
    obtain ⟨rfl, hb⟩ := hcut
    replace HB := Lib.hid hb
    clear hb
    go_upto_if 20 with (fail)
    go_cut [3] (fun v3 wx => v3 = .int .i64 (np : Int) ∧ Below w.heap.size w wx)
    case first =>
      cases b1 with
      | false =>
        have hn := HP0.out rfl
        have HN := Lib.hid hn
        clear hn
        go_wp2_with fail
        go_meet
        exact ⟨by rw [HN.out], HB.out⟩
      | true =>
        have hn := HP1.out rfl
        have hd := HD2.out rfl
        have HN := Lib.hid hn
        clear hn
        go_wp2_with fail
        refine (C3.out _).mono ?_
        rintro e w2 ⟨rfl, hb⟩
        have HB2 := Lib.hid (bt HB.out hb)
        clear hb
        go_wp2_with fail
        go_meet
        exact ⟨by rw [HN.out]; congr 1; omega, HB2.out⟩
    case rest =>
      obtain ⟨rfl, hb⟩ := hcut
      replace HB := Lib.hid hb
      clear hb
      go_upto_region 4 with (fail)
      go_cut [4] (fun v4 wx => v4 = .string r ∧ Below w.heap.size w wx)
      case first =>
        go_wp2_with fail
        go_meet
        exact ⟨by rw [HR.out], HB.out⟩
      case rest =>
        obtain ⟨rfl, hb⟩ := hcut
        replace HB := Lib.hid hb
        clear hb
        go_upto_region 5 with (fail)
        go_cut [39] (fun v39 wx => v39 = .bool (!isE) ∧ Below w.heap.size w wx)
        case first =>
          by_cases h0 : r.toList = []
          · have hz : r.size = 0 := by
              have h := toList_nil.1 h0
              show r.data.size = 0
              have h2 : r.data.toList.length = 0 := by rw [h]; rfl
              simpa using h2
            have hi := HE0.out hz
            have he : r.toList.isEmpty = true := by rw [h0]; rfl
            clear h0
            subst hi
            go_wp2_with fail
            go_meet
            exact ⟨rfl, HB.out⟩
          · obtain ⟨he, _, h1z⟩ := isEmpty_nil h0
            have hE := HE1.out h1z
            clear h0
            cases isE with
            | true =>
              have hE' : (bits .or .u8 ((r[0]'h1z).toNat : Int) 32 != 101) = false := hE
              have hE2 : (bits .or .u8 ((r[0]'h1z).toNat : Int) 32 == 101) = true := by simpa using hE'
              go_wp2_with fail
              go_meet
              exact ⟨rfl, HB.out⟩
            | false =>
              have hE' : (bits .or .u8 ((r[0]'h1z).toNat : Int) 32 != 101) = true := hE
              have hE2 : (bits .or .u8 ((r[0]'h1z).toNat : Int) 32 == 101) = false := by simpa using hE'
              go_wp2_with fail
              go_meet
              exact ⟨rfl, HB.out⟩
        case rest =>
          obtain ⟨rfl, hb⟩ := hcut
          replace HB := Lib.hid hb
          clear hb
          cases isE with
          | false =>
            have HV' : Hid (V = .int .i64 (np : Int)) := by show _ = _; rw [HV.out]; simp
            clear HV
            go_wp2_with fail
            go_ret
            exact ⟨by rw [HV'.out]; rfl, HB.out⟩
          | true =>
            have hz : 0 < r.size := by
              rcases Nat.eq_zero_or_pos r.size with h | h
              · have := HE0.out h; cases this
              · exact h
            have hkr : k ≤ r.size := by
              rw [HK.out]
              cases hsg : sg with
              | false => simp; omega
              | true =>
                rcases Nat.lt_or_ge 1 r.size with h | h
                · simp; omega
                · have := HS0.out h; rw [hsg] at this; cases this
            go_upto_region 8 with (fail)
            go_cut [56] (fun v56 wx => v56 = .bool sg ∧ Below w.heap.size w wx)
            case first =>
              by_cases h1z : 1 < r.size
              · have hs1 := HS1.out h1z
                cases e1 : (((r[1]'h1z).toNat : Int) == 43) with
                | true =>
                  rw [e1] at hs1
                  have hs1' : sg = true := hs1
                  subst hs1'
                  clear hs1
                  go_wp2_with fail
                  go_meet
                  exact ⟨rfl, HB.out⟩
                | false =>
                  rw [e1, Bool.false_or] at hs1
                  cases e2 : (((r[1]'h1z).toNat : Int) == 45) with
                  | true =>
                    rw [e2] at hs1
                    subst hs1
                    go_wp2_with fail
                    go_meet
                    exact ⟨rfl, HB.out⟩
                  | false =>
                    rw [e2] at hs1
                    subst hs1
                    go_wp2_with fail
                    go_meet
                    exact ⟨rfl, HB.out⟩
              · have hs1 := HS0.out (by omega)
                subst hs1
                have d1 : decide (1 < (r.size : Int)) = false := by rw [decide_eq_false_iff_not]; omega
                go_wp2_with fail
                go_meet
                exact ⟨rfl, HB.out⟩
            case rest =>
              obtain ⟨rfl, hb⟩ := hcut
              replace HB := Lib.hid hb
              clear hb
              go_upto_if 56 with (fail)
              go_cut [5] (fun v5 wx => v5 = .int .i64 (k : Int) ∧ Below w.heap.size w wx)
              case first =>
                cases sg with
                | true =>
                  go_wp2_with fail
                  go_meet
                  exact ⟨by rw [HK.out]; rfl, HB.out⟩
                | false =>
                  go_wp2_with fail
                  go_meet
                  exact ⟨by rw [HK.out]; rfl, HB.out⟩
              case rest =>
                obtain ⟨rfl, hb⟩ := hcut
                replace HB := Lib.hid hb
                clear hb
                go_wp2_with fail
                refine (C4.out _).mono ?_
                rintro e w2 ⟨rfl, hb⟩
                replace HB := Lib.hid (bt HB.out hb)
                clear hb
                by_cases hd0 : 0 < d2
                · have HV' : Hid (V = .int .i64 ((np + k + d2 : Nat) : Int)) := by show _ = _; rw [HV.out]; simp [hd0]
                  have dd : decide (0 < d2) = true := decide_eq_true hd0
                  clear HV
                  go_wp2_with fail
                  go_ret
                  exact ⟨by rw [HV'.out]; congr 2, HB.out⟩
                · have HV' : Hid (V = .int .i64 (np : Int)) := by show _ = _; rw [HV.out]; simp [hd0]
                  have dd : decide (0 < d2) = false := decide_eq_false hd0
                  clear HV
                  go_wp2_with fail
                  go_ret
                  exact ⟨by rw [HV'.out]; rfl, HB.out⟩
end Go.Proofs.YtegjainidiaeaaaGreatDoor
