/- lex.mark. -/
import Derived.Test.YtegjainidiaeaaaGreatDoorLj
namespace Go.Proofs.YtegjainidiaeaaaGreatDoor
open Go.RowKit Go.Lib

abbrev two3 : Value := .agg #[.string ⟨#[60, 62]⟩, .string ⟨#[60, 61]⟩, .string ⟨#[62, 61]⟩]
theorem two3_0 (w : World) : (Instr.index 74 two3 (.int .i64 0)).run Tryz.prog w = .ok (.string ⟨#[60, 62]⟩) w := by kernel_rfl
theorem two3_1 (w : World) : (Instr.index 74 two3 (.int .i64 1)).run Tryz.prog w = .ok (.string ⟨#[60, 61]⟩) w := by kernel_rfl
theorem two3_2 (w : World) : (Instr.index 74 two3 (.int .i64 2)).run Tryz.prog w = .ok (.string ⟨#[62, 61]⟩) w := by kernel_rfl

set_option maxRecDepth 100000 in
set_option maxHeartbeats 8000000 in
theorem lexMark_core (s : ByteArray) (c : UInt8) (b0 b1 b2 b3 b4 : Bool) (w : World) (hs : 1 ≤ s.size)
    (hc : s.extract 0 1 = ⟨#[c]⟩)
    (C0 : Hid (∀ w, Calls Tryz.prog 25 #[.string s, .string ⟨#[35, 82, 69, 70, 33]⟩] w fun e w' => e = .returned (.bool b0) ∧ w' = w))
    (C1 : Hid (∀ w, Calls Tryz.prog 25 #[.string s, .string ⟨#[60, 62]⟩] w fun e w' => e = .returned (.bool b1) ∧ w' = w))
    (C2 : Hid (∀ w, Calls Tryz.prog 25 #[.string s, .string ⟨#[60, 61]⟩] w fun e w' => e = .returned (.bool b2) ∧ w' = w))
    (C3 : Hid (∀ w, Calls Tryz.prog 25 #[.string s, .string ⟨#[62, 61]⟩] w fun e w' => e = .returned (.bool b3) ∧ w' = w))
    (C4 : Hid (∀ w, Calls Tryz.prog 14 #[.string markS, .string ⟨#[c]⟩] w fun e w' => e = .returned (.bool b4) ∧ w' = w))
    (V : Value) (HV0 : Hid (b0 = true → V = .tuple #[tok10 6 0 ⟨#[]⟩ 0 0 ⟨#[]⟩ 0 0 false false, .int .i64 5, .int .i64 0]))
    (HV1 : Hid (b0 = false → b1 = true → V = .tuple #[tok10 5 0 ⟨#[60, 62]⟩ 0 0 ⟨#[]⟩ 0 0 false false, .int .i64 2, .int .i64 0]))
    (HV2 : Hid (b0 = false → b1 = false → b2 = true → V = .tuple #[tok10 5 0 ⟨#[60, 61]⟩ 0 0 ⟨#[]⟩ 0 0 false false, .int .i64 2, .int .i64 0]))
    (HV3 : Hid (b0 = false → b1 = false → b2 = false → b3 = true → V = .tuple #[tok10 5 0 ⟨#[62, 61]⟩ 0 0 ⟨#[]⟩ 0 0 false false, .int .i64 2, .int .i64 0]))
    (HV4 : Hid (b0 = false → b1 = false → b2 = false → b3 = false → b4 = true → V = .tuple #[tok10 5 0 ⟨#[c]⟩ 0 0 ⟨#[]⟩ 0 0 false false, .int .i64 1, .int .i64 0]))
    (HV5 : Hid (b0 = false → b1 = false → b2 = false → b3 = false → b4 = false → V = .tuple #[.agg zero10, .int .i64 0, .int .i64 40])) :
    Calls Tryz.prog 20 #[.string s] w (Q V w) := by
  have r1 := (zero10_new w).1
  have HB := Lib.hid (zero10_new w).2
  have HC := Lib.hid hc
  clear hc
  go_enter Tryz.func20, Tryz.ntmps20
  go_upto_region 1 with (fail)
  go_cut [8] (fun v8 wx => v8 = .bool b0 ∧ At wx w.heap.size zero10.toList ∧ Below w.heap.size w wx)
  case first =>
    go_wp2_with fail
    refine (C0.out _).mono ?_
    rintro e w1 ⟨rfl, rfl⟩
    go_wp2_with fail
    go_meet
    exact ⟨rfl, r1, HB.out⟩
  clear r1 HB
  obtain ⟨rfl, r1, hb⟩ := hcut
  have HB := Lib.hid hb
  clear hb
  cases b0 with
  | true =>
    replace HV0 := Lib.hid (HV0.out rfl)
    obtain ⟨p0, p1, p2, p3, p4, p5, p6, p7, p8, p9⟩ := r1.ten
    have pf := r1.fz
    go_wp2_with fail
    exact ret_tok r1 rfl HB.out (Nat.le_refl _) HV0.out rfl rfl rfl rfl rfl
  | false =>
    replace HV1 := Lib.hid (HV1.out rfl)
    replace HV2 := Lib.hid (HV2.out rfl)
    replace HV3 := Lib.hid (HV3.out rfl)
    replace HV4 := Lib.hid (HV4.out rfl)
    replace HV5 := Lib.hid (HV5.out rfl)
    clear HV0 C0
    have R1 := Lib.hid r1
    clear r1
    go_wp2_with fail
    go_loopg [11] 4 (fun gf v11 wx => ∃ i : Nat, v11 = .int .i64 (i : Int) ∧ i < 4 ∧ 3 < i + gf ∧ Hid ((1 ≤ i → b1 = false) ∧ (2 ≤ i → b2 = false) ∧ (3 ≤ i → b3 = false)) ∧ Hid (At wx w.heap.size zero10.toList) ∧ Below w.heap.size w wx)
    case atStart => exact ⟨0, rfl, by omega, by omega, ⟨fun h => by omega, fun h => by omega, fun h => by omega⟩, R1.out, HB.out⟩
    case round =>
      obtain ⟨i, rfl, hi, hgf, HI, R2, hbw⟩ := hrel
      replace HB := Lib.hid hbw
      clear hbw R1
      obtain ⟨g', rfl⟩ : ∃ g', gk = g' + 1 := ⟨gk - 1, by omega⟩
      have r1 := R2.out
      match i, hi with
      | 0, _ =>
        have hx := two3_0
        cases b1 with
        | true =>
          replace HV1 := Lib.hid (HV1.out rfl)
          obtain ⟨p0, p1, p2, p3, p4, p5, p6, p7, p8, p9⟩ := r1.ten
          have pf := r1.fz
          go_wp2_with fail
          refine (C1.out _).mono ?_
          rintro e w1 ⟨rfl, rfl⟩
          go_wp2_with fail
          try rw [Exit.noGoto_ret]
          exact ret_tok r1 rfl HB.out (Nat.le_refl _) HV1.out rfl rfl rfl rfl rfl
        | false =>
          clear r1
          go_wp2_with fail
          refine (C1.out _).mono ?_
          rintro e w1 ⟨rfl, rfl⟩
          go_wp2_with fail
          go_roundg g'
          case measure => omega
          case rel => exact ⟨1, rfl, by omega, by omega, ⟨fun _ => by trivial, fun h => by omega, fun h => by omega⟩, R2, HB.out⟩
      | 1, _ =>
        have hx := two3_1
        have hb1 := HI.out.1 (Nat.le_refl 1)
        replace HV2 := Lib.hid (HV2.out hb1)
        cases b2 with
        | true =>
          replace HV2 := Lib.hid (HV2.out rfl)
          obtain ⟨p0, p1, p2, p3, p4, p5, p6, p7, p8, p9⟩ := r1.ten
          have pf := r1.fz
          go_wp2_with fail
          refine (C2.out _).mono ?_
          rintro e w1 ⟨rfl, rfl⟩
          go_wp2_with fail
          try rw [Exit.noGoto_ret]
          exact ret_tok r1 rfl HB.out (Nat.le_refl _) HV2.out rfl rfl rfl rfl rfl
        | false =>
          clear r1
          go_wp2_with fail
          refine (C2.out _).mono ?_
          rintro e w1 ⟨rfl, rfl⟩
          go_wp2_with fail
          go_roundg g'
          case measure => omega
          case rel => exact ⟨2, rfl, by omega, by omega, ⟨fun _ => hb1, fun _ => by trivial, fun h => by omega⟩, R2, HB.out⟩
      | 2, _ =>
        have hx := two3_2
        have hb1 := HI.out.1 (by omega)
        have hb2 := HI.out.2.1 (Nat.le_refl 2)
        replace HV3 := Lib.hid (HV3.out hb1 hb2)
        cases b3 with
        | true =>
          replace HV3 := Lib.hid (HV3.out rfl)
          obtain ⟨p0, p1, p2, p3, p4, p5, p6, p7, p8, p9⟩ := r1.ten
          have pf := r1.fz
          go_wp2_with fail
          refine (C3.out _).mono ?_
          rintro e w1 ⟨rfl, rfl⟩
          go_wp2_with fail
          try rw [Exit.noGoto_ret]
          exact ret_tok r1 rfl HB.out (Nat.le_refl _) HV3.out rfl rfl rfl rfl rfl
        | false =>
          clear r1
          go_wp2_with fail
          refine (C3.out _).mono ?_
          rintro e w1 ⟨rfl, rfl⟩
          go_wp2_with fail
          go_roundg g'
          case measure => omega
          case rel => exact ⟨3, rfl, by omega, by omega, ⟨fun _ => hb1, fun _ => hb2, fun _ => by trivial⟩, R2, HB.out⟩
      | 3, _ =>
        obtain ⟨hb1, hb2, hb3⟩ : b1 = false ∧ b2 = false ∧ b3 = false := ⟨HI.out.1 (by omega), HI.out.2.1 (by omega), HI.out.2.2 (by omega)⟩
        replace HV4 := Lib.hid (HV4.out hb1 hb2 hb3)
        replace HV5 := Lib.hid (HV5.out hb1 hb2 hb3)
        clear hb1 hb2 hb3 HI
        obtain ⟨p0, p1, p2, p3, p4, p5, p6, p7, p8, p9⟩ := r1.ten
        have pf := r1.fz
        go_wp2_with fail
        rw [HC.out]
        refine (C4.out _).mono ?_
        rintro e w1 ⟨rfl, rfl⟩
        cases b4 with
        | true =>
          replace HV4 := Lib.hid (HV4.out rfl)
          go_wp2_with fail
          rw [HC.out]
          exact ret_tok r1 rfl HB.out (Nat.le_refl _) HV4.out rfl rfl rfl rfl rfl
        | false =>
          replace HV5 := Lib.hid (HV5.out rfl)
          go_wp2_with fail
          exact ret_tok r1 rfl HB.out (Nat.le_refl _) HV5.out rfl rfl rfl rfl rfl

theorem lexMark_any (s : ByteArray) (c : UInt8) (l : List UInt8) (w : World) (h : s.data.toList = c :: l) :
    Calls Tryz.prog 20 #[.string s] w (Q (oneV (markOne s.data.toList)) w) := by
  have C0 := fun w => Tryz.strings_HasPrefix s ⟨#[35, 82, 69, 70, 33]⟩ w
  have C1 := fun w => Tryz.strings_HasPrefix s ⟨#[60, 62]⟩ w
  have C2 := fun w => Tryz.strings_HasPrefix s ⟨#[60, 61]⟩ w
  have C3 := fun w => Tryz.strings_HasPrefix s ⟨#[62, 61]⟩ w
  have C4 := fun w => contains_byte markS c w
  have hh : s.data.toList.headD 0 = c := by rw [h]; rfl
  have ht : s.data.toList.take 1 = [c] := by rw [h]; rfl
  have e0 : Lib.hasPrefix s.data.toList (⟨#[35, 82, 69, 70, 33]⟩ : ByteArray).data.toList = ([35, 82, 69, 70, 33] : List UInt8).isPrefixOf s.data.toList := rfl
  have e1 : Lib.hasPrefix s.data.toList (⟨#[60, 62]⟩ : ByteArray).data.toList = ([60, 62] : List UInt8).isPrefixOf s.data.toList := rfl
  have e2 : Lib.hasPrefix s.data.toList (⟨#[60, 61]⟩ : ByteArray).data.toList = ([60, 61] : List UInt8).isPrefixOf s.data.toList := rfl
  have e3 : Lib.hasPrefix s.data.toList (⟨#[62, 61]⟩ : ByteArray).data.toList = ([62, 61] : List UInt8).isPrefixOf s.data.toList := rfl
  rw [e0] at C0
  rw [e1] at C1
  rw [e2] at C2
  rw [e3] at C3
  refine lexMark_core s c _ _ _ _ _ w (by rw [size_of h]; omega) (ext1 h) (Lib.hid C0) (Lib.hid C1) (Lib.hid C2) (Lib.hid C3) (Lib.hid C4) _ (Lib.hid fun h0 => ?_) (Lib.hid fun h0 h1 => ?_) (Lib.hid fun h0 h1 h2 => ?_) (Lib.hid fun h0 h1 h2 h3 => ?_) (Lib.hid fun h0 h1 h2 h3 h4 => ?_) (Lib.hid fun h0 h1 h2 h3 h4 => ?_)
  all_goals unfold markOne
  · rw [if_pos h0]; rfl
  · rw [if_neg (by rw [h0]; decide), if_pos h1]; rfl
  · rw [if_neg (by rw [h0]; decide), if_neg (by rw [h1]; decide), if_pos h2]; rfl
  · rw [if_neg (by rw [h0]; decide), if_neg (by rw [h1]; decide), if_neg (by rw [h2]; decide), if_pos h3]; rfl
  · rw [if_neg (by rw [h0]; decide), if_neg (by rw [h1]; decide), if_neg (by rw [h2]; decide), if_neg (by rw [h3]; decide), hh, if_pos (show isM c = true from h4), ht]; rfl
  · rw [if_neg (by rw [h0]; decide), if_neg (by rw [h1]; decide), if_neg (by rw [h2]; decide), if_neg (by rw [h3]; decide), hh, if_neg (by show ¬ isM c = true; rw [show isM c = false from h4]; decide)]; rfl
end Go.Proofs.YtegjainidiaeaaaGreatDoor
