/- lex.Lex, over what dec.Parse and utf.Xml answer. -/
import Derived.Test.YtegjainidiaeaaaGreatDoorLl
namespace Go.Proofs.YtegjainidiaeaaaGreatDoor
open Go.RowKit Go.Lib

/-- What is asked of dec.Parse: that it answers, and what. -/
def DecIs (D : FD) : Prop := ∀ (t : ByteArray) (w : World), t.size ≤ 512 → Glob w → Calls Tryz.prog 16 #[.string t] w (Q (.tuple #[.agg #[.int .i64 (D t.data.toList).2.1, .int .i64 (D t.data.toList).2.2], .int .i64 (D t.data.toList).1]) w)

theorem byte_no {c d : UInt8} (h : c ≠ d) : (c == d) = false := by simpa using h
theorem byte_yes {c d : UInt8} (h : c = d) : (c == d) = true := by simpa using h
/-- One token as Go hands it back, its cells apart. -/
abbrev oneW (o : One) : Value := .tuple #[tok10 o.1.kind 0 ⟨o.1.s.toArray⟩ o.1.c o.1.e ⟨o.1.r.1.toArray⟩ o.1.r.2.1 o.1.r.2.2.1 o.1.r.2.2.2.1 o.1.r.2.2.2.2, .int .i64 o.2.1, .int .i64 o.2.2]
theorem digS_contains (c : UInt8) : (⟨#[48, 49, 50, 51, 52, 53, 54, 55, 56, 57]⟩ : ByteArray).data.toList.contains c = Pl.digit c := congrFun digs_contains c

set_option maxRecDepth 100000 in
set_option maxHeartbeats 8000000 in
theorem lex_core (s : ByteArray) (D : FD) (X : FX) (hD : DecIs D) (hX : XmlIs X) (w : World) (hs : s.size ≤ 512) (hg : Glob w) (R : Ending → World → Prop)
    (HR1 : Hid (∀ a x w', lexA (oneM parseF D X) s.data.toList = .error (a, x) → Below w.heap.size w w' → R (.returned (.tuple #[.slice none 0 0, .int .i64 ((a : Nat) : Int), .int .i64 x])) w'))
    (HR2 : Hid (∀ ts v w', lexA (oneM parseF D X) s.data.toList = .ok ts → w'.ownsRow w.heap.size 34 10 v ts.length (cellsT ts) → Below w.heap.size w w' → R (.returned (.tuple #[v, .int .i64 0, .int .i64 0])) w')) :
    Calls Tryz.prog 7 #[.string s] w R := by
  have HG := Lib.hid hg
  have HD := Lib.hid hD
  have HX := Lib.hid hX
  have hs0 : decide (512 < s.size) = false := decide_eq_false (by omega)
  clear hg hD hX
  go_enter Tryz.func7, Tryz.ntmps7
  go_wp2_with fail
  go_step3
  go_wp2_with fail
  go_step3
  go_wp2_with fail
  go_loopg [5, 6] s.size (fun gf v5 v6 wx => ∃ (k : Nat) (acc : List (Nat × Tok)), v6 = .int .i64 (k : Int) ∧ k ≤ s.size ∧ s.size ≤ k + gf ∧ acc.length ≤ k ∧ Hid (wx.ownsRow w.heap.size 34 10 v5 acc.length (cellsT acc)) ∧ Below w.heap.size w wx ∧ Hid (contL acc (lexM (oneM parseF D X) (s.data.toList.length - k) k (s.data.toList.drop k)) = lexA (oneM parseF D X) s.data.toList))
  case atStart => exact ⟨0, [], rfl, by omega, by omega, by simp, World.ownsRow_nil _ _ _ _, Below.refl _ _, by
    show contL [] (lexM _ s.data.toList.length 0 s.data.toList) = lexM _ _ _ _
    cases lexM (oneM parseF D X) s.data.toList.length 0 s.data.toList <;> rfl⟩
  case round =>
    obtain ⟨k, acc, rfl, hk, hgf, hacc, HO, hbw, HQ⟩ := hrel
    have HB := Lib.hid hbw
    clear hbw
    have hsz : s.data.toList.length = s.size := rfl
    by_cases hlt : k < s.size
    · obtain ⟨c, l, hcl⟩ : ∃ c l, s.data.toList.drop k = c :: l := by
        cases h : s.data.toList.drop k with
        | nil => have := congrArg List.length h; rw [List.length_drop] at this; simp at this; omega
        | cons c l => exact ⟨c, l, rfl⟩
      obtain ⟨r, hr⟩ : ∃ r, s.extract k s.size = r := ⟨_, rfl⟩
      have hrl : r.data.toList = c :: l := by rw [← hr, ext_drop, hcl]
      have hrz : r.size = s.size - k := by rw [← hr, ByteArray.size_extract]; omega
      have hr1 := ext1 hrl
      have HR := Lib.hid hr
      have HE1 := Lib.hid hr1
      have HL := Lib.hid hrl
      obtain ⟨g', rfl⟩ : ∃ g', gk = g' + 1 := ⟨gk - 1, by omega⟩
      clear hr hr1 hrl
      go_upto_region 10 with (fail)
      go_cut [7, 8, 9, 10, 11] (fun v7 v8 v9 v10 v11 wx => v7 = .string r ∧ v8 = .pointer (some ⟨wr.heap.size, 0, none⟩) ∧ v9 = .int .i64 0 ∧ v10 = .int .i64 0 ∧ v11 = .string ⟨#[c]⟩ ∧ At wx wr.heap.size zero10.toList ∧ Below wr.heap.size wr wx)
      case first =>
        rw [HR.out]
        go_wp2_with fail
        rw [HE1.out]
        go_wp2_with fail
        go_meet
        exact ⟨rfl, rfl, rfl, rfl, rfl, (zero10_new wr).1, (zero10_new wr).2⟩
      case rest =>
        obtain ⟨rfl, rfl, rfl, rfl, rfl, r1, hb⟩ := hcut
        have R1 := Lib.hid r1
        have HA := Lib.hid hb
        clear r1 hb
        by_cases h32 : c = 32
        · subst h32
          have HQ2 := Lib.hid ((step_blank acc _ l k hcl).symm.trans HQ.out)
          clear hcl HQ hsz
          go_wp2_with fail
          go_roundg g'
          case measure => omega
          case rel => exact ⟨k + 1, acc, by go_num, by omega, by omega, by omega, owns_below HO.out HA.out, bt HB.out HA.out, HQ2⟩
        · have e32 := byte_no h32
          obtain ⟨o, ho⟩ : ∃ o, oneM parseF D X (c :: l) = o := ⟨_, rfl⟩
          have HOO := Lib.hid ho
          have hzr : r.size ≤ 512 := by omega
          have hgx := HG.out.below (bt HB.out HA.out)
          have HGX := Lib.hid hgx
          have cd := fun w => contains_byte ⟨#[48, 49, 50, 51, 52, 53, 54, 55, 56, 57]⟩ c w
          rw [digS_contains] at cd
          have CD := Lib.hid cd
          clear hgx cd
          go_upto_block 2 with (fail)
          go_cut [6, 8, 9, 10] (fun v6 v8 v9 v10 wx => v6 = .int .i64 (k : Int) ∧ v8 = .pointer (some ⟨wr.heap.size, 0, none⟩) ∧ v9 = .int .i64 (o.2.1 : Int) ∧ v10 = .int .i64 o.2.2 ∧ At wx wr.heap.size (o.1.cells 0) ∧ Below wr.heap.size wr wx)
          case first =>
            clear HQ
            cases hdg : Pl.digit c with
            | true =>
              rw [hdg] at CD
              have hn := fun w => number_any r w hzr
              have hle := numN_le (c :: l)
              have hz2 : (c :: l).length = r.size := by rw [← HL.out]; rfl
              have hd := fun w hg => HD.out (r.extract 0 (numN (c :: l))) w (by rw [ByteArray.size_extract]; omega) hg
              have he : (r.extract 0 (numN (c :: l))).data.toList = (c :: l).take (numN (c :: l)) := by
                rw [ByteArray.data_extract, Array.toList_extract, List.extract_eq_take_drop, HL.out]; simp
              rw [he] at hd
              rw [HL.out] at hn
              have hon := one_num (P := parseF) (D := D) (X := X) (l := l) hdg
              rw [ho] at hon
              have hlo : numN (c :: l) ≤ r.size := by omega
              have HON := Lib.hid hon
              have CN := Lib.hid hn
              have CP := Lib.hid hd
              clear hn hd he hon hdg hz2 hle ho HL h32
              go_wp2_with fail
              refine (CD.out _).mono ?_
              rintro e w1 ⟨rfl, rfl⟩
              go_wp2_with fail
              refine (CN.out _).mono ?_
              rintro e w2 ⟨rfl, hb⟩
              have r1 := R1.out.below hb
              replace HA := Lib.hid (bt HA.out hb)
              have r2 : At (w2.setCell ⟨wr.heap.size, 0, none⟩ (.int .i64 1)) wr.heap.size [.int .i64 1, .int .i64 0, .string ⟨#[]⟩, .int .i64 0, .int .i64 0, .string ⟨#[]⟩, .int .i64 0, .int .i64 0, .bool false, .bool false] := r1.set 0 (by decide) _
              have hb2 := HA.out.setCell (p := ⟨wr.heap.size, 0, none⟩) (Nat.le_refl _) (.int .i64 1)
              have hg2 := HG.out.below (bt HB.out hb2)
              have R2 := Lib.hid r2
              have HA2 := Lib.hid hb2
              have HG2 := Lib.hid hg2
              obtain ⟨p0, p1, p2, p3, p4, p5, p6, p7, p8, p9⟩ := r1.ten
              have pf := r1.fz
              clear r2 hb2 hg2 hb r1
              go_wp2_with fail
              refine (CP.out _ HG2.out).mono ?_
              rintro e w3 ⟨rfl, hb⟩
              have r3 := R2.out.below hb
              have HA3 := Lib.hid (bt HA2.out hb)
              clear p0 p1 p2 p3 p4 p5 p6 p7 p8 p9 pf hb
              obtain ⟨p0, p1, p2, p3, p4, p5, p6, p7, p8, p9⟩ := r3.ten
              have pf := r3.fz
              go_wp2_with fail
              go_meet
              rw [HON.out]
              exact ⟨rfl, rfl, rfl, rfl, (r3.set 3 (by simp) _).set 4 (by simp) _, (HA3.out.setCell (p := ⟨wr.heap.size, 3, none⟩) (Nat.le_refl _) _).setCell (p := ⟨wr.heap.size, 4, none⟩) (Nat.le_refl _) _⟩
            | false =>
              rw [hdg] at CD
              by_cases h34 : c = 34
              · have e34 := byte_yes h34
                have cc := fun w hg => lexText_any X HX.out r l w hzr (by rw [HL.out, h34]) hg
                rw [HL.out, ← one_text hdg h34, ho] at cc
                have CC : Hid (∀ w, Glob w → Calls Tryz.prog 17 #[.string r] w (Q (oneW o) w)) := cc
                clear cc ho HL h34 h32 hdg
                go_wp2_with fail
                refine (CD.out _).mono ?_
                rintro e w1 ⟨rfl, rfl⟩
                go_wp2_with fail
                refine (CC.out _ HGX.out).mono ?_
                rintro e w2 ⟨rfl, hb⟩
                have r1 := R1.out.below hb
                replace HA := Lib.hid (bt HA.out hb)
                obtain ⟨p0, p1, p2, p3, p4, p5, p6, p7, p8, p9⟩ := r1.ten
                have pf := r1.fz
                go_wp2_with fail
                go_meet
                exact ⟨rfl, rfl, rfl, rfl, (ret10 r1 rfl HA.out (Nat.le_refl _) _ _ _ _ _ _ _ _ _ _).1, (ret10 r1 rfl HA.out (Nat.le_refl _) _ _ _ _ _ _ _ _ _ _).2⟩
              · have e34 := byte_no h34
                by_cases h39 : c = 39
                · have e39 := byte_yes h39
                  have cc := fun w hg => lexSheet_any r l w hzr (by rw [HL.out, h39]) hg
                  rw [HL.out, ← one_sheet (D := D) (X := X) hdg h34 h39, ho] at cc
                  have CC : Hid (∀ w, Glob w → Calls Tryz.prog 18 #[.string r] w (Q (oneW o) w)) := cc
                  clear cc ho HL h34 h39 h32 hdg
                  go_wp2_with fail
                  refine (CD.out _).mono ?_
                  rintro e w1 ⟨rfl, rfl⟩
                  go_wp2_with fail
                  refine (CC.out _ HGX.out).mono ?_
                  rintro e w2 ⟨rfl, hb⟩
                  have r1 := R1.out.below hb
                  replace HA := Lib.hid (bt HA.out hb)
                  obtain ⟨p0, p1, p2, p3, p4, p5, p6, p7, p8, p9⟩ := r1.ten
                  have pf := r1.fz
                  go_wp2_with fail
                  go_meet
                  exact ⟨rfl, rfl, rfl, rfl, (ret10 r1 rfl HA.out (Nat.le_refl _) _ _ _ _ _ _ _ _ _ _).1, (ret10 r1 rfl HA.out (Nat.le_refl _) _ _ _ _ _ _ _ _ _ _).2⟩
                · have e39 := byte_no h39
                  have cl := fun w => contains_byte lettS c w
                  have CL := Lib.hid cl
                  clear cl
                  by_cases h36 : c = 36
                  · have e36 := byte_yes h36
                    have cc := fun w hg => lexWord_any r w hzr hg
                    rw [HL.out, ← one_word (D := D) (X := X) hdg h34 h39 (Or.inl h36), ho] at cc
                    have CC : Hid (∀ w, Glob w → Calls Tryz.prog 19 #[.string r] w (Q (oneW o) w)) := cc
                    clear cc ho HL h34 h39 h36 h32 hdg
                    go_wp2_with fail
                    refine (CD.out _).mono ?_
                    rintro e w1 ⟨rfl, rfl⟩
                    go_wp2_with fail
                    refine (CC.out _ HGX.out).mono ?_
                    rintro e w2 ⟨rfl, hb⟩
                    have r1 := R1.out.below hb
                    replace HA := Lib.hid (bt HA.out hb)
                    obtain ⟨p0, p1, p2, p3, p4, p5, p6, p7, p8, p9⟩ := r1.ten
                    have pf := r1.fz
                    go_wp2_with fail
                    go_meet
                    exact ⟨rfl, rfl, rfl, rfl, (ret10 r1 rfl HA.out (Nat.le_refl _) _ _ _ _ _ _ _ _ _ _).1, (ret10 r1 rfl HA.out (Nat.le_refl _) _ _ _ _ _ _ _ _ _ _).2⟩
                  · have e36 := byte_no h36
                    cases hl : isL c with
                    | true =>
                      have hl2 : lettS.data.toList.contains c = true := hl
                      rw [hl2] at CL
                      have cc := fun w hg => lexWord_any r w hzr hg
                      rw [HL.out, ← one_word (D := D) (X := X) hdg h34 h39 (Or.inr hl), ho] at cc
                      have CC : Hid (∀ w, Glob w → Calls Tryz.prog 19 #[.string r] w (Q (oneW o) w)) := cc
                      clear cc ho HL h34 h39 h36 h32 hdg hl hl2
                      go_wp2_with fail
                      refine (CD.out _).mono ?_
                      rintro e w1 ⟨rfl, rfl⟩
                      go_wp2_with fail
                      refine (CL.out _).mono ?_
                      rintro e w1 ⟨rfl, rfl⟩
                      go_wp2_with fail
                      refine (CC.out _ HGX.out).mono ?_
                      rintro e w2 ⟨rfl, hb⟩
                      have r1 := R1.out.below hb
                      replace HA := Lib.hid (bt HA.out hb)
                      obtain ⟨p0, p1, p2, p3, p4, p5, p6, p7, p8, p9⟩ := r1.ten
                      have pf := r1.fz
                      go_wp2_with fail
                      go_meet
                      exact ⟨rfl, rfl, rfl, rfl, (ret10 r1 rfl HA.out (Nat.le_refl _) _ _ _ _ _ _ _ _ _ _).1, (ret10 r1 rfl HA.out (Nat.le_refl _) _ _ _ _ _ _ _ _ _ _).2⟩
                    | false =>
                      have hl2 : lettS.data.toList.contains c = false := hl
                      rw [hl2] at CL
                      have cc := fun w => lexMark_any r c l w HL.out
                      rw [HL.out, ← one_mark (P := parseF) (D := D) (X := X) hdg h34 h39 h36 hl, ho] at cc
                      have CC : Hid (∀ w, Glob w → Calls Tryz.prog 20 #[.string r] w (Q (oneW o) w)) := fun w _ => cc w
                      clear cc ho HL h34 h39 h36 h32 hdg hl hl2
                      go_wp2_with fail
                      refine (CD.out _).mono ?_
                      rintro e w1 ⟨rfl, rfl⟩
                      go_wp2_with fail
                      refine (CL.out _).mono ?_
                      rintro e w1 ⟨rfl, rfl⟩
                      go_wp2_with fail
                      refine (CC.out _ HGX.out).mono ?_
                      rintro e w2 ⟨rfl, hb⟩
                      have r1 := R1.out.below hb
                      replace HA := Lib.hid (bt HA.out hb)
                      obtain ⟨p0, p1, p2, p3, p4, p5, p6, p7, p8, p9⟩ := r1.ten
                      have pf := r1.fz
                      go_wp2_with fail
                      go_meet
                      exact ⟨rfl, rfl, rfl, rfl, (ret10 r1 rfl HA.out (Nat.le_refl _) _ _ _ _ _ _ _ _ _ _).1, (ret10 r1 rfl HA.out (Nat.le_refl _) _ _ _ _ _ _ _ _ _ _).2⟩
          case rest =>
            obtain ⟨rfl, rfl, rfl, rfl, r1, hb⟩ := hcut
            replace HA := Lib.hid hb
            have R3 := Lib.hid r1
            clear r1 hb R1 CD
            have hre := oneM_fits parseF D X
            cases he : (o.2.2 == 0) with
            | false =>
              have hne : (oneM parseF D X (c :: l)).2.2 ≠ 0 := by rw [ho]; simpa using he
              have hq := (step_err acc _ l c k hcl h32 hne).symm.trans HQ.out
              rw [ho] at hq
              have HQ2 := Lib.hid hq
              have he2 : (o.2.2 != 0) = true := by simp [bne, he]
              clear hq hne hre ho HQ hcl h32 e32
              generalize o.2.2 = ek at *
              go_wp2_with fail
              try rw [Exit.noGoto_ret]
              exact bodyPost_ret (v := .tuple #[.slice none 0 0, .int .i64 (k : Int), .int .i64 ek]) (by simp [results, Tryz.results7, go_sem]) rfl (HR1.out k ek _ HQ2.out.symm (bt HB.out HA.out))
            | true =>
              have he0 : (oneM parseF D X (c :: l)).2.2 = 0 := by rw [ho]; simpa using he
              have hfit := hre c l he0
              have hq := (step_ok hre acc _ l c k hcl h32 he0).symm.trans HQ.out
              rw [ho] at hq hfit
              have hcz : (c :: l).length = s.size - k := by rw [← hcl, List.length_drop]; omega
              rw [hcz] at hfit
              have HQ2 := Lib.hid hq
              have HI := Lib.hid hfit
              have he2 : (o.2.2 != 0) = false := by simp [bne, he]
              clear hq he0 hre ho HQ hcl h32 e32 hfit hcz
              obtain ⟨⟨tk, ts, tc, te, tsh, tco, tro, tac, tar⟩, tn, ek⟩ := o
              have hnn := HI.out
              clear HOO
              obtain ⟨S, hS⟩ : ∃ S : ByteArray, (⟨ts.toArray⟩ : ByteArray) = S := ⟨_, rfl⟩
              obtain ⟨SH, hSH⟩ : ∃ S : ByteArray, (⟨tsh.toArray⟩ : ByteArray) = S := ⟨_, rfl⟩
              have r3 : At wc wr.heap.size [.int .i64 tk, .int .i64 0, .string S, .int .i64 tc, .int .i64 te, .string SH, .int .i64 tco, .int .i64 tro, .bool tac, .bool tar] := by
                rw [← hS, ← hSH]; exact R3.out
              have HC : Hid ((⟨tk, ts, tc, te, tsh, tco, tro, tac, tar⟩ : Tok).cells (k : Int) = [.int .i64 tk, .int .i64 (k : Int), .string S, .int .i64 tc, .int .i64 te, .string SH, .int .i64 tco, .int .i64 tro, .bool tac, .bool tar]) := by
                show _ = _
                rw [← hS, ← hSH]; rfl
              obtain ⟨p0, p1, p2, p3, p4, p5, p6, p7, p8, p9⟩ := r3.ten
              have pf := r3.fz
              have R4 := Lib.hid (r3.set 1 (by simp) (.int .i64 (k : Int)))
              clear r3 R3 hS hSH
              go_upto_region 26 with (fail)
              go_cut [8] (fun v8 wx => v8 = .pointer (some ⟨wr.heap.size, 0, none⟩) ∧ At wx wr.heap.size [.int .i64 tk, .int .i64 (k : Int), .string S, .int .i64 tc, .int .i64 te, .string SH, .int .i64 tco, .int .i64 tro, .bool tac, .bool tar] ∧ Below wr.heap.size wr wx)
              case first =>
                go_wp2_with fail
                go_meet
                exact ⟨rfl, R4.out, HA.out.setCell (p := ⟨wr.heap.size, 1, none⟩) (Nat.le_refl _) _⟩
              case rest =>
                obtain ⟨rfl, r3, hb⟩ := hcut
                replace HA := Lib.hid hb
                clear hb p0 p1 p2 p3 p4 p5 p6 p7 p8 p9 pf R4
                obtain ⟨p0, p1, p2, p3, p4, p5, p6, p7, p8, p9⟩ := r3.ten
                have pf := r3.fz
                clear r3
                obtain ⟨i0, hi, hz0, hz1, hz2⟩ := info_parts tokInfo
                have HOW := Lib.hid (owns_below HO.out HA.out)
                have hzs : w.heap.size ≤ wc.heap.size := Nat.le_trans HB.out.size HA.out.size
                go_wp2_with (at_builtin; refine wpList_append_own _ rfl _ _ 22 rfl w.heap.size 34 i0 (.agg zero10) 10 88 Tryz.underlying22 hi hz0 hz1 hz2 rfl (by decide) _ _ _ rfl (HOW.out.alloc _) ⟨wc.heap.size, 0, none⟩ 1 1 [.int .i64 tk, .int .i64 (k : Int), .string S, .int .i64 tc, .int .i64 te, .string SH, .int .i64 tco, .int .i64 tro, .bool tac, .bool tar] rfl rfl ?c1 ?c2 ?c3 ?c4 ?c5 ?_)
                case c2 => exact ⟨rfl, rfl, rfl, rfl, rfl, rfl, rfl, rfl, rfl, rfl⟩
                case c3 => unfold maxLen; omega
                case c4 => omega
                case c5 => omega
                · intro v' w1 hown' hgrow _
                  have hal : Below wc.heap.size wc (wc.alloc (.cells #[.int .i64 tk, .int .i64 (k : Int), .string S, .int .i64 tc, .int .i64 te, .string SH, .int .i64 tco, .int .i64 tro, .bool tac, .bool tar] 34)) := (Below.refl _ _).alloc (Nat.le_refl _) _
                  have HB4 := Lib.hid (below_grown (bt (bt HB.out HA.out) hal) (HOW.out.alloc _) (Nat.le_refl _) hgrow)
                  have HO4 : Hid (w1.ownsRow w.heap.size 34 10 v' (acc ++ [(k, (⟨tk, ts, tc, te, tsh, tco, tro, tac, tar⟩ : Tok))]).length (cellsT (acc ++ [(k, (⟨tk, ts, tc, te, tsh, tco, tro, tac, tar⟩ : Tok))]))) := by
                    show World.ownsRow _ _ _ _ _ _ _
                    rw [cellsT_snoc, HC.out, List.length_append]
                    exact hown'
                  clear hal hown' hgrow HOW p0 p1 p2 p3 p4 p5 p6 p7 p8 p9 pf hi hz0 hz1 hz2
                  go_wp2_with fail
                  go_roundg g'
                  case measure => omega
                  case rel => exact ⟨k + tn, acc ++ [(k, ⟨tk, ts, tc, te, tsh, tco, tro, tac, tar⟩)], by go_num, by omega, by omega, by rw [List.length_append, List.length_singleton]; omega, HO4, HB4.out, HQ2⟩
    · have hk2 : k = s.size := by omega
      have hq : lexA (oneM parseF D X) s.data.toList = .ok acc := by
        rw [← HQ.out, List.drop_eq_nil_of_le (by omega), show s.data.toList.length - k = 0 by omega, lexM, contL, List.append_nil]
      have HQ2 := Lib.hid hq
      clear hq hk2 HQ
      go_wp2_with fail
      try rw [Exit.noGoto_ret]
      exact bodyPost_ret (v := .tuple #[u5, .int .i64 0, .int .i64 0]) (by simp [results, Tryz.results7, go_sem]) rfl (HR2.out acc _ _ HQ2.out HO.out HB.out)
end Go.Proofs.YtegjainidiaeaaaGreatDoor
