/- The document's Parse of a number. -/
import Derived.Test.YtfkiomjplpbmiaaGreatDoorM11
namespace Go.Proofs.YtfkiomjplpbmiaaGreatDoor
open Go.RowKit Go.Lib

set_option maxRecDepth 100000 in
set_option maxHeartbeats 32000000 in
theorem r9p2 (s : ByteArray) (w : World) (V : Value) (hs : s.size ≤ 512) (neg : Bool) (i0 b0 : Nat) (wx : World) {u1 u7 u8 u9 u10 u11 u12 u13 u14 u15 u16 u17 u18 u19 u20 u21 u22 u23 u24 u25 u26 u27 u28 u29 u30 u31 u32 u33 u34 u35 u36 u37 u38 u39 u40 u41 u42 u43 u44 u45 u46 u47 u48 u49 u50 u51 u52 u53 u54 u55 u56 u57 u58 u59 u60 u61 u62 u63 u64 u65 u66 u67 u68 u69 u70 u71 u72 u73 u74 u75 u76 u77 u78 u79 u80 u81 u82 u83 u84 u85 u86 u87 u88 u89 u90 u91 u92 u93 u94 u95 u96 u97 u98 u99 u100 u101 u102 u103 u104 u105 u106 u107 u108 u109 u110 u111 u112 u113 u114 u115 u116 u117 u118 u119 u120 u121 u122 u123 u124 u125 u126 u127 u128 u129 u130 u131 u132 u133 u134 u135 u136 u137 u138 u139 u140 u141 u142 u143 u144 u145 u146 u147 u148 u149 u150 u151 u152 u153 u154 u155 u156 u157 u158 u159 u160 u161 u162 u163 u164 u165 u166 u167 u168 u169 u170 u171 u172 u173 u174 u175 u176 u177 u178 u179 u180 u181 u182 u183 u184 u185 u186 u187 u188 u189 u190 u191 u192 u193 u194 u195 u196 u197 u198 u199 u200 u201 u202 u203 u204 u205 u206 u207 u208 u209 : Value}
    (hk : i0 ≤ s.size)
    (HV : Hid (V = if dW (s.data.toList.drop i0) = [] then tupleV (40, 0, 0) else tupleV (partR neg (dW (s.data.toList.drop i0)) (dR (s.data.toList.drop i0)))))
    (HP : Hid (PM w wx 0)) (hws : b0 ≤ wx.heap.size) (hb0 : w.heap.size + 2 ≤ b0) :
    Code.wp Tryz.prog (tailC 6 (Tryz.f93.body.getD .skip)) (bodyPost Tryz.prog Tryz.f93 (Q V w)) ⟨List.toArray ((.string s) :: u1 :: (.pointer (some ⟨w.heap.size, 0, none⟩)) :: (.int .i64 0) :: (.pointer (some ⟨w.heap.size + 1, 0, none⟩)) :: (.int .i64 (i0 : Int)) :: (.bool neg) :: u7 :: u8 :: u9 :: u10 :: u11 :: u12 :: u13 :: u14 :: u15 :: u16 :: u17 :: u18 :: u19 :: u20 :: u21 :: u22 :: u23 :: u24 :: u25 :: u26 :: u27 :: u28 :: u29 :: u30 :: u31 :: u32 :: u33 :: u34 :: u35 :: u36 :: u37 :: u38 :: u39 :: u40 :: u41 :: u42 :: u43 :: u44 :: u45 :: u46 :: u47 :: u48 :: u49 :: u50 :: u51 :: u52 :: u53 :: u54 :: u55 :: u56 :: u57 :: u58 :: u59 :: u60 :: u61 :: u62 :: u63 :: u64 :: u65 :: u66 :: u67 :: u68 :: u69 :: u70 :: u71 :: u72 :: u73 :: u74 :: u75 :: u76 :: u77 :: u78 :: u79 :: u80 :: u81 :: u82 :: u83 :: u84 :: u85 :: u86 :: u87 :: u88 :: u89 :: u90 :: u91 :: u92 :: u93 :: u94 :: u95 :: u96 :: u97 :: u98 :: u99 :: u100 :: u101 :: u102 :: u103 :: u104 :: u105 :: u106 :: u107 :: u108 :: u109 :: u110 :: u111 :: u112 :: u113 :: u114 :: u115 :: u116 :: u117 :: u118 :: u119 :: u120 :: u121 :: u122 :: u123 :: u124 :: u125 :: u126 :: u127 :: u128 :: u129 :: u130 :: u131 :: u132 :: u133 :: u134 :: u135 :: u136 :: u137 :: u138 :: u139 :: u140 :: u141 :: u142 :: u143 :: u144 :: u145 :: u146 :: u147 :: u148 :: u149 :: u150 :: u151 :: u152 :: u153 :: u154 :: u155 :: u156 :: u157 :: u158 :: u159 :: u160 :: u161 :: u162 :: u163 :: u164 :: u165 :: u166 :: u167 :: u168 :: u169 :: u170 :: u171 :: u172 :: u173 :: u174 :: u175 :: u176 :: u177 :: u178 :: u179 :: u180 :: u181 :: u182 :: u183 :: u184 :: u185 :: u186 :: u187 :: u188 :: u189 :: u190 :: u191 :: u192 :: u193 :: u194 :: u195 :: u196 :: u197 :: u198 :: u199 :: u200 :: u201 :: u202 :: u203 :: u204 :: u205 :: u206 :: u207 :: u208 :: u209 :: []), []⟩ wx := by
  conv => arg 2; whnf
  have CD := Lib.hid r9digit
  have hsz : s.data.toList.length = s.size := rfl
  obtain ⟨X, hX⟩ : ∃ X, dW (s.data.toList.drop i0) = X := ⟨_, rfl⟩
  obtain ⟨l6, hl6⟩ : ∃ l6, dR (s.data.toList.drop i0) = l6 := ⟨_, rfl⟩
  have hXd : X.all Pl.digit = true := by rw [← hX]; exact dW_all _
  rw [hX, hl6] at HV
  have HXX := Lib.hid hX
  have HLL := Lib.hid hl6
  have HXD := Lib.hid hXd
  clear hX hl6 hXd
  go_upto_block 0 with (fail)
  go_cut [5, 7] (fun v5 v7 w' => ∃ (i : Nat), v5 = .int .i64 (i : Int) ∧ Hid (i = i0 + X.length) ∧ i ≤ s.size ∧ Hid (s.data.toList.drop i = l6) ∧ Hid (w'.ownsRow b0 3 1 v7 X.length (numsV (digN X))) ∧ Hid (PM w w' 0) ∧ b0 ≤ w'.heap.size)
  case first =>
    go_wp2_with fail
    go_loopg [5, 7] s.size (fun gf v5 v7 w' => ∃ (i : Nat) (pre : List UInt8), v5 = .int .i64 (i : Int) ∧ Hid (i = i0 + pre.length) ∧ pre.length ≤ i ∧ i ≤ s.size ∧ s.size ≤ i + gf ∧ Hid (pre ++ dW (s.data.toList.drop i) = X) ∧ Hid (dR (s.data.toList.drop i) = l6) ∧ Hid (w'.ownsRow b0 3 1 v7 pre.length (numsV (digN pre))) ∧ Hid (PM w w' 0) ∧ b0 ≤ w'.heap.size)
    case atStart => exact ⟨i0, [], rfl, rfl, by simp, hk, by omega, HXX.out, HLL.out, World.ownsRow_nil _ _ _ _, HP, hws⟩
    case round =>
      clear HXX HLL HP hws
      obtain ⟨i, pre, rfl, HI, hpi, his, hgi, HX, HL, HO, HP, hws⟩ := hrel
      go_upto_region 10 with (fail)
      go_cut [36] (fun v36 w' => v36 = .bool (!(dW (s.data.toList.drop i)).isEmpty) ∧ Below wr.heap.size wr w')
      case first =>
        by_cases hlt : i < s.size
        · have hdw := Lib.hid (dW_test s i hlt)
          go_wp2_with fail
          refine (CD.out _ _).mono ?_
          rintro e w1 ⟨rfl, hb⟩
          go_wp2_with fail
          go_meet
          exact ⟨by rw [hdw.out], hb⟩
        · have hdw : (!(dW (s.data.toList.drop i)).isEmpty) = false := by rw [List.drop_eq_nil_of_le (by omega)]; rfl
          have hdw := Lib.hid hdw
          go_wp2_with fail
          go_meet
          exact ⟨by rw [hdw.out], Below.refl _ _⟩
      obtain ⟨rfl, hb⟩ := hcut
      replace HO := Lib.hid (owns_below HO.out hb)
      replace HP := Lib.hid (HP.out.below hb)
      replace hws : b0 ≤ wc.heap.size := Nat.le_trans hws hb.size
      clear hb
      cases hdw : (dW (s.data.toList.drop i)).isEmpty with
      | true =>
        have hdn : dW (s.data.toList.drop i) = [] := by simpa using hdw
        have hX : pre = X := by rw [← HX.out, hdn, List.append_nil]
        have hl : s.data.toList.drop i = l6 := by rw [← HL.out, dR_none hdn]
        have HL2 := Lib.hid hl
        clear hdw hdn HX HL hl
        subst hX
        go_wp2_with fail
        go_meet
        exact ⟨i, rfl, HI, his, HL2, HO, HP, hws⟩
      | false =>
        have hlt : i < s.size := by
          rcases Nat.lt_or_ge i s.size with h | h
          · exact h
          · rw [List.drop_eq_nil_of_le (by omega)] at hdw; cases hdw
        obtain ⟨g', rfl⟩ : ∃ g', gk = g' + 1 := ⟨gk - 1, by omega⟩
        have hdt := dW_test s i hlt
        rw [hdw] at hdt
        have hcd : Pl.digit (s[i]'hlt) = true := hdt.symm
        have hdr := drop_get s i hlt
        have HX2 : Hid (pre ++ [s[i]'hlt] ++ dW (s.data.toList.drop (i + 1)) = X) := by
          show _ = _
          rw [← HX.out, hdr, dW_cons hcd, List.append_assoc]; rfl
        have HL2 : Hid (dR (s.data.toList.drop (i + 1)) = l6) := by
          show _ = _
          rw [← HL.out, hdr, dR_cons hcd]
        have u1 := u8_digit hcd
        rw [IntKind.wrap_u8] at u1
        obtain ⟨d, hd⟩ : ∃ d, (s[i]'hlt).toNat - 48 = d := ⟨_, rfl⟩
        rw [hd] at u1
        have HD := Lib.hid hd
        clear hdw hdt hcd hdr HX HL hd
        go_wp2_with ((at_builtin; refine own_append_b b0 rfl (.tmp 37) (.tmp 43) 186 3 (.int .i64 0) 8 rfl Tryz.underlying186 intInfo rfl _ pre.length (numsV (digN pre)) (.int .i64 (d : Int)) rfl rfl rfl HO.out hws (by omega) (by omega) ?_; intro v1 w2 ho hg; have hpm := HP.out.grown hg (fun k hk => by have := (HO.out.lt k hk).1; omega); have hw4 : b0 ≤ w2.heap.size := Nat.le_trans hws hg.size; have HO2 := Lib.hid ho; have HP2 := Lib.hid hpm; clear ho hg hpm))
        go_roundg g'
        case measure => omega
        case rel =>
          refine ⟨i + 1, pre ++ [s[i]'hlt], by go_num, by show _ = _; have := HI.out; rw [List.length_append, List.length_singleton]; omega, by rw [List.length_append, List.length_singleton]; omega, by omega, by omega, HX2, HL2, ?_, HP2, hw4⟩
          show World.ownsRow _ _ _ _ _ _ _
          rw [digN_snoc, numsV_snoc, HD.out, List.length_append]
          exact HO2.out
  obtain ⟨i, rfl, HI, his, HL6, HO2, HP2, hws2⟩ := hcut
  refine (by assumption : ∀ (a : Act) (w_1 : World), Code.wp Tryz.prog _ (bodyPost Tryz.prog Tryz.f93 (Q V w)) a w_1 → _) _ _ ?_
  clear HP hws
  by_cases hXe : X = []
  · have hv := HV.out
    rw [if_pos hXe] at hv
    have HV2 := Lib.hid hv
    have e1 : ((i : Int) == (i0 : Int)) = true := by rw [HI.out, hXe]; simp
    have s0 := HP2.out.r.c 0 _ rfl
    have s1 := HP2.out.r.c 1 _ rfl
    have sf := HP2.out.r.fz
    clear hv HV
    go_wp2_with fail
    exact ret_dec HP2.out.r HP2.out.bel (Nat.le_refl _) HV2.out rfl rfl rfl rfl
  · have hv := HV.out
    rw [if_neg hXe, ← HL6.out] at hv
    have HV2 := Lib.hid hv
    have e1 : ((i : Int) == (i0 : Int)) = false := by
      have := List.length_pos_iff.2 hXe
      have := HI.out
      rw [beq_eq_false_iff_ne]; omega
    clear hv HV
    go_upto_region 13 with (fail)
    go_cut [49] (fun v49 w' => v49 = .bool false ∧ wc = w')
    case first =>
      go_wp2_with fail
      go_meet
      exact ⟨rfl, rfl⟩
    obtain ⟨rfl, rfl⟩ := hcut
    go_upto_if 49 with (fail)
    go_cut [3] (fun v3 w' => v3 = .int .i64 0 ∧ wc = w')
    case first =>
      go_wp2_with fail
      go_meet
      exact ⟨rfl, rfl⟩
    obtain ⟨rfl, rfl⟩ := hcut
    refine (by assumption : ∀ (a : Act) (w_1 : World), Code.wp Tryz.prog _ (bodyPost Tryz.prog Tryz.f93 (Q V w)) a w_1 → _) _ _ ?_
    exact r9p3 s w V hs neg i X _ b0 _ his (by have := HI.out; omega) HXD.out HV2 HO2 HP2 hws2 hb0

set_option maxRecDepth 100000 in
set_option maxHeartbeats 32000000 in
theorem r9parse_walk (s : ByteArray) (w : World) (V : Value) (hs : s.size ≤ 512)
    (hV : V = .tuple #[.agg #[.int .i64 (parseR s.data.toList).2.1, .int .i64 (parseR s.data.toList).2.2], .int .i64 (parseR s.data.toList).1]) :
    Calls Tryz.prog 93 #[.string s] w (Q V w) := by
  have hsz : s.data.toList.length = s.size := rfl
  have CD := Lib.hid r9digit
  by_cases h255 : 255 < s.size
  · have d0 : decide (255 < s.size) = true := decide_eq_true h255
    have hv : V = .tuple #[.agg #[.int .i64 0, .int .i64 0], .int .i64 40] := by rw [hV]; unfold parseR; rw [if_pos (by omega)]
    have HV := Lib.hid hv
    have r1 := At.new w #[.int .i64 0, .int .i64 0] 30
    have hb := (Below.refl w.heap.size w).alloc (Nat.le_refl _) (.cells #[.int .i64 0, .int .i64 0] 30)
    have s0 := r1.c 0 _ rfl
    have s1 := r1.c 1 _ rfl
    have sf := r1.fz
    have R1 := Lib.hid r1
    have HB := Lib.hid hb
    clear hv hV r1 hb
    go_enter Tryz.func93, Tryz.ntmps93
    go_upto_region 0 with (fail)
    go_cut [2, 3] (fun v2 v3 wx => v2 = .pointer (some ⟨w.heap.size, 0, none⟩) ∧ v3 = .int .i64 0 ∧ At wx w.heap.size [.int .i64 0, .int .i64 0] ∧ Below w.heap.size w wx)
    case first =>
      go_wp2_with fail
      go_meet
      exact ⟨rfl, rfl, R1.out, HB.out⟩
    obtain ⟨rfl, rfl, r1, hb⟩ := hcut
    clear s0 s1 sf R1 HB
    have s0 := r1.c 0 _ rfl
    have s1 := r1.c 1 _ rfl
    have sf := r1.fz
    go_wp2_with fail
    exact ret_dec r1 hb (Nat.le_refl _) HV.out rfl rfl rfl rfl
  · have d0 : decide (255 < s.size) = false := decide_eq_false h255
    obtain ⟨neg, hneg⟩ : ∃ neg, (s.data.toList.head? == some 45) = neg := ⟨_, rfl⟩
    obtain ⟨i0, hi0⟩ : ∃ i0 : Nat, (if neg then 1 else 0) = i0 := ⟨_, rfl⟩
    have hcut0 : pCut 45 s.data.toList = s.data.toList.drop i0 := by
      unfold pCut
      rw [hneg, ← hi0]
      cases neg with
      | true => rw [if_pos rfl, if_pos rfl, List.drop_one]
      | false => rw [if_neg (by decide), if_neg (by decide), List.drop_zero]
    have hi1 : i0 ≤ s.size := by
      rw [← hi0]
      cases neg with
      | false => simp
      | true =>
        rw [if_pos rfl]
        cases h : s.data.toList with
        | nil => rw [h] at hneg; cases hneg
        | cons a l => rw [h] at hsz; simp at hsz; omega
    have hv : V = (if dW (s.data.toList.drop i0) = [] then .tuple #[.agg #[.int .i64 0, .int .i64 0], .int .i64 40] else .tuple #[.agg #[.int .i64 (partR neg (dW (s.data.toList.drop i0)) (dR (s.data.toList.drop i0))).2.1, .int .i64 (partR neg (dW (s.data.toList.drop i0)) (dR (s.data.toList.drop i0))).2.2], .int .i64 (partR neg (dW (s.data.toList.drop i0)) (dR (s.data.toList.drop i0))).1]) := by
      rw [hV]; unfold parseR
      rw [if_neg (by omega), hcut0, hneg]
      split <;> rfl
    have HV := Lib.hid hv
    have HNEG := Lib.hid hneg
    have HI0 := Lib.hid hi0
    clear hV hcut0 hv hneg hi0
    have a1 := (At.new w #[.int .i64 0, .int .i64 0] 30).alloc (.cells #[.bool false, .slice none 0 0, .int .i64 0] 190)
    have a2 := At.new (w.alloc (.cells #[.int .i64 0, .int .i64 0] 30)) #[.bool false, .slice none 0 0, .int .i64 0] 190
    have hb := ((Below.refl w.heap.size w).alloc (Nat.le_refl _) (.cells #[.int .i64 0, .int .i64 0] 30)).alloc (by simp) (.cells #[.bool false, .slice none 0 0, .int .i64 0] 190)
    rw [show (w.alloc (.cells #[.int .i64 0, .int .i64 0] 30)).heap.size = w.heap.size + 1 by simp] at a2
    have PM0 := Lib.hid (⟨a1, a2, hb⟩ : PM w _ 0)
    clear a1 a2 hb
    go_enter Tryz.func93, Tryz.ntmps93
    go_upto_region 3 with (fail)
    go_cut [2, 3, 4] (fun v2 v3 v4 wx => v2 = .pointer (some ⟨w.heap.size, 0, none⟩) ∧ v3 = .int .i64 0 ∧ v4 = .pointer (some ⟨w.heap.size + 1, 0, none⟩) ∧ PM w wx 0 ∧ w.heap.size + 2 ≤ wx.heap.size)
    case first =>
      go_wp2_with fail
      go_meet
      exact ⟨rfl, rfl, rfl, PM0.out, by simp⟩
    obtain ⟨rfl, rfl, rfl, pm, hw2⟩ := hcut
    clear PM0
    have PM0 := Lib.hid pm
    clear pm
    go_upto_region 5 with (fail)
    go_cut [5, 6] (fun v5 v6 wx => v5 = .int .i64 0 ∧ v6 = .bool neg ∧ wc = wx)
    case first =>
      by_cases h0 : 0 < s.size
      · have hh := at_head s 0 h0
        rw [List.drop_zero] at hh
        have e1 : (((s[0]'h0).toNat : Int) == 45) = neg := by
          rw [← HNEG.out, hh, show (45 : Int) = ((45 : UInt8).toNat : Int) from rfl, eq_byte]; rfl
        have d1 : decide ((0 : Int) < (s.size : Int)) = true := decide_eq_true (by omega)
        clear hh
        go_wp2_with fail
        go_meet
        exact ⟨rfl, by rw [← e1], rfl⟩
      · have d1 : decide ((0 : Int) < (s.size : Int)) = false := decide_eq_false (by omega)
        have hng : neg = false := by
          rw [← HNEG.out]
          have : s.data.toList = [] := List.eq_nil_of_length_eq_zero (by omega)
          rw [this]; rfl
        go_wp2_with fail
        go_meet
        exact ⟨rfl, by rw [hng], rfl⟩
    obtain ⟨rfl, rfl, rfl⟩ := hcut
    go_upto_if 25 with (fail)
    go_cut [5] (fun v5 wx => v5 = .int .i64 (i0 : Int) ∧ wc = wx)
    case first =>
      cases neg with
      | true =>
        have hi : i0 = 1 := by rw [← HI0.out]; rfl
        go_wp2_with fail
        go_meet
        exact ⟨by rw [hi]; rfl, rfl⟩
      | false =>
        have hi : i0 = 0 := by rw [← HI0.out]; rfl
        go_wp2_with fail
        go_meet
        exact ⟨by rw [hi]; rfl, rfl⟩
    obtain ⟨rfl, rfl⟩ := hcut
    refine (by assumption : ∀ (a : Act) (w_1 : World), Code.wp Tryz.prog _ (bodyPost Tryz.prog Tryz.f93 (Q V w)) a w_1 → _) _ _ ?_
    have hv9 : V = if dW (s.data.toList.drop i0) = [] then tupleV (40, 0, 0) else tupleV (partR neg (dW (s.data.toList.drop i0)) (dR (s.data.toList.drop i0))) := HV.out
    exact r9p2 s w V hs neg i0 (w.heap.size + 2) _ hi1 (Lib.hid hv9) PM0 hw2 (Nat.le_refl _)

theorem r9parse (s : ByteArray) (w : World) (hs : s.size ≤ 512) :
    Calls Tryz.prog 93 #[.string s] w (Q (.tuple #[.agg #[.int .i64 (parseR s.data.toList).2.1, .int .i64 (parseR s.data.toList).2.2], .int .i64 (parseR s.data.toList).1]) w) := r9parse_walk s w _ hs rfl
end Go.Proofs.YtfkiomjplpbmiaaGreatDoor

