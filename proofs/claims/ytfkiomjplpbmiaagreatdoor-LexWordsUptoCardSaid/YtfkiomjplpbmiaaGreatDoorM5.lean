/- The document's Lex. -/
import Derived.Test.YtfkiomjplpbmiaaGreatDoorM4
import Derived.Test.YtfkiomjplpbmiaaGreatDoorLqM
import Derived.Deep.QuietTactic
import Derived.BigQuiet
import Derived.Test.YtfkiomjplpbmiaaGreatDoorM3
namespace Go.Proofs.YtfkiomjplpbmiaaGreatDoor
open Go.RowKit Go.Lib

theorem rtokInfo : (Tryz.prog.info? 35).map (fun i => (i.zero, i.size, i.bytes)) = some (some (.agg zero10), 10, 88) := by kernel_rfl

/-- A token that is one: its kind is not 0. -/
theorem one_kind (P : FP) (D : FD) (X : FX) (l : List UInt8) (h : (oneM P D X l).2.2 = 0) : (oneM P D X l).1.kind ≠ 0 := by
  revert h
  unfold oneM
  split
  · intro _ e; cases e
  · split
    · unfold textOne
      split
      · intro h; cases h
      · split
        · intro h; cases h
        · intro _ e; cases e
    · split
      · unfold sheetOne
        split
        · intro h; cases h
        · split
          · intro _ e; cases e
          · intro h; cases h
      · split
        · unfold wordOne
          split
          · intro _ e; cases e
          · split
            · intro _ e; cases e
            · split
              · intro h; cases h
              · intro _ e; cases e
        · unfold markOne
          split
          · intro _ e; cases e
          · split
            · intro _ e; cases e
            · split
              · intro _ e; cases e
              · split
                · intro _ e; cases e
                · split
                  · intro _ e; cases e
                  · intro h; cases h

set_option maxRecDepth 100000 in
set_option maxHeartbeats 8000000 in
theorem rlex_core (s : ByteArray) (D : FD) (X : FX) (hP : RefParseIs) (hD : DecRefIs D) (hX : XmlRefIs X) (w : World) (hs : s.size ≤ 512) (R : Ending → World → Prop)
    (HR1 : Hid (∀ a x w', lexA (oneM parseF D X) s.data.toList = .error (a, x) → Below w.heap.size w w' → R (.returned (.tuple #[.slice none 0 0, .int .i64 ((a : Nat) : Int), .int .i64 x])) w'))
    (HR2 : Hid (∀ ts v w', lexA (oneM parseF D X) s.data.toList = .ok ts → w'.ownsRow w.heap.size 35 10 v ts.length (cellsT ts) → Below w.heap.size w w' → R (.returned (.tuple #[v, .int .i64 0, .int .i64 0])) w')) :
    Calls Tryz.prog 12 #[.string s] w R := by
  have CO := Lib.hid (fun i w (hi : i < s.size) => r11one_any hP hD hX s i w hs hi)
  have hs0 : decide (512 < s.size) = false := decide_eq_false (by omega)
  clear hP hD hX
  go_enter Tryz.func12, Tryz.ntmps12
  go_wp2_with fail
  go_wp2_with fail
  go_wp2_with fail
  go_loopg [5, 6] s.size (fun gf v5 v6 wx => ∃ (k : Nat) (acc : List (Nat × Tok)), v6 = .int .i64 (k : Int) ∧ k ≤ s.size ∧ s.size ≤ k + gf ∧ acc.length ≤ k ∧ Hid (wx.ownsRow w.heap.size 35 10 v5 acc.length (cellsT acc)) ∧ Below w.heap.size w wx ∧ Hid (contL acc (lexM (oneM parseF D X) (s.data.toList.length - k) k (s.data.toList.drop k)) = lexA (oneM parseF D X) s.data.toList))
  case atStart => exact ⟨0, [], rfl, by omega, by omega, by simp, World.ownsRow_nil _ _ _ _, Below.refl _ _, by
    show contL [] (lexM _ s.data.toList.length 0 s.data.toList) = lexM _ _ _ _
    cases lexM (oneM parseF D X) s.data.toList.length 0 s.data.toList <;> rfl⟩
  case round =>
    obtain ⟨k, acc, rfl, hk, hgf, hacc, HO, hbw, HQ⟩ := hrel
    have HB := Lib.hid hbw
    clear hbw
    have hsz : s.data.toList.length = s.size := rfl
    by_cases hlt : k < s.size
    · obtain ⟨c, hc⟩ : ∃ c, s[k]'hlt = c := ⟨_, rfl⟩
      obtain ⟨l, hcl⟩ : ∃ l, s.data.toList.drop k = c :: l := by
        have hl : k < s.data.toList.length := hlt
        exact ⟨s.data.toList.drop (k + 1), by rw [List.drop_eq_getElem_cons hl, ← hc]; rfl⟩
      obtain ⟨g', rfl⟩ : ∃ g', gk = g' + 1 := ⟨gk - 1, by omega⟩
      have HC := Lib.hid hc
      by_cases h32 : c = 32
      · have d32 : (((s[k]'hlt).toNat : Int) == 32) = true := by rw [hc, h32]; rfl
        have HQ2 := Lib.hid ((step_blank acc _ l k (by rw [hcl, h32])).symm.trans HQ.out)
        clear hc hcl HQ hsz
        go_wp2_with fail
        go_roundg g'
        case measure => omega
        case rel => exact ⟨k + 1, acc, by go_num, by omega, by omega, by omega, HO.out, HB.out, HQ2⟩
      · have d32 : (((s[k]'hlt).toNat : Int) == 32) = false := by
          rw [hc, show (32 : Int) = ((32 : UInt8).toNat : Int) from rfl, byte_dec]; simpa using h32
        obtain ⟨o, ho⟩ : ∃ o, oneM parseF D X (c :: l) = o := ⟨_, rfl⟩
        have co := fun w => CO.out k w hlt
        rw [hcl, ho] at co
        have C := Lib.hid co
        have hre := oneM_fits parseF D X
        have hkd := one_kind parseF D X (c :: l)
        rw [ho] at hkd
        clear co hc
        cases he : (o.2.2 == 0) with
        | false =>
          have hne : (oneM parseF D X (c :: l)).2.2 ≠ 0 := by rw [ho]; simpa using he
          have hq := (step_err acc _ l c k hcl h32 hne).symm.trans HQ.out
          rw [ho] at hq
          have HQ2 := Lib.hid hq
          have he2 : (o.2.2 != 0) = true := by simp [bne, he]
          clear hq hne hre ho HQ hcl h32 hkd
          obtain ⟨t0, a0, k0, C'⟩ : ∃ (t0 : Tok) (a0 k0 : Int), Hid (∀ w, Calls Tryz.prog 50 #[.string s, .int .i64 (k : Int)] w (Q (.tuple #[.agg (t0.cells a0).toArray, .int .i64 k0, .int .i64 o.2.2]) w)) := by
            have c1 := C.out
            unfold oneRV at c1
            split at c1
            · exact ⟨tok0, 0, 0, c1⟩
            · exact ⟨o.1, k, _, c1⟩
          clear C
          generalize o.2.2 = ek at *
          obtain ⟨S, hS⟩ : ∃ S : ByteArray, (⟨t0.s.toArray⟩ : ByteArray) = S := ⟨_, rfl⟩
          obtain ⟨SH, hSH⟩ : ∃ S : ByteArray, (⟨t0.r.1.toArray⟩ : ByteArray) = S := ⟨_, rfl⟩
          have C2 : Hid (∀ w, Calls Tryz.prog 50 #[.string s, .int .i64 (k : Int)] w (Q (.tuple #[tok10 t0.kind a0 S t0.c t0.e SH t0.r.2.1 t0.r.2.2.1 t0.r.2.2.2.1 t0.r.2.2.2.2, .int .i64 k0, .int .i64 ek]) w)) := by
            show ∀ w, _
            rw [← hS, ← hSH]; exact C'.out
          clear C' hS hSH
          go_wp2_with fail
          refine (C2.out _).mono ?_
          rintro e w1 ⟨rfl, hb⟩
          replace HB := Lib.hid (bt HB.out hb)
          have hal : Below w1.heap.size w1 (w1.alloc (.cells #[.int .i64 t0.kind, .int .i64 a0, .string S, .int .i64 t0.c, .int .i64 t0.e, .string SH, .int .i64 t0.r.2.1, .int .i64 t0.r.2.2.1, .bool t0.r.2.2.2.1, .bool t0.r.2.2.2.2] 35)) := (Below.refl _ _).alloc (Nat.le_refl _) _
          replace HB := Lib.hid (bt HB.out hal)
          clear hb hal
          go_wp2_with fail
          try rw [Exit.noGoto_ret]
          exact bodyPost_ret (v := .tuple #[.slice none 0 0, .int .i64 (k : Int), .int .i64 ek]) (by simp [results, Tryz.results12, go_sem]) rfl (HR1.out k ek _ HQ2.out.symm HB.out)
        | true =>
          have he1 : o.2.2 = 0 := by simpa using he
          have he0 : (oneM parseF D X (c :: l)).2.2 = 0 := by rw [ho]; exact he1
          have hfit := hre c l he0
          have hq := (step_ok hre acc _ l c k hcl h32 he0).symm.trans HQ.out
          rw [ho] at hq hfit
          have hcz : (c :: l).length = s.size - k := by rw [← hcl, List.length_drop]; omega
          rw [hcz] at hfit
          have HQ2 := Lib.hid hq
          have HI := Lib.hid hfit
          have hkd1 := hkd he1
          clear hq he0 hre ho HQ hcl h32 hfit hcz hkd
          have c1 := C.out
          unfold oneRV at c1
          rw [if_neg hkd1, he1] at c1
          have C' : Hid (∀ w, Calls Tryz.prog 50 #[.string s, .int .i64 (k : Int)] w (Q (.tuple #[.agg (o.1.cells (k : Int)).toArray, .int .i64 ((k + o.2.1 : Nat) : Int), .int .i64 0]) w)) := c1
          clear c1 hkd1 C he he1
          obtain ⟨⟨tk, ts, tc, te, tsh, tco, tro, tac, tar⟩, tn, ek⟩ := o
          have hnn := HI.out
          obtain ⟨S, hS⟩ : ∃ S : ByteArray, (⟨ts.toArray⟩ : ByteArray) = S := ⟨_, rfl⟩
          obtain ⟨SH, hSH⟩ : ∃ S : ByteArray, (⟨tsh.toArray⟩ : ByteArray) = S := ⟨_, rfl⟩
          have C2 : Hid (∀ w, Calls Tryz.prog 50 #[.string s, .int .i64 (k : Int)] w (Q (.tuple #[tok10 tk k S tc te SH tco tro tac tar, .int .i64 ((k + tn : Nat) : Int), .int .i64 0]) w)) := by
            show ∀ w, _
            rw [← hS, ← hSH]; exact C'.out
          have HCC : Hid ((⟨tk, ts, tc, te, tsh, tco, tro, tac, tar⟩ : Tok).cells (k : Int) = [.int .i64 tk, .int .i64 (k : Int), .string S, .int .i64 tc, .int .i64 te, .string SH, .int .i64 tco, .int .i64 tro, .bool tac, .bool tar]) := by
            show _ = _
            rw [← hS, ← hSH]; rfl
          clear C' hS hSH
          go_upto_region 8 with (fail)
          go_cut [7, 8, 9] (fun v7 v8 v9 wx => v7 = .pointer (some ⟨wx.heap.size - 1, 0, none⟩) ∧ v8 = .int .i64 ((k + tn : Nat) : Int) ∧ v9 = .int .i64 0 ∧ At wx (wx.heap.size - 1) [.int .i64 tk, .int .i64 (k : Int), .string S, .int .i64 tc, .int .i64 te, .string SH, .int .i64 tco, .int .i64 tro, .bool tac, .bool tar] ∧ Below wr.heap.size wr wx)
          case first =>
            go_wp2_with fail
            refine (C2.out _).mono ?_
            rintro e w1 ⟨rfl, hb⟩
            have HA := Lib.hid hb
            clear hb
            go_wp2_with fail
            go_meet
            refine ⟨by simp, rfl, rfl, ?_, HA.out.alloc HA.out.size _⟩
            have h := At.new w1 #[.int .i64 tk, .int .i64 (k : Int), .string S, .int .i64 tc, .int .i64 te, .string SH, .int .i64 tco, .int .i64 tro, .bool tac, .bool tar] 35
            simpa using h
          case rest =>
            obtain ⟨rfl, rfl, rfl, r3, hb⟩ := hcut
            have HA := Lib.hid hb
            clear hb C2
            generalize wc.heap.size - 1 = B at *
            obtain ⟨p0, p1, p2, p3, p4, p5, p6, p7, p8, p9⟩ := r3.ten
            have pf := r3.fz
            clear r3
            obtain ⟨i0, hi, hz0, hz1, hz2⟩ := info_parts rtokInfo
            have HOW := Lib.hid (owns_below HO.out HA.out)
            have hzs : w.heap.size ≤ wc.heap.size := Nat.le_trans HB.out.size HA.out.size
            go_wp2_with (at_builtin; refine wpList_append_own _ rfl _ _ 26 rfl w.heap.size 35 i0 (.agg zero10) 10 88 Tryz.underlying26 hi hz0 hz1 hz2 rfl (by decide) _ _ _ rfl (HOW.out.alloc _) ⟨wc.heap.size, 0, none⟩ 1 1 [.int .i64 tk, .int .i64 (k : Int), .string S, .int .i64 tc, .int .i64 te, .string SH, .int .i64 tco, .int .i64 tro, .bool tac, .bool tar] rfl rfl ?c1 ?c2 ?c3 ?c4 ?c5 ?_)
            case c2 => exact ⟨rfl, rfl, rfl, rfl, rfl, rfl, rfl, rfl, rfl, rfl⟩
            case c3 => unfold maxLen; omega
            case c4 => omega
            case c5 => omega
            · intro v' w1 hown' hgrow _
              have hal : Below wc.heap.size wc (wc.alloc (.cells #[.int .i64 tk, .int .i64 (k : Int), .string S, .int .i64 tc, .int .i64 te, .string SH, .int .i64 tco, .int .i64 tro, .bool tac, .bool tar] 35)) := (Below.refl _ _).alloc (Nat.le_refl _) _
              have HB4 := Lib.hid (below_grown (bt (bt HB.out HA.out) hal) (HOW.out.alloc _) (Nat.le_refl _) hgrow)
              have HO4 : Hid (w1.ownsRow w.heap.size 35 10 v' (acc ++ [(k, (⟨tk, ts, tc, te, tsh, tco, tro, tac, tar⟩ : Tok))]).length (cellsT (acc ++ [(k, (⟨tk, ts, tc, te, tsh, tco, tro, tac, tar⟩ : Tok))]))) := by
                show World.ownsRow _ _ _ _ _ _ _
                rw [cellsT_snoc, HCC.out, List.length_append]
                exact hown'
              clear hal hown' hgrow HOW p0 p1 p2 p3 p4 p5 p6 p7 p8 p9 pf hi hz0 hz1 hz2
              go_wp2_with fail
              go_roundg g'
              case measure => omega
              case rel => exact ⟨k + tn, acc ++ [(k, ⟨tk, ts, tc, te, tsh, tco, tro, tac, tar⟩)], by go_num, by omega, by omega, by rw [List.length_append, List.length_singleton]; omega, HO4, HB4.out, HQ2⟩
    · have hk2 : k = s.size := by omega
      have hq : lexA (oneM parseF D X) s.data.toList = .ok acc := by
        rw [← HQ.out, List.drop_eq_nil_of_le (by omega), show s.data.toList.length - k = 0 by omega, lexM, contL, List.append_nil]
      have HQ2 := Lib.hid hq
      clear hq hk2 HQ
      go_wp2_with fail
      try rw [Exit.noGoto_ret]
      exact bodyPost_ret (v := .tuple #[u5, .int .i64 0, .int .i64 0]) (by simp [results, Tryz.results12, go_sem]) rfl (HR2.out acc _ _ HQ2.out HO.out HB.out)
end Go.Proofs.YtfkiomjplpbmiaaGreatDoor

/- The document's numbers as lists of digits: a Big in memory; at. -/
namespace Go.Proofs.YtfkiomjplpbmiaaGreatDoor
open Go.RowKit Go.Lib

/-- A slice of whole numbers in memory. -/
def SlI (w : World) (v : Value) (ds : List Nat) : Prop :=
  ∃ ao cap, v = .slice ao ds.length cap ∧ ds.length ≤ cap ∧ cap ≤ maxLen ∧ (ds ≠ [] → ∃ g o, ao = some ⟨g, o, none⟩ ∧ g < w.heap.size ∧ ∀ i d : Nat, ds[i]? = some d → w.cell? ⟨g, o + i, none⟩ = some (.int .i64 (d : Int)))
theorem SlI.below {w w' : World} {v : Value} {ds : List Nat} (h : SlI w v ds) (hb : Below w.heap.size w w') : SlI w' v ds := by
  obtain ⟨ao, cap, h1, h2, h3, h4⟩ := h
  refine ⟨ao, cap, h1, h2, h3, fun hne => ?_⟩
  obtain ⟨g, o, hg, hl, hc⟩ := h4 hne
  exact ⟨g, o, hg, Nat.lt_of_lt_of_le hl hb.size, fun i d hi => (World.cell?_of_block (a := ⟨g, o + i, none⟩) (hb.block g hl)).trans (hc i d hi)⟩
theorem SlI.nil (w : World) : SlI w (.slice none 0 0) [] := ⟨none, 0, rfl, Nat.le_refl _, by unfold maxLen; omega, fun h => absurd rfl h⟩
theorem SlI.some {w : World} {v : Value} {ds : List Nat} (h : SlI w v ds) {n : Nat} (hn : ds.length = n) (h0 : 0 < n) : ∃ g o cap, v = .slice (some ⟨g, o, none⟩) n cap ∧ n ≤ cap ∧ cap ≤ maxLen ∧ g < w.heap.size ∧ ∀ i d : Nat, ds[i]? = some d → w.cell? ⟨g, o + i, none⟩ = some (.int .i64 (d : Int)) := by
  obtain ⟨ao, cap, h1, h2, h3, h4⟩ := h
  obtain ⟨g, o, rfl, hl, hc⟩ := h4 (by rintro rfl; rw [← hn] at h0; exact absurd h0 (by simp))
  exact ⟨g, o, cap, by rw [h1, hn], by omega, h3, hl, hc⟩

/-- A digit, 0 behind the last. -/
def dg (ds : List Nat) (i : Nat) : Nat := ds.getD i 0
abbrev bigV (neg : Bool) (sl : Value) : Value := .agg #[.bool neg, sl]

set_option maxRecDepth 100000 in
set_option maxHeartbeats 4000000 in
theorem r9at (w : World) (neg : Bool) (sl : Value) (ds : List Nat) (i : Nat) (h : SlI w sl ds) (hi : i ≤ 100000) :
    Calls Tryz.prog 245 #[bigV neg sl, .int .i64 (i : Int)] w (Q (.int .i64 (dg ds i : Int)) w) := by
  have hal : Below w.heap.size w (w.alloc (.cells #[.bool neg, sl] 188)) := (Below.refl _ _).alloc (Nat.le_refl _) _
  have h2 := h.below hal
  have r1 := At.new w #[.bool neg, sl] 188
  by_cases hlt : i < ds.length
  · obtain ⟨n, hn⟩ : ∃ n, ds.length = n := ⟨_, rfl⟩
    obtain ⟨d, hd⟩ : ∃ d, ds[i]? = some d := ⟨_, List.getElem?_eq_getElem hlt⟩
    have hdg : dg ds i = d := by unfold dg; rw [List.getD_eq_getElem?_getD, hd]; rfl
    rw [hdg]
    obtain ⟨g, o, cap, rfl, c1, c2, c3, c4⟩ := h2.some hn (by omega)
    have q := c4 i d hd
    have d1 : decide ((i : Int) < (n : Int)) = true := decide_eq_true (by omega)
    have p0 := r1.c 0 _ rfl
    have p1 := r1.c 1 _ rfl
    rw [hn] at hlt
    have HAL := Lib.hid hal
    clear c4 hd hdg hn h h2 hal r1
    go_enter Tryz.func245, Tryz.ntmps245
    go_wp2_with fail
    go_ret
    exact ⟨rfl, HAL.out⟩
  · have hdg : dg ds i = 0 := by unfold dg; rw [List.getD_eq_getElem?_getD, List.getElem?_eq_none (by omega)]; rfl
    rw [hdg]
    obtain ⟨ao, cap, rfl, c1, c2, c3⟩ := h2
    obtain ⟨n, hn⟩ : ∃ n, ds.length = n := ⟨_, rfl⟩
    rw [hn] at hlt c1 hal r1 ⊢
    have d1 : decide ((i : Int) < (n : Int)) = false := decide_eq_false (by omega)
    have p0 := r1.c 0 _ rfl
    have p1 := r1.c 1 _ rfl
    have HAL := Lib.hid hal
    clear c3 h hal r1 hn hdg
    go_enter Tryz.func245, Tryz.ntmps245
    go_wp2_with fail
    go_ret
    exact ⟨rfl, HAL.out⟩
end Go.Proofs.YtfkiomjplpbmiaaGreatDoor

/- math/bits.Div64 by ten; package dec: by. -/
namespace Go.Proofs.YtfkiomjplpbmiaaGreatDoor
open Go.RowKit Go.Lib

set_option maxRecDepth 100000 in
set_option maxHeartbeats 8000000 in
theorem div10_zero (lo : Nat) (w : World) (hlo : lo < 18446744073709551616) :
    Calls Tryz.prog 181 #[.int .u64 0, .int .u64 (lo : Int), .int .u64 10] w (Q (.tuple #[.int .u64 ((lo / 10 : Nat) : Int), .int .u64 ((lo % 10 : Nat) : Int)]) w) := by
  go_enter Tryz.func181, Tryz.ntmps181
  go_wp2_with fail
  go_quiet (fail)
  go_wp2_with fail
  go_ret2
  refine ⟨?_, below_drewN (Below.refl _ _) _⟩
  rfl

theorem or_hi (hi lo : Nat) (h : hi < 10) (hlo : lo < 18446744073709551616) : bits .or .u64 ((hi : Int) * 1152921504606846976) ((lo : Int) / 16) = ((hi * 1152921504606846976 + lo / 16 : Nat) : Int) := by
  have e1 : (hi : Int) * 1152921504606846976 = ((hi * 1152921504606846976 : Nat) : Int) := by omega
  have e2 : (lo : Int) / 16 = ((lo / 16 : Nat) : Int) := by omega
  rw [e1, e2, bits_or_u64_nat _ _ (by omega) (by omega)]
  have h1 := Nat.shiftLeft_add_eq_or_of_lt (i := 60) (b := lo / 16) (by omega) hi
  rw [Nat.shiftLeft_eq] at h1
  have h2 : hi * 2 ^ 60 = hi * 1152921504606846976 := rfl
  rw [h2] at h1
  rw [h1]
theorem and_low (m : Nat) (h : m < 16) : bits .and .u64 ((m : Int) * 1152921504606846976) 4294967295 = 0 := by
  have : ∀ i : Fin 16, bits .and .u64 ((i.val : Int) * 1152921504606846976) 4294967295 = 0 := by decide +kernel
  exact this ⟨m, h⟩

theorem wrap_mod (x : Int) : IntKind.u64.wrap x = x % 18446744073709551616 := IntKind.wrap_u64 x
theorem d16 (A q r : Nat) (h : A = q * 2684354560 + r) (hr : r < 2684354560) : IntKind.u64.wrap ((A : Int) - (q : Int) * 2684354560) = (r : Int) := by
  rw [wrap_mod]
  have e : (A : Int) - (q : Int) * 2684354560 = r := by omega
  rw [e]
  exact Int.emod_eq_of_lt (by omega) (by omega)
theorem wrap_again (x y : Int) (h : IntKind.u64.wrap x = y) : IntKind.u64.wrap y = y := by
  rw [← h, wrap_mod, wrap_mod, Int.emod_emod_of_dvd _ (Int.dvd_refl _)]
theorem d21 (A q1 r1 N2 U : Nat) (h : A = q1 * 2684354560 + r1) (hr : r1 < 2684354560) (hN : N2 < 4294967296) (hU : r1 * 4294967296 + N2 = U) :
    IntKind.u64.wrap (IntKind.u64.wrap (IntKind.u64.wrap ((A : Int) * 4294967296) + N2) - IntKind.u64.wrap ((q1 : Int) * 11529215046068469760)) = (U : Int) := by
  rw [wrap_mod, wrap_mod, wrap_mod, wrap_mod, Int.emod_add_emod, ← Int.sub_emod]
  have e : (A : Int) * 4294967296 + N2 - (q1 : Int) * 11529215046068469760 = U := by omega
  rw [e]
  exact Int.emod_eq_of_lt (by omega) (by omega)
theorem d28 (U q0 r0 : Nat) (h : U = q0 * 2684354560 + r0) (hr : r0 < 2684354560) :
    IntKind.u64.wrap (IntKind.u64.wrap ((U : Int) * 4294967296) - IntKind.u64.wrap ((q0 : Int) * 11529215046068469760)) = ((r0 * 4294967296 : Nat) : Int) := by
  rw [wrap_mod, wrap_mod, wrap_mod, ← Int.sub_emod]
  have e : (U : Int) * 4294967296 - (q0 : Int) * 11529215046068469760 = ((r0 * 4294967296 : Nat) : Int) := by omega
  rw [e]
  exact Int.emod_eq_of_lt (by omega) (by omega)
theorem dqLaw (hi lo A M q1 r1 N2 U q0 r0 : Nat) (hA : hi * 1152921504606846976 + lo / 16 = A) (hM : lo % 16 = M) (h1 : A = q1 * 2684354560 + r1) (hN : M * 268435456 = N2) (hU : r1 * 4294967296 + N2 = U) (h2 : U = q0 * 2684354560 + r0) (hr : r0 < 2684354560) :
    q1 * 4294967296 + q0 = (hi * 18446744073709551616 + lo) / 10 ∧ r0 / 268435456 = (hi * 18446744073709551616 + lo) % 10 := by omega

theorem div_fin (q1 q0 NQ Y0 NR r0 X : Nat) (h1 : q1 * 4294967296 + q0 = NQ) (h2 : r0 / 268435456 = NR) (h3 : r0 * 4294967296 = Y0) (hX : X = 4294967296) :
    Ending.returned (.tuple #[.int .u64 ((q1 : Int) * (X : Int) + (q0 : Int)), .int .u64 ((Y0 : Int) / 1152921504606846976)]) = Ending.returned (.tuple #[.int .u64 (NQ : Int), .int .u64 (NR : Int)]) := by
  subst hX
  have e1 : ((q1 : Int) * ((4294967296 : Nat) : Int) + (q0 : Int)) = (NQ : Int) := by omega
  have e2 : ((Y0 : Int) / 1152921504606846976) = (NR : Int) := by omega
  rw [e1, e2]
theorem d28w (U q0 r0 : Nat) (h : U = q0 * 2684354560 + r0) (hr : r0 < 2684354560) :
    IntKind.u64.wrap (IntKind.u64.wrap (IntKind.u64.wrap ((U : Int) * 4294967296)) - IntKind.u64.wrap ((q0 : Int) * 11529215046068469760)) = ((r0 * 4294967296 : Nat) : Int) := by
  rw [wrap_again _ _ rfl]; exact d28 U q0 r0 h hr

set_option maxRecDepth 100000 in
set_option maxHeartbeats 8000000 in
theorem div10_core (hi lo : Nat) (w : World) (h0 : 0 < hi) (h10 : hi < 10) (hlo : lo < 18446744073709551616) :
    Calls Tryz.prog 181 #[.int .u64 (hi : Int), .int .u64 (lo : Int), .int .u64 10] w (Q (.tuple #[.int .u64 (((hi * 18446744073709551616 + lo) / 10 : Nat) : Int), .int .u64 (((hi * 18446744073709551616 + lo) % 10 : Nat) : Int)]) w) := by
  obtain ⟨NQ, hNQ⟩ : ∃ NQ, (hi * 18446744073709551616 + lo) / 10 = NQ := ⟨_, rfl⟩
  obtain ⟨NR, hNR⟩ : ∃ NR, (hi * 18446744073709551616 + lo) % 10 = NR := ⟨_, rfl⟩
  rw [hNQ, hNR]
  have HNQ := Lib.hid hNQ
  have HNR := Lib.hid hNR
  clear hNQ hNR
  have C := Lib.hid (fun w => Tryz.bits_LeadingZeros64 10 w (by decide) (by decide))
  have hz : (64 - (Lib.bitLen (10 : Int).toNat : Int)) = 60 := by decide
  have d1 : decide ((10 : Int) ≤ hi) = false := decide_eq_false (by omega)
  have d2 : ((hi : Int) == 0) = false := by rw [beq_eq_false_iff_ne]; omega
  have HZ := Lib.hid hz
  clear hz
  go_enter Tryz.func181, Tryz.ntmps181
  go_wp2_with fail
  refine (C.out _).mono ?_
  rintro e w1 ⟨rfl, rfl⟩
  rw [HZ.out]
  have ha0 : bits .and .u64 11529215046068469760 4294967295 = 0 := by decide +kernel
  obtain ⟨A, hA⟩ : ∃ A, hi * 1152921504606846976 + lo / 16 = A := ⟨_, rfl⟩
  obtain ⟨M, hM⟩ : ∃ M, lo % 16 = M := ⟨_, rfl⟩
  have hMlt : M < 16 := by omega
  have hAlt : A < 11529215046068469760 := by omega
  have HA := Lib.hid hA
  have HMM := Lib.hid hM
  obtain ⟨N1, hN1⟩ : ∃ N1, M * 1152921504606846976 = N1 := ⟨_, rfl⟩
  obtain ⟨N2, hN2⟩ : ∃ N2, M * 268435456 = N2 := ⟨_, rfl⟩
  have hN2lt : N2 < 4294967296 := by omega
  have hN1lt : N1 < 18446744073709551616 := by omega
  have HN1 := Lib.hid hN1
  have HN2 := Lib.hid hN2
  clear hN1 hN2
  go_upto_region 11 with (fail)
  go_cut [8, 9, 10, 11] (fun v8 v9 v10 v11 wx => v8 = .int .u64 60 ∧ v9 = .int .u64 2684354560 ∧ v10 = .int .u64 0 ∧ v11 = .int .u64 (A : Int) ∧ w1 = wx)
  case first =>
    go_wp2_with fail
    go_meet
    exact ⟨rfl, rfl, rfl, by rw [or_hi hi lo h10 hlo, HA.out], rfl⟩
  case rest =>
    obtain ⟨rfl, rfl, rfl, rfl, rfl⟩ := hcut
    go_upto_region 12 with (fail)
    go_cut [12] (fun v12 wx => v12 = .int .u64 (N1 : Int) ∧ w1 = wx)
    case first =>
      go_wp2_with fail
      go_meet
      refine ⟨?_, rfl⟩
      congr 1
      rw [wrap_mod]
      have := HMM.out
      have := HN1.out
      omega
    case rest =>
      obtain ⟨rfl, rfl⟩ := hcut
      clear hA hM
      go_upto_region 13 with (fail)
      go_cut [13] (fun v13 wx => v13 = .int .u64 (N2 : Int) ∧ w1 = wx)
      case first =>
        go_wp2_with fail
        go_meet
        refine ⟨?_, rfl⟩
        congr 1
        have := HN1.out
        have := HN2.out
        omega
      case rest =>
        obtain ⟨rfl, rfl⟩ := hcut
        go_upto_region 14 with (fail)
        go_cut [14] (fun v14 wx => v14 = .int .u64 0 ∧ w1 = wx)
        case first =>
          go_wp2_with fail
          go_meet
          refine ⟨?_, rfl⟩
          have e : (N1 : Int) = (M : Int) * 1152921504606846976 := by have := HN1.out; omega
          rw [e, and_low M hMlt]
        case rest =>
          obtain ⟨rfl, rfl⟩ := hcut
          go_upto_region 15 with (fail)
          go_cut [15] (fun v15 wx => v15 = .int .u64 ((A / 2684354560 : Nat) : Int) ∧ w1 = wx)
          case first =>
            go_wp2_with fail
            go_meet
            exact ⟨rfl, rfl⟩
          case rest =>
            obtain ⟨rfl, rfl⟩ := hcut
            obtain ⟨q1, hq1⟩ : ∃ q1, A / 2684354560 = q1 := ⟨_, rfl⟩
            obtain ⟨r1, hr1⟩ : ∃ r1, A % 2684354560 = r1 := ⟨_, rfl⟩
            rw [hq1]
            have hAq : A = q1 * 2684354560 + r1 := by omega
            have hrl : r1 < 2684354560 := by omega
            have hql : q1 < 4294967296 := by omega
            have HAQ := Lib.hid hAq
            clear hq1 hr1 hAq
            go_upto_region 16 with (fail)
            go_cut [16] (fun v16 wx => v16 = .int .u64 (r1 : Int) ∧ w1 = wx)
            case first =>
              go_wp2_with fail
              go_meet
              exact ⟨by rw [d16 A q1 r1 HAQ.out hrl], rfl⟩
            case rest =>
              obtain ⟨rfl, rfl⟩ := hcut
              have dq : decide ((4294967296 : Int) ≤ q1) = false := decide_eq_false (by omega)
              go_wp2_with fail
              go_loopg [15, 16] 1 (fun gf v15 v16 wx => v15 = .int .u64 (q1 : Int) ∧ v16 = .int .u64 (r1 : Int) ∧ w1 = wx)
              case atStart => exact ⟨rfl, rfl, rfl⟩
              case round =>
                obtain ⟨rfl, rfl, rfl⟩ := hrel
                obtain ⟨U, hU⟩ : ∃ U, r1 * 4294967296 + N2 = U := ⟨_, rfl⟩
                have hUlt : U < 11529215046068469760 := by omega
                have HU := Lib.hid hU
                clear hU
                go_upto_region 17 with (fail)
                go_cut [78] (fun v78 wx => v78 = .bool false ∧ w1 = wx)
                case first =>
                  go_wp2_with fail
                  go_meet
                  exact ⟨rfl, rfl⟩
                case rest =>
                  obtain ⟨rfl, rfl⟩ := hcut
                  go_upto_region 21 with (fail)
                  go_cut [17] (fun v17 wx => v17 = .int .u64 (U : Int) ∧ w1 = wx)
                  case first =>
                    have hd := d21 A q1 r1 N2 U HAQ.out hrl hN2lt HU.out
                    obtain ⟨X1, f1⟩ : ∃ X1, IntKind.u64.wrap ((A : Int) * 4294967296) = X1 := ⟨_, rfl⟩
                    rw [f1] at hd
                    obtain ⟨X2, f2⟩ : ∃ X2, IntKind.u64.wrap (X1 + (N2 : Int)) = X2 := ⟨_, rfl⟩
                    rw [f2] at hd
                    obtain ⟨X3, f3⟩ : ∃ X3, IntKind.u64.wrap ((q1 : Int) * 11529215046068469760) = X3 := ⟨_, rfl⟩
                    rw [f3] at hd
                    clear h0 h10 hlo hMlt hAlt hN2lt hN1lt hrl hUlt
                    go_wp2_with fail
                    go_meet
                    exact ⟨rfl, rfl⟩
                  case rest =>
                    obtain ⟨rfl, rfl⟩ := hcut
                    obtain ⟨q0, hq0⟩ : ∃ q0, U / 2684354560 = q0 := ⟨_, rfl⟩
                    obtain ⟨r0, hr0⟩ : ∃ r0, U % 2684354560 = r0 := ⟨_, rfl⟩
                    have hUq : U = q0 * 2684354560 + r0 := by omega
                    have hrl0 : r0 < 2684354560 := by omega
                    have hql0 : q0 < 4294967296 := by omega
                    have HUQ := Lib.hid hUq
                    have HQ0 := Lib.hid hq0
                    clear hq0 hr0 hUq
                    go_upto_region 22 with (fail)
                    go_cut [18] (fun v18 wx => v18 = .int .u64 (q0 : Int) ∧ w1 = wx)
                    case first =>
                      go_wp2_with fail
                      go_meet
                      exact ⟨by rw [← HQ0.out]; rfl, rfl⟩
                    case rest =>
                      obtain ⟨rfl, rfl⟩ := hcut
                      go_upto_region 23 with (fail)
                      go_cut [16] (fun v16 wx => v16 = .int .u64 (r0 : Int) ∧ w1 = wx)
                      case first =>
                        go_wp2_with fail
                        go_meet
                        exact ⟨by rw [d16 U q0 r0 HUQ.out hrl0], rfl⟩
                      case rest =>
                        obtain ⟨rfl, rfl⟩ := hcut
                        have dq0 : decide ((4294967296 : Int) ≤ q0) = false := decide_eq_false (by omega)
                        go_wp2_with fail
                        go_loopg [18, 16] 1 (fun gf v18 v16 wx => v18 = .int .u64 (q0 : Int) ∧ v16 = .int .u64 (r0 : Int) ∧ w1 = wx)
                        case atStart => exact ⟨rfl, rfl, rfl⟩
                        case round =>
                          obtain ⟨rfl, rfl, rfl⟩ := hrel
                          go_upto_region 24 with (fail)
                          go_cut [113] (fun v113 wx => v113 = .bool false ∧ w1 = wx)
                          case first =>
                            go_wp2_with fail
                            go_meet
                            exact ⟨rfl, rfl⟩
                          case rest =>
                            obtain ⟨rfl, rfl⟩ := hcut
                            have hd := d28w U q0 r0 HUQ.out hrl0
                            obtain ⟨X1, f1⟩ : ∃ X1, IntKind.u64.wrap ((U : Int) * 4294967296) = X1 := ⟨_, rfl⟩
                            rw [f1] at hd
                            obtain ⟨X2, f2⟩ : ∃ X2, IntKind.u64.wrap X1 = X2 := ⟨_, rfl⟩
                            rw [f2] at hd
                            obtain ⟨X3, f3⟩ : ∃ X3, IntKind.u64.wrap ((q0 : Int) * 11529215046068469760) = X3 := ⟨_, rfl⟩
                            rw [f3] at hd
                            obtain ⟨Y0, hY0⟩ : ∃ Y0, r0 * 4294967296 = Y0 := ⟨_, rfl⟩
                            rw [hY0] at hd
                            have HY := Lib.hid hY0
                            clear hY0
                            have hfin := dqLaw hi lo A M q1 r1 N2 U q0 r0 HA.out HMM.out HAQ.out HN2.out HU.out HUQ.out hrl0
                            rw [HNQ.out, HNR.out] at hfin
                            have HF := Lib.hid hfin
                            clear hfin h0 h10 hlo hMlt hAlt hN2lt hN1lt hrl hUlt hrl0 dq dq0 ha0 d1 d2
                            go_wp2_with fail
                            go_ret2
                            exact ⟨div_fin q1 q0 NQ Y0 NR r0 4294967296 HF.out.1 HF.out.2 HY.out rfl, Below.refl _ _⟩
end Go.Proofs.YtfkiomjplpbmiaaGreatDoor

