/- quirelaw11.LexTokens. -/
import Derived.Test.YtfkiomjplpbmiaaGreatDoorVaM
import Derived.Test.YtfkiomjplpbmiaaGreatDoorVeM
import Derived.Test.YtfkiomjplpbmiaaGreatDoorM12
import Derived.Test.YtfkiomjplpbmiaaGreatDoorDiM
import Derived.BigQuiet
import Derived.Test.YtfkiomjplpbmiaaGreatDoorM4
import Derived.Test.YtfkiomjplpbmiaaGreatDoorLsM
import Derived.Laws.OwnMore
namespace Go.Proofs.YtfkiomjplpbmiaaGreatDoor
open Go.RowKit Go.Lib

theorem cellsT_get12 : ∀ (ts : List (Nat × Tok)) (i j : Nat) (p : Nat × Tok), ts[i]? = some p → j < 10 → (cellsT ts)[i * 10 + j]? = (p.2.cells (p.1 : Int))[j]?
  | [], i, j, p, h, _ => by simp at h
  | q :: ts, 0, j, p, h, hj => by
    simp at h; subst h
    unfold cellsT
    rw [List.flatMap_cons, Nat.zero_mul, Nat.zero_add, List.getElem?_append_left (by rw [tok_cells_len]; exact hj)]
  | q :: ts, i + 1, j, p, h, hj => by
    have h' : ts[i]? = some p := by simpa using h
    have ih := cellsT_get12 ts i j p h' hj
    unfold cellsT at *
    rw [List.flatMap_cons, List.getElem?_append_right (by rw [tok_cells_len]; omega), tok_cells_len, ← ih]
    congr 1; omega


theorem tokN12 {W : World} {o : Option Addr} {ts : List (Nat × Tok)} (h : Hid (ts ≠ [] → ∃ g, o = some ⟨g, 0, none⟩ ∧ CellsAt W g (cellsT ts))) (n : Nat) : Hid (ts ≠ [] → ∃ g, o = some ⟨g, 0, none⟩ ∧ CellsAt (W.drewN n) g (cellsT ts)) := fun hn => by
  obtain ⟨g, hg, hc⟩ := h.out hn
  exact ⟨g, hg, hc.below (below_drewN (Below.refl _ _) n)⟩

theorem decIs13 : DecIs decF := fun t w h _ => parse_dec t w h
theorem xmlIs13 : XmlIs xmlF := fun t w h hg => xml_any t w (by omega) hg

/-- The ten cells of one token of many. -/
theorem tok_at12 {w : World} {g : Nat} {ts : List (Nat × Tok)} (h : CellsAt w g (cellsT ts)) {i : Nat} {k : Nat} {t : Tok} (hi : ts[i]? = some (k, t)) {S SH : ByteArray} (hS : (⟨t.s.toArray⟩ : ByteArray) = S) (hH : (⟨t.r.1.toArray⟩ : ByteArray) = SH) :
    w.cell? ⟨g, i * 10, none⟩ = some (.int .i64 t.kind) ∧ w.cell? ⟨g, i * 10 + 1, none⟩ = some (.int .i64 (k : Int)) ∧ w.cell? ⟨g, i * 10 + 2, none⟩ = some (.string S) ∧ w.cell? ⟨g, i * 10 + 3, none⟩ = some (.int .i64 t.c) ∧ w.cell? ⟨g, i * 10 + 4, none⟩ = some (.int .i64 t.e) ∧
    w.cell? ⟨g, i * 10 + 5, none⟩ = some (.string SH) ∧ w.cell? ⟨g, i * 10 + 6, none⟩ = some (.int .i64 t.r.2.1) ∧ w.cell? ⟨g, i * 10 + 7, none⟩ = some (.int .i64 t.r.2.2.1) ∧ w.cell? ⟨g, i * 10 + 8, none⟩ = some (.bool t.r.2.2.2.1) ∧ w.cell? ⟨g, i * 10 + 9, none⟩ = some (.bool t.r.2.2.2.2) := by
  subst hS hH
  have f := fun (j : Nat) (v : Value) (hj : j < 10) (hv : (t.cells (k : Int))[j]? = some v) => h.c (i * 10 + j) v ((cellsT_get12 ts i j (k, t) hi hj).trans hv)
  exact ⟨f 0 _ (by decide) rfl, f 1 _ (by decide) rfl, f 2 _ (by decide) rfl, f 3 _ (by decide) rfl, f 4 _ (by decide) rfl, f 5 _ (by decide) rfl, f 6 _ (by decide) rfl, f 7 _ (by decide) rfl, f 8 _ (by decide) rfl, f 9 _ (by decide) rfl⟩

set_option maxRecDepth 100000 in
set_option maxHeartbeats 16000000 in
theorem tokens_walk (s : ByteArray) (ts : List (Nat × Tok)) (a x : Int) (w : World) (ht : ts.length ≤ 512)
    (C1 : Hid (∀ w, Glob w → Calls Tryz.prog 11 #[.string s] w fun e w' => ∃ v, e = .returned (.tuple #[v, .int .i64 a, .int .i64 x]) ∧ TokS w' v ts ∧ Below w.heap.size w w'))
    (C2 : Hid (∀ w, Calls Tryz.prog 12 #[.string s] w fun e w' => ∃ v, e = .returned (.tuple #[v, .int .i64 a, .int .i64 x]) ∧ TokS w' v ts ∧ Below w.heap.size w w'))
    (CA : Hid (∀ w, Glob w → Calls Tryz.prog 13 #[] w (Q (.bool true) w))) (hg : Glob w) :
    Calls Tryz.prog 3 #[.string s] w (Q (.bool true) w) := by
  have HG := Lib.hid hg
  clear hg
  go_enter Tryz.func3, Tryz.ntmps3
  go_wp2_with fail
  refine (C1.out _ HG.out).mono ?_
  rintro e w1 ⟨v1, rfl, h1, hb⟩
  have HB := Lib.hid hb
  have H1 := Lib.hid h1
  clear hb h1 C1
  obtain ⟨n, hn⟩ : ∃ n, ts.length = n := ⟨_, rfl⟩
  have HN := Lib.hid hn
  rw [hn] at ht
  clear hn
  go_wp2_with fail
  refine (C2.out _).mono ?_
  rintro e w2 ⟨v2, rfl, h2, hb⟩
  have h1 := H1.out.below hb
  replace HB := Lib.hid (bt HB.out hb)
  obtain ⟨o1, c1, rfl, hc1, hm1, h1⟩ := h1
  obtain ⟨o2, c2, rfl, hc2, hm2, h2⟩ := h2
  rw [HN.out] at hc1 hc2 ⊢
  have H1 := Lib.hid h1
  have H2 := Lib.hid h2
  clear hb h1 h2 C2
  go_wp2_with fail
  go_loopg [9] n (fun gf v9 wx => ∃ j : Nat, v9 = .int .i64 (j : Int) ∧ j ≤ n ∧ n ≤ j + gf ∧ Hid (ts ≠ [] → ∃ g, o1 = some ⟨g, 0, none⟩ ∧ CellsAt wx g (cellsT ts)) ∧ Hid (ts ≠ [] → ∃ g, o2 = some ⟨g, 0, none⟩ ∧ CellsAt wx g (cellsT ts)) ∧ Hid (Below w.heap.size w wx))
  case atStart => exact ⟨0, rfl, by omega, by omega, H1, H2, HB⟩
  case round =>
    obtain ⟨j, rfl, hj, hjg, H1, H2, HB⟩ := hrel
    by_cases hlt : j < n
    · have dl : decide ((j : Int) < (n : Int)) = true := decide_eq_true (by omega)
      obtain ⟨g', rfl⟩ : ∃ g', gk = g' + 1 := ⟨gk - 1, by omega⟩
      have hjl : j < ts.length := by rw [HN.out]; exact hlt
      obtain ⟨k, t, hkt⟩ : ∃ k t, ts[j]? = some (k, t) := ⟨_, _, List.getElem?_eq_getElem hjl⟩
      have hne : ts ≠ [] := by rintro rfl; simp at hkt
      obtain ⟨S, hS⟩ : ∃ S : ByteArray, (⟨t.s.toArray⟩ : ByteArray) = S := ⟨_, rfl⟩
      obtain ⟨SH, hSH⟩ : ∃ S : ByteArray, (⟨t.r.1.toArray⟩ : ByteArray) = S := ⟨_, rfl⟩
      obtain ⟨g1, rfl, k1⟩ := H1.out hne
      obtain ⟨g2, rfl, k2⟩ := H2.out hne
      obtain ⟨p0, p1, p2, p3, p4, p5, p6, p7, p8, p9⟩ := tok_at12 k1 hkt hS hSH
      obtain ⟨q0, q1, q2, q3, q4, q5, q6, q7, q8, q9⟩ := tok_at12 k2 hkt hS hSH
      generalize t.kind = K at *
      generalize t.c = tc at *
      generalize t.e = te at *
      generalize t.r.2.1 = r1 at *
      generalize t.r.2.2.1 = r2 at *
      generalize t.r.2.2.2.1 = r3 at *
      generalize t.r.2.2.2.2 = r4 at *
      clear hkt hS hSH k1 k2 hne hjl
      go_wp2_with fail
      go_quiet (fail)
      go_wp2_with fail
      go_roundg g'
      case measure => omega
      case rel => exact ⟨j + 1, by go_num, by omega, by omega, tokN12 H1 _, tokN12 H2 _, below_drewN HB.out _⟩
    · have dl : decide ((j : Int) < (n : Int)) = false := decide_eq_false (by omega)
      go_wp2_with fail
      refine (CA.out _ (HG.out.below HB.out)).mono ?_
      rintro e w3 ⟨rfl, hb⟩
      have HB3 := Lib.hid (bt HB.out hb)
      clear hb
      go_wp2_with fail
      go_ret
      exact ⟨rfl, HB3.out⟩
theorem lexM_bounds12 {one : List UInt8 → One} (hr : Reach one) : ∀ (f k : Nat) (l : List UInt8) (ts : List (Nat × Tok)), lexM one f k l = .ok ts → ts.length ≤ l.length ∧ ∀ p ∈ ts, p.1 ≤ k + l.length
  | 0, k, l, ts, h => by rw [lexM] at h; injection h with h; subst h; simp
  | f + 1, k, [], ts, h => by rw [lexM] at h; injection h with h; subst h; simp
  | f + 1, k, c :: l, ts, h => by
    rw [lexM] at h
    split at h
    · have ih := lexM_bounds12 hr f (k + 1) l ts h
      refine ⟨by rw [List.length_cons]; omega, fun p hp => ?_⟩
      have := ih.2 p hp
      rw [List.length_cons]; omega
    · split at h
      · cases h
      · rename_i he
        have hn := hr c l (by simpa using he)
        split at h
        · cases h
        · rename_i us hu
          injection h with h; subst h
          have ih := lexM_bounds12 hr f _ _ us hu
          have hd : ((c :: l).drop (one (c :: l)).2.1).length = l.length + 1 - (one (c :: l)).2.1 := by rw [List.length_drop, List.length_cons]
          have hn2 := hn.2
          rw [List.length_cons] at hn2
          refine ⟨by rw [List.length_cons, List.length_cons]; omega, fun p hp => ?_⟩
          rw [List.length_cons]
          rcases List.mem_cons.1 hp with rfl | hp
          · dsimp only; omega
          · have := ih.2 p hp
            omega

/-- What lex.Lex answers of any text, as far as the law asks it. -/

theorem tokS_nil (w : World) : TokS w (.slice none 0 0) [] := ⟨none, 0, rfl, Nat.le_refl _, by unfold maxLen; omega, fun h => absurd rfl h⟩

theorem lexTokens_law (s : ByteArray) (w : World) (hg : Glob w) :
    Calls Tryz.prog 3 #[.string s] w (Q (.bool true) w) := by
  have CA : Hid (∀ w, Glob w → Calls Tryz.prog 13 #[] w (Q (.bool true) w)) := fun w hg => alive_any decIs13 xmlIs13 decF_15 xmlF_xy w hg
  by_cases h : 512 < s.size
  · exact tokens_walk s [] 0 3 w (by simp) (fun w _ => (lex_long s w h).mono fun e w' ⟨he, hb⟩ => ⟨_, he, tokS_nil _, hb⟩)
      (fun w => (rlex_long s w h).mono fun e w' ⟨he, hb⟩ => ⟨_, he, tokS_nil _, hb⟩) CA hg
  · have hs : s.size ≤ 512 := by omega
    have hsz : s.data.toList.length = s.size := rfl
    cases hl : lexA (oneM parseF decF xmlF) s.data.toList with
    | error p =>
      obtain ⟨a, x⟩ := p
      exact tokens_walk s [] a x w (by simp) (fun w hg => (lex_err decIs13 xmlIs13 s w hs hg hl).mono fun e w' ⟨he, hb⟩ => ⟨_, he, tokS_nil _, hb⟩)
        (fun w => (rlex_err refParseIs decRefIs xmlRefIs s w hs hl).mono fun e w' ⟨he, hb⟩ => ⟨_, he, tokS_nil _, hb⟩) CA hg
    | ok ts =>
      have hb := lexM_bounds12 (fun c l => oneM_fits parseF decF xmlF c l) _ _ _ _ hl
      exact tokens_walk s ts 0 0 w (by have := hb.1; omega) (fun w hg => lex_ok decIs13 xmlIs13 s w hs hg hl)
        (fun w => rlex_ok refParseIs decRefIs xmlRefIs s w hs hl) CA hg
end Go.Proofs.YtfkiomjplpbmiaaGreatDoor

/- The document's Quote. -/
namespace Go.Proofs.YtfkiomjplpbmiaaGreatDoor
open Go.RowKit Go.Lib

set_option maxRecDepth 100000 in
set_option maxHeartbeats 8000000 in
theorem r11quote (s : ByteArray) (w : World) (hs : s.size ≤ 4294967280) :
    Calls Tryz.prog 17 #[.string s] w (Q (.string ⟨(quoteL s.data.toList).toArray⟩) w) := by
  obtain ⟨R, hR⟩ : ∃ R, quoteL s.data.toList = R := ⟨_, rfl⟩
  rw [hR]
  have HR := Lib.hid hR
  have ho := World.ownsRow_lit (base := w.heap.size) (e := 5) (size := 1) w #[.int .u8 34] 1 (Nat.le_refl _) (by simp only [maxLen]; omega) rfl
  have HO := Lib.hid ho
  have HB := Lib.hid ((Below.refl w.heap.size w).alloc (Nat.le_refl _) (.cells #[.int .u8 34] 5))
  clear hR ho
  go_enter Tryz.func17, Tryz.ntmps17
  go_wp2_with fail
  go_loopg [3, 4] s.size (fun gf v3 v4 wx => ∃ (k : Nat) (acc : List UInt8), v4 = .int .i64 (k : Int) ∧ k ≤ s.size ∧ s.size ≤ k + gf ∧ acc.length ≤ 2 * k + 1 ∧ Hid (wx.ownsRow w.heap.size 5 1 v3 acc.length (bytesV acc)) ∧ Hid (Below w.heap.size w wx) ∧ Hid (acc ++ ((s.data.toList.drop k).flatMap quoteB ++ [34]) = R))
  case atStart => exact ⟨0, [34], rfl, by omega, by omega, by simp, HO.out, HB.out, HR.out⟩
  case round =>
    obtain ⟨k, acc, rfl, hk, hgf, hacc, HO, HB, HJ⟩ := hrel
    by_cases hlt : k < s.size
    · obtain ⟨g', rfl⟩ : ∃ g', gk = g' + 1 := ⟨gk - 1, by omega⟩
      have hl : k < s.data.toList.length := hlt
      obtain ⟨c, hc⟩ : ∃ c, s[k]'hlt = c := ⟨_, rfl⟩
      have hst : s.data.toList.drop k = c :: s.data.toList.drop (k + 1) := by rw [List.drop_eq_getElem_cons hl, ← hc]; rfl
      have hq := HJ.out
      rw [hst, List.flatMap_cons] at hq
      have HC := Lib.hid hc
      by_cases hcm : c = 34
      · have hq2 : (acc ++ [s[k]'hlt]) ++ [34] ++ ((s.data.toList.drop (k + 1)).flatMap quoteB ++ [34]) = R := by rw [← hq, hc, hcm]; unfold quoteB; simp
        have HQ := Lib.hid hq2
        have d1 : (((s[k]'hlt).toNat : Int) == 34) = true := by rw [hc, hcm]; rfl
        clear hst hc HJ hcm hl hq hq2
        go_wp2_with (first
          | (at_builtin; refine own_append rfl (.tmp 12) (.tmp 16) 76 5 (.int .u8 0) 1 rfl Tryz.underlying76 byteInfo rfl u3 (acc.length) (bytesV (acc)) (.int .u8 ((s[k]'hlt).toNat : Int)) rfl rfl rfl HO.out HB.out (by omega) (by omega) ?_; intro v1 w2 ho hb hg hat; rw [← bytesV_snoc] at ho; replace HO := Lib.hid ho; replace HB := Lib.hid hb; clear ho hb hg hat)
          | (at_builtin; refine own_append rfl (.tmp 22) (.tmp 23) 76 5 (.int .u8 0) 1 rfl Tryz.underlying76 byteInfo rfl v1 (acc.length + 1) (bytesV (acc ++ [s[k]'hlt])) (.int .u8 ((34 : UInt8).toNat : Int)) rfl rfl rfl HO.out HB.out (by omega) (by omega) ?_; intro v1 w2 ho hb hg hat; rw [← bytesV_snoc] at ho; replace HO := Lib.hid ho; replace HB := Lib.hid hb; clear ho hb hg hat))
        go_roundg g'
        case measure => omega
        case rel => exact ⟨k + 1, (acc ++ [s[k]'hlt]) ++ [34], by go_num, by omega, by omega, by rw [List.length_append, List.length_append, List.length_singleton, List.length_singleton]; omega, by rw [List.length_append, List.length_append]; exact HO.out, HB.out, HQ.out⟩
      · have hq2 : (acc ++ [s[k]'hlt]) ++ ((s.data.toList.drop (k + 1)).flatMap quoteB ++ [34]) = R := by rw [← hq, hc]; unfold quoteB; rw [if_neg hcm]; simp
        have HQ := Lib.hid hq2
        have d1 : (((s[k]'hlt).toNat : Int) == 34) = false := by
          rw [hc, beq_eq_false_iff_ne]; intro h; apply hcm; apply UInt8.toNat_inj.1; have : (34 : UInt8).toNat = 34 := rfl; omega
        clear hst hc HJ hcm hl hq hq2
        go_wp2_with (first
          | (at_builtin; refine own_append rfl (.tmp 12) (.tmp 16) 76 5 (.int .u8 0) 1 rfl Tryz.underlying76 byteInfo rfl u3 (acc.length) (bytesV (acc)) (.int .u8 ((s[k]'hlt).toNat : Int)) rfl rfl rfl HO.out HB.out (by omega) (by omega) ?_; intro v1 w2 ho hb hg hat; rw [← bytesV_snoc] at ho; replace HO := Lib.hid ho; replace HB := Lib.hid hb; clear ho hb hg hat))
        go_roundg g'
        case measure => omega
        case rel => exact ⟨k + 1, acc ++ [s[k]'hlt], by go_num, by omega, by omega, by rw [List.length_append, List.length_singleton]; omega, by rw [List.length_append]; exact HO.out, HB.out, HQ.out⟩
    · have hq2 : acc ++ [34] = R := by
        rw [← HJ.out, List.drop_eq_nil_of_le (by show s.size ≤ k; omega)]; rfl
      have HQ := Lib.hid hq2
      clear HJ hq2
      go_wp2_with (first
        | ((at_builtin; refine own_append rfl (.tmp 25) (.tmp 26) 76 5 (.int .u8 0) 1 rfl Tryz.underlying76 byteInfo rfl u3 (acc.length) (bytesV (acc)) (.int .u8 ((34 : UInt8).toNat : Int)) rfl rfl rfl HO.out HB.out (by omega) (by omega) ?_; intro v1 w2 ho hb hg hat; rw [← bytesV_snoc] at ho; replace HO := Lib.hid ho; replace HB := Lib.hid hb; clear ho hb hg hat); have hcv := own_str (P := Tryz.prog) Tryz.underlying76 Tryz.underlying5 Tryz.underlying9 HO.out; rw [HQ.out] at hcv))
      go_ret
      exact ⟨rfl, HB.out⟩
end Go.Proofs.YtfkiomjplpbmiaaGreatDoor

/- quirelaw11.LexWords. -/
namespace Go.Proofs.YtfkiomjplpbmiaaGreatDoor
open Go.RowKit Go.Lib

theorem decIs12 : DecIs decF := fun t w h _ => parse_dec t w h
theorem xmlIs12 : XmlIs xmlF := fun t w h hg => xml_any t w (by omega) hg

set_option maxRecDepth 100000 in
set_option maxHeartbeats 8000000 in
theorem lexWords_law (s : ByteArray) (w : World) (hs : s.size ≤ 4294967280) (hg : Glob w) :
    Calls Tryz.prog 4 #[.string s] w (Q (.bool true) w) := by
  have C1 := Lib.hid (fun w hg => wordM_any decIs12 xmlIs12 s w hg)
  have C2 := Lib.hid (fun w => rwordM_any refParseIs decRefIs xmlRefIs s w)
  have C3 := Lib.hid (fun w hg => lexQuote_any s w hs hg)
  have C4 := Lib.hid (fun w => r11quote s w hs)
  have C5 := Lib.hid (fun w hg => alive_any decIs12 xmlIs12 decF_15 xmlF_xy w hg)
  generalize wordM (oneM parseF decF xmlF) s.data.toList = b at *
  obtain ⟨q, hq⟩ : ∃ q : ByteArray, ⟨(quoteL s.data.toList).toArray⟩ = q := ⟨_, rfl⟩
  rw [hq] at C3 C4
  have HG := Lib.hid hg
  clear hq hg hs
  go_enter Tryz.func4, Tryz.ntmps4
  go_wp2_with fail
  refine (C1.out _ HG.out).mono ?_
  rintro e w1 ⟨rfl, hb⟩
  have HB := Lib.hid hb
  clear hb C1
  go_wp2_with fail
  refine (C2.out _).mono ?_
  rintro e w2 ⟨rfl, hb⟩
  replace HB := Lib.hid (bt HB.out hb)
  clear hb C2
  go_wp2_with fail
  refine (C3.out _ (HG.out.below HB.out)).mono ?_
  rintro e w3 ⟨rfl, hb⟩
  replace HB := Lib.hid (bt HB.out hb)
  clear hb C3
  go_wp2_with fail
  refine (C4.out _).mono ?_
  rintro e w4 ⟨rfl, hb⟩
  replace HB := Lib.hid (bt HB.out hb)
  clear hb C4
  go_wp2_with fail
  refine (C5.out _ (HG.out.below HB.out)).mono ?_
  rintro e w5 ⟨rfl, hb⟩
  replace HB := Lib.hid (bt HB.out hb)
  clear hb C5
  go_wp2_with fail
  go_ret
  exact ⟨rfl, HB.out⟩
end Go.Proofs.YtfkiomjplpbmiaaGreatDoor

