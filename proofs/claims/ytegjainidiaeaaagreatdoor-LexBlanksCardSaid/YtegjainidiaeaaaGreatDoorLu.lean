/- quirelaw11.LexBlanks, walked over what dec.Parse and utf.Xml answer. -/
import Derived.Test.YtegjainidiaeaaaGreatDoorLt
namespace Go.Proofs.YtegjainidiaeaaaGreatDoor
open Go.RowKit Go.Lib

theorem cellsT_get : ∀ (ts : List (Nat × Tok)) (i j : Nat) (p : Nat × Tok), ts[i]? = some p → j < 10 → (cellsT ts)[i * 10 + j]? = (p.2.cells (p.1 : Int))[j]?
  | [], i, j, p, h, _ => by simp at h
  | q :: ts, 0, j, p, h, hj => by
    simp at h; subst h
    unfold cellsT
    rw [List.flatMap_cons, Nat.zero_mul, Nat.zero_add, List.getElem?_append_left (by rw [tok_cells_len]; exact hj)]
  | q :: ts, i + 1, j, p, h, hj => by
    have h' : ts[i]? = some p := by simpa using h
    have ih := cellsT_get ts i j p h' hj
    unfold cellsT at *
    rw [List.flatMap_cons, List.getElem?_append_right (by rw [tok_cells_len]; omega), tok_cells_len, ← ih]
    congr 1; omega

/-- The ten cells of one token of many. -/
theorem tok_at {w : World} {g : Nat} {ts : List (Nat × Tok)} (h : CellsAt w g (cellsT ts)) {i : Nat} {k : Nat} {t : Tok} (hi : ts[i]? = some (k, t)) {S SH : ByteArray} (hS : (⟨t.s.toArray⟩ : ByteArray) = S) (hH : (⟨t.r.1.toArray⟩ : ByteArray) = SH) :
    w.cell? ⟨g, i * 10, none⟩ = some (.int .i64 t.kind) ∧ w.cell? ⟨g, i * 10 + 1, none⟩ = some (.int .i64 (k : Int)) ∧ w.cell? ⟨g, i * 10 + 2, none⟩ = some (.string S) ∧ w.cell? ⟨g, i * 10 + 3, none⟩ = some (.int .i64 t.c) ∧ w.cell? ⟨g, i * 10 + 4, none⟩ = some (.int .i64 t.e) ∧
    w.cell? ⟨g, i * 10 + 5, none⟩ = some (.string SH) ∧ w.cell? ⟨g, i * 10 + 6, none⟩ = some (.int .i64 t.r.2.1) ∧ w.cell? ⟨g, i * 10 + 7, none⟩ = some (.int .i64 t.r.2.2.1) ∧ w.cell? ⟨g, i * 10 + 8, none⟩ = some (.bool t.r.2.2.2.1) ∧ w.cell? ⟨g, i * 10 + 9, none⟩ = some (.bool t.r.2.2.2.2) := by
  subst hS hH
  have f := fun (j : Nat) (v : Value) (hj : j < 10) (hv : (t.cells (k : Int))[j]? = some v) => h.c (i * 10 + j) v ((cellsT_get ts i j (k, t) hi hj).trans hv)
  exact ⟨f 0 _ (by decide) rfl, f 1 _ (by decide) rfl, f 2 _ (by decide) rfl, f 3 _ (by decide) rfl, f 4 _ (by decide) rfl, f 5 _ (by decide) rfl, f 6 _ (by decide) rfl, f 7 _ (by decide) rfl, f 8 _ (by decide) rfl, f 9 _ (by decide) rfl⟩

/-- Where the law asks nothing of the two texts. -/
def Bails (a b : ByteArray) (n e1 e2 : Int) : Prop := n < 1 ∨ 9 < n ∨ e1 ≠ 0 ∨ e2 ≠ 0 ∨ (a.size ≤ 512 ∧ b.size ≤ 512 ∧ 512 < (a.size : Int) + b.size + n)

set_option maxRecDepth 100000 in
set_option maxHeartbeats 16000000 in
theorem blanks_bail (a b : ByteArray) (n e1 e2 a1 a2 : Int) (w : World) (hb : Bails a b n e1 e2)
    (C1 : Hid (∀ w, Glob w → Calls Tryz.prog 7 #[.string a] w fun e w' => ∃ v, e = .returned (.tuple #[v, .int .i64 a1, .int .i64 e1]) ∧ Below w.heap.size w w'))
    (C2 : Hid (∀ w, Glob w → Calls Tryz.prog 7 #[.string b] w fun e w' => ∃ v, e = .returned (.tuple #[v, .int .i64 a2, .int .i64 e2]) ∧ Below w.heap.size w w'))
    (CA : Hid (∀ w, Glob w → Calls Tryz.prog 9 #[] w (Q (.bool true) w))) (hg : Glob w) :
    Calls Tryz.prog 4 #[.string a, .string b, .int .i64 n] w (Q (.bool true) w) := by
  have HG := Lib.hid hg
  have HBA := Lib.hid hb
  clear hg hb
  go_enter Tryz.func4, Tryz.ntmps4
  go_wp2_with fail
  refine (C1.out _ HG.out).mono ?_
  rintro e w1 ⟨v1, rfl, hb⟩
  have HB := Lib.hid hb
  clear hb
  go_wp2_with fail
  refine (C2.out _ (HG.out.below HB.out)).mono ?_
  rintro e w2 ⟨v2, rfl, hb⟩
  replace HB := Lib.hid (bt HB.out hb)
  clear hb
  go_upto_region 3 with (fail)
  go_cut [55] (fun v55 wx => v55 = .bool true ∧ Below w.heap.size w wx)
  case first =>
    by_cases h1 : n < 1
    · go_wp2_with fail
      go_meet
      exact ⟨rfl, HB.out⟩
    · by_cases h2 : 9 < n
      · go_wp2_with fail
        go_meet
        exact ⟨rfl, HB.out⟩
      · cases x1 : (e1 != 0) with
        | false =>
          cases x2 : (e2 != 0) with
          | false =>
            have h5 : a.size ≤ 512 ∧ b.size ≤ 512 ∧ 512 < (a.size : Int) + b.size + n := by
              rcases HBA.out with h | h | h | h | h
              · exact absurd h h1
              · exact absurd h h2
              · exact absurd (bne_iff_ne.2 h) (by rw [x1]; decide)
              · exact absurd (bne_iff_ne.2 h) (by rw [x2]; decide)
              · exact h
            obtain ⟨h6, h7, h8⟩ := h5
            have d1 : decide (512 < (a.size : Int) + b.size + n) = true := decide_eq_true h8
            have x3 : (e1 == 0) = true := by simpa [bne] using x1
            have x4 : (e2 == 0) = true := by simpa [bne] using x2
            go_wp2_with fail
            go_meet
            exact ⟨rfl, HB.out⟩
          | true =>
            have x3 : (e1 == 0) = true := by simpa [bne] using x1
            have x4 : (e2 == 0) = false := by simpa [bne] using x2
            obtain ⟨S1, f1⟩ : ∃ S1, IntKind.i64.wrap ((a.size : Int) + (b.size : Int)) = S1 := ⟨_, rfl⟩
            obtain ⟨S2, f2⟩ : ∃ S2, IntKind.i64.wrap (S1 + n) = S2 := ⟨_, rfl⟩
            cases f3 : decide (512 < S2) with
            | true =>
              go_wp2_with fail
              go_meet
              exact ⟨rfl, HB.out⟩
            | false =>
              go_wp2_with fail
              go_meet
              exact ⟨rfl, HB.out⟩
        | true =>
          have x3 : (e1 == 0) = false := by simpa [bne] using x1
          obtain ⟨S1, f1⟩ : ∃ S1, IntKind.i64.wrap ((a.size : Int) + (b.size : Int)) = S1 := ⟨_, rfl⟩
          obtain ⟨S2, f2⟩ : ∃ S2, IntKind.i64.wrap (S1 + n) = S2 := ⟨_, rfl⟩
          cases f3 : decide (512 < S2) with
          | true =>
            go_wp2_with fail
            go_meet
            exact ⟨rfl, HB.out⟩
          | false =>
            go_wp2_with fail
            go_meet
            exact ⟨rfl, HB.out⟩
  case rest =>
    obtain ⟨rfl, hb⟩ := hcut
    replace HB := Lib.hid hb
    clear hb
    go_wp2_with fail
    refine (CA.out _ (HG.out.below HB.out)).mono ?_
    rintro e w4 ⟨rfl, hb⟩
    replace HB := Lib.hid (bt HB.out hb)
    clear hb
    go_wp2_with fail
    go_ret
    exact ⟨rfl, HB.out⟩
end Go.Proofs.YtegjainidiaeaaaGreatDoor
