/- What lex.Lex answers, in a form that callers use; quirelaw11.alive. -/
import Derived.Test.YtfkiomjplpbmiaaGreatDoorM4
namespace Go.Proofs.YtfkiomjplpbmiaaGreatDoor
open Go.RowKit Go.Lib

/-- A row of cells from a block's head on. -/
structure CellsAt (w : World) (g : Nat) (xs : List Value) : Prop where
  c : ∀ j u, xs[j]? = some u → w.cell? ⟨g, j, none⟩ = some u
  lt : g < w.heap.size
theorem CellsAt.below {w w' : World} {g : Nat} {xs : List Value} (h : CellsAt w g xs) (hb : Below w.heap.size w w') : CellsAt w' g xs :=
  ⟨fun j u hj => (World.cell?_of_block (a := ⟨g, j, none⟩) (hb.block g h.lt)).trans (h.c j u hj), Nat.lt_of_lt_of_le h.lt hb.size⟩

/-- The slice of these tokens. -/
def TokS (w : World) (v : Value) (ts : List (Nat × Tok)) : Prop :=
  ∃ ao cap, v = .slice ao ts.length cap ∧ ts.length ≤ cap ∧ cap ≤ maxLen ∧ (ts ≠ [] → ∃ g, ao = some ⟨g, 0, none⟩ ∧ CellsAt w g (cellsT ts))
theorem tokS_of {w : World} {base e : Nat} {v : Value} {ts : List (Nat × Tok)} (h : w.ownsRow base e 10 v ts.length (cellsT ts)) : TokS w v ts := by
  have hc := fun g hg => h.cells (g := g) hg
  rcases h.2 with ⟨rfl, hn⟩ | ⟨g, cap, cur, rfl, _, hgg, h1, h2, _, _⟩
  · refine ⟨none, 0, by rw [hn], by omega, by unfold maxLen; omega, fun hne => ?_⟩
    exact absurd (List.length_eq_zero_iff.1 hn) hne
  · refine ⟨_, cap, rfl, h1, h2, fun _ => ⟨g, rfl, ?_, (Array.getElem?_eq_some_iff.1 hgg).1⟩⟩
    intro j u hu
    have := hc g rfl j u hu
    have hadd : (⟨g, 0, none⟩ : Addr).add j = ⟨g, j, none⟩ := by unfold Addr.add; split <;> simp_all
    rw [hadd] at this
    exact this
theorem TokS.some {w : World} {v : Value} {ts : List (Nat × Tok)} {n : Nat} (h : TokS w v ts) (hn : ts.length = n) (h0 : 0 < n) : ∃ g cap, v = .slice (some ⟨g, 0, none⟩) n cap ∧ n ≤ cap ∧ cap ≤ maxLen ∧ CellsAt w g (cellsT ts) := by
  obtain ⟨ao, cap, h1, h2, h3, h4⟩ := h
  obtain ⟨g, rfl, hc⟩ := h4 (by rintro rfl; rw [← hn] at h0; exact absurd h0 (by simp))
  exact ⟨g, cap, by rw [h1, hn], by omega, h3, hc⟩
theorem TokS.below {w w' : World} {v : Value} {ts : List (Nat × Tok)} (h : TokS w v ts) (hb : Below w.heap.size w w') : TokS w' v ts := by
  obtain ⟨ao, cap, h1, h2, h3, h4⟩ := h
  refine ⟨ao, cap, h1, h2, h3, fun hne => ?_⟩
  obtain ⟨g, hg, hc⟩ := h4 hne
  exact ⟨g, hg, hc.below hb⟩

theorem lex_ok {D : FD} {X : FX} (hD : DecIs D) (hX : XmlIs X) (s : ByteArray) (w : World) (hs : s.size ≤ 512) (hg : Glob w) {ts : List (Nat × Tok)} (h : lexA (oneM parseF D X) s.data.toList = .ok ts) :
    Calls Tryz.prog 11 #[.string s] w fun e w' => ∃ v, e = .returned (.tuple #[v, .int .i64 0, .int .i64 0]) ∧ TokS w' v ts ∧ Below w.heap.size w w' := by
  refine lex_core s D X hD hX w hs hg _ (Lib.hid fun a x w' he _ => ?_) (Lib.hid fun us v w' he ho hb => ?_)
  · rw [h] at he; cases he
  · rw [h] at he; injection he with he; subst he
    exact ⟨v, rfl, tokS_of ho, hb⟩
theorem lex_err {D : FD} {X : FX} (hD : DecIs D) (hX : XmlIs X) (s : ByteArray) (w : World) (hs : s.size ≤ 512) (hg : Glob w) {a : Nat} {x : Int} (h : lexA (oneM parseF D X) s.data.toList = .error (a, x)) :
    Calls Tryz.prog 11 #[.string s] w (Q (.tuple #[.slice none 0 0, .int .i64 (a : Int), .int .i64 x]) w) := by
  refine lex_core s D X hD hX w hs hg _ (Lib.hid fun a x w' he hb => ?_) (Lib.hid fun us v w' he ho hb => ?_)
  · rw [h] at he; injection he with he; injection he with h1 h2; subst h1 h2
    exact ⟨rfl, hb⟩
  · rw [h] at he; cases he
set_option maxRecDepth 100000 in
set_option maxHeartbeats 8000000 in
theorem lex_long (s : ByteArray) (w : World) (hs : 512 < s.size) :
    Calls Tryz.prog 11 #[.string s] w (Q (.tuple #[.slice none 0 0, .int .i64 0, .int .i64 3]) w) := by
  have hs0 : decide (512 < s.size) = true := decide_eq_true hs
  go_enter Tryz.func11, Tryz.ntmps11
  go_wp2_with fail
  go_step3
  go_wp2_with fail
  try rw [Exit.noGoto_ret]
  go_ret3
  exact ⟨rfl, Below.refl _ _⟩

abbrev ex1S : ByteArray := ⟨#[83, 85, 77, 40, 65, 49, 58, 66, 50, 41, 42, 49, 46, 53, 37]⟩
abbrev ex2S : ByteArray := ⟨#[39, 97, 32, 98, 39, 33, 65, 49, 32, 34, 120, 34, 34, 121, 34]⟩
abbrev ex3S : ByteArray := ⟨#[76, 79, 71, 49, 48]⟩

set_option maxRecDepth 100000 in
set_option maxHeartbeats 8000000 in
theorem alive_any {D : FD} {X : FX} (hD : DecIs D) (hX : XmlIs X) (hD1 : D [49, 46, 53] = (0, 15, -1)) (hX1 : X [120, 34, 121] = 0) (w : World) (hg : Glob w) :
    Calls Tryz.prog 13 #[] w (Q (.bool true) w) := by
  have C1 := Lib.hid (fun w hg => lex_ok hD hX ex1S w (by decide) hg (ex1_lex hD1))
  have C2 := Lib.hid (fun w hg => lex_ok hD hX ex2S w (by decide) hg (ex2_lex hX1))
  have C3 := Lib.hid (fun w hg => lex_err hD hX ex3S w (by decide) hg ex3_lex)
  have HG := Lib.hid hg
  clear hD hX hD1 hX1 hg
  go_enter Tryz.func13, Tryz.ntmps13
  go_wp2_with fail
  refine (C1.out _ HG.out).mono ?_
  rintro e w1 ⟨v1, rfl, ht, hb⟩
  have HT1 := Lib.hid ht
  have HB := Lib.hid hb
  clear ht hb
  go_wp2_with fail
  refine (C2.out _ (HG.out.below HB.out)).mono ?_
  rintro e w2 ⟨v2, rfl, ht, hb⟩
  replace HT1 := Lib.hid (HT1.out.below hb)
  have HT2 := Lib.hid ht
  replace HB := Lib.hid (bt HB.out hb)
  clear ht hb
  go_wp2_with fail
  refine (C3.out _ (HG.out.below HB.out)).mono ?_
  rintro e w3 ⟨rfl, hb⟩
  have ht1 := HT1.out.below hb
  have ht2 := HT2.out.below hb
  replace HB := Lib.hid (bt HB.out hb)
  clear hb HT1 HT2
  obtain ⟨g1, cap1, rfl, hn1, hm1, k1⟩ := ht1.some (n := 9) rfl (by decide)
  obtain ⟨g2, cap2, rfl, hn2, hm2, k2⟩ := ht2.some (n := 2) rfl (by decide)
  have a0 := k1.c 0 _ rfl
  have a20 := k1.c 20 _ rfl
  have a26 := k1.c 26 _ rfl
  have a73 := k1.c 73 _ rfl
  have a74 := k1.c 74 _ rfl
  have b5 := k2.c 5 _ rfl
  have b12 := k2.c 12 _ rfl
  clear k1 k2 ht1 ht2 C1 C2 C3
  go_wp2_with fail
  go_ret
  exact ⟨rfl, HB.out⟩
end Go.Proofs.YtfkiomjplpbmiaaGreatDoor

