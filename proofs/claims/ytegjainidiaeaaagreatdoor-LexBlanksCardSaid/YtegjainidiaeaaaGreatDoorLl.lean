/- What lex.Lex's loop stands on: plain steps; what a text's tokens are in memory. -/
import Derived.Test.YtegjainidiaeaaaGreatDoorLk
import Derived.Test.YtegjainidiaeaaaGreatDoorLn
namespace Go.Proofs.YtegjainidiaeaaaGreatDoor
open Go.RowKit Go.Lib

/-- Which way a token is read. -/
theorem one_num {P : FP} {D : FD} {X : FX} {c : UInt8} {l : List UInt8} (h : Pl.digit c = true) : oneM P D X (c :: l) = numOne D (c :: l) := by unfold oneM; rw [List.headD_cons, if_pos h]
theorem one_text {P : FP} {D : FD} {X : FX} {c : UInt8} {l : List UInt8} (h : Pl.digit c = false) (h1 : c = 34) : oneM P D X (c :: l) = textOne X (c :: l) := by unfold oneM; rw [List.headD_cons, if_neg (by rw [h]; decide), if_pos h1]
theorem one_sheet {P : FP} {D : FD} {X : FX} {c : UInt8} {l : List UInt8} (h : Pl.digit c = false) (h1 : c ≠ 34) (h2 : c = 39) : oneM P D X (c :: l) = sheetOne P (c :: l) := by unfold oneM; rw [List.headD_cons, if_neg (by rw [h]; decide), if_neg h1, if_pos h2]
theorem one_word {P : FP} {D : FD} {X : FX} {c : UInt8} {l : List UInt8} (h : Pl.digit c = false) (h1 : c ≠ 34) (h2 : c ≠ 39) (h3 : c = 36 ∨ isL c = true) : oneM P D X (c :: l) = wordOne P (c :: l) := by unfold oneM; rw [List.headD_cons, if_neg (by rw [h]; decide), if_neg h1, if_neg h2, if_pos h3]
theorem one_mark {P : FP} {D : FD} {X : FX} {c : UInt8} {l : List UInt8} (h : Pl.digit c = false) (h1 : c ≠ 34) (h2 : c ≠ 39) (h3 : c ≠ 36) (h4 : isL c = false) : oneM P D X (c :: l) = markOne (c :: l) := by unfold oneM; rw [List.headD_cons, if_neg (by rw [h]; decide), if_neg h1, if_neg h2, if_neg (by rintro (h | h); exact h3 h; rw [h4] at h; cases h)]
/-- What was gathered, and what follows. -/
def contL (acc : List (Nat × Tok)) : Except (Nat × Int) (List (Nat × Tok)) → Except (Nat × Int) (List (Nat × Tok))
  | .error x => .error x
  | .ok ts => .ok (acc ++ ts)

theorem step_blank {one : List UInt8 → One} (acc : List (Nat × Tok)) (l t : List UInt8) (k : Nat) (h : l.drop k = 32 :: t) :
    contL acc (lexM one (l.length - k) k (l.drop k)) = contL acc (lexM one (l.length - (k + 1)) (k + 1) (l.drop (k + 1))) := by
  have hd : l.drop (k + 1) = t := by rw [← List.drop_drop, h]; rfl
  have hl : l.length - k = t.length + 1 := by have := congrArg List.length h; rw [List.length_drop, List.length_cons] at this; exact this
  rw [hd, h, hl, lexM, if_pos rfl]
  have : l.length - (k + 1) = t.length := by omega
  rw [this]
theorem step_err {one : List UInt8 → One} (acc : List (Nat × Tok)) (l t : List UInt8) (c : UInt8) (k : Nat) (h : l.drop k = c :: t) (hc : c ≠ 32) (he : (one (c :: t)).2.2 ≠ 0) :
    contL acc (lexM one (l.length - k) k (l.drop k)) = .error (k, (one (c :: t)).2.2) := by
  have hl : l.length - k = t.length + 1 := by have := congrArg List.length h; rw [List.length_drop, List.length_cons] at this; exact this
  rw [h, hl, lexM, if_neg hc, if_pos he]; rfl
theorem step_ok {one : List UInt8 → One} (hr : Reach one) (acc : List (Nat × Tok)) (l t : List UInt8) (c : UInt8) (k : Nat) (h : l.drop k = c :: t) (hc : c ≠ 32) (he : (one (c :: t)).2.2 = 0) :
    contL acc (lexM one (l.length - k) k (l.drop k)) = contL (acc ++ [(k, (one (c :: t)).1)]) (lexM one (l.length - (k + (one (c :: t)).2.1)) (k + (one (c :: t)).2.1) (l.drop (k + (one (c :: t)).2.1))) := by
  have hl : l.length - k = t.length + 1 := by have := congrArg List.length h; rw [List.length_drop, List.length_cons] at this; exact this
  have hn := hr c t he
  have hd : l.drop (k + (one (c :: t)).2.1) = (c :: t).drop (one (c :: t)).2.1 := by rw [← List.drop_drop, h]
  have hdl : ((c :: t).drop (one (c :: t)).2.1).length = t.length + 1 - (one (c :: t)).2.1 := by rw [List.length_drop, List.length_cons]
  have hf : l.length - (k + (one (c :: t)).2.1) = t.length + 1 - (one (c :: t)).2.1 := by omega
  rw [hd, hf, h, hl, lexM, if_neg hc, if_neg (by rw [he]; decide), lexM_fuel hr t.length (t.length + 1 - (one (c :: t)).2.1) _ _ (by rw [hdl]; omega) (by omega)]
  cases lexM one (t.length + 1 - (one (c :: t)).2.1) (k + (one (c :: t)).2.1) ((c :: t).drop (one (c :: t)).2.1) with
  | error x => rfl
  | ok ts => unfold contL; simp

/-- The tokens' cells. -/
def cellsT (ts : List (Nat × Tok)) : List Value := ts.flatMap fun p => p.2.cells (p.1 : Int)
theorem cellsT_snoc (ts : List (Nat × Tok)) (k : Nat) (t : Tok) : cellsT (ts ++ [(k, t)]) = cellsT ts ++ t.cells (k : Int) := by
  unfold cellsT; simp
theorem tok_cells_len (t : Tok) (a : Int) : (t.cells a).length = 10 := rfl
theorem cellsT_len (ts : List (Nat × Tok)) : (cellsT ts).length = ts.length * 10 := by
  induction ts with
  | nil => rfl
  | cons p ts ih =>
    unfold cellsT at *
    rw [List.flatMap_cons, List.length_append, ih, List.length_cons, tok_cells_len]; omega

theorem tokInfo : (Tryz.prog.info? 34).map (fun i => (i.zero, i.size, i.bytes)) = some (some (.agg zero10), 10, 88) := by kernel_rfl

theorem owns_below {w w' : World} {base e size n : Nat} {v : Value} {xs : List Value} (h : w.ownsRow base e size v n xs) (hb : Below w.heap.size w w') : w'.ownsRow base e size v n xs := by
  refine ⟨h.1, ?_⟩
  rcases h.2 with hn | ⟨g, cap, cur, rfl, hbb, hgg, rest⟩
  · exact .inl hn
  · refine .inr ⟨g, cap, cur, rfl, hbb, ?_, rest⟩
    rw [hb.block g (Array.getElem?_eq_some_iff.1 hgg).1]
    exact hgg
/-- What grows at a row of the call's own is below what was there before. -/
theorem below_grown {w W W' : World} {base e size n : Nat} {v : Value} {xs : List Value} (hb : Below w.heap.size w W) (h : W.ownsRow base e size v n xs) (hbase : w.heap.size ≤ base) (hg : W.grownBy W' v.ownBlock) : Below w.heap.size w W' := by
  refine hb.trans ⟨hg.os, hg.tape, hg.output, hg.size, fun k hk => hg.block k (Nat.lt_of_lt_of_le hk hb.size) ?_⟩
  intro e
  have := (h.lt k e.symm).1
  omega
end Go.Proofs.YtegjainidiaeaaaGreatDoor
