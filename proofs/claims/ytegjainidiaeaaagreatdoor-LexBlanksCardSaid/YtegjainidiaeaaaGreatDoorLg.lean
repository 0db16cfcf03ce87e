/- A row of cells in memory; tokens as values; lex.reference. -/
import Derived.Test.YtegjainidiaeaaaGreatDoorLm
import Derived.Test.YtegjainidiaeaaaGreatDoorDa
import Derived.Deep.DeepCutAuto
namespace Go.Proofs.YtegjainidiaeaaaGreatDoor
open Go.RowKit Go.Lib

/-- Ten stores into one block. -/
abbrev set10 (w : World) (B : Nat) (v0 v1 v2 v3 v4 v5 v6 v7 v8 v9 : Value) : World :=
  (((((((((w.setCell ⟨B, 0, none⟩ v0).setCell ⟨B, 1, none⟩ v1).setCell ⟨B, 2, none⟩ v2).setCell ⟨B, 3, none⟩ v3).setCell ⟨B, 4, none⟩ v4).setCell ⟨B, 5, none⟩ v5).setCell ⟨B, 6, none⟩ v6).setCell ⟨B, 7, none⟩ v7).setCell ⟨B, 8, none⟩ v8).setCell ⟨B, 9, none⟩ v9
theorem At.set10 {w : World} {B : Nat} {a0 a1 a2 a3 a4 a5 a6 a7 a8 a9 : Value} (h : At w B [a0, a1, a2, a3, a4, a5, a6, a7, a8, a9]) (v0 v1 v2 v3 v4 v5 v6 v7 v8 v9 : Value) : At (set10 w B v0 v1 v2 v3 v4 v5 v6 v7 v8 v9) B [v0, v1, v2, v3, v4, v5, v6, v7, v8, v9] :=
  (((((((((h.set 0 (by simp) v0).set 1 (by simp) v1).set 2 (by simp) v2).set 3 (by simp) v3).set 4 (by simp) v4).set 5 (by simp) v5).set 6 (by simp) v6).set 7 (by simp) v7).set 8 (by simp) v8).set 9 (by simp) v9
theorem below_set10 {B b : Nat} {w w1 : World} (h : Below B w w1) (hb : B ≤ b) (v0 v1 v2 v3 v4 v5 v6 v7 v8 v9 : Value) : Below B w (set10 w1 b v0 v1 v2 v3 v4 v5 v6 v7 v8 v9) :=
  (((((((((h.setCell (p := ⟨b, 0, none⟩) hb _).setCell (p := ⟨b, 1, none⟩) hb _).setCell (p := ⟨b, 2, none⟩) hb _).setCell (p := ⟨b, 3, none⟩) hb _).setCell (p := ⟨b, 4, none⟩) hb _).setCell (p := ⟨b, 5, none⟩) hb _).setCell (p := ⟨b, 6, none⟩) hb _).setCell (p := ⟨b, 7, none⟩) hb _).setCell (p := ⟨b, 8, none⟩) hb _).setCell (p := ⟨b, 9, none⟩) hb _
theorem At.ten {w : World} {B : Nat} {a0 a1 a2 a3 a4 a5 a6 a7 a8 a9 : Value} (h : At w B [a0, a1, a2, a3, a4, a5, a6, a7, a8, a9]) :
    w.cell? ⟨B, 0, none⟩ = some a0 ∧ w.cell? ⟨B, 1, none⟩ = some a1 ∧ w.cell? ⟨B, 2, none⟩ = some a2 ∧ w.cell? ⟨B, 3, none⟩ = some a3 ∧ w.cell? ⟨B, 4, none⟩ = some a4 ∧ w.cell? ⟨B, 5, none⟩ = some a5 ∧ w.cell? ⟨B, 6, none⟩ = some a6 ∧ w.cell? ⟨B, 7, none⟩ = some a7 ∧ w.cell? ⟨B, 8, none⟩ = some a8 ∧ w.cell? ⟨B, 9, none⟩ = some a9 :=
  ⟨h.c 0 _ rfl, h.c 1 _ rfl, h.c 2 _ rfl, h.c 3 _ rfl, h.c 4 _ rfl, h.c 5 _ rfl, h.c 6 _ rfl, h.c 7 _ rfl, h.c 8 _ rfl, h.c 9 _ rfl⟩

abbrev tok10 (k a : Int) (s : ByteArray) (c e : Int) (sh : ByteArray) (co ro : Int) (ac ar : Bool) : Value :=
  .agg #[.int .i64 k, .int .i64 a, .string s, .int .i64 c, .int .i64 e, .string sh, .int .i64 co, .int .i64 ro, .bool ac, .bool ar]
def Tok.cells (t : Tok) (a : Int) : List Value := [.int .i64 t.kind, .int .i64 a, .string ⟨t.s.toArray⟩, .int .i64 t.c, .int .i64 t.e, .string ⟨t.r.1.toArray⟩, .int .i64 t.r.2.1, .int .i64 t.r.2.2.1, .bool t.r.2.2.2.1, .bool t.r.2.2.2.2]
def Tok.val (t : Tok) (a : Int) : Value := .agg (t.cells a).toArray
def oneV (o : One) : Value := .tuple #[o.1.val 0, .int .i64 o.2.1, .int .i64 o.2.2]

/-- The value of one token, and the cells of a token's variable in memory. -/
abbrev zero10 : Array Value := #[.int .i64 0, .int .i64 0, .string ⟨#[]⟩, .int .i64 0, .int .i64 0, .string ⟨#[]⟩, .int .i64 0, .int .i64 0, .bool false, .bool false]

theorem zero10_new (w : World) : At (w.alloc (.cells zero10 34)) w.heap.size zero10.toList ∧ Below w.heap.size w (w.alloc (.cells zero10 34)) :=
  ⟨At.new w zero10 _, (Below.refl _ _).alloc (Nat.le_refl _) _⟩

theorem ret10 {w W : World} {B : Nat} {L : List Value} (r : At W B L) (hL : L.length = 10) (HB : Below w.heap.size w W) (hB : w.heap.size ≤ B) (v0 v1 v2 v3 v4 v5 v6 v7 v8 v9 : Value) :
    At (set10 W B v0 v1 v2 v3 v4 v5 v6 v7 v8 v9) B [v0, v1, v2, v3, v4, v5, v6, v7, v8, v9] ∧ Below w.heap.size w (set10 W B v0 v1 v2 v3 v4 v5 v6 v7 v8 v9) := by
  match L, hL with
  | [a0, a1, a2, a3, a4, a5, a6, a7, a8, a9], _ => exact ⟨r.set10 v0 v1 v2 v3 v4 v5 v6 v7 v8 v9, below_set10 HB hB _ _ _ _ _ _ _ _ _ _⟩

/-- A function that hands back a token's variable, a number, an error: at its end. -/
theorem ret_tok {f : Func} {act : Act} {w W : World} {a b c B : Nat} {V vb vc : Value} {L : List Value} {v0 v1 v2 v3 v4 v5 v6 v7 v8 v9 : Value} (r : At W B L) (hL : L.length = 10) (HB : Below w.heap.size w W) (hB : w.heap.size ≤ B)
    (hV : V = .tuple #[.agg #[v0, v1, v2, v3, v4, v5, v6, v7, v8, v9], vb, vc]) (hf : f.results = #[.cell a 34, .tmp b, .tmp c]) (hd : act.defers = [])
    (ha : act.tmps.getD a undef = .pointer (some ⟨B, 0, none⟩)) (hb : act.tmps.getD b undef = vb) (hc : act.tmps.getD c undef = vc) :
    bodyPost Tryz.prog f (Q V w) .ret act (set10 W B v0 v1 v2 v3 v4 v5 v6 v7 v8 v9) := by
  obtain ⟨r2, hb2⟩ := ret10 r hL HB hB v0 v1 v2 v3 v4 v5 v6 v7 v8 v9
  obtain ⟨t0, t1, t2, t3, t4, t5, t6, t7, t8, t9⟩ := r2.ten
  generalize set10 W B v0 v1 v2 v3 v4 v5 v6 v7 v8 v9 = W' at *
  subst hV
  rw [Array.getD_eq_getD_getElem?] at ha hb hc
  exact bodyPost_ret (v := .tuple #[.agg #[v0, v1, v2, v3, v4, v5, v6, v7, v8, v9], vb, vc]) (by simp [results, hf, go_sem, ha, hb, hc, t0, t1, t2, t3, t4, t5, t6, t7, t8, t9]) hd ⟨rfl, hb2⟩

set_option maxRecDepth 100000 in
set_option maxHeartbeats 8000000 in
theorem lexReference_core (s p sh : ByteArray) (n : Nat) (e co ro : Int) (ac ar : Bool) (w : World) (hn : n ≤ s.size) (hp : s.extract 0 n = p)
    (C1 : Hid (∀ w, Glob w → Calls Tryz.prog 38 #[.string p] w (Q (.tuple #[refV sh co ro ac ar, .int .i64 e]) w)))
    (hg : Glob w) :
    Calls Tryz.prog 36 #[.string s, .int .i64 (n : Int)] w (Q (.tuple #[tok10 3 0 ⟨#[]⟩ 0 0 sh co ro ac ar, .int .i64 (n : Int), .int .i64 e]) w) := by
  have HP := Lib.hid hp
  clear hp
  have r1 := At.new w zero10 34
  have hB : Below w.heap.size w (w.alloc (.cells zero10 34)) := (Below.refl _ _).alloc (Nat.le_refl _) _
  have hg1 := hg.below hB
  have R1 := Lib.hid r1
  have HB := Lib.hid hB
  have HG := Lib.hid hg1
  clear r1 hB hg1
  go_enter Tryz.func36, Tryz.ntmps36
  go_wp2_with fail
  rw [HP.out]
  refine (C1.out _ HG.out).mono ?_
  rintro e w1 ⟨rfl, hb⟩
  have r1 := R1.out.below hb
  replace HB := Lib.hid (bt HB.out hb)
  clear hb C1 R1
  have hA : Below w1.heap.size w1 (w1.alloc (.cells #[.string sh, .int .i64 co, .int .i64 ro, .bool ac, .bool ar] 32)) := (Below.refl _ _).alloc (Nat.le_refl _) _
  have R2 := RefAt.new w1 sh co ro ac ar
  have r2 := r1.below hA
  replace HB := Lib.hid (bt HB.out hA)
  clear hA r1
  obtain ⟨q0, q1, q2, q3, q4, qf, ql⟩ := R2
  obtain ⟨p0, p1, p2, p3, p4, p5, p6, p7, p8, p9⟩ := r2.ten
  have pf := r2.fz
  go_wp2_with fail
  exact ret_tok r2 rfl HB.out (Nat.le_refl _) rfl rfl rfl rfl rfl rfl

theorem lexReference_any (s : ByteArray) (n : Nat) (w : World) (hn : n ≤ s.size) (hs : s.size ≤ 512) (hg : Glob w) :
    Calls Tryz.prog 36 #[.string s, .int .i64 (n : Int)] w (Q (oneV (refOne parseF s.data.toList n)) w) := by
  have he : (s.extract 0 n).data.toList = s.data.toList.take n := by
    rw [ByteArray.data_extract, Array.toList_extract, List.extract_eq_take_drop]; simp
  have hz : (s.extract 0 n).size ≤ 4294967280 := by rw [ByteArray.size_extract]; omega
  have C1 := fun w hg => parse_any (s.extract 0 n) w hz hg
  rw [he] at C1
  exact lexReference_core s (s.extract 0 n) _ n _ _ _ _ _ w hn rfl (Lib.hid C1) hg
end Go.Proofs.YtegjainidiaeaaaGreatDoor
