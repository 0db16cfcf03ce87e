/- Package dec: a range over a text's digits, for its two callers. -/
import Derived.Test.YtegjainidiaeaaaGreatDoorDh
namespace Go.Proofs.YtegjainidiaeaaaGreatDoor
open Go.RowKit Go.Lib Go.Shelf

theorem range_digits {g : Operand} {ps : Array Tmp} {assign body : Code} {Q' : Exit → Act → World → Prop} {T : Array Value} {ds : List Deferred} {w : World} (p v : Nat)
    (Bd : Nat) (d : ByteArray) (xs : List (Fin 10)) (hsz : d.size ≤ 512) (hd : d.data.toList = xs.map digB) (hB : Bd < w.heap.size) (hc : w.cell? ⟨Bd, 0, none⟩ = some (.string d))
    (hg : ({ tmps := T, defers := ds } : Act).eval g = .func (.func 55) #[] #[.pointer (some ⟨Bd, 0, none⟩)]) (hps : ps.size = 1)
    (I : List (Fin 10) → World → Prop) (hI : OwnFrom w.heap.size I) (h0 : I [] w)
    (hassign : ∀ (l : Nat) (x : Fin 10) (W : World) (K : Act → World → Prop), K { tmps := (T.setIfInBounds p (.int .i64 (x.val : Int))).setIfInBounds v (.int .i64 (x.val : Int)), defers := [] } W →
      assign.wpIn (Fence.wide.inRound l) (6 - 1 - 1) Tryz.prog (Exit.then K (fun _ _ _ => False)) { tmps := (ps.zip #[.int .i64 (x.val : Int)]).foldl (fun t (p, v) => t.setIfInBounds p v) T, defers := [] } W)
    (hbody : ∀ (l : Nat) (pre : List (Fin 10)) (x : Fin 10) (W : World), I pre W → pre.length < xs.length → body.wpIn (Fence.wide.inRound l) (6 - 1 - 1) Tryz.prog (ownPostK (KpD Bd d) I (fun _ _ _ => False) (pre ++ [x]) W) { tmps := (T.setIfInBounds p (.int .i64 (x.val : Int))).setIfInBounds v (.int .i64 (x.val : Int)), defers := [] } W)
    (hdone : ∀ (D : Nat) (W : World), w.heap.size ≤ D → I xs W → W.heap[D]? = some (.deferred (some [])) → Q' .normal { tmps := T, defers := { target := .collected D, args := #[] } :: ds } W) :
    (Code.rangeFunc g ps assign body).wp Tryz.prog Q' { tmps := T, defers := ds } w := by
  refine (wpIn_wide (n := 6)).1 ?_
  refine wpIn_rangeFunc_ownF rfl (by decide) (gf := 55) (lb := #[.pointer (some ⟨Bd, 0, none⟩)]) hg trivial (enters_of Tryz.func55 (by kernel_rfl) rfl)
    (values_stops Fence.wide (6 - 1) trivial rfl (by decide) Bd d xs hsz hd w hB hc) kpD_t kpD_b (Below.refl _ _) (fun _ => hps.symm)
    I (fun _ _ _ => False) hI (fun _ _ _ _ _ hs _ _ => hs) h0 (fun x => { tmps := (T.setIfInBounds p (.int .i64 (x.val : Int))).setIfInBounds v (.int .i64 (x.val : Int)), defers := [] }) hassign hbody ?_ ?_
  · rintro D ys W hD rfl hi hK
    exact hdone D W hD hi hK
  · intro D c pre W _ _ h _
    exact h.elim

theorem valF_snoc (pre : List (Fin 10)) (x : Fin 10) : valF (pre ++ [x]) = 10 * valF pre + x.val := by unfold valF; rw [List.foldl_append]; rfl
theorem valF_lt (pre : List (Fin 10)) : valF pre < 10 ^ pre.length := by
  have : ∀ k (pre : List (Fin 10)), pre.length = k → valF pre < 10 ^ k := by
    intro k
    induction k with
    | zero => intro pre h; rw [List.length_eq_zero_iff.1 h]; decide
    | succ k ih =>
      intro pre h
      rcases List.eq_nil_or_concat pre with rfl | ⟨q, x, rfl⟩
      · simp at h
      · rw [List.concat_eq_append] at h ⊢
        rw [List.length_append, List.length_singleton] at h
        have := ih q (by omega)
        rw [valF_snoc, Nat.pow_succ]
        have := x.isLt
        omega
  exact this _ pre rfl
theorem wideF_snoc (pre : List (Fin 10)) (x : Fin 10) : wideF (pre ++ [x]) = (wideF pre * 10 % 340282366920938463463374607431768211456 + x.val) % 340282366920938463463374607431768211456 := by unfold wideF; rw [List.foldl_append]; rfl
theorem wideF_lt (pre : List (Fin 10)) : wideF pre < 340282366920938463463374607431768211456 := by
  rcases List.eq_nil_or_concat pre with rfl | ⟨q, x, rfl⟩
  · decide
  · rw [List.concat_eq_append, wideF_snoc]; exact Nat.mod_lt _ (by decide)
theorem At.kpD {W W' : World} {Bd : Nat} {d : ByteArray} (h : At W' Bd [.string d]) : KpD Bd d W W' := fun _ => h.c 0 _ rfl
theorem keeps_below {W W' : World} (h : Below W.heap.size W W') : KeepsOthers W W' := ⟨h.size, fun k o hk _ => by rw [h.block k (Array.getElem?_eq_some_iff.1 hk).1]; exact hk⟩

/-! ### What the rounds' deferred calls leave -/
def DK (Ds : List Nat) (W : World) : Prop := Ds.Nodup ∧ ∀ D ∈ Ds, W.heap[D]? = some (.deferred (some []))
def defs (Ds : List Nat) : List Deferred := Ds.map fun D => { target := .collected D, args := #[] }
theorem DK.below {Ds : List Nat} {W W' : World} (h : DK Ds W) (hb : Below W.heap.size W W') : DK Ds W' :=
  ⟨h.1, fun D hD => by rw [hb.block D (Array.getElem?_eq_some_iff.1 (h.2 D hD)).1]; exact h.2 D hD⟩
theorem DK.set {Ds : List Nat} {W : World} {B i : Nat} {v : Value} {vs : List Value} (h : DK Ds W) (r : At W B (v :: vs)) (x : Value) : DK Ds (W.setCell ⟨B, i, none⟩ x) := by
  refine ⟨h.1, fun D hD => ?_⟩
  have hk := h.2 D hD
  have hne : D ≠ B := by
    rintro rfl
    have h0 := r.c 0 v rfl
    simp [World.cell?, hk] at h0
  exact (Below.heap_setCell _ _ _ _ hne).trans hk
theorem DK.set2 {Ds : List Nat} {W : World} {B : Nat} {a0 a1 : Value} (h : DK Ds W) (r : At W B [a0, a1]) (x y : Value) : DK Ds (set2 W B x y) := (h.set (i := 0) r x).set (i := 1) (r.set 0 (by simp) x) y
theorem DK.upd {Ds : List Nat} {W W' : World} (h : DK Ds W) (hw : ∀ D, D ∈ Ds → W'.heap[D]? = W.heap[D]?) : DK Ds W' := ⟨h.1, fun D hD => by rw [hw D hD]; exact h.2 D hD⟩
theorem DK.grown {Ds : List Nat} {W W' : World} {row : Option Nat} {B : Nat} (h : DK Ds W) (hlt : ∀ D ∈ Ds, D < B) (hg : W.grownBy W' row) (hr : ∀ r, row = some r → B ≤ r) : DK Ds W' := by
  refine ⟨h.1, fun D hD => ?_⟩
  have hk := h.2 D hD
  rw [hg.block D (Array.getElem?_eq_some_iff.1 hk).1 (fun e => by have := hr D e.symm; have := hlt D hD; omega)]
  exact hk
theorem DK.keeps {Ds : List Nat} {W W' : World} (h : DK Ds W) (hk : KeepsOthers W W') : DK Ds W' := ⟨h.1, fun D hD => hk.same D _ (h.2 D hD) rfl⟩
theorem DK.cons {Ds : List Nat} {W : World} {D : Nat} (h : DK Ds W) (hD : W.heap[D]? = some (.deferred (some []))) (hn : D ∉ Ds) : DK (D :: Ds) W :=
  ⟨List.nodup_cons.2 ⟨hn, h.1⟩, fun E hE => by
    rcases List.mem_cons.1 hE with rfl | hE
    · exact hD
    · exact h.2 E hE⟩

theorem leaves_ds {f : Func} {T : Array Value} {V vb v0 v1 : Value} {a b t B : Nat} {w : World} (hf : f.results = #[.cell a t, .tmp b]) (hag : ∀ w, (isAgg t).run Tryz.prog w = .ok true w) (hsz : ∀ w, (Go.sizeOf t).run Tryz.prog w = .ok 2 w)
    (hV : V = .tuple #[.agg #[v0, v1], vb]) (ha : T.getD a undef = .pointer (some ⟨B, 0, none⟩)) (hb : T.getD b undef = vb) :
    ∀ (Ds : List Nat) (W : World), DK Ds W → (∀ D ∈ Ds, w.heap.size ≤ D) → At W B [v0, v1] → Below w.heap.size w W → LeavesInM Fence.wide 6 Tryz.prog f T (Q V w) (defs Ds) .returning W
  | [], W, _, _, hr, hB => by
    have t0 := hr.c 0 _ rfl
    have t1 := hr.c 1 _ rfl
    subst hV
    rw [Array.getD_eq_getD_getElem?] at ha hb
    exact ⟨.tuple #[.agg #[v0, v1], vb], by simp [results, hf, go_sem, ha, hb, hag, hsz, t0, t1], rfl, hB⟩
  | D :: Ds, W, hk, hD, hr, hB => by
    have h1 := hk.2 D (List.mem_cons_self ..)
    have hn := List.nodup_cons.1 hk.1
    have hlt := (Array.getElem?_eq_some_iff.1 h1).1
    refine ⟨by simp, .inl ⟨D, _, rfl, run_takeDeferred h1, ?_⟩⟩
    refine leaves_ds hf hag hsz hV ha hb Ds _ ⟨hn.2, fun E hE => ?_⟩ (fun E hE => hD E (List.mem_cons_of_mem _ hE)) (hr.kept (grownBy_putObj' W D _) (fun r e => by cases e; exact ⟨_, h1, rfl⟩)) (hB.trans (belowK_b (w := w) (Nat.le_refl _) W D _ _ (hD D (List.mem_cons_self ..)) h1 rfl rfl))
    rw [World.putObj_heap_other (fun e => hn.1 (by rw [← e]; exact hE))]
    exact hk.2 E (List.mem_cons_of_mem _ hE)

/-- dec.Parse's return. -/
theorem ret_ds {f : Func} {act : Act} {V vb x0 x1 v0 v1 : Value} {a b t B : Nat} {w W : World} (Ds : List Nat) (hk : DK Ds W) (hD : ∀ D ∈ Ds, w.heap.size ≤ D) (r : At W B [x0, x1]) (HB : Below w.heap.size w W) (hB : w.heap.size ≤ B)
    (hag : ∀ w, (isAgg t).run Tryz.prog w = .ok true w) (hsz : ∀ w, (Go.sizeOf t).run Tryz.prog w = .ok 2 w) (hV : V = .tuple #[.agg #[v0, v1], vb]) (hf : f.results = #[.cell a t, .tmp b]) (hd : act.defers = defs Ds)
    (ha : act.tmps.getD a undef = .pointer (some ⟨B, 0, none⟩)) (hb : act.tmps.getD b undef = vb) :
    bodyPostM Fence.wide 6 Tryz.prog f (Q V w) .ret act (set2 W B v0 v1) := by
  show LeavesInM Fence.wide 6 Tryz.prog f act.tmps (Q V w) act.defers .returning (set2 W B v0 v1)
  rw [hd]
  exact leaves_ds hf hag hsz hV ha hb Ds _ (hk.set2 r v0 v1) hD (r.set2 v0 v1) (below_set2 HB hB v0 v1)

theorem trimL_facts {l : List UInt8} {n : Nat} (hl : l.length ≤ n) (hd : l.all Pl.digit = true) : (Lib.trimLeftB l 48).length ≤ n ∧ (Lib.trimLeftB l 48).all Pl.digit = true := by
  unfold Lib.trimLeftB
  refine ⟨Nat.le_trans (dropWhile_le _ l) hl, ?_⟩
  rw [List.all_eq_true] at hd ⊢
  exact fun x hx => hd x ((List.dropWhile_sublist _).mem hx)
theorem trimR_facts {l : List UInt8} (hd : l.all Pl.digit = true) : (Lib.trimRightB l 48).length ≤ l.length ∧ (Lib.trimRightB l 48).all Pl.digit = true := by
  unfold Lib.trimRightB
  refine ⟨?_, ?_⟩
  · rw [List.length_reverse]
    have := dropWhile_le (· == 48) l.reverse
    rwa [List.length_reverse] at this
  · rw [List.all_eq_true] at hd ⊢
    exact fun x hx => hd x (List.mem_reverse.1 ((List.dropWhile_sublist _).mem (List.mem_reverse.1 hx)))
end Go.Proofs.YtegjainidiaeaaaGreatDoor
