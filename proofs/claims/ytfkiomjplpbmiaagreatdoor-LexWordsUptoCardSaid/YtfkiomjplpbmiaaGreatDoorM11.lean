/- The document's Parse of a number: its walk's last part. -/
import Derived.Test.YtfkiomjplpbmiaaGreatDoorM10
import Derived.Test.YtfkiomjplpbmiaaGreatDoorNhM
import Derived.Deep.RegionLaw
namespace Go.Proofs.YtfkiomjplpbmiaaGreatDoor
open Go.RowKit Go.Lib

theorem r9digit (b : UInt8) (w : World) : Calls Tryz.prog 145 #[.int .u8 b.toNat] w (Q (.bool (Pl.digit b)) w) := by
  obtain ⟨n, hn⟩ : ∃ n, b.toNat = n := ⟨_, rfl⟩
  have hd : Pl.digit b = (decide (48 ≤ (n : Int)) && decide ((n : Int) ≤ 57)) := by
    rw [← hn]
    have h : ∀ i : Fin 256, Pl.digit (UInt8.ofNat i.val) = (decide (48 ≤ ((UInt8.ofNat i.val).toNat : Int)) && decide (((UInt8.ofNat i.val).toNat : Int) ≤ 57)) := by decide +kernel
    have k := h ⟨b.toNat, b.toNat_lt⟩
    simpa using k
  rw [hd, hn]
  clear hd hn
  cases h1 : decide (48 ≤ (n : Int)) with
  | false =>
    go_enter Tryz.func145, Tryz.ntmps145
    go_wp2_with fail
    go_ret
    exact ⟨rfl, Below.refl _ _⟩
  | true =>
    cases h2 : decide ((n : Int) ≤ 57) with
    | false =>
      go_enter Tryz.func145, Tryz.ntmps145
      go_wp2_with fail
      go_ret
      exact ⟨rfl, Below.refl _ _⟩
    | true =>
      go_enter Tryz.func145, Tryz.ntmps145
      go_wp2_with fail
      go_ret
      exact ⟨rfl, Below.refl _ _⟩

/-- The variables of Parse in memory. -/
structure PM (w0 w : World) (E : Int) : Prop where
  r : At w w0.heap.size [.int .i64 0, .int .i64 0]
  n : At w (w0.heap.size + 1) [.bool false, .slice none 0 0, .int .i64 E]
  bel : Below w0.heap.size w0 w
theorem PM.below {w0 w w' : World} {E : Int} (h : PM w0 w E) (hb : Below w.heap.size w w') : PM w0 w' E := ⟨h.r.below hb, h.n.below hb, bt h.bel hb⟩
theorem PM.grown {w0 w w' : World} {E : Int} {row : Option Nat} (h : PM w0 w E) (hg : w.grownBy w' row) (hr : ∀ k, row = some k → w0.heap.size + 2 ≤ k) : PM w0 w' E := by
  have hb : ∀ k, k < w0.heap.size + 2 → w'.heap[k]? = w.heap[k]? := fun k hk => hg.block k (by have := h.n.lt; omega) (fun e => by have := hr k e.symm; omega)
  exact ⟨h.r.of_block hg.size (hb _ (by omega)), h.n.of_block hg.size (hb _ (by omega)), h.bel.trans ⟨hg.os, hg.tape, hg.output, hg.size, fun k hk => hb k (by omega)⟩⟩
theorem PM.setE {w0 w : World} {E : Int} (h : PM w0 w E) (x : Int) : PM w0 (w.setCell ⟨w0.heap.size + 1, 2, none⟩ (.int .i64 x)) x :=
  ⟨h.r.other _ _ (by show w0.heap.size ≠ w0.heap.size + 1; omega), h.n.set 2 (by simp) _, h.bel.setCell (p := ⟨w0.heap.size + 1, 2, none⟩) (Nat.le_succ _) _⟩
theorem digN_snoc (l : List UInt8) (b : UInt8) : digN (l ++ [b]) = digN l ++ [b.toNat - 48] := by unfold digN; simp
theorem u8_digit {b : UInt8} (h : Pl.digit b = true) : IntKind.u8.wrap ((b.toNat : Int) - 48) = ((b.toNat - 48 : Nat) : Int) := by
  have hh : 48 ≤ b.toNat ∧ b.toNat ≤ 57 := (digit_iff b).1 h
  rw [IntKind.wrap_u8]
  omega

/-- What an append of one number leaves, over any base. -/
theorem own_append_b {P : Program} {ops : Array Oper} {rest : List Oper} {o : Oper} {a : Act} {Q : Exit → Act → World → Prop} {W : World} (base : Nat) (hgd : o.guard = none) (s x : Operand) (t e : TypeId) (z : Value) (bytes : Nat)
    (ho : o.op = .call { callee := .builtin .append, args := #[s, x], argTypes := #[t, t] })
    (ht : P.underlying t = some (.slice e)) (hinfo : (P.info? e).map (fun i => (i.zero, i.size, i.bytes)) = some (some z, 1, bytes)) (hz : z.cells.size = 1)
    (v : Value) (n : Nat) (xs : List Value) (y : Value) (hs : a.eval s = v) (hx : a.eval x = .slice (some ⟨W.heap.size, 0, none⟩) 1 1) (h1 : y.oneCell' = true)
    (HO : W.ownsRow base e 1 v n xs) (HB : base ≤ W.heap.size) (hn : n ≤ 9000000000) (hb : bytes ≤ 8)
    (h : ∀ v1 w1, w1.ownsRow base e 1 v1 (n + 1) (xs ++ [y]) → W.grownBy w1 v.ownBlock → wpList P ops Q rest (a.put o.dst v1) w1) :
    wpList P ops Q (o :: rest) a (W.alloc (.cells #[y] e)) := by
  obtain ⟨i0, hi, hz0, hz1, hz2⟩ := info_parts hinfo
  have hlen : (n + 1) * bytes ≤ 140737488355328 := Nat.le_trans (Nat.mul_le_mul_left _ hb) (by omega)
  refine wpList_append_own_at (W.alloc (.cells #[y] e)) hgd s x t ho base e i0 z 1 bytes ht hi hz0 hz1 hz2 hz (by omega) v n xs hs (HO.alloc _) ⟨W.heap.size, 0, none⟩ 1 1 [y] hx rfl
    (World.news_of_block (cs := #[y]) (t := e) (fr := (0, 0)) (heap_alloc_new W _)) (by simpa using h1) (by simp only [maxLen]; omega) hlen (by simp; omega) ?_
  intro v1 w1 hown hg _ hat
  exact h v1 w1 hown (World.grownBy.trans (World.grownBy_alloc W _ _) hg)

/-- What stands at a place. -/
theorem at_head (s : ByteArray) (k : Nat) (h : k < s.size) : (s.data.toList.drop k).head? = some (s[k]'h) := head_drop s k h

def tupleV (x : Int × Int × Int) : Value := .tuple #[.agg #[.int .i64 x.2.1, .int .i64 x.2.2], .int .i64 x.1]
/-- What follows the first so many statements. -/
def tailC : Nat → Code → Code
  | 0, c => c
  | n + 1, .seq _ b => tailC n b
  | _ + 1, c => c

/-- The variables while the digits are turned round. -/
structure PT (b1 : Nat) (w0 w : World) (neg : Bool) (sl : Value) (E : Int) (xs : List Nat) (v7 : Value) (ds : List Nat) : Prop where
  r : At w w0.heap.size [.int .i64 0, .int .i64 0]
  n : At w (w0.heap.size + 1) [.bool neg, sl, .int .i64 E]
  o : w.ownsRow b1 3 1 sl xs.length (numsV xs)
  d : SlI w v7 ds
  df : ∀ k, v7.ownBlock = some k → k < b1 ∧ w0.heap.size + 1 < k
  low : w0.heap.size + 1 < b1
  le : b1 ≤ w.heap.size
  bel : Below w0.heap.size w0 w

theorem PT.below {b1 : Nat} {w0 w w' : World} {neg : Bool} {sl : Value} {E : Int} {xs : List Nat} {v7 : Value} {ds : List Nat} (h : PT b1 w0 w neg sl E xs v7 ds) (hb : Below w.heap.size w w') : PT b1 w0 w' neg sl E xs v7 ds :=
  ⟨h.r.below hb, h.n.below hb, owns_below h.o hb, h.d.below hb, h.df, h.low, Nat.le_trans h.le hb.size, bt h.bel hb⟩
/-- The row has grown by one. -/
theorem PT.more {b1 : Nat} {w0 w w' : World} {neg : Bool} {sl sl' : Value} {E : Int} {xs ys : List Nat} {v7 : Value} {ds : List Nat} (h : PT b1 w0 w neg sl E xs v7 ds) (hg : w.grownBy w' sl.ownBlock) (ho : w'.ownsRow b1 3 1 sl' ys.length (numsV ys)) :
    PT b1 w0 (w'.setCell ⟨w0.heap.size + 1, 1, none⟩ sl') neg sl' E ys v7 ds := by
  have hb : ∀ k, k < b1 → w'.heap[k]? = w.heap[k]? := fun k hk => hg.block k (by have := h.le; omega) (fun e => by have := (h.o.lt k e.symm).1; omega)
  have hlow := h.low
  have r2 := (h.r.of_block hg.size (hb _ (by omega))).other ⟨w0.heap.size + 1, 1, none⟩ sl' (by show w0.heap.size ≠ w0.heap.size + 1; omega)
  have n2 := (h.n.of_block hg.size (hb _ (by omega))).set 1 (by simp) sl'
  have d2 : SlI w' v7 ds := by
    obtain ⟨ao, cap, e, h1, h2, h3⟩ := h.d
    refine ⟨ao, cap, e, h1, h2, fun hne => ?_⟩
    obtain ⟨g, o, rfl, hl, hc⟩ := h3 hne
    have hgb : g < b1 := (h.df g (by rw [e]; rfl)).1
    exact ⟨g, o, rfl, Nat.lt_of_lt_of_le hl hg.size, fun i d hi => (World.cell?_of_block (a := ⟨g, o + i, none⟩) (hb g hgb)).trans (hc i d hi)⟩
  have be : Below w0.heap.size w0 w' := h.bel.trans ⟨hg.os, hg.tape, hg.output, hg.size, fun k hk => hb k (by omega)⟩
  exact ⟨r2, n2, own_set ho _ _ _ hlow, slI_set d2 _ _ _ (fun k hk => by have := (h.df k hk).2; omega), h.df, h.low, by rw [setCell_size]; exact Nat.le_trans h.le hg.size, be.setCell (p := ⟨w0.heap.size + 1, 1, none⟩) (Nat.le_succ _) _⟩

/-- What holds all through the step. -/
structure PQ (w0 w : World) (v7 : Value) (ds : List Nat) : Prop where
  r : At w w0.heap.size [.int .i64 0, .int .i64 0]
  n : ∃ x y z, At w (w0.heap.size + 1) [x, y, z]
  d : SlI w v7 ds
theorem PQ.below {w0 w w' : World} {v7 : Value} {ds : List Nat} (h : PQ w0 w v7 ds) (hb : Below w.heap.size w w') : PQ w0 w' v7 ds := by
  obtain ⟨x, y, z, hn⟩ := h.n
  exact ⟨h.r.below hb, ⟨x, y, z, hn.below hb⟩, h.d.below hb⟩

theorem st_store {w : World} {N g o : Nat} {x y v : Value} (h1 : w.cell? ⟨N, 1, none⟩ = some x) (h2 : w.cell? ⟨g, o, none⟩ = some y) (h3 : ∀ i, w.frozen? ⟨N, i, none⟩ = false) (hne : N ≠ g) :
    (w.setCell ⟨N, 1, none⟩ v).cell? ⟨N, 1, none⟩ = some (cv (w.setCell ⟨N, 1, none⟩ v) ⟨N, 1, none⟩) ∧ (w.setCell ⟨N, 1, none⟩ v).cell? ⟨g, o, none⟩ = some y ∧ (∀ i, (w.setCell ⟨N, 1, none⟩ v).frozen? ⟨N, i, none⟩ = false) := by
  have e := World.cell?_setCell_same w (⟨N, 1, none⟩ : Addr) v h1
  refine ⟨by unfold cv; rw [e]; rfl, (World.cell?_of_block (a := ⟨g, o, none⟩) (Below.heap_setCell _ _ _ _ (fun h => hne h.symm))).trans h2, fun i => by rw [World.frozen?_setCell]; exact h3 i⟩

theorem digN_dig (l : List UInt8) (h : l.all Pl.digit = true) : DigL (digN l) := by
  intro d hd
  unfold digN at hd
  rw [List.mem_map] at hd
  obtain ⟨b, hb, rfl⟩ := hd
  have := (digit_iff b).1 (List.all_eq_true.1 h b hb)
  omega
theorem DigL.trim {ds : List Nat} (h : DigL ds) : DigL (trimL ds) := by
  intro d hd
  unfold trimL at hd
  rw [List.mem_reverse] at hd
  exact h d (List.mem_reverse.1 (List.dropWhile_sublist _ |>.subset hd))

set_option maxRecDepth 100000 in
set_option maxHeartbeats 32000000 in
theorem r9p5 (s : ByteArray) (w : World) (V : Value) (neg : Bool) (k : Nat) (D : List UInt8) (E : Int) (v7 : Value) (b0 : Nat) (wx : World) {u1 u8 u9 u10 u11 u12 u13 u14 u15 u16 u17 u18 u19 u20 u21 u22 u23 u24 u25 u26 u27 u28 u29 u30 u31 u32 u33 u34 u35 u36 u37 u38 u39 u40 u41 u42 u43 u44 u45 u46 u47 u48 u49 u50 u51 u52 u53 u54 u55 u56 u57 u58 u59 u60 u61 u62 u63 u64 u65 u66 u67 u68 u69 u70 u71 u72 u73 u74 u75 u76 u77 u78 u79 u80 u81 u82 u83 u84 u85 u86 u87 u88 u89 u90 u91 u92 u93 u94 u95 u96 u97 u98 u99 u100 u101 u102 u103 u104 u105 u106 u107 u108 u109 u110 u111 u112 u113 u114 u115 u116 u117 u118 u119 u120 u121 u122 u123 u124 u125 u126 u127 u128 u129 u130 u131 u132 u133 u134 u135 u136 u137 u138 u139 u140 u141 u142 u143 u144 u145 u146 u147 u148 u149 u150 u151 u152 u153 u154 u155 u156 u157 u158 u159 u160 u161 u162 u163 u164 u165 u166 u167 u168 u169 u170 u171 u172 u173 u174 u175 u176 u177 u178 u179 u180 u181 u182 u183 u184 u185 u186 u187 u188 u189 u190 u191 u192 u193 u194 u195 u196 u197 u198 u199 u200 u201 u202 u203 u204 u205 u206 u207 u208 u209 : Value}
    (hk : k ≤ s.size) (hD : D.length ≤ 512) (hDd : D.all Pl.digit = true) (hE1 : -2000 ≤ E) (hE2 : E ≤ 2000)
    (HV : Hid (V = tupleV (endP neg D E (s.data.toList.drop k)))) (HO : Hid (wx.ownsRow b0 3 1 v7 D.length (numsV (digN D)))) (HP : Hid (PM w wx E)) (hws : b0 ≤ wx.heap.size) (hb0 : w.heap.size + 2 ≤ b0) :
    Code.wp Tryz.prog (tailC 12 (Tryz.f93.body.getD .skip)) (bodyPost Tryz.prog Tryz.f93 (Q V w)) ⟨List.toArray ((.string s) :: u1 :: (.pointer (some ⟨w.heap.size, 0, none⟩)) :: (.int .i64 0) :: (.pointer (some ⟨w.heap.size + 1, 0, none⟩)) :: (.int .i64 (k : Int)) :: (.bool neg) :: (v7) :: u8 :: u9 :: u10 :: u11 :: u12 :: u13 :: u14 :: u15 :: u16 :: u17 :: u18 :: u19 :: u20 :: u21 :: u22 :: u23 :: u24 :: u25 :: u26 :: u27 :: u28 :: u29 :: u30 :: u31 :: u32 :: u33 :: u34 :: u35 :: u36 :: u37 :: u38 :: u39 :: u40 :: u41 :: u42 :: u43 :: u44 :: u45 :: u46 :: u47 :: u48 :: u49 :: u50 :: u51 :: u52 :: u53 :: u54 :: u55 :: u56 :: u57 :: u58 :: u59 :: u60 :: u61 :: u62 :: u63 :: u64 :: u65 :: u66 :: u67 :: u68 :: u69 :: u70 :: u71 :: u72 :: u73 :: u74 :: u75 :: u76 :: u77 :: u78 :: u79 :: u80 :: u81 :: u82 :: u83 :: u84 :: u85 :: u86 :: u87 :: u88 :: u89 :: u90 :: u91 :: u92 :: u93 :: u94 :: u95 :: u96 :: u97 :: u98 :: u99 :: u100 :: u101 :: u102 :: u103 :: u104 :: u105 :: u106 :: u107 :: u108 :: u109 :: u110 :: u111 :: u112 :: u113 :: u114 :: u115 :: u116 :: u117 :: u118 :: u119 :: u120 :: u121 :: u122 :: u123 :: u124 :: u125 :: u126 :: u127 :: u128 :: u129 :: u130 :: u131 :: u132 :: u133 :: u134 :: u135 :: u136 :: u137 :: u138 :: u139 :: u140 :: u141 :: u142 :: u143 :: u144 :: u145 :: u146 :: u147 :: u148 :: u149 :: u150 :: u151 :: u152 :: u153 :: u154 :: u155 :: u156 :: u157 :: u158 :: u159 :: u160 :: u161 :: u162 :: u163 :: u164 :: u165 :: u166 :: u167 :: u168 :: u169 :: u170 :: u171 :: u172 :: u173 :: u174 :: u175 :: u176 :: u177 :: u178 :: u179 :: u180 :: u181 :: u182 :: u183 :: u184 :: u185 :: u186 :: u187 :: u188 :: u189 :: u190 :: u191 :: u192 :: u193 :: u194 :: u195 :: u196 :: u197 :: u198 :: u199 :: u200 :: u201 :: u202 :: u203 :: u204 :: u205 :: u206 :: u207 :: u208 :: u209 :: []), []⟩ wx := by
  conv => arg 2; whnf
  have hsz : s.data.toList.length = s.size := rfl
  by_cases hlt : k < s.size
  · have d1 : decide ((k : Int) < (s.size : Int)) = true := decide_eq_true (by omega)
    have HV2 : Hid (V = .tuple #[.agg #[.int .i64 0, .int .i64 0], .int .i64 40]) := by
      show _ = _
      rw [HV.out]; unfold endP
      rw [if_neg (by intro h; have := congrArg List.length h; rw [List.length_drop] at this; simp at this; omega)]; rfl
    have s0 := HP.out.r.c 0 _ rfl
    have s1 := HP.out.r.c 1 _ rfl
    have sf := HP.out.r.fz
    clear HV
    go_wp2_with fail
    exact ret_dec HP.out.r HP.out.bel (Nat.le_refl _) HV2.out rfl rfl rfl rfl
  · have d1 : decide ((k : Int) < (s.size : Int)) = false := decide_eq_false (by omega)
    have HV2 : Hid (V = tupleV (tellR (neg && !(trimL (digN D).reverse).isEmpty) (trimL (digN D).reverse) E)) := by
      show _ = _
      rw [HV.out]; unfold endP
      rw [if_pos (List.drop_eq_nil_of_le (by omega))]
    have hDN : (digN D).length = D.length := by unfold digN; simp
    have hds := slI_own_n hDN HO.out
    have hdf : ∀ k, v7.ownBlock = some k → k < wx.heap.size ∧ w.heap.size + 1 < k := fun k hk => ⟨(HO.out.lt k hk).2, by have := (HO.out.lt k hk).1; omega⟩
    obtain ⟨ao, cap, hv7, hc1, hc2, _⟩ := id hds
    rw [hDN] at hv7 hc1
    subst hv7
    obtain ⟨n, hn⟩ : ∃ n, D.length = n := ⟨_, rfl⟩
    rw [hn] at hds hdf hc1 hD ⊢
    have PT0 : Hid (PT wx.heap.size w wx false (.slice none 0 0) E [] (.slice ao n cap) (digN D)) :=
      ⟨HP.out.r, HP.out.n, World.ownsRow_nil _ _ _ _, hds, hdf, by omega, Nat.le_refl _, HP.out.bel⟩
    have HN : Hid ((digN D).length = n) := by show _ = _; rw [hDN, hn]
    have HDD := Lib.hid (digN_dig D hDd)
    clear HV HO HP hds hdf hDN hn hDd
    obtain ⟨b1, hb1⟩ : ∃ b1, wx.heap.size = b1 := ⟨_, rfl⟩
    rw [hb1] at PT0 hws
    clear hb1
    generalize digN D = ds at *
    go_wp2_with fail
    go_loopg [11] n (fun gf v11 wx => ∃ (j : Nat) (sl : Value), v11 = .int .i64 ((j : Int) - 1) ∧ j ≤ n ∧ j ≤ gf ∧ Hid (PT b1 w wx false sl E (ds.drop j).reverse (.slice ao n cap) ds))
    case atStart => exact ⟨n, _, by go_num, Nat.le_refl _, Nat.le_refl _, by rw [List.drop_eq_nil_of_le (by rw [HN.out]; omega)]; exact PT0⟩
    case round =>
      clear PT0
      obtain ⟨j, sl, rfl, hj, hjg, PT0⟩ := hrel
      cases j with
      | zero =>
        have w1 : ((0 : Nat) : Int) - 1 = -1 := rfl
        rw [w1]
        have pt := PT0.out
        rw [List.drop_zero] at pt
        have hsx := slI_own pt.o
        have hxl : ds.reverse.length = n := by rw [List.length_reverse, HN.out]
        have hDr : DigL ds.reverse := fun d hd => HDD.out d (List.mem_reverse.1 hd)
        have hsf : ∀ k, sl.ownBlock = some k → k ≠ w.heap.size + 1 := fun k hk => by have := (pt.o.lt k hk).1; have := pt.low; omega
        obtain ⟨ao2, cap2, hsl, _⟩ := id hsx
        have HVV := HV2.out
        generalize ds.reverse = xs at *
        rw [hxl] at hsl
        subst hsl
        have p0 := pt.n.c 0 _ rfl
        have p1 := pt.n.c 1 _ rfl
        have p2 := pt.n.c 2 _ rfl
        have pf := pt.n.fz
        have n1 := pt.n.set 0 (by simp) (.bool neg)
        have r1 := pt.r.other ⟨w.heap.size + 1, 0, none⟩ (.bool neg) (by show w.heap.size ≠ w.heap.size + 1; omega)
        have l1 := slI_set hsx (w.heap.size + 1) 0 (.bool neg) hsf
        have be1 := pt.bel.setCell (p := ⟨w.heap.size + 1, 0, none⟩) (Nat.le_succ _) (.bool neg)
        have N1 := Lib.hid n1
        have R1 := Lib.hid r1
        have L1 := Lib.hid l1
        have B1 := Lib.hid be1
        have CT := Lib.hid (fun w sl (h : SlI w sl xs) => r9trim w neg sl xs h (by omega))
        have HDX := Lib.hid hDr
        have HVX := Lib.hid HVV
        clear n1 r1 l1 be1 hDr HVV HV2 pt PT0 hsx hsf HDD w1
        go_upto_region 47 with (fail)
        go_cut [3] (fun v3 wx => v3 = .int .i64 0 ∧ wx = wr.setCell ⟨w.heap.size + 1, 0, none⟩ (.bool neg))
        case first =>
          go_wp2_with fail
          go_meet
          exact ⟨rfl, rfl⟩
        obtain ⟨rfl, rfl⟩ := hcut
        generalize wr.setCell ⟨w.heap.size + 1, 0, none⟩ (.bool neg) = W at *
        clear p0 p1 p2 pf
        have p0 := N1.out.c 0 _ rfl
        have p1 := N1.out.c 1 _ rfl
        go_wp2_with fail
        refine (CT.out _ _ L1.out).mono ?_
        rintro e1 w1 ⟨sl', rfl, hs2, hfr, hb⟩
        have n2 := (N1.out.below hb)
        have r2 := R1.out.below hb
        have be2 := bt B1.out hb
        have hNW := N1.out.lt
        have hsf2 : ∀ k, sl'.ownBlock = some k → k ≠ w.heap.size + 1 := fun k hk => by have := hfr k hk; omega
        obtain ⟨ns, hns⟩ : ∃ b, (neg && !(trimL xs).isEmpty) = b := ⟨_, rfl⟩
        have htl : (trimL xs).length ≤ 4000 := by
          have : (trimL xs).length ≤ xs.length := by unfold trimL; rw [List.length_reverse]; exact Nat.le_trans (List.dropWhile_sublist _).length_le (by rw [List.length_reverse]; exact Nat.le_refl _)
          omega
        have n3 := (n2.set 0 (by simp) (.bool ns)).set 1 (by simp) sl'
        have r3 := (r2.other ⟨w.heap.size + 1, 0, none⟩ (.bool ns) (by show w.heap.size ≠ w.heap.size + 1; omega)).other ⟨w.heap.size + 1, 1, none⟩ sl' (by show w.heap.size ≠ w.heap.size + 1; omega)
        have l3 := slI_set (slI_set hs2 (w.heap.size + 1) 0 (.bool ns) hsf2) (w.heap.size + 1) 1 sl' hsf2
        have be3 := (be2.setCell (p := ⟨w.heap.size + 1, 0, none⟩) (Nat.le_succ _) (.bool ns)).setCell (p := ⟨w.heap.size + 1, 1, none⟩) (Nat.le_succ _) sl'
        obtain ⟨ao3, cap3, rfl, _⟩ := hs2
        have q0 := n2.c 0 _ rfl
        have q1 := n2.c 1 _ rfl
        have qf := n2.fz
        have N3 := Lib.hid n3
        have R3 := Lib.hid r3
        have L3 := Lib.hid l3
        have B3 := Lib.hid be3
        have C2 : Hid (∀ w, SlI w (.slice ao3 (trimL xs).length cap3) (trimL xs) → Calls Tryz.prog 147 #[.agg #[.bool ns, .slice ao3 (trimL xs).length cap3, .int .i64 E]] w (Q (tupleV (tellR ns (trimL xs) E)) w)) := fun w h =>
          r9tell w ns _ (trimL xs) E h (trimL_idem xs) HDX.out.trim htl (by omega) (by omega) _ rfl
        rw [hns]
        rw [hns] at HVX
        clear n3 r3 l3 be3 n2 r2 be2 hns hsf2 hfr hb CT p0 p1 htl N1 R1 L1 B1
        generalize trimL xs = ts at *
        go_upto_region 49 with (fail)
        generalize (w1.setCell ⟨w.heap.size + 1, 0, none⟩ (.bool ns)).setCell ⟨w.heap.size + 1, 1, none⟩ (.slice ao3 ts.length cap3) = W2 at *
        clear q0 q1 qf
        have q0 := N3.out.c 0 _ rfl
        have q1 := N3.out.c 1 _ rfl
        have q2 := N3.out.c 2 _ rfl
        unfold tupleV at C2 HVX
        generalize tellR ns ts E = T3 at *
        obtain ⟨er, c, x⟩ := T3
        go_wp2_with fail
        refine (C2.out _ L3.out).mono ?_
        rintro e1 w3 ⟨rfl, hb⟩
        have R4 := Lib.hid (R3.out.below hb)
        have B4 := Lib.hid (bt B3.out hb)
        have s0 := R4.out.c 0 _ rfl
        have s1 := R4.out.c 1 _ rfl
        have sf := R4.out.fz
        clear hb q0 q1 q2 N3 L3 R3 B3
        go_wp2_with fail
        exact ret_dec R4.out B4.out (Nat.le_refl _) HVX.out rfl rfl rfl rfl
      | succ j =>
        obtain ⟨g', rfl⟩ : ∃ g', gk = g' + 1 := ⟨gk - 1, by omega⟩
        have w1 : ((j + 1 : Nat) : Int) - 1 = (j : Int) := by omega
        rw [w1]
        have hjl : j < ds.length := by rw [HN.out]; omega
        obtain ⟨d, hd⟩ : ∃ d, ds[j]? = some d := ⟨_, List.getElem?_eq_getElem hjl⟩
        have hdr : (ds.drop j).reverse = (ds.drop (j + 1)).reverse ++ [d] := by
          rw [List.drop_eq_getElem_cons hjl, List.reverse_cons]
          rw [List.getElem?_eq_getElem hjl] at hd; injection hd with hd; rw [hd]
        have hxl : (ds.drop (j + 1)).reverse.length = n - (j + 1) := by rw [List.length_reverse, List.length_drop, HN.out]
        obtain ⟨g, o, cap', hv, _, _, hgl, hcell⟩ := PT0.out.d.some HN.out (by omega)
        injection hv with hv1 _ hv2
        subst hv1 hv2
        have qd := hcell j d hd
        have HDR := Lib.hid hdr
        generalize (ds.drop (j + 1)).reverse = xs at *
        have p0 := PT0.out.n.c 0 _ rfl
        have p1 := PT0.out.n.c 1 _ rfl
        have p2 := PT0.out.n.c 2 _ rfl
        have pf := PT0.out.n.fz
        obtain ⟨m, hm⟩ : ∃ m, xs.length = m := ⟨_, rfl⟩
        have hsl : ∃ ao2 cap2, sl = .slice ao2 m cap2 := by
          obtain ⟨ao2, cap2, h, _⟩ := slI_own PT0.out.o
          exact ⟨ao2, cap2, by rw [h, hm]⟩
        obtain ⟨ao2, cap2, rfl⟩ := hsl
        have HM := Lib.hid hm
        clear hcell hd hdr hjl w1 hm
        go_wp2_with fail
        have hgf : w.heap.size + 1 < g ∧ g < b1 := ⟨(PT0.out.df g rfl).2, (PT0.out.df g rfl).1⟩
        have hbd1 : Below wr.heap.size wr wr.drew := (Below.refl _ _).drew
        have hbd2 : Below wr.heap.size wr (wr.alloc (.cells #[.int .i64 (d : Int)] 3)).drew := ((Below.refl _ _).alloc (Nat.le_refl _) _).drew
        have hle := PT0.out.le
        have PTa := Lib.hid (PT0.out.below hbd2)
        have KS : ∀ w', wr.heap.size ≤ w'.heap.size → (∀ k, k < b1 → w'.heap[k]? = wr.heap[k]?) → w'.cell? ⟨w.heap.size + 1, 1, none⟩ = some (cv w' ⟨w.heap.size + 1, 1, none⟩) ∧ cv w' ⟨w.heap.size + 1, 1, none⟩ = .slice ao2 m cap2 ∧ w'.cell? ⟨g, o + j, none⟩ = some (.int .i64 (d : Int)) ∧ (∀ i, w'.frozen? ⟨w.heap.size + 1, i, none⟩ = false) := fun w' hz hb => by
          have n2 := PT0.out.n.of_block hz (hb _ (by omega))
          refine ⟨by unfold cv; rw [n2.c 1 _ rfl]; rfl, by unfold cv; rw [n2.c 1 _ rfl]; rfl, (World.cell?_of_block (a := ⟨g, o + j, none⟩) (hb g hgf.2)).trans qd, n2.fz⟩
        obtain ⟨x1, y1, z1, f1⟩ := KS wr.drew hbd1.size (fun k hk => hbd1.block k (by omega))
        obtain ⟨x2, y2, z2, f2⟩ := KS _ hbd2.size (fun k hk => hbd2.block k (by omega))
        rw [y1] at x1
        rw [y2] at x2
        clear y1 y2
        have KH := Lib.hid KS
        have k1 : (j : Int) < (n : Int) := by omega
        have hne : w.heap.size + 1 ≠ g := by omega
        obtain ⟨i0, hi0, hz0, hz1, hz2⟩ := info_parts intInfo
        have O1 := PTa.out.o
        rw [HM.out] at O1
        have hm5 : m ≤ 512 := by have := HM.out; omega
        clear KS hbd1
        go_region_law ((refine step_append_lies _ (by rfl) _ _ _ (by rfl) b1 3 i0 _ 1 8 Tryz.underlying186 hi0 hz0 hz1 hz2 rfl (by omega) (.slice ao2 m cap2) m (numsV xs) (by rfl) O1
                              ⟨wr.heap.size, 0, none⟩ 1 1 [.int .i64 (d : Int)] (by rfl) (by rfl) (World.news_of_block (cs := #[.int .i64 (d : Int)]) (t := 3) (fr := (0, 0)) (heap_alloc_new wr _)) (by simp [Value.oneCell'])
                              (by omega) (by unfold maxLen; omega) (by omega) (by simp; omega) (wr.heap.size + 1) (by simp) ?_; intro gg cap3 w1 hown1 hgrow hat hlt3; have K3 := KH.out w1 (by have := hgrow.size; simp at this; omega) (fun k hk => by have h1 := hgrow.block k (by simp; omega) (fun e => by have := (O1.lt k e.symm).1; omega); exact h1.trans (hbd2.block k (by omega))); obtain ⟨x3, y3, z3, f3⟩ := K3; rw [y3] at x3; clear y3))
        all_goals
          go_wp2
          go_roundg g'
          case measure => omega
          case rel =>
            refine ⟨j, .slice (some ⟨gg, 0, none⟩) (m + 1) cap3, by go_num, by omega, by omega, ?_⟩
            show PT _ _ _ _ _ _ _ _ _
            rw [HDR.out]
            refine PTa.out.more hgrow ?_
            have hyl : (xs ++ [d]).length = m + 1 := by rw [List.length_append, HM.out]; rfl
            rw [hyl, numsV_snoc]
            exact hown1
end Go.Proofs.YtfkiomjplpbmiaaGreatDoor

/- The document's Parse of a number: behind the exponent's digits. -/
namespace Go.Proofs.YtfkiomjplpbmiaaGreatDoor
open Go.RowKit Go.Lib

/-- The first way of an if that stands first. -/
def thenC : Code → Code
  | .seq (.seq _ (.cond _ a _)) _ => a
  | .seq _ (.cond _ a _) => a
  | c => c
theorem valX_snoc (l : List UInt8) (b : UInt8) : valX (l ++ [b]) = 10 * valX l + (b.toNat - 48) := by unfold valX; rw [digN_snoc, List.foldl_append]; rfl
theorem valX_lt : ∀ (n : Nat) (l : List UInt8), l.length = n → l.all Pl.digit = true → valX l < 10 ^ n
  | 0, l, h, _ => by obtain rfl := List.eq_nil_of_length_eq_zero h; decide
  | n + 1, l, h, hd => by
    obtain ⟨l', b, rfl⟩ : ∃ l' b, l = l' ++ [b] := by
      rcases List.eq_nil_or_concat l with rfl | ⟨l', b, e⟩
      · simp at h
      · exact ⟨l', b, by rw [e, List.concat_eq_append]⟩
    rw [List.length_append, List.length_singleton] at h
    rw [List.all_append, Bool.and_eq_true] at hd
    have ih := valX_lt n l' (by omega) hd.1
    have hb : Pl.digit b = true := by simpa using hd.2
    have := (digit_iff b).1 hb
    rw [valX_snoc, Nat.pow_succ]; omega
theorem dW_all (l : List UInt8) : (dW l).all Pl.digit = true := List.all_takeWhile
theorem dW_cons {c : UInt8} {l : List UInt8} (h : Pl.digit c = true) : dW (c :: l) = c :: dW l := by unfold dW; rw [List.takeWhile_cons, h]; rfl
theorem dR_cons {c : UInt8} {l : List UInt8} (h : Pl.digit c = true) : dR (c :: l) = dR l := by unfold dR; rw [List.dropWhile_cons, h]; rfl
theorem dR_none {l : List UInt8} (h : dW l = []) : dR l = l := by
  have k := List.takeWhile_append_dropWhile (p := Pl.digit) (l := l)
  unfold dW at h
  unfold dR
  rw [h, List.nil_append] at k
  exact k
theorem drop_get (s : ByteArray) (k : Nat) (h : k < s.size) : s.data.toList.drop k = s[k]'h :: s.data.toList.drop (k + 1) := by
  have hl : k < s.data.toList.length := h
  rw [List.drop_eq_getElem_cons hl]; rfl
/-- The test of a loop over digits: slot t of region n. -/
theorem dW_test (s : ByteArray) (k : Nat) (h : k < s.size) : (!(dW (s.data.toList.drop k)).isEmpty) = Pl.digit (s[k]'h) := by
  rw [drop_get s k h]
  unfold dW
  rw [List.takeWhile_cons]
  cases Pl.digit (s[k]'h) <;> rfl
theorem head_is (s : ByteArray) (k : Nat) (h : k < s.size) (c : UInt8) : (((s[k]'h).toNat : Int) == (c.toNat : Int)) = ((s.data.toList.drop k).head? == some c) := by
  rw [eq_byte, drop_get s k h]; rfl
theorem head_not (s : ByteArray) (k : Nat) (h : ¬ k < s.size) (c : UInt8) : ((s.data.toList.drop k).head? == some c) = false := by
  rw [List.drop_eq_nil_of_le (show s.data.toList.length ≤ k by show s.size ≤ k; omega)]; rfl

set_option maxRecDepth 100000 in
set_option maxHeartbeats 32000000 in
theorem r9e1 (s : ByteArray) (w : World) (V : Value) (neg mi : Bool) (k k1 ev : Nat) (X D : List UInt8) (E : Int) (v7 : Value) (b0 : Nat) (wx : World) {u1 u11 u12 u13 u14 u15 u16 u17 u18 u19 u20 u21 u22 u23 u24 u25 u26 u27 u28 u29 u30 u31 u32 u33 u34 u35 u36 u37 u38 u39 u40 u41 u42 u43 u44 u45 u46 u47 u48 u49 u50 u51 u52 u53 u54 u55 u56 u57 u58 u59 u60 u61 u62 u63 u64 u65 u66 u67 u68 u69 u70 u71 u72 u73 u74 u75 u76 u77 u78 u79 u80 u81 u82 u83 u84 u85 u86 u87 u88 u89 u90 u91 u92 u93 u94 u95 u96 u97 u98 u99 u100 u101 u102 u103 u104 u105 u106 u107 u108 u109 u110 u111 u112 u113 u114 u115 u116 u117 u118 u119 u120 u121 u122 u123 u124 u125 u126 u127 u128 u129 u130 u131 u132 u133 u134 u135 u136 u137 u138 u139 u140 u141 u142 u143 u144 u145 u146 u147 u148 u149 u150 u151 u152 u153 u154 u155 u156 u157 u158 u159 u160 u161 u162 u163 u164 u165 u166 u167 u168 u169 u170 u171 u172 u173 u174 u175 u176 u177 u178 u179 u180 u181 u182 u183 u184 u185 u186 u187 u188 u189 u190 u191 u192 u193 u194 u195 u196 u197 u198 u199 u200 u201 u202 u203 u204 u205 u206 u207 u208 u209 : Value} (K : Act → World → Prop) (hK : ∀ (i : Nat) (E' : Int) (w' : World) {x8 x9 x10 x12 x13 x14 x15 x16 x17 x18 x19 x20 x21 x22 x23 x24 x25 x26 x27 x28 x29 x30 x31 x32 x33 x34 x35 x36 x37 x38 x39 x40 x41 x42 x43 x44 x45 x46 x47 x48 x49 x50 x51 x52 x53 x54 x55 x56 x57 x58 x59 x60 x61 x62 x63 x64 x65 x66 x67 x68 x69 x70 x71 x72 x73 x74 x75 x76 x77 x78 x79 x80 x81 x82 x83 x84 x85 x86 x87 x88 x89 x90 x91 x92 x93 x94 x95 x96 x97 x98 x99 x100 x101 x102 x103 x104 x105 x106 x107 x108 x109 x110 x111 x112 x113 x114 x115 x116 x117 x118 x119 x120 x121 x122 x123 x124 x125 x126 x127 x128 x129 x130 x131 x132 x133 x134 x135 x136 x137 x138 x139 x140 x141 x142 x143 x144 x145 x146 x147 x148 x149 x150 x151 x152 x153 x154 x155 x156 x157 x158 x159 x160 x161 x162 x163 x164 x165 x166 x167 x168 x169 x170 x171 x172 x173 x174 x175 x176 x177 x178 x179 x180 x181 x182 x183 x184 x185 x186 x187 x188 x189 x190 x191 x192 x193 x194 x195 x196 x197 x198 x199 x200 x201 x202 x203 x204 x205 x206 x207 x208 x209 : Value}, i ≤ s.size → -2000 ≤ E' → E' ≤ 2000 → Hid (V = tupleV (endP neg D E' (s.data.toList.drop i))) → Hid (w'.ownsRow b0 3 1 v7 D.length (numsV (digN D))) → Hid (PM w w' E') → b0 ≤ w'.heap.size → K ⟨List.toArray ((.string s) :: (u1) :: (.pointer (some ⟨w.heap.size, 0, none⟩)) :: (.int .i64 0) :: (.pointer (some ⟨w.heap.size + 1, 0, none⟩)) :: (.int .i64 (i : Int)) :: (.bool neg) :: (v7) :: x8 :: x9 :: x10 :: (u11) :: x12 :: x13 :: x14 :: x15 :: x16 :: x17 :: x18 :: x19 :: x20 :: x21 :: x22 :: x23 :: x24 :: x25 :: x26 :: x27 :: x28 :: x29 :: x30 :: x31 :: x32 :: x33 :: x34 :: x35 :: x36 :: x37 :: x38 :: x39 :: x40 :: x41 :: x42 :: x43 :: x44 :: x45 :: x46 :: x47 :: x48 :: x49 :: x50 :: x51 :: x52 :: x53 :: x54 :: x55 :: x56 :: x57 :: x58 :: x59 :: x60 :: x61 :: x62 :: x63 :: x64 :: x65 :: x66 :: x67 :: x68 :: x69 :: x70 :: x71 :: x72 :: x73 :: x74 :: x75 :: x76 :: x77 :: x78 :: x79 :: x80 :: x81 :: x82 :: x83 :: x84 :: x85 :: x86 :: x87 :: x88 :: x89 :: x90 :: x91 :: x92 :: x93 :: x94 :: x95 :: x96 :: x97 :: x98 :: x99 :: x100 :: x101 :: x102 :: x103 :: x104 :: x105 :: x106 :: x107 :: x108 :: x109 :: x110 :: x111 :: x112 :: x113 :: x114 :: x115 :: x116 :: x117 :: x118 :: x119 :: x120 :: x121 :: x122 :: x123 :: x124 :: x125 :: x126 :: x127 :: x128 :: x129 :: x130 :: x131 :: x132 :: x133 :: x134 :: x135 :: x136 :: x137 :: x138 :: x139 :: x140 :: x141 :: x142 :: x143 :: x144 :: x145 :: x146 :: x147 :: x148 :: x149 :: x150 :: x151 :: x152 :: x153 :: x154 :: x155 :: x156 :: x157 :: x158 :: x159 :: x160 :: x161 :: x162 :: x163 :: x164 :: x165 :: x166 :: x167 :: x168 :: x169 :: x170 :: x171 :: x172 :: x173 :: x174 :: x175 :: x176 :: x177 :: x178 :: x179 :: x180 :: x181 :: x182 :: x183 :: x184 :: x185 :: x186 :: x187 :: x188 :: x189 :: x190 :: x191 :: x192 :: x193 :: x194 :: x195 :: x196 :: x197 :: x198 :: x199 :: x200 :: x201 :: x202 :: x203 :: x204 :: x205 :: x206 :: x207 :: x208 :: x209 :: []), []⟩ w')
    (hkX : k = k1 + X.length) (hX : X.length ≤ 3) (hXd : X.all Pl.digit = true) (hev : valX X = ev) (hk : k ≤ s.size) (hE1 : -600 ≤ E) (hE2 : E ≤ 600)
    (HV : Hid (V = if X = [] ∨ 3 < X.length then tupleV (40, 0, 0) else tupleV (endP neg D (E + (if mi then -(valX X : Int) else (valX X : Int))) (s.data.toList.drop k))))
    (HO : Hid (wx.ownsRow b0 3 1 v7 D.length (numsV (digN D)))) (HP : Hid (PM w wx E)) (hws : b0 ≤ wx.heap.size) (hb0 : w.heap.size + 2 ≤ b0) :
    Code.wp Tryz.prog (tailC 6 (thenC (tailC 11 (Tryz.f93.body.getD .skip)))) (Exit.then K (bodyPost Tryz.prog Tryz.f93 (Q V w))) ⟨List.toArray ((.string s) :: u1 :: (.pointer (some ⟨w.heap.size, 0, none⟩)) :: (.int .i64 0) :: (.pointer (some ⟨w.heap.size + 1, 0, none⟩)) :: (.int .i64 (k : Int)) :: (.bool neg) :: (v7) :: (.int .i64 (k1 : Int)) :: (.bool mi) :: (.int .i64 (ev : Int)) :: u11 :: u12 :: u13 :: u14 :: u15 :: u16 :: u17 :: u18 :: u19 :: u20 :: u21 :: u22 :: u23 :: u24 :: u25 :: u26 :: u27 :: u28 :: u29 :: u30 :: u31 :: u32 :: u33 :: u34 :: u35 :: u36 :: u37 :: u38 :: u39 :: u40 :: u41 :: u42 :: u43 :: u44 :: u45 :: u46 :: u47 :: u48 :: u49 :: u50 :: u51 :: u52 :: u53 :: u54 :: u55 :: u56 :: u57 :: u58 :: u59 :: u60 :: u61 :: u62 :: u63 :: u64 :: u65 :: u66 :: u67 :: u68 :: u69 :: u70 :: u71 :: u72 :: u73 :: u74 :: u75 :: u76 :: u77 :: u78 :: u79 :: u80 :: u81 :: u82 :: u83 :: u84 :: u85 :: u86 :: u87 :: u88 :: u89 :: u90 :: u91 :: u92 :: u93 :: u94 :: u95 :: u96 :: u97 :: u98 :: u99 :: u100 :: u101 :: u102 :: u103 :: u104 :: u105 :: u106 :: u107 :: u108 :: u109 :: u110 :: u111 :: u112 :: u113 :: u114 :: u115 :: u116 :: u117 :: u118 :: u119 :: u120 :: u121 :: u122 :: u123 :: u124 :: u125 :: u126 :: u127 :: u128 :: u129 :: u130 :: u131 :: u132 :: u133 :: u134 :: u135 :: u136 :: u137 :: u138 :: u139 :: u140 :: u141 :: u142 :: u143 :: u144 :: u145 :: u146 :: u147 :: u148 :: u149 :: u150 :: u151 :: u152 :: u153 :: u154 :: u155 :: u156 :: u157 :: u158 :: u159 :: u160 :: u161 :: u162 :: u163 :: u164 :: u165 :: u166 :: u167 :: u168 :: u169 :: u170 :: u171 :: u172 :: u173 :: u174 :: u175 :: u176 :: u177 :: u178 :: u179 :: u180 :: u181 :: u182 :: u183 :: u184 :: u185 :: u186 :: u187 :: u188 :: u189 :: u190 :: u191 :: u192 :: u193 :: u194 :: u195 :: u196 :: u197 :: u198 :: u199 :: u200 :: u201 :: u202 :: u203 :: u204 :: u205 :: u206 :: u207 :: u208 :: u209 :: []), []⟩ wx := by
  conv => arg 2; whnf
  have HK := Lib.hid hK
  clear hK
  have hlt := valX_lt X.length X rfl hXd
  rw [hev] at hlt HV
  have h999 : ev < 1000 := Nat.lt_of_lt_of_le hlt (by
    have : 10 ^ X.length ≤ 10 ^ 3 := Nat.pow_le_pow_right (by decide) hX
    omega)
  by_cases hXe : X = []
  · have hv := HV.out
    rw [if_pos (Or.inl hXe)] at hv
    have HV2 := Lib.hid hv
    have e1 : ((k : Int) == (k1 : Int)) = true := by rw [hkX, hXe]; simp
    have s0 := HP.out.r.c 0 _ rfl
    have s1 := HP.out.r.c 1 _ rfl
    have sf := HP.out.r.fz
    clear hv HV HK hkX hlt hev
    go_wp2_with fail
    exact ret_dec HP.out.r HP.out.bel (Nat.le_refl _) HV2.out rfl rfl rfl rfl
  · have hv := HV.out
    rw [if_neg (by rintro (h | h); exact hXe h; omega)] at hv
    have e1 : ((k : Int) == (k1 : Int)) = false := by
      have := List.length_pos_iff.2 hXe
      rw [beq_eq_false_iff_ne]; omega
    have n0 := HP.out.n.c 0 _ rfl
    have n1 := HP.out.n.c 1 _ rfl
    have n2 := HP.out.n.c 2 _ rfl
    have nf := HP.out.n.fz
    cases mi with
    | true =>
      have HV2 : Hid (V = tupleV (endP neg D (E + -(ev : Int)) (s.data.toList.drop k))) := hv
      have P2 := Lib.hid (HP.out.setE (E + -(ev : Int)))
      have O2 := Lib.hid (own_set HO.out (w.heap.size + 1) 2 (.int .i64 (E + -(ev : Int))) (by omega))
      clear hv HV hlt hev hkX
      go_wp2_with fail
      exact HK.out k _ _ hk (by omega) (by omega) HV2 O2 P2 (by rw [setCell_size]; exact hws)
    | false =>
      have HV2 : Hid (V = tupleV (endP neg D (E + (ev : Int)) (s.data.toList.drop k))) := hv
      have P2 := Lib.hid (HP.out.setE (E + (ev : Int)))
      have O2 := Lib.hid (own_set HO.out (w.heap.size + 1) 2 (.int .i64 (E + (ev : Int))) (by omega))
      clear hv HV hlt hev hkX
      go_wp2_with fail
      exact HK.out k _ _ hk (by omega) (by omega) HV2 O2 P2 (by rw [setCell_size]; exact hws)
end Go.Proofs.YtfkiomjplpbmiaaGreatDoor

/- The document's Parse of a number: the exponent's digits. -/
namespace Go.Proofs.YtfkiomjplpbmiaaGreatDoor
open Go.RowKit Go.Lib

set_option maxRecDepth 100000 in
set_option maxHeartbeats 32000000 in
theorem r9e2 (s : ByteArray) (w : World) (V : Value) (hs : s.size ≤ 512) (neg mi : Bool) (k1 : Nat) (D : List UInt8) (E : Int) (v7 : Value) (b0 : Nat) (wx : World) {u1 u8 u10 u11 u12 u13 u14 u15 u16 u17 u18 u19 u20 u21 u22 u23 u24 u25 u26 u27 u28 u29 u30 u31 u32 u33 u34 u35 u36 u37 u38 u39 u40 u41 u42 u43 u44 u45 u46 u47 u48 u49 u50 u51 u52 u53 u54 u55 u56 u57 u58 u59 u60 u61 u62 u63 u64 u65 u66 u67 u68 u69 u70 u71 u72 u73 u74 u75 u76 u77 u78 u79 u80 u81 u82 u83 u84 u85 u86 u87 u88 u89 u90 u91 u92 u93 u94 u95 u96 u97 u98 u99 u100 u101 u102 u103 u104 u105 u106 u107 u108 u109 u110 u111 u112 u113 u114 u115 u116 u117 u118 u119 u120 u121 u122 u123 u124 u125 u126 u127 u128 u129 u130 u131 u132 u133 u134 u135 u136 u137 u138 u139 u140 u141 u142 u143 u144 u145 u146 u147 u148 u149 u150 u151 u152 u153 u154 u155 u156 u157 u158 u159 u160 u161 u162 u163 u164 u165 u166 u167 u168 u169 u170 u171 u172 u173 u174 u175 u176 u177 u178 u179 u180 u181 u182 u183 u184 u185 u186 u187 u188 u189 u190 u191 u192 u193 u194 u195 u196 u197 u198 u199 u200 u201 u202 u203 u204 u205 u206 u207 u208 u209 : Value} (K : Act → World → Prop) (hK : ∀ (i : Nat) (E' : Int) (w' : World) {x8 x9 x10 x12 x13 x14 x15 x16 x17 x18 x19 x20 x21 x22 x23 x24 x25 x26 x27 x28 x29 x30 x31 x32 x33 x34 x35 x36 x37 x38 x39 x40 x41 x42 x43 x44 x45 x46 x47 x48 x49 x50 x51 x52 x53 x54 x55 x56 x57 x58 x59 x60 x61 x62 x63 x64 x65 x66 x67 x68 x69 x70 x71 x72 x73 x74 x75 x76 x77 x78 x79 x80 x81 x82 x83 x84 x85 x86 x87 x88 x89 x90 x91 x92 x93 x94 x95 x96 x97 x98 x99 x100 x101 x102 x103 x104 x105 x106 x107 x108 x109 x110 x111 x112 x113 x114 x115 x116 x117 x118 x119 x120 x121 x122 x123 x124 x125 x126 x127 x128 x129 x130 x131 x132 x133 x134 x135 x136 x137 x138 x139 x140 x141 x142 x143 x144 x145 x146 x147 x148 x149 x150 x151 x152 x153 x154 x155 x156 x157 x158 x159 x160 x161 x162 x163 x164 x165 x166 x167 x168 x169 x170 x171 x172 x173 x174 x175 x176 x177 x178 x179 x180 x181 x182 x183 x184 x185 x186 x187 x188 x189 x190 x191 x192 x193 x194 x195 x196 x197 x198 x199 x200 x201 x202 x203 x204 x205 x206 x207 x208 x209 : Value}, i ≤ s.size → -2000 ≤ E' → E' ≤ 2000 → Hid (V = tupleV (endP neg D E' (s.data.toList.drop i))) → Hid (w'.ownsRow b0 3 1 v7 D.length (numsV (digN D))) → Hid (PM w w' E') → b0 ≤ w'.heap.size → K ⟨List.toArray ((.string s) :: (u1) :: (.pointer (some ⟨w.heap.size, 0, none⟩)) :: (.int .i64 0) :: (.pointer (some ⟨w.heap.size + 1, 0, none⟩)) :: (.int .i64 (i : Int)) :: (.bool neg) :: (v7) :: x8 :: x9 :: x10 :: (u11) :: x12 :: x13 :: x14 :: x15 :: x16 :: x17 :: x18 :: x19 :: x20 :: x21 :: x22 :: x23 :: x24 :: x25 :: x26 :: x27 :: x28 :: x29 :: x30 :: x31 :: x32 :: x33 :: x34 :: x35 :: x36 :: x37 :: x38 :: x39 :: x40 :: x41 :: x42 :: x43 :: x44 :: x45 :: x46 :: x47 :: x48 :: x49 :: x50 :: x51 :: x52 :: x53 :: x54 :: x55 :: x56 :: x57 :: x58 :: x59 :: x60 :: x61 :: x62 :: x63 :: x64 :: x65 :: x66 :: x67 :: x68 :: x69 :: x70 :: x71 :: x72 :: x73 :: x74 :: x75 :: x76 :: x77 :: x78 :: x79 :: x80 :: x81 :: x82 :: x83 :: x84 :: x85 :: x86 :: x87 :: x88 :: x89 :: x90 :: x91 :: x92 :: x93 :: x94 :: x95 :: x96 :: x97 :: x98 :: x99 :: x100 :: x101 :: x102 :: x103 :: x104 :: x105 :: x106 :: x107 :: x108 :: x109 :: x110 :: x111 :: x112 :: x113 :: x114 :: x115 :: x116 :: x117 :: x118 :: x119 :: x120 :: x121 :: x122 :: x123 :: x124 :: x125 :: x126 :: x127 :: x128 :: x129 :: x130 :: x131 :: x132 :: x133 :: x134 :: x135 :: x136 :: x137 :: x138 :: x139 :: x140 :: x141 :: x142 :: x143 :: x144 :: x145 :: x146 :: x147 :: x148 :: x149 :: x150 :: x151 :: x152 :: x153 :: x154 :: x155 :: x156 :: x157 :: x158 :: x159 :: x160 :: x161 :: x162 :: x163 :: x164 :: x165 :: x166 :: x167 :: x168 :: x169 :: x170 :: x171 :: x172 :: x173 :: x174 :: x175 :: x176 :: x177 :: x178 :: x179 :: x180 :: x181 :: x182 :: x183 :: x184 :: x185 :: x186 :: x187 :: x188 :: x189 :: x190 :: x191 :: x192 :: x193 :: x194 :: x195 :: x196 :: x197 :: x198 :: x199 :: x200 :: x201 :: x202 :: x203 :: x204 :: x205 :: x206 :: x207 :: x208 :: x209 :: []), []⟩ w')
    (hk : k1 ≤ s.size) (hE1 : -600 ≤ E) (hE2 : E ≤ 600)
    (HV : Hid (V = if dW (s.data.toList.drop k1) = [] ∨ 3 < (dW (s.data.toList.drop k1)).length then tupleV (40, 0, 0) else tupleV (endP neg D (E + (if mi then -(valX (dW (s.data.toList.drop k1)) : Int) else (valX (dW (s.data.toList.drop k1)) : Int))) (dR (s.data.toList.drop k1)))))
    (HO : Hid (wx.ownsRow b0 3 1 v7 D.length (numsV (digN D)))) (HP : Hid (PM w wx E)) (hws : b0 ≤ wx.heap.size) (hb0 : w.heap.size + 2 ≤ b0) :
    Code.wp Tryz.prog (tailC 3 (thenC (tailC 11 (Tryz.f93.body.getD .skip)))) (Exit.then K (bodyPost Tryz.prog Tryz.f93 (Q V w))) ⟨List.toArray ((.string s) :: u1 :: (.pointer (some ⟨w.heap.size, 0, none⟩)) :: (.int .i64 0) :: (.pointer (some ⟨w.heap.size + 1, 0, none⟩)) :: (.int .i64 (k1 : Int)) :: (.bool neg) :: (v7) :: u8 :: (.bool mi) :: u10 :: u11 :: u12 :: u13 :: u14 :: u15 :: u16 :: u17 :: u18 :: u19 :: u20 :: u21 :: u22 :: u23 :: u24 :: u25 :: u26 :: u27 :: u28 :: u29 :: u30 :: u31 :: u32 :: u33 :: u34 :: u35 :: u36 :: u37 :: u38 :: u39 :: u40 :: u41 :: u42 :: u43 :: u44 :: u45 :: u46 :: u47 :: u48 :: u49 :: u50 :: u51 :: u52 :: u53 :: u54 :: u55 :: u56 :: u57 :: u58 :: u59 :: u60 :: u61 :: u62 :: u63 :: u64 :: u65 :: u66 :: u67 :: u68 :: u69 :: u70 :: u71 :: u72 :: u73 :: u74 :: u75 :: u76 :: u77 :: u78 :: u79 :: u80 :: u81 :: u82 :: u83 :: u84 :: u85 :: u86 :: u87 :: u88 :: u89 :: u90 :: u91 :: u92 :: u93 :: u94 :: u95 :: u96 :: u97 :: u98 :: u99 :: u100 :: u101 :: u102 :: u103 :: u104 :: u105 :: u106 :: u107 :: u108 :: u109 :: u110 :: u111 :: u112 :: u113 :: u114 :: u115 :: u116 :: u117 :: u118 :: u119 :: u120 :: u121 :: u122 :: u123 :: u124 :: u125 :: u126 :: u127 :: u128 :: u129 :: u130 :: u131 :: u132 :: u133 :: u134 :: u135 :: u136 :: u137 :: u138 :: u139 :: u140 :: u141 :: u142 :: u143 :: u144 :: u145 :: u146 :: u147 :: u148 :: u149 :: u150 :: u151 :: u152 :: u153 :: u154 :: u155 :: u156 :: u157 :: u158 :: u159 :: u160 :: u161 :: u162 :: u163 :: u164 :: u165 :: u166 :: u167 :: u168 :: u169 :: u170 :: u171 :: u172 :: u173 :: u174 :: u175 :: u176 :: u177 :: u178 :: u179 :: u180 :: u181 :: u182 :: u183 :: u184 :: u185 :: u186 :: u187 :: u188 :: u189 :: u190 :: u191 :: u192 :: u193 :: u194 :: u195 :: u196 :: u197 :: u198 :: u199 :: u200 :: u201 :: u202 :: u203 :: u204 :: u205 :: u206 :: u207 :: u208 :: u209 :: []), []⟩ wx := by
  conv => arg 2; whnf
  have HK := Lib.hid hK
  clear hK
  have CD := Lib.hid r9digit
  have hsz : s.data.toList.length = s.size := rfl
  obtain ⟨X, hX⟩ : ∃ X, dW (s.data.toList.drop k1) = X := ⟨_, rfl⟩
  obtain ⟨l6, hl6⟩ : ∃ l6, dR (s.data.toList.drop k1) = l6 := ⟨_, rfl⟩
  have hXd : X.all Pl.digit = true := by rw [← hX]; exact dW_all _
  rw [hX, hl6] at HV
  have HXX := Lib.hid hX
  have HLL := Lib.hid hl6
  have HXD := Lib.hid hXd
  clear hX hl6 hXd
  go_upto_block 4 with (fail)
  go_cut [3, 5, 10] (fun v3 v5 v10 w' => v3 = .int .i64 0 ∧ ∃ (i : Nat), v5 = .int .i64 (i : Int) ∧ v10 = .int .i64 (valX X : Int) ∧ Hid (i = k1 + X.length) ∧ X.length ≤ 3 ∧ i ≤ s.size ∧ Hid (s.data.toList.drop i = l6) ∧ Below wx.heap.size wx w')
  case first =>
    go_wp2_with fail
    go_loopg [3, 5, 10] (s.size + 1) (fun gf v3 v5 v10 w' => v3 = .int .i64 0 ∧ ∃ (i : Nat) (pre : List UInt8), v5 = .int .i64 (i : Int) ∧ v10 = .int .i64 (valX pre : Int) ∧ Hid (i = k1 + pre.length) ∧ k1 ≤ i ∧ i ≤ s.size ∧ s.size < i + gf ∧ pre.length ≤ 3 ∧ Hid (pre.all Pl.digit = true) ∧ Hid (pre ++ dW (s.data.toList.drop i) = X) ∧ Hid (dR (s.data.toList.drop i) = l6) ∧ Hid (Below wx.heap.size wx w'))
    case atStart => exact ⟨rfl, k1, [], rfl, rfl, rfl, Nat.le_refl _, hk, by omega, by simp, rfl, HXX.out, HLL.out, Below.refl _ _⟩
    case round =>
      clear HXX HLL
      obtain ⟨rfl, i, pre, rfl, rfl, HI, hki, his, hgi, hp3, HPD, HX, HL, HB⟩ := hrel
      obtain ⟨g', rfl⟩ : ∃ g', gk = g' + 1 := ⟨gk - 1, by omega⟩
      have hvl := valX_lt pre.length pre rfl HPD.out
      have h999 : valX pre < 1000 := Nat.lt_of_lt_of_le hvl (by
        have : 10 ^ pre.length ≤ 10 ^ 3 := Nat.pow_le_pow_right (by decide) hp3
        omega)
      obtain ⟨ev, hev⟩ : ∃ ev, valX pre = ev := ⟨_, rfl⟩
      rw [hev] at h999 ⊢
      have HEV := Lib.hid hev
      clear hvl hev
      go_upto_region 31 with (fail)
      go_cut [148] (fun v148 w' => v148 = .bool (!(dW (s.data.toList.drop i)).isEmpty) ∧ Below wr.heap.size wr w')
      case first =>
        by_cases hlt : i < s.size
        · have hdw := Lib.hid (dW_test s i hlt)
          go_wp2_with fail
          refine (CD.out _ _).mono ?_
          rintro e w1 ⟨rfl, hb⟩
          go_wp2_with fail
          go_meet
          exact ⟨by rw [hdw.out], hb⟩
        · have hdw : (!(dW (s.data.toList.drop i)).isEmpty) = false := by rw [List.drop_eq_nil_of_le (by omega)]; rfl
          have hdw := Lib.hid hdw
          go_wp2_with fail
          go_meet
          exact ⟨by rw [hdw.out], Below.refl _ _⟩
      obtain ⟨rfl, hb⟩ := hcut
      replace HB := Lib.hid (bt HB.out hb)
      clear hb
      cases hdw : (dW (s.data.toList.drop i)).isEmpty with
      | true =>
        have hdn : dW (s.data.toList.drop i) = [] := by simpa using hdw
        have hX : pre = X := by rw [← HX.out, hdn, List.append_nil]
        have hl : s.data.toList.drop i = l6 := by rw [← HL.out, dR_none hdn]
        have HL2 := Lib.hid hl
        clear hdw hdn HX HL hl
        go_wp2_with fail
        go_meet
        exact ⟨rfl, i, rfl, by rw [← hX, HEV.out], by show _ = _; rw [HI.out, hX], by rw [← hX]; exact hp3, his, HL2, HB.out⟩
      | false =>
        have hlt : i < s.size := by
          rcases Nat.lt_or_ge i s.size with h | h
          · exact h
          · rw [List.drop_eq_nil_of_le (by omega)] at hdw; cases hdw
        have hdt := dW_test s i hlt
        rw [hdw] at hdt
        have hcd : Pl.digit (s[i]'hlt) = true := hdt.symm
        have hdr := drop_get s i hlt
        have HX2 : Hid (pre ++ [s[i]'hlt] ++ dW (s.data.toList.drop (i + 1)) = X) := by
          show _ = _
          rw [← HX.out, hdr, dW_cons hcd, List.append_assoc]; rfl
        have HL2 : Hid (dR (s.data.toList.drop (i + 1)) = l6) := by
          show _ = _
          rw [← HL.out, hdr, dR_cons hcd]
        have u1 := u8_digit hcd
        rw [IntKind.wrap_u8] at u1
        obtain ⟨d, hd⟩ : ∃ d, (s[i]'hlt).toNat - 48 = d := ⟨_, rfl⟩
        rw [hd] at u1
        have hd9 : d < 10 := by have := (digit_iff _).1 hcd; omega
        have HV9 : Hid (valX (pre ++ [s[i]'hlt]) = 10 * ev + d) := by show _ = _; rw [valX_snoc, HEV.out, hd]
        have HPD2 : Hid ((pre ++ [s[i]'hlt]).all Pl.digit = true) := by show _ = _; rw [List.all_append, HPD.out]; simp [hcd]
        have hdif : ((i : Int) + 1) - (k1 : Int) = ((pre.length + 1 : Nat) : Int) := by rw [HI.out]; omega
        clear hdw hdt hcd hdr HX HL hd HPD
        by_cases hp : pre.length = 3
        · have hv := HV.out
          rw [if_pos (Or.inr (by
            have := congrArg List.length HX2.out
            rw [List.length_append, List.length_append, List.length_singleton] at this; omega))] at hv
          have HV2 := Lib.hid hv
          have P2 := Lib.hid (HP.out.below HB.out)
          have s0 := P2.out.r.c 0 _ rfl
          have s1 := P2.out.r.c 1 _ rfl
          have sf := P2.out.r.fz
          have dd : decide ((3 : Int) < (i : Int) + 1 - (k1 : Int)) = true := decide_eq_true (by rw [hdif]; omega)
          have dd2 : (3 : Int) < (i : Int) + 1 - (k1 : Int) := by rw [hdif]; omega
          clear hv HV hdif
          go_wp2_with fail
          try rw [Exit.noGoto_ret]
          exact ret_dec P2.out.r P2.out.bel (Nat.le_refl _) HV2.out rfl rfl rfl rfl
        · have dd : decide ((3 : Int) < (i : Int) + 1 - (k1 : Int)) = false := decide_eq_false (by rw [hdif]; omega)
          have dd2 : ¬ (3 : Int) < (i : Int) + 1 - (k1 : Int) := by rw [hdif]; omega
          clear hdif
          go_wp2_with fail
          go_roundg g'
          case measure => omega
          case rel => exact ⟨rfl, i + 1, pre ++ [s[i]'hlt], by go_num, by rw [HV9.out]; go_num, by show _ = _; have := HI.out; rw [List.length_append, List.length_singleton]; omega, by omega, by omega, by omega, by rw [List.length_append, List.length_singleton]; omega, HPD2, HX2, HL2, HB⟩
  obtain ⟨rfl, i, rfl, rfl, HI, hX3, his, HL6, hbw⟩ := hcut
  refine (by assumption : ∀ (a : Act) (w_1 : World), Code.wp Tryz.prog _ (Exit.then K _) a w_1 → _) _ _ ?_
  have hv := HV.out
  rw [← HL6.out] at hv
  exact r9e1 s w V neg mi i k1 _ X D E v7 b0 _ K HK.out HI.out hX3 HXD.out rfl his hE1 hE2 (Lib.hid hv) (Lib.hid (owns_below HO.out hbw)) (Lib.hid (HP.out.below hbw)) (Nat.le_trans hws hbw.size) hb0
end Go.Proofs.YtfkiomjplpbmiaaGreatDoor

/- The document's Parse of a number: the exponent's sign. -/
namespace Go.Proofs.YtfkiomjplpbmiaaGreatDoor
open Go.RowKit Go.Lib

set_option maxRecDepth 100000 in
set_option maxHeartbeats 32000000 in
theorem r9e3 (s : ByteArray) (w : World) (V : Value) (hs : s.size ≤ 512) (neg mi : Bool) (k : Nat) (D : List UInt8) (E : Int) (v7 : Value) (b0 : Nat) (wx : World) {u1 u8 u10 u11 u12 u13 u14 u15 u16 u17 u18 u19 u20 u21 u22 u23 u24 u25 u26 u27 u28 u29 u30 u31 u32 u33 u34 u35 u36 u37 u38 u39 u40 u41 u42 u43 u44 u45 u46 u47 u48 u49 u50 u51 u52 u53 u54 u55 u56 u57 u58 u59 u60 u61 u62 u63 u64 u65 u66 u67 u68 u69 u70 u71 u72 u73 u74 u75 u76 u77 u78 u79 u80 u81 u82 u83 u84 u85 u86 u87 u88 u89 u90 u91 u92 u93 u94 u95 u96 u97 u98 u99 u100 u101 u102 u103 u104 u105 u106 u107 u108 u109 u110 u111 u112 u113 u114 u115 u116 u117 u118 u119 u120 u121 u122 u123 u124 u125 u126 u127 u128 u129 u130 u131 u132 u133 u134 u135 u136 u137 u138 u139 u140 u141 u142 u143 u144 u145 u146 u147 u148 u149 u150 u151 u152 u153 u154 u155 u156 u157 u158 u159 u160 u161 u162 u163 u164 u165 u166 u167 u168 u169 u170 u171 u172 u173 u174 u175 u176 u177 u178 u179 u180 u181 u182 u183 u184 u185 u186 u187 u188 u189 u190 u191 u192 u193 u194 u195 u196 u197 u198 u199 u200 u201 u202 u203 u204 u205 u206 u207 u208 u209 : Value} (K : Act → World → Prop) (hK : ∀ (i : Nat) (E' : Int) (w' : World) {x8 x9 x10 x12 x13 x14 x15 x16 x17 x18 x19 x20 x21 x22 x23 x24 x25 x26 x27 x28 x29 x30 x31 x32 x33 x34 x35 x36 x37 x38 x39 x40 x41 x42 x43 x44 x45 x46 x47 x48 x49 x50 x51 x52 x53 x54 x55 x56 x57 x58 x59 x60 x61 x62 x63 x64 x65 x66 x67 x68 x69 x70 x71 x72 x73 x74 x75 x76 x77 x78 x79 x80 x81 x82 x83 x84 x85 x86 x87 x88 x89 x90 x91 x92 x93 x94 x95 x96 x97 x98 x99 x100 x101 x102 x103 x104 x105 x106 x107 x108 x109 x110 x111 x112 x113 x114 x115 x116 x117 x118 x119 x120 x121 x122 x123 x124 x125 x126 x127 x128 x129 x130 x131 x132 x133 x134 x135 x136 x137 x138 x139 x140 x141 x142 x143 x144 x145 x146 x147 x148 x149 x150 x151 x152 x153 x154 x155 x156 x157 x158 x159 x160 x161 x162 x163 x164 x165 x166 x167 x168 x169 x170 x171 x172 x173 x174 x175 x176 x177 x178 x179 x180 x181 x182 x183 x184 x185 x186 x187 x188 x189 x190 x191 x192 x193 x194 x195 x196 x197 x198 x199 x200 x201 x202 x203 x204 x205 x206 x207 x208 x209 : Value}, i ≤ s.size → -2000 ≤ E' → E' ≤ 2000 → Hid (V = tupleV (endP neg D E' (s.data.toList.drop i))) → Hid (w'.ownsRow b0 3 1 v7 D.length (numsV (digN D))) → Hid (PM w w' E') → b0 ≤ w'.heap.size → K ⟨List.toArray ((.string s) :: (u1) :: (.pointer (some ⟨w.heap.size, 0, none⟩)) :: (.int .i64 0) :: (.pointer (some ⟨w.heap.size + 1, 0, none⟩)) :: (.int .i64 (i : Int)) :: (.bool neg) :: (v7) :: x8 :: x9 :: x10 :: (u11) :: x12 :: x13 :: x14 :: x15 :: x16 :: x17 :: x18 :: x19 :: x20 :: x21 :: x22 :: x23 :: x24 :: x25 :: x26 :: x27 :: x28 :: x29 :: x30 :: x31 :: x32 :: x33 :: x34 :: x35 :: x36 :: x37 :: x38 :: x39 :: x40 :: x41 :: x42 :: x43 :: x44 :: x45 :: x46 :: x47 :: x48 :: x49 :: x50 :: x51 :: x52 :: x53 :: x54 :: x55 :: x56 :: x57 :: x58 :: x59 :: x60 :: x61 :: x62 :: x63 :: x64 :: x65 :: x66 :: x67 :: x68 :: x69 :: x70 :: x71 :: x72 :: x73 :: x74 :: x75 :: x76 :: x77 :: x78 :: x79 :: x80 :: x81 :: x82 :: x83 :: x84 :: x85 :: x86 :: x87 :: x88 :: x89 :: x90 :: x91 :: x92 :: x93 :: x94 :: x95 :: x96 :: x97 :: x98 :: x99 :: x100 :: x101 :: x102 :: x103 :: x104 :: x105 :: x106 :: x107 :: x108 :: x109 :: x110 :: x111 :: x112 :: x113 :: x114 :: x115 :: x116 :: x117 :: x118 :: x119 :: x120 :: x121 :: x122 :: x123 :: x124 :: x125 :: x126 :: x127 :: x128 :: x129 :: x130 :: x131 :: x132 :: x133 :: x134 :: x135 :: x136 :: x137 :: x138 :: x139 :: x140 :: x141 :: x142 :: x143 :: x144 :: x145 :: x146 :: x147 :: x148 :: x149 :: x150 :: x151 :: x152 :: x153 :: x154 :: x155 :: x156 :: x157 :: x158 :: x159 :: x160 :: x161 :: x162 :: x163 :: x164 :: x165 :: x166 :: x167 :: x168 :: x169 :: x170 :: x171 :: x172 :: x173 :: x174 :: x175 :: x176 :: x177 :: x178 :: x179 :: x180 :: x181 :: x182 :: x183 :: x184 :: x185 :: x186 :: x187 :: x188 :: x189 :: x190 :: x191 :: x192 :: x193 :: x194 :: x195 :: x196 :: x197 :: x198 :: x199 :: x200 :: x201 :: x202 :: x203 :: x204 :: x205 :: x206 :: x207 :: x208 :: x209 :: []), []⟩ w')
    (hkl : k < s.size) (hE1 : -600 ≤ E) (hE2 : E ≤ 600) (HMI : Hid (((s.data.toList.drop (k + 1)).head? == some 45) = mi))
    (HV : Hid (V = if dW (signR (s.data.toList.drop (k + 1))) = [] ∨ 3 < (dW (signR (s.data.toList.drop (k + 1)))).length then tupleV (40, 0, 0) else tupleV (endP neg D (E + (if mi then -(valX (dW (signR (s.data.toList.drop (k + 1)))) : Int) else (valX (dW (signR (s.data.toList.drop (k + 1)))) : Int))) (dR (signR (s.data.toList.drop (k + 1)))))))
    (HO : Hid (wx.ownsRow b0 3 1 v7 D.length (numsV (digN D)))) (HP : Hid (PM w wx E)) (hws : b0 ≤ wx.heap.size) (hb0 : w.heap.size + 2 ≤ b0) :
    Code.wp Tryz.prog (tailC 2 (thenC (tailC 11 (Tryz.f93.body.getD .skip)))) (Exit.then K (bodyPost Tryz.prog Tryz.f93 (Q V w))) ⟨List.toArray ((.string s) :: u1 :: (.pointer (some ⟨w.heap.size, 0, none⟩)) :: (.int .i64 0) :: (.pointer (some ⟨w.heap.size + 1, 0, none⟩)) :: (.int .i64 ((k : Int) + 1)) :: (.bool neg) :: (v7) :: u8 :: (.bool mi) :: u10 :: u11 :: u12 :: u13 :: u14 :: u15 :: u16 :: u17 :: u18 :: u19 :: u20 :: u21 :: u22 :: u23 :: u24 :: u25 :: u26 :: u27 :: u28 :: u29 :: u30 :: u31 :: u32 :: u33 :: u34 :: u35 :: u36 :: u37 :: u38 :: u39 :: u40 :: u41 :: u42 :: u43 :: u44 :: u45 :: u46 :: u47 :: u48 :: u49 :: u50 :: u51 :: u52 :: u53 :: u54 :: u55 :: u56 :: u57 :: u58 :: u59 :: u60 :: u61 :: u62 :: u63 :: u64 :: u65 :: u66 :: u67 :: u68 :: u69 :: u70 :: u71 :: u72 :: u73 :: u74 :: u75 :: u76 :: u77 :: u78 :: u79 :: u80 :: u81 :: u82 :: u83 :: u84 :: u85 :: u86 :: u87 :: u88 :: u89 :: u90 :: u91 :: u92 :: u93 :: u94 :: u95 :: u96 :: u97 :: u98 :: u99 :: u100 :: u101 :: u102 :: u103 :: u104 :: u105 :: u106 :: u107 :: u108 :: u109 :: u110 :: u111 :: u112 :: u113 :: u114 :: u115 :: u116 :: u117 :: u118 :: u119 :: u120 :: u121 :: u122 :: u123 :: u124 :: u125 :: u126 :: u127 :: u128 :: u129 :: u130 :: u131 :: u132 :: u133 :: u134 :: u135 :: u136 :: u137 :: u138 :: u139 :: u140 :: u141 :: u142 :: u143 :: u144 :: u145 :: u146 :: u147 :: u148 :: u149 :: u150 :: u151 :: u152 :: u153 :: u154 :: u155 :: u156 :: u157 :: u158 :: u159 :: u160 :: u161 :: u162 :: u163 :: u164 :: u165 :: u166 :: u167 :: u168 :: u169 :: u170 :: u171 :: u172 :: u173 :: u174 :: u175 :: u176 :: u177 :: u178 :: u179 :: u180 :: u181 :: u182 :: u183 :: u184 :: u185 :: u186 :: u187 :: u188 :: u189 :: u190 :: u191 :: u192 :: u193 :: u194 :: u195 :: u196 :: u197 :: u198 :: u199 :: u200 :: u201 :: u202 :: u203 :: u204 :: u205 :: u206 :: u207 :: u208 :: u209 :: []), []⟩ wx := by
  conv => arg 2; whnf
  have HK := Lib.hid hK
  clear hK
  have hsz : s.data.toList.length = s.size := rfl
  obtain ⟨sg, hsg⟩ : ∃ b, (mi || (s.data.toList.drop (k + 1)).head? == some 43) = b := ⟨_, rfl⟩
  obtain ⟨k1, hk1⟩ : ∃ k1 : Nat, (if sg then k + 2 else k + 1) = k1 := ⟨_, rfl⟩
  have hsr : signR (s.data.toList.drop (k + 1)) = s.data.toList.drop k1 := by
    unfold signR
    rw [HMI.out, hsg, ← hk1]
    cases sg with
    | true => rw [if_pos rfl, if_pos rfl, List.tail_drop]
    | false => rw [if_neg (by decide), if_neg (by decide)]
  have hk1z : k1 ≤ s.size := by
    rw [← hk1]
    cases sg with
    | false => rw [if_neg (by decide)]; omega
    | true =>
      rw [if_pos rfl]
      rcases Nat.lt_or_ge (k + 1) s.size with h1 | h1
      · omega
      · exfalso
        rw [← HMI.out, List.drop_eq_nil_of_le (by omega)] at hsg
        cases hsg
  have hv := HV.out
  rw [hsr] at hv
  have HV2 := Lib.hid hv
  have HSG := Lib.hid hsg
  have HK1 := Lib.hid hk1
  clear hv HV hsr hsg hk1
  go_upto_region 27 with (fail)
  go_cut [135] (fun v135 w' => v135 = .bool sg ∧ wx = w')
  case first =>
    by_cases hlt : k + 1 < s.size
    · have h1 := head_is s (k + 1) hlt 45
      have h2 := head_is s (k + 1) hlt 43
      rw [show ((45 : UInt8).toNat : Int) = 45 from rfl, HMI.out] at h1
      rw [show ((43 : UInt8).toNat : Int) = 43 from rfl] at h2
      have k2 : (k : Int) + 1 < (s.size : Int) := by omega
      have kn : ((k : Int) + 1).toNat = k + 1 := by omega
      have hb := HSG.out
      rw [← h2] at hb
      clear h2
      cases mi with
      | true =>
        have HBB := Lib.hid hb
        clear hb
        go_wp2_with fail
        go_meet
        exact ⟨by rw [← HBB.out]; rfl, rfl⟩
      | false =>
        have HBB := Lib.hid hb
        clear hb
        go_wp2_with fail
        go_meet
        exact ⟨by rw [← HBB.out]; rfl, rfl⟩
    · have h1 := head_not s (k + 1) hlt 45
      have h2 := head_not s (k + 1) hlt 43
      rw [HMI.out] at h1
      have hb := HSG.out
      rw [h1, h2] at hb
      have k2 : ¬ (k : Int) + 1 < (s.size : Int) := by omega
      have HBB := Lib.hid hb
      clear hb h2 HMI
      subst h1
      go_wp2_with fail
      go_meet
      exact ⟨by rw [← HBB.out]; rfl, rfl⟩
  obtain ⟨rfl, rfl⟩ := hcut
  go_upto_if 135 with (fail)
  go_cut [5] (fun v5 w' => v5 = .int .i64 (k1 : Int) ∧ wx = w')
  case first =>
    cases sg with
    | true =>
      have e : k1 = k + 2 := by rw [← HK1.out, if_pos rfl]
      have e2 : ((k1 : Nat) : Int) = (k : Int) + 1 + 1 := by omega
      have E2 := Lib.hid e2
      clear HK1 HV2 e e2
      go_wp2_with fail
      go_meet
      exact ⟨by rw [E2.out], rfl⟩
    | false =>
      have e : k1 = k + 1 := by rw [← HK1.out, if_neg (by decide)]
      have e2 : ((k1 : Nat) : Int) = (k : Int) + 1 := by omega
      have E2 := Lib.hid e2
      clear HK1 HV2 e e2
      go_wp2_with fail
      go_meet
      exact ⟨by rw [E2.out], rfl⟩
  obtain ⟨rfl, rfl⟩ := hcut
  refine (by assumption : ∀ (a : Act) (w_1 : World), Code.wp Tryz.prog _ (Exit.then K _) a w_1 → _) _ _ ?_
  exact r9e2 s w V hs neg mi k1 D E v7 b0 _ K HK.out hk1z hE1 hE2 HV2 HO HP hws hb0
end Go.Proofs.YtfkiomjplpbmiaaGreatDoor

/- The document's Parse of a number: behind the digits. -/
namespace Go.Proofs.YtfkiomjplpbmiaaGreatDoor
open Go.RowKit Go.Lib

set_option maxRecDepth 100000 in
set_option maxHeartbeats 32000000 in
theorem r9p4 (s : ByteArray) (w : World) (V : Value) (hs : s.size ≤ 512) (neg : Bool) (k : Nat) (D : List UInt8) (E : Int) (v7 : Value) (b0 : Nat) (wx : World) {u1 u8 u9 u10 u11 u12 u13 u14 u15 u16 u17 u18 u19 u20 u21 u22 u23 u24 u25 u26 u27 u28 u29 u30 u31 u32 u33 u34 u35 u36 u37 u38 u39 u40 u41 u42 u43 u44 u45 u46 u47 u48 u49 u50 u51 u52 u53 u54 u55 u56 u57 u58 u59 u60 u61 u62 u63 u64 u65 u66 u67 u68 u69 u70 u71 u72 u73 u74 u75 u76 u77 u78 u79 u80 u81 u82 u83 u84 u85 u86 u87 u88 u89 u90 u91 u92 u93 u94 u95 u96 u97 u98 u99 u100 u101 u102 u103 u104 u105 u106 u107 u108 u109 u110 u111 u112 u113 u114 u115 u116 u117 u118 u119 u120 u121 u122 u123 u124 u125 u126 u127 u128 u129 u130 u131 u132 u133 u134 u135 u136 u137 u138 u139 u140 u141 u142 u143 u144 u145 u146 u147 u148 u149 u150 u151 u152 u153 u154 u155 u156 u157 u158 u159 u160 u161 u162 u163 u164 u165 u166 u167 u168 u169 u170 u171 u172 u173 u174 u175 u176 u177 u178 u179 u180 u181 u182 u183 u184 u185 u186 u187 u188 u189 u190 u191 u192 u193 u194 u195 u196 u197 u198 u199 u200 u201 u202 u203 u204 u205 u206 u207 u208 u209 : Value}
    (hk : k ≤ s.size) (hD : D.length ≤ 512) (hDd : D.all Pl.digit = true) (hE1 : -600 ≤ E) (hE2 : E ≤ 600)
    (HV : Hid (V = tupleV (expR neg D E (s.data.toList.drop k)))) (HO : Hid (wx.ownsRow b0 3 1 v7 D.length (numsV (digN D)))) (HP : Hid (PM w wx E)) (hws : b0 ≤ wx.heap.size) (hb0 : w.heap.size + 2 ≤ b0) :
    Code.wp Tryz.prog (tailC 11 (Tryz.f93.body.getD .skip)) (bodyPost Tryz.prog Tryz.f93 (Q V w)) ⟨List.toArray ((.string s) :: u1 :: (.pointer (some ⟨w.heap.size, 0, none⟩)) :: (.int .i64 0) :: (.pointer (some ⟨w.heap.size + 1, 0, none⟩)) :: (.int .i64 (k : Int)) :: (.bool neg) :: (v7) :: u8 :: u9 :: u10 :: u11 :: u12 :: u13 :: u14 :: u15 :: u16 :: u17 :: u18 :: u19 :: u20 :: u21 :: u22 :: u23 :: u24 :: u25 :: u26 :: u27 :: u28 :: u29 :: u30 :: u31 :: u32 :: u33 :: u34 :: u35 :: u36 :: u37 :: u38 :: u39 :: u40 :: u41 :: u42 :: u43 :: u44 :: u45 :: u46 :: u47 :: u48 :: u49 :: u50 :: u51 :: u52 :: u53 :: u54 :: u55 :: u56 :: u57 :: u58 :: u59 :: u60 :: u61 :: u62 :: u63 :: u64 :: u65 :: u66 :: u67 :: u68 :: u69 :: u70 :: u71 :: u72 :: u73 :: u74 :: u75 :: u76 :: u77 :: u78 :: u79 :: u80 :: u81 :: u82 :: u83 :: u84 :: u85 :: u86 :: u87 :: u88 :: u89 :: u90 :: u91 :: u92 :: u93 :: u94 :: u95 :: u96 :: u97 :: u98 :: u99 :: u100 :: u101 :: u102 :: u103 :: u104 :: u105 :: u106 :: u107 :: u108 :: u109 :: u110 :: u111 :: u112 :: u113 :: u114 :: u115 :: u116 :: u117 :: u118 :: u119 :: u120 :: u121 :: u122 :: u123 :: u124 :: u125 :: u126 :: u127 :: u128 :: u129 :: u130 :: u131 :: u132 :: u133 :: u134 :: u135 :: u136 :: u137 :: u138 :: u139 :: u140 :: u141 :: u142 :: u143 :: u144 :: u145 :: u146 :: u147 :: u148 :: u149 :: u150 :: u151 :: u152 :: u153 :: u154 :: u155 :: u156 :: u157 :: u158 :: u159 :: u160 :: u161 :: u162 :: u163 :: u164 :: u165 :: u166 :: u167 :: u168 :: u169 :: u170 :: u171 :: u172 :: u173 :: u174 :: u175 :: u176 :: u177 :: u178 :: u179 :: u180 :: u181 :: u182 :: u183 :: u184 :: u185 :: u186 :: u187 :: u188 :: u189 :: u190 :: u191 :: u192 :: u193 :: u194 :: u195 :: u196 :: u197 :: u198 :: u199 :: u200 :: u201 :: u202 :: u203 :: u204 :: u205 :: u206 :: u207 :: u208 :: u209 :: []), []⟩ wx := by
  conv => arg 2; whnf
  have hsz : s.data.toList.length = s.size := rfl
  obtain ⟨bE, hbE⟩ : ∃ b, ((s.data.toList.drop k).head? == some 101 || (s.data.toList.drop k).head? == some 69) = b := ⟨_, rfl⟩
  have HBE := Lib.hid hbE
  clear hbE
  go_upto_region 24 with (fail)
  go_cut [107] (fun v107 w' => v107 = .bool bE ∧ wx = w')
  case first =>
    by_cases hlt : k < s.size
    · have h1 := head_is s k hlt 101
      have h2 := head_is s k hlt 69
      rw [show ((101 : UInt8).toNat : Int) = 101 from rfl] at h1
      rw [show ((69 : UInt8).toNat : Int) = 69 from rfl] at h2
      have hb := HBE.out
      rw [← h1, ← h2] at hb
      clear h1 h2
      cases e1 : (((s[k]'hlt).toNat : Int) == 101) with
      | true =>
        rw [e1] at hb
        have HBB := Lib.hid hb
        clear hb
        go_wp2_with fail
        go_meet
        exact ⟨by rw [← HBB.out]; rfl, rfl⟩
      | false =>
        rw [e1] at hb
        have HBB := Lib.hid hb
        clear hb
        go_wp2_with fail
        go_meet
        exact ⟨by rw [← HBB.out]; rfl, rfl⟩
    · have hb := HBE.out
      rw [head_not s k hlt, head_not s k hlt] at hb
      have HBB := Lib.hid hb
      clear hb
      go_wp2_with fail
      go_meet
      exact ⟨by rw [← HBB.out]; rfl, rfl⟩
  obtain ⟨rfl, rfl⟩ := hcut
  go_upto_if 107 with (fail)
  go_cut [3, 5] (fun v3 v5 w' => v3 = .int .i64 0 ∧ ∃ (k : Nat) (E : Int), v5 = .int .i64 (k : Int) ∧ k ≤ s.size ∧ -2000 ≤ E ∧ E ≤ 2000 ∧ Hid (V = tupleV (endP neg D E (s.data.toList.drop k))) ∧ Hid (w'.ownsRow b0 3 1 v7 D.length (numsV (digN D))) ∧ Hid (PM w w' E) ∧ b0 ≤ w'.heap.size)
  case first =>
    cases bE with
    | false =>
      have hv := HV.out
      unfold expR at hv
      rw [if_neg (by rw [HBE.out]; decide)] at hv
      have HV2 := Lib.hid hv
      clear hv HV HBE
      go_wp2_with fail
      go_meet
      exact ⟨rfl, k, E, rfl, hk, by omega, by omega, HV2, HO, HP, hws⟩
    | true =>
      have hv := HV.out
      unfold expR at hv
      rw [if_pos HBE.out, List.tail_drop] at hv
      have hkl : k < s.size := by
        rcases Nat.lt_or_ge k s.size with h | h
        · exact h
        · have := HBE.out
          rw [List.drop_eq_nil_of_le (by omega)] at this; cases this
      obtain ⟨mi, hmi⟩ : ∃ b, ((s.data.toList.drop (k + 1)).head? == some 45) = b := ⟨_, rfl⟩
      rw [hmi] at hv
      have hv3 : V = if dW (signR (s.data.toList.drop (k + 1))) = [] ∨ 3 < (dW (signR (s.data.toList.drop (k + 1)))).length then tupleV (40, 0, 0) else tupleV (endP neg D (E + (if mi then -(valX (dW (signR (s.data.toList.drop (k + 1)))) : Int) else (valX (dW (signR (s.data.toList.drop (k + 1)))) : Int))) (dR (signR (s.data.toList.drop (k + 1))))) := by
        rw [hv]; split <;> rfl
      have HV2 := Lib.hid hv3
      have HMI := Lib.hid hmi
      clear hv HV HBE hmi hv3
      go_upto_region 26 with (fail)
      go_cut [9] (fun v9 w' => v9 = .bool mi ∧ wx = w')
      case first =>
        by_cases hlt : k + 1 < s.size
        · have h1 := head_is s (k + 1) hlt 45
          rw [show ((45 : UInt8).toNat : Int) = 45 from rfl, HMI.out] at h1
          have k1 : (k : Int) + 1 < (s.size : Int) := by omega
          have kn : ((k : Int) + 1).toNat = k + 1 := by omega
          go_wp2_with fail
          go_meet
          exact ⟨by rw [← h1], rfl⟩
        · have h1 := head_not s (k + 1) hlt 45
          rw [HMI.out] at h1
          have k1 : ¬ (k : Int) + 1 < (s.size : Int) := by omega
          go_wp2_with fail
          go_meet
          exact ⟨by rw [h1], rfl⟩
      obtain ⟨rfl, rfl⟩ := hcut
      refine (by assumption : ∀ (a : Act) (w_1 : World), Code.wp Tryz.prog _ (Exit.then _ _) a w_1 → _) _ _ ?_
      refine r9e3 s w V hs neg mi k D E v7 b0 _ _ (fun i E' w' => ?_) hkl hE1 hE2 HMI HV2 HO HP hws hb0
      intros
      rename_i h1 h2 h3 h4 h5 h6 h7
      refine (by assumption : ∀ (a' : Act) (w' : World), Met _ a' w' → _) _ _ ?_
      go_meet
      exact ⟨rfl, i, E', rfl, h1, h2, h3, h4, h5, h6, h7⟩
  obtain ⟨rfl, k, E, rfl, hk, hE1, hE2, HV, HO, HP, hws⟩ := hcut
  refine (by assumption : ∀ (a : Act) (w_1 : World), Code.wp Tryz.prog _ (bodyPost Tryz.prog Tryz.f93 (Q V w)) a w_1 → _) _ _ ?_
  exact r9p5 s w V neg k D E v7 b0 _ hk hD hDd hE1 hE2 HV HO HP hws hb0
end Go.Proofs.YtfkiomjplpbmiaaGreatDoor

/- The document's Parse of a number: the digits behind the point. -/
namespace Go.Proofs.YtfkiomjplpbmiaaGreatDoor
open Go.RowKit Go.Lib

theorem digN_len (l : List UInt8) : (digN l).length = l.length := by unfold digN; simp
theorem dW_len_le (l : List UInt8) : (dW l).length ≤ l.length := dW_le l

set_option maxRecDepth 100000 in
set_option maxHeartbeats 32000000 in
theorem r9d1 (s : ByteArray) (w : World) (V : Value) (hs : s.size ≤ 512) (neg : Bool) (k : Nat) (W : List UInt8) (v7 : Value) (b0 : Nat) (wx : World) {u1 u8 u9 u10 u11 u12 u13 u14 u15 u16 u17 u18 u19 u20 u21 u22 u23 u24 u25 u26 u27 u28 u29 u30 u31 u32 u33 u34 u35 u36 u37 u38 u39 u40 u41 u42 u43 u44 u45 u46 u47 u48 u49 u50 u51 u52 u53 u54 u55 u56 u57 u58 u59 u60 u61 u62 u63 u64 u65 u66 u67 u68 u69 u70 u71 u72 u73 u74 u75 u76 u77 u78 u79 u80 u81 u82 u83 u84 u85 u86 u87 u88 u89 u90 u91 u92 u93 u94 u95 u96 u97 u98 u99 u100 u101 u102 u103 u104 u105 u106 u107 u108 u109 u110 u111 u112 u113 u114 u115 u116 u117 u118 u119 u120 u121 u122 u123 u124 u125 u126 u127 u128 u129 u130 u131 u132 u133 u134 u135 u136 u137 u138 u139 u140 u141 u142 u143 u144 u145 u146 u147 u148 u149 u150 u151 u152 u153 u154 u155 u156 u157 u158 u159 u160 u161 u162 u163 u164 u165 u166 u167 u168 u169 u170 u171 u172 u173 u174 u175 u176 u177 u178 u179 u180 u181 u182 u183 u184 u185 u186 u187 u188 u189 u190 u191 u192 u193 u194 u195 u196 u197 u198 u199 u200 u201 u202 u203 u204 u205 u206 u207 u208 u209 : Value} (K : Act → World → Prop) (hK : ∀ (i : Nat) (v7 : Value) (D : List UInt8) (E' : Int) (w' : World) {x8 x12 x13 x14 x15 x16 x17 x18 x19 x20 x21 x22 x23 x24 x25 x26 x27 x28 x29 x30 x31 x32 x33 x34 x35 x36 x37 x38 x39 x40 x41 x42 x43 x44 x45 x46 x47 x48 x49 x50 x51 x52 x53 x54 x55 x56 x57 x58 x59 x60 x61 x62 x63 x64 x65 x66 x67 x68 x69 x70 x71 x72 x73 x74 x75 x76 x77 x78 x79 x80 x81 x82 x83 x84 x85 x86 x87 x88 x89 x90 x91 x92 x93 x94 x95 x96 x97 x98 x99 x100 x101 x102 x103 x104 x105 x106 x107 x108 x109 x110 x111 x112 x113 x114 x115 x116 x117 x118 x119 x120 x121 x122 x123 x124 x125 x126 x127 x128 x129 x130 x131 x132 x133 x134 x135 x136 x137 x138 x139 x140 x141 x142 x143 x144 x145 x146 x147 x148 x149 x150 x151 x152 x153 x154 x155 x156 x157 x158 x159 x160 x161 x162 x163 x164 x165 x166 x167 x168 x169 x170 x171 x172 x173 x174 x175 x176 x177 x178 x179 x180 x181 x182 x183 x184 x185 x186 x187 x188 x189 x190 x191 x192 x193 x194 x195 x196 x197 x198 x199 x200 x201 x202 x203 x204 x205 x206 x207 x208 x209 : Value}, i ≤ s.size → D.length ≤ 512 → D.all Pl.digit = true → -600 ≤ E' → E' ≤ 600 → Hid (V = tupleV (expR neg D E' (s.data.toList.drop i))) → Hid (w'.ownsRow b0 3 1 v7 D.length (numsV (digN D))) → Hid (PM w w' E') → b0 ≤ w'.heap.size → K ⟨List.toArray ((.string s) :: (u1) :: (.pointer (some ⟨w.heap.size, 0, none⟩)) :: (.int .i64 0) :: (.pointer (some ⟨w.heap.size + 1, 0, none⟩)) :: (.int .i64 (i : Int)) :: (.bool neg) :: (v7) :: x8 :: (u9) :: (u10) :: (u11) :: x12 :: x13 :: x14 :: x15 :: x16 :: x17 :: x18 :: x19 :: x20 :: x21 :: x22 :: x23 :: x24 :: x25 :: x26 :: x27 :: x28 :: x29 :: x30 :: x31 :: x32 :: x33 :: x34 :: x35 :: x36 :: x37 :: x38 :: x39 :: x40 :: x41 :: x42 :: x43 :: x44 :: x45 :: x46 :: x47 :: x48 :: x49 :: x50 :: x51 :: x52 :: x53 :: x54 :: x55 :: x56 :: x57 :: x58 :: x59 :: x60 :: x61 :: x62 :: x63 :: x64 :: x65 :: x66 :: x67 :: x68 :: x69 :: x70 :: x71 :: x72 :: x73 :: x74 :: x75 :: x76 :: x77 :: x78 :: x79 :: x80 :: x81 :: x82 :: x83 :: x84 :: x85 :: x86 :: x87 :: x88 :: x89 :: x90 :: x91 :: x92 :: x93 :: x94 :: x95 :: x96 :: x97 :: x98 :: x99 :: x100 :: x101 :: x102 :: x103 :: x104 :: x105 :: x106 :: x107 :: x108 :: x109 :: x110 :: x111 :: x112 :: x113 :: x114 :: x115 :: x116 :: x117 :: x118 :: x119 :: x120 :: x121 :: x122 :: x123 :: x124 :: x125 :: x126 :: x127 :: x128 :: x129 :: x130 :: x131 :: x132 :: x133 :: x134 :: x135 :: x136 :: x137 :: x138 :: x139 :: x140 :: x141 :: x142 :: x143 :: x144 :: x145 :: x146 :: x147 :: x148 :: x149 :: x150 :: x151 :: x152 :: x153 :: x154 :: x155 :: x156 :: x157 :: x158 :: x159 :: x160 :: x161 :: x162 :: x163 :: x164 :: x165 :: x166 :: x167 :: x168 :: x169 :: x170 :: x171 :: x172 :: x173 :: x174 :: x175 :: x176 :: x177 :: x178 :: x179 :: x180 :: x181 :: x182 :: x183 :: x184 :: x185 :: x186 :: x187 :: x188 :: x189 :: x190 :: x191 :: x192 :: x193 :: x194 :: x195 :: x196 :: x197 :: x198 :: x199 :: x200 :: x201 :: x202 :: x203 :: x204 :: x205 :: x206 :: x207 :: x208 :: x209 :: []), []⟩ w')
    (hk : k ≤ s.size) (hW : W.length + (s.size - k) ≤ 512) (hWd : W.all Pl.digit = true)
    (HV : Hid (V = if dW (s.data.toList.drop k) = [] then tupleV (40, 0, 0) else tupleV (expR neg (W ++ dW (s.data.toList.drop k)) (-((dW (s.data.toList.drop k)).length : Int)) (dR (s.data.toList.drop k)))))
    (HO : Hid (wx.ownsRow b0 3 1 v7 W.length (numsV (digN W)))) (HP : Hid (PM w wx 0)) (hws : b0 ≤ wx.heap.size) (hb0 : w.heap.size + 2 ≤ b0) :
    Code.wp Tryz.prog (tailC 1 (thenC (tailC 10 (Tryz.f93.body.getD .skip)))) (Exit.then K (bodyPost Tryz.prog Tryz.f93 (Q V w))) ⟨List.toArray ((.string s) :: u1 :: (.pointer (some ⟨w.heap.size, 0, none⟩)) :: (.int .i64 0) :: (.pointer (some ⟨w.heap.size + 1, 0, none⟩)) :: (.int .i64 (k : Int)) :: (.bool neg) :: (v7) :: u8 :: u9 :: u10 :: u11 :: u12 :: u13 :: u14 :: u15 :: u16 :: u17 :: u18 :: u19 :: u20 :: u21 :: u22 :: u23 :: u24 :: u25 :: u26 :: u27 :: u28 :: u29 :: u30 :: u31 :: u32 :: u33 :: u34 :: u35 :: u36 :: u37 :: u38 :: u39 :: u40 :: u41 :: u42 :: u43 :: u44 :: u45 :: u46 :: u47 :: u48 :: u49 :: u50 :: u51 :: u52 :: u53 :: u54 :: u55 :: u56 :: u57 :: u58 :: u59 :: u60 :: u61 :: u62 :: u63 :: u64 :: u65 :: u66 :: u67 :: u68 :: u69 :: u70 :: u71 :: u72 :: u73 :: u74 :: u75 :: u76 :: u77 :: u78 :: u79 :: u80 :: u81 :: u82 :: u83 :: u84 :: u85 :: u86 :: u87 :: u88 :: u89 :: u90 :: u91 :: u92 :: u93 :: u94 :: u95 :: u96 :: u97 :: u98 :: u99 :: u100 :: u101 :: u102 :: u103 :: u104 :: u105 :: u106 :: u107 :: u108 :: u109 :: u110 :: u111 :: u112 :: u113 :: u114 :: u115 :: u116 :: u117 :: u118 :: u119 :: u120 :: u121 :: u122 :: u123 :: u124 :: u125 :: u126 :: u127 :: u128 :: u129 :: u130 :: u131 :: u132 :: u133 :: u134 :: u135 :: u136 :: u137 :: u138 :: u139 :: u140 :: u141 :: u142 :: u143 :: u144 :: u145 :: u146 :: u147 :: u148 :: u149 :: u150 :: u151 :: u152 :: u153 :: u154 :: u155 :: u156 :: u157 :: u158 :: u159 :: u160 :: u161 :: u162 :: u163 :: u164 :: u165 :: u166 :: u167 :: u168 :: u169 :: u170 :: u171 :: u172 :: u173 :: u174 :: u175 :: u176 :: u177 :: u178 :: u179 :: u180 :: u181 :: u182 :: u183 :: u184 :: u185 :: u186 :: u187 :: u188 :: u189 :: u190 :: u191 :: u192 :: u193 :: u194 :: u195 :: u196 :: u197 :: u198 :: u199 :: u200 :: u201 :: u202 :: u203 :: u204 :: u205 :: u206 :: u207 :: u208 :: u209 :: []), []⟩ wx := by
  conv => arg 2; whnf
  have HK := Lib.hid hK
  clear hK
  have CD := Lib.hid r9digit
  have hsz : s.data.toList.length = s.size := rfl
  obtain ⟨X, hX⟩ : ∃ X, dW (s.data.toList.drop k) = X := ⟨_, rfl⟩
  obtain ⟨l6, hl6⟩ : ∃ l6, dR (s.data.toList.drop k) = l6 := ⟨_, rfl⟩
  have hXd : X.all Pl.digit = true := by rw [← hX]; exact dW_all _
  have hXl : X.length ≤ s.size - k := by rw [← hX]; have := dW_len_le (s.data.toList.drop k); rw [List.length_drop] at this; exact this
  rw [hX, hl6] at HV
  have HXX := Lib.hid hX
  have HLL := Lib.hid hl6
  have HXD := Lib.hid hXd
  clear hX hl6 hXd
  go_upto_block 2 with (fail)
  go_cut [5, 7] (fun v5 v7 w' => ∃ (i : Nat), v5 = .int .i64 (i : Int) ∧ Hid (i = k + X.length) ∧ i ≤ s.size ∧ Hid (s.data.toList.drop i = l6) ∧ Hid (w'.ownsRow b0 3 1 v7 (W ++ X).length (numsV (digN (W ++ X)))) ∧ Hid (PM w w' (-(X.length : Int))) ∧ b0 ≤ w'.heap.size)
  case first =>
    go_wp2_with fail
    go_loopg [5, 7] s.size (fun gf v5 v7 w' => ∃ (i : Nat) (pre : List UInt8), v5 = .int .i64 (i : Int) ∧ Hid (i = k + pre.length) ∧ pre.length ≤ i ∧ i ≤ s.size ∧ s.size ≤ i + gf ∧ Hid (pre ++ dW (s.data.toList.drop i) = X) ∧ Hid (dR (s.data.toList.drop i) = l6) ∧ Hid (w'.ownsRow b0 3 1 v7 (W ++ pre).length (numsV (digN (W ++ pre)))) ∧ Hid (PM w w' (-(pre.length : Int))) ∧ b0 ≤ w'.heap.size)
    case atStart => exact ⟨k, [], rfl, rfl, by simp, hk, by omega, HXX.out, HLL.out, by show World.ownsRow _ _ _ _ _ _ _; rw [List.append_nil]; exact HO.out, HP, hws⟩
    case round =>
      clear HXX HLL HO HP hws
      obtain ⟨i, pre, rfl, HI, hpi, his, hgi, HX, HL, HO, HP, hws⟩ := hrel
      go_upto_region 18 with (fail)
      go_cut [73] (fun v73 w' => v73 = .bool (!(dW (s.data.toList.drop i)).isEmpty) ∧ Below wr.heap.size wr w')
      case first =>
        by_cases hlt : i < s.size
        · have hdw := Lib.hid (dW_test s i hlt)
          go_wp2_with fail
          refine (CD.out _ _).mono ?_
          rintro e w1 ⟨rfl, hb⟩
          go_wp2_with fail
          go_meet
          exact ⟨by rw [hdw.out], hb⟩
        · have hdw : (!(dW (s.data.toList.drop i)).isEmpty) = false := by rw [List.drop_eq_nil_of_le (by omega)]; rfl
          have hdw := Lib.hid hdw
          go_wp2_with fail
          go_meet
          exact ⟨by rw [hdw.out], Below.refl _ _⟩
      obtain ⟨rfl, hb⟩ := hcut
      replace HO := Lib.hid (owns_below HO.out hb)
      replace HP := Lib.hid (HP.out.below hb)
      replace hws : b0 ≤ wc.heap.size := Nat.le_trans hws hb.size
      clear hb
      cases hdw : (dW (s.data.toList.drop i)).isEmpty with
      | true =>
        have hdn : dW (s.data.toList.drop i) = [] := by simpa using hdw
        have hX : pre = X := by rw [← HX.out, hdn, List.append_nil]
        have hl : s.data.toList.drop i = l6 := by rw [← HL.out, dR_none hdn]
        have HL2 := Lib.hid hl
        clear hdw hdn HX HL hl
        subst hX
        go_wp2_with fail
        go_meet
        exact ⟨i, rfl, HI, his, HL2, HO, HP, hws⟩
      | false =>
        have hlt : i < s.size := by
          rcases Nat.lt_or_ge i s.size with h | h
          · exact h
          · rw [List.drop_eq_nil_of_le (by omega)] at hdw; cases hdw
        obtain ⟨g', rfl⟩ : ∃ g', gk = g' + 1 := ⟨gk - 1, by omega⟩
        have hdt := dW_test s i hlt
        rw [hdw] at hdt
        have hcd : Pl.digit (s[i]'hlt) = true := hdt.symm
        have hdr := drop_get s i hlt
        have HX2 : Hid (pre ++ [s[i]'hlt] ++ dW (s.data.toList.drop (i + 1)) = X) := by
          show _ = _
          rw [← HX.out, hdr, dW_cons hcd, List.append_assoc]; rfl
        have HL2 : Hid (dR (s.data.toList.drop (i + 1)) = l6) := by
          show _ = _
          rw [← HL.out, hdr, dR_cons hcd]
        have hpX : pre.length < X.length := by
          have := congrArg List.length HX2.out
          rw [List.length_append, List.length_append, List.length_singleton] at this; omega
        have u1 := u8_digit hcd
        rw [IntKind.wrap_u8] at u1
        obtain ⟨d, hd⟩ : ∃ d, (s[i]'hlt).toNat - 48 = d := ⟨_, rfl⟩
        rw [hd] at u1
        obtain ⟨n, hn⟩ : ∃ n, (W ++ pre).length = n := ⟨_, rfl⟩
        have hn5 : n ≤ 600 := by rw [← hn, List.length_append]; omega
        have HN := Lib.hid hn
        have HD := Lib.hid hd
        have p0 := HP.out.n.c 2 _ rfl
        have pf := HP.out.n.fz
        have ho := HO.out
        rw [hn] at ho
        have HO1 := Lib.hid ho
        clear hdw hdt hcd hdr HX HL hd hn ho
        go_wp2_with ((at_builtin; refine own_append_b b0 rfl (.tmp 74) (.tmp 80) 186 3 (.int .i64 0) 8 rfl Tryz.underlying186 intInfo rfl _ n (numsV (digN (W ++ pre))) (.int .i64 (d : Int)) rfl rfl rfl HO1.out hws (by omega) (by omega) ?_; intro v1 w2 ho hg; have hpm := HP.out.grown hg (fun k hk => by have := (HO1.out.lt k hk).1; omega); have hw4 : b0 ≤ w2.heap.size := Nat.le_trans hws hg.size; have HO2 := Lib.hid ho; have HP2 := Lib.hid hpm; clear ho hg hpm p0 pf; have p0 := HP2.out.n.c 2 _ rfl; have pf := HP2.out.n.fz))
        go_roundg g'
        case measure => omega
        case rel =>
          refine ⟨i + 1, pre ++ [s[i]'hlt], by go_num, by show _ = _; have := HI.out; rw [List.length_append, List.length_singleton]; omega, by rw [List.length_append, List.length_singleton]; omega, by omega, by omega, HX2, HL2, ?_, ?_, by rw [setCell_size]; exact hw4⟩
          · show World.ownsRow _ _ _ _ _ _ _
            rw [← List.append_assoc, digN_snoc, numsV_snoc, HD.out, List.length_append, HN.out]
            exact own_set HO2.out _ _ _ (by omega)
          · show PM _ _ _
            have e : (-((pre ++ [s[i]'hlt]).length : Int)) = -(pre.length : Int) - 1 := by rw [List.length_append, List.length_singleton]; omega
            rw [e]
            exact HP2.out.setE _
  obtain ⟨i, rfl, HI, his, HL6, HO2, HP2, hws2⟩ := hcut
  refine (by assumption : ∀ (a : Act) (w_1 : World), Code.wp Tryz.prog _ (Exit.then K _) a w_1 → _) _ _ ?_
  clear HO HP hws
  by_cases hXe : X = []
  · have hv := HV.out
    rw [if_pos hXe] at hv
    have HV2 := Lib.hid hv
    have e1 : ((i : Int) == (k : Int)) = true := by rw [HI.out, hXe]; simp
    have s0 := HP2.out.r.c 0 _ rfl
    have s1 := HP2.out.r.c 1 _ rfl
    have sf := HP2.out.r.fz
    clear hv HV HK
    go_wp2_with fail
    exact ret_dec HP2.out.r HP2.out.bel (Nat.le_refl _) HV2.out rfl rfl rfl rfl
  · have hv := HV.out
    rw [if_neg hXe, ← HL6.out] at hv
    have HV2 := Lib.hid hv
    have e1 : ((i : Int) == (k : Int)) = false := by
      have := List.length_pos_iff.2 hXe
      have := HI.out
      rw [beq_eq_false_iff_ne]; omega
    clear hv HV
    go_wp2_with fail
    exact HK.out i _ (W ++ X) _ _ his (by rw [List.length_append]; omega) (by rw [List.all_append, hWd, HXD.out]; rfl) (by omega) (by omega) HV2 HO2 HP2 hws2
end Go.Proofs.YtfkiomjplpbmiaaGreatDoor

/- The document's Parse of a number: the point. -/
namespace Go.Proofs.YtfkiomjplpbmiaaGreatDoor
open Go.RowKit Go.Lib

set_option maxRecDepth 100000 in
set_option maxHeartbeats 32000000 in
theorem r9p3 (s : ByteArray) (w : World) (V : Value) (hs : s.size ≤ 512) (neg : Bool) (k : Nat) (D : List UInt8) (v7 : Value) (b0 : Nat) (wx : World) {u1 u8 u9 u10 u11 u12 u13 u14 u15 u16 u17 u18 u19 u20 u21 u22 u23 u24 u25 u26 u27 u28 u29 u30 u31 u32 u33 u34 u35 u36 u37 u38 u39 u40 u41 u42 u43 u44 u45 u46 u47 u48 u49 u50 u51 u52 u53 u54 u55 u56 u57 u58 u59 u60 u61 u62 u63 u64 u65 u66 u67 u68 u69 u70 u71 u72 u73 u74 u75 u76 u77 u78 u79 u80 u81 u82 u83 u84 u85 u86 u87 u88 u89 u90 u91 u92 u93 u94 u95 u96 u97 u98 u99 u100 u101 u102 u103 u104 u105 u106 u107 u108 u109 u110 u111 u112 u113 u114 u115 u116 u117 u118 u119 u120 u121 u122 u123 u124 u125 u126 u127 u128 u129 u130 u131 u132 u133 u134 u135 u136 u137 u138 u139 u140 u141 u142 u143 u144 u145 u146 u147 u148 u149 u150 u151 u152 u153 u154 u155 u156 u157 u158 u159 u160 u161 u162 u163 u164 u165 u166 u167 u168 u169 u170 u171 u172 u173 u174 u175 u176 u177 u178 u179 u180 u181 u182 u183 u184 u185 u186 u187 u188 u189 u190 u191 u192 u193 u194 u195 u196 u197 u198 u199 u200 u201 u202 u203 u204 u205 u206 u207 u208 u209 : Value}
    (hk : k ≤ s.size) (hD : D.length ≤ k) (hDd : D.all Pl.digit = true)
    (HV : Hid (V = tupleV (partR neg D (s.data.toList.drop k)))) (HO : Hid (wx.ownsRow b0 3 1 v7 D.length (numsV (digN D)))) (HP : Hid (PM w wx 0)) (hws : b0 ≤ wx.heap.size) (hb0 : w.heap.size + 2 ≤ b0) :
    Code.wp Tryz.prog (tailC 10 (Tryz.f93.body.getD .skip)) (bodyPost Tryz.prog Tryz.f93 (Q V w)) ⟨List.toArray ((.string s) :: u1 :: (.pointer (some ⟨w.heap.size, 0, none⟩)) :: (.int .i64 0) :: (.pointer (some ⟨w.heap.size + 1, 0, none⟩)) :: (.int .i64 (k : Int)) :: (.bool neg) :: (v7) :: u8 :: u9 :: u10 :: u11 :: u12 :: u13 :: u14 :: u15 :: u16 :: u17 :: u18 :: u19 :: u20 :: u21 :: u22 :: u23 :: u24 :: u25 :: u26 :: u27 :: u28 :: u29 :: u30 :: u31 :: u32 :: u33 :: u34 :: u35 :: u36 :: u37 :: u38 :: u39 :: u40 :: u41 :: u42 :: u43 :: u44 :: u45 :: u46 :: u47 :: u48 :: u49 :: u50 :: u51 :: u52 :: u53 :: u54 :: u55 :: u56 :: u57 :: u58 :: u59 :: u60 :: u61 :: u62 :: u63 :: u64 :: u65 :: u66 :: u67 :: u68 :: u69 :: u70 :: u71 :: u72 :: u73 :: u74 :: u75 :: u76 :: u77 :: u78 :: u79 :: u80 :: u81 :: u82 :: u83 :: u84 :: u85 :: u86 :: u87 :: u88 :: u89 :: u90 :: u91 :: u92 :: u93 :: u94 :: u95 :: u96 :: u97 :: u98 :: u99 :: u100 :: u101 :: u102 :: u103 :: u104 :: u105 :: u106 :: u107 :: u108 :: u109 :: u110 :: u111 :: u112 :: u113 :: u114 :: u115 :: u116 :: u117 :: u118 :: u119 :: u120 :: u121 :: u122 :: u123 :: u124 :: u125 :: u126 :: u127 :: u128 :: u129 :: u130 :: u131 :: u132 :: u133 :: u134 :: u135 :: u136 :: u137 :: u138 :: u139 :: u140 :: u141 :: u142 :: u143 :: u144 :: u145 :: u146 :: u147 :: u148 :: u149 :: u150 :: u151 :: u152 :: u153 :: u154 :: u155 :: u156 :: u157 :: u158 :: u159 :: u160 :: u161 :: u162 :: u163 :: u164 :: u165 :: u166 :: u167 :: u168 :: u169 :: u170 :: u171 :: u172 :: u173 :: u174 :: u175 :: u176 :: u177 :: u178 :: u179 :: u180 :: u181 :: u182 :: u183 :: u184 :: u185 :: u186 :: u187 :: u188 :: u189 :: u190 :: u191 :: u192 :: u193 :: u194 :: u195 :: u196 :: u197 :: u198 :: u199 :: u200 :: u201 :: u202 :: u203 :: u204 :: u205 :: u206 :: u207 :: u208 :: u209 :: []), []⟩ wx := by
  conv => arg 2; whnf
  have hsz : s.data.toList.length = s.size := rfl
  obtain ⟨bE, hbE⟩ : ∃ b, ((s.data.toList.drop k).head? == some 46) = b := ⟨_, rfl⟩
  have HBE := Lib.hid hbE
  clear hbE
  go_upto_region 15 with (fail)
  go_cut [60] (fun v60 w' => v60 = .bool bE ∧ wx = w')
  case first =>
    by_cases hlt : k < s.size
    · have h1 := head_is s k hlt 46
      rw [show ((46 : UInt8).toNat : Int) = 46 from rfl, HBE.out] at h1
      go_wp2_with fail
      go_meet
      exact ⟨by rw [← h1], rfl⟩
    · have hb := HBE.out
      rw [head_not s k hlt] at hb
      have HBB := Lib.hid hb
      clear hb
      go_wp2_with fail
      go_meet
      exact ⟨by rw [← HBB.out], rfl⟩
  obtain ⟨rfl, rfl⟩ := hcut
  go_upto_if 60 with (fail)
  go_cut [3, 5, 7] (fun v3 v5 v7 w' => v3 = .int .i64 0 ∧ ∃ (k : Nat) (D : List UInt8) (E : Int), v5 = .int .i64 (k : Int) ∧ k ≤ s.size ∧ D.length ≤ 512 ∧ D.all Pl.digit = true ∧ -600 ≤ E ∧ E ≤ 600 ∧ Hid (V = tupleV (expR neg D E (s.data.toList.drop k))) ∧ Hid (w'.ownsRow b0 3 1 v7 D.length (numsV (digN D))) ∧ Hid (PM w w' E) ∧ b0 ≤ w'.heap.size)
  case first =>
    cases bE with
    | false =>
      have hv := HV.out
      unfold partR at hv
      rw [if_neg (by rw [HBE.out]; decide)] at hv
      have HV2 := Lib.hid hv
      clear hv HV HBE
      go_wp2_with fail
      go_meet
      exact ⟨rfl, k, D, 0, rfl, hk, by omega, hDd, by omega, by omega, HV2, HO, HP, hws⟩
    | true =>
      have hv := HV.out
      unfold partR at hv
      rw [if_pos HBE.out, List.tail_drop] at hv
      have hkl : k < s.size := by
        rcases Nat.lt_or_ge k s.size with h | h
        · exact h
        · have := HBE.out
          rw [List.drop_eq_nil_of_le (by omega)] at this; cases this
      have hv3 : V = if dW (s.data.toList.drop (k + 1)) = [] then tupleV (40, 0, 0) else tupleV (expR neg (D ++ dW (s.data.toList.drop (k + 1))) (-((dW (s.data.toList.drop (k + 1))).length : Int)) (dR (s.data.toList.drop (k + 1)))) := by
        rw [hv]; split <;> rfl
      have HV2 := Lib.hid hv3
      clear hv HV HBE hv3
      go_upto_region 16 with (fail)
      go_cut [5] (fun v5 w' => v5 = .int .i64 ((k + 1 : Nat) : Int) ∧ wx = w')
      case first =>
        go_wp2_with fail
        go_meet
        exact ⟨by go_num, rfl⟩
      obtain ⟨rfl, rfl⟩ := hcut
      refine (by assumption : ∀ (a : Act) (w_1 : World), Code.wp Tryz.prog _ (Exit.then _ _) a w_1 → _) _ _ ?_
      refine r9d1 s w V hs neg (k + 1) D v7 b0 _ _ (fun i v7 D' E' w' => ?_) (by omega) (by omega) hDd HV2 HO HP hws hb0
      intros
      rename_i h1 h2 h3 h4 h5 h6 h7 h8 h9
      refine (by assumption : ∀ (a' : Act) (w' : World), Met _ a' w' → _) _ _ ?_
      go_meet
      exact ⟨rfl, i, D', E', rfl, h1, h2, h3, h4, h5, h6, h7, h8, h9⟩
  obtain ⟨rfl, k, D, E, rfl, hk, hD, hDd, hE1, hE2, HV, HO, HP, hws⟩ := hcut
  refine (by assumption : ∀ (a : Act) (w_1 : World), Code.wp Tryz.prog _ (bodyPost Tryz.prog Tryz.f93 (Q V w)) a w_1 → _) _ _ ?_
  exact r9p4 s w V hs neg k D E _ b0 _ hk hD hDd hE1 hE2 HV HO HP hws hb0
end Go.Proofs.YtfkiomjplpbmiaaGreatDoor

