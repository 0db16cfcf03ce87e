/- utf.Xml: which texts may stand in XML. -/
import Derived.Test.YtfkiomjplpbmiaaGreatDoorM2
import Derived.Test.YtfkiomjplpbmiaaGreatDoorShelfV
import Derived.Lib.TrimU
import Derived.Lib.TrimUEq
import Derived.Laws.Externs
import Derived.Laws.Bits64b
import Derived.Deep.DeepCutAuto
namespace Go.Proofs.YtfkiomjplpbmiaaGreatDoor
open Go.RowKit Go.Lib

/-- May a character stand in XML? -/
def okR (r : Nat) : Bool := (r == 9 || r == 10 || r == 13) || !(decide (r < 32) || r == 65534 || r == 65535)
def xmlOk : Nat → List UInt8 → Bool
  | 0, _ => true
  | _ + 1, [] => true
  | f + 1, c :: l => okR (Lib.decodeL (c :: l)).1 && xmlOk f ((c :: l).drop (Lib.decodeL (c :: l)).2)
/-- What utf.Xml answers. -/
def xmlF (l : List UInt8) : Int := if Lib.validD l = true ∧ xmlOk l.length l = true then 0 else 20
theorem xmlF_two (l : List UInt8) : xmlF l = 0 ∨ xmlF l = 20 := by unfold xmlF; split <;> simp

theorem xmlOk_end (f : Nat) : xmlOk f [] = true := by cases f <;> rfl
theorem drop_cons (s : ByteArray) (pos : Nat) (h : pos < s.size) : ∃ c l, s.data.toList.drop pos = c :: l := by
  cases e : s.data.toList.drop pos with
  | nil =>
    have := congrArg List.length e
    rw [List.length_drop] at this
    have hz : s.data.toList.length = s.size := rfl
    simp at this; omega
  | cons c l => exact ⟨c, l, rfl⟩

set_option maxRecDepth 100000 in
set_option maxHeartbeats 8000000 in
theorem xml_valid (s : ByteArray) (b : Bool) (w : World) (hb : xmlOk s.size s.data.toList = b)
    (C : Hid (∀ w, Glob w → Calls Tryz.prog 140 #[.string s] w (Q (.bool true) w))) (hg : Glob w) :
    Calls Tryz.prog 87 #[.string s] w (Q (.int .i64 (if b then 0 else 20)) w) := by
  obtain ⟨V, hV⟩ : ∃ V : Int, (if b then 0 else 20) = V := ⟨_, rfl⟩
  rw [hV]
  have HV := Lib.hid hV
  have HG := Lib.hid hg
  have HBB := Lib.hid hb
  clear hg hV hb
  go_enter Tryz.func87, Tryz.ntmps87
  go_wp2_with fail
  refine (C.out _ HG.out).mono ?_
  rintro e w1 ⟨rfl, hb⟩
  have HB := Lib.hid hb
  have hzs := hb.size
  clear hb C
  go_wp2_with fail
  go_loopg [] s.size (fun gf wx => ∃ pos : Nat, wx.heap[w1.heap.size]? = some (.stringIter s pos) ∧ Below w1.heap.size w1 wx ∧ s.size ≤ pos + gf ∧ Hid (xmlOk gf (s.data.toList.drop pos) = b))
  case atStart => exact ⟨0, World.iter_heap w1 s 0, (Below.refl _ w1).alloc (Nat.le_refl _) _, by omega, HBB.out⟩
  case round =>
    obtain ⟨pos, hit, hbw, hfu, HQ⟩ := hrel
    by_cases hlt : pos < s.size
    · obtain ⟨g', rfl⟩ : ∃ g', gk = g' + 1 := ⟨gk - 1, by omega⟩
      obtain ⟨c, l, hcl⟩ := drop_cons s pos hlt
      have hdl := Lib.decodeL_drop s pos
      have hwp := Lib.width_pos s pos
      obtain ⟨r, hr⟩ : ∃ r, (Utf8.decode s pos).1 = r := ⟨_, rfl⟩
      obtain ⟨K, hK⟩ : ∃ K, (Utf8.decode s pos).2 = K := ⟨_, rfl⟩
      have hq := HQ.out
      rw [hcl, xmlOk, ← hcl, hdl, hr, hK, List.drop_drop] at hq
      have HQ2 := Lib.hid hq
      have hnx : ∀ ty, (Instr.next (.pointer (some ⟨w1.heap.size, 0, none⟩)) true ty).run Tryz.prog wr = _ := fun ty => Lib.run_next_any_at wr w1.heap.size s pos ty hit hlt
      rw [hr, hK] at hnx
      rw [hK] at hwp
      have hit2 := Lib.iterAt_heap wr w1.heap.size s pos (pos + K) hit
      have hbw2 := Lib.below_iterAt hbw (k := w1.heap.size) (Nat.le_refl _) s (pos + K)
      obtain ⟨W, hWd⟩ : ∃ W, wr.iterAt w1.heap.size s (pos + K) = W := ⟨_, rfl⟩
      rw [hWd] at hnx hit2 hbw2
      clear hWd hit hbw hq HQ hcl hdl hK hr
      have HI := Lib.hid hit2
      have HW := Lib.hid hbw2
      clear hit2 hbw2
      have HB2 := Lib.hid (bt HB.out HW.out)
      have HOK : Hid (okR r = true → xmlOk g' (s.data.toList.drop (pos + K)) = b) := fun h => by
        have := HQ2.out
        rw [h, Bool.true_and] at this
        exact this
      have HNO : Hid (okR r = false → V = 20) := fun h => by
        have := HQ2.out
        rw [h, Bool.false_and] at this
        rw [← HV.out, ← this]; rfl
      clear HQ2 HV HBB
      by_cases h9 : r = 9
      · subst h9
        have HQ2 := Lib.hid (HOK.out (by decide))
        clear HOK HNO
        go_wp2
        go_roundg g'
        case measure => omega
        case rel => exact ⟨pos + K, HI.out, HW.out, by omega, HQ2⟩
      · have n9 : ((r : Int) == 9) = false := by rw [beq_eq_false_iff_ne]; omega
        by_cases h10 : r = 10
        · subst h10
          have HQ2 := Lib.hid (HOK.out (by decide))
          clear HOK HNO
          go_wp2
          go_roundg g'
          case measure => omega
          case rel => exact ⟨pos + K, HI.out, HW.out, by omega, HQ2⟩
        · have n10 : ((r : Int) == 10) = false := by rw [beq_eq_false_iff_ne]; omega
          by_cases h13 : r = 13
          · subst h13
            have HQ2 := Lib.hid (HOK.out (by decide))
            clear HOK HNO
            go_wp2
            go_roundg g'
            case measure => omega
            case rel => exact ⟨pos + K, HI.out, HW.out, by omega, HQ2⟩
          · have n13 : ((r : Int) == 13) = false := by rw [beq_eq_false_iff_ne]; omega
            have hok : okR r = !(decide (r < 32) || r == 65534 || r == 65535) := by
              unfold okR
              have e1 : (r == 9) = false := by simpa using h9
              have e2 : (r == 10) = false := by simpa using h10
              have e3 : (r == 13) = false := by simpa using h13
              rw [e1, e2, e3]; rfl
            by_cases h32 : r < 32
            · have hR := Lib.hid (HNO.out (by rw [hok, decide_eq_true h32]; rfl))
              have d32 : decide ((r : Int) < 32) = true := decide_eq_true (by omega)
              clear HOK HNO hok h9 h10 h13
              go_wp2
              try rw [Exit.noGoto_ret]
              go_ret
              exact ⟨by rw [hR.out]; rfl, HB2.out⟩
            · have d32 : decide ((r : Int) < 32) = false := decide_eq_false (by omega)
              by_cases hfe : r = 65534
              · have hR := Lib.hid (HNO.out (by rw [hok, hfe]; rfl))
                have dfe : ((r : Int) == 65534) = true := by rw [beq_iff_eq]; omega
                clear HOK HNO hok h9 h10 h13 hfe
                go_wp2
                try rw [Exit.noGoto_ret]
                go_ret
                exact ⟨by rw [hR.out]; rfl, HB2.out⟩
              · have dfe : ((r : Int) == 65534) = false := by rw [beq_eq_false_iff_ne]; omega
                by_cases hff : r = 65535
                · have hR := Lib.hid (HNO.out (by rw [hok, hff]; rfl))
                  have dff : ((r : Int) == 65535) = true := by rw [beq_iff_eq]; omega
                  clear HOK HNO hok h9 h10 h13 hfe hff
                  go_wp2
                  try rw [Exit.noGoto_ret]
                  go_ret
                  exact ⟨by rw [hR.out]; rfl, HB2.out⟩
                · have dff : ((r : Int) == 65535) = false := by rw [beq_eq_false_iff_ne]; omega
                  have e1 : (r == 65534) = false := by simpa using hfe
                  have e2 : (r == 65535) = false := by simpa using hff
                  have HQ2 := Lib.hid (HOK.out (by rw [hok, decide_eq_false h32, e1, e2]; rfl))
                  clear HOK HNO hok h9 h10 h13 hfe hff e1 e2
                  go_wp2
                  go_roundg g'
                  case measure => omega
                  case rel => exact ⟨pos + K, HI.out, HW.out, by omega, HQ2⟩
    · have hnx : ∀ ty, (Instr.next (.pointer (some ⟨w1.heap.size, 0, none⟩)) true ty).run Tryz.prog wr = _ := fun ty => Lib.run_next_end_at wr w1.heap.size s pos ty hit hlt
      have hR : Hid (V = 0) := by
        show V = 0
        have h1 := HQ.out
        rw [List.drop_eq_nil_of_le (by show s.size ≤ pos; omega), xmlOk_end] at h1
        rw [← HV.out, ← h1]; rfl
      have HB2 := Lib.hid (bt HB.out hbw)
      clear HQ hit hbw
      go_wp2
      go_ret
      exact ⟨by rw [hR.out]; rfl, HB2.out⟩

set_option maxHeartbeats 1000000 in
theorem xml_not (s : ByteArray) (w : World)
    (C : Hid (∀ w, Glob w → Calls Tryz.prog 140 #[.string s] w (Q (.bool false) w))) (hg : Glob w) :
    Calls Tryz.prog 87 #[.string s] w (Q (.int .i64 20) w) := by
  have HG := Lib.hid hg
  clear hg
  go_enter Tryz.func87, Tryz.ntmps87
  go_wp2_with fail
  refine (C.out _ HG.out).mono ?_
  rintro e w1 ⟨rfl, hb⟩
  have HB := Lib.hid hb
  clear hb
  go_wp2_with fail
  go_ret
  exact ⟨rfl, HB.out⟩

theorem xml_any (s : ByteArray) (w : World) (hs : s.size ≤ 9223372036854775807) (hg : Glob w) :
    Calls Tryz.prog 87 #[.string s] w (Q (.int .i64 (xmlF s.data.toList)) w) := by
  have C : ∀ w, Glob w → Calls Tryz.prog 140 #[.string s] w (Q (.bool (Lib.validD s.data.toList)) w) := fun w hg => Tryz.utf8_ValidString s w hs hg.utf
  unfold xmlF
  have hsz : s.data.toList.length = s.size := rfl
  cases hv : Lib.validD s.data.toList with
  | false =>
    rw [hv] at C
    rw [if_neg (fun h => by cases h.1)]
    exact xml_not s w (Lib.hid C) hg
  | true =>
    rw [hv] at C
    have h := xml_valid s _ w rfl (Lib.hid C) hg
    rw [hsz]
    cases hx : xmlOk s.size s.data.toList with
    | false => rw [hx] at h; rw [if_neg (fun h => by cases h.2)]; exact h
    | true => rw [hx] at h; rw [if_pos ⟨rfl, rfl⟩]; exact h
end Go.Proofs.YtfkiomjplpbmiaaGreatDoor

/- Package dec: whole numbers of twice 64 bits: times, plus, zero. -/
namespace Go.Proofs.YtfkiomjplpbmiaaGreatDoor
open Go.RowKit Go.Lib

/-- A row of cells that begins a block. -/
structure At (w : World) (B : Nat) (vs : List Value) : Prop where
  c : ∀ i v, vs[i]? = some v → w.cell? ⟨B, i, none⟩ = some v
  fz : ∀ o, w.frozen? ⟨B, o, none⟩ = false
  lt : B < w.heap.size
section
variable {w w' : World} {B : Nat} {vs : List Value}
theorem At.of_block (h : At w B vs) (hz : w.heap.size ≤ w'.heap.size) (hb : w'.heap[B]? = w.heap[B]?) : At w' B vs :=
  ⟨fun i v hi => (World.cell?_of_block (a := ⟨B, i, none⟩) hb).trans (h.c i v hi), fun o => (World.frozen?_of_block (a := ⟨B, o, none⟩) hb).trans (h.fz o), Nat.lt_of_lt_of_le h.lt hz⟩
theorem At.below (h : At w B vs) (hb : Below w.heap.size w w') : At w' B vs := h.of_block hb.size (hb.block B h.lt)
theorem At.alloc (h : At w B vs) (o : Obj) : At (w.alloc o) B vs := h.of_block (by simp) (Below.heap_alloc _ _ _ h.lt)
theorem At.new (w : World) (cs : Array Value) (t : TypeId) : At (w.alloc (.cells cs t)) w.heap.size cs.toList :=
  ⟨fun i v hi => by rw [World.cell?_alloc_at _ _ _ _ rfl, ← hi, Array.getElem?_toList], fun o => by simp [go_sem], by simp⟩
theorem At.other (h : At w B vs) (a : Addr) (v : Value) (hne : B ≠ a.block) : At (w.setCell a v) B vs :=
  h.of_block (by rw [setCell_size]; exact Nat.le_refl _) (Below.heap_setCell _ _ _ _ hne)
theorem At.set (h : At w B vs) (i : Nat) (hi : i < vs.length) (v : Value) : At (w.setCell ⟨B, i, none⟩ v) B (vs.set i v) := by
  refine ⟨fun j u hj => ?_, fun o => by rw [World.frozen?_setCell]; exact h.fz o, by rw [setCell_size]; exact h.lt⟩
  by_cases e : i = j
  · subst e
    rw [List.getElem?_set_self hi] at hj
    injection hj with hj; subst hj
    exact World.cell?_setCell_same _ _ _ (h.c i vs[i] (List.getElem?_eq_getElem hi))
  · rw [List.getElem?_set_ne e] at hj
    exact (cell_set_ne _ _ _ _ _ e).trans (h.c j u hj)
end

abbrev set2 (w : World) (B : Nat) (v0 v1 : Value) : World := (w.setCell ⟨B, 0, none⟩ v0).setCell ⟨B, 1, none⟩ v1
theorem At.set2 {w : World} {B : Nat} {a0 a1 : Value} (h : At w B [a0, a1]) (v0 v1 : Value) : At (set2 w B v0 v1) B [v0, v1] := (h.set 0 (by simp) v0).set 1 (by simp) v1
theorem below_set2 {B b : Nat} {w w1 : World} (h : Below B w w1) (hb : B ≤ b) (v0 v1 : Value) : Below B w (set2 w1 b v0 v1) :=
  (h.setCell (p := ⟨b, 0, none⟩) hb _).setCell (p := ⟨b, 1, none⟩) hb _

/-- A function that hands back a variable of two cells, and one value more: at its end. -/
theorem ret_two {f : Func} {act : Act} {w W : World} {a b B t : Nat} {V vb : Value} {x0 x1 v0 v1 : Value} (r : At W B [x0, x1]) (HB : Below w.heap.size w W) (hB : w.heap.size ≤ B)
    (hag : ∀ w, (isAgg t).run Tryz.prog w = .ok true w) (hsz : ∀ w, (Go.sizeOf t).run Tryz.prog w = .ok 2 w)
    (hV : V = .tuple #[.agg #[v0, v1], vb]) (hf : f.results = #[.cell a t, .tmp b]) (hd : act.defers = [])
    (ha : act.tmps.getD a undef = .pointer (some ⟨B, 0, none⟩)) (hb : act.tmps.getD b undef = vb) :
    bodyPost Tryz.prog f (Q V w) .ret act (set2 W B v0 v1) := by
  have r2 := r.set2 v0 v1
  have hb2 := below_set2 HB hB v0 v1
  have t0 := r2.c 0 _ rfl
  have t1 := r2.c 1 _ rfl
  generalize set2 W B v0 v1 = W' at *
  subst hV
  rw [Array.getD_eq_getD_getElem?] at ha hb
  exact bodyPost_ret (v := .tuple #[.agg #[v0, v1], vb]) (by simp [results, hf, go_sem, ha, hb, hag, hsz, t0, t1]) hd ⟨rfl, hb2⟩

theorem wideAgg (w : World) : (isAgg 125).run Tryz.prog w = .ok true w := by kernel_rfl
theorem wideSize (w : World) : (Go.sizeOf 125).run Tryz.prog w = .ok 2 w := by kernel_rfl

theorem add64_run (x y c : Nat) (hc : c ≤ 1) (w : World) :
    (callFunc 136 #[.int .u64 x, .int .u64 y, .int .u64 c]).run Tryz.prog w =
      .ok (.value (.tuple #[.int .u64 (((x + y + c) % 18446744073709551616 : Nat) : Int), .int .u64 (((x + y + c) / 18446744073709551616 : Nat) : Int)])) w := by
  rw [run_callFunc_extern Tryz.func136 (by kernel_rfl) (by kernel_rfl) (by kernel_rfl) (e := add64Entry) (by kernel_rfl), run_add64 x y c (by omega) (by omega) (by omega) (by omega)]
  simp only [Result.andThen]
  congr 5 <;> omega

set_option maxRecDepth 100000 in
set_option maxHeartbeats 8000000 in
theorem times_core (hi lo n H L O M S C : Nat) (ok : Bool) (w : World)
    (C1 : Hid (∀ w, Calls Tryz.prog 135 #[.int .u64 lo, .int .u64 n] w fun e w' => e = .returned (.tuple #[.int .u64 H, .int .u64 L]) ∧ w' = w))
    (C2 : Hid (∀ w, Calls Tryz.prog 135 #[.int .u64 hi, .int .u64 n] w fun e w' => e = .returned (.tuple #[.int .u64 O, .int .u64 M]) ∧ w' = w))
    (ea : ∀ w, (callFunc 136 #[.int .u64 H, .int .u64 M, .int .u64 0]).run Tryz.prog w = .ok (.value (.tuple #[.int .u64 S, .int .u64 C])) w)
    (hOC : O + C < 18446744073709551616) (hok : (((O : Int) + C) == 0) = ok) :
    Calls Tryz.prog 83 #[.agg #[.int .u64 hi, .int .u64 lo], .int .u64 n] w (Q (.tuple #[.agg #[.int .u64 S, .int .u64 L], .bool ok]) w) := by
  have a1 := At.new w #[.int .u64 hi, .int .u64 lo] 125
  have hb1 : Below w.heap.size w (w.alloc (.cells #[.int .u64 hi, .int .u64 lo] 125)) := (Below.refl _ _).alloc (Nat.le_refl _) _
  have a2 := a1.alloc (.cells #[.int .u64 0, .int .u64 0] 125)
  have a3 := At.new (w.alloc (.cells #[.int .u64 hi, .int .u64 lo] 125)) #[.int .u64 0, .int .u64 0] 125
  have hb3 := hb1.alloc hb1.size (.cells #[.int .u64 0, .int .u64 0] 125)
  have hz : (w.alloc (.cells #[.int .u64 hi, .int .u64 lo] 125)).heap.size = w.heap.size + 1 := by simp
  rw [hz] at a3
  have A2 := Lib.hid a2
  have A3 := Lib.hid a3
  have HB := Lib.hid hb3
  have EA := Lib.hid ea
  clear a1 a2 a3 hb1 hb3 hz ea
  go_enter Tryz.func83, Tryz.ntmps83
  go_upto_region 0 with (fail)
  go_cut [2, 4] (fun v2 v4 wx => v2 = .pointer (some ⟨w.heap.size, 0, none⟩) ∧ v4 = .pointer (some ⟨w.heap.size + 1, 0, none⟩) ∧ At wx w.heap.size [.int .u64 hi, .int .u64 lo] ∧ At wx (w.heap.size + 1) [.int .u64 0, .int .u64 0] ∧ Below w.heap.size w wx)
  case first =>
    go_wp2_with fail
    go_meet
    exact ⟨rfl, rfl, A2.out, A3.out, HB.out⟩
  case rest =>
    obtain ⟨rfl, rfl, r1, r2, hb⟩ := hcut
    have p0 := r1.c 0 _ rfl
    have p1 := r1.c 1 _ rfl
    have q0 := r2.c 0 _ rfl
    have q1 := r2.c 1 _ rfl
    have qf := r2.fz
    have e64 := EA.out
    have R2 := Lib.hid r2
    replace HB := Lib.hid hb
    clear r1 r2 hb A2 A3
    go_wp2_with fail
    refine (C1.out _).mono ?_
    rintro e w1 ⟨rfl, rfl⟩
    go_wp2_with fail
    refine (C2.out _).mono ?_
    rintro e w1 ⟨rfl, rfl⟩
    go_wp2_with fail
    exact ret_two R2.out HB.out (by omega) wideAgg wideSize rfl rfl rfl rfl rfl

set_option maxRecDepth 100000 in
set_option maxHeartbeats 8000000 in
theorem plus_core (hi lo xh xl l c h c2 : Nat) (ok : Bool) (w : World)
    (e1 : ∀ w, (callFunc 136 #[.int .u64 lo, .int .u64 xl, .int .u64 0]).run Tryz.prog w = .ok (.value (.tuple #[.int .u64 l, .int .u64 c])) w)
    (e2 : ∀ w, (callFunc 136 #[.int .u64 hi, .int .u64 xh, .int .u64 c]).run Tryz.prog w = .ok (.value (.tuple #[.int .u64 h, .int .u64 c2])) w)
    (hok : ((c2 : Int) == 0) = ok) :
    Calls Tryz.prog 84 #[.agg #[.int .u64 hi, .int .u64 lo], .agg #[.int .u64 xh, .int .u64 xl]] w (Q (.tuple #[.agg #[.int .u64 h, .int .u64 l], .bool ok]) w) := by
  have a1 := At.new w #[.int .u64 hi, .int .u64 lo] 125
  have hb1 : Below w.heap.size w (w.alloc (.cells #[.int .u64 hi, .int .u64 lo] 125)) := (Below.refl _ _).alloc (Nat.le_refl _) _
  have a2 := At.new (w.alloc (.cells #[.int .u64 hi, .int .u64 lo] 125)) #[.int .u64 xh, .int .u64 xl] 125
  have hb2 := hb1.alloc hb1.size (.cells #[.int .u64 xh, .int .u64 xl] 125)
  have a3 := At.new ((w.alloc (.cells #[.int .u64 hi, .int .u64 lo] 125)).alloc (.cells #[.int .u64 xh, .int .u64 xl] 125)) #[.int .u64 0, .int .u64 0] 125
  have hb3 := hb2.alloc hb2.size (.cells #[.int .u64 0, .int .u64 0] 125)
  have hz1 : (w.alloc (.cells #[.int .u64 hi, .int .u64 lo] 125)).heap.size = w.heap.size + 1 := by simp
  have hz2 : ((w.alloc (.cells #[.int .u64 hi, .int .u64 lo] 125)).alloc (.cells #[.int .u64 xh, .int .u64 xl] 125)).heap.size = w.heap.size + 2 := by simp
  rw [hz1] at a2
  rw [hz2] at a3
  have A1 := Lib.hid ((a1.alloc (.cells #[.int .u64 xh, .int .u64 xl] 125)).alloc (.cells #[.int .u64 0, .int .u64 0] 125))
  have A2 := Lib.hid (a2.alloc (.cells #[.int .u64 0, .int .u64 0] 125))
  have A3 := Lib.hid a3
  have HB := Lib.hid hb3
  have E1 := Lib.hid e1
  have E2 := Lib.hid e2
  clear a1 a2 a3 hb1 hb2 hb3 hz1 hz2 e1 e2
  go_enter Tryz.func84, Tryz.ntmps84
  go_upto_region 0 with (fail)
  go_cut [2, 3, 4] (fun v2 v3 v4 wx => v2 = .pointer (some ⟨w.heap.size, 0, none⟩) ∧ v3 = .pointer (some ⟨w.heap.size + 1, 0, none⟩) ∧ v4 = .pointer (some ⟨w.heap.size + 2, 0, none⟩) ∧ At wx w.heap.size [.int .u64 hi, .int .u64 lo] ∧ At wx (w.heap.size + 1) [.int .u64 xh, .int .u64 xl] ∧ At wx (w.heap.size + 2) [.int .u64 0, .int .u64 0] ∧ Below w.heap.size w wx)
  case first =>
    go_wp2_with fail
    go_meet
    exact ⟨rfl, rfl, rfl, A1.out, A2.out, A3.out, HB.out⟩
  case rest =>
    obtain ⟨rfl, rfl, rfl, r1, r2, r3, hb⟩ := hcut
    have p0 := r1.c 0 _ rfl
    have p1 := r1.c 1 _ rfl
    have s0 := r2.c 0 _ rfl
    have s1 := r2.c 1 _ rfl
    have q0 := r3.c 0 _ rfl
    have q1 := r3.c 1 _ rfl
    have qf := r3.fz
    have e1 := E1.out
    have e2 := E2.out
    have R3 := Lib.hid r3
    replace HB := Lib.hid hb
    clear r1 r2 r3 hb A1 A2 A3
    go_wp2_with fail
    exact ret_two R3.out HB.out (by omega) wideAgg wideSize rfl rfl rfl rfl rfl

set_option maxRecDepth 100000 in
set_option maxHeartbeats 8000000 in
theorem zero_core (hi lo : Nat) (b : Bool) (w : World) (hb : (bits .or .u64 (hi : Int) (lo : Int) == 0) = b) :
    Calls Tryz.prog 137 #[.agg #[.int .u64 hi, .int .u64 lo]] w (Q (.bool b) w) := by
  have A2 := Lib.hid (At.new w #[.int .u64 hi, .int .u64 lo] 125)
  have HB : Hid (Below w.heap.size w (w.alloc (.cells #[.int .u64 hi, .int .u64 lo] 125))) := (Below.refl _ _).alloc (Nat.le_refl _) _
  go_enter Tryz.func137, Tryz.ntmps137
  go_upto_region 0 with (fail)
  go_cut [1] (fun v1 wx => v1 = .pointer (some ⟨w.heap.size, 0, none⟩) ∧ At wx w.heap.size [.int .u64 hi, .int .u64 lo] ∧ Below w.heap.size w wx)
  case first =>
    go_wp2_with fail
    go_meet
    exact ⟨rfl, A2.out, HB.out⟩
  case rest =>
    obtain ⟨rfl, r1, hb⟩ := hcut
    have p0 := r1.c 0 _ rfl
    have p1 := r1.c 1 _ rfl
    replace HB := Lib.hid hb
    clear r1 hb A2
    go_wp2_with fail
    go_ret
    exact ⟨rfl, HB.out⟩

/-! ### At every number -/
def B64 : Nat := 18446744073709551616
/-- A whole number below 2 to the 128, as Go holds it. -/
abbrev wv (W : Nat) : Value := .agg #[.int .u64 ((W / 18446744073709551616 : Nat) : Int), .int .u64 ((W % 18446744073709551616 : Nat) : Int)]

theorem zero_any (W : Nat) (w : World) (hW : W < 340282366920938463463374607431768211456) :
    Calls Tryz.prog 137 #[wv W] w (Q (.bool (decide (W = 0))) w) := by
  refine zero_core _ _ _ w ?_
  rw [Bool.eq_iff_iff, decide_eq_true_eq, beq_iff_eq]
  have key : ∀ a b : Nat, a < 18446744073709551616 → b < 18446744073709551616 → (bits .or .u64 (a : Int) (b : Int) = 0 ↔ a = 0 ∧ b = 0) := by
    intro a b ha hb
    rw [bits_or_u64_nat a b ha hb]
    constructor
    · intro h
      exact Nat.or_eq_zero_iff.1 (by omega)
    · rintro ⟨rfl, rfl⟩; rfl
  rw [key _ _ (by omega) (by omega)]
  omega

theorem times_any (W n : Nat) (w : World) (hW : W < 340282366920938463463374607431768211456) (hn : n < 18446744073709551616) :
    Calls Tryz.prog 83 #[wv W, .int .u64 n] w (Q (.tuple #[wv (W * n % 340282366920938463463374607431768211456), .bool (decide (W * n < 340282366920938463463374607431768211456))]) w) := by
  obtain ⟨hi, hhi⟩ : ∃ hi, W / 18446744073709551616 = hi := ⟨_, rfl⟩
  obtain ⟨lo, hlo⟩ : ∃ lo, W % 18446744073709551616 = lo := ⟨_, rfl⟩
  have hWe : W = hi * 18446744073709551616 + lo := by omega
  have h1 : hi < 18446744073709551616 := by omega
  have h2 : lo < 18446744073709551616 := by omega
  have hm1 : hi * n ≤ 18446744073709551615 * n := Nat.mul_le_mul_right _ (by omega)
  have hm2 : lo * n ≤ 18446744073709551615 * n := Nat.mul_le_mul_right _ (by omega)
  have hmul : W * n = hi * n * 18446744073709551616 + lo * n := by rw [hWe, Nat.add_mul, Nat.mul_right_comm]
  show Calls _ _ #[.agg #[.int .u64 ((W / 18446744073709551616 : Nat) : Int), .int .u64 ((W % 18446744073709551616 : Nat) : Int)], _] _ _
  rw [hhi, hlo, hmul]
  generalize hP : hi * n = P at *
  generalize hQ : lo * n = R at *
  have h := times_core hi lo n (R / 18446744073709551616) (R % 18446744073709551616) (P / 18446744073709551616) (P % 18446744073709551616) ((R / 18446744073709551616 + P % 18446744073709551616 + 0) % 18446744073709551616) ((R / 18446744073709551616 + P % 18446744073709551616 + 0) / 18446744073709551616)
    (decide (P * 18446744073709551616 + R < 340282366920938463463374607431768211456)) w
    (Lib.hid fun w => by have := Tryz.bits_Mul64 lo n h2 hn w; rw [hQ] at this; exact this) (Lib.hid fun w => by have := Tryz.bits_Mul64 hi n h1 hn w; rw [hP] at this; exact this) (fun w => add64_run _ _ 0 (by omega) w) (by omega) (by
      rw [Bool.eq_iff_iff, decide_eq_true_eq, beq_iff_eq]
      omega)
  have e1 : (P * 18446744073709551616 + R) % 340282366920938463463374607431768211456 / 18446744073709551616 = (R / 18446744073709551616 + P % 18446744073709551616 + 0) % 18446744073709551616 := by omega
  have e2 : (P * 18446744073709551616 + R) % 340282366920938463463374607431768211456 % 18446744073709551616 = R % 18446744073709551616 := by omega
  unfold wv
  rw [e1, e2]
  exact h

theorem plus_any (W X : Nat) (w : World) (hW : W < 340282366920938463463374607431768211456) (hX : X < 340282366920938463463374607431768211456) :
    Calls Tryz.prog 84 #[wv W, wv X] w (Q (.tuple #[wv ((W + X) % 340282366920938463463374607431768211456), .bool (decide (W + X < 340282366920938463463374607431768211456))]) w) := by
  have h := plus_core (W / 18446744073709551616) (W % 18446744073709551616) (X / 18446744073709551616) (X % 18446744073709551616) _ _ _ _ (decide (W + X < 340282366920938463463374607431768211456)) w
    (fun w => add64_run _ _ 0 (by omega) w) (fun w => add64_run _ _ _ (by omega) w) (by
      rw [Bool.eq_iff_iff, decide_eq_true_eq, beq_iff_eq]
      omega)
  have e1 : (W + X) % 340282366920938463463374607431768211456 / 18446744073709551616 = (W / 18446744073709551616 + X / 18446744073709551616 + (W % 18446744073709551616 + X % 18446744073709551616 + 0) / 18446744073709551616) % 18446744073709551616 := by omega
  have e2 : (W + X) % 340282366920938463463374607431768211456 % 18446744073709551616 = (W % 18446744073709551616 + X % 18446744073709551616 + 0) % 18446744073709551616 := by omega
  unfold wv
  rw [e1, e2]
  exact h
end Go.Proofs.YtfkiomjplpbmiaaGreatDoor

/- A row of cells in memory; tokens as values; lex.reference. -/
namespace Go.Proofs.YtfkiomjplpbmiaaGreatDoor
open Go.RowKit Go.Lib

/-- Ten stores into one block. -/
abbrev set10 (w : World) (B : Nat) (v0 v1 v2 v3 v4 v5 v6 v7 v8 v9 : Value) : World :=
  (((((((((w.setCell ⟨B, 0, none⟩ v0).setCell ⟨B, 1, none⟩ v1).setCell ⟨B, 2, none⟩ v2).setCell ⟨B, 3, none⟩ v3).setCell ⟨B, 4, none⟩ v4).setCell ⟨B, 5, none⟩ v5).setCell ⟨B, 6, none⟩ v6).setCell ⟨B, 7, none⟩ v7).setCell ⟨B, 8, none⟩ v8).setCell ⟨B, 9, none⟩ v9
theorem At.set10 {w : World} {B : Nat} {a0 a1 a2 a3 a4 a5 a6 a7 a8 a9 : Value} (h : At w B [a0, a1, a2, a3, a4, a5, a6, a7, a8, a9]) (v0 v1 v2 v3 v4 v5 v6 v7 v8 v9 : Value) : At (set10 w B v0 v1 v2 v3 v4 v5 v6 v7 v8 v9) B [v0, v1, v2, v3, v4, v5, v6, v7, v8, v9] :=
  (((((((((h.set 0 (by simp) v0).set 1 (by simp) v1).set 2 (by simp) v2).set 3 (by simp) v3).set 4 (by simp) v4).set 5 (by simp) v5).set 6 (by simp) v6).set 7 (by simp) v7).set 8 (by simp) v8).set 9 (by simp) v9
theorem below_set10 {B b : Nat} {w w1 : World} (h : Below B w w1) (hb : B ≤ b) (v0 v1 v2 v3 v4 v5 v6 v7 v8 v9 : Value) : Below B w (set10 w1 b v0 v1 v2 v3 v4 v5 v6 v7 v8 v9) :=
  (((((((((h.setCell (p := ⟨b, 0, none⟩) hb _).setCell (p := ⟨b, 1, none⟩) hb _).setCell (p := ⟨b, 2, none⟩) hb _).setCell (p := ⟨b, 3, none⟩) hb _).setCell (p := ⟨b, 4, none⟩) hb _).setCell (p := ⟨b, 5, none⟩) hb _).setCell (p := ⟨b, 6, none⟩) hb _).setCell (p := ⟨b, 7, none⟩) hb _).setCell (p := ⟨b, 8, none⟩) hb _).setCell (p := ⟨b, 9, none⟩) hb _
theorem At.ten {w : World} {B : Nat} {a0 a1 a2 a3 a4 a5 a6 a7 a8 a9 : Value} (h : At w B [a0, a1, a2, a3, a4, a5, a6, a7, a8, a9]) :
    w.cell? ⟨B, 0, none⟩ = some a0 ∧ w.cell? ⟨B, 1, none⟩ = some a1 ∧ w.cell? ⟨B, 2, none⟩ = some a2 ∧ w.cell? ⟨B, 3, none⟩ = some a3 ∧ w.cell? ⟨B, 4, none⟩ = some a4 ∧ w.cell? ⟨B, 5, none⟩ = some a5 ∧ w.cell? ⟨B, 6, none⟩ = some a6 ∧ w.cell? ⟨B, 7, none⟩ = some a7 ∧ w.cell? ⟨B, 8, none⟩ = some a8 ∧ w.cell? ⟨B, 9, none⟩ = some a9 :=
  ⟨h.c 0 _ rfl, h.c 1 _ rfl, h.c 2 _ rfl, h.c 3 _ rfl, h.c 4 _ rfl, h.c 5 _ rfl, h.c 6 _ rfl, h.c 7 _ rfl, h.c 8 _ rfl, h.c 9 _ rfl⟩

abbrev tok10 (k a : Int) (s : ByteArray) (c e : Int) (sh : ByteArray) (co ro : Int) (ac ar : Bool) : Value :=
  .agg #[.int .i64 k, .int .i64 a, .string s, .int .i64 c, .int .i64 e, .string sh, .int .i64 co, .int .i64 ro, .bool ac, .bool ar]
def Tok.cells (t : Tok) (a : Int) : List Value := [.int .i64 t.kind, .int .i64 a, .string ⟨t.s.toArray⟩, .int .i64 t.c, .int .i64 t.e, .string ⟨t.r.1.toArray⟩, .int .i64 t.r.2.1, .int .i64 t.r.2.2.1, .bool t.r.2.2.2.1, .bool t.r.2.2.2.2]
def Tok.val (t : Tok) (a : Int) : Value := .agg (t.cells a).toArray
def oneV (o : One) : Value := .tuple #[o.1.val 0, .int .i64 o.2.1, .int .i64 o.2.2]

/-- The value of one token, and the cells of a token's variable in memory. -/
abbrev zero10 : Array Value := #[.int .i64 0, .int .i64 0, .string ⟨#[]⟩, .int .i64 0, .int .i64 0, .string ⟨#[]⟩, .int .i64 0, .int .i64 0, .bool false, .bool false]

theorem zero10_new (w : World) : At (w.alloc (.cells zero10 34)) w.heap.size zero10.toList ∧ Below w.heap.size w (w.alloc (.cells zero10 34)) :=
  ⟨At.new w zero10 _, (Below.refl _ _).alloc (Nat.le_refl _) _⟩

theorem ret10 {w W : World} {B : Nat} {L : List Value} (r : At W B L) (hL : L.length = 10) (HB : Below w.heap.size w W) (hB : w.heap.size ≤ B) (v0 v1 v2 v3 v4 v5 v6 v7 v8 v9 : Value) :
    At (set10 W B v0 v1 v2 v3 v4 v5 v6 v7 v8 v9) B [v0, v1, v2, v3, v4, v5, v6, v7, v8, v9] ∧ Below w.heap.size w (set10 W B v0 v1 v2 v3 v4 v5 v6 v7 v8 v9) := by
  match L, hL with
  | [a0, a1, a2, a3, a4, a5, a6, a7, a8, a9], _ => exact ⟨r.set10 v0 v1 v2 v3 v4 v5 v6 v7 v8 v9, below_set10 HB hB _ _ _ _ _ _ _ _ _ _⟩

/-- A function that hands back a token's variable, a number, an error: at its end. -/
theorem ret_tok {f : Func} {act : Act} {w W : World} {a b c B : Nat} {V vb vc : Value} {L : List Value} {v0 v1 v2 v3 v4 v5 v6 v7 v8 v9 : Value} (r : At W B L) (hL : L.length = 10) (HB : Below w.heap.size w W) (hB : w.heap.size ≤ B)
    (hV : V = .tuple #[.agg #[v0, v1, v2, v3, v4, v5, v6, v7, v8, v9], vb, vc]) (hf : f.results = #[.cell a 34, .tmp b, .tmp c]) (hd : act.defers = [])
    (ha : act.tmps.getD a undef = .pointer (some ⟨B, 0, none⟩)) (hb : act.tmps.getD b undef = vb) (hc : act.tmps.getD c undef = vc) :
    bodyPost Tryz.prog f (Q V w) .ret act (set10 W B v0 v1 v2 v3 v4 v5 v6 v7 v8 v9) := by
  obtain ⟨r2, hb2⟩ := ret10 r hL HB hB v0 v1 v2 v3 v4 v5 v6 v7 v8 v9
  obtain ⟨t0, t1, t2, t3, t4, t5, t6, t7, t8, t9⟩ := r2.ten
  generalize set10 W B v0 v1 v2 v3 v4 v5 v6 v7 v8 v9 = W' at *
  subst hV
  rw [Array.getD_eq_getD_getElem?] at ha hb hc
  exact bodyPost_ret (v := .tuple #[.agg #[v0, v1, v2, v3, v4, v5, v6, v7, v8, v9], vb, vc]) (by simp [results, hf, go_sem, ha, hb, hc, t0, t1, t2, t3, t4, t5, t6, t7, t8, t9]) hd ⟨rfl, hb2⟩

set_option maxRecDepth 100000 in
set_option maxHeartbeats 8000000 in
theorem lexReference_core (s p sh : ByteArray) (n : Nat) (e co ro : Int) (ac ar : Bool) (w : World) (hn : n ≤ s.size) (hp : s.extract 0 n = p)
    (C1 : Hid (∀ w, Glob w → Calls Tryz.prog 90 #[.string p] w (Q (.tuple #[refV sh co ro ac ar, .int .i64 e]) w)))
    (hg : Glob w) :
    Calls Tryz.prog 88 #[.string s, .int .i64 (n : Int)] w (Q (.tuple #[tok10 3 0 ⟨#[]⟩ 0 0 sh co ro ac ar, .int .i64 (n : Int), .int .i64 e]) w) := by
  have HP := Lib.hid hp
  clear hp
  have r1 := At.new w zero10 34
  have hB : Below w.heap.size w (w.alloc (.cells zero10 34)) := (Below.refl _ _).alloc (Nat.le_refl _) _
  have hg1 := hg.below hB
  have R1 := Lib.hid r1
  have HB := Lib.hid hB
  have HG := Lib.hid hg1
  clear r1 hB hg1
  go_enter Tryz.func88, Tryz.ntmps88
  go_wp2_with fail
  rw [HP.out]
  refine (C1.out _ HG.out).mono ?_
  rintro e w1 ⟨rfl, hb⟩
  have r1 := R1.out.below hb
  replace HB := Lib.hid (bt HB.out hb)
  clear hb C1 R1
  have hA : Below w1.heap.size w1 (w1.alloc (.cells #[.string sh, .int .i64 co, .int .i64 ro, .bool ac, .bool ar] 32)) := (Below.refl _ _).alloc (Nat.le_refl _) _
  have R2 := RefAt.new w1 sh co ro ac ar
  have r2 := r1.below hA
  replace HB := Lib.hid (bt HB.out hA)
  clear hA r1
  obtain ⟨q0, q1, q2, q3, q4, qf, ql⟩ := R2
  obtain ⟨p0, p1, p2, p3, p4, p5, p6, p7, p8, p9⟩ := r2.ten
  have pf := r2.fz
  go_wp2_with fail
  exact ret_tok r2 rfl HB.out (Nat.le_refl _) rfl rfl rfl rfl rfl rfl

theorem lexReference_any (s : ByteArray) (n : Nat) (w : World) (hn : n ≤ s.size) (hs : s.size ≤ 512) (hg : Glob w) :
    Calls Tryz.prog 88 #[.string s, .int .i64 (n : Int)] w (Q (oneV (refOne parseF s.data.toList n)) w) := by
  have he : (s.extract 0 n).data.toList = s.data.toList.take n := by
    rw [ByteArray.data_extract, Array.toList_extract, List.extract_eq_take_drop]; simp
  have hz : (s.extract 0 n).size ≤ 4294967280 := by rw [ByteArray.size_extract]; omega
  have C1 := fun w hg => parse_any (s.extract 0 n) w hz hg
  rw [he] at C1
  exact lexReference_core s (s.extract 0 n) _ n _ _ _ _ _ w hn rfl (Lib.hid C1) hg
end Go.Proofs.YtfkiomjplpbmiaaGreatDoor

/- lex.sheet, lex.text. -/
namespace Go.Proofs.YtfkiomjplpbmiaaGreatDoor
open Go.RowKit Go.Lib

set_option maxRecDepth 100000 in
set_option maxHeartbeats 8000000 in
theorem lexSheet_none (s : ByteArray) (w : World)
    (C1 : Hid (∀ w, Calls Tryz.prog 86 #[.string s] w (Q (.tuple #[.int .i64 0, .string ⟨#[]⟩]) w))) :
    Calls Tryz.prog 47 #[.string s] w (Q (oneV (tok0, 0, 40)) w) := by
  have R1 := Lib.hid (zero10_new w).1
  have HB := Lib.hid (zero10_new w).2
  go_enter Tryz.func47, Tryz.ntmps47
  go_wp2_with fail
  refine (C1.out _).mono ?_
  rintro e w1 ⟨rfl, hb⟩
  have r1 := R1.out.below hb
  replace HB := Lib.hid (bt HB.out hb)
  clear hb C1 R1
  obtain ⟨p0, p1, p2, p3, p4, p5, p6, p7, p8, p9⟩ := r1.ten
  have pf := r1.fz
  go_wp2_with fail
  exact ret_tok r1 rfl HB.out (Nat.le_refl _) rfl rfl rfl rfl rfl rfl

set_option maxRecDepth 100000 in
set_option maxHeartbeats 8000000 in
theorem lexSheet_some (s t : ByteArray) (n d : Nat) (b : Bool) (sh : ByteArray) (ek co ro : Int) (ac ar : Bool) (w : World) (hs : s.size ≤ 512) (hn : 1 ≤ n) (hns : n ≤ s.size)
    (C1 : Hid (∀ w, Calls Tryz.prog 86 #[.string s] w (Q (.tuple #[.int .i64 (n : Int), .string t]) w)))
    (C2 : Hid (∀ w, Calls Tryz.prog 77 #[.string (s.extract n s.size), .string ⟨#[33]⟩] w fun e w' => e = .returned (.bool b) ∧ w = w'))
    (hd : b = true → n + 1 + d ≤ s.size)
    (C3 : Hid (∀ w, Calls Tryz.prog 76 #[.string (s.extract (n + 1) s.size), .string cellS] w (Q (.int .i64 d) w)))
    (C4 : Hid (b = true → ∀ w, Glob w → Calls Tryz.prog 88 #[.string s, .int .i64 ((n + 1 + d : Nat) : Int)] w (Q (.tuple #[tok10 3 0 ⟨#[]⟩ 0 0 sh co ro ac ar, .int .i64 ((n + 1 + d : Nat) : Int), .int .i64 ek]) w)))
    (V : Value) (HV0 : Hid (b = false → V = oneV (tok0, 0, 40))) (HV1 : Hid (b = true → V = .tuple #[tok10 3 0 ⟨#[]⟩ 0 0 sh co ro ac ar, .int .i64 ((n + 1 + d : Nat) : Int), .int .i64 ek]))
    (hg : Glob w) :
    Calls Tryz.prog 47 #[.string s] w (Q V w) := by
  have R1 := Lib.hid (zero10_new w).1
  have HB := Lib.hid (zero10_new w).2
  have HG := Lib.hid hg
  have HD := Lib.hid hd
  have hn0 : ((n : Int) == 0) = false := by simp; omega
  clear hg hd
  go_enter Tryz.func47, Tryz.ntmps47
  go_wp2_with fail
  refine (C1.out _).mono ?_
  rintro e w1 ⟨rfl, hb⟩
  replace R1 := Lib.hid (R1.out.below hb)
  replace HB := Lib.hid (bt HB.out hb)
  clear hb C1
  go_wp2_with fail
  refine (C2.out _).mono ?_
  rintro e w1 ⟨rfl, rfl⟩
  cases b with
  | false =>
    replace HV0 := Lib.hid (HV0.out rfl)
    have r1 := R1.out
    obtain ⟨p0, p1, p2, p3, p4, p5, p6, p7, p8, p9⟩ := r1.ten
    have pf := r1.fz
    go_wp2_with fail
    exact ret_tok r1 rfl HB.out (Nat.le_refl _) HV0.out rfl rfl rfl rfl rfl
  | true =>
    have hd := HD.out rfl
    replace HV1 := Lib.hid (HV1.out rfl)
    replace C4 := Lib.hid (C4.out rfl)
    go_wp2_with fail
    refine (C3.out _).mono ?_
    rintro e w2 ⟨rfl, hb⟩
    replace R1 := Lib.hid (R1.out.below hb)
    replace HB := Lib.hid (bt HB.out hb)
    clear hb C3
    go_wp2_with fail
    rw [show ((n : Int) + 1 + (d : Int)) = ((n + 1 + d : Nat) : Int) by omega]
    refine (C4.out _ (HG.out.below HB.out)).mono ?_
    rintro e w3 ⟨rfl, hb⟩
    have r1 := R1.out.below hb
    replace HB := Lib.hid (bt HB.out hb)
    clear hb C4
    obtain ⟨p0, p1, p2, p3, p4, p5, p6, p7, p8, p9⟩ := r1.ten
    have pf := r1.fz
    go_wp2_with fail
    exact ret_tok r1 rfl HB.out (Nat.le_refl _) HV1.out rfl rfl rfl rfl rfl

theorem lexSheet_some' (s t : ByteArray) (n d : Nat) (b : Bool) (o : One) (w : World) (hs : s.size ≤ 512) (hn : 1 ≤ n) (hns : n ≤ s.size)
    (C1 : Hid (∀ w, Calls Tryz.prog 86 #[.string s] w (Q (.tuple #[.int .i64 (n : Int), .string t]) w)))
    (C2 : Hid (∀ w, Calls Tryz.prog 77 #[.string (s.extract n s.size), .string ⟨#[33]⟩] w fun e w' => e = .returned (.bool b) ∧ w = w'))
    (hd : b = true → n + 1 + d ≤ s.size)
    (C3 : Hid (∀ w, Calls Tryz.prog 76 #[.string (s.extract (n + 1) s.size), .string cellS] w (Q (.int .i64 d) w)))
    (ho : o = (⟨3, [], 0, 0, o.1.r⟩, n + 1 + d, o.2.2))
    (C4 : b = true → ∀ w, Glob w → Calls Tryz.prog 88 #[.string s, .int .i64 ((n + 1 + d : Nat) : Int)] w (Q (oneV o) w))
    (p : One) (HV0 : Hid (b = false → p = (tok0, 0, 40))) (HV1 : Hid (b = true → p = o)) (hg : Glob w) :
    Calls Tryz.prog 47 #[.string s] w (Q (oneV p) w) := by
  obtain ⟨tk, k, ek⟩ := o
  obtain ⟨rfl, ho2⟩ : k = n + 1 + d ∧ tk = ⟨3, [], 0, 0, tk.r⟩ := by
    injection ho with h1 h2; injection h2 with h2 _
    exact ⟨h2, h1⟩
  generalize tk.r = r at ho2
  subst ho2
  cases b with
  | false =>
    rw [HV0.out rfl]
    exact lexSheet_some s t n d false ⟨#[]⟩ 0 0 0 false false w hs hn hns C1 C2 (fun h => by cases h) C3 (Lib.hid fun h => by cases h) _ (Lib.hid fun _ => rfl) (Lib.hid fun h => by cases h) hg
  | true =>
    rw [HV1.out rfl]
    exact lexSheet_some s t n d true ⟨r.1.toArray⟩ ek r.2.1 r.2.2.1 r.2.2.2.1 r.2.2.2.2 w hs hn hns C1 C2 (fun _ => hd rfl) C3 (Lib.hid fun _ => C4 rfl) _ (Lib.hid fun h => by cases h) (Lib.hid fun _ => rfl) hg

theorem ext1 {s : ByteArray} {m : UInt8} {l : List UInt8} (h : s.data.toList = m :: l) : s.extract 0 1 = ⟨#[m]⟩ := by
  apply ByteArray.ext
  rw [← Array.toList_inj, ByteArray.data_extract, Array.toList_extract, List.extract_eq_take_drop, h]; rfl
theorem size_of {s : ByteArray} {m : UInt8} {l : List UInt8} (h : s.data.toList = m :: l) : s.size = l.length + 1 := by
  show s.data.size = _
  rw [← Array.length_toList, h]; rfl
theorem lexQuoted_any (s : ByteArray) (m : UInt8) (l : List UInt8) (w : World) (hs : s.size ≤ 512) (h : s.data.toList = m :: l) :
    Calls Tryz.prog 86 #[.string s] w (Q (quotedV s.size (quotedM m [] (s.data.toList.drop 1))) w) :=
  lexQuoted_core s m w hs (by rw [size_of h]; omega) (ext1 h) _ rfl

theorem runC_any (s : ByteArray) (w : World) (hs : s.size ≤ 9223372036854775807) :
    Calls Tryz.prog 76 #[.string s, .string cellS] w (Q (.int .i64 (runN isC s.data.toList)) w) := run_any s cellS w hs (ascii_all _ (by decide +kernel))
theorem runW_any (s : ByteArray) (w : World) (hs : s.size ≤ 9223372036854775807) :
    Calls Tryz.prog 76 #[.string s, .string wordS] w (Q (.int .i64 (runN isW s.data.toList)) w) := run_any s wordS w hs (ascii_all _ (by decide +kernel))

theorem drop_back {l r : List UInt8} {m : UInt8} {t : List UInt8} (h : quotedM m [] l = some (t, r)) : l.drop (l.length - r.length) = r := by
  have : ∀ (k : Nat) (l acc t r : List UInt8), l.length ≤ k → quotedM m acc l = some (t, r) → ∃ a, l = a ++ r := by
    intro k
    induction k with
    | zero =>
      intro l acc t r hk h
      cases l with
      | nil => rw [quotedM] at h; cases h
      | cons c l => simp at hk
    | succ k ih =>
      intro l acc t r hk h
      cases l with
      | nil => rw [quotedM] at h; cases h
      | cons c l =>
        have hk2 : l.length ≤ k := by simpa using hk
        rw [quotedM] at h
        split at h
        · split at h
          · rename_i hh
            have ht : l.tail.length ≤ k := by rw [List.length_tail]; omega
            obtain ⟨a, ha⟩ := ih l.tail _ t r ht h
            cases l with
            | nil => cases hh
            | cons b l => rw [List.tail_cons] at ha; exact ⟨c :: b :: a, by rw [ha]; rfl⟩
          · injection h with h; injection h with h1 h2; subst h1 h2; exact ⟨[c], rfl⟩
        · obtain ⟨a, ha⟩ := ih l _ t r hk2 h
          exact ⟨c :: a, by rw [ha]; rfl⟩
  obtain ⟨a, ha⟩ := this _ l [] t r (Nat.le_refl _) h
  rw [ha, List.length_append, Nat.add_sub_cancel]
  simp

theorem lexSheet_any (s : ByteArray) (l : List UInt8) (w : World) (hs : s.size ≤ 512) (h : s.data.toList = 39 :: l) (hg : Glob w) :
    Calls Tryz.prog 47 #[.string s] w (Q (oneV (sheetOne parseF s.data.toList)) w) := by
  have C1 := fun w => lexQuoted_any s 39 l w hs h
  have hz := size_of h
  have h1 : s.data.toList.drop 1 = l := by rw [h]; rfl
  unfold sheetOne
  rw [h1] at C1 ⊢
  cases hq : quotedM 39 [] l with
  | none =>
    rw [hq] at C1
    exact lexSheet_none s w (Lib.hid C1)
  | some p =>
    obtain ⟨t, r⟩ := p
    rw [hq] at C1
    have hlt := quotedM_lt hq
    have hb := drop_back hq
    have hn : s.data.toList.length - r.length = l.length - r.length + 1 := by rw [h, List.length_cons]; omega
    have hsl : s.size = s.data.toList.length := by rw [hz, h]; rfl
    have hr : s.data.toList.drop (s.data.toList.length - r.length) = r := by rw [hn, h, List.drop_succ_cons, hb]
    dsimp only
    unfold quotedV at C1
    dsimp only at C1
    rw [hsl] at C1
    generalize hnn : s.data.toList.length - r.length = n at *
    have C2 := fun w => prefix_one (s.extract n s.size) 33 w
    rw [ext_drop, hr] at C2
    have C3 := fun w => runC_any (s.extract (n + 1) s.size) w (by have := ext_le s (n + 1); omega)
    rw [ext_drop] at C3
    have hd : (r.head? == some 33) = true → n + 1 + runN isC (s.data.toList.drop (n + 1)) ≤ s.size := fun hb => by
      have := afterN_le s.data.toList n (head_lt (c := 33) (by rw [hr]; exact hb))
      unfold afterN at this; omega
    refine lexSheet_some' s ⟨t.toArray⟩ n _ _ (refOne parseF s.data.toList (afterN s.data.toList n)) w hs (by omega) (by omega) (Lib.hid C1) (Lib.hid C2) hd (Lib.hid C3) rfl (fun hb => ?_) _ (Lib.hid fun hb => by rw [if_neg (by rw [hb]; decide)]) (Lib.hid fun hb => by rw [if_pos hb]) hg
    exact fun w hg => lexReference_any s _ w (hd hb) hs hg
end Go.Proofs.YtfkiomjplpbmiaaGreatDoor

/- lex.text. -/
namespace Go.Proofs.YtfkiomjplpbmiaaGreatDoor
open Go.RowKit Go.Lib

set_option maxRecDepth 100000 in
set_option maxHeartbeats 8000000 in
theorem lexText_none (s : ByteArray) (w : World)
    (C1 : Hid (∀ w, Calls Tryz.prog 86 #[.string s] w (Q (.tuple #[.int .i64 0, .string ⟨#[]⟩]) w))) :
    Calls Tryz.prog 46 #[.string s] w (Q (oneV (tok0, 0, 40)) w) := by
  have R1 := Lib.hid (zero10_new w).1
  have HB := Lib.hid (zero10_new w).2
  go_enter Tryz.func46, Tryz.ntmps46
  go_wp2_with fail
  refine (C1.out _).mono ?_
  rintro e w1 ⟨rfl, hb⟩
  have r1 := R1.out.below hb
  replace HB := Lib.hid (bt HB.out hb)
  clear hb C1 R1
  obtain ⟨p0, p1, p2, p3, p4, p5, p6, p7, p8, p9⟩ := r1.ten
  have pf := r1.fz
  go_wp2_with fail
  exact ret_tok r1 rfl HB.out (Nat.le_refl _) rfl rfl rfl rfl rfl rfl

set_option maxRecDepth 100000 in
set_option maxHeartbeats 8000000 in
theorem lexText_big (s t : ByteArray) (n : Nat) (w : World) (hn : 1 ≤ n) (ht : 255 < t.size)
    (C1 : Hid (∀ w, Calls Tryz.prog 86 #[.string s] w (Q (.tuple #[.int .i64 (n : Int), .string t]) w))) :
    Calls Tryz.prog 46 #[.string s] w (Q (oneV (tok0, 0, 3)) w) := by
  have R1 := Lib.hid (zero10_new w).1
  have HB := Lib.hid (zero10_new w).2
  have hn0 : ((n : Int) == 0) = false := by simp; omega
  have ht0 : decide (255 < t.size) = true := decide_eq_true ht
  go_enter Tryz.func46, Tryz.ntmps46
  go_wp2_with fail
  refine (C1.out _).mono ?_
  rintro e w1 ⟨rfl, hb⟩
  have r1 := R1.out.below hb
  replace HB := Lib.hid (bt HB.out hb)
  clear hb C1 R1
  obtain ⟨p0, p1, p2, p3, p4, p5, p6, p7, p8, p9⟩ := r1.ten
  have pf := r1.fz
  go_wp2_with fail
  exact ret_tok r1 rfl HB.out (Nat.le_refl _) rfl rfl rfl rfl rfl rfl

set_option maxRecDepth 100000 in
set_option maxHeartbeats 8000000 in
theorem lexText_some (s t : ByteArray) (n : Nat) (x : Int) (w : World) (hn : 1 ≤ n) (ht : ¬ 255 < t.size)
    (C1 : Hid (∀ w, Calls Tryz.prog 86 #[.string s] w (Q (.tuple #[.int .i64 (n : Int), .string t]) w)))
    (C2 : Hid (∀ w, Glob w → Calls Tryz.prog 87 #[.string t] w (Q (.int .i64 x) w))) (hg : Glob w) :
    Calls Tryz.prog 46 #[.string s] w (Q (.tuple #[tok10 2 0 t 0 0 ⟨#[]⟩ 0 0 false false, .int .i64 (n : Int), .int .i64 x]) w) := by
  have R1 := Lib.hid (zero10_new w).1
  have HB := Lib.hid (zero10_new w).2
  have HG := Lib.hid hg
  have hn0 : ((n : Int) == 0) = false := by simp; omega
  have ht0 : decide (255 < t.size) = false := decide_eq_false ht
  clear hg
  go_enter Tryz.func46, Tryz.ntmps46
  go_wp2_with fail
  refine (C1.out _).mono ?_
  rintro e w1 ⟨rfl, hb⟩
  replace R1 := Lib.hid (R1.out.below hb)
  replace HB := Lib.hid (bt HB.out hb)
  clear hb C1
  go_wp2_with fail
  refine (C2.out _ (HG.out.below HB.out)).mono ?_
  rintro e w1 ⟨rfl, hb⟩
  have r1 := R1.out.below hb
  replace HB := Lib.hid (bt HB.out hb)
  clear hb C2 R1
  obtain ⟨p0, p1, p2, p3, p4, p5, p6, p7, p8, p9⟩ := r1.ten
  have pf := r1.fz
  go_wp2_with fail
  exact ret_tok r1 rfl HB.out (Nat.le_refl _) rfl rfl rfl rfl rfl rfl

/-- What is asked of utf.Xml: that it answers, and what. -/
def XmlIs (X : FX) : Prop := ∀ (t : ByteArray) (w : World), t.size ≤ 255 → Glob w → Calls Tryz.prog 87 #[.string t] w (Q (.int .i64 (X t.data.toList)) w)

theorem lexText_any (X : FX) (hX : XmlIs X) (s : ByteArray) (l : List UInt8) (w : World) (hs : s.size ≤ 512) (h : s.data.toList = 34 :: l) (hg : Glob w) :
    Calls Tryz.prog 46 #[.string s] w (Q (oneV (textOne X s.data.toList)) w) := by
  have C1 := fun w => lexQuoted_any s 34 l w hs h
  have hz := size_of h
  have h1 : s.data.toList.drop 1 = l := by rw [h]; rfl
  unfold textOne
  rw [h1] at C1 ⊢
  cases hq : quotedM 34 [] l with
  | none =>
    rw [hq] at C1
    exact lexText_none s w (Lib.hid C1)
  | some p =>
    obtain ⟨t, r⟩ := p
    rw [hq] at C1
    have hlt := quotedM_lt hq
    have hsl : s.size = s.data.toList.length := by rw [hz, h]; rfl
    have hn : 1 ≤ s.data.toList.length - r.length := by rw [h, List.length_cons]; omega
    unfold quotedV at C1
    dsimp only at C1 ⊢
    rw [hsl] at C1
    by_cases ht : 255 < t.length
    · rw [if_pos ht]
      exact lexText_big s ⟨t.toArray⟩ _ w hn (by rw [size_mk]; exact ht) (Lib.hid C1)
    · rw [if_neg ht]
      have C2 := fun w hg => hX ⟨t.toArray⟩ w (by rw [size_mk]; omega) hg
      rw [str_data] at C2
      exact lexText_some s ⟨t.toArray⟩ _ _ w hn (by rw [size_mk]; exact ht) (Lib.hid C1) (Lib.hid C2) hg
end Go.Proofs.YtfkiomjplpbmiaaGreatDoor

/- lex.word. -/
namespace Go.Proofs.YtfkiomjplpbmiaaGreatDoor
open Go.RowKit Go.Lib

set_option maxRecDepth 100000 in
set_option maxHeartbeats 8000000 in
theorem lexWord_core (s wd r : ByteArray) (n d : Nat) (b1 b2 b3 b4 g q : Bool) (pe pc pr : Int) (psh : ByteArray) (pa pb : Bool) (sh : ByteArray) (ek co ro : Int) (ac ar : Bool) (sh2 : ByteArray) (ek2 co2 ro2 : Int) (ac2 ar2 : Bool) (w : World) (hs : s.size ≤ 512) (hns : n ≤ s.size)
    (hwd : s.extract 0 n = wd) (hr : s.extract n s.size = r)
    (C1 : Hid (∀ w, Calls Tryz.prog 76 #[.string s, .string wordS] w (Q (.int .i64 (n : Int)) w)))
    (C2 : Hid (∀ w, Calls Tryz.prog 77 #[.string r, .string ⟨#[33]⟩] w fun e w' => e = .returned (.bool b1) ∧ w = w'))
    (C3 : Hid (∀ w, Calls Tryz.prog 89 #[.string wd, .string ⟨#[36, 46]⟩] w (Q (.bool b2) w)))
    (hgg : g = (b1 && !b2)) (hr1 : b1 = true → 1 ≤ r.size)
    (hd : g = true → n + 1 + d ≤ s.size)
    (C4 : Hid (∀ w, Calls Tryz.prog 76 #[.string (r.extract 1 r.size), .string cellS] w (Q (.int .i64 d) w)))
    (C5 : Hid (g = true → ∀ w, Glob w → Calls Tryz.prog 88 #[.string s, .int .i64 ((n + 1 + d : Nat) : Int)] w (Q (.tuple #[tok10 3 0 ⟨#[]⟩ 0 0 sh co ro ac ar, .int .i64 ((n + 1 + d : Nat) : Int), .int .i64 ek]) w)))
    (C6 : Hid (∀ w, Glob w → Calls Tryz.prog 90 #[.string wd] w (Q (.tuple #[refV psh pc pr pa pb, .int .i64 pe]) w)))
    (C7 : Hid (∀ w, Calls Tryz.prog 77 #[.string r, .string ⟨#[40]⟩] w fun e w' => e = .returned (.bool b3) ∧ w = w'))
    (hq : q = ((pe != 40) && !b3))
    (C8 : Hid (∀ w, Glob w → Calls Tryz.prog 88 #[.string s, .int .i64 (n : Int)] w (Q (.tuple #[tok10 3 0 ⟨#[]⟩ 0 0 sh2 co2 ro2 ac2 ar2, .int .i64 (n : Int), .int .i64 ek2]) w)))
    (C9 : Hid (∀ w, Calls Tryz.prog 43 #[.string wd, .string ⟨#[36]⟩] w fun e w' => e = .returned (.bool b4) ∧ w' = w))
    (V : Value) (HVa : Hid (g = true → V = .tuple #[tok10 3 0 ⟨#[]⟩ 0 0 sh co ro ac ar, .int .i64 ((n + 1 + d : Nat) : Int), .int .i64 ek]))
    (HVb : Hid (g = false → q = true → V = .tuple #[tok10 3 0 ⟨#[]⟩ 0 0 sh2 co2 ro2 ac2 ar2, .int .i64 (n : Int), .int .i64 ek2]))
    (HVc : Hid (g = false → q = false → b4 = true → V = .tuple #[.agg zero10, .int .i64 0, .int .i64 40]))
    (HVd : Hid (g = false → q = false → b4 = false → V = .tuple #[tok10 4 0 wd 0 0 ⟨#[]⟩ 0 0 false false, .int .i64 (n : Int), .int .i64 0]))
    (hg : Glob w) :
    Calls Tryz.prog 48 #[.string s] w (Q V w) := by
  have R1 := Lib.hid (zero10_new w).1
  have HB := Lib.hid (zero10_new w).2
  have HG := Lib.hid hg
  have HD := Lib.hid hd
  have HGG := Lib.hid hgg
  have HQ := Lib.hid hq
  have HW := Lib.hid hwd
  have HR := Lib.hid hr
  have HR1 := Lib.hid hr1
  clear hg hd hgg hq hwd hr hr1
  go_enter Tryz.func48, Tryz.ntmps48
  go_wp2_with fail
  refine (C1.out _).mono ?_
  rintro e w1 ⟨rfl, hb⟩
  replace R1 := Lib.hid (R1.out.below hb)
  replace HB := Lib.hid (bt HB.out hb)
  clear hb C1
  go_upto_region 3 with (fail)
  go_cut [6, 7] (fun v6 v7 wx => v6 = .string wd ∧ v7 = .string r ∧ At wx w.heap.size zero10.toList ∧ Below w.heap.size w wx)
  case first =>
    go_quiet (fail)
    go_wp2_with fail
    go_meet
    exact ⟨by rw [← HW.out], by rw [← HR.out], R1.out.below (below_drewN (Below.refl _ _) _), below_drewN HB.out _⟩
  case rest =>
    obtain ⟨rfl, rfl, r1, hb⟩ := hcut
    replace R1 := Lib.hid r1
    replace HB := Lib.hid hb
    clear r1 hb
    go_upto_region 3 with (fail)
    go_cut [24] (fun v24 wx => v24 = .bool g ∧ At wx w.heap.size zero10.toList ∧ Below w.heap.size w wx)
    case first =>
      go_wp2_with fail
      refine (C2.out _).mono ?_
      rintro e w2 ⟨rfl, rfl⟩
      cases b1 with
      | false =>
        go_wp2_with fail
        go_meet
        exact ⟨by rw [HGG.out]; rfl, R1.out, HB.out⟩
      | true =>
        go_wp2_with fail
        refine (C3.out _).mono ?_
        rintro e w2 ⟨rfl, hb⟩
        replace R1 := Lib.hid (R1.out.below hb)
        replace HB := Lib.hid (bt HB.out hb)
        clear hb
        go_wp2_with fail
        go_meet
        exact ⟨by rw [HGG.out]; simp, R1.out, HB.out⟩
    case rest =>
      obtain ⟨rfl, r1, hb⟩ := hcut
      replace R1 := Lib.hid r1
      replace HB := Lib.hid hb
      clear r1 hb
      cases g with
      | true =>
        have hd := HD.out rfl
        have hr1 := HR1.out (by have := HGG.out; revert this; cases b1 <;> simp)
        have hva := HVa.out rfl
        have HV := Lib.hid hva
        replace C5 := Lib.hid (C5.out rfl)
        clear HVa HVb HVc HVd hva HGG
        go_wp2_with fail
        refine (C4.out _).mono ?_
        rintro e w2 ⟨rfl, hb⟩
        replace R1 := Lib.hid (R1.out.below hb)
        replace HB := Lib.hid (bt HB.out hb)
        clear hb C4
        go_wp2_with fail
        rw [show ((n : Int) + 1 + (d : Int)) = ((n + 1 + d : Nat) : Int) by omega]
        refine (C5.out _ (HG.out.below HB.out)).mono ?_
        rintro e w3 ⟨rfl, hb⟩
        have r1 := R1.out.below hb
        replace HB := Lib.hid (bt HB.out hb)
        clear hb C5
        obtain ⟨p0, p1, p2, p3, p4, p5, p6, p7, p8, p9⟩ := r1.ten
        have pf := r1.fz
        go_wp2_with fail
        exact ret_tok r1 rfl HB.out (Nat.le_refl _) HV.out rfl rfl rfl rfl rfl
      | false =>
        replace HVb := Lib.hid (HVb.out rfl)
        replace HVc := Lib.hid (HVc.out rfl)
        replace HVd := Lib.hid (HVd.out rfl)
        clear HVa HGG HD HR1 C5
        go_wp2_with fail
        refine (C6.out _ (HG.out.below HB.out)).mono ?_
        rintro e w2 ⟨rfl, hb⟩
        replace R1 := Lib.hid (R1.out.below hb)
        replace HB := Lib.hid (bt HB.out hb)
        have hA : Below w2.heap.size w2 (w2.alloc (.cells #[.string psh, .int .i64 pc, .int .i64 pr, .bool pa, .bool pb] 32)) := (Below.refl _ _).alloc (Nat.le_refl _) _
        replace R1 := Lib.hid (R1.out.below hA)
        replace HB := Lib.hid (bt HB.out hA)
        clear hb hA C6
        go_upto_region 6 with (fail)
        go_cut [41] (fun v41 wx => v41 = .bool q ∧ At wx w.heap.size zero10.toList ∧ Below w.heap.size w wx)
        case first =>
          cases h4 : (pe != 40) with
          | false =>
            rw [h4] at HQ
            have h5 : (pe == 40) = true := by simpa using h4
            go_wp2_with fail
            go_meet
            exact ⟨by rw [HQ.out]; rfl, R1.out, HB.out⟩
          | true =>
            rw [h4] at HQ
            have h5 : (pe == 40) = false := by simpa using h4
            go_wp2_with fail
            refine (C7.out _).mono ?_
            rintro e w3 ⟨rfl, rfl⟩
            go_wp2_with fail
            go_meet
            exact ⟨by rw [HQ.out]; simp, R1.out, HB.out⟩
        case rest =>
          obtain ⟨rfl, r1, hb⟩ := hcut
          replace R1 := Lib.hid r1
          replace HB := Lib.hid hb
          clear r1 hb
          cases q with
          | true =>
            have hv := HVb.out rfl
            have HV := Lib.hid hv
            clear HVb HVc HVd hv HQ
            go_wp2_with fail
            refine (C8.out _ (HG.out.below HB.out)).mono ?_
            rintro e w3 ⟨rfl, hb⟩
            have r1 := R1.out.below hb
            replace HB := Lib.hid (bt HB.out hb)
            clear hb C8
            obtain ⟨p0, p1, p2, p3, p4, p5, p6, p7, p8, p9⟩ := r1.ten
            have pf := r1.fz
            go_wp2_with fail
            exact ret_tok r1 rfl HB.out (Nat.le_refl _) HV.out rfl rfl rfl rfl rfl
          | false =>
            replace HVc := Lib.hid (HVc.out rfl)
            replace HVd := Lib.hid (HVd.out rfl)
            clear HVb HQ
            have r1 := R1.out
            obtain ⟨p0, p1, p2, p3, p4, p5, p6, p7, p8, p9⟩ := r1.ten
            have pf := r1.fz
            go_wp2_with fail
            refine (C9.out _).mono ?_
            rintro e w3 ⟨rfl, rfl⟩
            cases b4 with
            | true =>
              replace HVc := Lib.hid (HVc.out rfl)
              clear HVd
              go_wp2_with fail
              exact ret_tok r1 rfl HB.out (Nat.le_refl _) HVc.out rfl rfl rfl rfl rfl
            | false =>
              replace HVd := Lib.hid (HVd.out rfl)
              clear HVc
              go_wp2_with fail
              exact ret_tok r1 rfl HB.out (Nat.le_refl _) HVd.out rfl rfl rfl rfl rfl

theorem containsAny_any (chars : List UInt8) : ∀ l : List UInt8, Lib.containsAny l chars = l.any (chars.contains ·)
  | [] => by simp [Lib.containsAny, Lib.indexAny]
  | b :: l => by
    have ih := containsAny_any chars l
    have hge := Lib.indexAny_ge chars l
    unfold Lib.containsAny at *
    rw [Lib.indexAny, List.any_cons]
    cases hb : chars.contains b with
    | true => simp
    | false =>
      rw [if_neg (by decide), Bool.false_or, ← ih]
      by_cases h : Lib.indexAny l chars = -1
      · rw [h]; decide
      · have : ¬ (Lib.indexAny l chars == -1) = true := by simpa using h
        rw [if_neg this, Bool.eq_iff_iff]; simp only [decide_eq_true_eq]; omega
theorem contains_byte (s : ByteArray) (c : UInt8) (w : World) :
    Calls Tryz.prog 43 #[.string s, .string ⟨#[c]⟩] w fun e w' => e = .returned (.bool (s.data.toList.contains c)) ∧ w' = w := by
  have h := Tryz.strings_Contains_one s c w
  rw [indexByte_tw] at h
  have e : decide (0 ≤ if s.data.toList.contains c = true then ((s.data.toList.takeWhile (· != c)).length : Int) else -1) = s.data.toList.contains c := by
    cases s.data.toList.contains c with
    | true => rw [if_pos rfl]; simp
    | false => simp
  rw [e] at h
  exact h
theorem isW_ascii {b : UInt8} (h : isW b = true) : b.toNat < 128 := by
  unfold isW at h
  rw [List.contains_iff_mem] at h
  have : ∀ x ∈ wordS.data.toList, x.toNat < 128 := by decide +kernel
  exact this b h
theorem takeN_all {p : UInt8 → Bool} {b : UInt8} {l : List UInt8} (h : b ∈ l.take (runN p l)) : p b = true := by
  unfold runN at h
  rw [Pl.take_takeWhile] at h
  exact List.all_eq_true.1 List.all_takeWhile b h

theorem lexWord_any (s : ByteArray) (w : World) (hs : s.size ≤ 512) (hg : Glob w) :
    Calls Tryz.prog 48 #[.string s] w (Q (oneV (wordOne parseF s.data.toList)) w) := by
  have hsz : s.data.toList.length = s.size := rfl
  have hle : wordN s.data.toList ≤ s.size := runN_le isW s.data.toList
  have C1 : ∀ w, Calls Tryz.prog 76 #[.string s, .string wordS] w (Q (.int .i64 (wordN s.data.toList : Int)) w) := fun w => runW_any s w (by omega)
  have hwd : (s.extract 0 (wordN s.data.toList)).data.toList = s.data.toList.take (wordN s.data.toList) := by
    rw [ByteArray.data_extract, Array.toList_extract, List.extract_eq_take_drop]; simp
  have hr : (s.extract (wordN s.data.toList) s.size).data.toList = s.data.toList.drop (wordN s.data.toList) := ext_drop s _
  have hwz : (s.extract 0 (wordN s.data.toList)).size ≤ 512 := by rw [ByteArray.size_extract]; omega
  have hasc : ∀ (j : Nat) b, (s.extract 0 (wordN s.data.toList)).data.toList[j]? = some b → b.toNat < 128 := fun j b hj => by
    rw [hwd] at hj
    exact isW_ascii (takeN_all (List.mem_of_getElem? hj))
  have C2 := fun w => prefix_one (s.extract (wordN s.data.toList) s.size) 33 w
  have C7 := fun w => prefix_one (s.extract (wordN s.data.toList) s.size) 40 w
  have C3 : ∀ w, Calls Tryz.prog 89 #[.string (s.extract 0 (wordN s.data.toList)), .string ⟨#[36, 46]⟩] w (Q (.bool ((s.data.toList.take (wordN s.data.toList)).any fun b => b == 36 || b == 46)) w) := fun w => by
    have h := Tryz.strings_ContainsAny_laid (s.extract 0 (wordN s.data.toList)) ⟨#[36, 46]⟩ w (by omega) (by decide) hasc (fun j b hj => (by decide : ∀ x ∈ ([36, 46] : List UInt8), x.toNat < 128) b (List.mem_of_getElem? hj))
    rw [containsAny_any, hwd] at h
    have e : (fun b => ((⟨#[36, 46]⟩ : ByteArray).data.toList.contains b)) = fun b : UInt8 => b == 36 || b == 46 := by
      funext b
      show List.contains [36, 46] b = _
      cases h1 : b == 36 <;> cases h2 : b == 46 <;> simp [List.contains, List.elem, h1, h2]
    rw [e] at h
    exact h
  rw [hr] at C2 C7
  have hrz : (s.extract (wordN s.data.toList) s.size).size = s.size - wordN s.data.toList := by rw [ByteArray.size_extract]; omega
  have C6 := fun w hg => parse_any (s.extract 0 (wordN s.data.toList)) w (by omega) hg
  rw [hwd] at C6
  have C9 := fun w => contains_byte (s.extract 0 (wordN s.data.toList)) 36 w
  rw [hwd] at C9
  have C4 := fun w => runC_any ((s.extract (wordN s.data.toList) s.size).extract 1 (s.extract (wordN s.data.toList) s.size).size) w (by have := ext_le (s.extract (wordN s.data.toList) s.size) 1; omega)
  rw [ext_drop, hr, List.drop_drop] at C4
  have C8 := fun w hg => lexReference_any s (wordN s.data.toList) w hle hs hg
  have hd : ∀ b, (((s.data.toList.drop (wordN s.data.toList)).head? == some 33) && !b) = true → afterN s.data.toList (wordN s.data.toList) ≤ s.size := fun b hb => by
    rw [Bool.and_eq_true] at hb
    exact afterN_le _ _ (head_lt hb.1)
  have C5 := fun b hb w hg => lexReference_any s (afterN s.data.toList (wordN s.data.toList)) w (hd b hb) hs hg
  have hlt : ((s.data.toList.drop (wordN s.data.toList)).head? == some 33) = true → 1 ≤ (s.extract (wordN s.data.toList) s.size).size := fun hb => by
    have := head_lt hb
    omega
  refine lexWord_core s _ _ (wordN s.data.toList) (runN isC (s.data.toList.drop (wordN s.data.toList + 1))) _ _ _ _ _ _ _ _ _ _ _ _ _ _ _ _ _ _ _ _ _ _ _ _ w hs hle rfl rfl (Lib.hid C1) (Lib.hid C2) (Lib.hid C3) rfl hlt (hd _) (Lib.hid C4) (Lib.hid (C5 _)) (Lib.hid C6) (Lib.hid C7) rfl (Lib.hid C8) (Lib.hid C9) _
    (Lib.hid fun h => ?_) (Lib.hid fun h h2 => ?_) (Lib.hid fun h h2 h3 => ?_) (Lib.hid fun h h2 h3 => ?_) hg
  · unfold wordOne
    rw [Bool.and_eq_true, Bool.not_eq_true'] at h
    rw [if_pos h]; rfl
  · have hn : ¬ (((s.data.toList.drop (wordN s.data.toList)).head? == some 33) = true ∧ ((s.data.toList.take (wordN s.data.toList)).any fun b => b == 36 || b == 46) = false) := by
      rintro ⟨ha, hb⟩; rw [ha, hb] at h; cases h
    rw [Bool.and_eq_true, Bool.not_eq_true'] at h2
    unfold wordOne
    rw [if_neg hn, if_pos ⟨bne_iff_ne.1 h2.1, h2.2⟩]; rfl
  · have hn : ¬ (((s.data.toList.drop (wordN s.data.toList)).head? == some 33) = true ∧ ((s.data.toList.take (wordN s.data.toList)).any fun b => b == 36 || b == 46) = false) := by
      rintro ⟨ha, hb⟩; rw [ha, hb] at h; cases h
    have hm : ¬ ((parseF (s.data.toList.take (wordN s.data.toList))).1 ≠ 40 ∧ ((s.data.toList.drop (wordN s.data.toList)).head? == some 40) = false) := by
      rintro ⟨ha, hb⟩; rw [bne_iff_ne.2 ha, hb] at h2; cases h2
    unfold wordOne
    rw [if_neg hn, if_neg hm, if_pos h3]; rfl
  · have hn : ¬ (((s.data.toList.drop (wordN s.data.toList)).head? == some 33) = true ∧ ((s.data.toList.take (wordN s.data.toList)).any fun b => b == 36 || b == 46) = false) := by
      rintro ⟨ha, hb⟩; rw [ha, hb] at h; cases h
    have hm : ¬ ((parseF (s.data.toList.take (wordN s.data.toList))).1 ≠ 40 ∧ ((s.data.toList.drop (wordN s.data.toList)).head? == some 40) = false) := by
      rintro ⟨ha, hb⟩; rw [bne_iff_ne.2 ha, hb] at h2; cases h2
    unfold wordOne
    rw [if_neg hn, if_neg hm, if_neg (by rw [h3]; decide)]
    unfold oneV Tok.val Tok.cells tok0
    dsimp only
    rw [← hwd, bytes_eq]
end Go.Proofs.YtfkiomjplpbmiaaGreatDoor

/- lex.mark. -/
namespace Go.Proofs.YtfkiomjplpbmiaaGreatDoor
open Go.RowKit Go.Lib

abbrev two3 : Value := .agg #[.string ⟨#[60, 62]⟩, .string ⟨#[60, 61]⟩, .string ⟨#[62, 61]⟩]
theorem two3_0 (w : World) : (Instr.index 138 two3 (.int .i64 0)).run Tryz.prog w = .ok (.string ⟨#[60, 62]⟩) w := by kernel_rfl
theorem two3_1 (w : World) : (Instr.index 138 two3 (.int .i64 1)).run Tryz.prog w = .ok (.string ⟨#[60, 61]⟩) w := by kernel_rfl
theorem two3_2 (w : World) : (Instr.index 138 two3 (.int .i64 2)).run Tryz.prog w = .ok (.string ⟨#[62, 61]⟩) w := by kernel_rfl

set_option maxRecDepth 100000 in
set_option maxHeartbeats 8000000 in
theorem lexMark_core (s : ByteArray) (c : UInt8) (b0 b1 b2 b3 b4 : Bool) (w : World) (hs : 1 ≤ s.size)
    (hc : s.extract 0 1 = ⟨#[c]⟩)
    (C0 : Hid (∀ w, Calls Tryz.prog 77 #[.string s, .string ⟨#[35, 82, 69, 70, 33]⟩] w fun e w' => e = .returned (.bool b0) ∧ w' = w))
    (C1 : Hid (∀ w, Calls Tryz.prog 77 #[.string s, .string ⟨#[60, 62]⟩] w fun e w' => e = .returned (.bool b1) ∧ w' = w))
    (C2 : Hid (∀ w, Calls Tryz.prog 77 #[.string s, .string ⟨#[60, 61]⟩] w fun e w' => e = .returned (.bool b2) ∧ w' = w))
    (C3 : Hid (∀ w, Calls Tryz.prog 77 #[.string s, .string ⟨#[62, 61]⟩] w fun e w' => e = .returned (.bool b3) ∧ w' = w))
    (C4 : Hid (∀ w, Calls Tryz.prog 43 #[.string markS, .string ⟨#[c]⟩] w fun e w' => e = .returned (.bool b4) ∧ w' = w))
    (V : Value) (HV0 : Hid (b0 = true → V = .tuple #[tok10 6 0 ⟨#[]⟩ 0 0 ⟨#[]⟩ 0 0 false false, .int .i64 5, .int .i64 0]))
    (HV1 : Hid (b0 = false → b1 = true → V = .tuple #[tok10 5 0 ⟨#[60, 62]⟩ 0 0 ⟨#[]⟩ 0 0 false false, .int .i64 2, .int .i64 0]))
    (HV2 : Hid (b0 = false → b1 = false → b2 = true → V = .tuple #[tok10 5 0 ⟨#[60, 61]⟩ 0 0 ⟨#[]⟩ 0 0 false false, .int .i64 2, .int .i64 0]))
    (HV3 : Hid (b0 = false → b1 = false → b2 = false → b3 = true → V = .tuple #[tok10 5 0 ⟨#[62, 61]⟩ 0 0 ⟨#[]⟩ 0 0 false false, .int .i64 2, .int .i64 0]))
    (HV4 : Hid (b0 = false → b1 = false → b2 = false → b3 = false → b4 = true → V = .tuple #[tok10 5 0 ⟨#[c]⟩ 0 0 ⟨#[]⟩ 0 0 false false, .int .i64 1, .int .i64 0]))
    (HV5 : Hid (b0 = false → b1 = false → b2 = false → b3 = false → b4 = false → V = .tuple #[.agg zero10, .int .i64 0, .int .i64 40])) :
    Calls Tryz.prog 49 #[.string s] w (Q V w) := by
  have r1 := (zero10_new w).1
  have HB := Lib.hid (zero10_new w).2
  have HC := Lib.hid hc
  clear hc
  go_enter Tryz.func49, Tryz.ntmps49
  go_upto_region 1 with (fail)
  go_cut [8] (fun v8 wx => v8 = .bool b0 ∧ At wx w.heap.size zero10.toList ∧ Below w.heap.size w wx)
  case first =>
    go_wp2_with fail
    refine (C0.out _).mono ?_
    rintro e w1 ⟨rfl, rfl⟩
    go_wp2_with fail
    go_meet
    exact ⟨rfl, r1, HB.out⟩
  clear r1 HB
  obtain ⟨rfl, r1, hb⟩ := hcut
  have HB := Lib.hid hb
  clear hb
  cases b0 with
  | true =>
    replace HV0 := Lib.hid (HV0.out rfl)
    obtain ⟨p0, p1, p2, p3, p4, p5, p6, p7, p8, p9⟩ := r1.ten
    have pf := r1.fz
    go_wp2_with fail
    exact ret_tok r1 rfl HB.out (Nat.le_refl _) HV0.out rfl rfl rfl rfl rfl
  | false =>
    replace HV1 := Lib.hid (HV1.out rfl)
    replace HV2 := Lib.hid (HV2.out rfl)
    replace HV3 := Lib.hid (HV3.out rfl)
    replace HV4 := Lib.hid (HV4.out rfl)
    replace HV5 := Lib.hid (HV5.out rfl)
    clear HV0 C0
    have R1 := Lib.hid r1
    clear r1
    go_wp2_with fail
    go_loopg [11] 4 (fun gf v11 wx => ∃ i : Nat, v11 = .int .i64 (i : Int) ∧ i < 4 ∧ 3 < i + gf ∧ Hid ((1 ≤ i → b1 = false) ∧ (2 ≤ i → b2 = false) ∧ (3 ≤ i → b3 = false)) ∧ Hid (At wx w.heap.size zero10.toList) ∧ Below w.heap.size w wx)
    case atStart => exact ⟨0, rfl, by omega, by omega, ⟨fun h => by omega, fun h => by omega, fun h => by omega⟩, R1.out, HB.out⟩
    case round =>
      obtain ⟨i, rfl, hi, hgf, HI, R2, hbw⟩ := hrel
      replace HB := Lib.hid hbw
      clear hbw R1
      obtain ⟨g', rfl⟩ : ∃ g', gk = g' + 1 := ⟨gk - 1, by omega⟩
      have r1 := R2.out
      match i, hi with
      | 0, _ =>
        have hx := two3_0
        cases b1 with
        | true =>
          replace HV1 := Lib.hid (HV1.out rfl)
          obtain ⟨p0, p1, p2, p3, p4, p5, p6, p7, p8, p9⟩ := r1.ten
          have pf := r1.fz
          go_wp2_with fail
          refine (C1.out _).mono ?_
          rintro e w1 ⟨rfl, rfl⟩
          go_wp2_with fail
          try rw [Exit.noGoto_ret]
          exact ret_tok r1 rfl HB.out (Nat.le_refl _) HV1.out rfl rfl rfl rfl rfl
        | false =>
          clear r1
          go_wp2_with fail
          refine (C1.out _).mono ?_
          rintro e w1 ⟨rfl, rfl⟩
          go_wp2_with fail
          go_roundg g'
          case measure => omega
          case rel => exact ⟨1, rfl, by omega, by omega, ⟨fun _ => by trivial, fun h => by omega, fun h => by omega⟩, R2, HB.out⟩
      | 1, _ =>
        have hx := two3_1
        have hb1 := HI.out.1 (Nat.le_refl 1)
        replace HV2 := Lib.hid (HV2.out hb1)
        cases b2 with
        | true =>
          replace HV2 := Lib.hid (HV2.out rfl)
          obtain ⟨p0, p1, p2, p3, p4, p5, p6, p7, p8, p9⟩ := r1.ten
          have pf := r1.fz
          go_wp2_with fail
          refine (C2.out _).mono ?_
          rintro e w1 ⟨rfl, rfl⟩
          go_wp2_with fail
          try rw [Exit.noGoto_ret]
          exact ret_tok r1 rfl HB.out (Nat.le_refl _) HV2.out rfl rfl rfl rfl rfl
        | false =>
          clear r1
          go_wp2_with fail
          refine (C2.out _).mono ?_
          rintro e w1 ⟨rfl, rfl⟩
          go_wp2_with fail
          go_roundg g'
          case measure => omega
          case rel => exact ⟨2, rfl, by omega, by omega, ⟨fun _ => hb1, fun _ => by trivial, fun h => by omega⟩, R2, HB.out⟩
      | 2, _ =>
        have hx := two3_2
        have hb1 := HI.out.1 (by omega)
        have hb2 := HI.out.2.1 (Nat.le_refl 2)
        replace HV3 := Lib.hid (HV3.out hb1 hb2)
        cases b3 with
        | true =>
          replace HV3 := Lib.hid (HV3.out rfl)
          obtain ⟨p0, p1, p2, p3, p4, p5, p6, p7, p8, p9⟩ := r1.ten
          have pf := r1.fz
          go_wp2_with fail
          refine (C3.out _).mono ?_
          rintro e w1 ⟨rfl, rfl⟩
          go_wp2_with fail
          try rw [Exit.noGoto_ret]
          exact ret_tok r1 rfl HB.out (Nat.le_refl _) HV3.out rfl rfl rfl rfl rfl
        | false =>
          clear r1
          go_wp2_with fail
          refine (C3.out _).mono ?_
          rintro e w1 ⟨rfl, rfl⟩
          go_wp2_with fail
          go_roundg g'
          case measure => omega
          case rel => exact ⟨3, rfl, by omega, by omega, ⟨fun _ => hb1, fun _ => hb2, fun _ => by trivial⟩, R2, HB.out⟩
      | 3, _ =>
        obtain ⟨hb1, hb2, hb3⟩ : b1 = false ∧ b2 = false ∧ b3 = false := ⟨HI.out.1 (by omega), HI.out.2.1 (by omega), HI.out.2.2 (by omega)⟩
        replace HV4 := Lib.hid (HV4.out hb1 hb2 hb3)
        replace HV5 := Lib.hid (HV5.out hb1 hb2 hb3)
        clear hb1 hb2 hb3 HI
        obtain ⟨p0, p1, p2, p3, p4, p5, p6, p7, p8, p9⟩ := r1.ten
        have pf := r1.fz
        go_wp2_with fail
        rw [HC.out]
        refine (C4.out _).mono ?_
        rintro e w1 ⟨rfl, rfl⟩
        cases b4 with
        | true =>
          replace HV4 := Lib.hid (HV4.out rfl)
          go_wp2_with fail
          rw [HC.out]
          exact ret_tok r1 rfl HB.out (Nat.le_refl _) HV4.out rfl rfl rfl rfl rfl
        | false =>
          replace HV5 := Lib.hid (HV5.out rfl)
          go_wp2_with fail
          exact ret_tok r1 rfl HB.out (Nat.le_refl _) HV5.out rfl rfl rfl rfl rfl

theorem lexMark_any (s : ByteArray) (c : UInt8) (l : List UInt8) (w : World) (h : s.data.toList = c :: l) :
    Calls Tryz.prog 49 #[.string s] w (Q (oneV (markOne s.data.toList)) w) := by
  have C0 := fun w => Tryz.strings_HasPrefix s ⟨#[35, 82, 69, 70, 33]⟩ w
  have C1 := fun w => Tryz.strings_HasPrefix s ⟨#[60, 62]⟩ w
  have C2 := fun w => Tryz.strings_HasPrefix s ⟨#[60, 61]⟩ w
  have C3 := fun w => Tryz.strings_HasPrefix s ⟨#[62, 61]⟩ w
  have C4 := fun w => contains_byte markS c w
  have hh : s.data.toList.headD 0 = c := by rw [h]; rfl
  have ht : s.data.toList.take 1 = [c] := by rw [h]; rfl
  have e0 : Lib.hasPrefix s.data.toList (⟨#[35, 82, 69, 70, 33]⟩ : ByteArray).data.toList = ([35, 82, 69, 70, 33] : List UInt8).isPrefixOf s.data.toList := rfl
  have e1 : Lib.hasPrefix s.data.toList (⟨#[60, 62]⟩ : ByteArray).data.toList = ([60, 62] : List UInt8).isPrefixOf s.data.toList := rfl
  have e2 : Lib.hasPrefix s.data.toList (⟨#[60, 61]⟩ : ByteArray).data.toList = ([60, 61] : List UInt8).isPrefixOf s.data.toList := rfl
  have e3 : Lib.hasPrefix s.data.toList (⟨#[62, 61]⟩ : ByteArray).data.toList = ([62, 61] : List UInt8).isPrefixOf s.data.toList := rfl
  rw [e0] at C0
  rw [e1] at C1
  rw [e2] at C2
  rw [e3] at C3
  refine lexMark_core s c _ _ _ _ _ w (by rw [size_of h]; omega) (ext1 h) (Lib.hid C0) (Lib.hid C1) (Lib.hid C2) (Lib.hid C3) (Lib.hid C4) _ (Lib.hid fun h0 => ?_) (Lib.hid fun h0 h1 => ?_) (Lib.hid fun h0 h1 h2 => ?_) (Lib.hid fun h0 h1 h2 h3 => ?_) (Lib.hid fun h0 h1 h2 h3 h4 => ?_) (Lib.hid fun h0 h1 h2 h3 h4 => ?_)
  all_goals unfold markOne
  · rw [if_pos h0]; rfl
  · rw [if_neg (by rw [h0]; decide), if_pos h1]; rfl
  · rw [if_neg (by rw [h0]; decide), if_neg (by rw [h1]; decide), if_pos h2]; rfl
  · rw [if_neg (by rw [h0]; decide), if_neg (by rw [h1]; decide), if_neg (by rw [h2]; decide), if_pos h3]; rfl
  · rw [if_neg (by rw [h0]; decide), if_neg (by rw [h1]; decide), if_neg (by rw [h2]; decide), if_neg (by rw [h3]; decide), hh, if_pos (show isM c = true from h4), ht]; rfl
  · rw [if_neg (by rw [h0]; decide), if_neg (by rw [h1]; decide), if_neg (by rw [h2]; decide), if_neg (by rw [h3]; decide), hh, if_neg (by show ¬ isM c = true; rw [show isM c = false from h4]; decide)]; rfl
end Go.Proofs.YtfkiomjplpbmiaaGreatDoor

/- Blanks part, and change nothing else: the plain law of LexBlanks. No program in sight. -/
namespace Go.Proofs.YtfkiomjplpbmiaaGreatDoor
open Go.RowKit Go.Lib

theorem runN_st {p : UInt8 → Bool} (hp : p 32 = false) (x : List UInt8) : ∀ l : List UInt8, runN p (l ++ 32 :: x) = runN p l
  | [] => by unfold runN; simp [hp]
  | b :: l => by
    have ih := runN_st hp x l
    unfold runN at *
    rw [List.cons_append, List.takeWhile_cons, List.takeWhile_cons]
    split
    · simp only [List.length_cons, ih]
    · rfl
theorem drop_st {l : List UInt8} {k : Nat} (x : List UInt8) (h : k ≤ l.length) : (l ++ x).drop k = l.drop k ++ x := List.drop_append_of_le_length h
theorem take_st {l : List UInt8} {k : Nat} (x : List UInt8) (h : k ≤ l.length) : (l ++ x).take k = l.take k := List.take_append_of_le_length h
theorem head_st {l x : List UInt8} {c : UInt8} (hc : c ≠ 32) : ((l ++ 32 :: x).head? = some c) = (l.head? = some c) := by
  cases l with
  | nil => simp; exact fun e => hc e.symm
  | cons b l => rfl
theorem headb_st {l x : List UInt8} {c : UInt8} (hc : c ≠ 32) : ((l ++ 32 :: x).head? == some c) = (l.head? == some c) := by
  rw [Bool.eq_iff_iff]; simp only [beq_iff_eq]; rw [head_st hc]
theorem runN_drop_st {p : UInt8 → Bool} (hp : p 32 = false) {l x : List UInt8} {k : Nat} (h : k ≤ l.length) : runN p ((l ++ 32 :: x).drop k) = runN p (l.drop k) := by
  rw [drop_st _ h, runN_st hp]
theorem dig32 : Pl.digit 32 = false := by decide
theorem isW32 : isW 32 = false := by decide
theorem isC32 : isC 32 = false := by decide

theorem numP_st (l x : List UInt8) : numP (l ++ 32 :: x) = numP l := by
  unfold numP
  rw [runN_st dig32, drop_st _ (runN_le _ _)]
  simp only [head_st (c := 46) (by decide)]
  by_cases h : (l.drop (runN Pl.digit l)).head? = some 46
  · have h1 := head_lt (by rw [h]; rfl : ((l.drop (runN Pl.digit l)).head? == some 46) = true)
    rw [runN_drop_st dig32 (by omega)]
  · rw [if_neg (fun e => h e.1), if_neg (fun e => h e.1)]
theorem expN_st (l x : List UInt8) : expN (l ++ 32 :: x) = expN l := by
  unfold expN
  simp only [head_st (c := 101) (by decide), head_st (c := 69) (by decide)]
  by_cases h : l.head? = some 101 ∨ l.head? = some 69
  · have h1 : 1 ≤ l.length := by cases l <;> simp at h ⊢
    have h2 : signN (l ++ 32 :: x) = signN l := by
      unfold signN
      rw [drop_st _ h1]
      simp only [head_st (c := 43) (by decide), head_st (c := 45) (by decide)]
    have h3 : signN l ≤ l.length := by
      unfold signN
      split
      · rename_i hx
        rcases hx with hx | hx
        · have := head_lt (by rw [hx]; rfl : ((l.drop 1).head? == some 43) = true); omega
        · have := head_lt (by rw [hx]; rfl : ((l.drop 1).head? == some 45) = true); omega
      · exact h1
    rw [h2, runN_drop_st dig32 h3]
  · rw [if_neg (fun e => h e.1), if_neg (fun e => h e.1)]
theorem numN_st (l x : List UInt8) : numN (l ++ 32 :: x) = numN l := by
  unfold numN
  rw [numP_st, drop_st _ (numP_le l), expN_st]

theorem quotedM_st (m : UInt8) (hm : m ≠ 32) (x : List UInt8) : ∀ (k : Nat) (l acc t r : List UInt8), l.length ≤ k → quotedM m acc l = some (t, r) → quotedM m acc (l ++ 32 :: x) = some (t, r ++ 32 :: x)
  | _, [], acc, t, r, _, h => by rw [quotedM] at h; cases h
  | 0, c :: l, acc, t, r, hk, h => by simp at hk
  | k + 1, c :: l, acc, t, r, hk, h => by
    have hk2 : l.length ≤ k := by simpa using hk
    rw [quotedM] at h
    rw [List.cons_append, quotedM]
    split at h
    · rename_i hc
      rw [if_pos hc]
      simp only [head_st (c := m) hm]
      split at h
      · rename_i hh
        rw [if_pos hh]
        have ht : l.tail.length ≤ k := by rw [List.length_tail]; omega
        have e : (l ++ 32 :: x).tail = l.tail ++ 32 :: x := by cases l with
          | nil => cases hh
          | cons b l => rfl
        rw [e]
        exact quotedM_st m hm x k l.tail _ t r ht h
      · rename_i hh
        rw [if_neg hh]
        injection h with h; injection h with h1 h2; subst h1 h2; rfl
    · rename_i hc
      rw [if_neg hc]
      exact quotedM_st m hm x k l _ t r hk2 h

theorem prefix_st {x : List UInt8} : ∀ (p l : List UInt8), p.contains 32 = false → p.isPrefixOf (l ++ 32 :: x) = p.isPrefixOf l
  | [], l, _ => by simp
  | a :: p, [], h => by
    simp only [List.contains_cons, Bool.or_eq_false_iff, beq_eq_false_iff_ne] at h
    have : (a == 32) = false := by simp only [beq_eq_false_iff_ne]; exact fun e => h.1 e.symm
    simp [List.isPrefixOf, this]
  | a :: p, b :: l, h => by
    simp only [List.contains_cons, Bool.or_eq_false_iff] at h
    rw [List.cons_append, List.isPrefixOf, List.isPrefixOf, prefix_st p l h.2]

theorem afterN_st {l x : List UInt8} {n : Nat} (h : n < l.length) : afterN (l ++ 32 :: x) n = afterN l n := by
  unfold afterN; rw [runN_drop_st isC32 (by omega)]
theorem refOne_st (P : FP) {l x : List UInt8} {n : Nat} (h : n ≤ l.length) : refOne P (l ++ 32 :: x) n = refOne P l n := by
  unfold refOne; rw [take_st _ h]

/-- Where there is no error, a blank behind changes nothing. -/
theorem text_st (X : FX) (c : UInt8) (l x : List UInt8) (h : (textOne X (c :: l)).2.2 = 0) : textOne X (c :: l ++ 32 :: x) = textOne X (c :: l) := by
  unfold textOne at *
  have h1 : (c :: l ++ 32 :: x).drop 1 = (c :: l).drop 1 ++ 32 :: x := rfl
  rw [h1]
  cases hx : quotedM 34 [] ((c :: l).drop 1) with
  | none => rw [hx] at h; cases h
  | some p =>
    obtain ⟨t, r⟩ := p
    rw [quotedM_st 34 (by decide) x _ _ _ t r (Nat.le_refl _) hx]
    dsimp only
    have e : (c :: l ++ 32 :: x).length - (r ++ 32 :: x).length = (c :: l).length - r.length := by rw [List.length_append, List.length_append]; omega
    rw [e]
theorem sheet_st (P : FP) (c : UInt8) (l x : List UInt8) (h : (sheetOne P (c :: l)).2.2 = 0) : sheetOne P (c :: l ++ 32 :: x) = sheetOne P (c :: l) := by
  unfold sheetOne at *
  have h1 : (c :: l ++ 32 :: x).drop 1 = (c :: l).drop 1 ++ 32 :: x := rfl
  rw [h1]
  cases hx : quotedM 39 [] ((c :: l).drop 1) with
  | none => rw [hx] at h; cases h
  | some p =>
    obtain ⟨t, r⟩ := p
    rw [hx] at h
    dsimp only at h
    rw [quotedM_st 39 (by decide) x _ _ _ t r (Nat.le_refl _) hx]
    have hl := quotedM_lt hx
    rw [List.drop_one, List.tail_cons] at hl
    dsimp only
    rw [headb_st (by decide)]
    by_cases hr : (r.head? == some 33) = true
    · rw [if_pos hr, if_pos hr]
      have h1 : 1 ≤ r.length := by cases r <;> simp at hr ⊢
      have e : (c :: l ++ 32 :: x).length - (r ++ 32 :: x).length = (c :: l).length - r.length := by rw [List.length_append, List.length_append]; omega
      have h2 : (c :: l).length - r.length < (c :: l).length := by simp only [List.length_cons]; omega
      rw [e, afterN_st h2, refOne_st _ (afterN_le _ _ h2)]
    · rw [if_neg hr] at h; cases h
theorem word_st (P : FP) (c : UInt8) (l x : List UInt8) : wordOne P (c :: l ++ 32 :: x) = wordOne P (c :: l) := by
  have hn : wordN (c :: l ++ 32 :: x) = wordN (c :: l) := runN_st isW32 x _
  have hl : wordN (c :: l) ≤ (c :: l).length := runN_le _ _
  unfold wordOne
  rw [hn, drop_st _ hl, take_st _ hl, headb_st (by decide), headb_st (by decide)]
  by_cases hr : ((List.drop (wordN (c :: l)) (c :: l)).head? == some 33) = true
  · rw [afterN_st (head_lt hr), refOne_st _ (afterN_le _ _ (head_lt hr)), refOne_st _ hl]
  · rw [if_neg (c := _ = true ∧ _ = false) (fun e => hr e.1), refOne_st _ hl]
    symm
    rw [if_neg (c := _ = true ∧ _ = false) (fun e => hr e.1)]
theorem oneM_st (P : FP) (D : FD) (X : FX) (c : UInt8) (l x : List UInt8) (h : (oneM P D X (c :: l)).2.2 = 0) : oneM P D X (c :: l ++ 32 :: x) = oneM P D X (c :: l) := by
  have hh : (c :: l ++ 32 :: x).headD 0 = c := rfl
  have hh2 : (c :: l).headD 0 = c := rfl
  unfold oneM at *
  rw [hh]
  rw [hh2] at h ⊢
  by_cases hd : Pl.digit c = true
  · rw [if_pos hd, if_pos hd]
    unfold numOne
    rw [numN_st, take_st _ (numN_le _)]
  · rw [if_neg hd] at h ⊢
    rw [if_neg hd]
    by_cases hq : c = 34
    · rw [if_pos hq] at h ⊢
      rw [if_pos hq, text_st X c l x h]
    · rw [if_neg hq] at h ⊢
      rw [if_neg hq]
      by_cases hs : c = 39
      · rw [if_pos hs] at h ⊢
        rw [if_pos hs, sheet_st P c l x h]
      · rw [if_neg hs] at h ⊢
        rw [if_neg hs]
        by_cases hw : c = 36 ∨ isL c = true
        · rw [if_pos hw, if_pos hw, word_st P c l x]
        · rw [if_neg hw, if_neg hw]
          unfold markOne
          rw [prefix_st _ _ (by decide), prefix_st _ _ (by decide), prefix_st _ _ (by decide), prefix_st _ _ (by decide), hh, hh2, take_st _ (by simp)]

/-! ### Fuel, and places -/
def Reach (one : List UInt8 → One) : Prop := ∀ c l, Fits (c :: l) (one (c :: l))
def Steady (one : List UInt8 → One) : Prop := ∀ c l x, (one (c :: l)).2.2 = 0 → one (c :: l ++ 32 :: x) = one (c :: l)

theorem lexM_fuel {one : List UInt8 → One} (hr : Reach one) : ∀ (f g at_ : Nat) (l : List UInt8), l.length ≤ f → l.length ≤ g → lexM one f at_ l = lexM one g at_ l
  | 0, 0, _, _, _, _ => rfl
  | 0, g + 1, _, [], _, _ => rfl
  | 0, g + 1, _, c :: l, h, _ => by simp at h
  | f + 1, 0, _, [], _, _ => rfl
  | f + 1, 0, _, c :: l, _, h => by simp at h
  | f + 1, g + 1, _, [], _, _ => rfl
  | f + 1, g + 1, at_, c :: l, hf, hg => by
    have hf' : l.length ≤ f := by simpa using hf
    have hg' : l.length ≤ g := by simpa using hg
    rw [lexM, lexM]
    split
    · exact lexM_fuel hr f g _ l hf' hg'
    · split
      · rfl
      · rename_i he
        have h1 := hr c l (by simpa using he)
        have hd : ((c :: l).drop (one (c :: l)).2.1).length ≤ l.length := by rw [List.length_drop]; simp only [List.length_cons]; omega
        rw [lexM_fuel hr f g _ _ (by omega) (by omega)]

def shiftTs (k : Nat) (ts : List (Nat × Tok)) : List (Nat × Tok) := ts.map fun p => (p.1 + k, p.2)
theorem lexM_shift (one : List UInt8 → One) (k : Nat) : ∀ (f at_ : Nat) (l : List UInt8) (ts : List (Nat × Tok)), lexM one f at_ l = .ok ts → lexM one f (at_ + k) l = .ok (shiftTs k ts)
  | 0, _, _, ts, h => by rw [lexM] at *; injection h with h; subst h; rfl
  | f + 1, _, [], ts, h => by rw [lexM] at *; injection h with h; subst h; rfl
  | f + 1, at_, c :: l, ts, h => by
    rw [lexM] at *
    split at h
    · rename_i hc
      rw [if_pos hc, Nat.add_right_comm]
      exact lexM_shift one k f _ l ts h
    · rename_i hc
      rw [if_neg hc]
      split at h
      · cases h
      · rename_i he
        rw [if_neg he]
        split at h
        · cases h
        · rename_i us hu
          injection h with h; subst h
          rw [Nat.add_right_comm, lexM_shift one k f _ _ us hu]
          rfl

/-- A text, a blank, another text: the tokens of both. -/
theorem lexM_part {one : List UInt8 → One} (hr : Reach one) (hs : Steady one) (x : List UInt8) (us : List (Nat × Tok)) : ∀ (f at_ : Nat) (l : List UInt8) (ts : List (Nat × Tok)), l.length ≤ f → lexM one f at_ l = .ok ts →
    ∀ g, l.length + 1 + x.length ≤ g → lexM one g (at_ + l.length + 1) x = .ok us → lexM one g at_ (l ++ 32 :: x) = .ok (ts ++ us)
  | f, at_, [], ts, _, h, g, hg, hx => by
    have h0 : ts = [] := by
      cases f with
      | zero => rw [lexM] at h; injection h with h; exact h.symm
      | succ f => rw [lexM] at h; injection h with h; exact h.symm
    subst h0
    obtain ⟨g, rfl⟩ : ∃ g', g = g' + 1 := ⟨g - 1, by simp at hg; omega⟩
    have hg2 : x.length ≤ g := by simp at hg; omega
    rw [List.nil_append, lexM, if_pos rfl, lexM_fuel hr g (g + 1) _ x hg2 (by omega)]
    simpa using hx
  | 0, _, c :: l, ts, hf, _, _, _, _ => by simp at hf
  | f + 1, at_, c :: l, ts, hf, h, g, hg, hx => by
    have hf' : l.length ≤ f := by simpa using hf
    obtain ⟨g, rfl⟩ : ∃ g', g = g' + 1 := ⟨g - 1, by simp at hg; omega⟩
    have hg2 : l.length + 1 + x.length ≤ g := by simp at hg; omega
    have hx2 : lexM one g (at_ + (c :: l).length + 1) x = .ok us := by rw [lexM_fuel hr g (g + 1) _ x (by omega) (by omega)]; exact hx
    rw [lexM] at h
    rw [List.cons_append, lexM]
    split at h
    · rename_i hc
      rw [if_pos hc]
      refine lexM_part hr hs x us f (at_ + 1) l ts hf' h g hg2 ?_
      rw [← hx2, List.length_cons]; congr 1; omega
    · rename_i hc
      rw [if_neg hc]
      split at h
      · cases h
      · rename_i he
        have he' : (one (c :: l)).2.2 = 0 := by simpa using he
        have e : one (c :: (l ++ 32 :: x)) = one (c :: l) := hs c l x he'
        rw [e, if_neg he]
        split at h
        · cases h
        · rename_i vs hv
          injection h with h; subst h
          have h1 := hr c l he'
          have hd : ((c :: l).drop (one (c :: l)).2.1).length = l.length + 1 - (one (c :: l)).2.1 := by rw [List.length_drop]; rfl
          have h2 := h1.2
          rw [List.length_cons] at h2
          have := lexM_part hr hs x us f (at_ + (one (c :: l)).2.1) ((c :: l).drop (one (c :: l)).2.1) vs (by omega) hv g (by omega) (by
            rw [← hx2, hd, List.length_cons]; congr 1; omega)
          have e2 : (c :: (l ++ 32 :: x)).drop (one (c :: l)).2.1 = (c :: l).drop (one (c :: l)).2.1 ++ 32 :: x := drop_st (l := c :: l) _ h1.2
          rw [e2, this]; rfl

theorem lexM_blanks {one : List UInt8 → One} (hr : Reach one) (x : List UInt8) : ∀ (k f at_ : Nat), k + x.length ≤ f → lexM one f at_ (List.replicate k 32 ++ x) = lexM one f (at_ + k) x
  | 0, f, at_, _ => by simp
  | k + 1, f, at_, h => by
    obtain ⟨f, rfl⟩ : ∃ f', f = f' + 1 := ⟨f - 1, by omega⟩
    rw [List.replicate_succ, List.cons_append, lexM, if_pos rfl, lexM_blanks hr x k f _ (by omega), lexM_fuel hr f (f + 1) _ x (by omega) (by omega)]
    congr 1; omega

/-- The tokens of a whole text. -/
def lexA (one : List UInt8 → One) (l : List UInt8) : Except (Nat × Int) (List (Nat × Tok)) := lexM one l.length 0 l

/-- The plain law of LexBlanks. -/
theorem blanks_plain {one : List UInt8 → One} (hr : Reach one) (hs : Steady one) (a b : List UInt8) (n : Nat) (hn : 1 ≤ n) (ts us : List (Nat × Tok)) (ha : lexA one a = .ok ts) (hb : lexA one b = .ok us) :
    lexA one (a ++ List.replicate n 32 ++ b) = .ok (ts ++ shiftTs (a.length + n) us) := by
  obtain ⟨k, rfl⟩ : ∃ k, n = k + 1 := ⟨n - 1, by omega⟩
  unfold lexA at *
  have hb2 := lexM_shift one (a.length + (k + 1)) _ 0 b us hb
  rw [List.replicate_succ, List.append_assoc, List.cons_append]
  generalize hg : (a ++ 32 :: (List.replicate k 32 ++ b)).length = g
  have hg2 : a.length + 1 + (List.replicate k (32 : UInt8) ++ b).length = g := by rw [← hg]; simp only [List.length_append, List.length_cons, List.length_replicate]; omega
  have hl : (List.replicate k (32 : UInt8) ++ b).length = k + b.length := by rw [List.length_append, List.length_replicate]
  refine lexM_part hr hs _ _ _ 0 a ts (Nat.le_refl _) ha g (by omega) ?_
  rw [lexM_blanks hr b k g _ (by omega), ← hb2, lexM_fuel hr g b.length _ b (by omega) (Nat.le_refl _)]
  congr 1; omega
end Go.Proofs.YtfkiomjplpbmiaaGreatDoor

/- What lex.Lex's loop stands on: plain steps; what a text's tokens are in memory. -/
namespace Go.Proofs.YtfkiomjplpbmiaaGreatDoor
open Go.RowKit Go.Lib

/-- Which way a token is read. -/
theorem one_num {P : FP} {D : FD} {X : FX} {c : UInt8} {l : List UInt8} (h : Pl.digit c = true) : oneM P D X (c :: l) = numOne D (c :: l) := by unfold oneM; rw [List.headD_cons, if_pos h]
theorem one_text {P : FP} {D : FD} {X : FX} {c : UInt8} {l : List UInt8} (h : Pl.digit c = false) (h1 : c = 34) : oneM P D X (c :: l) = textOne X (c :: l) := by unfold oneM; rw [List.headD_cons, if_neg (by rw [h]; decide), if_pos h1]
theorem one_sheet {P : FP} {D : FD} {X : FX} {c : UInt8} {l : List UInt8} (h : Pl.digit c = false) (h1 : c ≠ 34) (h2 : c = 39) : oneM P D X (c :: l) = sheetOne P (c :: l) := by unfold oneM; rw [List.headD_cons, if_neg (by rw [h]; decide), if_neg h1, if_pos h2]
theorem one_word {P : FP} {D : FD} {X : FX} {c : UInt8} {l : List UInt8} (h : Pl.digit c = false) (h1 : c ≠ 34) (h2 : c ≠ 39) (h3 : c = 36 ∨ isL c = true) : oneM P D X (c :: l) = wordOne P (c :: l) := by unfold oneM; rw [List.headD_cons, if_neg (by rw [h]; decide), if_neg h1, if_neg h2, if_pos h3]
theorem one_mark {P : FP} {D : FD} {X : FX} {c : UInt8} {l : List UInt8} (h : Pl.digit c = false) (h1 : c ≠ 34) (h2 : c ≠ 39) (h3 : c ≠ 36) (h4 : isL c = false) : oneM P D X (c :: l) = markOne (c :: l) := by unfold oneM; rw [List.headD_cons, if_neg (by rw [h]; decide), if_neg h1, if_neg h2, if_neg (by rintro (h | h); exact h3 h; rw [h4] at h; cases h)]
/-- What was gathered, and what follows. -/
def contL (acc : List (Nat × Tok)) : Except (Nat × Int) (List (Nat × Tok)) → Except (Nat × Int) (List (Nat × Tok))
  | .error x => .error x
  | .ok ts => .ok (acc ++ ts)

theorem step_blank {one : List UInt8 → One} (acc : List (Nat × Tok)) (l t : List UInt8) (k : Nat) (h : l.drop k = 32 :: t) :
    contL acc (lexM one (l.length - k) k (l.drop k)) = contL acc (lexM one (l.length - (k + 1)) (k + 1) (l.drop (k + 1))) := by
  have hd : l.drop (k + 1) = t := by rw [← List.drop_drop, h]; rfl
  have hl : l.length - k = t.length + 1 := by have := congrArg List.length h; rw [List.length_drop, List.length_cons] at this; exact this
  rw [hd, h, hl, lexM, if_pos rfl]
  have : l.length - (k + 1) = t.length := by omega
  rw [this]
theorem step_err {one : List UInt8 → One} (acc : List (Nat × Tok)) (l t : List UInt8) (c : UInt8) (k : Nat) (h : l.drop k = c :: t) (hc : c ≠ 32) (he : (one (c :: t)).2.2 ≠ 0) :
    contL acc (lexM one (l.length - k) k (l.drop k)) = .error (k, (one (c :: t)).2.2) := by
  have hl : l.length - k = t.length + 1 := by have := congrArg List.length h; rw [List.length_drop, List.length_cons] at this; exact this
  rw [h, hl, lexM, if_neg hc, if_pos he]; rfl
theorem step_ok {one : List UInt8 → One} (hr : Reach one) (acc : List (Nat × Tok)) (l t : List UInt8) (c : UInt8) (k : Nat) (h : l.drop k = c :: t) (hc : c ≠ 32) (he : (one (c :: t)).2.2 = 0) :
    contL acc (lexM one (l.length - k) k (l.drop k)) = contL (acc ++ [(k, (one (c :: t)).1)]) (lexM one (l.length - (k + (one (c :: t)).2.1)) (k + (one (c :: t)).2.1) (l.drop (k + (one (c :: t)).2.1))) := by
  have hl : l.length - k = t.length + 1 := by have := congrArg List.length h; rw [List.length_drop, List.length_cons] at this; exact this
  have hn := hr c t he
  have hd : l.drop (k + (one (c :: t)).2.1) = (c :: t).drop (one (c :: t)).2.1 := by rw [← List.drop_drop, h]
  have hdl : ((c :: t).drop (one (c :: t)).2.1).length = t.length + 1 - (one (c :: t)).2.1 := by rw [List.length_drop, List.length_cons]
  have hf : l.length - (k + (one (c :: t)).2.1) = t.length + 1 - (one (c :: t)).2.1 := by omega
  rw [hd, hf, h, hl, lexM, if_neg hc, if_neg (by rw [he]; decide), lexM_fuel hr t.length (t.length + 1 - (one (c :: t)).2.1) _ _ (by rw [hdl]; omega) (by omega)]
  cases lexM one (t.length + 1 - (one (c :: t)).2.1) (k + (one (c :: t)).2.1) ((c :: t).drop (one (c :: t)).2.1) with
  | error x => rfl
  | ok ts => unfold contL; simp

/-- The tokens' cells. -/
def cellsT (ts : List (Nat × Tok)) : List Value := ts.flatMap fun p => p.2.cells (p.1 : Int)
theorem cellsT_snoc (ts : List (Nat × Tok)) (k : Nat) (t : Tok) : cellsT (ts ++ [(k, t)]) = cellsT ts ++ t.cells (k : Int) := by
  unfold cellsT; simp
theorem tok_cells_len (t : Tok) (a : Int) : (t.cells a).length = 10 := rfl
theorem cellsT_len (ts : List (Nat × Tok)) : (cellsT ts).length = ts.length * 10 := by
  induction ts with
  | nil => rfl
  | cons p ts ih =>
    unfold cellsT at *
    rw [List.flatMap_cons, List.length_append, ih, List.length_cons, tok_cells_len]; omega

theorem tokInfo : (Tryz.prog.info? 34).map (fun i => (i.zero, i.size, i.bytes)) = some (some (.agg zero10), 10, 88) := by kernel_rfl

theorem owns_below {w w' : World} {base e size n : Nat} {v : Value} {xs : List Value} (h : w.ownsRow base e size v n xs) (hb : Below w.heap.size w w') : w'.ownsRow base e size v n xs := by
  refine ⟨h.1, ?_⟩
  rcases h.2 with hn | ⟨g, cap, cur, rfl, hbb, hgg, rest⟩
  · exact .inl hn
  · refine .inr ⟨g, cap, cur, rfl, hbb, ?_, rest⟩
    rw [hb.block g (Array.getElem?_eq_some_iff.1 hgg).1]
    exact hgg
/-- What grows at a row of the call's own is below what was there before. -/
theorem below_grown {w W W' : World} {base e size n : Nat} {v : Value} {xs : List Value} (hb : Below w.heap.size w W) (h : W.ownsRow base e size v n xs) (hbase : w.heap.size ≤ base) (hg : W.grownBy W' v.ownBlock) : Below w.heap.size w W' := by
  refine hb.trans ⟨hg.os, hg.tape, hg.output, hg.size, fun k hk => hg.block k (Nat.lt_of_lt_of_le hk hb.size) ?_⟩
  intro e
  have := (h.lt k e.symm).1
  omega
end Go.Proofs.YtfkiomjplpbmiaaGreatDoor

