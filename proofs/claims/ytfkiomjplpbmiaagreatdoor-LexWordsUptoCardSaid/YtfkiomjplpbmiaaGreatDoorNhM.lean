/- The document's numbers: Tell. -/
import Derived.Test.YtfkiomjplpbmiaaGreatDoorM8
import Derived.StillTailTactics
namespace Go.Proofs.YtfkiomjplpbmiaaGreatDoor
open Go.RowKit Go.Lib

/-- A number's variable, and the variable of what is handed back. -/
structure TellS (B T : Nat) (w0 w : World) (neg : Bool) (sl : Value) (ds : List Nat) : Prop where
  t : At w T [.bool neg, sl]
  r : At w B [.int .i64 0, .int .i64 0]
  l : SlI w sl ds
  far : ∀ k, sl.ownBlock = some k → k ≠ T
  lt : B < T
  low : w0.heap.size ≤ B
  bel : Below w0.heap.size w0 w
theorem TellS.below {B T : Nat} {w0 w w' : World} {neg : Bool} {sl : Value} {ds : List Nat} (h : TellS B T w0 w neg sl ds) (hb : Below w.heap.size w w') : TellS B T w0 w' neg sl ds :=
  ⟨h.t.below hb, h.r.below hb, h.l.below hb, h.far, h.lt, h.low, bt h.bel hb⟩
/-- The number's variable is given another number. -/
theorem TellS.put {B T : Nat} {w0 w : World} {neg : Bool} {sl : Value} {ds : List Nat} (h : TellS B T w0 w neg sl ds) {sl' : Value} {ds' : List Nat} (hl : SlI w sl' ds') (hf : ∀ k, sl'.ownBlock = some k → k ≠ T) :
    TellS B T w0 (set2 w T (.bool neg) sl') neg sl' ds' :=
  ⟨h.t.set2 _ _, (h.r.other _ _ (by show B ≠ T; have := h.lt; omega)).other _ _ (by show B ≠ T; have := h.lt; omega), slI_set (slI_set hl T 0 _ hf) T 1 _ hf, hf, h.lt, h.low, below_set2 h.bel (by have := h.low; have := h.lt; omega) _ _⟩

theorem ret_dec {f : Func} {act : Act} {w W : World} {a b B : Nat} {V : Value} {x0 x1 v0 v1 vb : Value} (r : At W B [x0, x1]) (HB : Below w.heap.size w W) (hB : w.heap.size ≤ B)
    (hV : V = .tuple #[.agg #[v0, v1], vb]) (hf : f.results = #[.cell a 30, .tmp b]) (hd : act.defers = [])
    (ha : act.tmps.getD a undef = .pointer (some ⟨B, 0, none⟩)) (hb : act.tmps.getD b undef = vb) :
    bodyPost Tryz.prog f (Q V w) .ret act (set2 W B v0 v1) := by
  have r2 := r.set2 v0 v1
  have hb2 := below_set2 HB hB v0 v1
  have t0 := r2.c 0 _ rfl
  have t1 := r2.c 1 _ rfl
  have hag := decAgg (set2 W B v0 v1)
  have hsz := decSize (set2 W B v0 v1)
  generalize set2 W B v0 v1 = W' at *
  subst hV
  rw [Array.getD_eq_getD_getElem?] at ha hb
  exact bodyPost_ret (v := .tuple #[.agg #[v0, v1], vb]) (by simp [results, hf, go_sem, ha, hb, t0, t1]) hd ⟨rfl, hb2⟩

theorem reg_tail {P : Program} {id : Nat} {Q : Exit → Act → World → Prop} {a : Act} {w : World} {l : List Oper} (n : Nat) (hm : P.follows .mixedOrders = true) (hB : Region.lexTailB .any l.toArray n = true)
    (h : wpStill P l.toArray w.drew (fun a' => wpList P l.toArray Q (l.drop n) a' w.drew) (l.take n) a) : (Code.region id l.toArray true).wp P Q a w := wp_region_still_tail n hm hB h

set_option maxRecDepth 100000 in
set_option maxHeartbeats 16000000 in
theorem r9tell (w : World) (neg : Bool) (sl : Value) (ds : List Nat) (e : Int) (h : SlI w sl ds) (ht : ds = [] ∨ Trimmed ds) (hD : DigL ds) (hz : ds.length ≤ 4000) (he1 : -100000 ≤ e) (he2 : e ≤ 100000) (V : Value)
    (hV : V = .tuple #[.agg #[.int .i64 (tellR neg ds e).2.1, .int .i64 (tellR neg ds e).2.2], .int .i64 (tellR neg ds e).1]) :
    Calls Tryz.prog 147 #[.agg #[.bool neg, sl, .int .i64 e]] w (Q V w) := by
  have HV := Lib.hid hV
  clear hV
  have a1 := (At.new w #[.bool neg, sl, .int .i64 e] 190).alloc (.cells #[.int .i64 0, .int .i64 0] 30)
  have a2 := At.new (w.alloc (.cells #[.bool neg, sl, .int .i64 e] 190)) #[.int .i64 0, .int .i64 0] 30
  have hb := ((Below.refl w.heap.size w).alloc (Nat.le_refl _) (.cells #[.bool neg, sl, .int .i64 e] 190)).alloc (by simp) (.cells #[.int .i64 0, .int .i64 0] 30)
  rw [show (w.alloc (.cells #[.bool neg, sl, .int .i64 e] 190)).heap.size = w.heap.size + 1 by simp] at a2
  have A1 := Lib.hid a1
  have A2 := Lib.hid a2
  have HB := Lib.hid hb
  have HL := Lib.hid (h.below hb)
  have HT := Lib.hid ht
  have HD := Lib.hid hD
  clear a1 a2 hb hD ht
  obtain ⟨ao, cap, rfl, h1, h2, h3⟩ := h
  have F : Hid (∀ k, (Value.slice ao ds.length cap).ownBlock = some k → ds ≠ [] → k < w.heap.size) := fun k hk hne => by
    obtain ⟨g, o, rfl, hl, _⟩ := h3 hne
    simp [Value.ownBlock] at hk; omega
  clear h3
  go_enter Tryz.func147, Tryz.ntmps147
  go_upto_region 0 with (fail)
  go_cut [1, 2, 3] (fun v1 v2 v3 wx => v1 = .pointer (some ⟨w.heap.size, 0, none⟩) ∧ v2 = .pointer (some ⟨w.heap.size + 1, 0, none⟩) ∧ v3 = .int .i64 0 ∧ At wx w.heap.size [.bool neg, .slice ao ds.length cap, .int .i64 e] ∧ At wx (w.heap.size + 1) [.int .i64 0, .int .i64 0] ∧ SlI wx (.slice ao ds.length cap) ds ∧ Below w.heap.size w wx)
  case first =>
    go_wp2_with fail
    go_meet
    exact ⟨rfl, rfl, rfl, A1.out, A2.out, HL.out, HB.out⟩
  obtain ⟨rfl, rfl, rfl, a1, a2, hl, hb⟩ := hcut
  clear A1 A2 HB HL
  have p0 := a1.c 0 _ rfl
  have p1 := a1.c 1 _ rfl
  have p2 := a1.c 2 _ rfl
  have A1 := Lib.hid a1
  have A2 := Lib.hid a2
  have HB := Lib.hid hb
  have HL := Lib.hid hl
  clear a1 a2 hb hl
  go_upto_region 1 with (fail)
  go_cut [4, 5] (fun v4 v5 wx => ∃ T, v4 = .pointer (some ⟨T, 0, none⟩) ∧ v5 = .int .i64 e ∧ w.heap.size + 1 < T ∧ (ds ≠ [] → ∀ k, (Value.slice ao ds.length cap).ownBlock = some k → k ≠ T) ∧ At wx T [.bool neg, .slice ao ds.length cap] ∧ At wx (w.heap.size + 1) [.int .i64 0, .int .i64 0] ∧ SlI wx (.slice ao ds.length cap) ds ∧ Below w.heap.size w wx)
  case first =>
    have KS : Hid (∀ w', Below wc.heap.size wc w' → (w'.cell? ⟨w.heap.size, 0, none⟩ = some (.bool neg) ∧ w'.cell? ⟨w.heap.size, 1, none⟩ = some (.slice ao ds.length cap) ∧ w'.cell? ⟨w.heap.size, 2, none⟩ = some (.int .i64 e) ∧ Below wc.heap.size wc w')) := fun w' hb =>
      ⟨(A1.out.below hb).c 0 _ rfl, (A1.out.below hb).c 1 _ rfl, (A1.out.below hb).c 2 _ rfl, hb⟩
    have hlt : w.heap.size + 1 < wc.heap.size := A2.out.lt
    go_region_held3 (fun w' => w'.cell? ⟨w.heap.size, 0, none⟩ = some (.bool neg) ∧ w'.cell? ⟨w.heap.size, 1, none⟩ = some (.slice ao ds.length cap) ∧ w'.cell? ⟨w.heap.size, 2, none⟩ = some (.int .i64 e) ∧ Below wc.heap.size wc w')
      (first
        | exact KS.out _ (Below.refl _ _).drew
        | exact KS.out _ ((Below.refl _ _).alloc (Nat.le_refl _) _).drew)
      (fail)
    have hbd : Below wc.heap.size wc (wc.alloc (.cells #[.bool neg, .slice ao ds.length cap] 188)).drew := ((Below.refl _ _).alloc (Nat.le_refl _) _).drew
    have t1 := (At.new wc #[.bool neg, .slice ao ds.length cap] 188).below (below_drewN (Below.refl _ _) 1)
    go_wp2
    go_meet
    exact ⟨_, rfl, rfl, hlt, fun hne k hk => by have := F.out k hk hne; omega, t1, A2.out.below hbd, HL.out.below hbd, bt HB.out hbd⟩
  clear A1 A2 HB HL p0 p1 p2
  obtain ⟨T, rfl, rfl, hT, hfar, t1, r1, hl, hb⟩ := hcut
  by_cases h0 : ds = []
  · have hV0 : V = .tuple #[.agg #[.int .i64 0, .int .i64 0], .int .i64 0] := by rw [HV.out, h0]; rfl
    subst h0
    have HV0 := Lib.hid hV0
    have q1 := t1.c 1 _ rfl
    have s0 := r1.c 0 _ rfl
    have s1 := r1.c 1 _ rfl
    have sf := r1.fz
    clear HV hV0
    go_wp2_with fail
    exact ret_dec r1 hb (by omega) HV0.out rfl rfl rfl rfl
  · have htr : Trimmed ds := (HT.out).resolve_left h0
    have TS := Lib.hid (⟨t1, r1, hl, hfar h0, hT, by omega, hb⟩ : TellS (w.heap.size + 1) T w wc neg (.slice ao ds.length cap) ds)
    obtain ⟨n, hn⟩ : ∃ n, ds.length = n := ⟨_, rfl⟩
    have hn0 : 0 < n := by rw [← hn]; exact List.length_pos_iff.2 h0
    have hv1 : V = if 60 < e then .tuple #[.agg #[.int .i64 0, .int .i64 0], .int .i64 30] else .tuple #[.agg #[.int .i64 (endR neg (upR 60 (stripR n ds e).1 (stripR n ds e).2)).2.1, .int .i64 (endR neg (upR 60 (stripR n ds e).1 (stripR n ds e).2)).2.2], .int .i64 (endR neg (upR 60 (stripR n ds e).1 (stripR n ds e).2)).1] := by
      rw [HV.out]
      unfold tellR
      rw [if_neg h0, hn]
      by_cases h60 : 60 < e
      · rw [if_pos h60, if_pos h60]
      · rw [if_neg h60, if_neg h60]
    have p0 := t1.c 0 _ rfl
    have p1 := t1.c 1 _ rfl
    have hN := Lib.hid hn
    rw [hn] at p1 h1 hz TS
    have HTR := Lib.hid htr
    have en : ((n : Int) == 0) = false := by rw [beq_eq_false_iff_ne]; omega
    clear HV HT hl hb hn htr hfar
    by_cases h60 : 60 < e
    · rw [if_pos h60] at hv1
      have HV := Lib.hid hv1
      have d60 : decide (60 < e) = true := decide_eq_true h60
      have s0 := r1.c 0 _ rfl
      have s1 := r1.c 1 _ rfl
      have sf := r1.fz
      clear hv1
      go_wp2_with fail
      exact ret_dec r1 TS.out.bel (by omega) HV.out rfl rfl rfl rfl
    · rw [if_neg h60] at hv1
      have HV := Lib.hid hv1
      have d60 : decide (60 < e) = false := decide_eq_false h60
      obtain ⟨R1, hR1⟩ : ∃ R1, stripR n ds e = R1 := ⟨_, rfl⟩
      rw [hR1] at HV
      have HR1 := Lib.hid hR1
      clear hv1 hR1 r1 t1
      go_wp2_with fail
      go_loopg [5] n (fun gf v5 wx => ∃ (m : Nat) (x : Int) (es : List Nat) (ao : Option Addr) (cap : Nat), v5 = .int .i64 x ∧ x + m ≤ 60 + n ∧ -100000 ≤ x ∧ 0 < m ∧ m ≤ gf ∧ m ≤ n ∧ Hid (es.length = m) ∧ Hid (Trimmed es) ∧ Hid (DigL es) ∧ Hid (stripR m es x = R1) ∧ Hid (TellS (w.heap.size + 1) T w wx neg (.slice ao m cap) es))
      case atStart => exact ⟨n, e, ds, ao, cap, rfl, by omega, by omega, hn0, by omega, Nat.le_refl _, hN, HTR, HD, HR1, TS⟩
      case round =>
        clear hN HTR HD HR1 TS p0 p1 h1 h2 F en
        obtain ⟨m, x, es, ao, cap, rfl, hx1, hx2, hm0, hgm, hmn, HN, HTR, HD, HK, TS⟩ := hrel
        obtain ⟨g, o, cap', hv, hc1, hc2, hgl, hcell⟩ := TS.out.l.some HN.out hm0
        injection hv with hv1 _ hv2
        subst hv1 hv2
        have q0 := TS.out.t.c 0 _ rfl
        have q1 := TS.out.t.c 1 _ rfl
        have dm : decide ((0 : Int) < (m : Int)) = true := decide_eq_true (by omega)
        cases es with
        | nil => exfalso; have := HN.out; simp at this; omega
        | cons d t =>
          have qd : wr.cell? ⟨g, o, none⟩ = some (.int .i64 (d : Int)) := by
            have h := hcell 0 d rfl
            rwa [Nat.add_zero] at h
          have HC := Lib.hid hcell
          clear hcell
          by_cases hd : d = 0
          · subst hd
            obtain ⟨g', rfl⟩ : ∃ g', gk = g' + 1 := ⟨gk - 1, by omega⟩
            obtain ⟨j, rfl⟩ : ∃ j, m = j + 1 := ⟨m - 1, by omega⟩
            have hjl : t.length = j := by have := HN.out; rw [List.length_cons] at this; omega
            have htt := HTR.out.tail
            have hj0 : 0 < j := by rw [← hjl]; exact List.length_pos_iff.2 htt.1
            have HJ := Lib.hid hjl
            have HTT := Lib.hid htt
            have HDT : Hid (DigL t) := fun d hd => HD.out d (List.mem_cons_of_mem _ hd)
            have HK2 : Hid (stripR j t (x + 1) = R1) := by
              show _ = _
              rw [← HK.out, stripR]
            have hs1 : SlI wr (.slice (some ⟨g, o + 1, none⟩) j (cap - 1)) t := by
              refine ⟨_, _, by rw [hjl], by rw [hjl]; omega, by omega, fun _ => ⟨g, o + 1, rfl, hgl, fun i d hi => ?_⟩⟩
              have := HC.out (i + 1) d (by simpa using hi)
              rw [show o + 1 + i = o + (i + 1) by omega]
              exact this
            have hbd : Below wr.heap.size wr wr.drew := (Below.refl _ _).drew
            have S1 := Lib.hid (hs1.below hbd)
            have hne : (neg && !(trimL t).isEmpty) = neg := by
              rw [htt.2]
              cases t with
              | nil => exact absurd rfl htt.1
              | cons a l => simp
            have ct : ∀ w sl, SlI w sl t → Calls Tryz.prog 146 #[bigV neg sl] w (BigR neg t w) := fun w sl h => by
              have h := r9trim w neg sl t h (by omega)
              rw [hne, htt.2] at h
              exact h
            have CT := Lib.hid ct
            have TD := Lib.hid (TS.out.below hbd)
            have q0d := TD.out.t.c 0 _ rfl
            have q1d := TD.out.t.c 1 _ rfl
            have k1 : (1 : Int) ≤ (j : Int) + 1 := by omega
            have k2 : (j : Int) + 1 ≤ (cap : Int) := by omega
            have k3 : ((j : Int) + 1).toNat = j + 1 := by omega
            clear hjl htt HTR HD HK HC hs1 hbd hne ct TS HN
            go_wp2_with fail
            refine reg_tail 6 (by kernel_rfl) (by kernel_rfl) ?_
            simp only [List.take_succ_cons, List.take_zero, List.drop_succ_cons, List.drop_zero]
            generalize wr.drew = W at *
            repeat still_step
            refine wpStill_nil ?_
            go_wp2_with fail
            refine (CT.out _ _ S1.out).mono ?_
            rintro e1 w1 ⟨sl', rfl, hsl, hfr, hb⟩
            have hTW := TD.out.t.lt
            replace TD := Lib.hid (TD.out.below hb)
            have hff : ∀ k, sl'.ownBlock = some k → k ≠ T := fun k hk => by have := hfr k hk; omega
            have T2 := Lib.hid (TD.out.put hsl hff)
            obtain ⟨ao', cap', rfl, _, _, _⟩ := hsl
            rw [HJ.out] at T2
            rw [HJ.out]
            have q0e := TD.out.t.c 0 _ rfl
            have q1e := TD.out.t.c 1 _ rfl
            have qfe := TD.out.t.fz
            clear hfr hb hff TD S1 CT q0d q1d
            go_wp2_with fail
            go_roundg g'
            case measure => omega
            case rel => exact ⟨j, x + 1, t, ao', cap', by go_num, by omega, by omega, hj0, by omega, by omega, HJ, HTT, HDT, HK2, T2⟩
          · have hR : R1 = (d :: t, x) := by
              rw [← HK.out]
              obtain ⟨f, rfl⟩ : ∃ f, m = f + 1 := ⟨m - 1, by omega⟩
              cases d with
              | zero => exact absurd rfl hd
              | succ d => rfl
            have e1 : ((d : Int) == 0) = false := by rw [beq_eq_false_iff_ne]; omega
            have hv2 := HV.out
            rw [hR] at hv2
            dsimp only at hv2
            have HV2 := Lib.hid hv2
            clear hv2 hR HK HV HC
            generalize hes : d :: t = es at *
            clear hes hd
            obtain ⟨R2, hR2⟩ : ∃ R2, upR 60 es x = R2 := ⟨_, rfl⟩
            rw [hR2] at HV2
            have HR2 := Lib.hid hR2
            clear hR2
            go_wp2_with fail
            go_loopg [5] 30 (fun gf v5 wx => ∃ (m2 f : Nat) (x : Int) (es : List Nat) (ao : Option Addr) (cap : Nat), v5 = .int .i64 x ∧ x ≤ 60 + n ∧ -110000 ≤ x + m2 ∧ 0 < m2 ∧ m2 ≤ 4000 ∧ 30 ≤ gf + m2 ∧ 60 < f + m2 ∧ Hid (es.length = m2) ∧ Hid (Trimmed es) ∧ Hid (DigL es) ∧ Hid (upR f es x = R2) ∧ Hid (TellS (w.heap.size + 1) T w wx neg (.slice ao m2 cap) es))
            case atStart => exact ⟨m, 60, x, es, some ⟨g, o, none⟩, cap, rfl, by omega, by omega, hm0, by omega, by omega, by omega, HN, HTR, HD, HR2, TS⟩
            case round =>
              clear HN HTR HD HR2 TS q0 q1 qd dm hgl hx1 hx2 hgm hmn hm0 hc1 hc2
              obtain ⟨m, f, x, es, ao, cap, rfl, hx1, hx2, hm0, hm4, hgm, hfm, HN, HTR, HD, HK, TS⟩ := hrel
              have q0 := TS.out.t.c 0 _ rfl
              have q1 := TS.out.t.c 1 _ rfl
              by_cases hc : 18 < x ∧ m < 30
              · obtain ⟨f', rfl⟩ : ∃ f', f = f' + 1 := ⟨f - 1, by omega⟩
                obtain ⟨g', rfl⟩ : ∃ g', gk = g' + 1 := ⟨gk - 1, by omega⟩
                have d1 : decide (18 < x) = true := decide_eq_true hc.1
                have d2 : decide ((m : Int) < 30) = true := decide_eq_true (by omega)
                have HK2 : Hid (upR f' (0 :: es) (x - 1) = R2) := by
                  show _ = _
                  rw [← HK.out, upR, if_pos (by rw [HN.out]; exact hc)]
                have HTT := Lib.hid HTR.out.zero
                have HDT : Hid (DigL (0 :: es)) := fun d hd => by
                  rcases List.mem_cons.1 hd with rfl | h
                  · decide
                  · exact HD.out d h
                have HJ : Hid ((0 :: es).length = m + 1) := by show _ = _; rw [List.length_cons, HN.out]
                have ct : ∀ w sl, SlI w sl es → Calls Tryz.prog 190 #[bigV neg sl, .int .i64 1] w (BigR neg (0 :: es) w) := fun w sl h => by
                  have h := r9shift w neg sl es h (by rw [HN.out]; omega) HTR.out.1
                  rw [HTT.out.2] at h
                  simpa using h
                have CT := Lib.hid ct
                clear HK ct HTR HD
                go_wp2_with fail
                refine (CT.out _ _ TS.out.l).mono ?_
                rintro e1 w1 ⟨sl', rfl, hsl, hfr, hb⟩
                have hTW := TS.out.t.lt
                have TD := Lib.hid (TS.out.below hb)
                have hff : ∀ k, sl'.ownBlock = some k → k ≠ T := fun k hk => by have := hfr k hk; omega
                have T2 := Lib.hid (TD.out.put hsl hff)
                obtain ⟨ao', cap', rfl, _, _, _⟩ := hsl
                rw [HJ.out] at T2
                rw [HJ.out]
                have q0e := TD.out.t.c 0 _ rfl
                have q1e := TD.out.t.c 1 _ rfl
                have qfe := TD.out.t.fz
                clear hfr hb hff TD CT q0 q1 TS
                go_wp2_with fail
                go_roundg g'
                case measure => omega
                case rel => exact ⟨m + 1, f', x - 1, 0 :: es, ao', cap', by go_num, by omega, by omega, by omega, by omega, by omega, by omega, HJ, HTT, HDT, HK2, T2⟩
              · have hR : R2 = (es, x) := by
                  rw [← HK.out]
                  cases f with
                  | zero => rfl
                  | succ f => rw [upR, if_neg (by rw [HN.out]; exact hc)]
                have hv2 := HV2.out
                rw [hR] at hv2
                have HV := Lib.hid hv2
                clear hv2 hR HK HV2
                go_upto_region 9 with (fail)
                go_cut [47] (fun v47 wx => v47 = .bool false ∧ wr = wx)
                case first =>
                  by_cases h18 : 18 < x
                  · have d1 : decide (18 < x) = true := decide_eq_true h18
                    have d2 : decide ((m : Int) < 30) = false := decide_eq_false (by omega)
                    go_wp2_with fail
                    go_meet
                    exact ⟨rfl, rfl⟩
                  · have d1 : decide (18 < x) = false := decide_eq_false h18
                    go_wp2_with fail
                    go_meet
                    exact ⟨rfl, rfl⟩
                obtain ⟨rfl, rfl⟩ := hcut
                have CF := Lib.hid (fun w sl (h : SlI w sl es) => r9fits w neg sl es h (by rw [HN.out]; omega) HTR.out.1)
                have s0 := TS.out.r.c 0 _ rfl
                have s1 := TS.out.r.c 1 _ rfl
                have sf := TS.out.r.fz
                by_cases h18 : 18 < x
                · have d1 : decide (18 < x) = true := decide_eq_true h18
                  have HV3 : Hid (V = .tuple #[.agg #[.int .i64 0, .int .i64 0], .int .i64 30]) := by
                    show _ = _
                    rw [HV.out]; unfold endR; rw [if_pos (Or.inl h18)]
                  clear HV CF
                  go_wp2_with fail
                  exact ret_dec TS.out.r TS.out.bel (by omega) HV3.out rfl rfl rfl rfl
                · have d1 : decide (18 < x) = false := decide_eq_false h18
                  by_cases h19 : x < -18
                  · have d2 : decide (x < -18) = true := decide_eq_true h19
                    have HV3 : Hid (V = .tuple #[.agg #[.int .i64 0, .int .i64 0], .int .i64 30]) := by
                      show _ = _
                      rw [HV.out]; unfold endR; rw [if_pos (Or.inr (Or.inl h19))]
                    clear HV CF
                    go_wp2_with fail
                    exact ret_dec TS.out.r TS.out.bel (by omega) HV3.out rfl rfl rfl rfl
                  · have d2 : decide (x < -18) = false := decide_eq_false h19
                    clear s0 s1 sf
                    go_wp2_with fail
                    refine (CF.out _ _ TS.out.l).mono ?_
                    rintro e1 w1 ⟨rfl, hb⟩
                    replace TS := Lib.hid (TS.out.below hb)
                    clear hb q0 q1
                    have s0 := TS.out.r.c 0 _ rfl
                    have s1 := TS.out.r.c 1 _ rfl
                    have sf := TS.out.r.fz
                    cases hft : fitsF neg es with
                    | false =>
                      have HV3 : Hid (V = .tuple #[.agg #[.int .i64 0, .int .i64 0], .int .i64 30]) := by
                        show _ = _
                        rw [HV.out]; unfold endR; rw [if_pos (Or.inr (Or.inr hft))]
                      clear HV CF
                      go_wp2_with fail
                      exact ret_dec TS.out.r TS.out.bel (by omega) HV3.out rfl rfl rfl rfl
                    | true =>
                      have HV3 : Hid (V = .tuple #[.agg #[.int .i64 (if neg then -(valD es : Int) else (valD es : Int)), .int .i64 x], .int .i64 0]) := by
                        show _ = _
                        rw [HV.out]; unfold endR; rw [if_neg (by rintro (h | h | h); omega; omega; rw [hft] at h; cases h)]
                      have hle : valD es ≤ topF neg := by
                        have := fitsF_val neg HD.out
                        rw [hft] at this
                        exact of_decide_eq_true this.symm
                      have HLE := Lib.hid hle
                      clear HV CF hft hle s0 s1 sf
                      cases neg with
                      | false =>
                        have hle : valD es ≤ 9223372036854775807 := HLE.out
                        have q0 := TS.out.t.c 0 _ rfl
                        have q1 := TS.out.t.c 1 _ rfl
                        go_wp2_with fail
                        go_loopg [6, 7] m (fun gf v6 v7 wx => ∃ k : Nat, v6 = .int .i64 (valD (es.drop k) : Int) ∧ v7 = .int .i64 ((k : Int) - 1) ∧ k ≤ m ∧ k ≤ gf ∧ wx = w1)
                        case atStart => exact ⟨m, by rw [List.drop_eq_nil_of_le (by rw [HN.out]; omega)]; rfl, rfl, by omega, by omega, rfl⟩
                        case round =>
                          obtain ⟨k, rfl, rfl, hk, hkg, rfl⟩ := hrel
                          cases k with
                          | zero =>
                            have dk : decide ((0 : Int) ≤ ((0 : Nat) : Int) - 1) = false := by decide
                            have s0 := TS.out.r.c 0 _ rfl
                            have s1 := TS.out.r.c 1 _ rfl
                            have sf := TS.out.r.fz
                            go_wp2_with fail
                            exact ret_dec TS.out.r TS.out.bel (by omega) HV3.out rfl rfl rfl rfl
                          | succ k =>
                            obtain ⟨g', rfl⟩ : ∃ g', gk = g' + 1 := ⟨gk - 1, by omega⟩
                            have hkl : k < es.length := by rw [HN.out]; omega
                            obtain ⟨d, hd⟩ : ∃ d, es[k]? = some d := ⟨_, List.getElem?_eq_getElem hkl⟩
                            obtain ⟨g, o, cap', hv, hc1, hc2, hgl, hcell⟩ := TS.out.l.some HN.out hm0
                            injection hv with hv1 _ hv2
                            subst hv1 hv2
                            have qd := hcell k d hd
                            have hvd := valD_drop es k hkl
                            have hlk := valD_drop_le es k
                            have hed : es[k]'hkl = d := by rw [List.getElem?_eq_getElem hkl] at hd; injection hd
                            rw [hed] at hvd
                            obtain ⟨v, hvv⟩ : ∃ v, valD (es.drop (k + 1)) = v := ⟨_, rfl⟩
                            rw [hvv] at hvd ⊢
                            have hd9 := HD.out d (List.mem_of_getElem? hd)
                            have hv9 : d + 10 * v ≤ 9223372036854775807 := by omega
                            have HVD := Lib.hid hvd
                            have w1 : ((k + 1 : Nat) : Int) - 1 = (k : Int) := by omega
                            rw [w1]
                            clear hcell hvd hlk hed hvv hd hkl w1
                            go_wp2_with fail
                            go_roundg g'
                            case measure => omega
                            case rel => exact ⟨k, by rw [HVD.out]; go_num, by go_num, by omega, by omega, rfl⟩
                      | true =>
                        have hle : valD es ≤ 9223372036854775808 := HLE.out
                        have q0 := TS.out.t.c 0 _ rfl
                        have q1 := TS.out.t.c 1 _ rfl
                        go_wp2_with fail
                        go_loopg [6, 7] m (fun gf v6 v7 wx => ∃ k : Nat, v6 = .int .i64 (-(valD (es.drop k) : Int)) ∧ v7 = .int .i64 ((k : Int) - 1) ∧ k ≤ m ∧ k ≤ gf ∧ wx = w1)
                        case atStart => exact ⟨m, by rw [List.drop_eq_nil_of_le (by rw [HN.out]; omega)]; rfl, rfl, by omega, by omega, rfl⟩
                        case round =>
                          obtain ⟨k, rfl, rfl, hk, hkg, rfl⟩ := hrel
                          cases k with
                          | zero =>
                            have dk : decide ((0 : Int) ≤ ((0 : Nat) : Int) - 1) = false := by decide
                            have s0 := TS.out.r.c 0 _ rfl
                            have s1 := TS.out.r.c 1 _ rfl
                            have sf := TS.out.r.fz
                            go_wp2_with fail
                            exact ret_dec TS.out.r TS.out.bel (by omega) HV3.out rfl rfl rfl rfl
                          | succ k =>
                            obtain ⟨g', rfl⟩ : ∃ g', gk = g' + 1 := ⟨gk - 1, by omega⟩
                            have hkl : k < es.length := by rw [HN.out]; omega
                            obtain ⟨d, hd⟩ : ∃ d, es[k]? = some d := ⟨_, List.getElem?_eq_getElem hkl⟩
                            obtain ⟨g, o, cap', hv, hc1, hc2, hgl, hcell⟩ := TS.out.l.some HN.out hm0
                            injection hv with hv1 _ hv2
                            subst hv1 hv2
                            have qd := hcell k d hd
                            have hvd := valD_drop es k hkl
                            have hlk := valD_drop_le es k
                            have hed : es[k]'hkl = d := by rw [List.getElem?_eq_getElem hkl] at hd; injection hd
                            rw [hed] at hvd
                            obtain ⟨v, hvv⟩ : ∃ v, valD (es.drop (k + 1)) = v := ⟨_, rfl⟩
                            rw [hvv] at hvd ⊢
                            have hd9 := HD.out d (List.mem_of_getElem? hd)
                            have hv9 : d + 10 * v ≤ 9223372036854775808 := by omega
                            have HVD := Lib.hid hvd
                            have w1 : ((k + 1 : Nat) : Int) - 1 = (k : Int) := by omega
                            rw [w1]
                            clear hcell hvd hlk hed hvv hd hkl w1
                            go_wp2_with fail
                            go_roundg g'
                            case measure => omega
                            case rel => exact ⟨k, by rw [HVD.out]; go_num, by go_num, by omega, by omega, rfl⟩
end Go.Proofs.YtfkiomjplpbmiaaGreatDoor

