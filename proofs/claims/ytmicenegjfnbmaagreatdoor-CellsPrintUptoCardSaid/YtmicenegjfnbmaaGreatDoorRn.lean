/- The document's Number: a numeral. -/
import Derived.Test.YtmicenegjfnbmaaGreatDoorRp
import Derived.IntWalk
namespace Go.Proofs.YtmicenegjfnbmaaGreatDoor
set_option linter.unusedSimpArgs false
open Go.RowKit Go.Lib
open Go.Proofs.YtmicenegjfnbmaaGreatDoorW.PrintLast (start_ pure_ two_ one_ done_ norm_ join_ goes_ value_ putAll i64_w i32_w)

theorem conv_int (W : World) (x : UInt8) (y : Int) (h : y = (x.toNat : Int)) :
    (convert 48 9 (.slice (some ⟨W.heap.size, 0, none⟩) 1 1)).run Tryz.prog (W.alloc (.cells #[.int .u8 y] 5)) = .ok (.string ⟨#[x]⟩) (W.alloc (.cells #[.int .u8 y] 5)) := by
  subst h
  exact conv_one W x

set_option maxHeartbeats 1000000 in
theorem number_small (n : Int) (w : World) (h0 : 0 ≤ n) (h9 : n ≤ 9) : Calls Tryz.prog 54 #[.int .i64 n] w (Q (.string ⟨#[dig n.toNat]⟩) w) := by
  have kc := conv_int w (dig n.toNat) (48 + n) (by rw [dig_toNat (by omega)]; omega)
  have d9 : decide (n < 10) = true := by rw [decide_eq_true_eq]; omega
  have hm : (48 + n) % 256 = 48 + n := by omega
  have hb := (Below.refl w.heap.size w).alloc (Nat.le_refl _) (.cells #[.int .u8 (48 + n)] 5)
  have HB := Lib.hid hb
  clear hb
  go_enter Tryz.func54, Tryz.ntmps54
  go_wp2_with fail
  go_ret
  exact ⟨rfl, HB.out⟩

theorem conv_at (W : World) (N : Nat) (x : UInt8) (y : Int) (h : y = (x.toNat : Int)) (hc : W.cell? ⟨N, 0, none⟩ = some (.int .u8 y)) :
    (convert 48 9 (.slice (some ⟨N, 0, none⟩) 1 1)).run Tryz.prog W = .ok (.string ⟨#[x]⟩) W := by
  have h := run_convert_bytes_arg (P := Tryz.prog) W 48 5 Tryz.underlying48 Tryz.underlying5 N 0 1 1 [y] rfl
    (fun i hi => by obtain rfl : i = 0 := by omega
                    simpa using hc) 9 Tryz.underlying9
  rw [h]
  subst y
  simp [strOfNums]

set_option maxRecDepth 100000 in
set_option maxHeartbeats 4000000 in
theorem number_step (n : Int) (d : UInt8) (t : ByteArray) (w : World) (h10 : 10 ≤ n) (hd : IntKind.u8.wrap (wrap64 (48 + n.tmod 10)) = (d.toNat : Int)) (ht : t.size ≤ 100)
    (C : Hid (∀ w, Calls Tryz.prog 54 #[.int .i64 (wrap64 (n.tdiv 10))] w (Q (.string t) w))) :
    Calls Tryz.prog 54 #[.int .i64 n] w (Q (.string (t ++ ⟨#[d]⟩)) w) := by
  have d9 : decide (n < 10) = false := by rw [decide_eq_false_iff_not]; omega
  have HB := Lib.hid (Below.refl w.heap.size w).drew
  have h1 : (⟨#[d]⟩ : ByteArray).size ≤ 1 := Nat.le_refl 1
  have KC := Lib.hid fun W N => conv_at W N d (IntKind.u8.wrap (wrap64 (48 + n.tmod 10))) hd
  clear hd h10
  go_enter Tryz.func54, Tryz.ntmps54
  go_wp2_with fail
  clear d9
  refine start_ (n := 11) (S := fun _ => True) (ds := []) #[false, false, false, false, false, false, false, false, false, false, false] (by kernel_rfl) rfl rfl trivial (fun _ => ?_)
  have hV : w.heap.size ≤ w.drew.heap.size := HB.out.size
  generalize w.drew = V at *
  refine pure_ (i := 0) (N := some 10) (v := ?_) (a' := ?_) #[true, false, false, false, false, false, false, false, false, false, false] rfl rfl (by kernel_rfl) (fun _ _ _ h => h) (Or.inl ⟨by rfl, ?_⟩) ?_ ?_
  rotate_left
  · intro w'
    go_simp
    with_reducible rfl
  rotate_left
  · simp only [Act.put, List.setIfInBounds_toArray, List.set_cons_zero, List.set_cons_succ, i64_w, i32_w]
    rfl
  refine pure_ (i := 1) (N := some 11) (v := ?_) (a' := ?_) #[true, true, false, false, false, false, false, false, false, false, false] rfl rfl (by kernel_rfl) (fun _ _ _ h => h) (Or.inl ⟨by rfl, ?_⟩) ?_ ?_
  rotate_left
  · intro w'
    go_simp
    with_reducible rfl
  rotate_left
  · simp only [Act.put, List.setIfInBounds_toArray, List.set_cons_zero, List.set_cons_succ, i64_w, i32_w]
    rfl
  refine pure_ (i := 3) (N := some 13) (v := ?_) (a' := ?_) #[true, true, false, true, false, false, false, false, false, false, false] rfl rfl (by kernel_rfl) (fun _ _ _ h => h) (Or.inl ⟨by rfl, ?_⟩) ?_ ?_
  rotate_left
  · intro w'
    go_simp
    with_reducible rfl
  rotate_left
  · simp only [Act.put, List.setIfInBounds_toArray, List.set_cons_zero, List.set_cons_succ, i64_w, i32_w]
    rfl
  refine pure_ (i := 4) (N := some 14) (v := ?_) (a' := ?_) #[true, true, false, true, true, false, false, false, false, false, false] rfl rfl (by kernel_rfl) (fun _ _ _ h => h) (Or.inl ⟨by rfl, ?_⟩) ?_ ?_
  rotate_left
  · intro w'
    go_simp
    with_reducible rfl
  rotate_left
  · simp only [Act.put, List.setIfInBounds_toArray, List.set_cons_zero, List.set_cons_succ, i64_w, i32_w]
    rfl
  refine pure_ (i := 5) (N := some 15) (v := ?_) (a' := ?_) #[true, true, false, true, true, true, false, false, false, false, false] rfl rfl (by kernel_rfl) (fun _ _ _ h => h) (Or.inl ⟨by rfl, ?_⟩) ?_ ?_
  rotate_left
  · intro w'
    go_simp
    with_reducible rfl
  rotate_left
  · simp only [Act.put, List.setIfInBounds_toArray, List.set_cons_zero, List.set_cons_succ, i64_w, i32_w]
    rfl
  refine pure_ (i := 6) (N := some 16) (v := ?_) (a' := ?_) #[true, true, false, true, true, true, true, false, false, false, false] rfl rfl (by kernel_rfl) (fun _ _ _ h => h) (Or.inl ⟨by rfl, ?_⟩) ?_ ?_
  rotate_left
  · intro w'
    go_simp
    with_reducible rfl
  rotate_left
  · simp only [Act.put, List.setIfInBounds_toArray, List.set_cons_zero, List.set_cons_succ, i64_w, i32_w]
    rfl
  refine join_ (σ := Nat) 2 #[true, true, true, true, true, true, true, true, true, false, false] (fun B => [(12, .string t), (17, .slice (some ⟨B, 0, none⟩) 1 1), (18, .string ⟨#[d]⟩)]) (fun _ w' => Below w.heap.size w w') ?_ ?_
  rotate_left
  · intro hCont
    refine two_ (i := 2) (j := 7) (Ni := some 12) (Nj := some 17) #[true, true, true, true, true, true, true, false, false, false, false] #[true, true, false, true, true, true, true, true, false, false, false] rfl rfl rfl rfl (by kernel_rfl) (by decide) (by decide) (fun K hK => ?_) (fun K hK => ?_)
    · refine goes_ Tryz.func54 (by kernel_rfl) rfl #[.int .i64 (wrap64 (n.tdiv 10))] (by rfl) rfl rfl (by first | rfl | (simp only [List.map_toArray, List.map_cons, List.map_nil]; rfl)) ?_
      refine (C.out _).mono ?_
      rintro e w9 ⟨rfl, hb⟩
      refine ⟨_, rfl, ?_⟩
      replace HB := Lib.hid (bt HB.out hb)
      clear hb
      refine hK.out _ _ trivial (fun _ => ?_)
      clear hK K
      refine norm_ (a' := ?_) ?_ ?_
      rotate_left
      · show Act.put _ (some 12) _ = _
        simp only [Act.put, List.setIfInBounds_toArray, List.set_cons_zero, List.set_cons_succ, i64_w, i32_w]
        rfl
      refine one_ (i := 7) (N := some 17) #[true, true, true, true, true, true, true, true, false, false, false] rfl rfl (by kernel_rfl) (by decide) (fun K hK => ?_)
      refine value_ (w1 := ?_) (v := ?_) (by rfl) rfl ?_ ?_
      rotate_left 2
      · go_simp
        constructor
        · rfl
        · rfl
      refine hK.out _ _ trivial (fun _ => ?_)
      clear hK K
      refine norm_ (a' := ?_) ?_ ?_
      rotate_left
      · show Act.put _ (some 17) _ = _
        simp only [Act.put, List.setIfInBounds_toArray, List.set_cons_zero, List.set_cons_succ, i64_w, i32_w]
        rfl
      refine one_ (i := 8) (N := some 18) #[true, true, true, true, true, true, true, true, true, false, false] rfl rfl (by kernel_rfl) (by decide) (fun K hK => ?_)
      have kc := KC.out (w9.alloc (.cells #[.int .u8 (IntKind.u8.wrap (wrap64 (48 + n.tmod 10)))] 5)) w9.heap.size (by simp [go_sem])
      refine value_ (w1 := (w9.alloc (.cells #[.int .u8 (IntKind.u8.wrap (wrap64 (48 + n.tmod 10)))] 5))) (v := .string ⟨#[d]⟩) (by rfl) rfl (by first | (go_simp; done) | (go_simp; exact kc) | exact kc) ?_
      clear kc
      refine hK.out _ _ trivial (fun _ => ?_)
      clear hK K
      exact norm_ (by simp only [putAll, Act.put, List.setIfInBounds_toArray, List.set_cons_zero, List.set_cons_succ]) (hCont w9.heap.size _ (HB.out.alloc HB.out.size _))
    · refine value_ (w1 := ?_) (v := ?_) (by rfl) rfl ?_ ?_
      rotate_left 2
      · go_simp
        constructor
        · rfl
        · rfl
      refine hK.out _ _ trivial (fun _ => ?_)
      clear hK K
      refine norm_ (a' := ?_) ?_ ?_
      rotate_left
      · show Act.put _ (some 17) _ = _
        simp only [Act.put, List.setIfInBounds_toArray, List.set_cons_zero, List.set_cons_succ, i64_w, i32_w]
        rfl
      have hcV : (V.alloc (.cells #[.int .u8 (IntKind.u8.wrap (wrap64 (48 + n.tmod 10)))] 5)).cell? ⟨V.heap.size, 0, none⟩ = some (.int .u8 (IntKind.u8.wrap (wrap64 (48 + n.tmod 10)))) := by simp [go_sem]
      have hbV : Below w.heap.size w (V.alloc (.cells #[.int .u8 (IntKind.u8.wrap (wrap64 (48 + n.tmod 10)))] 5)) := HB.out.alloc HB.out.size _
      have hzV : V.heap.size < (V.alloc (.cells #[.int .u8 (IntKind.u8.wrap (wrap64 (48 + n.tmod 10)))] 5)).heap.size := by simp
      refine two_ (i := 2) (j := 8) (Ni := some 12) (Nj := some 18) #[true, true, true, true, true, true, true, true, false, false, false] #[true, true, false, true, true, true, true, true, true, false, false] rfl rfl rfl rfl (by kernel_rfl) (by decide) (by decide) (fun K hK => ?_) (fun K hK => ?_)
      · refine goes_ Tryz.func54 (by kernel_rfl) rfl #[.int .i64 (wrap64 (n.tdiv 10))] (by rfl) rfl rfl (by first | rfl | (simp only [List.map_toArray, List.map_cons, List.map_nil]; rfl)) ?_
        refine (C.out _).mono ?_
        rintro e w9 ⟨rfl, hb⟩
        refine ⟨_, rfl, ?_⟩
        have hc9 : w9.cell? ⟨V.heap.size, 0, none⟩ = some (.int .u8 (IntKind.u8.wrap (wrap64 (48 + n.tmod 10)))) := (hb.cell (p := ⟨V.heap.size, 0, none⟩) hzV).trans hcV
        have HB9 := Lib.hid (bt hbV hb)
        clear hb
        refine hK.out _ _ trivial (fun _ => ?_)
        clear hK K
        refine norm_ (a' := ?_) ?_ ?_
        rotate_left
        · show Act.put _ (some 12) _ = _
          simp only [Act.put, List.setIfInBounds_toArray, List.set_cons_zero, List.set_cons_succ, i64_w, i32_w]
          rfl
        refine one_ (i := 8) (N := some 18) #[true, true, true, true, true, true, true, true, true, false, false] rfl rfl (by kernel_rfl) (by decide) (fun K hK => ?_)
        have kc := KC.out w9 V.heap.size (hc9)
        refine value_ (w1 := w9) (v := .string ⟨#[d]⟩) (by rfl) rfl (by first | (go_simp; done) | (go_simp; exact kc) | exact kc) ?_
        clear kc
        refine hK.out _ _ trivial (fun _ => ?_)
        clear hK K
        exact norm_ (by simp only [putAll, Act.put, List.setIfInBounds_toArray, List.set_cons_zero, List.set_cons_succ]) (hCont V.heap.size _ HB9.out)
      · have kc := KC.out (V.alloc (.cells #[.int .u8 (IntKind.u8.wrap (wrap64 (48 + n.tmod 10)))] 5)) V.heap.size (hcV)
        refine value_ (w1 := (V.alloc (.cells #[.int .u8 (IntKind.u8.wrap (wrap64 (48 + n.tmod 10)))] 5))) (v := .string ⟨#[d]⟩) (by rfl) rfl (by first | (go_simp; done) | (go_simp; exact kc) | exact kc) ?_
        clear kc
        refine hK.out _ _ trivial (fun _ => ?_)
        clear hK K
        refine norm_ (a' := ?_) ?_ ?_
        rotate_left
        · show Act.put _ (some 18) _ = _
          simp only [Act.put, List.setIfInBounds_toArray, List.set_cons_zero, List.set_cons_succ, i64_w, i32_w]
          rfl
        refine one_ (i := 2) (N := some 12) #[true, true, true, true, true, true, true, true, true, false, false] rfl rfl (by kernel_rfl) (by decide) (fun K hK => ?_)
        refine goes_ Tryz.func54 (by kernel_rfl) rfl #[.int .i64 (wrap64 (n.tdiv 10))] (by rfl) rfl rfl (by first | rfl | (simp only [List.map_toArray, List.map_cons, List.map_nil]; rfl)) ?_
        refine (C.out _).mono ?_
        rintro e w9 ⟨rfl, hb⟩
        refine ⟨_, rfl, ?_⟩
        have HB9 := Lib.hid (bt hbV hb)
        clear hb
        refine hK.out _ _ trivial (fun _ => ?_)
        clear hK K
        exact norm_ (by simp only [putAll, Act.put, List.setIfInBounds_toArray, List.set_cons_zero, List.set_cons_succ]) (hCont V.heap.size _ HB9.out)
  intro B W hB
  have HBw := Lib.hid hB
  clear hB
  refine norm_ (a' := ?_) ?_ ?_
  rotate_left
  · simp only [putAll, Act.put, List.setIfInBounds_toArray, List.set_cons_zero, List.set_cons_succ]
    rfl
  have n1 : ¬ 9223372036854775807 < t.size + (⟨#[d]⟩ : ByteArray).size := by omega
  have n1' : ¬ 9223372036854775807 < t.size + 1 := by omega
  refine one_ (i := 9) (N := some 19) #[true, true, true, true, true, true, true, true, true, true, false] rfl rfl (by kernel_rfl) (by decide) (fun K hK => ?_)
  refine value_ (w1 := ?_) (v := ?_) (by rfl) rfl ?_ ?_
  rotate_left 2
  · go_simp
    constructor
    · rfl
    · rfl
  refine hK.out _ _ trivial (fun _ => ?_)
  clear hK K
  refine norm_ (a' := ?_) ?_ ?_
  rotate_left
  · show Act.put _ (some 19) _ = _
    simp only [Act.put, List.setIfInBounds_toArray, List.set_cons_zero, List.set_cons_succ, i64_w, i32_w]
    rfl
  refine one_ (i := 10) (N := some 2) #[true, true, true, true, true, true, true, true, true, true, true] rfl rfl (by kernel_rfl) (by decide) (fun K hK => ?_)
  refine value_ (w1 := ?_) (v := ?_) (by rfl) rfl ?_ ?_
  rotate_left 2
  · go_simp
    constructor
    · rfl
    · rfl
  refine hK.out _ _ trivial (fun _ => ?_)
  clear hK K
  refine norm_ (a' := ?_) ?_ ?_
  rotate_left
  · show Act.put _ (some 2) _ = _
    simp only [Act.put, List.setIfInBounds_toArray, List.set_cons_zero, List.set_cons_succ, i64_w, i32_w]
    rfl
  refine done_ (by kernel_rfl) ?_
  go_wp2
  go_ret
  exact ⟨rfl, HBw.out⟩
end Go.Proofs.YtmicenegjfnbmaaGreatDoor
