/- CellsThere holds: for every reference and all distances, what is moved there and back is where it was, and moving keeps what is fixed. Conditions: none beyond the row's own (the listed variables of Go's library hold what the program's text lays: tied by the card). -/
import Derived.Test.YtmicenegjfnbmaaDoorThereFF
import Derived.Test.YtmicenegjfnbmaaDoorThereFT
import Derived.Test.YtmicenegjfnbmaaDoorThereTF
import Derived.Test.YtmicenegjfnbmaaDoorThereTT
import Derived.Test.YtmicenegjfnbmaaDoorLaw
import Derived.Test.YtmicenegjfnbmaaDoorCards
import Derived.Test.YtmicenegjfnbmaaDoorTie
namespace Go.Proofs.YtmicenegjfnbmaaDoor
open Go.ChangeShapes Go.WideShapes Go.ChangeAt Go.RowKit Go.Joins Go.Deep Go.Lib

set_option maxHeartbeats 2000000 in
theorem there_no (sh : ByteArray) (c r : Int) (ac ar : Bool) (dc dr : Int) (w : World)
    (C1 : Hid (∀ w, Calls Tryd.prog 5 #[refV sh c r ac ar, .int .i64 dc, .int .i64 dr] w (Q (.tuple #[refV ⟨#[]⟩ 0 0 false false, .bool false]) w)))
    (hg : Glob w) :
    Calls Tryd.prog 3 #[refV sh c r ac ar, .int .i64 dc, .int .i64 dr] w (Q (.bool true) w) := by
  have hB : Below w.heap.size w (w.alloc (.cells #[.string sh, .int .i64 c, .int .i64 r, .bool ac, .bool ar] 23)) := (Below.refl _ _).alloc (Nat.le_refl _) _
  have hg1 := hg.below hB
  clear hg
  go_enter Tryd.func3, Tryd.ntmps3
  go_wp2_with fail
  refine (C1.out _).mono ?_
  rintro e w1 ⟨rfl, hb⟩
  replace hB := bt hB hb
  replace hg1 := hg1.below hb
  clear hb
  go_wp2_with fail
  have hA := (Below.refl w1.heap.size w1).alloc (Nat.le_refl _) (.cells #[.string ⟨#[]⟩, .int .i64 0, .int .i64 0, .bool false, .bool false] 23)
  replace hB := bt hB hA
  replace hg1 := hg1.below hA
  clear hA
  refine (alive_any _ hg1).mono ?_
  rintro e w4 ⟨rfl, hb⟩
  replace hB := bt hB hb
  clear hb
  go_wp2_with fail
  go_ret
  exact ⟨rfl, hB⟩

theorem there_any (sh : ByteArray) (c r : Int) (ac ar : Bool) (dc dr : Int) (w : World) (hc : -9223372036854775808 ≤ c ∧ c ≤ 9223372036854775807) (hr : -9223372036854775808 ≤ r ∧ r ≤ 9223372036854775807)
    (hd : -9223372036854775808 ≤ dc ∧ dc ≤ 9223372036854775807) (he : -9223372036854775808 ≤ dr ∧ dr ≤ 9223372036854775807) (hg : Glob w) :
    Calls Tryd.prog 3 #[refV sh c r ac ar, .int .i64 dc, .int .i64 dr] w (Q (.bool true) w) := by
  have C1 := fun w => shift_any sh c r ac ar dc dr w hc.1 hc.2 hr.1 hr.2 hd.1 hd.2 he.1 he.2
  have hv : shiftV sh c r ac ar dc dr = if shiftF sh c r ac ar dc dr then refV sh (movedF c dc 64 ac).1 (movedF r dr 512 ar).1 ac ar else zeroRef := rfl
  cases hs : shiftF sh c r ac ar dc dr with
  | false =>
    rw [hv, hs] at C1
    exact there_no sh c r ac ar dc dr w (Lib.hid C1) hg
  | true =>
    rw [hv, hs] at C1
    unfold shiftF at hs
    simp only [Bool.and_eq_true] at hs
    obtain ⟨⟨h1, h2⟩, h3⟩ := hs
    have hcr := Pl.right_col h3
    obtain ⟨k1, k2, k3⟩ := moved_back c dc 64 ac (by omega) h1 ⟨hcr.1, hcr.2.1⟩
    obtain ⟨l1, l2, l3⟩ := moved_back r dr 512 ar (by omega) h2 hcr.2.2
    have hR := shift_right h3 k1 l1
    generalize (movedF c dc 64 ac).1 = c' at *
    generalize (movedF r dr 512 ar).1 = r' at *
    have C3 := right_any sh c' r' ac ar
    rw [hR] at C3
    have C2 := fun w => shift_any sh c' r' ac ar (wrap64 (-dc)) (wrap64 (-dr)) w (by omega) (by omega) (by omega) (by omega) (wrap_range _).1 (wrap_range _).2 (wrap_range _).1 (wrap_range _).2
    have hs2 : shiftF sh c' r' ac ar (wrap64 (-dc)) (wrap64 (-dr)) = true := by unfold shiftF; rw [k3, l3, hR]; rfl
    have hv2 : shiftV sh c' r' ac ar (wrap64 (-dc)) (wrap64 (-dr)) = refV sh c r ac ar := by unfold shiftV; rw [hs2, k3, l3]; rfl
    rw [hv2, hs2] at C2
    cases ac <;> cases ar
    · exact there_ff sh c r c' r' dc dr w (Lib.hid C1) (Lib.hid C2) (Lib.hid C3) hg
    · obtain rfl := l2 rfl
      exact there_ft sh c r' c' dc dr w (Lib.hid C1) (Lib.hid C2) (Lib.hid C3) hg
    · obtain rfl := k2 rfl
      exact there_tf sh c' r r' dc dr w (Lib.hid C1) (Lib.hid C2) (Lib.hid C3) hg
    · obtain rfl := k2 rfl
      obtain rfl := l2 rfl
      exact there_tt sh c' r' dc dr w (Lib.hid C1) (Lib.hid C2) (Lib.hid C3) hg

set_option maxRecDepth 100000 in
theorem there_contract (H : Type) (enc : TypeId × Value → H) (W : World) (base : Nat) (args : Array Value) (ds gs : List (DataW H)) (before : List MemPlace)
    (hval : ∀ (j : Nat) t v, Tryd.f3.params[j]? = some t → args[j]? = some v → Value.okWide Tryd.prog W .any base t v)
    (hW : DataW.Whole enc Tryd.prog Tryd.f3.params.toList Rows.cellsThereSpec.vars false W args.toList ds gs before) (hg : Glob W) :
    Calls Tryd.prog 3 args W fun e W' => ∃ v, e = .returned v ∧ Rows.cellsThereSpec.post enc Tryd.prog Tryd.f3 false true false false W args v W' := by
  have hW' := hW
  obtain ⟨p, q, hA0, hV, rfl, hfz, hnd⟩ := hW
  have hA : DataW.TrodAll enc Tryd.prog W 0 (fun _ => true) true Tryd.f3.params.toList args.toList ds p := hA0
  obtain ⟨rfl, rfl⟩ := trodVars_none hV
  rw [Tryd.params3] at hA hval
  obtain ⟨v0, vs0, d0, ds0, p0, q0, hargs, rfl, rfl, h0, r0⟩ := trodAll_cons hA
  obtain ⟨v1, vs1, d1, ds1, p1, q1, rfl, rfl, rfl, h1, r1⟩ := trodAll_cons r0
  obtain ⟨v2, vs2, d2, ds2, p2, q2, rfl, rfl, rfl, h2, r2⟩ := trodAll_cons r1
  obtain ⟨rfl, rfl, rfl⟩ := trodAll_nil r2
  obtain rfl : args = #[v0, v1, v2] := by cases args; simp_all
  obtain ⟨sh, c, r, ac, ar, rfl, _, hc, hr⟩ := open_ref (hval 0 23 v0 rfl rfl) h0
  obtain ⟨x, rfl, _, _, wx⟩ := open_int Tryd.underlying3 (hval 1 3 v1 rfl rfl) h1
  obtain ⟨y, rfl, _, _, wy⟩ := open_int Tryd.underlying3 (hval 2 3 v2 rfl rfl) h2
  refine (there_any sh c r ac ar x y W hc hr (i64_range wx) (i64_range wy) hg).mono fun e W' ⟨he, hb⟩ => ?_
  exact ⟨_, he, law_post rfl (by kernel_rfl) rfl rfl hW' hb⟩

set_option maxRecDepth 100000 in
theorem there_met (os : Os) : laidMet Tryd.prog Rows.cellsThereRow.laid ((World.laidAll Tryd.prog os Rows.cellsThereRow.laid).forCall (fun _ _ => 0) ⟨#[], #[zeroRef, .int .i64 0, .int .i64 0], []⟩).memory := laidMet_laidAll _ (by kernel_rfl) (by kernel_rfl)
set_option maxRecDepth 100000 in
theorem there_reads (os : Os) {H : Type} (enc : TypeId × Value → H) : ∃ x places, DataW.whole enc Tryd.prog ((World.laidAll Tryd.prog os Rows.cellsThereRow.laid).forCall (fun _ _ => 0) ⟨#[], #[zeroRef, .int .i64 0, .int .i64 0], []⟩).memory Tryd.f3.params.toList Rows.cellsThereSpec.vars false #[zeroRef, Value.int .i64 0, Value.int .i64 0].toList 8 = some (x, [], places) :=
  ⟨[.agg [.lit (.string []), .lit (.int .i64 0), .lit (.int .i64 0), .lit (.bool false), .lit (.bool false)], .lit (.int .i64 0), .lit (.int .i64 0)], [], by kernel_rfl⟩

set_option maxRecDepth 100000 in
theorem there_lifted (os : Os) (started : os.Started) (H : Type) (enc : TypeId × Value → H) (F : Stop.Interp) :
    ReturnsInHanded {} Tryd.checked os 3 .any ((OpenSpec.ofChange Rows.cellsThereSpec).preRow enc Tryd.prog Tryd.f3 Rows.cellsThereRow.domain false Rows.cellsThereRow.laid) (((OpenSpec.ofChange Rows.cellsThereSpec).at F).post enc Tryd.prog Tryd.f3 false true false false) := by
  obtain ⟨x, places, hx⟩ := there_reads os enc
  refine returnsInHanded_of_row (C := Tryd.checked) (s := OpenSpec.ofChange Rows.cellsThereSpec) own started (by kernel_rfl) Tryd.func3
    (witness_row_atRef (enc := enc) (C := Tryd.checked) false (World.laidAll Tryd.prog os Rows.cellsThereRow.laid) #[zeroRef, .int .i64 0, .int .i64 0] (World.laidAll_os _ _ _) (by kernel_rfl) (by kernel_rfl) (by kernel_rfl)
      (OpenSpec.preRow_of_cond 8 hx (by kernel_rfl) (fun k hk => by cases hk) (by kernel_rfl) (there_met os))) ?_
  intro W base args ds gs before hval hW _ _ _ hL hsh _
  exact there_contract H enc W base args ds gs before hval hW (glob_of (by kernel_rfl) hL hsh)

theorem there_said : Rows.CellsThereSaid :=
  OpenClaim.holds_of_cond 3 Tryd.f3 rfl rfl rfl rfl rfl rfl rfl ⟨rfl, rfl, rfl, rfl, rfl⟩ rfl rfl rfl rfl rfl (by kernel_rfl) Tryd.func3 (by kernel_rfl)
    (of_decide_eq_true (by kernel_rfl)) (by unfold Func.isWrapper; first | (rw [if_pos (by decide +kernel)]; kernel_rfl) | (rw [if_neg (by decide +kernel)]; exact ⟨rfl, rfl⟩))
    (fun os started H enc _ F => by rw [OpenClaim.pre_eq_preRow]; exact there_lifted os started H enc F)

theorem there_plain (f : FuncId) (fn : Func) (hf : Tryd.pinned.checked.prog.funcNamed "quire/quirelaw10.CellsThere" = some f) (hfn : Tryd.pinned.checked.prog.funcs[f]? = some fn) :
    true = Tryd.pinned.checked.prog.looks [] ∧ ∀ (j : Nat) t, fn.params[j]? = some t → Tryd.pinned.checked.prog.wantsStandIn t = false := by
  obtain rfl : f = 3 := Option.some.inj ((show Tryd.prog.funcNamed "quire/quirelaw10.CellsThere" = some 3 by kernel_rfl).symm.trans hf) |>.symm
  obtain rfl : fn = Tryd.f3 := (Option.some.inj (Tryd.func3.symm.trans hfn)).symm
  refine ⟨by kernel_rfl, fun j t ht => ?_⟩
  have hall : (Tryd.f3.params.toList.all fun t => !Tryd.prog.wantsStandIn t) = true := by kernel_rfl
  have := List.all_eq_true.1 hall t (by simpa using Array.mem_of_getElem? ht)
  show Tryd.prog.wantsStandIn t = false
  simpa using this

/-- The tied card of CellsThere. -/
theorem cellsThere_holds : Rows.CellsThereCardSaid :=
  Claim7.holds_tied_plain_at .later [] _ _ _ _ there_said (fun _ h => by cases h) (by kernel_rfl) (fun _ h => by cases h) cellsThere_row_tie rfl ⟨rfl, rfl⟩ (by kernel_rfl) rfl there_plain (by kernel_rfl)
end Go.Proofs.YtmicenegjfnbmaaDoor
