/- CellsMove holds: for all references and distances the program and the document's answer tell the same of where a reference moves, which cells stand between two, and which stands ahead. Conditions: none beyond the row's own (the listed variables of Go's library hold what the program's text lays: tied by the card). -/
import Derived.Test.YtmicenegjfnbmaaGreatDoorMove
import Derived.Test.YtmicenegjfnbmaaGreatDoorLaw
import Derived.Test.YtmicenegjfnbmaaGreatDoorCards
import Derived.Test.YtmicenegjfnbmaaGreatDoorTie
namespace Go.Proofs.YtmicenegjfnbmaaGreatDoor
open Go.ChangeShapes Go.WideShapes Go.ChangeAt Go.RowKit Go.Joins Go.Deep Go.Lib
open Go.ChangeMaps (open_string shut_string)

theorem shiftV_ref (sh : ByteArray) (c r : Int) (ac ar : Bool) (dc dr : Int) : ∃ (sx : ByteArray) (cx rx : Int) (acx arx : Bool), shiftV sh c r ac ar dc dr = refV sx cx rx acx arx := by
  unfold shiftV
  split
  · exact ⟨_, _, _, _, _, rfl⟩
  · exact ⟨_, _, _, _, _, rfl⟩

theorem move_any (sa : ByteArray) (ca ra : Int) (aca ara : Bool) (sb : ByteArray) (cb rb : Int) (acb arb : Bool) (dc dr : Int) (w : World)
    (hc : -9223372036854775808 ≤ ca ∧ ca ≤ 9223372036854775807) (hr : -9223372036854775808 ≤ ra ∧ ra ≤ 9223372036854775807)
    (hd : -9223372036854775808 ≤ dc ∧ dc ≤ 9223372036854775807) (he : -9223372036854775808 ≤ dr ∧ dr ≤ 9223372036854775807) (hg : Glob w) :
    Calls Tryz.prog 5 #[refV sa ca ra aca ara, refV sb cb rb acb arb, .int .i64 dc, .int .i64 dr] w (Q (.bool true) w) := by
  have C1 := fun w => shift_any sa ca ra aca ara dc dr w hc.1 hc.2 hr.1 hr.2 hd.1 hd.2 he.1 he.2
  have C2 := fun w => refShift_any sa ca ra aca ara dc dr w hd.1 hd.2 he.1 he.2
  obtain ⟨sx, cx, rx, acx, arx, hx⟩ := shiftV_ref sa ca ra aca ara dc dr
  rw [hx] at C1 C2
  have C5 := fun w => less_any sa ca ra aca ara sb cb rb acb arb w
  rw [less_law] at C5
  exact move_walk sa ca ra aca ara sb cb rb acb arb dc dr sx cx rx acx arx _ _ _ _ _ _ w (Lib.hid C1) (Lib.hid C2) (Lib.hid fun w => box_any sa ca ra aca ara sb cb rb acb arb w) (Lib.hid fun w => refBox_any sa ca ra aca ara sb cb rb acb arb w)
    (Lib.hid C5) (Lib.hid fun w => refLess_any sa ca ra aca ara sb cb rb acb arb w) hg

set_option maxRecDepth 100000 in
theorem move_contract (H : Type) (enc : TypeId × Value → H) (W : World) (base : Nat) (args : Array Value) (ds gs : List (DataW H)) (before : List MemPlace)
    (hval : ∀ (j : Nat) t v, Tryz.f5.params[j]? = some t → args[j]? = some v → Value.okWide Tryz.prog W .any base t v)
    (hW : DataW.Whole enc Tryz.prog Tryz.f5.params.toList Rows.cellsMoveSpec.vars false W args.toList ds gs before) (hg : Glob W) :
    Calls Tryz.prog 5 args W fun e W' => ∃ v, e = .returned v ∧ Rows.cellsMoveSpec.post enc Tryz.prog Tryz.f5 false true false false W args v W' := by
  have hW' := hW
  obtain ⟨p, q, hA0, hV, rfl, hfz, hnd⟩ := hW
  have hA : DataW.TrodAll enc Tryz.prog W 0 (fun _ => true) true Tryz.f5.params.toList args.toList ds p := hA0
  obtain ⟨rfl, rfl⟩ := trodVars_none hV
  rw [Tryz.params5] at hA hval
  obtain ⟨v0, vs0, d0, ds0, p0, q0, hargs, rfl, rfl, h0, r0⟩ := trodAll_cons hA
  obtain ⟨v1, vs1, d1, ds1, p1, q1, rfl, rfl, rfl, h1, r1⟩ := trodAll_cons r0
  obtain ⟨v2, vs2, d2, ds2, p2, q2, rfl, rfl, rfl, h2, r2⟩ := trodAll_cons r1
  obtain ⟨v3, vs3, d3, ds3, p3, q3, rfl, rfl, rfl, h3, r3⟩ := trodAll_cons r2
  obtain ⟨rfl, rfl, rfl⟩ := trodAll_nil r3
  obtain rfl : args = #[v0, v1, v2, v3] := by cases args; simp_all
  obtain ⟨sa, ca, ra, aca, ara, rfl, _, hc, hr⟩ := open_ref (hval 0 23 v0 rfl rfl) h0
  obtain ⟨sb, cb, rb, acb, arb, rfl, _, _, _⟩ := open_ref (hval 1 23 v1 rfl rfl) h1
  obtain ⟨x, rfl, _, _, wx⟩ := open_int Tryz.underlying3 (hval 2 3 v2 rfl rfl) h2
  obtain ⟨y, rfl, _, _, wy⟩ := open_int Tryz.underlying3 (hval 3 3 v3 rfl rfl) h3
  refine (move_any sa ca ra aca ara sb cb rb acb arb x y W hc hr (i64_range wx) (i64_range wy) hg).mono fun e W' ⟨he, hb⟩ => ?_
  exact ⟨_, he, law_post rfl (by kernel_rfl) rfl rfl hW' hb⟩

set_option maxRecDepth 100000 in
theorem move_met (os : Os) : laidMet Tryz.prog Rows.cellsMoveRow.laid ((World.laidAll Tryz.prog os Rows.cellsMoveRow.laid).forCall (fun _ _ => 0) ⟨#[], #[zeroRef, zeroRef, .int .i64 0, .int .i64 0], []⟩).memory := laidMet_laidAll _ (by kernel_rfl) (by kernel_rfl)
set_option maxRecDepth 100000 in
theorem move_reads (os : Os) {H : Type} (enc : TypeId × Value → H) : ∃ places, DataW.whole enc Tryz.prog ((World.laidAll Tryz.prog os Rows.cellsMoveRow.laid).forCall (fun _ _ => 0) ⟨#[], #[zeroRef, zeroRef, .int .i64 0, .int .i64 0], []⟩).memory Tryz.f5.params.toList Rows.cellsMoveSpec.vars false #[zeroRef, zeroRef, Value.int .i64 0, Value.int .i64 0].toList 8 = some ([.agg [.lit (.string []), .lit (.int .i64 0), .lit (.int .i64 0), .lit (.bool false), .lit (.bool false)], .agg [.lit (.string []), .lit (.int .i64 0), .lit (.int .i64 0), .lit (.bool false), .lit (.bool false)], .lit (.int .i64 0), .lit (.int .i64 0)], [], places) :=
  ⟨[], by kernel_rfl⟩

set_option maxRecDepth 100000 in
theorem move_lifted (os : Os) (started : os.Started) (H : Type) (enc : TypeId × Value → H) (F : Stop.Interp) :
    ReturnsInHanded {} Tryz.checked os 5 .any ((OpenSpec.ofChange Rows.cellsMoveSpec).preRow enc Tryz.prog Tryz.f5 Rows.cellsMoveRow.domain false Rows.cellsMoveRow.laid) (((OpenSpec.ofChange Rows.cellsMoveSpec).at F).post enc Tryz.prog Tryz.f5 false true false false) := by
  obtain ⟨places, hx⟩ := move_reads os enc
  refine returnsInHanded_of_row (C := Tryz.checked) (s := OpenSpec.ofChange Rows.cellsMoveSpec) own started (by kernel_rfl) Tryz.func5
    (witness_row_atRef (enc := enc) (C := Tryz.checked) false (World.laidAll Tryz.prog os Rows.cellsMoveRow.laid) #[zeroRef, zeroRef, .int .i64 0, .int .i64 0] (World.laidAll_os _ _ _) (by kernel_rfl) (by kernel_rfl) (by kernel_rfl)
      (OpenSpec.preRow_of_cond 8 hx (by kernel_rfl) (fun k hk => by cases hk) (by kernel_rfl) (move_met os))) ?_
  intro W base args ds gs before hval hW _ _ _ hL hsh _
  exact move_contract H enc W base args ds gs before hval hW (glob_of (by kernel_rfl) hL hsh)

theorem move_said : Rows.CellsMoveSaid :=
  OpenClaim.holds_of_cond 5 Tryz.f5 rfl rfl rfl rfl rfl rfl rfl ⟨rfl, rfl, rfl, rfl, rfl⟩ rfl rfl rfl rfl rfl (by kernel_rfl) Tryz.func5 (by kernel_rfl)
    (of_decide_eq_true (by kernel_rfl)) (by unfold Func.isWrapper; first | (rw [if_pos (by decide +kernel)]; kernel_rfl) | (rw [if_neg (by decide +kernel)]; exact ⟨rfl, rfl⟩))
    (fun os started H enc _ F => by rw [OpenClaim.pre_eq_preRow]; exact move_lifted os started H enc F)

theorem move_plain (f : FuncId) (fn : Func) (hf : Tryz.pinned.checked.prog.funcNamed "quire/quirelaw10.CellsMove" = some f) (hfn : Tryz.pinned.checked.prog.funcs[f]? = some fn) :
    true = Tryz.pinned.checked.prog.looks [] ∧ ∀ (j : Nat) t, fn.params[j]? = some t → Tryz.pinned.checked.prog.wantsStandIn t = false := by
  obtain rfl : f = 5 := Option.some.inj ((show Tryz.prog.funcNamed "quire/quirelaw10.CellsMove" = some 5 by kernel_rfl).symm.trans hf) |>.symm
  obtain rfl : fn = Tryz.f5 := (Option.some.inj (Tryz.func5.symm.trans hfn)).symm
  refine ⟨by kernel_rfl, fun j t ht => ?_⟩
  have hall : (Tryz.f5.params.toList.all fun t => !Tryz.prog.wantsStandIn t) = true := by kernel_rfl
  have := List.all_eq_true.1 hall t (by simpa using Array.mem_of_getElem? ht)
  show Tryz.prog.wantsStandIn t = false
  simpa using this

/-- The tied card of CellsMove. -/
theorem cellsMove_holds : Rows.CellsMoveCardSaid :=
  Claim7.holds_tied_plain_at .later [] _ _ _ _ move_said (fun _ h => by cases h) (by kernel_rfl) (fun _ h => by cases h) cellsMove_row_tie rfl ⟨rfl, rfl⟩ (by kernel_rfl) rfl move_plain (by kernel_rfl)
end Go.Proofs.YtmicenegjfnbmaaGreatDoor
