/- CellsPrint holds, for inputs of bulk at most 1048576: the program and the document's answer write references, ranges, columns and sheets' names alike. Conditions: the row's own (the bulk's bound; the listed variables of Go's library hold what the program's text lays: tied by the card). -/
import Derived.Test.YtmicenegjfnbmaaGreatDoorPrW
import Derived.Test.YtmicenegjfnbmaaGreatDoorLaw
import Derived.Test.YtmicenegjfnbmaaGreatDoorCards
import Derived.Test.YtmicenegjfnbmaaGreatDoorTie
namespace Go.Proofs.YtmicenegjfnbmaaGreatDoor
open Go.ChangeShapes Go.WideShapes Go.ChangeAt Go.RowKit Go.Joins Go.Deep Go.Lib
open Go.ChangeMaps (open_string shut_string)

theorem print_law (sa : ByteArray) (ca ra : Int) (aca ara : Bool) (sb : ByteArray) (cb rb : Int) (acb arb : Bool) (n : Int) (s : ByteArray) (w : World)
    (hc : -9223372036854775808 ≤ ca) (hr : -9223372036854775808 ≤ ra ∧ ra ≤ 9223372036854775807) (kc : -9223372036854775808 ≤ cb) (kr : -9223372036854775808 ≤ rb ∧ rb ≤ 9223372036854775807)
    (hn : -9223372036854775808 ≤ n) (hs : s.size ≤ 4294967280) (hg : Glob w) :
    Calls Tryz.prog 3 #[refV sa ca ra aca ara, refV sb cb rb acb arb, .int .i64 n, .string s] w (Q (.bool true) w) :=
  print_walk sa ca ra aca ara sb cb rb acb arb n s _ _ _ _ _ _ _ _ w (Lib.hid fun w => (col_any s w).mono fun _ _ ⟨he, hw⟩ => ⟨he, by rw [← hw]; exact Below.refl _ _⟩) (Lib.hid fun w => refCol_any s w)
    (Lib.hid fun w hg => print_any sa ca ra aca ara w hc hr.1 hr.2 hg) (Lib.hid fun w hg => refPrint_any sa ca ra aca ara w hr.1 hr.2 hg)
    (Lib.hid fun w hg => printRange_any sa ca ra aca ara sb cb rb acb arb w hc hr.1 hr.2 kc kr.1 kr.2 hg) (Lib.hid fun w hg => refPrintRange_any sa ca ra aca ara sb cb rb acb arb w hr.1 hr.2 kr.1 kr.2 hg)
    (Lib.hid fun w _ => letters_any n w hn) (Lib.hid fun w _ => refLetters_any n w) (Lib.hid fun w hg => quote_any s w hs hg) (Lib.hid fun w _ => refQuote_any s w hs)
    (Lib.hid fun w _ => sheetName_any s w) (Lib.hid fun w _ => refSheetName_any s w) (Lib.hid fun w _ => right_any sa ca ra aca ara w) (Lib.hid fun w _ => refRight_any sa ca ra aca ara w) hg

set_option maxRecDepth 100000 in
theorem print_contract (H : Type) (enc : TypeId × Value → H) (W : World) (base : Nat) (args : Array Value) (ds gs : List (DataW H)) (before : List MemPlace)
    (hval : ∀ (j : Nat) t v, Tryz.f3.params[j]? = some t → args[j]? = some v → Value.okWide Tryz.prog W .any base t v)
    (hW : DataW.Whole enc Tryz.prog Tryz.f3.params.toList Rows.cellsPrintSpec.vars false W args.toList ds gs before) (hk : Rows.uptoSmall H (ds ++ gs) = true) (hg : Glob W) :
    Calls Tryz.prog 3 args W fun e W' => ∃ v, e = .returned v ∧ Rows.cellsPrintSpec.post enc Tryz.prog Tryz.f3 false true false false W args v W' := by
  have hW' := hW
  obtain ⟨p, q, hA0, hV, rfl, hfz, hnd⟩ := hW
  have hA : DataW.TrodAll enc Tryz.prog W 0 (fun _ => true) true Tryz.f3.params.toList args.toList ds p := hA0
  obtain ⟨rfl, rfl⟩ := trodVars_none hV
  rw [Tryz.params3] at hA hval
  obtain ⟨v0, vs0, d0, ds0, p0, q0, hargs, rfl, rfl, h0, r0⟩ := trodAll_cons hA
  obtain ⟨v1, vs1, d1, ds1, p1, q1, rfl, rfl, rfl, h1, r1⟩ := trodAll_cons r0
  obtain ⟨v2, vs2, d2, ds2, p2, q2, rfl, rfl, rfl, h2, r2⟩ := trodAll_cons r1
  obtain ⟨v3, vs3, d3, ds3, p3, q3, rfl, rfl, rfl, h3, r3⟩ := trodAll_cons r2
  obtain ⟨rfl, rfl, rfl⟩ := trodAll_nil r3
  obtain rfl : args = #[v0, v1, v2, v3] := by cases args; simp_all
  obtain ⟨sa, ca, ra, aca, ara, rfl, _, hc, hr⟩ := open_ref (hval 0 23 v0 rfl rfl) h0
  obtain ⟨sb, cb, rb, acb, arb, rfl, _, kc, kr⟩ := open_ref (hval 1 23 v1 rfl rfl) h1
  obtain ⟨x, rfl, _, _, wx⟩ := open_int Tryz.underlying3 (hval 2 3 v2 rfl rfl) h2
  obtain ⟨s, rfl, rfl, _⟩ := open_string Tryz.underlying9 (hval 3 9 v3 rfl rfl) h3
  have hs : s.size ≤ 4294967280 := by
    have h : Rows.uptoBulkAll ([d0, d1, d2, .lit (.string s.data.toList)] ++ []) ≤ 1048576 := of_decide_eq_true hk
    simp only [List.append_nil, Rows.uptoBulkAll, Rows.uptoBulk] at h
    have e : s.data.toList.length = s.size := by rw [Array.length_toList]; rfl
    omega
  refine (print_law sa ca ra aca ara sb cb rb acb arb x s W hc.1 hr kc.1 kr (i64_range wx).1 hs hg).mono fun e W' ⟨he, hb⟩ => ?_
  exact ⟨_, he, law_post rfl (by kernel_rfl) rfl rfl hW' hb⟩

set_option maxRecDepth 100000 in
theorem print_met (os : Os) : laidMet Tryz.prog Rows.cellsPrintUptoRow.laid ((World.laidAll Tryz.prog os Rows.cellsPrintUptoRow.laid).forCall (fun _ _ => 0) ⟨#[], #[zeroRef, zeroRef, .int .i64 0, .string ⟨#[]⟩], []⟩).memory := laidMet_laidAll _ (by kernel_rfl) (by kernel_rfl)
set_option maxRecDepth 100000 in
theorem print_reads (os : Os) {H : Type} (enc : TypeId × Value → H) : ∃ places, DataW.whole enc Tryz.prog ((World.laidAll Tryz.prog os Rows.cellsPrintUptoRow.laid).forCall (fun _ _ => 0) ⟨#[], #[zeroRef, zeroRef, .int .i64 0, .string ⟨#[]⟩], []⟩).memory Tryz.f3.params.toList Rows.cellsPrintSpec.vars false #[zeroRef, zeroRef, Value.int .i64 0, Value.string ⟨#[]⟩].toList 8 = some ([.agg [.lit (.string []), .lit (.int .i64 0), .lit (.int .i64 0), .lit (.bool false), .lit (.bool false)], .agg [.lit (.string []), .lit (.int .i64 0), .lit (.int .i64 0), .lit (.bool false), .lit (.bool false)], .lit (.int .i64 0), .lit (.string [])], [], places) :=
  ⟨[], by kernel_rfl⟩

set_option maxRecDepth 100000 in
theorem print_lifted (os : Os) (started : os.Started) (H : Type) (enc : TypeId × Value → H) (F : Stop.Interp) :
    ReturnsInHanded {} Tryz.checked os 3 .any ((Rows.OpenSpec.upto Rows.cellsPrintSpec).preRow enc Tryz.prog Tryz.f3 Rows.cellsPrintUptoRow.domain false Rows.cellsPrintUptoRow.laid) (((Rows.OpenSpec.upto Rows.cellsPrintSpec).at F).post enc Tryz.prog Tryz.f3 false true false false) := by
  obtain ⟨places, hx⟩ := print_reads os enc
  refine returnsInHanded_of_row (C := Tryz.checked) (s := Rows.OpenSpec.upto Rows.cellsPrintSpec) own started (by kernel_rfl) Tryz.func3
    (witness_row_atRef (enc := enc) (C := Tryz.checked) false (World.laidAll Tryz.prog os Rows.cellsPrintUptoRow.laid) #[zeroRef, zeroRef, .int .i64 0, .string ⟨#[]⟩] (World.laidAll_os _ _ _) (by kernel_rfl) (by kernel_rfl) (by kernel_rfl)
      (OpenSpec.preRow_of_cond 8 hx (by kernel_rfl) (fun k hk => by cases hk; kernel_rfl) (by kernel_rfl) (print_met os))) ?_
  intro W base args ds gs before hval hW _ hcond _ hL hsh _
  exact print_contract H enc W base args ds gs before hval hW (hcond _ rfl) (glob_of (by kernel_rfl) hL hsh)

theorem print_said : Rows.CellsPrintUptoSaid :=
  OpenClaim.holds_of_cond 3 Tryz.f3 rfl rfl rfl rfl rfl rfl rfl ⟨rfl, rfl, rfl, rfl, rfl⟩ rfl rfl rfl rfl rfl (by kernel_rfl) Tryz.func3 (by kernel_rfl)
    (of_decide_eq_true (by kernel_rfl)) (by unfold Func.isWrapper; first | (rw [if_pos (by decide +kernel)]; kernel_rfl) | (rw [if_neg (by decide +kernel)]; exact ⟨rfl, rfl⟩))
    (fun os started H enc _ F => by rw [OpenClaim.pre_eq_preRow]; exact print_lifted os started H enc F)

theorem print_plain (f : FuncId) (fn : Func) (hf : Tryz.pinned.checked.prog.funcNamed "quire/quirelaw10.CellsPrint" = some f) (hfn : Tryz.pinned.checked.prog.funcs[f]? = some fn) :
    true = Tryz.pinned.checked.prog.looks [] ∧ ∀ (j : Nat) t, fn.params[j]? = some t → Tryz.pinned.checked.prog.wantsStandIn t = false := by
  obtain rfl : f = 3 := Option.some.inj ((show Tryz.prog.funcNamed "quire/quirelaw10.CellsPrint" = some 3 by kernel_rfl).symm.trans hf) |>.symm
  obtain rfl : fn = Tryz.f3 := (Option.some.inj (Tryz.func3.symm.trans hfn)).symm
  refine ⟨by kernel_rfl, fun j t ht => ?_⟩
  have hall : (Tryz.f3.params.toList.all fun t => !Tryz.prog.wantsStandIn t) = true := by kernel_rfl
  have := List.all_eq_true.1 hall t (by simpa using Array.mem_of_getElem? ht)
  show Tryz.prog.wantsStandIn t = false
  simpa using this

/-- The tied card of CellsPrint, in the second form. -/
theorem cellsPrint_holds : Rows.CellsPrintUptoCardSaid :=
  Claim7.holds_tied_plain_at .later [] _ _ _ _ print_said (fun _ h => by cases h) (by kernel_rfl) (fun _ h => by cases h) cellsPrintUpto_row_tie rfl ⟨rfl, rfl⟩ (by kernel_rfl) rfl print_plain (by kernel_rfl)
end Go.Proofs.YtmicenegjfnbmaaGreatDoor
