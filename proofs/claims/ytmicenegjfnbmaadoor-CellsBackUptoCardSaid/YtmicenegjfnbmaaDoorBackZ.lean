/- CellsBack holds, for inputs of bulk at most 1048576: what is written is read as it was, and what is read is what was written. Conditions: the row's own (the bulk's bound; the listed variables of Go's library hold what the program's text lays: tied by the card). -/
import Derived.Test.YtmicenegjfnbmaaDoorBackN
import Derived.Test.YtmicenegjfnbmaaDoorBackM
import Derived.Test.YtmicenegjfnbmaaDoorBackY
import Derived.Test.YtmicenegjfnbmaaDoorBk
import Derived.Test.YtmicenegjfnbmaaDoorLaw
import Derived.Test.YtmicenegjfnbmaaDoorCards
import Derived.Test.YtmicenegjfnbmaaDoorTie
namespace Go.Proofs.YtmicenegjfnbmaaDoor
open Go.ChangeShapes Go.WideShapes Go.ChangeAt Go.RowKit Go.Joins Go.Deep Go.Lib
open Go.ChangeMaps (open_string shut_string)

theorem right_bounds {sh : List UInt8} {c r : Int} (h : Pl.right sh c r = true) : -9223372036854775808 ≤ c ∧ -9223372036854775808 ≤ r ∧ r ≤ 9223372036854775807 := by
  have := Pl.right_col h
  omega

theorem print_small (sh : List UInt8) (c r : Int) (ac ar : Bool) (h : Pl.right sh c r = true) : (⟨(printF sh c r ac ar).toArray⟩ : ByteArray).size ≤ 4294967280 := by
  have hb := right_bounds h
  have := printF_le sh c r ac ar hb.2.1 hb.2.2
  rw [size_mk]; omega

theorem back_any (sa : ByteArray) (ca ra : Int) (aca ara : Bool) (sb : ByteArray) (cb rb : Int) (acb arb : Bool) (s : ByteArray) (w : World) (hs : s.size ≤ 4294967280) (hg : Glob w) :
    Calls Tryd.prog 4 #[refV sa ca ra aca ara, refV sb cb rb acb arb, .string s] w (Q (.bool true) w) := by
  rcases hx : parseF s.data.toList with ⟨ex, lx, cx, rx, acx, arx⟩
  have D1 : ∀ w, Glob w → Calls Tryd.prog 8 #[.string s] w (Q (.tuple #[refV ⟨lx.toArray⟩ cx rx acx arx, .int .i64 ex]) w) := by
    intro w hg
    have h := parse_any s w hs hg
    rw [hx] at h
    exact h
  have D2 : ex = 0 → (∀ w, Glob w → Calls Tryd.prog 9 #[refV ⟨lx.toArray⟩ cx rx acx arx] w (Q (.string s) w)) ∧ (∀ w, Calls Tryd.prog 7 #[refV ⟨lx.toArray⟩ cx rx acx arx] w (Q (.bool true) w)) := by
    intro he
    subst he
    obtain ⟨h1, h2⟩ := print_parse hx
    have hb := right_bounds h2
    refine ⟨fun w hg => ?_, fun w => ?_⟩
    · have h := print_any ⟨lx.toArray⟩ cx rx acx arx w hb.1 hb.2.1 hb.2.2 hg
      rw [show (⟨lx.toArray⟩ : ByteArray).data.toList = lx from rfl, h1, bytes_eq] at h
      exact h
    · have h := right_any ⟨lx.toArray⟩ cx rx acx arx w
      rw [show (⟨lx.toArray⟩ : ByteArray).data.toList = lx from rfl, h2] at h
      exact h
  have c1 := right_any sa ca ra aca ara
  cases hA : Pl.right sa.data.toList ca ra with
  | false =>
    rw [hA] at c1
    exact back_no sa ca ra aca ara sb cb rb acb arb s ex ⟨lx.toArray⟩ cx rx acx arx w (Lib.hid c1) (Lib.hid D1) D2 hg
  | true =>
    rw [hA] at c1
    have ha := right_bounds hA
    have C2 := fun w hg => print_any sa ca ra aca ara w ha.1 ha.2.1 ha.2.2 hg
    have C3 : ∀ w, Glob w → Calls Tryd.prog 8 #[.string ⟨(printF sa.data.toList ca ra aca ara).toArray⟩] w (Q (.tuple #[refV sa ca ra aca ara, .int .i64 0]) w) := by
      intro w hg
      have h := parse_any ⟨(printF sa.data.toList ca ra aca ara).toArray⟩ w (print_small _ _ _ _ _ hA) hg
      rw [show (⟨(printF sa.data.toList ca ra aca ara).toArray⟩ : ByteArray).data.toList = printF sa.data.toList ca ra aca ara from rfl, parse_print aca ara hA] at h
      unfold parseV at h
      dsimp only at h
      rw [bytes_eq] at h
      exact h
    have c4 := right_any sa cb rb acb arb
    cases hB : Pl.right sa.data.toList cb rb with
    | false =>
      rw [hB] at c4
      exact back_mid sa ca ra aca ara sb cb rb acb arb s ex ⟨lx.toArray⟩ cx rx acx arx w (Lib.hid c1) _ (Lib.hid C2) (Lib.hid C3) (Lib.hid c4) (Lib.hid D1) D2 hg
    | true =>
      rw [hB] at c4
      have hb := right_bounds hB
      have C5 := fun w hg => printRange_any sa ca ra aca ara sa cb rb acb arb w ha.1 ha.2.1 ha.2.2 hb.1 hb.2.1 hb.2.2 hg
      have hsz : (⟨(printRF sa.data.toList ca ra aca ara sa.data.toList cb rb acb arb).toArray⟩ : ByteArray).size ≤ 4294967280 := by
        have h1 := printF_le sa.data.toList ca ra aca ara ha.2.1 ha.2.2
        have h2 := bareF_le cb rb acb arb hb.2.1 hb.2.2
        rw [size_mk]
        unfold printRF
        split
        · decide
        · simp only [List.length_append, List.length_cons, List.length_nil]; omega
      have C6 : ∀ w, Glob w → Calls Tryd.prog 10 #[.string ⟨(printRF sa.data.toList ca ra aca ara sa.data.toList cb rb acb arb).toArray⟩] w (Q (.tuple #[refV sa ca ra aca ara, refV sa cb rb acb arb, .int .i64 0]) w) := by
        intro w hg
        have h := parseRange_any ⟨(printRF sa.data.toList ca ra aca ara sa.data.toList cb rb acb arb).toArray⟩ w hsz hg
        rw [show (⟨(printRF sa.data.toList ca ra aca ara sa.data.toList cb rb acb arb).toArray⟩ : ByteArray).data.toList = printRF sa.data.toList ca ra aca ara sa.data.toList cb rb acb arb from rfl, parse_range_print aca ara acb arb hA hB] at h
        unfold parseRV at h
        dsimp only at h
        rw [bytes_eq] at h
        exact h
      exact back_yes sa ca ra aca ara sb cb rb acb arb s ex ⟨lx.toArray⟩ cx rx acx arx w (Lib.hid c1) _ (Lib.hid C2) (Lib.hid C3) (Lib.hid c4) _ (Lib.hid C5) (Lib.hid C6) (Lib.hid D1) D2 hg

set_option maxRecDepth 100000 in
theorem back_contract (H : Type) (enc : TypeId × Value → H) (W : World) (base : Nat) (args : Array Value) (ds gs : List (DataW H)) (before : List MemPlace)
    (hval : ∀ (j : Nat) t v, Tryd.f4.params[j]? = some t → args[j]? = some v → Value.okWide Tryd.prog W .any base t v)
    (hW : DataW.Whole enc Tryd.prog Tryd.f4.params.toList Rows.cellsBackSpec.vars false W args.toList ds gs before) (hk : Rows.uptoSmall H (ds ++ gs) = true) (hg : Glob W) :
    Calls Tryd.prog 4 args W fun e W' => ∃ v, e = .returned v ∧ Rows.cellsBackSpec.post enc Tryd.prog Tryd.f4 false true false false W args v W' := by
  have hW' := hW
  obtain ⟨p, q, hA0, hV, rfl, hfz, hnd⟩ := hW
  have hA : DataW.TrodAll enc Tryd.prog W 0 (fun _ => true) true Tryd.f4.params.toList args.toList ds p := hA0
  obtain ⟨rfl, rfl⟩ := trodVars_none hV
  rw [Tryd.params4] at hA hval
  obtain ⟨v0, vs0, d0, ds0, p0, q0, hargs, rfl, rfl, h0, r0⟩ := trodAll_cons hA
  obtain ⟨v1, vs1, d1, ds1, p1, q1, rfl, rfl, rfl, h1, r1⟩ := trodAll_cons r0
  obtain ⟨v2, vs2, d2, ds2, p2, q2, rfl, rfl, rfl, h2, r2⟩ := trodAll_cons r1
  obtain ⟨rfl, rfl, rfl⟩ := trodAll_nil r2
  obtain rfl : args = #[v0, v1, v2] := by cases args; simp_all
  obtain ⟨sa, ca, ra, aca, ara, rfl, _, _, _⟩ := open_ref (hval 0 23 v0 rfl rfl) h0
  obtain ⟨sb, cb, rb, acb, arb, rfl, _, _, _⟩ := open_ref (hval 1 23 v1 rfl rfl) h1
  obtain ⟨s, rfl, rfl, _⟩ := open_string Tryd.underlying9 (hval 2 9 v2 rfl rfl) h2
  have hs : s.size ≤ 4294967280 := by
    have h : Rows.uptoBulkAll ([d0, d1, .lit (.string s.data.toList)] ++ []) ≤ 1048576 := of_decide_eq_true hk
    simp only [List.append_nil, Rows.uptoBulkAll, Rows.uptoBulk] at h
    have e : s.data.toList.length = s.size := by rw [Array.length_toList]; rfl
    omega
  refine (back_any sa ca ra aca ara sb cb rb acb arb s W hs hg).mono fun e W' ⟨he, hb⟩ => ?_
  exact ⟨_, he, law_post rfl (by kernel_rfl) rfl rfl hW' hb⟩

set_option maxRecDepth 100000 in
theorem back_met (os : Os) : laidMet Tryd.prog Rows.cellsBackUptoRow.laid ((World.laidAll Tryd.prog os Rows.cellsBackUptoRow.laid).forCall (fun _ _ => 0) ⟨#[], #[zeroRef, zeroRef, .string ⟨#[]⟩], []⟩).memory := laidMet_laidAll _ (by kernel_rfl) (by kernel_rfl)
set_option maxRecDepth 100000 in
theorem back_reads (os : Os) {H : Type} (enc : TypeId × Value → H) : ∃ places, DataW.whole enc Tryd.prog ((World.laidAll Tryd.prog os Rows.cellsBackUptoRow.laid).forCall (fun _ _ => 0) ⟨#[], #[zeroRef, zeroRef, .string ⟨#[]⟩], []⟩).memory Tryd.f4.params.toList Rows.cellsBackSpec.vars false #[zeroRef, zeroRef, Value.string ⟨#[]⟩].toList 8 = some ([.agg [.lit (.string []), .lit (.int .i64 0), .lit (.int .i64 0), .lit (.bool false), .lit (.bool false)], .agg [.lit (.string []), .lit (.int .i64 0), .lit (.int .i64 0), .lit (.bool false), .lit (.bool false)], .lit (.string [])], [], places) :=
  ⟨[], by kernel_rfl⟩

set_option maxRecDepth 100000 in
theorem back_lifted (os : Os) (started : os.Started) (H : Type) (enc : TypeId × Value → H) (F : Stop.Interp) :
    ReturnsInHanded {} Tryd.checked os 4 .any ((Rows.OpenSpec.upto Rows.cellsBackSpec).preRow enc Tryd.prog Tryd.f4 Rows.cellsBackUptoRow.domain false Rows.cellsBackUptoRow.laid) (((Rows.OpenSpec.upto Rows.cellsBackSpec).at F).post enc Tryd.prog Tryd.f4 false true false false) := by
  obtain ⟨places, hx⟩ := back_reads os enc
  refine returnsInHanded_of_row (C := Tryd.checked) (s := Rows.OpenSpec.upto Rows.cellsBackSpec) own started (by kernel_rfl) Tryd.func4
    (witness_row_atRef (enc := enc) (C := Tryd.checked) false (World.laidAll Tryd.prog os Rows.cellsBackUptoRow.laid) #[zeroRef, zeroRef, .string ⟨#[]⟩] (World.laidAll_os _ _ _) (by kernel_rfl) (by kernel_rfl) (by kernel_rfl)
      (OpenSpec.preRow_of_cond 8 hx (by kernel_rfl) (fun k hk => by cases hk; kernel_rfl) (by kernel_rfl) (back_met os))) ?_
  intro W base args ds gs before hval hW _ hcond _ hL hsh _
  exact back_contract H enc W base args ds gs before hval hW (hcond _ rfl) (glob_of (by kernel_rfl) hL hsh)

theorem back_said : Rows.CellsBackUptoSaid :=
  OpenClaim.holds_of_cond 4 Tryd.f4 rfl rfl rfl rfl rfl rfl rfl ⟨rfl, rfl, rfl, rfl, rfl⟩ rfl rfl rfl rfl rfl (by kernel_rfl) Tryd.func4 (by kernel_rfl)
    (of_decide_eq_true (by kernel_rfl)) (by unfold Func.isWrapper; first | (rw [if_pos (by decide +kernel)]; kernel_rfl) | (rw [if_neg (by decide +kernel)]; exact ⟨rfl, rfl⟩))
    (fun os started H enc _ F => by rw [OpenClaim.pre_eq_preRow]; exact back_lifted os started H enc F)

theorem back_plain (f : FuncId) (fn : Func) (hf : Tryd.pinned.checked.prog.funcNamed "quire/quirelaw10.CellsBack" = some f) (hfn : Tryd.pinned.checked.prog.funcs[f]? = some fn) :
    true = Tryd.pinned.checked.prog.looks [] ∧ ∀ (j : Nat) t, fn.params[j]? = some t → Tryd.pinned.checked.prog.wantsStandIn t = false := by
  obtain rfl : f = 4 := Option.some.inj ((show Tryd.prog.funcNamed "quire/quirelaw10.CellsBack" = some 4 by kernel_rfl).symm.trans hf) |>.symm
  obtain rfl : fn = Tryd.f4 := (Option.some.inj (Tryd.func4.symm.trans hfn)).symm
  refine ⟨by kernel_rfl, fun j t ht => ?_⟩
  have hall : (Tryd.f4.params.toList.all fun t => !Tryd.prog.wantsStandIn t) = true := by kernel_rfl
  have := List.all_eq_true.1 hall t (by simpa using Array.mem_of_getElem? ht)
  show Tryd.prog.wantsStandIn t = false
  simpa using this

/-- The tied card of CellsBack, in the second form. -/
theorem cellsBack_holds : Rows.CellsBackUptoCardSaid :=
  Claim7.holds_tied_plain_at .later [] _ _ _ _ back_said (fun _ h => by cases h) (by kernel_rfl) (fun _ h => by cases h) cellsBackUpto_row_tie rfl ⟨rfl, rfl⟩ (by kernel_rfl) rfl back_plain (by kernel_rfl)
end Go.Proofs.YtmicenegjfnbmaaDoor
