/- CellsParse holds, for inputs of bulk at most 1048576: the program and the document's answer take the same texts for references and ranges, and read them alike. Conditions: the row's own (the bulk's bound; the listed variables of Go's library hold what the program's text lays: tied by the card). -/
import Derived.Test.YtmicenegjfnbmaaGreatDoorRpb
import Derived.Test.YtmicenegjfnbmaaGreatDoorCn
import Derived.Test.YtmicenegjfnbmaaGreatDoorCp
import Derived.Test.YtmicenegjfnbmaaGreatDoorLaw
import Derived.Test.YtmicenegjfnbmaaGreatDoorCards
import Derived.Test.YtmicenegjfnbmaaGreatDoorTie
namespace Go.Proofs.YtmicenegjfnbmaaGreatDoor
open Go.ChangeShapes Go.WideShapes Go.ChangeAt Go.RowKit Go.Joins Go.Deep Go.Lib
open Go.ChangeMaps (open_string shut_string)

set_option maxRecDepth 100000 in
set_option maxHeartbeats 16000000 in
theorem parse_walk (s : ByteArray) (sx : ByteArray) (cx rx : Int) (acx arx : Bool) (ex : Int) (sy : ByteArray) (cy ry : Int) (acy ary : Bool) (sz : ByteArray) (cz rz : Int) (acz arz : Bool) (ey : Int) (w : World)
    (C1 : Hid (∀ w, Glob w → Calls Tryz.prog 21 #[.string s] w (Q (.tuple #[refV sx cx rx acx arx, .int .i64 ex]) w)))
    (C2 : Hid (∀ w, Calls Tryz.prog 22 #[.string s] w (Q (.tuple #[refV sx cx rx acx arx, .int .i64 ex]) w)))
    (C3 : Hid (∀ w, Glob w → Calls Tryz.prog 23 #[.string s] w (Q (.tuple #[refV sy cy ry acy ary, refV sz cz rz acz arz, .int .i64 ey]) w)))
    (C4 : Hid (∀ w, Calls Tryz.prog 24 #[.string s] w (Q (.tuple #[refV sy cy ry acy ary, refV sz cz rz acz arz, .int .i64 ey]) w)))
    (hg : Glob w) :
    Calls Tryz.prog 4 #[.string s] w (Q (.bool true) w) := by
  have HG := Lib.hid hg
  have HG0 := Lib.hid hg
  clear hg
  go_enter Tryz.func4, Tryz.ntmps4
  go_wp2_with fail
  refine (C1.out _ HG.out).mono ?_
  rintro e w1 ⟨rfl, hb⟩
  have HB := Lib.hid hb
  clear hb C1
  have hA := (Below.refl w1.heap.size w1).alloc (Nat.le_refl _) (.cells #[.string sx, .int .i64 cx, .int .i64 rx, .bool acx, .bool arx] 23)
  have R1 := Lib.hid (RefAt.new w1 sx cx rx acx arx)
  replace HB := Lib.hid (bt HB.out hA)
  clear hA
  go_wp2_with fail
  refine (C2.out _).mono ?_
  rintro e w2 ⟨rfl, hb⟩
  have hA := (Below.refl w2.heap.size w2).alloc (Nat.le_refl _) (.cells #[.string sx, .int .i64 cx, .int .i64 rx, .bool acx, .bool arx] 23)
  replace R1 := Lib.hid ((R1.out.below hb).below hA)
  have R2 := Lib.hid (RefAt.new w2 sx cx rx acx arx)
  replace HB := Lib.hid (bt (bt HB.out hb) hA)
  replace HG := Lib.hid (HG0.out.below HB.out)
  clear hb hA C2
  go_wp2_with fail
  refine (C3.out _ HG.out).mono ?_
  rintro e w3 ⟨rfl, hb⟩
  have hA := ((Below.refl w3.heap.size w3).alloc (Nat.le_refl _) (.cells #[.string sy, .int .i64 cy, .int .i64 ry, .bool acy, .bool ary] 23)).alloc (by simp) (.cells #[.string sz, .int .i64 cz, .int .i64 rz, .bool acz, .bool arz] 23)
  replace R1 := Lib.hid ((R1.out.below hb).below hA)
  replace R2 := Lib.hid ((R2.out.below hb).below hA)
  have R3 := Lib.hid (W2_a sy cy ry acy ary sz cz rz acz arz w3)
  have R4 := Lib.hid (W2_b sy cy ry acy ary sz cz rz acz arz w3)
  unfold W2 at R3 R4
  replace HB := Lib.hid (bt (bt HB.out hb) hA)
  clear hb hA C3
  go_wp2_with fail
  refine (C4.out _).mono ?_
  rintro e w4 ⟨rfl, hb⟩
  have hA := ((Below.refl w4.heap.size w4).alloc (Nat.le_refl _) (.cells #[.string sy, .int .i64 cy, .int .i64 ry, .bool acy, .bool ary] 23)).alloc (by simp) (.cells #[.string sz, .int .i64 cz, .int .i64 rz, .bool acz, .bool arz] 23)
  have r1 := R1.out.below hb
  have r2 := R2.out.below hb
  have r3 := R3.out.below hb
  have r4 := R4.out.below hb
  replace HB := Lib.hid (bt (bt HB.out hb) hA)
  replace HG := Lib.hid (HG0.out.below HB.out)
  clear hb hA C4 R1 R2 R3 R4
  obtain ⟨p0, p1, p2, p3, p4, pf, pl⟩ := r1
  obtain ⟨t0, t1, t2, t3, t4, tf, tl⟩ := r2
  obtain ⟨u0, u1, u2, u3, u4, uf, ul⟩ := r3
  obtain ⟨v0, v1, v2, v3, v4, vf, vl⟩ := r4
  go_wp2_with fail
  refine (alive_any _ HG.out).mono ?_
  rintro e w5 ⟨rfl, hb⟩
  replace HB := Lib.hid (bt HB.out hb)
  clear hb
  go_wp2_with fail
  go_ret
  exact ⟨rfl, HB.out⟩

theorem parse_law (s : ByteArray) (w : World) (hs : s.size ≤ 4294967280) (hg : Glob w) :
    Calls Tryz.prog 4 #[.string s] w (Q (.bool true) w) := by
  have C1 := fun w hg => parse_any s w hs hg
  have C2 := fun w => refParse_any s w hs
  have C3 := fun w hg => parseRange_any s w hs hg
  have C4 := fun w => refParseRange_any s w hs
  exact parse_walk s _ _ _ _ _ _ _ _ _ _ _ _ _ _ _ _ _ w (Lib.hid C1) (Lib.hid C2) (Lib.hid C3) (Lib.hid C4) hg

set_option maxRecDepth 100000 in
theorem parse_contract (H : Type) (enc : TypeId × Value → H) (W : World) (base : Nat) (args : Array Value) (ds gs : List (DataW H)) (before : List MemPlace)
    (hval : ∀ (j : Nat) t v, Tryz.f4.params[j]? = some t → args[j]? = some v → Value.okWide Tryz.prog W .any base t v)
    (hW : DataW.Whole enc Tryz.prog Tryz.f4.params.toList Rows.cellsParseSpec.vars false W args.toList ds gs before) (hk : Rows.uptoSmall H (ds ++ gs) = true) (hg : Glob W) :
    Calls Tryz.prog 4 args W fun e W' => ∃ v, e = .returned v ∧ Rows.cellsParseSpec.post enc Tryz.prog Tryz.f4 false true false false W args v W' := by
  have hW' := hW
  obtain ⟨p, q, hA0, hV, rfl, hfz, hnd⟩ := hW
  have hA : DataW.TrodAll enc Tryz.prog W 0 (fun _ => true) true Tryz.f4.params.toList args.toList ds p := hA0
  obtain ⟨rfl, rfl⟩ := trodVars_none hV
  rw [Tryz.params4] at hA hval
  obtain ⟨v0, vs0, d0, ds0, p0, q0, hargs, rfl, rfl, h0, r0⟩ := trodAll_cons hA
  obtain ⟨rfl, rfl, rfl⟩ := trodAll_nil r0
  obtain rfl : args = #[v0] := by cases args; simp_all
  obtain ⟨s, rfl, rfl, _⟩ := open_string Tryz.underlying9 (hval 0 9 v0 rfl rfl) h0
  have hs : s.size ≤ 4294967280 := by
    have h : Rows.uptoBulkAll ([.lit (.string s.data.toList)] ++ []) ≤ 1048576 := of_decide_eq_true hk
    simp only [List.append_nil, Rows.uptoBulkAll, Rows.uptoBulk] at h
    have e : s.data.toList.length = s.size := by rw [Array.length_toList]; rfl
    omega
  refine (parse_law s W hs hg).mono fun e W' ⟨he, hb⟩ => ?_
  exact ⟨_, he, law_post rfl (by kernel_rfl) rfl rfl hW' hb⟩

set_option maxRecDepth 100000 in
theorem parse_met (os : Os) : laidMet Tryz.prog Rows.cellsParseUptoRow.laid ((World.laidAll Tryz.prog os Rows.cellsParseUptoRow.laid).forCall (fun _ _ => 0) ⟨#[], #[.string ⟨#[]⟩], []⟩).memory := laidMet_laidAll _ (by kernel_rfl) (by kernel_rfl)
set_option maxRecDepth 100000 in
theorem parse_reads (os : Os) {H : Type} (enc : TypeId × Value → H) : ∃ places, DataW.whole enc Tryz.prog ((World.laidAll Tryz.prog os Rows.cellsParseUptoRow.laid).forCall (fun _ _ => 0) ⟨#[], #[.string ⟨#[]⟩], []⟩).memory Tryz.f4.params.toList Rows.cellsParseSpec.vars false #[Value.string ⟨#[]⟩].toList 8 = some ([.lit (.string [])], [], places) :=
  ⟨[], by kernel_rfl⟩

set_option maxRecDepth 100000 in
theorem parse_lifted (os : Os) (started : os.Started) (H : Type) (enc : TypeId × Value → H) (F : Stop.Interp) :
    ReturnsInHanded {} Tryz.checked os 4 .any ((Rows.OpenSpec.upto Rows.cellsParseSpec).preRow enc Tryz.prog Tryz.f4 Rows.cellsParseUptoRow.domain false Rows.cellsParseUptoRow.laid) (((Rows.OpenSpec.upto Rows.cellsParseSpec).at F).post enc Tryz.prog Tryz.f4 false true false false) := by
  obtain ⟨places, hx⟩ := parse_reads os enc
  refine returnsInHanded_of_row (C := Tryz.checked) (s := Rows.OpenSpec.upto Rows.cellsParseSpec) own started (by kernel_rfl) Tryz.func4
    (witness_row_atRef (enc := enc) (C := Tryz.checked) false (World.laidAll Tryz.prog os Rows.cellsParseUptoRow.laid) #[.string ⟨#[]⟩] (World.laidAll_os _ _ _) (by kernel_rfl) (by kernel_rfl) (by kernel_rfl)
      (OpenSpec.preRow_of_cond 8 hx (by kernel_rfl) (fun k hk => by cases hk; kernel_rfl) (by kernel_rfl) (parse_met os))) ?_
  intro W base args ds gs before hval hW _ hcond _ hL hsh _
  exact parse_contract H enc W base args ds gs before hval hW (hcond _ rfl) (glob_of (by kernel_rfl) hL hsh)

theorem parse_said : Rows.CellsParseUptoSaid :=
  OpenClaim.holds_of_cond 4 Tryz.f4 rfl rfl rfl rfl rfl rfl rfl ⟨rfl, rfl, rfl, rfl, rfl⟩ rfl rfl rfl rfl rfl (by kernel_rfl) Tryz.func4 (by kernel_rfl)
    (of_decide_eq_true (by kernel_rfl)) (by unfold Func.isWrapper; first | (rw [if_pos (by decide +kernel)]; kernel_rfl) | (rw [if_neg (by decide +kernel)]; exact ⟨rfl, rfl⟩))
    (fun os started H enc _ F => by rw [OpenClaim.pre_eq_preRow]; exact parse_lifted os started H enc F)

theorem parse_plain (f : FuncId) (fn : Func) (hf : Tryz.pinned.checked.prog.funcNamed "quire/quirelaw10.CellsParse" = some f) (hfn : Tryz.pinned.checked.prog.funcs[f]? = some fn) :
    true = Tryz.pinned.checked.prog.looks [] ∧ ∀ (j : Nat) t, fn.params[j]? = some t → Tryz.pinned.checked.prog.wantsStandIn t = false := by
  obtain rfl : f = 4 := Option.some.inj ((show Tryz.prog.funcNamed "quire/quirelaw10.CellsParse" = some 4 by kernel_rfl).symm.trans hf) |>.symm
  obtain rfl : fn = Tryz.f4 := (Option.some.inj (Tryz.func4.symm.trans hfn)).symm
  refine ⟨by kernel_rfl, fun j t ht => ?_⟩
  have hall : (Tryz.f4.params.toList.all fun t => !Tryz.prog.wantsStandIn t) = true := by kernel_rfl
  have := List.all_eq_true.1 hall t (by simpa using Array.mem_of_getElem? ht)
  show Tryz.prog.wantsStandIn t = false
  simpa using this

/-- The tied card of CellsParse, in the second form. -/
theorem cellsParse_holds : Rows.CellsParseUptoCardSaid :=
  Claim7.holds_tied_plain_at .later [] _ _ _ _ parse_said (fun _ h => by cases h) (by kernel_rfl) (fun _ h => by cases h) cellsParseUpto_row_tie rfl ⟨rfl, rfl⟩ (by kernel_rfl) rfl parse_plain (by kernel_rfl)
end Go.Proofs.YtmicenegjfnbmaaGreatDoor
