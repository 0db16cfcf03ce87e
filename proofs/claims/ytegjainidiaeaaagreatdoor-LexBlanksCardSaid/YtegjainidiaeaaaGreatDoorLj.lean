/- lex.word. -/
import Derived.Test.YtegjainidiaeaaaGreatDoorLi
namespace Go.Proofs.YtegjainidiaeaaaGreatDoor
open Go.RowKit Go.Lib

set_option maxRecDepth 100000 in
set_option maxHeartbeats 8000000 in
theorem lexWord_core (s wd r : ByteArray) (n d : Nat) (b1 b2 b3 b4 g q : Bool) (pe pc pr : Int) (psh : ByteArray) (pa pb : Bool) (sh : ByteArray) (ek co ro : Int) (ac ar : Bool) (sh2 : ByteArray) (ek2 co2 ro2 : Int) (ac2 ar2 : Bool) (w : World) (hs : s.size ≤ 512) (hns : n ≤ s.size)
    (hwd : s.extract 0 n = wd) (hr : s.extract n s.size = r)
    (C1 : Hid (∀ w, Calls Tryz.prog 24 #[.string s, .string wordS] w (Q (.int .i64 (n : Int)) w)))
    (C2 : Hid (∀ w, Calls Tryz.prog 25 #[.string r, .string ⟨#[33]⟩] w fun e w' => e = .returned (.bool b1) ∧ w = w'))
    (C3 : Hid (∀ w, Calls Tryz.prog 37 #[.string wd, .string ⟨#[36, 46]⟩] w (Q (.bool b2) w)))
    (hgg : g = (b1 && !b2)) (hr1 : b1 = true → 1 ≤ r.size)
    (hd : g = true → n + 1 + d ≤ s.size)
    (C4 : Hid (∀ w, Calls Tryz.prog 24 #[.string (r.extract 1 r.size), .string cellS] w (Q (.int .i64 d) w)))
    (C5 : Hid (g = true → ∀ w, Glob w → Calls Tryz.prog 36 #[.string s, .int .i64 ((n + 1 + d : Nat) : Int)] w (Q (.tuple #[tok10 3 0 ⟨#[]⟩ 0 0 sh co ro ac ar, .int .i64 ((n + 1 + d : Nat) : Int), .int .i64 ek]) w)))
    (C6 : Hid (∀ w, Glob w → Calls Tryz.prog 38 #[.string wd] w (Q (.tuple #[refV psh pc pr pa pb, .int .i64 pe]) w)))
    (C7 : Hid (∀ w, Calls Tryz.prog 25 #[.string r, .string ⟨#[40]⟩] w fun e w' => e = .returned (.bool b3) ∧ w = w'))
    (hq : q = ((pe != 40) && !b3))
    (C8 : Hid (∀ w, Glob w → Calls Tryz.prog 36 #[.string s, .int .i64 (n : Int)] w (Q (.tuple #[tok10 3 0 ⟨#[]⟩ 0 0 sh2 co2 ro2 ac2 ar2, .int .i64 (n : Int), .int .i64 ek2]) w)))
    (C9 : Hid (∀ w, Calls Tryz.prog 14 #[.string wd, .string ⟨#[36]⟩] w fun e w' => e = .returned (.bool b4) ∧ w' = w))
    (V : Value) (HVa : Hid (g = true → V = .tuple #[tok10 3 0 ⟨#[]⟩ 0 0 sh co ro ac ar, .int .i64 ((n + 1 + d : Nat) : Int), .int .i64 ek]))
    (HVb : Hid (g = false → q = true → V = .tuple #[tok10 3 0 ⟨#[]⟩ 0 0 sh2 co2 ro2 ac2 ar2, .int .i64 (n : Int), .int .i64 ek2]))
    (HVc : Hid (g = false → q = false → b4 = true → V = .tuple #[.agg zero10, .int .i64 0, .int .i64 40]))
    (HVd : Hid (g = false → q = false → b4 = false → V = .tuple #[tok10 4 0 wd 0 0 ⟨#[]⟩ 0 0 false false, .int .i64 (n : Int), .int .i64 0]))
    (hg : Glob w) :
    Calls Tryz.prog 19 #[.string s] w (Q V w) := by
  have R1 := Lib.hid (zero10_new w).1
  have HB := Lib.hid (zero10_new w).2
  have HG := Lib.hid hg
  have HD := Lib.hid hd
  have HGG := Lib.hid hgg
  have HQ := Lib.hid hq
  have HW := Lib.hid hwd
  have HR := Lib.hid hr
  have HR1 := Lib.hid hr1
  clear hg hd hgg hq hwd hr hr1
  go_enter Tryz.func19, Tryz.ntmps19
  go_wp2_with fail
  refine (C1.out _).mono ?_
  rintro e w1 ⟨rfl, hb⟩
  replace R1 := Lib.hid (R1.out.below hb)
  replace HB := Lib.hid (bt HB.out hb)
  clear hb C1
  go_upto_region 3 with (fail)
  go_cut [6, 7] (fun v6 v7 wx => v6 = .string wd ∧ v7 = .string r ∧ At wx w.heap.size zero10.toList ∧ Below w.heap.size w wx)
  case first =>
    go_quiet (fail)
    go_wp2_with fail
    go_meet
    exact ⟨by rw [← HW.out], by rw [← HR.out], R1.out.below (below_drewN (Below.refl _ _) _), below_drewN HB.out _⟩
  case rest =>
    obtain ⟨rfl, rfl, r1, hb⟩ := hcut
    replace R1 := Lib.hid r1
    replace HB := Lib.hid hb
    clear r1 hb
    go_upto_region 3 with (fail)
    go_cut [24] (fun v24 wx => v24 = .bool g ∧ At wx w.heap.size zero10.toList ∧ Below w.heap.size w wx)
    case first =>
      go_wp2_with fail
      refine (C2.out _).mono ?_
      rintro e w2 ⟨rfl, rfl⟩
      cases b1 with
      | false =>
        go_wp2_with fail
        go_meet
        exact ⟨by rw [HGG.out]; rfl, R1.out, HB.out⟩
      | true =>
        go_wp2_with fail
        refine (C3.out _).mono ?_
        rintro e w2 ⟨rfl, hb⟩
        replace R1 := Lib.hid (R1.out.below hb)
        replace HB := Lib.hid (bt HB.out hb)
        clear hb
        go_wp2_with fail
        go_meet
        exact ⟨by rw [HGG.out]; simp, R1.out, HB.out⟩
    case rest =>
      obtain ⟨rfl, r1, hb⟩ := hcut
      replace R1 := Lib.hid r1
      replace HB := Lib.hid hb
      clear r1 hb
      cases g with
      | true =>
        have hd := HD.out rfl
        have hr1 := HR1.out (by have := HGG.out; revert this; cases b1 <;> simp)
        have hva := HVa.out rfl
        have HV := Lib.hid hva
        replace C5 := Lib.hid (C5.out rfl)
        clear HVa HVb HVc HVd hva HGG
        go_wp2_with fail
        refine (C4.out _).mono ?_
        rintro e w2 ⟨rfl, hb⟩
        replace R1 := Lib.hid (R1.out.below hb)
        replace HB := Lib.hid (bt HB.out hb)
        clear hb C4
        go_wp2_with fail
        rw [show ((n : Int) + 1 + (d : Int)) = ((n + 1 + d : Nat) : Int) by omega]
        refine (C5.out _ (HG.out.below HB.out)).mono ?_
        rintro e w3 ⟨rfl, hb⟩
        have r1 := R1.out.below hb
        replace HB := Lib.hid (bt HB.out hb)
        clear hb C5
        obtain ⟨p0, p1, p2, p3, p4, p5, p6, p7, p8, p9⟩ := r1.ten
        have pf := r1.fz
        go_wp2_with fail
        exact ret_tok r1 rfl HB.out (Nat.le_refl _) HV.out rfl rfl rfl rfl rfl
      | false =>
        replace HVb := Lib.hid (HVb.out rfl)
        replace HVc := Lib.hid (HVc.out rfl)
        replace HVd := Lib.hid (HVd.out rfl)
        clear HVa HGG HD HR1 C5
        go_wp2_with fail
        refine (C6.out _ (HG.out.below HB.out)).mono ?_
        rintro e w2 ⟨rfl, hb⟩
        replace R1 := Lib.hid (R1.out.below hb)
        replace HB := Lib.hid (bt HB.out hb)
        have hA : Below w2.heap.size w2 (w2.alloc (.cells #[.string psh, .int .i64 pc, .int .i64 pr, .bool pa, .bool pb] 32)) := (Below.refl _ _).alloc (Nat.le_refl _) _
        replace R1 := Lib.hid (R1.out.below hA)
        replace HB := Lib.hid (bt HB.out hA)
        clear hb hA C6
        go_upto_region 6 with (fail)
        go_cut [41] (fun v41 wx => v41 = .bool q ∧ At wx w.heap.size zero10.toList ∧ Below w.heap.size w wx)
        case first =>
          cases h4 : (pe != 40) with
          | false =>
            rw [h4] at HQ
            have h5 : (pe == 40) = true := by simpa using h4
            go_wp2_with fail
            go_meet
            exact ⟨by rw [HQ.out]; rfl, R1.out, HB.out⟩
          | true =>
            rw [h4] at HQ
            have h5 : (pe == 40) = false := by simpa using h4
            go_wp2_with fail
            refine (C7.out _).mono ?_
            rintro e w3 ⟨rfl, rfl⟩
            go_wp2_with fail
            go_meet
            exact ⟨by rw [HQ.out]; simp, R1.out, HB.out⟩
        case rest =>
          obtain ⟨rfl, r1, hb⟩ := hcut
          replace R1 := Lib.hid r1
          replace HB := Lib.hid hb
          clear r1 hb
          cases q with
          | true =>
            have hv := HVb.out rfl
            have HV := Lib.hid hv
            clear HVb HVc HVd hv HQ
            go_wp2_with fail
            refine (C8.out _ (HG.out.below HB.out)).mono ?_
            rintro e w3 ⟨rfl, hb⟩
            have r1 := R1.out.below hb
            replace HB := Lib.hid (bt HB.out hb)
            clear hb C8
            obtain ⟨p0, p1, p2, p3, p4, p5, p6, p7, p8, p9⟩ := r1.ten
            have pf := r1.fz
            go_wp2_with fail
            exact ret_tok r1 rfl HB.out (Nat.le_refl _) HV.out rfl rfl rfl rfl rfl
          | false =>
            replace HVc := Lib.hid (HVc.out rfl)
            replace HVd := Lib.hid (HVd.out rfl)
            clear HVb HQ
            have r1 := R1.out
            obtain ⟨p0, p1, p2, p3, p4, p5, p6, p7, p8, p9⟩ := r1.ten
            have pf := r1.fz
            go_wp2_with fail
            refine (C9.out _).mono ?_
            rintro e w3 ⟨rfl, rfl⟩
            cases b4 with
            | true =>
              replace HVc := Lib.hid (HVc.out rfl)
              clear HVd
              go_wp2_with fail
              exact ret_tok r1 rfl HB.out (Nat.le_refl _) HVc.out rfl rfl rfl rfl rfl
            | false =>
              replace HVd := Lib.hid (HVd.out rfl)
              clear HVc
              go_wp2_with fail
              exact ret_tok r1 rfl HB.out (Nat.le_refl _) HVd.out rfl rfl rfl rfl rfl

theorem containsAny_any (chars : List UInt8) : ∀ l : List UInt8, Lib.containsAny l chars = l.any (chars.contains ·)
  | [] => by simp [Lib.containsAny, Lib.indexAny]
  | b :: l => by
    have ih := containsAny_any chars l
    have hge := Lib.indexAny_ge chars l
    unfold Lib.containsAny at *
    rw [Lib.indexAny, List.any_cons]
    cases hb : chars.contains b with
    | true => simp
    | false =>
      rw [if_neg (by decide), Bool.false_or, ← ih]
      by_cases h : Lib.indexAny l chars = -1
      · rw [h]; decide
      · have : ¬ (Lib.indexAny l chars == -1) = true := by simpa using h
        rw [if_neg this, Bool.eq_iff_iff]; simp only [decide_eq_true_eq]; omega
theorem contains_byte (s : ByteArray) (c : UInt8) (w : World) :
    Calls Tryz.prog 14 #[.string s, .string ⟨#[c]⟩] w fun e w' => e = .returned (.bool (s.data.toList.contains c)) ∧ w' = w := by
  have h := Tryz.strings_Contains_one s c w
  rw [indexByte_tw] at h
  have e : decide (0 ≤ if s.data.toList.contains c = true then ((s.data.toList.takeWhile (· != c)).length : Int) else -1) = s.data.toList.contains c := by
    cases s.data.toList.contains c with
    | true => rw [if_pos rfl]; simp
    | false => simp
  rw [e] at h
  exact h
theorem isW_ascii {b : UInt8} (h : isW b = true) : b.toNat < 128 := by
  unfold isW at h
  rw [List.contains_iff_mem] at h
  have : ∀ x ∈ wordS.data.toList, x.toNat < 128 := by decide +kernel
  exact this b h
theorem takeN_all {p : UInt8 → Bool} {b : UInt8} {l : List UInt8} (h : b ∈ l.take (runN p l)) : p b = true := by
  unfold runN at h
  rw [Pl.take_takeWhile] at h
  exact List.all_eq_true.1 List.all_takeWhile b h

theorem lexWord_any (s : ByteArray) (w : World) (hs : s.size ≤ 512) (hg : Glob w) :
    Calls Tryz.prog 19 #[.string s] w (Q (oneV (wordOne parseF s.data.toList)) w) := by
  have hsz : s.data.toList.length = s.size := rfl
  have hle : wordN s.data.toList ≤ s.size := runN_le isW s.data.toList
  have C1 : ∀ w, Calls Tryz.prog 24 #[.string s, .string wordS] w (Q (.int .i64 (wordN s.data.toList : Int)) w) := fun w => runW_any s w (by omega)
  have hwd : (s.extract 0 (wordN s.data.toList)).data.toList = s.data.toList.take (wordN s.data.toList) := by
    rw [ByteArray.data_extract, Array.toList_extract, List.extract_eq_take_drop]; simp
  have hr : (s.extract (wordN s.data.toList) s.size).data.toList = s.data.toList.drop (wordN s.data.toList) := ext_drop s _
  have hwz : (s.extract 0 (wordN s.data.toList)).size ≤ 512 := by rw [ByteArray.size_extract]; omega
  have hasc : ∀ (j : Nat) b, (s.extract 0 (wordN s.data.toList)).data.toList[j]? = some b → b.toNat < 128 := fun j b hj => by
    rw [hwd] at hj
    exact isW_ascii (takeN_all (List.mem_of_getElem? hj))
  have C2 := fun w => prefix_one (s.extract (wordN s.data.toList) s.size) 33 w
  have C7 := fun w => prefix_one (s.extract (wordN s.data.toList) s.size) 40 w
  have C3 : ∀ w, Calls Tryz.prog 37 #[.string (s.extract 0 (wordN s.data.toList)), .string ⟨#[36, 46]⟩] w (Q (.bool ((s.data.toList.take (wordN s.data.toList)).any fun b => b == 36 || b == 46)) w) := fun w => by
    have h := Tryz.strings_ContainsAny_laid (s.extract 0 (wordN s.data.toList)) ⟨#[36, 46]⟩ w (by omega) (by decide) hasc (fun j b hj => (by decide : ∀ x ∈ ([36, 46] : List UInt8), x.toNat < 128) b (List.mem_of_getElem? hj))
    rw [containsAny_any, hwd] at h
    have e : (fun b => ((⟨#[36, 46]⟩ : ByteArray).data.toList.contains b)) = fun b : UInt8 => b == 36 || b == 46 := by
      funext b
      show List.contains [36, 46] b = _
      cases h1 : b == 36 <;> cases h2 : b == 46 <;> simp [List.contains, List.elem, h1, h2]
    rw [e] at h
    exact h
  rw [hr] at C2 C7
  have hrz : (s.extract (wordN s.data.toList) s.size).size = s.size - wordN s.data.toList := by rw [ByteArray.size_extract]; omega
  have C6 := fun w hg => parse_any (s.extract 0 (wordN s.data.toList)) w (by omega) hg
  rw [hwd] at C6
  have C9 := fun w => contains_byte (s.extract 0 (wordN s.data.toList)) 36 w
  rw [hwd] at C9
  have C4 := fun w => runC_any ((s.extract (wordN s.data.toList) s.size).extract 1 (s.extract (wordN s.data.toList) s.size).size) w (by have := ext_le (s.extract (wordN s.data.toList) s.size) 1; omega)
  rw [ext_drop, hr, List.drop_drop] at C4
  have C8 := fun w hg => lexReference_any s (wordN s.data.toList) w hle hs hg
  have hd : ∀ b, (((s.data.toList.drop (wordN s.data.toList)).head? == some 33) && !b) = true → afterN s.data.toList (wordN s.data.toList) ≤ s.size := fun b hb => by
    rw [Bool.and_eq_true] at hb
    exact afterN_le _ _ (head_lt hb.1)
  have C5 := fun b hb w hg => lexReference_any s (afterN s.data.toList (wordN s.data.toList)) w (hd b hb) hs hg
  have hlt : ((s.data.toList.drop (wordN s.data.toList)).head? == some 33) = true → 1 ≤ (s.extract (wordN s.data.toList) s.size).size := fun hb => by
    have := head_lt hb
    omega
  refine lexWord_core s _ _ (wordN s.data.toList) (runN isC (s.data.toList.drop (wordN s.data.toList + 1))) _ _ _ _ _ _ _ _ _ _ _ _ _ _ _ _ _ _ _ _ _ _ _ _ w hs hle rfl rfl (Lib.hid C1) (Lib.hid C2) (Lib.hid C3) rfl hlt (hd _) (Lib.hid C4) (Lib.hid (C5 _)) (Lib.hid C6) (Lib.hid C7) rfl (Lib.hid C8) (Lib.hid C9) _
    (Lib.hid fun h => ?_) (Lib.hid fun h h2 => ?_) (Lib.hid fun h h2 h3 => ?_) (Lib.hid fun h h2 h3 => ?_) hg
  · unfold wordOne
    rw [Bool.and_eq_true, Bool.not_eq_true'] at h
    rw [if_pos h]; rfl
  · have hn : ¬ (((s.data.toList.drop (wordN s.data.toList)).head? == some 33) = true ∧ ((s.data.toList.take (wordN s.data.toList)).any fun b => b == 36 || b == 46) = false) := by
      rintro ⟨ha, hb⟩; rw [ha, hb] at h; cases h
    rw [Bool.and_eq_true, Bool.not_eq_true'] at h2
    unfold wordOne
    rw [if_neg hn, if_pos ⟨bne_iff_ne.1 h2.1, h2.2⟩]; rfl
  · have hn : ¬ (((s.data.toList.drop (wordN s.data.toList)).head? == some 33) = true ∧ ((s.data.toList.take (wordN s.data.toList)).any fun b => b == 36 || b == 46) = false) := by
      rintro ⟨ha, hb⟩; rw [ha, hb] at h; cases h
    have hm : ¬ ((parseF (s.data.toList.take (wordN s.data.toList))).1 ≠ 40 ∧ ((s.data.toList.drop (wordN s.data.toList)).head? == some 40) = false) := by
      rintro ⟨ha, hb⟩; rw [bne_iff_ne.2 ha, hb] at h2; cases h2
    unfold wordOne
    rw [if_neg hn, if_neg hm, if_pos h3]; rfl
  · have hn : ¬ (((s.data.toList.drop (wordN s.data.toList)).head? == some 33) = true ∧ ((s.data.toList.take (wordN s.data.toList)).any fun b => b == 36 || b == 46) = false) := by
      rintro ⟨ha, hb⟩; rw [ha, hb] at h; cases h
    have hm : ¬ ((parseF (s.data.toList.take (wordN s.data.toList))).1 ≠ 40 ∧ ((s.data.toList.drop (wordN s.data.toList)).head? == some 40) = false) := by
      rintro ⟨ha, hb⟩; rw [bne_iff_ne.2 ha, hb] at h2; cases h2
    unfold wordOne
    rw [if_neg hn, if_neg hm, if_neg (by rw [h3]; decide)]
    unfold oneV Tok.val Tok.cells tok0
    dsimp only
    rw [← hwd, bytes_eq]
end Go.Proofs.YtegjainidiaeaaaGreatDoor
