/- lex.sheet, lex.text. -/
import Derived.Test.YtegjainidiaeaaaGreatDoorLf
import Derived.Test.YtegjainidiaeaaaGreatDoorLg
namespace Go.Proofs.YtegjainidiaeaaaGreatDoor
open Go.RowKit Go.Lib

set_option maxRecDepth 100000 in
set_option maxHeartbeats 8000000 in
theorem lexSheet_none (s : ByteArray) (w : World)
    (C1 : Hid (∀ w, Calls Tryz.prog 34 #[.string s] w (Q (.tuple #[.int .i64 0, .string ⟨#[]⟩]) w))) :
    Calls Tryz.prog 18 #[.string s] w (Q (oneV (tok0, 0, 40)) w) := by
  have R1 := Lib.hid (zero10_new w).1
  have HB := Lib.hid (zero10_new w).2
  go_enter Tryz.func18, Tryz.ntmps18
  go_wp2_with fail
  refine (C1.out _).mono ?_
  rintro e w1 ⟨rfl, hb⟩
  have r1 := R1.out.below hb
  replace HB := Lib.hid (bt HB.out hb)
  clear hb C1 R1
  obtain ⟨p0, p1, p2, p3, p4, p5, p6, p7, p8, p9⟩ := r1.ten
  have pf := r1.fz
  go_wp2_with fail
  exact ret_tok r1 rfl HB.out (Nat.le_refl _) rfl rfl rfl rfl rfl rfl

set_option maxRecDepth 100000 in
set_option maxHeartbeats 8000000 in
theorem lexSheet_some (s t : ByteArray) (n d : Nat) (b : Bool) (sh : ByteArray) (ek co ro : Int) (ac ar : Bool) (w : World) (hs : s.size ≤ 512) (hn : 1 ≤ n) (hns : n ≤ s.size)
    (C1 : Hid (∀ w, Calls Tryz.prog 34 #[.string s] w (Q (.tuple #[.int .i64 (n : Int), .string t]) w)))
    (C2 : Hid (∀ w, Calls Tryz.prog 25 #[.string (s.extract n s.size), .string ⟨#[33]⟩] w fun e w' => e = .returned (.bool b) ∧ w = w'))
    (hd : b = true → n + 1 + d ≤ s.size)
    (C3 : Hid (∀ w, Calls Tryz.prog 24 #[.string (s.extract (n + 1) s.size), .string cellS] w (Q (.int .i64 d) w)))
    (C4 : Hid (b = true → ∀ w, Glob w → Calls Tryz.prog 36 #[.string s, .int .i64 ((n + 1 + d : Nat) : Int)] w (Q (.tuple #[tok10 3 0 ⟨#[]⟩ 0 0 sh co ro ac ar, .int .i64 ((n + 1 + d : Nat) : Int), .int .i64 ek]) w)))
    (V : Value) (HV0 : Hid (b = false → V = oneV (tok0, 0, 40))) (HV1 : Hid (b = true → V = .tuple #[tok10 3 0 ⟨#[]⟩ 0 0 sh co ro ac ar, .int .i64 ((n + 1 + d : Nat) : Int), .int .i64 ek]))
    (hg : Glob w) :
    Calls Tryz.prog 18 #[.string s] w (Q V w) := by
  have R1 := Lib.hid (zero10_new w).1
  have HB := Lib.hid (zero10_new w).2
  have HG := Lib.hid hg
  have HD := Lib.hid hd
  have hn0 : ((n : Int) == 0) = false := by simp; omega
  clear hg hd
  go_enter Tryz.func18, Tryz.ntmps18
  go_wp2_with fail
  refine (C1.out _).mono ?_
  rintro e w1 ⟨rfl, hb⟩
  replace R1 := Lib.hid (R1.out.below hb)
  replace HB := Lib.hid (bt HB.out hb)
  clear hb C1
  go_wp2_with fail
  refine (C2.out _).mono ?_
  rintro e w1 ⟨rfl, rfl⟩
  cases b with
  | false =>
    replace HV0 := Lib.hid (HV0.out rfl)
    have r1 := R1.out
    obtain ⟨p0, p1, p2, p3, p4, p5, p6, p7, p8, p9⟩ := r1.ten
    have pf := r1.fz
    go_wp2_with fail
    exact ret_tok r1 rfl HB.out (Nat.le_refl _) HV0.out rfl rfl rfl rfl rfl
  | true =>
    have hd := HD.out rfl
    replace HV1 := Lib.hid (HV1.out rfl)
    replace C4 := Lib.hid (C4.out rfl)
    go_wp2_with fail
    refine (C3.out _).mono ?_
    rintro e w2 ⟨rfl, hb⟩
    replace R1 := Lib.hid (R1.out.below hb)
    replace HB := Lib.hid (bt HB.out hb)
    clear hb C3
    go_wp2_with fail
    rw [show ((n : Int) + 1 + (d : Int)) = ((n + 1 + d : Nat) : Int) by omega]
    refine (C4.out _ (HG.out.below HB.out)).mono ?_
    rintro e w3 ⟨rfl, hb⟩
    have r1 := R1.out.below hb
    replace HB := Lib.hid (bt HB.out hb)
    clear hb C4
    obtain ⟨p0, p1, p2, p3, p4, p5, p6, p7, p8, p9⟩ := r1.ten
    have pf := r1.fz
    go_wp2_with fail
    exact ret_tok r1 rfl HB.out (Nat.le_refl _) HV1.out rfl rfl rfl rfl rfl

theorem lexSheet_some' (s t : ByteArray) (n d : Nat) (b : Bool) (o : One) (w : World) (hs : s.size ≤ 512) (hn : 1 ≤ n) (hns : n ≤ s.size)
    (C1 : Hid (∀ w, Calls Tryz.prog 34 #[.string s] w (Q (.tuple #[.int .i64 (n : Int), .string t]) w)))
    (C2 : Hid (∀ w, Calls Tryz.prog 25 #[.string (s.extract n s.size), .string ⟨#[33]⟩] w fun e w' => e = .returned (.bool b) ∧ w = w'))
    (hd : b = true → n + 1 + d ≤ s.size)
    (C3 : Hid (∀ w, Calls Tryz.prog 24 #[.string (s.extract (n + 1) s.size), .string cellS] w (Q (.int .i64 d) w)))
    (ho : o = (⟨3, [], 0, 0, o.1.r⟩, n + 1 + d, o.2.2))
    (C4 : b = true → ∀ w, Glob w → Calls Tryz.prog 36 #[.string s, .int .i64 ((n + 1 + d : Nat) : Int)] w (Q (oneV o) w))
    (p : One) (HV0 : Hid (b = false → p = (tok0, 0, 40))) (HV1 : Hid (b = true → p = o)) (hg : Glob w) :
    Calls Tryz.prog 18 #[.string s] w (Q (oneV p) w) := by
  obtain ⟨tk, k, ek⟩ := o
  obtain ⟨rfl, ho2⟩ : k = n + 1 + d ∧ tk = ⟨3, [], 0, 0, tk.r⟩ := by
    injection ho with h1 h2; injection h2 with h2 _
    exact ⟨h2, h1⟩
  generalize tk.r = r at ho2
  subst ho2
  cases b with
  | false =>
    rw [HV0.out rfl]
    exact lexSheet_some s t n d false ⟨#[]⟩ 0 0 0 false false w hs hn hns C1 C2 (fun h => by cases h) C3 (Lib.hid fun h => by cases h) _ (Lib.hid fun _ => rfl) (Lib.hid fun h => by cases h) hg
  | true =>
    rw [HV1.out rfl]
    exact lexSheet_some s t n d true ⟨r.1.toArray⟩ ek r.2.1 r.2.2.1 r.2.2.2.1 r.2.2.2.2 w hs hn hns C1 C2 (fun _ => hd rfl) C3 (Lib.hid fun _ => C4 rfl) _ (Lib.hid fun h => by cases h) (Lib.hid fun _ => rfl) hg

theorem ext1 {s : ByteArray} {m : UInt8} {l : List UInt8} (h : s.data.toList = m :: l) : s.extract 0 1 = ⟨#[m]⟩ := by
  apply ByteArray.ext
  rw [← Array.toList_inj, ByteArray.data_extract, Array.toList_extract, List.extract_eq_take_drop, h]; rfl
theorem size_of {s : ByteArray} {m : UInt8} {l : List UInt8} (h : s.data.toList = m :: l) : s.size = l.length + 1 := by
  show s.data.size = _
  rw [← Array.length_toList, h]; rfl
theorem lexQuoted_any (s : ByteArray) (m : UInt8) (l : List UInt8) (w : World) (hs : s.size ≤ 512) (h : s.data.toList = m :: l) :
    Calls Tryz.prog 34 #[.string s] w (Q (quotedV s.size (quotedM m [] (s.data.toList.drop 1))) w) :=
  lexQuoted_core s m w hs (by rw [size_of h]; omega) (ext1 h) _ rfl

theorem runC_any (s : ByteArray) (w : World) (hs : s.size ≤ 9223372036854775807) :
    Calls Tryz.prog 24 #[.string s, .string cellS] w (Q (.int .i64 (runN isC s.data.toList)) w) := run_any s cellS w hs (ascii_all _ (by decide +kernel))
theorem runW_any (s : ByteArray) (w : World) (hs : s.size ≤ 9223372036854775807) :
    Calls Tryz.prog 24 #[.string s, .string wordS] w (Q (.int .i64 (runN isW s.data.toList)) w) := run_any s wordS w hs (ascii_all _ (by decide +kernel))

theorem drop_back {l r : List UInt8} {m : UInt8} {t : List UInt8} (h : quotedM m [] l = some (t, r)) : l.drop (l.length - r.length) = r := by
  have : ∀ (k : Nat) (l acc t r : List UInt8), l.length ≤ k → quotedM m acc l = some (t, r) → ∃ a, l = a ++ r := by
    intro k
    induction k with
    | zero =>
      intro l acc t r hk h
      cases l with
      | nil => rw [quotedM] at h; cases h
      | cons c l => simp at hk
    | succ k ih =>
      intro l acc t r hk h
      cases l with
      | nil => rw [quotedM] at h; cases h
      | cons c l =>
        have hk2 : l.length ≤ k := by simpa using hk
        rw [quotedM] at h
        split at h
        · split at h
          · rename_i hh
            have ht : l.tail.length ≤ k := by rw [List.length_tail]; omega
            obtain ⟨a, ha⟩ := ih l.tail _ t r ht h
            cases l with
            | nil => cases hh
            | cons b l => rw [List.tail_cons] at ha; exact ⟨c :: b :: a, by rw [ha]; rfl⟩
          · injection h with h; injection h with h1 h2; subst h1 h2; exact ⟨[c], rfl⟩
        · obtain ⟨a, ha⟩ := ih l _ t r hk2 h
          exact ⟨c :: a, by rw [ha]; rfl⟩
  obtain ⟨a, ha⟩ := this _ l [] t r (Nat.le_refl _) h
  rw [ha, List.length_append, Nat.add_sub_cancel]
  simp

theorem lexSheet_any (s : ByteArray) (l : List UInt8) (w : World) (hs : s.size ≤ 512) (h : s.data.toList = 39 :: l) (hg : Glob w) :
    Calls Tryz.prog 18 #[.string s] w (Q (oneV (sheetOne parseF s.data.toList)) w) := by
  have C1 := fun w => lexQuoted_any s 39 l w hs h
  have hz := size_of h
  have h1 : s.data.toList.drop 1 = l := by rw [h]; rfl
  unfold sheetOne
  rw [h1] at C1 ⊢
  cases hq : quotedM 39 [] l with
  | none =>
    rw [hq] at C1
    exact lexSheet_none s w (Lib.hid C1)
  | some p =>
    obtain ⟨t, r⟩ := p
    rw [hq] at C1
    have hlt := quotedM_lt hq
    have hb := drop_back hq
    have hn : s.data.toList.length - r.length = l.length - r.length + 1 := by rw [h, List.length_cons]; omega
    have hsl : s.size = s.data.toList.length := by rw [hz, h]; rfl
    have hr : s.data.toList.drop (s.data.toList.length - r.length) = r := by rw [hn, h, List.drop_succ_cons, hb]
    dsimp only
    unfold quotedV at C1
    dsimp only at C1
    rw [hsl] at C1
    generalize hnn : s.data.toList.length - r.length = n at *
    have C2 := fun w => prefix_one (s.extract n s.size) 33 w
    rw [ext_drop, hr] at C2
    have C3 := fun w => runC_any (s.extract (n + 1) s.size) w (by have := ext_le s (n + 1); omega)
    rw [ext_drop] at C3
    have hd : (r.head? == some 33) = true → n + 1 + runN isC (s.data.toList.drop (n + 1)) ≤ s.size := fun hb => by
      have := afterN_le s.data.toList n (head_lt (c := 33) (by rw [hr]; exact hb))
      unfold afterN at this; omega
    refine lexSheet_some' s ⟨t.toArray⟩ n _ _ (refOne parseF s.data.toList (afterN s.data.toList n)) w hs (by omega) (by omega) (Lib.hid C1) (Lib.hid C2) hd (Lib.hid C3) rfl (fun hb => ?_) _ (Lib.hid fun hb => by rw [if_neg (by rw [hb]; decide)]) (Lib.hid fun hb => by rw [if_pos hb]) hg
    exact fun w hg => lexReference_any s _ w (hd hb) hs hg
end Go.Proofs.YtegjainidiaeaaaGreatDoor
