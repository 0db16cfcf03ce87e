/- lex.text. -/
import Derived.Test.YtegjainidiaeaaaGreatDoorLh
namespace Go.Proofs.YtegjainidiaeaaaGreatDoor
open Go.RowKit Go.Lib

set_option maxRecDepth 100000 in
set_option maxHeartbeats 8000000 in
theorem lexText_none (s : ByteArray) (w : World)
    (C1 : Hid (∀ w, Calls Tryz.prog 34 #[.string s] w (Q (.tuple #[.int .i64 0, .string ⟨#[]⟩]) w))) :
    Calls Tryz.prog 17 #[.string s] w (Q (oneV (tok0, 0, 40)) w) := by
  have R1 := Lib.hid (zero10_new w).1
  have HB := Lib.hid (zero10_new w).2
  go_enter Tryz.func17, Tryz.ntmps17
  go_wp2_with fail
  refine (C1.out _).mono ?_
  rintro e w1 ⟨rfl, hb⟩
  have r1 := R1.out.below hb
  replace HB := Lib.hid (bt HB.out hb)
  clear hb C1 R1
  obtain ⟨p0, p1, p2, p3, p4, p5, p6, p7, p8, p9⟩ := r1.ten
  have pf := r1.fz
  go_wp2_with fail
  exact ret_tok r1 rfl HB.out (Nat.le_refl _) rfl rfl rfl rfl rfl rfl

set_option maxRecDepth 100000 in
set_option maxHeartbeats 8000000 in
theorem lexText_big (s t : ByteArray) (n : Nat) (w : World) (hn : 1 ≤ n) (ht : 255 < t.size)
    (C1 : Hid (∀ w, Calls Tryz.prog 34 #[.string s] w (Q (.tuple #[.int .i64 (n : Int), .string t]) w))) :
    Calls Tryz.prog 17 #[.string s] w (Q (oneV (tok0, 0, 3)) w) := by
  have R1 := Lib.hid (zero10_new w).1
  have HB := Lib.hid (zero10_new w).2
  have hn0 : ((n : Int) == 0) = false := by simp; omega
  have ht0 : decide (255 < t.size) = true := decide_eq_true ht
  go_enter Tryz.func17, Tryz.ntmps17
  go_wp2_with fail
  refine (C1.out _).mono ?_
  rintro e w1 ⟨rfl, hb⟩
  have r1 := R1.out.below hb
  replace HB := Lib.hid (bt HB.out hb)
  clear hb C1 R1
  obtain ⟨p0, p1, p2, p3, p4, p5, p6, p7, p8, p9⟩ := r1.ten
  have pf := r1.fz
  go_wp2_with fail
  exact ret_tok r1 rfl HB.out (Nat.le_refl _) rfl rfl rfl rfl rfl rfl

set_option maxRecDepth 100000 in
set_option maxHeartbeats 8000000 in
theorem lexText_some (s t : ByteArray) (n : Nat) (x : Int) (w : World) (hn : 1 ≤ n) (ht : ¬ 255 < t.size)
    (C1 : Hid (∀ w, Calls Tryz.prog 34 #[.string s] w (Q (.tuple #[.int .i64 (n : Int), .string t]) w)))
    (C2 : Hid (∀ w, Glob w → Calls Tryz.prog 35 #[.string t] w (Q (.int .i64 x) w))) (hg : Glob w) :
    Calls Tryz.prog 17 #[.string s] w (Q (.tuple #[tok10 2 0 t 0 0 ⟨#[]⟩ 0 0 false false, .int .i64 (n : Int), .int .i64 x]) w) := by
  have R1 := Lib.hid (zero10_new w).1
  have HB := Lib.hid (zero10_new w).2
  have HG := Lib.hid hg
  have hn0 : ((n : Int) == 0) = false := by simp; omega
  have ht0 : decide (255 < t.size) = false := decide_eq_false ht
  clear hg
  go_enter Tryz.func17, Tryz.ntmps17
  go_wp2_with fail
  refine (C1.out _).mono ?_
  rintro e w1 ⟨rfl, hb⟩
  replace R1 := Lib.hid (R1.out.below hb)
  replace HB := Lib.hid (bt HB.out hb)
  clear hb C1
  go_wp2_with fail
  refine (C2.out _ (HG.out.below HB.out)).mono ?_
  rintro e w1 ⟨rfl, hb⟩
  have r1 := R1.out.below hb
  replace HB := Lib.hid (bt HB.out hb)
  clear hb C2 R1
  obtain ⟨p0, p1, p2, p3, p4, p5, p6, p7, p8, p9⟩ := r1.ten
  have pf := r1.fz
  go_wp2_with fail
  exact ret_tok r1 rfl HB.out (Nat.le_refl _) rfl rfl rfl rfl rfl rfl

/-- What is asked of utf.Xml: that it answers, and what. -/
def XmlIs (X : FX) : Prop := ∀ (t : ByteArray) (w : World), t.size ≤ 255 → Glob w → Calls Tryz.prog 35 #[.string t] w (Q (.int .i64 (X t.data.toList)) w)

theorem lexText_any (X : FX) (hX : XmlIs X) (s : ByteArray) (l : List UInt8) (w : World) (hs : s.size ≤ 512) (h : s.data.toList = 34 :: l) (hg : Glob w) :
    Calls Tryz.prog 17 #[.string s] w (Q (oneV (textOne X s.data.toList)) w) := by
  have C1 := fun w => lexQuoted_any s 34 l w hs h
  have hz := size_of h
  have h1 : s.data.toList.drop 1 = l := by rw [h]; rfl
  unfold textOne
  rw [h1] at C1 ⊢
  cases hq : quotedM 34 [] l with
  | none =>
    rw [hq] at C1
    exact lexText_none s w (Lib.hid C1)
  | some p =>
    obtain ⟨t, r⟩ := p
    rw [hq] at C1
    have hlt := quotedM_lt hq
    have hsl : s.size = s.data.toList.length := by rw [hz, h]; rfl
    have hn : 1 ≤ s.data.toList.length - r.length := by rw [h, List.length_cons]; omega
    unfold quotedV at C1
    dsimp only at C1 ⊢
    rw [hsl] at C1
    by_cases ht : 255 < t.length
    · rw [if_pos ht]
      exact lexText_big s ⟨t.toArray⟩ _ w hn (by rw [size_mk]; exact ht) (Lib.hid C1)
    · rw [if_neg ht]
      have C2 := fun w hg => hX ⟨t.toArray⟩ w (by rw [size_mk]; omega) hg
      rw [str_data] at C2
      exact lexText_some s ⟨t.toArray⟩ _ _ w hn (by rw [size_mk]; exact ht) (Lib.hid C1) (Lib.hid C2) hg
end Go.Proofs.YtegjainidiaeaaaGreatDoor
