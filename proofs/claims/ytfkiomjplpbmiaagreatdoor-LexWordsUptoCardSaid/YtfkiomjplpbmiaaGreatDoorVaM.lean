/- The document's readers at hand: Parse of references, of numbers, Xml; its Lex and its Word. -/
import Derived.Test.YtfkiomjplpbmiaaGreatDoorM5
import Derived.Test.YtfkiomjplpbmiaaGreatDoorM7
import Derived.Test.YtfkiomjplpbmiaaGreatDoorLsM
namespace Go.Proofs.YtfkiomjplpbmiaaGreatDoor
open Go.RowKit Go.Lib

theorem refParseIs : RefParseIs := fun s w hs => refParse_any s w hs
theorem rlex_ok {D : FD} {X : FX} (hP : RefParseIs) (hD : DecRefIs D) (hX : XmlRefIs X) (s : ByteArray) (w : World) (hs : s.size ≤ 512) {ts : List (Nat × Tok)} (h : lexA (oneM parseF D X) s.data.toList = .ok ts) :
    Calls Tryz.prog 12 #[.string s] w fun e w' => ∃ v, e = .returned (.tuple #[v, .int .i64 0, .int .i64 0]) ∧ TokS w' v ts ∧ Below w.heap.size w w' := by
  refine rlex_core s D X hP hD hX w hs _ (Lib.hid fun a x w' he _ => ?_) (Lib.hid fun us v w' he ho hb => ?_)
  · rw [h] at he; cases he
  · rw [h] at he; injection he with he; subst he
    exact ⟨v, rfl, tokS_of ho, hb⟩
theorem rlex_err {D : FD} {X : FX} (hP : RefParseIs) (hD : DecRefIs D) (hX : XmlRefIs X) (s : ByteArray) (w : World) (hs : s.size ≤ 512) {a : Nat} {x : Int} (h : lexA (oneM parseF D X) s.data.toList = .error (a, x)) :
    Calls Tryz.prog 12 #[.string s] w (Q (.tuple #[.slice none 0 0, .int .i64 (a : Int), .int .i64 x]) w) := by
  refine rlex_core s D X hP hD hX w hs _ (Lib.hid fun a x w' he hb => ?_) (Lib.hid fun us v w' he ho hb => ?_)
  · rw [h] at he; injection he with he; injection he with h1 h2; subst h1 h2
    exact ⟨rfl, hb⟩
  · rw [h] at he; cases he
set_option maxRecDepth 100000 in
set_option maxHeartbeats 8000000 in
theorem rlex_long (s : ByteArray) (w : World) (hs : 512 < s.size) :
    Calls Tryz.prog 12 #[.string s] w (Q (.tuple #[.slice none 0 0, .int .i64 0, .int .i64 3]) w) := by
  have hs0 : decide (512 < s.size) = true := decide_eq_true hs
  go_enter Tryz.func12, Tryz.ntmps12
  go_wp2_with fail
  go_ret3
  exact ⟨rfl, Below.refl _ _⟩

set_option maxRecDepth 100000 in
set_option maxHeartbeats 8000000 in
theorem rword_keyword (s : ByteArray) (w : World) (b : Bool) (h1 : (s.toList == [84, 82, 85, 69]) = b) (h2 : b = false → (s.toList == [70, 65, 76, 83, 69]) = true) :
    Calls Tryz.prog 15 #[.string s] w (Q (.bool false) w) := by
  cases b with
  | true =>
    clear h2
    go_enter Tryz.func15, Tryz.ntmps15
    go_wp2_with fail
    all_goals go_ret
    all_goals exact ⟨rfl, Below.refl _ _⟩
  | false =>
    replace h2 := h2 rfl
    go_enter Tryz.func15, Tryz.ntmps15
    go_wp2_with fail
    all_goals go_ret
    all_goals exact ⟨rfl, Below.refl _ _⟩

set_option maxRecDepth 100000 in
set_option maxHeartbeats 8000000 in
theorem rword_none (s : ByteArray) (w : World) (h : s.size = 0) :
    Calls Tryz.prog 15 #[.string s] w (Q (.bool false) w) := by
  have d0 : ((s.size : Int) == 0) = true := by rw [beq_iff_eq]; omega
  go_enter Tryz.func15, Tryz.ntmps15
  go_wp2_with fail
  go_ret
  exact ⟨rfl, Below.refl _ _⟩
set_option maxRecDepth 100000 in
set_option maxHeartbeats 8000000 in
theorem rword_long (s : ByteArray) (w : World) (h : 512 < s.size) :
    Calls Tryz.prog 15 #[.string s] w (Q (.bool false) w) := by
  have d0 : ((s.size : Int) == 0) = false := by rw [beq_eq_false_iff_ne]; omega
  have d1 : decide (512 < (s.size : Int)) = true := decide_eq_true (by omega)
  go_enter Tryz.func15, Tryz.ntmps15
  go_wp2_with fail
  go_ret
  exact ⟨rfl, Below.refl _ _⟩

set_option maxRecDepth 100000 in
set_option maxHeartbeats 8000000 in
theorem rword_error (s : ByteArray) (w : World) (hz1 : 0 < s.size) (hz2 : s.size ≤ 512) (a x : Int) (h1 : (s.toList == [84, 82, 85, 69]) = false) (h2 : (s.toList == [70, 65, 76, 83, 69]) = false) (hx : (x == 0) = false)
    (C : Hid (∀ w, Calls Tryz.prog 12 #[.string s] w (Q (.tuple #[.slice none 0 0, .int .i64 a, .int .i64 x]) w))) :
    Calls Tryz.prog 15 #[.string s] w (Q (.bool false) w) := by
  have d0 : ((s.size : Int) == 0) = false := by rw [beq_eq_false_iff_ne]; omega
  have d1 : decide (512 < (s.size : Int)) = false := decide_eq_false (by omega)
  go_enter Tryz.func15, Tryz.ntmps15
  go_wp2_with fail
  refine (C.out _).mono ?_
  rintro e w1 ⟨rfl, hb⟩
  have HB := Lib.hid hb
  clear hb
  go_wp2_with fail
  go_ret
  exact ⟨rfl, HB.out⟩

set_option maxRecDepth 100000 in
set_option maxHeartbeats 8000000 in
theorem rword_other (s : ByteArray) (w : World) (hz1 : 0 < s.size) (hz2 : s.size ≤ 512) (ts : List (Nat × Tok)) (n : Nat) (hn : ts.length = n) (h1 : (s.toList == [84, 82, 85, 69]) = false) (h2 : (s.toList == [70, 65, 76, 83, 69]) = false) (hx : ((n : Int) == 1) = false)
    (C : Hid (∀ w, Calls Tryz.prog 12 #[.string s] w fun e w' => ∃ v, e = .returned (.tuple #[v, .int .i64 0, .int .i64 0]) ∧ TokS w' v ts ∧ Below w.heap.size w w')) :
    Calls Tryz.prog 15 #[.string s] w (Q (.bool false) w) := by
  have d0 : ((s.size : Int) == 0) = false := by rw [beq_eq_false_iff_ne]; omega
  have d1 : decide (512 < (s.size : Int)) = false := decide_eq_false (by omega)
  go_enter Tryz.func15, Tryz.ntmps15
  go_wp2_with fail
  refine (C.out _).mono ?_
  rintro e w1 ⟨v, rfl, ht, hb⟩
  have HB := Lib.hid hb
  obtain ⟨ao, cap, rfl, _, _, _⟩ := ht
  rw [hn]
  clear hb hn C
  go_wp2_with fail
  go_ret
  exact ⟨rfl, HB.out⟩

set_option maxRecDepth 100000 in
set_option maxHeartbeats 8000000 in
theorem rword_one_tok (s : ByteArray) (w : World) (hz1 : 0 < s.size) (hz2 : s.size ≤ 512) (k : Nat) (t : Tok) (S : ByteArray) (hS : (⟨t.s.toArray⟩ : ByteArray) = S) (h1 : (s.toList == [84, 82, 85, 69]) = false) (h2 : (s.toList == [70, 65, 76, 83, 69]) = false) (b1 b2 : Bool) (hb1 : (t.kind == 4) = b1) (hb2 : (S.toList == s.toList) = b2)
    (C : Hid (∀ w, Calls Tryz.prog 12 #[.string s] w fun e w' => ∃ v, e = .returned (.tuple #[v, .int .i64 0, .int .i64 0]) ∧ TokS w' v [(k, t)] ∧ Below w.heap.size w w')) :
    Calls Tryz.prog 15 #[.string s] w (Q (.bool (b1 && b2)) w) := by
  have HS := Lib.hid hS
  clear hS
  have d0 : ((s.size : Int) == 0) = false := by rw [beq_eq_false_iff_ne]; omega
  have d1 : decide (512 < (s.size : Int)) = false := decide_eq_false (by omega)
  go_enter Tryz.func15, Tryz.ntmps15
  go_wp2_with fail
  refine (C.out _).mono ?_
  rintro e w1 ⟨v, rfl, ht, hb⟩
  have HB := Lib.hid hb
  obtain ⟨g1, cap1, rfl, hn1, hm1, k1⟩ := ht.some (n := 1) rfl (by decide)
  have a0 := k1.c 0 _ rfl
  have a2 := k1.c 2 _ rfl
  rw [HS.out] at a2
  clear hb C k1 ht
  generalize t.kind = kd at *
  cases b1 with
  | false =>
    go_wp2_with fail
    go_ret
    exact ⟨rfl, HB.out⟩
  | true =>
    cases b2 with
    | false =>
      go_wp2_with fail
      go_ret
      exact ⟨rfl, HB.out⟩
    | true =>
      go_wp2_with fail
      go_ret
      exact ⟨rfl, HB.out⟩

theorem rwordM_any {D : FD} {X : FX} (hP : RefParseIs) (hD : DecRefIs D) (hX : XmlRefIs X) (s : ByteArray) (w : World) :
    Calls Tryz.prog 15 #[.string s] w (Q (.bool (wordM (oneM parseF D X) s.data.toList)) w) := by
  have hsz : s.data.toList.length = s.size := rfl
  unfold wordM
  cases h1 : (s.toList == [84, 82, 85, 69]) with
  | true =>
    have e : s.data.toList = trueS := by rw [← Lib.toList_data]; simpa [trueS] using h1
    rw [if_pos (Or.inl e)]
    exact rword_keyword s w true h1 (fun h => by cases h)
  | false =>
    cases h2 : (s.toList == [70, 65, 76, 83, 69]) with
    | true =>
      have e : s.data.toList = falseS := by rw [← Lib.toList_data]; simpa [falseS] using h2
      rw [if_pos (Or.inr (Or.inl e))]
      exact rword_keyword s w false h1 (fun _ => h2)
    | false =>
      have e1 : ¬ s.data.toList = trueS := by rw [← Lib.toList_data]; simpa [trueS] using h1
      have e2 : ¬ s.data.toList = falseS := by rw [← Lib.toList_data]; simpa [falseS] using h2
      by_cases h3 : 512 < s.size
      · rw [if_pos (Or.inr (Or.inr (by omega)))]
        exact rword_long s w h3
      by_cases h0 : s.size = 0
      · rw [if_neg (by rintro (h | h | h); exact e1 h; exact e2 h; omega)]
        have hn : s.data.toList = [] := List.eq_nil_of_length_eq_zero (by omega)
        rw [hn]
        exact rword_none s w h0
      · have hz1 : 0 < s.size := by omega
        have hz2 : s.size ≤ 512 := by omega
        rw [if_neg (by rintro (h | h | h); exact e1 h; exact e2 h; omega)]
        cases hl : lexA (oneM parseF D X) s.data.toList with
        | error p =>
          obtain ⟨a, x⟩ := p
          exact rword_error s w hz1 hz2 a x h1 h2 (by simpa using lexM_ne _ _ _ hl) (Lib.hid fun w => rlex_err hP hD hX s w (by omega) hl)
        | ok ts =>
          have C := Lib.hid fun w => rlex_ok hP hD hX s w (by omega) hl
          match ts, C with
          | [], C => exact rword_other s w hz1 hz2 [] 0 rfl h1 h2 (by decide) C
          | [(k, t)], C =>
            have e : (t.s == s.data.toList) = ((⟨t.s.toArray⟩ : ByteArray).toList == s.toList) := by rw [Lib.toList_data, Lib.toList_data]
            show Calls _ _ _ _ (Q (.bool (t.kind == 4 && t.s == s.data.toList)) w)
            rw [e]
            exact rword_one_tok s w hz1 hz2 k t _ rfl h1 h2 _ _ rfl rfl C
          | p :: q :: ts, C => exact rword_other s w hz1 hz2 (p :: q :: ts) _ rfl h1 h2 (by rw [beq_eq_false_iff_ne, List.length_cons, List.length_cons]; omega) C

end Go.Proofs.YtfkiomjplpbmiaaGreatDoor

