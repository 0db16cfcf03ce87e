/- lex.Word, lex.Quote. -/
import Derived.Test.YtegjainidiaeaaaGreatDoorLq
namespace Go.Proofs.YtegjainidiaeaaaGreatDoor
open Go.RowKit Go.Lib

theorem lexM_ne {one : List UInt8 → One} : ∀ (f k : Nat) (l : List UInt8) {a : Nat} {x : Int}, lexM one f k l = .error (a, x) → x ≠ 0
  | 0, _, _, _, _, h => by rw [lexM] at h; cases h
  | f + 1, _, [], _, _, h => by rw [lexM] at h; cases h
  | f + 1, k, c :: l, a, x, h => by
    rw [lexM] at h
    split at h
    · exact lexM_ne f _ l h
    · split at h
      · rename_i hne
        injection h with h; injection h with h1 h2; rw [← h2]; exact hne
      · split at h
        · rename_i y hy
          injection h with h; subst h
          exact lexM_ne f _ _ hy
        · cases h

def trueS : List UInt8 := [84, 82, 85, 69]
def falseS : List UInt8 := [70, 65, 76, 83, 69]
/-- Is a text a word? -/
def wordM (one : List UInt8 → One) (l : List UInt8) : Bool :=
  if l = trueS ∨ l = falseS ∨ 512 < l.length then false else
  match lexA one l with
  | .ok [(_, t)] => t.kind == 4 && t.s == l
  | _ => false

set_option maxRecDepth 100000 in
set_option maxHeartbeats 8000000 in
theorem word_keyword (s : ByteArray) (w : World) (b : Bool) (h1 : (s.toList == [84, 82, 85, 69]) = b) (h2 : b = false → (s.toList == [70, 65, 76, 83, 69]) = true) :
    Calls Tryz.prog 10 #[.string s] w (Q (.bool false) w) := by
  cases b with
  | true =>
    clear h2
    go_enter Tryz.func10, Tryz.ntmps10
    go_wp2_with fail
    go_ret
    exact ⟨rfl, Below.refl _ _⟩
  | false =>
    replace h2 := h2 rfl
    go_enter Tryz.func10, Tryz.ntmps10
    go_wp2_with fail
    go_ret
    exact ⟨rfl, Below.refl _ _⟩

set_option maxRecDepth 100000 in
set_option maxHeartbeats 8000000 in
theorem word_error (s : ByteArray) (w : World) (a x : Int) (h1 : (s.toList == [84, 82, 85, 69]) = false) (h2 : (s.toList == [70, 65, 76, 83, 69]) = false) (hx : (x == 0) = false)
    (C : Hid (∀ w, Glob w → Calls Tryz.prog 7 #[.string s] w (Q (.tuple #[.slice none 0 0, .int .i64 a, .int .i64 x]) w))) (hg : Glob w) :
    Calls Tryz.prog 10 #[.string s] w (Q (.bool false) w) := by
  have HG := Lib.hid hg
  clear hg
  go_enter Tryz.func10, Tryz.ntmps10
  go_wp2_with fail
  refine (C.out _ HG.out).mono ?_
  rintro e w1 ⟨rfl, hb⟩
  have HB := Lib.hid hb
  clear hb
  go_wp2_with fail
  go_ret
  exact ⟨rfl, HB.out⟩

set_option maxRecDepth 100000 in
set_option maxHeartbeats 8000000 in
theorem word_other (s : ByteArray) (w : World) (ts : List (Nat × Tok)) (n : Nat) (hn : ts.length = n) (h1 : (s.toList == [84, 82, 85, 69]) = false) (h2 : (s.toList == [70, 65, 76, 83, 69]) = false) (hx : ((n : Int) == 1) = false)
    (C : Hid (∀ w, Glob w → Calls Tryz.prog 7 #[.string s] w fun e w' => ∃ v, e = .returned (.tuple #[v, .int .i64 0, .int .i64 0]) ∧ TokS w' v ts ∧ Below w.heap.size w w')) (hg : Glob w) :
    Calls Tryz.prog 10 #[.string s] w (Q (.bool false) w) := by
  have HG := Lib.hid hg
  clear hg
  go_enter Tryz.func10, Tryz.ntmps10
  go_wp2_with fail
  refine (C.out _ HG.out).mono ?_
  rintro e w1 ⟨v, rfl, ht, hb⟩
  have HB := Lib.hid hb
  obtain ⟨ao, cap, rfl, _, _, _⟩ := ht
  rw [hn]
  clear hb hn C
  go_wp2_with fail
  go_ret
  exact ⟨rfl, HB.out⟩

set_option maxRecDepth 100000 in
set_option maxHeartbeats 8000000 in
theorem word_one_tok (s : ByteArray) (w : World) (k : Nat) (t : Tok) (S : ByteArray) (hS : (⟨t.s.toArray⟩ : ByteArray) = S) (h1 : (s.toList == [84, 82, 85, 69]) = false) (h2 : (s.toList == [70, 65, 76, 83, 69]) = false) (b1 b2 : Bool) (hb1 : (t.kind == 4) = b1) (hb2 : (S.toList == s.toList) = b2)
    (C : Hid (∀ w, Glob w → Calls Tryz.prog 7 #[.string s] w fun e w' => ∃ v, e = .returned (.tuple #[v, .int .i64 0, .int .i64 0]) ∧ TokS w' v [(k, t)] ∧ Below w.heap.size w w')) (hg : Glob w) :
    Calls Tryz.prog 10 #[.string s] w (Q (.bool (b1 && b2)) w) := by
  have HG := Lib.hid hg
  have HS := Lib.hid hS
  clear hg hS
  go_enter Tryz.func10, Tryz.ntmps10
  go_wp2_with fail
  refine (C.out _ HG.out).mono ?_
  rintro e w1 ⟨v, rfl, ht, hb⟩
  have HB := Lib.hid hb
  obtain ⟨g1, cap1, rfl, hn1, hm1, k1⟩ := ht.some (n := 1) rfl (by decide)
  have a0 := k1.c 0 _ rfl
  have a2 := k1.c 2 _ rfl
  rw [HS.out] at a2
  clear hb C k1 ht
  generalize t.kind = kd at *
  cases b1 with
  | false =>
    go_wp2_with fail
    go_ret
    exact ⟨rfl, HB.out⟩
  | true =>
    cases b2 with
    | false =>
      go_wp2_with fail
      go_ret
      exact ⟨rfl, HB.out⟩
    | true =>
      go_wp2_with fail
      go_ret
      exact ⟨rfl, HB.out⟩

theorem wordM_any {D : FD} {X : FX} (hD : DecIs D) (hX : XmlIs X) (s : ByteArray) (w : World) (hg : Glob w) :
    Calls Tryz.prog 10 #[.string s] w (Q (.bool (wordM (oneM parseF D X) s.data.toList)) w) := by
  have hsz : s.data.toList.length = s.size := rfl
  unfold wordM
  cases h1 : (s.toList == [84, 82, 85, 69]) with
  | true =>
    have e : s.data.toList = trueS := by rw [← Lib.toList_data]; simpa [trueS] using h1
    rw [if_pos (Or.inl e)]
    exact word_keyword s w true h1 (fun h => by cases h)
  | false =>
    cases h2 : (s.toList == [70, 65, 76, 83, 69]) with
    | true =>
      have e : s.data.toList = falseS := by rw [← Lib.toList_data]; simpa [falseS] using h2
      rw [if_pos (Or.inr (Or.inl e))]
      exact word_keyword s w false h1 (fun _ => h2)
    | false =>
      have e1 : ¬ s.data.toList = trueS := by rw [← Lib.toList_data]; simpa [trueS] using h1
      have e2 : ¬ s.data.toList = falseS := by rw [← Lib.toList_data]; simpa [falseS] using h2
      by_cases h3 : 512 < s.size
      · rw [if_pos (Or.inr (Or.inr (by omega)))]
        exact word_error s w 0 3 h1 h2 (by decide) (Lib.hid fun w _ => lex_long s w h3) hg
      · rw [if_neg (by rintro (h | h | h); exact e1 h; exact e2 h; omega)]
        cases hl : lexA (oneM parseF D X) s.data.toList with
        | error p =>
          obtain ⟨a, x⟩ := p
          exact word_error s w a x h1 h2 (by simpa using lexM_ne _ _ _ hl) (Lib.hid fun w hg => lex_err hD hX s w (by omega) hg hl) hg
        | ok ts =>
          have C := Lib.hid fun w hg => lex_ok hD hX s w (by omega) hg hl
          match ts, C with
          | [], C => exact word_other s w [] 0 rfl h1 h2 (by decide) C hg
          | [(k, t)], C =>
            have e : (t.s == s.data.toList) = ((⟨t.s.toArray⟩ : ByteArray).toList == s.toList) := by rw [Lib.toList_data, Lib.toList_data]
            show Calls _ _ _ _ (Q (.bool (t.kind == 4 && t.s == s.data.toList)) w)
            rw [e]
            exact word_one_tok s w k t _ rfl h1 h2 _ _ rfl rfl C hg
          | p :: q :: ts, C => exact word_other s w (p :: q :: ts) _ rfl h1 h2 (by rw [beq_eq_false_iff_ne, List.length_cons, List.length_cons]; omega) C hg

end Go.Proofs.YtegjainidiaeaaaGreatDoor
