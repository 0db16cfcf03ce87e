/- quirelaw11.LexBlanks at every two texts and every number. -/
import Derived.Test.YtegjainidiaeaaaGreatDoorLv
namespace Go.Proofs.YtegjainidiaeaaaGreatDoor
open Go.RowKit Go.Lib

theorem lexM_bounds {one : List UInt8 → One} (hr : Reach one) : ∀ (f k : Nat) (l : List UInt8) (ts : List (Nat × Tok)), lexM one f k l = .ok ts → ts.length ≤ l.length ∧ ∀ p ∈ ts, p.1 ≤ k + l.length
  | 0, k, l, ts, h => by rw [lexM] at h; injection h with h; subst h; simp
  | f + 1, k, [], ts, h => by rw [lexM] at h; injection h with h; subst h; simp
  | f + 1, k, c :: l, ts, h => by
    rw [lexM] at h
    split at h
    · have ih := lexM_bounds hr f (k + 1) l ts h
      refine ⟨by rw [List.length_cons]; omega, fun p hp => ?_⟩
      have := ih.2 p hp
      rw [List.length_cons]; omega
    · split at h
      · cases h
      · rename_i he
        have hn := hr c l (by simpa using he)
        split at h
        · cases h
        · rename_i us hu
          injection h with h; subst h
          have ih := lexM_bounds hr f _ _ us hu
          have hd : ((c :: l).drop (one (c :: l)).2.1).length = l.length + 1 - (one (c :: l)).2.1 := by rw [List.length_drop, List.length_cons]
          have hn2 := hn.2
          rw [List.length_cons] at hn2
          refine ⟨by rw [List.length_cons, List.length_cons]; omega, fun p hp => ?_⟩
          rw [List.length_cons]
          rcases List.mem_cons.1 hp with rfl | hp
          · dsimp only; omega
          · have := ih.2 p hp
            omega

/-- What lex.Lex answers of any text, as far as the law asks it. -/
theorem lex_weak {D : FD} {X : FX} (hD : DecIs D) (hX : XmlIs X) (s : ByteArray) : ∃ a1 x : Int, (∀ w, Glob w → Calls Tryz.prog 7 #[.string s] w fun e w' => ∃ v, e = .returned (.tuple #[v, .int .i64 a1, .int .i64 x]) ∧ Below w.heap.size w w') ∧ (x = 0 → s.size ≤ 512 ∧ ∃ ts, lexA (oneM parseF D X) s.data.toList = .ok ts) := by
  by_cases h : 512 < s.size
  · exact ⟨0, 3, fun w _ => (lex_long s w h).mono fun e w' ⟨he, hb⟩ => ⟨_, he, hb⟩, fun h => by cases h⟩
  · cases hl : lexA (oneM parseF D X) s.data.toList with
    | error p =>
      obtain ⟨a, x⟩ := p
      exact ⟨a, x, fun w hg => (lex_err hD hX s w (by omega) hg hl).mono fun e w' ⟨he, hb⟩ => ⟨_, he, hb⟩, fun h => absurd h (lexM_ne _ _ _ hl)⟩
    | ok ts => exact ⟨0, 0, fun w hg => (lex_ok hD hX s w (by omega) hg hl).mono fun e w' ⟨v, he, _, hb⟩ => ⟨v, he, hb⟩, fun _ => ⟨by omega, ts, rfl⟩⟩

theorem blanks_law {D : FD} {X : FX} (hD : DecIs D) (hX : XmlIs X) (hD1 : D [49, 46, 53] = (0, 15, -1)) (hX1 : X [120, 34, 121] = 0) (a b : ByteArray) (n : Int) (w : World) (hg : Glob w) :
    Calls Tryz.prog 4 #[.string a, .string b, .int .i64 n] w (Q (.bool true) w) := by
  have CA := Lib.hid fun w hg => alive_any hD hX hD1 hX1 w hg
  obtain ⟨a1, e1, C1, H1⟩ := lex_weak hD hX a
  obtain ⟨a2, e2, C2, H2⟩ := lex_weak hD hX b
  by_cases hb : Bails a b n e1 e2
  · exact blanks_bail a b n e1 e2 a1 a2 w hb (Lib.hid C1) (Lib.hid C2) CA hg
  · unfold Bails at hb
    simp only [not_or] at hb
    obtain ⟨h1, h2, h3, h4, h5⟩ := hb
    have h3' : e1 = 0 := by simpa using h3
    have h4' : e2 = 0 := by simpa using h4
    obtain ⟨ha, ts, hts⟩ := H1 h3'
    obtain ⟨hbz, us, hus⟩ := H2 h4'
    obtain ⟨m, rfl⟩ : ∃ m : Nat, n = (m : Int) := ⟨n.toNat, by omega⟩
    have hsum : a.size + b.size + m ≤ 512 := by
      by_cases h : 512 < (a.size : Int) + b.size + m
      · exact absurd ⟨ha, hbz, h⟩ h5
      · omega
    have hza : a.data.toList.length = a.size := rfl
    have hzb : b.data.toList.length = b.size := rfl
    have b1 := lexM_bounds (fun c l => oneM_fits parseF D X c l) _ _ _ ts hts
    have b2 := lexM_bounds (fun c l => oneM_fits parseF D X c l) _ _ _ us hus
    have hpl := blanks_plain (fun c l => oneM_fits parseF D X c l) (fun c l x h => oneM_st parseF D X c l x h) a.data.toList b.data.toList m (by omega) ts us hts hus
    refine blanks_walk a b m ts us w (by omega) (by omega) hsum (by omega) (by omega) (fun p hp => by have := b2.2 p hp; omega)
      (Lib.hid fun w hg => lex_ok hD hX a w ha hg hts) (Lib.hid fun w hg => lex_ok hD hX b w hbz hg hus) (Lib.hid fun s hs w hg => ?_) CA hg
    refine lex_ok hD hX s w ?_ hg (by rw [hs]; exact hpl)
    have : s.data.toList.length = s.size := rfl
    rw [← this, hs, List.length_append, List.length_append, List.length_replicate]
    omega
end Go.Proofs.YtegjainidiaeaaaGreatDoor
