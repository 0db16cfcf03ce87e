/- The chapter's examples, in plain words: what the three texts of quirelaw11.alive are. No program in sight. -/
import Derived.Test.YtegjainidiaeaaaGreatDoorLl
namespace Go.Proofs.YtegjainidiaeaaaGreatDoor
open Go.RowKit Go.Lib

theorem lex_step {one : List UInt8 → One} {f k n : Nat} {c : UInt8} {l : List UInt8} {t : Tok} {r : Except (Nat × Int) (List (Nat × Tok))} (hc : c ≠ 32) (h : one (c :: l) = (t, n, 0)) (hr : lexM one f (k + n) ((c :: l).drop n) = r) :
    lexM one (f + 1) k (c :: l) = contL [(k, t)] r := by
  rw [lexM, if_neg hc, h, if_neg (fun e => e rfl)]
  dsimp only
  rw [hr]
  cases r <;> rfl
theorem lex_skip {one : List UInt8 → One} {f k : Nat} {l : List UInt8} {r : Except (Nat × Int) (List (Nat × Tok))} (hr : lexM one f (k + 1) l = r) : lexM one (f + 1) k (32 :: l) = r := by
  rw [lexM, if_pos rfl, hr]
theorem lex_fail {one : List UInt8 → One} {f k n : Nat} {c : UInt8} {l : List UInt8} {t : Tok} {e : Int} (hc : c ≠ 32) (h : one (c :: l) = (t, n, e)) (he : e ≠ 0) : lexM one (f + 1) k (c :: l) = .error (k, e) := by
  rw [lexM, if_neg hc, h, if_pos he]
theorem lex_end {one : List UInt8 → One} {f k : Nat} : lexM one f k [] = .ok [] := by cases f <;> rw [lexM]

variable {D : FD} {X : FX}
theorem mark_one {c : UInt8} {l : List UInt8} {o : One} (h1 : Pl.digit c = false) (h2 : c ≠ 34) (h3 : c ≠ 39) (h4 : c ≠ 36) (h5 : isL c = false) (h : markOne (c :: l) = o) : oneM parseF D X (c :: l) = o := by
  unfold oneM
  rw [List.headD_cons, if_neg (by rw [h1]; decide), if_neg h2, if_neg h3, if_neg (by rintro (h | h); exact h4 h; rw [h5] at h; cases h), h]
theorem word_one {c : UInt8} {l : List UInt8} {o : One} (h1 : Pl.digit c = false) (h2 : c ≠ 34) (h3 : c ≠ 39) (h5 : isL c = true) (h : wordOne parseF (c :: l) = o) : oneM parseF D X (c :: l) = o := by
  unfold oneM
  rw [List.headD_cons, if_neg (by rw [h1]; decide), if_neg h2, if_neg h3, if_pos (Or.inr h5), h]

def ex1 : List UInt8 := [83, 85, 77, 40, 65, 49, 58, 66, 50, 41, 42, 49, 46, 53, 37]
def ex2 : List UInt8 := [39, 97, 32, 98, 39, 33, 65, 49, 32, 34, 120, 34, 34, 121, 34]
def ex3 : List UInt8 := [76, 79, 71, 49, 48]
def noR : List UInt8 × Int × Int × Bool × Bool := ([], 0, 0, false, false)

theorem ex1_lex (hD : D [49, 46, 53] = (0, 15, -1)) : lexA (oneM parseF D X) ex1 = .ok [(0, ⟨4, [83, 85, 77], 0, 0, noR⟩), (3, ⟨5, [40], 0, 0, noR⟩), (4, ⟨3, [], 0, 0, ([], 1, 1, false, false)⟩), (6, ⟨5, [58], 0, 0, noR⟩), (7, ⟨3, [], 0, 0, ([], 2, 2, false, false)⟩), (9, ⟨5, [41], 0, 0, noR⟩), (10, ⟨5, [42], 0, 0, noR⟩), (11, ⟨1, [], 15, -1, noR⟩), (14, ⟨5, [37], 0, 0, noR⟩)] := by
  have w0 : oneM parseF D X ex1 = (⟨4, [83, 85, 77], 0, 0, noR⟩, 3, 0) := word_one (by decide) (by decide) (by decide) (by decide) (by kernel_rfl)
  have w1 : oneM parseF D X (ex1.drop 3) = (⟨5, [40], 0, 0, noR⟩, 1, 0) := mark_one (by decide) (by decide) (by decide) (by decide) (by decide) (by kernel_rfl)
  have w2 : oneM parseF D X (ex1.drop 4) = (⟨3, [], 0, 0, ([], 1, 1, false, false)⟩, 2, 0) := word_one (by decide) (by decide) (by decide) (by decide) (by kernel_rfl)
  have w3 : oneM parseF D X (ex1.drop 6) = (⟨5, [58], 0, 0, noR⟩, 1, 0) := mark_one (by decide) (by decide) (by decide) (by decide) (by decide) (by kernel_rfl)
  have w4 : oneM parseF D X (ex1.drop 7) = (⟨3, [], 0, 0, ([], 2, 2, false, false)⟩, 2, 0) := word_one (by decide) (by decide) (by decide) (by decide) (by kernel_rfl)
  have w5 : oneM parseF D X (ex1.drop 9) = (⟨5, [41], 0, 0, noR⟩, 1, 0) := mark_one (by decide) (by decide) (by decide) (by decide) (by decide) (by kernel_rfl)
  have w6 : oneM parseF D X (ex1.drop 10) = (⟨5, [42], 0, 0, noR⟩, 1, 0) := mark_one (by decide) (by decide) (by decide) (by decide) (by decide) (by kernel_rfl)
  have w7 : oneM parseF D X (ex1.drop 11) = (⟨1, [], 15, -1, noR⟩, 3, 0) := by
    have h : oneM parseF D X (ex1.drop 11) = (⟨1, [], (D [49, 46, 53]).2.1, (D [49, 46, 53]).2.2, noR⟩, 3, (D [49, 46, 53]).1) := by kernel_rfl
    rw [h, hD]
  have w8 : oneM parseF D X (ex1.drop 14) = (⟨5, [37], 0, 0, noR⟩, 1, 0) := mark_one (by decide) (by decide) (by decide) (by decide) (by decide) (by kernel_rfl)
  refine (lex_step (by decide) w0 (lex_step (by decide) w1 (lex_step (by decide) w2 (lex_step (by decide) w3 (lex_step (by decide) w4 (lex_step (by decide) w5 (lex_step (by decide) w6 (lex_step (by decide) w7 (lex_step (by decide) w8 lex_end))))))))).trans rfl

theorem ex3_lex : lexA (oneM parseF D X) ex3 = .error (0, 41) := by
  have w0 : oneM parseF D X ex3 = (⟨3, [], 0, 0, noR⟩, 5, 41) := word_one (by decide) (by decide) (by decide) (by decide) (by kernel_rfl)
  exact lex_fail (by decide) w0 (by decide)

theorem ex2_lex (hX : X [120, 34, 121] = 0) : lexA (oneM parseF D X) ex2 = .ok [(0, ⟨3, [], 0, 0, ([97, 32, 98], 1, 1, false, false)⟩), (9, ⟨2, [120, 34, 121], 0, 0, noR⟩)] := by
  have q1 : quotedM 39 [] (ex2.drop 1) = some ([97, 32, 98], ex2.drop 5) := by simp [quotedM, ex2]
  have q2 : quotedM 34 [] (ex2.drop 10) = some ([120, 34, 121], []) := by simp [quotedM, ex2]
  have p1 : parseF [39, 97, 32, 98, 39, 33, 65, 49] = (0, [97, 32, 98], 1, 1, false, false) := by
    have s1 : quoted [97, 32, 98, 39, 33, 65, 49] = some ([97, 32, 98], [33, 65, 49]) := by simp [quoted, quotedL]
    have s2 : sheetF [39, 97, 32, 98, 39, 33, 65, 49] = ([97, 32, 98], [65, 49], true) := by
      unfold sheetF
      rw [if_pos (by rfl : ([39, 97, 32, 98, 39, 33, 65, 49] : List UInt8).head? = some 39), List.tail_cons, s1]
      kernel_rfl
    unfold parseF
    rw [s2]
    show parseG ([97, 32, 98], [65, 49], true) (cellF [65, 49]) = _
    kernel_rfl
  have w0 : oneM parseF D X ex2 = (⟨3, [], 0, 0, ([97, 32, 98], 1, 1, false, false)⟩, 8, 0) := by
    show oneM parseF D X (39 :: ex2.drop 1) = _
    rw [one_sheet (by decide) (by decide) rfl]
    unfold sheetOne
    rw [show (39 :: ex2.drop 1).drop 1 = ex2.drop 1 from rfl, q1]
    dsimp only
    rw [if_pos (by decide)]
    unfold refOne
    rw [show (39 :: ex2.drop 1).take (afterN (39 :: ex2.drop 1) ((39 :: ex2.drop 1).length - (ex2.drop 5).length)) = [39, 97, 32, 98, 39, 33, 65, 49] from by kernel_rfl, p1]
    kernel_rfl
  have w1 : oneM parseF D X (ex2.drop 9) = (⟨2, [120, 34, 121], 0, 0, noR⟩, 6, 0) := by
    show oneM parseF D X (34 :: ex2.drop 10) = _
    rw [one_text (by decide) rfl]
    unfold textOne
    rw [show (34 :: ex2.drop 10).drop 1 = ex2.drop 10 from rfl, q2]
    dsimp only
    rw [if_neg (by decide), hX]
    kernel_rfl
  refine (lex_step (by decide) w0 (lex_skip (lex_step (by decide) w1 lex_end))).trans rfl
end Go.Proofs.YtegjainidiaeaaaGreatDoor
