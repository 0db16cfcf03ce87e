/- What stands between two marks of one kind, in plain words. -/
import Derived.Test.YtegjainidiaeaaaGreatDoorLd
namespace Go.Proofs.YtegjainidiaeaaaGreatDoor
open Go.RowKit Go.Lib

/-- What stands between two marks m, with two for one: its text, and what is behind; none: it does not end. -/
def quotedM (m : UInt8) (acc : List UInt8) : List UInt8 → Option (List UInt8 × List UInt8)
  | [] => none
  | c :: r => if c = m then (if r.head? = some m then quotedM m (acc ++ [m]) r.tail else some (acc, r)) else quotedM m (acc ++ [c]) r
termination_by l => l.length
decreasing_by
  · cases r <;> simp; omega
  · simp

theorem quotedM_no (m : UInt8) : ∀ (l acc : List UInt8), l.contains m = false → quotedM m acc l = none
  | [], acc, _ => by rw [quotedM]
  | c :: r, acc, h => by
    simp only [List.contains_cons, Bool.or_eq_false_iff, beq_eq_false_iff_ne] at h
    rw [quotedM, if_neg (fun e => h.1 e.symm)]
    exact quotedM_no m r _ h.2

theorem quotedM_yes (m : UInt8) : ∀ (l acc : List UInt8), l.contains m = true → quotedM m acc l =
    if (l.dropWhile (· != m)).tail.head? = some m then quotedM m (acc ++ l.takeWhile (· != m) ++ [m]) (l.dropWhile (· != m)).tail.tail else some (acc ++ l.takeWhile (· != m), (l.dropWhile (· != m)).tail)
  | [], acc, h => by simp at h
  | c :: r, acc, h => by
    by_cases hc : c = m
    · subst hc
      rw [quotedM, if_pos rfl]; simp
    · have hr : r.contains m = true := by
        simp only [List.contains_cons, Bool.or_eq_true, beq_iff_eq] at h
        exact h.resolve_left (fun e => hc e.symm)
      have hb : (c != m) = true := by simp [hc]
      rw [quotedM, if_neg hc, quotedM_yes m r _ hr]
      simp [hb]

theorem indexByte_tw (c : UInt8) : ∀ l : List UInt8, Lib.indexByte l c = if l.contains c then ((l.takeWhile (· != c)).length : Int) else -1
  | [] => rfl
  | b :: l => by
    have ih := indexByte_tw c l
    rw [Lib.indexByte, ih]
    by_cases h : b = c
    · subst h; simp
    · have e1 : (b == c) = false := by simp [h]
      have e2 : (b != c) = true := by simp [h]
      have e3 : (c == b) = false := by simp; exact fun e => h e.symm
      rw [e1, if_neg (by decide), List.contains_cons, e3, Bool.false_or, List.takeWhile_cons, e2]
      cases l.contains c with
      | false => rfl
      | true =>
        have : ¬ (((l.takeWhile (· != c)).length : Int) == -1) = true := by
          intro e; have := beq_iff_eq.1 e; omega
        simp only [if_true]
        rw [if_neg this]; simp
end Go.Proofs.YtegjainidiaeaaaGreatDoor
