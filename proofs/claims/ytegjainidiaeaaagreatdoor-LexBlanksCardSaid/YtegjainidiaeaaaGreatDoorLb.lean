/- Contracts of package lex: number. -/
import Derived.Test.YtegjainidiaeaaaGreatDoorLa
namespace Go.Proofs.YtegjainidiaeaaaGreatDoor
open Go.RowKit Go.Lib

abbrev digS : ByteArray := ⟨#[48, 49, 50, 51, 52, 53, 54, 55, 56, 57]⟩
theorem runD_any (s : ByteArray) (w : World) (hs : s.size ≤ 9223372036854775807) :
    Calls Tryz.prog 24 #[.string s, .string ⟨#[48, 49, 50, 51, 52, 53, 54, 55, 56, 57]⟩] w (Q (.int .i64 (runN Pl.digit s.data.toList)) w) := by
  have h := run_any s digS w hs (ascii_all _ (by decide +kernel))
  rw [digs_contains] at h
  exact h

/-- Behind the whole digits: where a number's part ends. -/
def numP (l : List UInt8) : Nat :=
  if (l.drop (runN Pl.digit l)).head? = some 46 ∧ 0 < runN Pl.digit (l.drop (runN Pl.digit l + 1)) then runN Pl.digit l + 1 + runN Pl.digit (l.drop (runN Pl.digit l + 1)) else runN Pl.digit l
/-- A sign may stand behind an e. -/
def signN (l : List UInt8) : Nat := if (l.drop 1).head? = some 43 ∨ (l.drop 1).head? = some 45 then 2 else 1
def expN (l : List UInt8) : Nat := if (l.head? = some 101 ∨ l.head? = some 69) ∧ 0 < runN Pl.digit (l.drop (signN l)) then signN l + runN Pl.digit (l.drop (signN l)) else 0
def numN (l : List UInt8) : Nat := numP l + expN (l.drop (numP l))
end Go.Proofs.YtegjainidiaeaaaGreatDoor
