/- Package dec: what Parse answers, in plain words; the parser's steps. -/
import Derived.Test.YtegjainidiaeaaaGreatDoorDg
namespace Go.Proofs.YtegjainidiaeaaaGreatDoor
open Go.RowKit Go.Lib Go.Shelf

def digsOf (l : List UInt8) : List (Fin 10) := l.map fun b => ⟨(b.toNat - 48) % 10, Nat.mod_lt _ (by decide)⟩
theorem digsOf_back : ∀ l : List UInt8, l.all Pl.digit = true → (digsOf l).map digB = l
  | [], _ => rfl
  | b :: l, h => by
    simp only [List.all_cons, Bool.and_eq_true] at h
    have ih := digsOf_back l h.2
    obtain ⟨h1, h2⟩ := (digit_iff b).1 h.1
    unfold digsOf at *
    rw [List.map_cons, List.map_cons, ih]
    congr 1
    apply UInt8.toNat_inj.1
    rw [digB_nat]
    show 48 + (b.toNat - 48) % 10 = b.toNat
    omega
def valF (xs : List (Fin 10)) : Nat := xs.foldl (fun n x => 10 * n + x.val) 0
def wideF (xs : List (Fin 10)) : Nat := xs.foldl (fun n x => (n * 10 % 340282366920938463463374607431768211456 + x.val) % 340282366920938463463374607431768211456) 0
def pCut (c : UInt8) (l : List UInt8) : List UInt8 := if l.head? == some c then l.tail else l
def dW (l : List UInt8) : List UInt8 := l.takeWhile Pl.digit
def dR (l : List UInt8) : List UInt8 := l.dropWhile Pl.digit
/-- The part behind the point: is it right, the part, the rest. -/
def dotF (ok : Bool) (l : List UInt8) : Bool × List UInt8 × List UInt8 :=
  if l.head? == some 46 then (ok && !(dW l.tail).isEmpty, dW l.tail, dR l.tail) else (ok, [], l)
def signF (l : List UInt8) : List UInt8 := if l.head? == some 45 then l.tail else pCut 43 l
/-- The exponent: is it right, what it is, the rest. -/
def expF' (ok : Bool) (l : List UInt8) : Bool × Int × List UInt8 :=
  if l.head? == some 101 || l.head? == some 69 then
    (ok && decide (1 ≤ (dW (signF l.tail)).length) && decide ((dW (signF l.tail)).length ≤ 3),
     (if ok && decide (1 ≤ (dW (signF l.tail)).length) && decide ((dW (signF l.tail)).length ≤ 3) then (if l.tail.head? == some 45 then -(valF (digsOf (dW (signF l.tail))) : Int) else (valF (digsOf (dW (signF l.tail))) : Int)) else 0),
     dR (signF l.tail))
  else (ok, 0, l)
def lastF (neg : Bool) (all short : List UInt8) (p : Nat) (e : Int) : Int × Int × Int :=
  if 30 < short.length then (30, 0, 0) else tellF neg (wideF (digsOf short)) (e - p + ((all.length : Int) - short.length))
def restF (neg : Bool) (whole part : List UInt8) (x : Bool × Int × List UInt8) : Int × Int × Int :=
  if x.1 = true ∧ x.2.2 = [] then lastF neg (Lib.trimLeftB (whole ++ part) 48) (Lib.trimRightB (Lib.trimLeftB (whole ++ part) 48) 48) part.length x.2.1 else (40, 0, 0)
/-- What dec.Parse answers. -/
def decF (l : List UInt8) : Int × Int × Int :=
  restF (l.head? == some 45) (dW (pCut 45 l)) (dotF (decide (l.length ≤ 255) && !(dW (pCut 45 l)).isEmpty) (dR (pCut 45 l))).2.1
    (expF' (dotF (decide (l.length ≤ 255) && !(dW (pCut 45 l)).isEmpty) (dR (pCut 45 l))).1 (dotF (decide (l.length ≤ 255) && !(dW (pCut 45 l)).isEmpty) (dR (pCut 45 l))).2.2)

/-- One block has turned; the others lie as they lay. -/
structure Upd (B : Nat) (w w' : World) : Prop where
  other : ∀ B' vs, B' ≠ B → At w B' vs → At w' B' vs
  below : ∀ n w0, n ≤ B → Below n w0 w → Below n w0 w'
  size : w'.heap.size = w.heap.size
theorem upd_set (w : World) (B i : Nat) (v : Value) : Upd B w (w.setCell ⟨B, i, none⟩ v) :=
  ⟨fun _ _ hne h => h.other ⟨B, i, none⟩ v hne, fun _ _ hn h => h.setCell (p := ⟨B, i, none⟩) hn v, setCell_size _ _ _⟩

abbrev bs (l : List UInt8) : ByteArray := ⟨l.toArray⟩
theorem take_at (l : List UInt8) (c : UInt8) (B : Nat) (w : World) (h : At w B [.string (bs l)]) :
    Calls Tryz.prog 26 #[.pointer (some ⟨B, 0, none⟩), .string ⟨#[c]⟩] w fun e w' => e = .returned (.bool (l.head? == some c)) ∧ At w' B [.string (bs (pCut c l))] ∧ Upd B w w' := by
  refine (take_any (bs l) c B w h).mono ?_
  rintro e w' ⟨rfl, rfl⟩
  rw [str_data]
  exact ⟨rfl, h.set 0 (by simp) _, upd_set _ _ _ _⟩
theorem some_at (l : List UInt8) (B : Nat) (w : World) (hs : l.length ≤ 512) (h : At w B [.string (bs l)]) :
    Calls Tryz.prog 27 #[.pointer (some ⟨B, 0, none⟩)] w fun e w' => e = .returned (.string (bs (dW l))) ∧ At w' B [.string (bs (dR l))] ∧ Upd B w w' := by
  have h1 := some_any' (bs l) B (runN Pl.digit l) w (by rw [size_mk]; exact hs) h (by rw [str_data])
  have e1 : (bs l).extract 0 (runN Pl.digit l) = bs (dW l) := by
    apply ByteArray.ext
    rw [← Array.toList_inj, ByteArray.data_extract, Array.toList_extract, List.extract_eq_take_drop]
    show List.take (runN Pl.digit l - 0) (List.drop 0 l.toArray.toList) = (dW l).toArray.toList
    unfold dW runN
    rw [Nat.sub_zero, List.drop_zero, Pl.take_takeWhile]
  have e2 : (bs l).extract (runN Pl.digit l) (bs l).size = bs (dR l) := by
    apply ByteArray.ext
    rw [← Array.toList_inj, Lib.extract_to_end]
    show List.drop (runN Pl.digit l) l.toArray.toList = (dR l).toArray.toList
    unfold dR runN
    rw [Pl.drop_takeWhile]
  rw [e1, e2] at h1
  refine h1.mono ?_
  rintro e w' ⟨rfl, rfl⟩
  exact ⟨rfl, h.set 0 (by simp) _, upd_set _ _ _ _⟩
theorem dW_le (l : List UInt8) : (dW l).length ≤ l.length := takeWhile_le _ l
theorem dR_le (l : List UInt8) : (dR l).length ≤ l.length := dropWhile_le _ l
theorem pCut_le (c : UInt8) (l : List UInt8) : (pCut c l).length ≤ l.length := by unfold pCut; split <;> simp
end Go.Proofs.YtegjainidiaeaaaGreatDoor
