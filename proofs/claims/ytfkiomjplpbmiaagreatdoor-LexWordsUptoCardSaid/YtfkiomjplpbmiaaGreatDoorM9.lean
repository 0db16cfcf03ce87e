/- Package dec: values, a range over a text's digits. -/
import Derived.Test.YtfkiomjplpbmiaaGreatDoorM8
import Derived.RangeFuncNested
import Derived.RangeFuncBound
import Derived.RangeFuncCalls
import Derived.RangeFuncLeaves
import Derived.RangeFuncBox
import Derived.Shelf.Abstract
import Derived.Shelf.RegionOpen
import Derived.WalkKit
import Derived.OwnWalkIn
import Derived.TacticsInMore
import Derived.LoopNIn
import Derived.LoopIn
namespace Go.Proofs.YtfkiomjplpbmiaaGreatDoor
open Go.RowKit Go.Lib Go.Shelf
attribute [local go_sem] Oper.semAt_some

/-- What a round keeps: the text over which the range goes. -/
def KpD (Bd : Nat) (d : ByteArray) (A B : World) : Prop := A.cell? ⟨Bd, 0, none⟩ = some (.string d) → B.cell? ⟨Bd, 0, none⟩ = some (.string d)
def digB (x : Fin 10) : UInt8 := UInt8.ofNat (48 + x.val)
theorem digB_nat (x : Fin 10) : (digB x).toNat = 48 + x.val := by
  have : ∀ x : Fin 10, (digB x).toNat = 48 + x.val := by decide
  exact this x

set_option maxRecDepth 100000 in
set_option maxHeartbeats 2000000 in
theorem values1_in (F : Fence) (n : Nat) (hF : F.fn 127) (hro : F.round = none) (hn : 1 ≤ n) (l Bd : Nat) (d : ByteArray) (xs : List (Fin 10)) (hsz : d.size ≤ 512) (hd : d.data.toList = xs.map digB) (J Jx : List (Fin 10) → World → Prop)
    (hY : ∀ pre x W, J pre W → pre.length < xs.length → YieldAt F (n - 1) Tryz.prog l #[.int .i64 (x.val : Int)] W fun e W' =>
      (e = .returned (.bool true) ∧ J (pre ++ [x]) W' ∧ KpD Bd d W W') ∨ (e = .returned (.bool false) ∧ Jx (pre ++ [x]) W'))
    (W : World) (hc : W.cell? ⟨Bd, 0, none⟩ = some (.string d)) (h0 : J [] W) :
    CallsIn F n Tryz.prog 127 #[.func (.yield l) #[] #[], .pointer (some ⟨Bd, 0, none⟩)] W fun e W' => (∃ v, e = .returned v) ∧
      ((∃ ys, ys = xs ∧ J ys W') ∨ (∃ pre, pre <+: xs ∧ Jx pre W')) := by
  have hlen : d.size = xs.length := by
    show d.data.size = _
    rw [← Array.length_toList, hd, List.length_map]
  refine callsIn_of_wp Tryz.func127 rfl hF ?_ hro
  simp only [Tryz.ntmps127, List.size_toArray, List.length_cons, List.length_nil, Nat.reduceAdd, Nat.reduceSub, Array.replicate_succ, Array.replicate_zero, List.push_toArray, List.append_toArray, List.nil_append, List.cons_append]
  have HD := Lib.hid hd
  clear hd
  gi_wp2
  gi_loopw [6] (fun i wr => ∃ k : Nat, k ≤ d.size ∧ i = .int .i64 (k : Int) ∧ J (xs.take k) wr ∧ wr.cell? ⟨Bd, 0, none⟩ = some (.string d))
    (fun i _ => d.size - (intOf i).toNat)
  case atStart => exact ⟨0, Nat.zero_le _, rfl, h0, hc⟩
  case round =>
    obtain ⟨k, hk, rfl, hJs, hnx⟩ := hrel
    have hcx := hnx
    by_cases hlt : k < d.size
    · obtain ⟨x, hx⟩ : ∃ x, xs[k]? = some x := ⟨_, List.getElem?_eq_getElem (by omega)⟩
      obtain ⟨fn, tmps, assign, body, hy, hR⟩ := hY _ x wr hJs (by rw [List.length_take]; omega)
      have htk : xs.take (k + 1) = xs.take k ++ [x] := by rw [List.take_add_one, hx]; rfl
      have hdk : (d[k]'hlt).toNat = 48 + x.val := by
        have h1 : d.data.toList[k]? = some (d[k]'hlt) := List.getElem?_eq_getElem (show k < d.data.toList.length from hlt)
        rw [HD.out, List.getElem?_map, hx] at h1
        injection h1 with h1
        rw [← h1, digB_nat]
      have hv := x.isLt
      have HT := Lib.hid htk
      rw [← htk] at hR
      clear htk hx
      generalize x.val = v at *
      have h48 : (48 : Int) + (v : Int) - 48 = (v : Int) := by omega
      gi_wp2
      refine hR.mono ?_
      rintro e W3 (⟨rfl, hJ3, hk3⟩ | ⟨rfl, hJx3⟩)
      · gi_wp2
        go_roundw
        case rel => exact ⟨k + 1, by omega, by simp, hJ3, hk3 hnx⟩
        case measure => simp [intOf]; omega
      · gi_wp2
        refine bodyPost_ret (results_none rfl _ _ _) rfl ?_
        exact ⟨⟨_, rfl⟩, .inr ⟨_, List.take_prefix _ _, hJx3⟩⟩
    · obtain rfl : k = d.size := by omega
      rw [hlen, List.take_length] at hJs
      gi_wp2
      go_end0
      exact ⟨⟨_, rfl⟩, .inl ⟨_, rfl, hJs⟩⟩

theorem values_stops (F : Fence) (n : Nat) (hF : F.fn 127) (hro : F.round = none) (hn : 1 ≤ n) (Bd : Nat) (d : ByteArray) (xs : List (Fin 10)) (hsz : d.size ≤ 512) (hd : d.data.toList = xs.map digB) (w : World) (hB : Bd < w.heap.size)
    (hc : w.cell? ⟨Bd, 0, none⟩ = some (.string d)) :
    SeqStopsK F n Tryz.prog 127 #[.pointer (some ⟨Bd, 0, none⟩)] (fun x : Fin 10 => #[Value.int .i64 (x.val : Int)]) (KpD Bd d) (fun ys => ys = xs) (fun pre => pre <+: xs) xs.length w := fun l J Jx W hW _ _ hY h0 =>
  values1_in F n hF hro hn l Bd d xs hsz hd J Jx hY W ((hW.cell (p := ⟨Bd, 0, none⟩) hB).trans hc) h0
theorem kpD_t {Bd : Nat} {d : ByteArray} {A B C : World} (h : KpD Bd d A B) (k : KpD Bd d B C) : KpD Bd d A C := fun e => k (h e)
theorem kpD_b {Bd : Nat} {d : ByteArray} {w : World} (W : World) (l : Nat) (o o' : Obj) (_ : w.heap.size ≤ l) (h : W.heap[l]? = some o) (ho : o.isCells = false) (_ : o.isWalk = false) : KpD Bd d W (W.putObj l o') := fun e => by
  exact cell_kept e (grownBy_putObj' W l o') (fun r hr => by cases hr; exact ⟨o, h, ho⟩)

theorem frozen_kept' {W W' : World} {B : Nat} {v : Value} {vs : List Value} {row : Option Nat} (h : At W B (v :: vs)) (hg : W.grownBy W' row) (hr : ∀ r, row = some r → ∃ o : Obj, W.heap[r]? = some o ∧ o.isCells = false) (o : Nat) : W'.frozen? ⟨B, o, none⟩ = false := by
  have hne : some B ≠ row := by
    rintro rfl
    obtain ⟨x, hx, hc⟩ := hr B rfl
    have h0 := h.c 0 v rfl
    simp [World.cell?, hx] at h0
    cases x <;> simp [Obj.isCells] at hc h0
  exact (World.frozen?_of_block (a := ⟨B, o, none⟩) (hg.block B h.lt hne)).trans (h.fz o)
theorem At.kept {W W' : World} {B : Nat} {v : Value} {vs : List Value} {row : Option Nat} (h : At W B (v :: vs)) (hg : W.grownBy W' row) (hr : ∀ r, row = some r → ∃ o : Obj, W.heap[r]? = some o ∧ o.isCells = false) : At W' B (v :: vs) :=
  ⟨fun i u hu => cell_kept (h.c i u hu) hg hr, fun o => (frozen_kept' h hg hr o), Nat.lt_of_lt_of_le h.lt hg.size⟩

set_option maxHeartbeats 1000000 in
theorem values_any (d : ByteArray) (w : World) :
    Calls Tryz.prog 80 #[.string d] w fun e w' => e = .returned (.func (.func 127) #[] #[.pointer (some ⟨w.heap.size, 0, none⟩)]) ∧ w' = w.alloc (.cells #[.string d] 9) := by
  go_enter Tryz.func80, Tryz.ntmps80
  go_wp2_with fail
  go_ret
  exact ⟨rfl, rfl⟩
end Go.Proofs.YtfkiomjplpbmiaaGreatDoor

/- Package dec: what Parse answers, in plain words; the parser's steps. -/
namespace Go.Proofs.YtfkiomjplpbmiaaGreatDoor
open Go.RowKit Go.Lib Go.Shelf

def digsOf (l : List UInt8) : List (Fin 10) := l.map fun b => ⟨(b.toNat - 48) % 10, Nat.mod_lt _ (by decide)⟩
theorem digsOf_back : ∀ l : List UInt8, l.all Pl.digit = true → (digsOf l).map digB = l
  | [], _ => rfl
  | b :: l, h => by
    simp only [List.all_cons, Bool.and_eq_true] at h
    have ih := digsOf_back l h.2
    obtain ⟨h1, h2⟩ := (digit_iff b).1 h.1
    unfold digsOf at *
    rw [List.map_cons, List.map_cons, ih]
    congr 1
    apply UInt8.toNat_inj.1
    rw [digB_nat]
    show 48 + (b.toNat - 48) % 10 = b.toNat
    omega
def valF (xs : List (Fin 10)) : Nat := xs.foldl (fun n x => 10 * n + x.val) 0
def wideF (xs : List (Fin 10)) : Nat := xs.foldl (fun n x => (n * 10 % 340282366920938463463374607431768211456 + x.val) % 340282366920938463463374607431768211456) 0
def pCut (c : UInt8) (l : List UInt8) : List UInt8 := if l.head? == some c then l.tail else l
def dW (l : List UInt8) : List UInt8 := l.takeWhile Pl.digit
def dR (l : List UInt8) : List UInt8 := l.dropWhile Pl.digit
/-- The part behind the point: is it right, the part, the rest. -/
def dotF (ok : Bool) (l : List UInt8) : Bool × List UInt8 × List UInt8 :=
  if l.head? == some 46 then (ok && !(dW l.tail).isEmpty, dW l.tail, dR l.tail) else (ok, [], l)
def signF (l : List UInt8) : List UInt8 := if l.head? == some 45 then l.tail else pCut 43 l
/-- The exponent: is it right, what it is, the rest. -/
def expF' (ok : Bool) (l : List UInt8) : Bool × Int × List UInt8 :=
  if l.head? == some 101 || l.head? == some 69 then
    (ok && decide (1 ≤ (dW (signF l.tail)).length) && decide ((dW (signF l.tail)).length ≤ 3),
     (if ok && decide (1 ≤ (dW (signF l.tail)).length) && decide ((dW (signF l.tail)).length ≤ 3) then (if l.tail.head? == some 45 then -(valF (digsOf (dW (signF l.tail))) : Int) else (valF (digsOf (dW (signF l.tail))) : Int)) else 0),
     dR (signF l.tail))
  else (ok, 0, l)
def lastF (neg : Bool) (all short : List UInt8) (p : Nat) (e : Int) : Int × Int × Int :=
  if 30 < short.length then (30, 0, 0) else tellF neg (wideF (digsOf short)) (e - p + ((all.length : Int) - short.length))
def restF (neg : Bool) (whole part : List UInt8) (x : Bool × Int × List UInt8) : Int × Int × Int :=
  if x.1 = true ∧ x.2.2 = [] then lastF neg (Lib.trimLeftB (whole ++ part) 48) (Lib.trimRightB (Lib.trimLeftB (whole ++ part) 48) 48) part.length x.2.1 else (40, 0, 0)
/-- What dec.Parse answers. -/
def decF (l : List UInt8) : Int × Int × Int :=
  restF (l.head? == some 45) (dW (pCut 45 l)) (dotF (decide (l.length ≤ 255) && !(dW (pCut 45 l)).isEmpty) (dR (pCut 45 l))).2.1
    (expF' (dotF (decide (l.length ≤ 255) && !(dW (pCut 45 l)).isEmpty) (dR (pCut 45 l))).1 (dotF (decide (l.length ≤ 255) && !(dW (pCut 45 l)).isEmpty) (dR (pCut 45 l))).2.2)

/-- One block has turned; the others lie as they lay. -/
structure Upd (B : Nat) (w w' : World) : Prop where
  other : ∀ B' vs, B' ≠ B → At w B' vs → At w' B' vs
  below : ∀ n w0, n ≤ B → Below n w0 w → Below n w0 w'
  size : w'.heap.size = w.heap.size
theorem upd_set (w : World) (B i : Nat) (v : Value) : Upd B w (w.setCell ⟨B, i, none⟩ v) :=
  ⟨fun _ _ hne h => h.other ⟨B, i, none⟩ v hne, fun _ _ hn h => h.setCell (p := ⟨B, i, none⟩) hn v, setCell_size _ _ _⟩

abbrev bs (l : List UInt8) : ByteArray := ⟨l.toArray⟩
theorem take_at (l : List UInt8) (c : UInt8) (B : Nat) (w : World) (h : At w B [.string (bs l)]) :
    Calls Tryz.prog 78 #[.pointer (some ⟨B, 0, none⟩), .string ⟨#[c]⟩] w fun e w' => e = .returned (.bool (l.head? == some c)) ∧ At w' B [.string (bs (pCut c l))] ∧ Upd B w w' := by
  refine (take_any (bs l) c B w h).mono ?_
  rintro e w' ⟨rfl, rfl⟩
  rw [str_data]
  exact ⟨rfl, h.set 0 (by simp) _, upd_set _ _ _ _⟩
theorem some_at (l : List UInt8) (B : Nat) (w : World) (hs : l.length ≤ 512) (h : At w B [.string (bs l)]) :
    Calls Tryz.prog 79 #[.pointer (some ⟨B, 0, none⟩)] w fun e w' => e = .returned (.string (bs (dW l))) ∧ At w' B [.string (bs (dR l))] ∧ Upd B w w' := by
  have h1 := some_any' (bs l) B (runN Pl.digit l) w (by rw [size_mk]; exact hs) h (by rw [str_data])
  have e1 : (bs l).extract 0 (runN Pl.digit l) = bs (dW l) := by
    apply ByteArray.ext
    rw [← Array.toList_inj, ByteArray.data_extract, Array.toList_extract, List.extract_eq_take_drop]
    show List.take (runN Pl.digit l - 0) (List.drop 0 l.toArray.toList) = (dW l).toArray.toList
    unfold dW runN
    rw [Nat.sub_zero, List.drop_zero, Pl.take_takeWhile]
  have e2 : (bs l).extract (runN Pl.digit l) (bs l).size = bs (dR l) := by
    apply ByteArray.ext
    rw [← Array.toList_inj, Lib.extract_to_end]
    show List.drop (runN Pl.digit l) l.toArray.toList = (dR l).toArray.toList
    unfold dR runN
    rw [Pl.drop_takeWhile]
  rw [e1, e2] at h1
  refine h1.mono ?_
  rintro e w' ⟨rfl, rfl⟩
  exact ⟨rfl, h.set 0 (by simp) _, upd_set _ _ _ _⟩
theorem dW_le (l : List UInt8) : (dW l).length ≤ l.length := takeWhile_le _ l
theorem dR_le (l : List UInt8) : (dR l).length ≤ l.length := dropWhile_le _ l
theorem pCut_le (c : UInt8) (l : List UInt8) : (pCut c l).length ≤ l.length := by unfold pCut; split <;> simp
end Go.Proofs.YtfkiomjplpbmiaaGreatDoor

