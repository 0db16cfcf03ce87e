/- Contracts of package cells, ninth part: a reference without a sheet. -/
import Derived.Test.YtegjainidiaeaaaGreatDoorCh
namespace Go.Proofs.YtegjainidiaeaaaGreatDoor
open Go.RowKit Go.Lib

/-- A reference in memory. -/
structure RefAt (w : World) (B : Nat) (sh : ByteArray) (c r : Int) (ac ar : Bool) : Prop where
  c0 : w.cell? ⟨B, 0, none⟩ = some (.string sh)
  c1 : w.cell? ⟨B, 1, none⟩ = some (.int .i64 c)
  c2 : w.cell? ⟨B, 2, none⟩ = some (.int .i64 r)
  c3 : w.cell? ⟨B, 3, none⟩ = some (.bool ac)
  c4 : w.cell? ⟨B, 4, none⟩ = some (.bool ar)
  fz : ∀ o, w.frozen? ⟨B, o, none⟩ = false
  lt : B < w.heap.size

section
variable {w w' : World} {B : Nat} {sh : ByteArray} {c r : Int} {ac ar : Bool}
theorem RefAt.of_block (h : RefAt w B sh c r ac ar) (hz : w.heap.size ≤ w'.heap.size) (hb : w'.heap[B]? = w.heap[B]?) : RefAt w' B sh c r ac ar :=
  ⟨(World.cell?_of_block (a := ⟨B, 0, none⟩) hb).trans h.c0, (World.cell?_of_block (a := ⟨B, 1, none⟩) hb).trans h.c1, (World.cell?_of_block (a := ⟨B, 2, none⟩) hb).trans h.c2,
   (World.cell?_of_block (a := ⟨B, 3, none⟩) hb).trans h.c3, (World.cell?_of_block (a := ⟨B, 4, none⟩) hb).trans h.c4, fun o => (World.frozen?_of_block (a := ⟨B, o, none⟩) hb).trans (h.fz o), Nat.lt_of_lt_of_le h.lt hz⟩
theorem RefAt.below (h : RefAt w B sh c r ac ar) (hb : Below w.heap.size w w') : RefAt w' B sh c r ac ar := h.of_block hb.size (hb.block B h.lt)
theorem RefAt.alloc (h : RefAt w B sh c r ac ar) (o : Obj) : RefAt (w.alloc o) B sh c r ac ar := h.of_block (by simp) (Below.heap_alloc _ _ _ h.lt)
theorem RefAt.new (w : World) (sh : ByteArray) (c r : Int) (ac ar : Bool) : RefAt (w.alloc (.cells #[.string sh, .int .i64 c, .int .i64 r, .bool ac, .bool ar] 32)) w.heap.size sh c r ac ar :=
  ⟨by simp [go_sem], by simp [go_sem], by simp [go_sem], by simp [go_sem], by simp [go_sem], fun o => by simp [go_sem], by simp⟩
theorem setCell_size (w : World) (a : Addr) (v : Value) : (w.setCell a v).heap.size = w.heap.size := by simp [World.setCell]
theorem RefAt.other (h : RefAt w B sh c r ac ar) (a : Addr) (v : Value) (hne : B ≠ a.block) : RefAt (w.setCell a v) B sh c r ac ar :=
  h.of_block (by rw [setCell_size]; exact Nat.le_refl _) (Below.heap_setCell _ _ _ _ hne)
theorem cell_set_ne (w : World) (B i j : Nat) (v : Value) (h : i ≠ j) : (w.setCell ⟨B, i, none⟩ v).cell? ⟨B, j, none⟩ = w.cell? ⟨B, j, none⟩ :=
  World.cell?_setCell_other _ _ _ _ (by intro e; injection e with _ e; exact h e)
theorem RefAt.set0 (h : RefAt w B sh c r ac ar) (x : ByteArray) : RefAt (w.setCell ⟨B, 0, none⟩ (.string x)) B x c r ac ar :=
  ⟨World.cell?_setCell_same _ _ _ h.c0, (cell_set_ne _ _ _ _ _ (by decide)).trans h.c1, (cell_set_ne _ _ _ _ _ (by decide)).trans h.c2, (cell_set_ne _ _ _ _ _ (by decide)).trans h.c3, (cell_set_ne _ _ _ _ _ (by decide)).trans h.c4, fun o => by rw [World.frozen?_setCell]; exact h.fz o, by rw [setCell_size]; exact h.lt⟩
theorem RefAt.set1 (h : RefAt w B sh c r ac ar) (x : Int) : RefAt (w.setCell ⟨B, 1, none⟩ (.int .i64 x)) B sh x r ac ar :=
  ⟨(cell_set_ne _ _ _ _ _ (by decide)).trans h.c0, World.cell?_setCell_same _ _ _ h.c1, (cell_set_ne _ _ _ _ _ (by decide)).trans h.c2, (cell_set_ne _ _ _ _ _ (by decide)).trans h.c3, (cell_set_ne _ _ _ _ _ (by decide)).trans h.c4, fun o => by rw [World.frozen?_setCell]; exact h.fz o, by rw [setCell_size]; exact h.lt⟩
theorem RefAt.set2 (h : RefAt w B sh c r ac ar) (x : Int) : RefAt (w.setCell ⟨B, 2, none⟩ (.int .i64 x)) B sh c x ac ar :=
  ⟨(cell_set_ne _ _ _ _ _ (by decide)).trans h.c0, (cell_set_ne _ _ _ _ _ (by decide)).trans h.c1, World.cell?_setCell_same _ _ _ h.c2, (cell_set_ne _ _ _ _ _ (by decide)).trans h.c3, (cell_set_ne _ _ _ _ _ (by decide)).trans h.c4, fun o => by rw [World.frozen?_setCell]; exact h.fz o, by rw [setCell_size]; exact h.lt⟩
theorem RefAt.set3 (h : RefAt w B sh c r ac ar) (x : Bool) : RefAt (w.setCell ⟨B, 3, none⟩ (.bool x)) B sh c r x ar :=
  ⟨(cell_set_ne _ _ _ _ _ (by decide)).trans h.c0, (cell_set_ne _ _ _ _ _ (by decide)).trans h.c1, (cell_set_ne _ _ _ _ _ (by decide)).trans h.c2, World.cell?_setCell_same _ _ _ h.c3, (cell_set_ne _ _ _ _ _ (by decide)).trans h.c4, fun o => by rw [World.frozen?_setCell]; exact h.fz o, by rw [setCell_size]; exact h.lt⟩
theorem RefAt.set4 (h : RefAt w B sh c r ac ar) (x : Bool) : RefAt (w.setCell ⟨B, 4, none⟩ (.bool x)) B sh c r ac x :=
  ⟨(cell_set_ne _ _ _ _ _ (by decide)).trans h.c0, (cell_set_ne _ _ _ _ _ (by decide)).trans h.c1, (cell_set_ne _ _ _ _ _ (by decide)).trans h.c2, (cell_set_ne _ _ _ _ _ (by decide)).trans h.c3, World.cell?_setCell_same _ _ _ h.c4, fun o => by rw [World.frozen?_setCell]; exact h.fz o, by rw [setCell_size]; exact h.lt⟩
end

/-! ### Letters, digits -/
theorem caps_contains : ((⟨#[65, 66, 67, 68, 69, 70, 71, 72, 73, 74, 75, 76, 77, 78, 79, 80, 81, 82, 83, 84, 85, 86, 87, 88, 89, 90]⟩ : ByteArray).data.toList.contains ·) = Pl.capital := by
  funext b
  have : ∀ i : Fin 256, (⟨#[65, 66, 67, 68, 69, 70, 71, 72, 73, 74, 75, 76, 77, 78, 79, 80, 81, 82, 83, 84, 85, 86, 87, 88, 89, 90]⟩ : ByteArray).data.toList.contains (UInt8.ofNat i.val) = Pl.capital (UInt8.ofNat i.val) := by decide +kernel
  have h := this ⟨b.toNat, b.toNat_lt⟩
  simpa using h
theorem digs_contains : ((⟨#[48, 49, 50, 51, 52, 53, 54, 55, 56, 57]⟩ : ByteArray).data.toList.contains ·) = Pl.digit := by
  funext b
  have : ∀ i : Fin 256, (⟨#[48, 49, 50, 51, 52, 53, 54, 55, 56, 57]⟩ : ByteArray).data.toList.contains (UInt8.ofNat i.val) = Pl.digit (UInt8.ofNat i.val) := by decide +kernel
  have h := this ⟨b.toNat, b.toNat_lt⟩
  simpa using h
theorem ascii_all (t : ByteArray) (h : t.data.toList.all (fun b => decide (b.toNat < 128)) = true) : ∀ j, (h : j < t.size) → (t[j]'h).toNat < 128 := by
  intro j hj
  have := List.all_eq_true.1 h _ (mem_of_get t j hj)
  simpa using this

theorem some_caps (s : ByteArray) (w : World) (hs : s.size ≤ 9223372036854775807) :
    Calls Tryz.prog 101 #[.string s, .string ⟨#[65, 66, 67, 68, 69, 70, 71, 72, 73, 74, 75, 76, 77, 78, 79, 80, 81, 82, 83, 84, 85, 86, 87, 88, 89, 90]⟩] w (Q (.tuple #[.string ⟨(s.data.toList.takeWhile Pl.capital).toArray⟩, .string ⟨(s.data.toList.dropWhile Pl.capital).toArray⟩]) w) := by
  have h := some_any s ⟨#[65, 66, 67, 68, 69, 70, 71, 72, 73, 74, 75, 76, 77, 78, 79, 80, 81, 82, 83, 84, 85, 86, 87, 88, 89, 90]⟩ w hs (ascii_all _ (by decide +kernel))
  rw [caps_contains] at h
  exact h
theorem some_digs (s : ByteArray) (w : World) (hs : s.size ≤ 9223372036854775807) :
    Calls Tryz.prog 101 #[.string s, .string ⟨#[48, 49, 50, 51, 52, 53, 54, 55, 56, 57]⟩] w (Q (.tuple #[.string ⟨(s.data.toList.takeWhile Pl.digit).toArray⟩, .string ⟨(s.data.toList.dropWhile Pl.digit).toArray⟩]) w) := by
  have h := some_any s ⟨#[48, 49, 50, 51, 52, 53, 54, 55, 56, 57]⟩ w hs (ascii_all _ (by decide +kernel))
  rw [digs_contains] at h
  exact h

/-! ### A numeral -/
def num (l : List UInt8) : Nat := l.foldl (fun n b => 10 * n + (b.toNat - 48)) 0
theorem parse_num : ∀ (l : List UInt8) (acc : Nat), l.all Pl.digit = true → acc < 10 ^ (15 - l.length) → l.length ≤ 15 → Lib.parseUint10 acc l = .ok (l.foldl (fun n b => 10 * n + (b.toNat - 48)) acc)
  | [], acc, _, _, _ => rfl
  | b :: l, acc, h, ha, hl => by
    simp only [List.all_cons, Bool.and_eq_true] at h
    obtain ⟨h1, h2⟩ := (digit_iff b).1 h.1
    have hl' : l.length + 1 ≤ 15 := by simpa using hl
    have hp : 10 ^ (15 - l.length) = 10 * 10 ^ (15 - (l.length + 1)) := by
      rw [show 15 - l.length = (15 - (l.length + 1)) + 1 by omega, Nat.pow_succ, Nat.mul_comm]
    have hbig : 10 ^ (15 - l.length) ≤ 10 ^ 15 := Nat.pow_le_pow_right (by decide) (by omega)
    have ha' : acc < 10 ^ (15 - (l.length + 1)) := by simpa using ha
    have hnum : (10 : Nat) ^ 15 = 1000000000000000 := by decide
    rw [hnum] at hbig
    rw [Lib.parseUint10, if_pos ⟨h1, h2⟩, if_neg (by omega), if_neg (by omega), parse_num l _ h.2 (by omega) (by omega)]
    rw [List.foldl_cons, Nat.mul_comm acc 10]
theorem num_lt (l : List UInt8) (h : l.all Pl.digit = true) : num l < 10 ^ l.length := by
  have key : ∀ (l : List UInt8) (acc : Nat), l.all Pl.digit = true → l.foldl (fun n b => 10 * n + (b.toNat - 48)) acc < (acc + 1) * 10 ^ l.length := by
    intro l
    induction l with
    | nil => intro acc _; simp
    | cons b l ih =>
      intro acc h
      simp only [List.all_cons, Bool.and_eq_true] at h
      obtain ⟨h1, h2⟩ := (digit_iff b).1 h.1
      rw [List.foldl_cons, List.length_cons, Nat.pow_succ]
      have h3 := ih (10 * acc + (b.toNat - 48)) h.2
      have h4 : (10 * acc + (b.toNat - 48) + 1) * 10 ^ l.length ≤ (acc + 1) * (10 ^ l.length * 10) := by
        rw [Nat.mul_comm (10 ^ l.length) 10, ← Nat.mul_assoc]
        exact Nat.mul_le_mul_right _ (by omega)
      omega
  have := key l 0 h
  simpa [num] using this

theorem atoi_num (l : List UInt8) (h : l.all Pl.digit = true) (h0 : l ≠ []) (h7 : l.length ≤ 7) : Lib.atoiAll l = .ok (num l) := by
  cases l with
  | nil => exact absurd rfl h0
  | cons b r =>
    have hb := h
    simp only [List.all_cons, Bool.and_eq_true] at hb
    obtain ⟨h1, h2⟩ := (digit_iff b).1 hb.1
    have e1 : ¬ (b.toNat = 43 ∨ b.toNat = 45) := by omega
    have e2 : ¬ b.toNat = 45 := by omega
    have e3 : parseMag (b :: r) = .ok (num (b :: r)) := by
      unfold parseMag
      rw [if_neg (by simp), parse_num (b :: r) 0 h (Nat.pow_pos (by decide)) (by omega)]; rfl
    have e4 := num_lt (b :: r) h
    have e5 : 10 ^ (b :: r).length ≤ 10 ^ 7 := Nat.pow_le_pow_right (by decide) h7
    have hnum : (10 : Nat) ^ 7 = 10000000 := by decide
    rw [hnum] at e5
    have e6 : ¬ (¬ b.toNat = 45 ∧ 9223372036854775808 ≤ num (b :: r)) := by omega
    have e7 : ¬ (b.toNat = 45 ∧ 9223372036854775808 < num (b :: r)) := by omega
    simp only [Lib.atoiAll]
    rw [if_neg e1, e3]
    dsimp only
    rw [if_neg e6, if_neg e7, if_neg e2]

theorem below_bytes (w : World) (e : TypeId) (t : ByteArray) : Below w.heap.size w (Lib.bytesWorld w e t) :=
  ⟨rfl, rfl, rfl, by rw [Lib.bytesWorld_size]; omega, fun k hk => Lib.bytesWorld_at_old w e t k hk⟩

theorem atoi_calls (s : ByteArray) (w : World) (h : s.data.toList.all Pl.digit = true) (h0 : s.data.toList ≠ []) (h7 : s.size ≤ 7) :
    Calls Tryz.prog 103 #[.string s] w (Q (.tuple #[.int .i64 (num s.data.toList), .nilIface]) w) :=
  (Tryz.strconv_Atoi_ok s (by omega) (num s.data.toList) (atoi_num _ h h0 h7) w).mono fun _ w' ⟨he, hw⟩ => ⟨he, by
    rcases hw with rfl | ⟨t, rfl⟩
    · exact Below.refl _ _
    · exact below_bytes _ _ _⟩
end Go.Proofs.YtegjainidiaeaaaGreatDoor
