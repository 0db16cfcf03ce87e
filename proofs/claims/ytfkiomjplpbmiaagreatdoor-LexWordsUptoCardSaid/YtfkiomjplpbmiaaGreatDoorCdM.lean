/- Contracts of package cells, fourth part: Letters, a range over a function. -/
import Derived.Test.YtfkiomjplpbmiaaGreatDoorM1
import Derived.Test.YtfkiomjplpbmiaaGreatDoorRf
import Derived.RangeFuncNested
import Derived.RangeFuncBound
import Derived.RangeFuncCalls
import Derived.Shelf.Abstract
import Derived.Shelf.RegionOpen
import Derived.OwnWalkIn
import Derived.TacticsInMore
import Derived.LoopNIn
import Derived.LoopIn
namespace Go.Proofs.YtfkiomjplpbmiaaGreatDoor
open Go.RowKit Go.Shelf
attribute [local go_sem] Oper.semAt_some

/-- What letters hands over, column by column: the last letter first. -/
def lets : Nat → Int → List UInt8
  | 0, _ => []
  | k + 1, c => if 0 < c then UInt8.ofNat (65 + ((c - 1) % 26).toNat) :: lets k ((c - 1) / 26) else []

/-- The iterator's contract: its captured column lies in block B. -/
theorem letters_seq (F : Fence) (n : Nat) (hF : F.fn 248) (hro : F.round = none) (hn : 1 ≤ n) (B : Nat) (c : Int) (hc : c ≤ 64) (hc0 : -9223372036854775808 ≤ c) (w : World) (hB : B < w.heap.size)
    (hcell : w.cell? ⟨B, 0, none⟩ = some (.int .i64 c)) (hfr : w.frozen? ⟨B, 0, none⟩ = false) :
    SeqOwn F n Tryz.prog 248 #[.pointer (some ⟨B, 0, none⟩)] (fun x : UInt8 => #[.int .u8 x.toNat])
      (fun W W' => W'.cell? ⟨B, 0, none⟩ = W.cell? ⟨B, 0, none⟩ ∧ W'.frozen? ⟨B, 0, none⟩ = W.frozen? ⟨B, 0, none⟩) (fun A A' => ∃ v, A' = A.setCell ⟨B, 0, none⟩ v)
      (fun xs => xs = lets 64 c) (fun _ => True) 64 w := by
  intro l J Jx W hW hJ hJx hY h0
  refine callsIn_of_wp Tryz.func248 rfl hF ?_ hro
  simp only [Tryz.ntmps248, List.size_toArray, List.length_cons, List.length_nil, Nat.reduceAdd, Nat.reduceSub, Array.replicate_succ, Array.replicate_zero, List.push_toArray, List.append_toArray, List.nil_append, List.cons_append]
  gi_wp2
  gi_loopw [] (fun wr => ∃ (pre : List UInt8) (k : Nat) (d : Int), d ≤ 64 ∧ -9223372036854775808 ≤ d ∧ d ≤ (k : Int) ∧ wr.cell? ⟨B, 0, none⟩ = some (.int .i64 d) ∧ wr.frozen? ⟨B, 0, none⟩ = false ∧ pre ++ lets k d = lets 64 c ∧ pre.length + k ≤ 64 ∧ J pre wr)
    (fun wr => match wr.cell? ⟨B, 0, none⟩ with | some (.int _ d) => d.toNat | _ => 0)
  case atStart =>
    exact ⟨[], 64, c, hc, hc0, by omega, (hW.cell (p := ⟨B, 0, none⟩) hB).trans hcell, (hW.frozen (p := ⟨B, 0, none⟩) hB).trans hfr, rfl, by simp, h0⟩
  case round =>
    obtain ⟨pre, k, d, hd1, hd2, hdk, hcl, hfz, hpre, hlen, hJs⟩ := hrel
    by_cases h : 0 < d
    · obtain ⟨fn, tmps, assign, body, hy, hR⟩ := hY pre (UInt8.ofNat (65 + ((d - 1) % 26).toNat)) wr hJs (by omega)
      have hx : ((UInt8.ofNat (65 + ((d - 1) % 26).toNat)).toNat : Int) = 65 + (d - 1) % 26 := by
        rw [UInt8.toNat_ofNat']; omega
      rw [hx] at hy
      obtain ⟨k, rfl⟩ : ∃ k', k = k' + 1 := ⟨k - 1, by omega⟩
      have hlk : lets (k + 1) d = UInt8.ofNat (65 + ((d - 1) % 26).toNat) :: lets k ((d - 1) / 26) := by rw [lets, if_pos h]
      have hpre' : (pre ++ [UInt8.ofNat (65 + ((d - 1) % 26).toNat)]) ++ lets k ((d - 1) / 26) = lets 64 c := by rw [List.append_assoc, ← hpre, hlk]; rfl
      have HP := Lib.hid hpre'
      clear hpre hpre' hlk hx
      gi_wp2
      refine hR.mono ?_
      rintro e W3 (⟨rfl, hJ3, hk1, hk2⟩ | ⟨rfl, hJx3⟩)
      · have hcl3 : W3.cell? ⟨B, 0, none⟩ = some (.int .i64 d) := hk1.trans hcl
        have hfz3 : W3.frozen? ⟨B, 0, none⟩ = false := hk2.trans hfz
        clear hk1 hk2 hR hy
        gi_wp2
        go_roundw
        case rel =>
          exact ⟨pre ++ [UInt8.ofNat (65 + ((d - 1) % 26).toNat)], k, (d - 1) / 26, by omega, by omega, by omega, World.cell?_setCell_same' _ _ _ (by rw [hcl3]; rfl), by rw [World.frozen?_setCell]; exact hfz3, HP.out, by simp; omega, hJ _ _ _ hJ3 ⟨_, rfl⟩⟩
        case measure =>
          rw [World.cell?_setCell_same' _ _ _ (by rw [hcl3]; rfl), hcl]
          simp; omega
      · gi_wp2
        go_end0
        exact ⟨⟨_, rfl⟩, .inr ⟨_, trivial, hJx3⟩⟩
    · have hnil : lets k d = [] := by cases k with
        | zero => rfl
        | succ k => rw [lets, if_neg h]
      have HP : Hid (pre = lets 64 c) := by rw [← hpre, hnil, List.append_nil]; exact rfl
      clear hpre hnil
      gi_wp2
      refine ⟨fun _ h => (by cases h), ?_⟩
      gi_wp2
      go_end0
      exact ⟨⟨_, rfl⟩, .inl ⟨pre, HP.out, hJs⟩⟩

theorem conv_one (W : World) (x : UInt8) :
    (convert 76 9 (.slice (some ⟨W.heap.size, 0, none⟩) 1 1)).run Tryz.prog (W.alloc (.cells #[.int .u8 x.toNat] 5)) = .ok (.string ⟨#[x]⟩) (W.alloc (.cells #[.int .u8 x.toNat] 5)) := by
  have h := run_convert_bytes_arg (P := Tryz.prog) (W.alloc (.cells #[.int .u8 x.toNat] 5)) 76 5 Tryz.underlying76 Tryz.underlying5 W.heap.size 0 1 1 [(x.toNat : Int)] rfl
    (fun i hi => by obtain rfl : i = 0 := by omega
                    simp [go_sem]) 9 Tryz.underlying9
  rw [h]
  simp [strOfNums]

theorem letters_fn (c : Int) (w : World) :
    Calls Tryz.prog 237 #[.int .i64 c] w fun e w' => e = .returned (.func (.func 248) #[] #[.pointer (some ⟨w.heap.size, 0, none⟩)]) ∧ w.alloc (.cells #[.int .i64 c] 3) = w' := by
  go_enter Tryz.func237, Tryz.ntmps237
  go_wp2_with fail
  go_ret
  exact ⟨rfl, rfl⟩

theorem lets_letters : ∀ c : Int, c ≤ 64 → (lets 64 c).reverse = Pl.letters c := by
  intro c hc
  by_cases h : 0 < c
  · have key : ∀ i : Fin 65, 0 < i.val → (lets 64 (i.val : Int)).reverse = Pl.letters (i.val : Int) := by decide +kernel
    have := key ⟨c.toNat, by omega⟩ (by show 0 < c.toNat; omega)
    have e : ((c.toNat : Nat) : Int) = c := by omega
    rw [show ((⟨c.toNat, by omega⟩ : Fin 65).val : Int) = c from e] at this
    exact this
  · rw [lets, if_neg h]
    unfold Pl.letters
    rw [if_pos (by omega)]; rfl

/-- Letters of a column beyond the last one. -/
theorem letters_big (c : Int) (w : World) (hc : 64 < c) :
    Calls Tryz.prog 213 #[.int .i64 c] w (Q (.string ⟨(Pl.letters c).toArray⟩) w) := by
  have e : Pl.letters c = [] := by unfold Pl.letters; rw [if_pos (.inr hc)]
  rw [e]
  go_enter Tryz.func213, Tryz.ntmps213
  go_wp2_with fail
  go_ret
  exact ⟨rfl, (Below.refl _ _).alloc (Nat.le_refl _) _⟩

set_option maxRecDepth 20000 in
theorem letters_in (F : Fence) (n : Nat) (hF1 : F.fn 213) (hF2 : F.fn 237) (hF3 : F.fn 248) (hro : F.round = none) (hn : 3 ≤ n) (c : Int) (hc : c ≤ 64) (hc0 : -9223372036854775808 ≤ c) (w : World) (hlf : ∀ c w, CallsIn F (n - 1) Tryz.prog 237 #[.int .i64 c] w fun e w' => e = .returned (.func (.func 248) #[] #[.pointer (some ⟨w.heap.size, 0, none⟩)]) ∧ w.alloc (.cells #[.int .i64 c] 3) = w') :
    CallsIn F n Tryz.prog 213 #[.int .i64 c] w (Q (.string ⟨(lets 64 c).reverse.toArray⟩) w) := by
  have h1 : 1 ≤ n := by omega
  have h2 : 1 ≤ n - 1 := by omega
  refine callsIn_of_wp_marks Tryz.func213 rfl hF1 ?_ hro
  simp only [Tryz.ntmps213, List.size_toArray, List.length_cons, List.length_nil, Nat.reduceAdd, Nat.reduceSub, Array.replicate_succ, Array.replicate_zero, List.push_toArray, List.append_toArray, List.nil_append, List.cons_append]
  gi_wp2_with (gi_at_call 237; refine (hlf _ _).mono ?_; rintro e w' ⟨rfl, rfl⟩)
  have hb : ((w.alloc (.cells #[.string ⟨#[]⟩] 9)).alloc (.cells #[.int .i64 c] 3)).cell? ⟨w.heap.size + 1, 0, none⟩ = some (.int .i64 c) ∧ ((w.alloc (.cells #[.string ⟨#[]⟩] 9)).alloc (.cells #[.int .i64 c] 3)).frozen? ⟨w.heap.size + 1, 0, none⟩ = false := by constructor <;> simp [go_sem]
  have hB0 : Below w.heap.size w ((w.alloc (.cells #[.string ⟨#[]⟩] 9)).alloc (.cells #[.int .i64 c] 3)) := ((Below.refl _ w).alloc (Nat.le_refl _) _).alloc (by simp) _
  have hs1 : ((w.alloc (.cells #[.string ⟨#[]⟩] 9)).alloc (.cells #[.int .i64 c] 3)).cell? ⟨w.heap.size, 0, none⟩ = some (.string ⟨#[]⟩) := by simp [go_sem]
  have hs2 : ((w.alloc (.cells #[.string ⟨#[]⟩] 9)).alloc (.cells #[.int .i64 c] 3)).frozen? ⟨w.heap.size, 0, none⟩ = false := by simp [go_sem]
  have hz : ((w.alloc (.cells #[.string ⟨#[]⟩] 9)).alloc (.cells #[.int .i64 c] 3)).heap.size = w.heap.size + 2 := by simp
  obtain ⟨W0, hW0⟩ : ∃ W0, (w.alloc (.cells #[.string ⟨#[]⟩] 9)).alloc (.cells #[.int .i64 c] 3) = W0 := ⟨_, rfl⟩
  rw [hW0] at hb hB0 hs1 hs2 hz ⊢
  clear hW0
  have hd : decide (64 < c) = false := by simp; omega
  rw [hd]
  refine wpIn_rf (α := UInt8) hro h1 (gf := 248) (lb := #[.pointer (some ⟨w.heap.size + 1, 0, none⟩)]) rfl hF3 (enters_of Tryz.func248 (by kernel_rfl) rfl)
    (letters_seq F (n - 1) hF3 hro h2 (w.heap.size + 1) c hc hc0 W0 (by omega) hb.1 hb.2)
    (fun A B ⟨v, hv⟩ => by rw [hv]; exact (KeepsOthers.setCell A _ v).from _)
    (fun h k => ⟨k.1.trans h.1, k.2.trans h.2⟩)
    (fun W l o o' hl hW _ _ => ⟨World.cell?_of_block (World.putObj_heap_other (k := w.heap.size + 1) (by omega)), World.frozen?_of_block (World.putObj_heap_other (k := w.heap.size + 1) (by omega))⟩)
    (fun _ => rfl)
    (fun pre W => (W.cell? ⟨w.heap.size, 0, none⟩ = some (.string ⟨pre.reverse.toArray⟩) ∧ W.frozen? ⟨w.heap.size, 0, none⟩ = false) ∧ Below w.heap.size w W ∧ w.heap.size + 1 < W.heap.size)
    (fun _ _ _ => False) ?hI (fun _ _ _ _ _ hs _ _ => hs) ?hIA (fun _ _ _ _ hs _ => hs) ⟨⟨hs1, hs2⟩, hB0, by omega⟩
    (fun x => { tmps := #[.int .i64 c, undef, .string ⟨#[]⟩, .pointer (some ⟨w.heap.size, 0, none⟩), .int .u8 x.toNat, .int .i64 c, .bool false, undef, .int .i64 c, .func (.func 248) #[] #[.pointer (some ⟨w.heap.size + 1, 0, none⟩)], .int .u8 x.toNat, undef, undef, undef, undef, undef, undef], defers := [] }) ?assign ?body ?done ?stop
  case hI =>
    intro s A B row hs hg hr
    refine ⟨⟨?_, ?_⟩, ?_, ?_⟩
    · exact cell_kept hs.1.1 hg (fun r e => (hr r e).2)
    · exact (frozen_kept hs.1.1 hg (fun r e => (hr r e).2)).trans hs.1.2
    · exact hs.2.1.grown hg hs.2.1.size (fun k e => by have := (hr k e).1; omega)
    · exact Nat.lt_of_lt_of_le hs.2.2 hg.size
  case hIA =>
    rintro s A B ⟨⟨h1, h2⟩, h3, h4⟩ ⟨v, rfl⟩
    refine ⟨⟨?_, ?_⟩, h3.setCell (by simp) _, by simpa [World.setCell] using h4⟩
    · exact (World.cell?_of_block (Below.heap_setCell A ⟨w.heap.size + 1, 0, none⟩ v w.heap.size (by simp))).trans h1
    · rw [World.frozen?_setCell]; exact h2
  case assign =>
    intro l x W K hK
    gi_wp2
    exact hK
  case body =>
    rintro l pre x W ⟨⟨hc1, hf1⟩, hbel, hsz⟩ hlen
    have kc := conv_one W x
    have hsz1 : (⟨#[x]⟩ : ByteArray).size ≤ 1 := Nat.le_refl 1
    have hsz2 : (⟨pre.reverse.toArray⟩ : ByteArray).size ≤ 64 := by show pre.reverse.toArray.size ≤ 64; simp; omega
    have happ : (⟨#[x]⟩ : ByteArray) ++ ⟨pre.reverse.toArray⟩ = ⟨((pre ++ [x]).reverse).toArray⟩ := by
      apply ByteArray.ext; simp
    have hlt : w.heap.size < W.heap.size := by omega
    have hx1 : ∀ o, (W.alloc o).cell? ⟨w.heap.size, 0, none⟩ = W.cell? ⟨w.heap.size, 0, none⟩ := fun o => World.cell?_of_block (Below.heap_alloc W o w.heap.size hlt)
    have hx2 : ∀ o, (W.alloc o).frozen? ⟨w.heap.size, 0, none⟩ = W.frozen? ⟨w.heap.size, 0, none⟩ := fun o => World.frozen?_of_block (Below.heap_alloc W o w.heap.size hlt)
    have HA := Lib.hid happ
    have HB := Lib.hid hbel
    have HZ := Lib.hid hz
    clear hb hB0 hs1 hs2 hd hlf hlen hc hc0 hz happ hbel
    generalize (⟨#[x]⟩ : ByteArray) = sx at *
    generalize (⟨pre.reverse.toArray⟩ : ByteArray) = sp at *
    gi_wp2_with fail
    have hz2 := HZ.out
    have hsz' : (W.setCell ⟨w.heap.size, 0, none⟩ (.string (sx ++ sp))).heap.size = W.heap.size := by simp [World.setCell]
    have o1 : ∀ k, k < W.heap.size → ((W.setCell ⟨w.heap.size, 0, none⟩ (.string (sx ++ sp))).alloc (.cells #[.int .u8 x.toNat] 5)).heap[k]? = (W.setCell ⟨w.heap.size, 0, none⟩ (.string (sx ++ sp))).heap[k]? := fun k hk => Below.heap_alloc _ _ k (by omega)
    have o2 : (W.setCell ⟨w.heap.size, 0, none⟩ (.string (sx ++ sp))).heap[w.heap.size + 1]? = W.heap[w.heap.size + 1]? := Below.heap_setCell W ⟨w.heap.size, 0, none⟩ _ _ (by simp)
    refine ⟨((KeepsOthers.setCell W _ _).trans (KeepsOthers.alloc _ _)).from _, ⟨World.cell?_of_block ((o1 _ hsz).trans o2), World.frozen?_of_block ((o1 _ hsz).trans o2)⟩, ⟨?_, ?_⟩, ?_, ?_⟩
    · rw [World.cell?_of_block (a := ⟨w.heap.size, 0, none⟩) (o1 _ hlt), World.cell?_setCell_same' _ _ _ (by rw [hc1]; rfl), HA.out]
    · rw [World.frozen?_of_block (a := ⟨w.heap.size, 0, none⟩) (o1 _ hlt), World.frozen?_setCell]; exact hf1
    · exact (HB.out.setCell (Nat.le_refl _) _).alloc (by omega) _
    · rw [World.size_alloc]; omega
  case done =>
    rintro D ys W hD rfl ⟨⟨hc1, hf1⟩, hbel, hsz⟩ hK
    gi_wp2
    refine ⟨by simp, .inl ⟨_, _, rfl, run_takeDeferred hK, ?_⟩⟩
    refine ⟨_, results_tmp rfl _ _ _, rfl, ?_⟩
    exact hbel.trans (belowK_b (w := w) (Nat.le_refl _) W D _ _ (by omega) hK rfl rfl)
  case stop =>
    rintro D c pre W _ _ h _
    exact h.elim

theorem letters_any (c : Int) (w : World) (hc0 : -9223372036854775808 ≤ c) :
    Calls Tryz.prog 213 #[.int .i64 c] w (Q (.string ⟨(Pl.letters c).toArray⟩) w) := by
  by_cases h : c ≤ 64
  · rw [← lets_letters c h]
    exact callsIn_wide.1 (letters_in Fence.wide 3 trivial trivial trivial rfl (Nat.le_refl _) c h hc0 w (fun c w => callsIn_wide.2 (letters_fn c w)))
  · exact letters_big c w (by omega)
end Go.Proofs.YtfkiomjplpbmiaaGreatDoor

