/- The document's numbers: more. -/
import Derived.Test.YtfkiomjplpbmiaaGreatDoorM5
import Derived.Deep.RegionHeld3
import Derived.Deep.DeepCutAuto
import Derived.IntWalk
import Derived.Deep.AppendLies
import Derived.Test.YtfkiomjplpbmiaaGreatDoorM3
import Derived.Test.YtfkiomjplpbmiaaGreatDoorM2
namespace Go.Proofs.YtfkiomjplpbmiaaGreatDoor
open Go.RowKit Go.Lib

/-- Two numbers in memory, boxed one behind the other. -/
structure TwoB (w0 w : World) (na : Bool) (sa : Value) (xs : List Nat) (nb : Bool) (sb : Value) (ys : List Nat) : Prop where
  a : At w w0.heap.size [.bool na, sa]
  b : At w (w0.heap.size + 1) [.bool nb, sb]
  la : SlI w sa xs
  lb : SlI w sb ys
  bel : Below w0.heap.size w0 w
theorem TwoB.below {w0 w w' : World} {na : Bool} {sa : Value} {xs : List Nat} {nb : Bool} {sb : Value} {ys : List Nat} (h : TwoB w0 w na sa xs nb sb ys) (hb : Below w.heap.size w w') : TwoB w0 w' na sa xs nb sb ys :=
  ⟨h.a.below hb, h.b.below hb, h.la.below hb, h.lb.below hb, bt h.bel hb⟩
theorem TwoB.new (w : World) (na : Bool) (sa : Value) (xs : List Nat) (nb : Bool) (sb : Value) (ys : List Nat) (ha : SlI w sa xs) (hb : SlI w sb ys) :
    TwoB w ((w.alloc (.cells #[.bool na, sa] 188)).alloc (.cells #[.bool nb, sb] 188)) na sa xs nb sb ys := by
  have h1 : Below w.heap.size w ((w.alloc (.cells #[.bool na, sa] 188)).alloc (.cells #[.bool nb, sb] 188)) := ((Below.refl _ _).alloc (Nat.le_refl _) _).alloc (by simp) _
  have a1 := (At.new w #[.bool na, sa] 188).alloc (.cells #[.bool nb, sb] 188)
  have a2 := At.new (w.alloc (.cells #[.bool na, sa] 188)) #[.bool nb, sb] 188
  rw [show (w.alloc (.cells #[.bool na, sa] 188)).heap.size = w.heap.size + 1 by simp] at a2
  exact ⟨a1, a2, ha.below h1, hb.below h1, h1⟩

/-- Which of two lists of digits is more, from so many digits down. -/
def moreN (xs ys : List Nat) : Nat → Int
  | 0 => 0
  | k + 1 => if dg ys k < dg xs k then 1 else if dg xs k < dg ys k then -1 else moreN xs ys k

set_option maxRecDepth 100000 in
set_option maxHeartbeats 8000000 in
theorem r9more (w : World) (na : Bool) (sa : Value) (xs : List Nat) (nb : Bool) (sb : Value) (ys : List Nat) (ha : SlI w sa xs) (hb : SlI w sb ys) (h1 : xs.length ≤ 10000) (h2 : ys.length ≤ 10000) :
    Calls Tryz.prog 227 #[bigV na sa, bigV nb sb] w (Q (.int .i64 (moreN xs ys (xs.length + ys.length + 1))) w) := by
  obtain ⟨V, hV⟩ : ∃ V, moreN xs ys (xs.length + ys.length + 1) = V := ⟨_, rfl⟩
  rw [hV]
  have HV := Lib.hid hV
  have HT := Lib.hid (TwoB.new w na sa xs nb sb ys ha hb)
  have CA := Lib.hid (fun w sl (ds : List Nat) ng i (h : SlI w sl ds) hi => r9at w ng sl ds i h hi)
  obtain ⟨ao, c1, rfl, _, _, _⟩ := ha
  obtain ⟨bo, c2, rfl, _, _, _⟩ := hb
  obtain ⟨n, hn⟩ : ∃ n, xs.length = n := ⟨_, rfl⟩
  obtain ⟨m, hm⟩ : ∃ m, ys.length = m := ⟨_, rfl⟩
  have HL : Hid (xs.length = n ∧ ys.length = m) := ⟨hn, hm⟩
  rw [hn] at HT h1 ⊢
  rw [hm] at HT h2 ⊢
  clear hV hn hm
  go_enter Tryz.func227, Tryz.ntmps227
  go_upto_region 1 with (fail)
  go_cut [2, 3, 5] (fun v2 v3 v5 wx => v2 = .pointer (some ⟨w.heap.size, 0, none⟩) ∧ v3 = .pointer (some ⟨w.heap.size + 1, 0, none⟩) ∧ v5 = .int .i64 ((xs.length + ys.length : Nat) : Int) ∧ TwoB w wx na (.slice ao n c1) xs nb (.slice bo m c2) ys)
  case first =>
    obtain ⟨a1, b1, l1, l2, hbl⟩ := HT.out
    have p0 := a1.c 0 _ rfl
    have p1 := a1.c 1 _ rfl
    have q0 := b1.c 0 _ rfl
    have q1 := b1.c 1 _ rfl
    clear a1 b1 hbl l1 l2
    go_wp2_with fail
    go_meet
    exact ⟨rfl, rfl, by rw [HL.out.1, HL.out.2]; go_num, HT.out⟩
  case rest =>
    obtain ⟨rfl, rfl, rfl, ht⟩ := hcut
    replace HT := Lib.hid ht
    clear ht
    rw [HL.out.1, HL.out.2] at HV ⊢
    go_wp2_with fail
    go_loopg [5] (n + m + 1) (fun gf v5 wx => ∃ i : Int, v5 = .int .i64 i ∧ -1 ≤ i ∧ i ≤ n + m ∧ i < gf ∧ Hid (moreN xs ys (i + 1).toNat = V) ∧ TwoB w wx na (.slice ao n c1) xs nb (.slice bo m c2) ys)
    case atStart => exact ⟨((n + m : Nat) : Int), rfl, by omega, by omega, by omega, HV.out, HT.out⟩
    case round =>
      obtain ⟨i, rfl, hi1, hi2, hgf, HV, ht⟩ := hrel
      replace HT := Lib.hid ht
      clear ht
      by_cases h0 : 0 ≤ i
      · obtain ⟨k, rfl⟩ : ∃ k : Nat, i = k := ⟨i.toNat, by omega⟩
        obtain ⟨g', rfl⟩ : ∃ g', gk = g' + 1 := ⟨gk - 1, by omega⟩
        obtain ⟨x, hx⟩ : ∃ x, dg xs k = x := ⟨_, rfl⟩
        obtain ⟨y, hy⟩ : ∃ y, dg ys k = y := ⟨_, rfl⟩
        have hstep : (if y < x then 1 else if x < y then -1 else moreN xs ys k) = V := by
          rw [← HV.out, show ((k : Int) + 1).toNat = k + 1 by omega, moreN, hx, hy]
        have HS := Lib.hid hstep
        have CX : Hid (∀ w sl ng, SlI w sl xs → Calls Tryz.prog 245 #[bigV ng sl, .int .i64 (k : Int)] w (Q (.int .i64 (x : Int)) w)) := fun w sl ng h => by
          have h := CA.out w sl xs ng k h (by omega)
          rw [hx] at h; exact h
        have CY : Hid (∀ w sl ng, SlI w sl ys → Calls Tryz.prog 245 #[bigV ng sl, .int .i64 (k : Int)] w (Q (.int .i64 (y : Int)) w)) := fun w sl ng h => by
          have h := CA.out w sl ys ng k h (by omega)
          rw [hy] at h; exact h
        clear hx hy hstep HV CA
        go_wp2_with fail
        go_upto_region 4 with (fail)
        go_cut [23] (fun v23 wx => v23 = .bool (decide (y < x)) ∧ TwoB w wx na (.slice ao n c1) xs nb (.slice bo m c2) ys)
        case first =>
          have hd := HT.out.below (below_drewN (Below.refl _ _) 1)
          clear HS
          go_wp2_with fail
          go_region_held3 (fun w' => w'.cell? ⟨w.heap.size, 0, none⟩ = some (.bool na) ∧ w'.cell? ⟨w.heap.size, 1, none⟩ = some (.slice ao n c1) ∧ w'.cell? ⟨w.heap.size + 1, 0, none⟩ = some (.bool nb) ∧ w'.cell? ⟨w.heap.size + 1, 1, none⟩ = some (.slice bo m c2) ∧ TwoB w w' na (.slice ao n c1) xs nb (.slice bo m c2) ys)
            (first
              | exact ⟨ht.a.c 0 _ rfl, ht.a.c 1 _ rfl, ht.b.c 0 _ rfl, ht.b.c 1 _ rfl, ht⟩
              | exact ⟨hd.a.c 0 _ rfl, hd.a.c 1 _ rfl, hd.b.c 0 _ rfl, hd.b.c 1 _ rfl, hd⟩)
            (first
              | (go_at_call 245; refine (CX.out _ _ _ (TwoB.la (by assumption))).mono ?_; rintro e w' ⟨rfl, hb⟩; have ht := TwoB.below (by assumption) hb)
              | (go_at_call 245; refine (CY.out _ _ _ (TwoB.lb (by assumption))).mono ?_; rintro e w' ⟨rfl, hb⟩; have ht := TwoB.below (by assumption) hb))
          go_wp2
          go_meet
          exact ⟨rfl, ht⟩
        case rest =>
          obtain ⟨rfl, ht⟩ := hcut
          replace HT := Lib.hid ht
          clear ht
          by_cases h1 : y < x
          · have d1 : decide (y < x) = true := decide_eq_true h1
            have HV : Hid (V = 1) := by show _ = _; rw [← HS.out, if_pos h1]
            clear HS
            go_wp2_with fail
            go_ret
            exact ⟨by rw [HV.out]; rfl, HT.out.bel⟩
          · have d1 : decide (y < x) = false := decide_eq_false h1
            have hs := HS.out
            rw [if_neg h1] at hs
            replace HS := Lib.hid hs
            clear hs
            go_wp2_with fail
            go_upto_region 6 with (fail)
            go_cut [30] (fun v30 wx => v30 = .bool (decide (x < y)) ∧ TwoB w wx na (.slice ao n c1) xs nb (.slice bo m c2) ys)
            case first =>
              have hd := HT.out.below (below_drewN (Below.refl _ _) 1)
              clear HS
              go_wp2_with fail
              go_region_held3 (fun w' => w'.cell? ⟨w.heap.size, 0, none⟩ = some (.bool na) ∧ w'.cell? ⟨w.heap.size, 1, none⟩ = some (.slice ao n c1) ∧ w'.cell? ⟨w.heap.size + 1, 0, none⟩ = some (.bool nb) ∧ w'.cell? ⟨w.heap.size + 1, 1, none⟩ = some (.slice bo m c2) ∧ TwoB w w' na (.slice ao n c1) xs nb (.slice bo m c2) ys)
                (first
                  | exact ⟨ht.a.c 0 _ rfl, ht.a.c 1 _ rfl, ht.b.c 0 _ rfl, ht.b.c 1 _ rfl, ht⟩
                  | exact ⟨hd.a.c 0 _ rfl, hd.a.c 1 _ rfl, hd.b.c 0 _ rfl, hd.b.c 1 _ rfl, hd⟩)
                (first
                  | (go_at_call 245; refine (CX.out _ _ _ (TwoB.la (by assumption))).mono ?_; rintro e w' ⟨rfl, hb⟩; have ht := TwoB.below (by assumption) hb)
                  | (go_at_call 245; refine (CY.out _ _ _ (TwoB.lb (by assumption))).mono ?_; rintro e w' ⟨rfl, hb⟩; have ht := TwoB.below (by assumption) hb))
              go_wp2
              go_meet
              exact ⟨rfl, ht⟩
            case rest =>
              obtain ⟨rfl, ht⟩ := hcut
              replace HT := Lib.hid ht
              clear ht
              by_cases h2 : x < y
              · have d2 : decide (x < y) = true := decide_eq_true h2
                have HV : Hid (V = -1) := by show _ = _; rw [← HS.out, if_pos h2]
                clear HS
                go_wp2_with fail
                go_ret
                exact ⟨by rw [HV.out]; rfl, HT.out.bel⟩
              · have d2 : decide (x < y) = false := decide_eq_false h2
                have hs := HS.out
                rw [if_neg h2] at hs
                have HV : Hid (moreN xs ys ((k : Int) - 1 + 1).toNat = V) := by
                  show _ = _
                  rw [← hs, show ((k : Int) - 1 + 1).toNat = k by omega]
                clear hs HS
                go_wp2_with fail
                go_roundg g'
                case measure => omega
                case rel => exact ⟨(k : Int) - 1, by go_num, by omega, by omega, by omega, HV, HT.out⟩
      · obtain rfl : i = -1 := by omega
        have HV0 : Hid (V = 0) := by show _ = _; rw [← HV.out]; rfl
        clear HV
        go_wp2_with fail
        go_ret
        exact ⟨by rw [HV0.out]; rfl, HT.out.bel⟩
end Go.Proofs.YtfkiomjplpbmiaaGreatDoor

/- The document's numbers: trim. -/
namespace Go.Proofs.YtfkiomjplpbmiaaGreatDoor
open Go.RowKit Go.Lib

def numsV (ds : List Nat) : List Value := ds.map fun d : Nat => .int .i64 (d : Int)
theorem numsV_len (ds : List Nat) : (numsV ds).length = ds.length := by unfold numsV; simp
theorem numsV_snoc (ds : List Nat) (d : Nat) : numsV (ds ++ [d]) = numsV ds ++ [.int .i64 (d : Int)] := by unfold numsV; simp
theorem numsV_app (ds es : List Nat) : numsV (ds ++ es) = numsV ds ++ numsV es := by unfold numsV; simp
theorem numsV_get (ds : List Nat) (i : Nat) (u : Value) (h : (numsV ds)[i]? = some u) : ∃ d, ds[i]? = some d ∧ u = .int .i64 (d : Int) := by
  unfold numsV at h
  rw [List.getElem?_map] at h
  cases hd : ds[i]? with
  | none => rw [hd] at h; cases h
  | some d => rw [hd] at h; injection h with h; exact ⟨d, rfl, h.symm⟩
theorem numsV_one (ds : List Nat) : ∀ u ∈ numsV ds, u.oneCell' = true := by
  intro u hu
  unfold numsV at hu
  rw [List.mem_map] at hu
  obtain ⟨d, _, rfl⟩ := hu
  rfl
theorem add_none (g o j : Nat) : (⟨g, o, none⟩ : Addr).add j = ⟨g, o + j, none⟩ := by unfold Addr.add; split <;> simp_all
theorem slI_own {w : World} {base e : Nat} {v : Value} {ds : List Nat} (h : w.ownsRow base e 1 v ds.length (numsV ds)) : SlI w v ds := by
  have hc := fun g hg => h.cells (g := g) hg
  rcases h.2 with ⟨rfl, hn⟩ | ⟨g, cap, cur, rfl, _, hgg, h1, h2, _, _⟩
  · obtain rfl : ds = [] := List.eq_nil_of_length_eq_zero hn
    exact SlI.nil w
  · refine ⟨_, cap, rfl, h1, h2, fun _ => ⟨g, 0, rfl, (Array.getElem?_eq_some_iff.1 hgg).1, fun i d hi => ?_⟩⟩
    have := hc g rfl i (.int .i64 (d : Int)) (by unfold numsV; rw [List.getElem?_map, hi]; rfl)
    rw [add_none] at this
    exact this
theorem slI_own_n {w : World} {base e n : Nat} {v : Value} {ds : List Nat} (hn : ds.length = n) (h : w.ownsRow base e 1 v n (numsV ds)) : SlI w v ds := by subst hn; exact slI_own h
theorem intInfo : (Tryz.prog.info? 3).map (fun i => (i.zero, i.size, i.bytes)) = some (some (.int .i64 0), 1, 8) := by kernel_rfl

/-- A list of digits without noughts at its end. -/
def trimL (ds : List Nat) : List Nat := (ds.reverse.dropWhile (· == 0)).reverse
theorem trimL_zero (ds : List Nat) : trimL (ds ++ [0]) = trimL ds := by unfold trimL; simp
theorem trimL_some (ds : List Nat) (d : Nat) (h : d ≠ 0) : trimL (ds ++ [d]) = ds ++ [d] := by unfold trimL; simp [h]

/-- A number that comes back. -/
def BigR (neg : Bool) (ds : List Nat) (w : World) (e : Ending) (w' : World) : Prop := ∃ sl, e = .returned (bigV neg sl) ∧ SlI w' sl ds ∧ (∀ k, sl.ownBlock = some k → w.heap.size ≤ k) ∧ Below w.heap.size w w'
theorem slI_set {w : World} {sl : Value} {ds : List Nat} (h : SlI w sl ds) (B i : Nat) (u : Value) (hB : ∀ k, sl.ownBlock = some k → k ≠ B) : SlI (w.setCell ⟨B, i, none⟩ u) sl ds := by
  obtain ⟨ao, cap, rfl, h2, h3, h4⟩ := h
  refine ⟨ao, cap, rfl, h2, h3, fun hne => ?_⟩
  obtain ⟨g, o, rfl, hl, hc⟩ := h4 hne
  exact ⟨g, o, rfl, by rw [setCell_size]; exact hl, fun j d hj => (World.cell?_of_block (a := ⟨g, o + j, none⟩) (Below.heap_setCell _ _ _ _ (hB g rfl))).trans (hc j d hj)⟩


theorem own_set {w : World} {base e size n : Nat} {v : Value} {xs : List Value} (h : w.ownsRow base e size v n xs) (B i : Nat) (u : Value) (hB : B < base) : (w.setCell ⟨B, i, none⟩ u).ownsRow base e size v n xs := by
  refine ⟨h.1, ?_⟩
  rcases h.2 with hn | ⟨g, cap, cur, rfl, hbb, hgg, rest⟩
  · exact .inl hn
  · exact .inr ⟨g, cap, cur, rfl, hbb, (Below.heap_setCell _ _ _ _ (by show g ≠ B; omega)).trans hgg, rest⟩

/-- A number's variable and the one that is handed back. -/
def cv (w : World) (a : Addr) : Value := (w.cell? a).getD undef
structure TrimS (B : Nat) (w0 w : World) (neg : Bool) (sl : Value) : Prop where
  a : At w B [.bool neg, sl]
  b : ∃ x y, At w (B + 1) [x, y]
  bel : Below B w0 w
theorem TrimS.below {B : Nat} {w0 w w' : World} {neg : Bool} {sl : Value} (h : TrimS B w0 w neg sl) (hb : Below w.heap.size w w') : TrimS B w0 w' neg sl := by
  obtain ⟨x, y, h2⟩ := h.b
  exact ⟨h.a.below hb, ⟨x, y, h2.below hb⟩, h.bel.trans (hb.mono (by have := h.a.lt; omega))⟩
theorem TrimS.store {B : Nat} {w0 w : World} {neg : Bool} {sl : Value} (h : TrimS B w0 w neg sl) (v u : Value) : TrimS B w0 ((w.setCell ⟨B + 1, 0, none⟩ v).setCell ⟨B + 1, 1, none⟩ u) neg sl := by
  obtain ⟨x, y, h2⟩ := h.b
  exact ⟨(h.a.other _ _ (by show B ≠ B + 1; omega)).other _ _ (by show B ≠ B + 1; omega), ⟨v, u, h2.set2 v u⟩, below_set2 h.bel (by omega) v u⟩
def TrimC (B : Nat) (w0 w : World) (neg : Bool) (sl : Value) : Prop := w.cell? ⟨B, 0, none⟩ = some (.bool neg) ∧ w.cell? ⟨B, 1, none⟩ = some sl ∧ w.cell? ⟨B + 1, 0, none⟩ = some (cv w ⟨B + 1, 0, none⟩) ∧ w.cell? ⟨B + 1, 1, none⟩ = some (cv w ⟨B + 1, 1, none⟩) ∧ (∀ i, w.frozen? ⟨B + 1, i, none⟩ = false) ∧ TrimS B w0 w neg sl
theorem TrimS.all {B : Nat} {w0 w : World} {neg : Bool} {sl : Value} (h : TrimS B w0 w neg sl) : TrimC B w0 w neg sl := by
  obtain ⟨x, y, h2⟩ := h.b
  refine ⟨h.a.c 0 _ rfl, h.a.c 1 _ rfl, ?_, ?_, h2.fz, h⟩
  · unfold cv; rw [h2.c 0 _ rfl]; rfl
  · unfold cv; rw [h2.c 1 _ rfl]; rfl

set_option maxRecDepth 100000 in
set_option maxHeartbeats 8000000 in
theorem r9trim (w : World) (neg : Bool) (sl : Value) (ds : List Nat) (h : SlI w sl ds) (hz : ds.length ≤ 10000) :
    Calls Tryz.prog 146 #[bigV neg sl] w (BigR (neg && !(trimL ds).isEmpty) (trimL ds) w) := by
  obtain ⟨R, hR⟩ : ∃ R, trimL ds = R := ⟨_, rfl⟩
  rw [hR]
  have HR := Lib.hid hR
  have a1 := (At.new w #[.bool neg, sl] 188).alloc (.cells #[.bool false, .slice none 0 0] 188)
  have a2 := At.new (w.alloc (.cells #[.bool neg, sl] 188)) #[.bool false, .slice none 0 0] 188
  have hb := ((Below.refl w.heap.size w).alloc (Nat.le_refl _) (.cells #[.bool neg, sl] 188)).alloc (by simp) (.cells #[.bool false, .slice none 0 0] 188)
  rw [show (w.alloc (.cells #[.bool neg, sl] 188)).heap.size = w.heap.size + 1 by simp] at a2
  have hl := h.below hb
  have A1 := Lib.hid a1
  have A2 := Lib.hid a2
  have HB := Lib.hid hb
  have HL := Lib.hid hl
  clear hR a1 a2 hb hl
  obtain ⟨ao, cap, rfl, hc1, hc2, _⟩ := h
  obtain ⟨n, hn⟩ : ∃ n, ds.length = n := ⟨_, rfl⟩
  have HN := Lib.hid hn
  rw [hn] at hz HL A1 HB A2 hc1 ⊢
  clear hn
  go_enter Tryz.func146, Tryz.ntmps146
  go_upto_region 1 with (fail)
  go_cut [1, 2, 3] (fun v1 v2 v3 wx => v1 = .pointer (some ⟨w.heap.size, 0, none⟩) ∧ v2 = .pointer (some ⟨w.heap.size + 1, 0, none⟩) ∧ v3 = .int .i64 (n : Int) ∧ At wx w.heap.size [.bool neg, .slice ao n cap] ∧ At wx (w.heap.size + 1) [.bool false, .slice none 0 0] ∧ SlI wx (.slice ao n cap) ds ∧ Below w.heap.size w wx)
  case first =>
    have p0 := A1.out.c 0 _ rfl
    have p1 := A1.out.c 1 _ rfl
    go_wp2_with fail
    go_meet
    exact ⟨rfl, rfl, rfl, A1.out, A2.out, HL.out, HB.out⟩
  case rest =>
    clear A1 A2 HB HL
    obtain ⟨rfl, rfl, rfl, a1, a2, hl, hb⟩ := hcut
    have A1 := Lib.hid a1
    have A2 := Lib.hid a2
    have HL := Lib.hid hl
    have HB := Lib.hid hb
    clear a1 a2 hl hb
    go_wp2_with fail
    go_loopg [3] n (fun gf v3 wx => ∃ k : Nat, v3 = .int .i64 (k : Int) ∧ k ≤ n ∧ k ≤ gf ∧ Hid (trimL (ds.take k) = R) ∧ wx = wc)
    case atStart => exact ⟨n, rfl, by omega, by omega, by show _ = _; rw [← HN.out, List.take_length]; exact HR.out, rfl⟩
    case round =>
      obtain ⟨k, rfl, hk, hgf, HK, rfl⟩ := hrel
      have p0 := A1.out.c 0 _ rfl
      have p1 := A1.out.c 1 _ rfl
      by_cases h0 : k = 0
      · subst h0
        have hR0 : R = [] := by rw [← HK.out]; rfl
        have HR0 := Lib.hid hR0
        have q0 := A2.out.c 0 _ rfl
        have q1 := A2.out.c 1 _ rfl
        have qf := A2.out.fz
        clear HK hR0
        go_wp2_with fail
        have r2 := A2.out.set2 (.bool false) (.slice none 0 0)
        have hb2 := below_set2 HB.out (show w.heap.size ≤ w.heap.size + 1 by omega) (.bool false) (.slice none 0 0)
        have t0 := r2.c 0 _ rfl
        have t1 := r2.c 1 _ rfl
        rw [HR0.out]
        exact bodyPost_ret (v := bigV false (.slice none 0 0)) (by simp [results, Tryz.results146, go_sem, t0, t1]) rfl ⟨_, by simp, SlI.nil _, (fun k h => by cases h), hb2⟩
      · obtain ⟨j, rfl⟩ : ∃ j, k = j + 1 := ⟨k - 1, by omega⟩
        obtain ⟨g', rfl⟩ : ∃ g', gk = g' + 1 := ⟨gk - 1, by omega⟩
        have hjl : j < ds.length := by rw [HN.out]; omega
        obtain ⟨d, hd⟩ : ∃ d, ds[j]? = some d := ⟨_, List.getElem?_eq_getElem hjl⟩
        have htk : ds.take (j + 1) = ds.take j ++ [d] := by
          rw [List.take_add_one, hd]; rfl
        obtain ⟨g, o, cap', hv, _, _, hgl, hcell⟩ := HL.out.some HN.out (by omega)
        injection hv with hv1 _ hv2
        subst hv1 hv2
        have qd := hcell j d hd
        have w1 : ((j + 1 : Nat) : Int) - 1 = (j : Int) := by omega
        have d1 : decide ((0 : Int) < ((j + 1 : Nat) : Int)) = true := decide_eq_true (by omega)
        have d2 : decide ((j : Int) < (n : Int)) = true := decide_eq_true (by omega)
        by_cases hd0 : d = 0
        · have HK2 : Hid (trimL (ds.take j) = R) := by
            show _ = _
            rw [← HK.out, htk, hd0, trimL_zero]
          subst hd0
          clear HK htk hcell hd
          go_wp2_with fail
          go_roundg g'
          case measure => omega
          case rel => exact ⟨j, by go_num, by omega, by omega, HK2, rfl⟩
        · have hR1 : R = ds.take (j + 1) := by rw [← HK.out, htk, trimL_some _ _ hd0]
          have HR1 := Lib.hid hR1
          have e1 : ((d : Int) == 0) = false := by rw [beq_eq_false_iff_ne]; omega
          have HC := Lib.hid hcell
          clear HK htk hcell hd hR1
          go_wp2_with fail
          have TS := Lib.hid (⟨A1.out, ⟨_, _, A2.out⟩, HB.out⟩ : TrimS w.heap.size w wr neg (.slice (some ⟨g, o, none⟩) n cap))
          obtain ⟨i0, hi0, hz0, hz1, hz2⟩ := info_parts intInfo
          have O1 : ((wr.alloc (.cells #[] 3)).drew).ownsRow wr.heap.size 3 1 (.slice (some ⟨wr.heap.size, 0, none⟩) 0 0) 0 [] := (World.ownsRow_made wr #[] 0 (Nat.le_refl _) (by unfold maxLen; omega) rfl).drew
          have N1 : ∀ i u, (numsV (ds.take (j + 1)))[i]? = some u → ((wr.alloc (.cells #[] 3)).drew).cell? ((⟨g, o, none⟩ : Addr).add i) = some u := fun i u hu => by
            obtain ⟨x, hx, rfl⟩ := numsV_get _ _ _ hu
            have hi : ds[i]? = some x := by
              rw [List.getElem?_take] at hx
              split at hx
              · exact hx
              · cases hx
            rw [add_none]
            exact (World.cell?_of_block (a := ⟨g, o + i, none⟩) (((Below.refl _ _).alloc (Nat.le_refl _) _).drew.block g hgl)).trans (HC.out i x hi)
          have L1 : (numsV (ds.take (j + 1))).length = (j + 1) * 1 := by rw [numsV_len, List.length_take]; omega
          have kw : IntKind.i64.wrap ((j : Int) + 1) = (j : Int) + 1 := IntWalk.i64_in _ (by omega)
          have k0 : (0 : Int) ≤ (j : Int) + 1 := by omega
          have k1 : (j : Int) + 1 ≤ (cap : Int) := by omega
          have k2 : ((j : Int) + 1).toNat = j + 1 := by omega
          have hlw : w.heap.size + 1 < wr.heap.size := A2.out.lt
          go_region_held3 (fun w' => w'.cell? ⟨w.heap.size, 0, none⟩ = some (.bool neg) ∧ w'.cell? ⟨w.heap.size, 1, none⟩ = some (.slice (some ⟨g, o, none⟩) n cap) ∧ w'.cell? ⟨w.heap.size + 1, 0, none⟩ = some (cv w' ⟨w.heap.size + 1, 0, none⟩) ∧ w'.cell? ⟨w.heap.size + 1, 1, none⟩ = some (cv w' ⟨w.heap.size + 1, 1, none⟩) ∧ (∀ i, w'.frozen? ⟨w.heap.size + 1, i, none⟩ = false) ∧ TrimS w.heap.size w w' neg (.slice (some ⟨g, o, none⟩) n cap))
            (first
              | exact (TS.out.below hbl).all
              | exact ((TS.out.below hbl).store _ _).all
              | exact (TS.out.below (Below.refl _ _).drew).all
              | exact (TS.out.below ((Below.refl _ _).alloc (Nat.le_refl _) _).drew).all)
            ((refine step_append_lies _ (by rfl) _ _ _ (by rfl) wr.heap.size 3 i0 _ 1 8 Tryz.underlying186 hi0 hz0 hz1 hz2 rfl (by omega) (.slice (some ⟨wr.heap.size, 0, none⟩) 0 0) 0 [] (by rfl) O1
                ⟨g, o, none⟩ (j + 1) cap (numsV (ds.take (j + 1))) (by rfl) L1 N1 (numsV_one _)
                (by omega) (by unfold maxLen; omega) (by omega) (by simp) (wr.heap.size + 1) (by simp) ?_; intro gg cap2 w1 hown1 hgrow hat hlt; have hbl : Below wr.heap.size wr w1 := ((Below.refl _ _).alloc (Nat.le_refl _) _).drew.grown hgrow (by simp) (by intro k hk; simp [Value.ownBlock] at hk; omega)))
          have ts := TS.out.below hbl
          obtain ⟨x, y, r3⟩ := ts.b
          have r4 := r3.set2 (.bool neg) (.slice (some ⟨gg, 0, none⟩) (j + 1) cap2)
          have hb4 := (ts.store (.bool neg) (.slice (some ⟨gg, 0, none⟩) (j + 1) cap2)).bel
          have t0 := r4.c 0 _ rfl
          have t1 := r4.c 1 _ rfl
          have hlen : (ds.take (j + 1)).length = j + 1 := by rw [List.length_take]; omega
          have ho := own_set (own_set hown1 (w.heap.size + 1) 0 (.bool neg) hlw) (w.heap.size + 1) 1 (.slice (some ⟨gg, 0, none⟩) (j + 1) cap2) hlw
          rw [List.nil_append, Nat.zero_add] at ho
          have hs := slI_own_n hlen ho
          have hne : (neg && !(ds.take (j + 1)).isEmpty) = neg := by
            cases hx : ds.take (j + 1) with
            | nil => rw [hx] at hlen; cases hlen
            | cons a l => simp
          go_wp2
          rw [HR1.out, hne]
          exact bodyPost_ret (v := bigV neg (.slice (some ⟨gg, 0, none⟩) (j + 1) cap2)) (by simp [results, Tryz.results146, go_sem, t0, t1]) rfl ⟨_, rfl, hs, (fun k h => by simp [Value.ownBlock] at h; have := (hown1.lt k (by simp [Value.ownBlock, h])).1; omega), hb4⟩
end Go.Proofs.YtfkiomjplpbmiaaGreatDoor

/- The document's numbers: Of, at a number below nought. -/
namespace Go.Proofs.YtfkiomjplpbmiaaGreatDoor
open Go.RowKit Go.Lib

/-- The digits of a number, the lowest first. -/
def digL : Nat → Nat → List Nat
  | 0, _ => []
  | f + 1, m => if m = 0 then [] else m % 10 :: digL f (m / 10)

/-- What an append of one number to a row of the call's own leaves. -/
theorem own_append_int {P : Program} {ops : Array Oper} {rest : List Oper} {o : Oper} {a : Act} {Q : Exit → Act → World → Prop} {w0 W : World} (hgd : o.guard = none) (s x : Operand) (t e : TypeId) (z : Value) (bytes : Nat)
    (ho : o.op = .call { callee := .builtin .append, args := #[s, x], argTypes := #[t, t] })
    (ht : P.underlying t = some (.slice e)) (hinfo : (P.info? e).map (fun i => (i.zero, i.size, i.bytes)) = some (some z, 1, bytes)) (hz : z.cells.size = 1)
    (v : Value) (n : Nat) (xs : List Value) (y : Value) (hs : a.eval s = v) (hx : a.eval x = .slice (some ⟨W.heap.size, 0, none⟩) 1 1) (h1 : y.oneCell' = true)
    (HO : W.ownsRow w0.heap.size e 1 v n xs) (HB : Below w0.heap.size w0 W) (hn : n ≤ 9000000000) (hb : bytes ≤ 8)
    (h : ∀ v1 w1, w1.ownsRow w0.heap.size e 1 v1 (n + 1) (xs ++ [y]) → Below w0.heap.size w0 w1 → W.grownBy w1 v.ownBlock → (v1.ownBlock = v.ownBlock ∨ ∃ b, v1.ownBlock = some b ∧ W.heap.size ≤ b) → wpList P ops Q rest (a.put o.dst v1) w1) :
    wpList P ops Q (o :: rest) a (W.alloc (.cells #[y] e)) := own_append hgd s x t e z bytes ho ht hinfo hz v n xs y hs hx h1 HO HB hn hb h

set_option maxRecDepth 100000 in
set_option maxHeartbeats 8000000 in
theorem r9of (w : World) (m0 : Nat) (h0 : 0 < m0) (hm0 : m0 ≤ 9223372036854775808) :
    Calls Tryz.prog 226 #[.int .i64 (-(m0 : Int))] w (BigR true (digL 20 m0) w) := by
  obtain ⟨R, hR⟩ : ∃ R, digL 20 m0 = R := ⟨_, rfl⟩
  rw [hR]
  have HR := Lib.hid hR
  clear hR
  have A2 := Lib.hid (At.new w #[.bool false, .slice none 0 0] 188)
  have HB := Lib.hid ((Below.refl w.heap.size w).alloc (Nat.le_refl _) (.cells #[.bool false, .slice none 0 0] 188))
  go_enter Tryz.func226, Tryz.ntmps226
  go_upto_region 2 with (fail)
  go_cut [2, 3, 4] (fun v2 v3 v4 wx => v2 = .pointer (some ⟨w.heap.size, 0, none⟩) ∧ v3 = .slice none 0 0 ∧ v4 = .int .i64 (-(m0 : Int)) ∧ At wx w.heap.size [.bool false, .slice none 0 0] ∧ Below w.heap.size w wx ∧ w.heap.size < wx.heap.size)
  case first =>
    go_wp2_with fail
    go_meet
    exact ⟨rfl, rfl, rfl, A2.out, HB.out, by simp⟩
  case rest =>
    clear A2 HB
    obtain ⟨rfl, rfl, rfl, a2, hb, hlt⟩ := hcut
    have A2 := Lib.hid a2
    have HB := Lib.hid hb
    clear a2 hb
    go_wp2_with fail
    go_loopg [3, 4] 20 (fun gf v3 v4 wx => ∃ (m f : Nat) (acc : List Nat), v4 = .int .i64 (-(m : Int)) ∧ m < 10 ^ f ∧ m ≤ 9223372036854775808 ∧ f ≤ gf ∧ acc.length + f = 20 ∧ Hid (acc ++ digL f m = R) ∧ Hid (wx.ownsRow wc.heap.size 3 1 v3 acc.length (numsV acc)) ∧ Below wc.heap.size wc wx)
    case atStart => exact ⟨m0, 20, [], rfl, by omega, hm0, by omega, rfl, HR.out, World.ownsRow_nil _ _ _ _, Below.refl _ _⟩
    case round =>
      obtain ⟨m, f, acc, rfl, hmf, hm, hgf, haf, HK, HO, hbw⟩ := hrel
      have HBW := Lib.hid hbw
      clear hbw
      by_cases hz : m = 0
      · have hR1 : R = acc := by
          rw [← HK.out, hz]
          cases f <;> simp [digL]
        have e2 : (-(m : Int) != 0) = false := by rw [bne_eq_false_iff_eq]; omega
        have e1 : (-(m : Int) == 0) = true := by rw [beq_iff_eq]; omega
        have HR1 := Lib.hid hR1
        have r1 := A2.out.below HBW.out
        have q0 := r1.c 0 _ rfl
        have q1 := r1.c 1 _ rfl
        have qf := r1.fz
        have dn : decide (-(m0 : Int) < 0) = true := decide_eq_true (by omega)
        obtain ⟨ao, cap, rfl, _, _, _⟩ := slI_own HO.out
        clear HK hR1 hz
        go_wp2_with fail
        have r2 := r1.set2 (.bool true) (.slice ao acc.length cap)
        have hb2 := below_set2 (bt HB.out HBW.out) (Nat.le_refl _) (.bool true) (.slice ao acc.length cap)
        have t0 := r2.c 0 _ rfl
        have t1 := r2.c 1 _ rfl
        have hs := slI_own (own_set (own_set HO.out w.heap.size 0 (.bool true) hlt) w.heap.size 1 (.slice ao acc.length cap) hlt)
        rw [HR1.out]
        try rw [Exit.noGoto_ret]
        exact bodyPost_ret (v := bigV true (.slice ao acc.length cap)) (by simp [results, Tryz.results226, go_sem, t0, t1]) rfl ⟨_, rfl, hs, (fun k h => by have := (HO.out.lt k h).1; omega), hb2⟩
      · obtain ⟨f', rfl⟩ : ∃ f', f = f' + 1 := by
          cases f with
          | zero => exfalso; rw [Nat.pow_zero] at hmf; omega
          | succ f => exact ⟨f, rfl⟩
        obtain ⟨g', rfl⟩ : ∃ g', gk = g' + 1 := ⟨gk - 1, by omega⟩
        have hk2 : acc ++ [m % 10] ++ digL f' (m / 10) = R := by
          rw [← HK.out, digL, if_neg hz, List.append_assoc]; rfl
        have HK2 := Lib.hid hk2
        have e1 : (-(m : Int) == 0) = false := by rw [beq_eq_false_iff_ne]; omega
        have e2 : (-(m : Int) != 0) = true := by rw [bne_iff_ne]; omega
        have r1 : (-(m : Int)).tmod 10 = -((m % 10 : Nat) : Int) := by rw [Int.neg_tmod]; rfl
        have r2 : (-(m : Int)).tdiv 10 = -((m / 10 : Nat) : Int) := by rw [Int.neg_tdiv]; rfl
        have hm10 : m / 10 < 10 ^ f' := by
          rw [Nat.pow_succ] at hmf; omega
        obtain ⟨k, hk⟩ : ∃ k, m % 10 = k := ⟨_, rfl⟩
        obtain ⟨q, hq⟩ : ∃ q, m / 10 = q := ⟨_, rfl⟩
        have hk10 : k < 10 := by omega
        have hqm : q ≤ m := by omega
        rw [hk, hq] at HK2
        rw [hk] at r1
        rw [hq] at r2 hm10
        clear hk2 HK hk hq
        go_upto_if 12 with (fail)
        go_cut [4, 5] (fun v4 v5 wx => v4 = .int .i64 (-(m : Int)) ∧ v5 = .int .i64 (k : Int) ∧ wr = wx)
        case first =>
          by_cases hk0 : k = 0
          · have d1 : decide (-(k : Int) < 0) = false := decide_eq_false (by omega)
            go_wp2_with fail
            go_meet
            exact ⟨rfl, by rw [hk0]; rfl, rfl⟩
          · have d1 : decide (-(k : Int) < 0) = true := decide_eq_true (by omega)
            go_wp2_with fail
            go_meet
            exact ⟨rfl, by go_num, rfl⟩
        case rest =>
          obtain ⟨rfl, rfl, rfl⟩ := hcut
          go_wp2_with ((at_builtin; refine own_append_int (w0 := wc) rfl (.tmp 15) (.tmp 17) 186 3 (.int .i64 0) 8 rfl Tryz.underlying186 intInfo rfl u3 acc.length (numsV acc) (.int .i64 (k : Int)) rfl rfl rfl HO.out HBW.out (by omega) (by omega) ?_; intro v1 w2 ho hb hg hat; rw [← numsV_snoc] at ho; have HO2 := Lib.hid ho; have HB2 := Lib.hid hb; clear ho hb hg hat))
          go_roundg g'
          case measure => omega
          case rel => exact ⟨q, f', acc ++ [k], rfl, hm10, by omega, by omega, by rw [List.length_append, List.length_singleton]; omega, HK2, by rw [List.length_append]; exact HO2.out, HB2.out⟩
end Go.Proofs.YtfkiomjplpbmiaaGreatDoor

/- The document's numbers: Shift by one, fits. -/
namespace Go.Proofs.YtfkiomjplpbmiaaGreatDoor
open Go.RowKit Go.Lib

theorem make_one (w : World) : (Instr.makeSlice 186 (.int .i64 1) (.int .i64 1)).run Tryz.prog w = .ok (.slice (some ⟨w.heap.size, 0, none⟩) 1 1) (w.alloc (.cells #[.int .i64 0] 3)) := by kernel_rfl

set_option maxRecDepth 100000 in
set_option maxHeartbeats 8000000 in
theorem r9shift (w : World) (neg : Bool) (sl : Value) (ds : List Nat) (h : SlI w sl ds) (hz : ds.length ≤ 5000) (h0 : ds ≠ []) :
    Calls Tryz.prog 190 #[bigV neg sl, .int .i64 1] w (BigR (neg && !(trimL (0 :: ds)).isEmpty) (trimL (0 :: ds)) w) := by
  have a1 := (At.new w #[.bool neg, sl] 188).alloc (.cells #[.bool false, .slice none 0 0] 188)
  have a2 := At.new (w.alloc (.cells #[.bool neg, sl] 188)) #[.bool false, .slice none 0 0] 188
  have hb := ((Below.refl w.heap.size w).alloc (Nat.le_refl _) (.cells #[.bool neg, sl] 188)).alloc (by simp) (.cells #[.bool false, .slice none 0 0] 188)
  rw [show (w.alloc (.cells #[.bool neg, sl] 188)).heap.size = w.heap.size + 1 by simp] at a2
  have hl := h.below hb
  have A1 := Lib.hid a1
  have A2 := Lib.hid a2
  have HB := Lib.hid hb
  have HL := Lib.hid hl
  clear a1 a2 hb hl
  obtain ⟨n, hn⟩ : ∃ n, ds.length = n := ⟨_, rfl⟩
  have hn0 : 0 < n := by rw [← hn]; exact List.length_pos_iff.2 h0
  obtain ⟨g, o, cap, rfl, hc1, hc2, hgl, hcell⟩ := h.some hn hn0
  have HN := Lib.hid hn
  rw [hn] at hz
  clear hn hcell hgl h
  go_enter Tryz.func190, Tryz.ntmps190
  go_upto_region 0 with (fail)
  go_cut [2, 4] (fun v2 v4 wx => v2 = .pointer (some ⟨w.heap.size, 0, none⟩) ∧ v4 = .pointer (some ⟨w.heap.size + 1, 0, none⟩) ∧ At wx w.heap.size [.bool neg, .slice (some ⟨g, o, none⟩) n cap] ∧ At wx (w.heap.size + 1) [.bool false, .slice none 0 0] ∧ SlI wx (.slice (some ⟨g, o, none⟩) n cap) ds ∧ Below w.heap.size w wx)
  case first =>
    go_wp2_with fail
    go_meet
    exact ⟨rfl, rfl, A1.out, A2.out, HL.out, HB.out⟩
  case rest =>
    clear A1 A2 HB HL
    obtain ⟨rfl, rfl, a1, a2, hl, hb⟩ := hcut
    have A1 := Lib.hid a1
    have A2 := Lib.hid a2
    have HL := Lib.hid hl
    have HB := Lib.hid hb
    clear a1 a2 hl hb
    obtain ⟨g2, o2, cap2, hv, _, _, hgl, hcell⟩ := HL.out.some HN.out hn0
    injection hv with hv1 _ hv2
    injection hv1 with hv1
    injection hv1 with hv1 hv3
    subst hv1 hv3 hv2
    have p0 := A1.out.c 0 _ rfl
    have p1 := A1.out.c 1 _ rfl
    have TS := Lib.hid (⟨A1.out, ⟨_, _, A2.out⟩, HB.out⟩ : TrimS w.heap.size w wc neg (.slice (some ⟨g, o, none⟩) n cap))
    have HC := Lib.hid hcell
    clear hcell
    go_wp2_with fail
    obtain ⟨i0, hi0, hz0, hz1, hz2⟩ := info_parts intInfo
    have hlw : w.heap.size + 1 < wc.heap.size := A2.out.lt
    have hmk := make_one
    have O1 : ((wc.alloc (.cells #[.int .i64 0] 3)).drew).ownsRow wc.heap.size 3 1 (.slice (some ⟨wc.heap.size, 0, none⟩) 1 1) 1 [.int .i64 0] :=
      World.ownsRow.drew ⟨rfl, .inr ⟨wc.heap.size, 1, #[.int .i64 0], rfl, Nat.le_refl _, heap_alloc_new wc _, Nat.le_refl _, by unfold maxLen; omega, rfl, rfl⟩⟩
    have N1 : ∀ i u, (numsV ds)[i]? = some u → ((wc.alloc (.cells #[.int .i64 0] 3)).drew).cell? ((⟨g, o, none⟩ : Addr).add i) = some u := fun i u hu => by
      obtain ⟨x, hx, rfl⟩ := numsV_get _ _ _ hu
      rw [add_none]
      exact (World.cell?_of_block (a := ⟨g, o + i, none⟩) (((Below.refl _ _).alloc (Nat.le_refl _) _).drew.block g hgl)).trans (HC.out i x hx)
    have CT : Hid (∀ w sl, SlI w sl (0 :: ds) → Calls Tryz.prog 146 #[bigV neg sl] w (BigR (neg && !(trimL (0 :: ds)).isEmpty) (trimL (0 :: ds)) w)) := fun w sl h => r9trim w neg sl _ h (by rw [List.length_cons, HN.out]; omega)
    have LN : Hid ((0 :: ds).length = 1 + n) := by show _ = _; rw [List.length_cons, HN.out]; omega
    generalize trimL (0 :: ds) = R at *
    have L1 : (numsV ds).length = n * 1 := by rw [numsV_len, HN.out, Nat.mul_one]
    go_region_held3 (fun w' => w'.cell? ⟨w.heap.size, 0, none⟩ = some (.bool neg) ∧ w'.cell? ⟨w.heap.size, 1, none⟩ = some (.slice (some ⟨g, o, none⟩) n cap) ∧ w'.cell? ⟨w.heap.size + 1, 0, none⟩ = some (cv w' ⟨w.heap.size + 1, 0, none⟩) ∧ w'.cell? ⟨w.heap.size + 1, 1, none⟩ = some (cv w' ⟨w.heap.size + 1, 1, none⟩) ∧ (∀ i, w'.frozen? ⟨w.heap.size + 1, i, none⟩ = false) ∧ TrimS w.heap.size w w' neg (.slice (some ⟨g, o, none⟩) n cap))
      (first
        | exact (TS.out.below hbl).all
        | exact ((TS.out.below hbl).store _ _).all
        | exact (TS.out.below (Below.refl _ _).drew).all
        | exact (TS.out.below ((Below.refl _ _).alloc (Nat.le_refl _) _).drew).all)
      (first
        | (refine step_append_lies _ (by rfl) _ _ _ (by rfl) wc.heap.size 3 i0 _ 1 8 Tryz.underlying186 hi0 hz0 hz1 hz2 rfl (by omega) (.slice (some ⟨wc.heap.size, 0, none⟩) 1 1) 1 [.int .i64 0] (by rfl) O1
            ⟨g, o, none⟩ n cap (numsV ds) (by rfl) L1 N1 (numsV_one _)
            (by omega) (by unfold maxLen; omega) (by omega) (by simp) (wc.heap.size + 1) (by simp) ?_; intro gg cap2 w1 hown1 hgrow hat hlt; have hbl : Below wc.heap.size wc w1 := ((Below.refl _ _).alloc (Nat.le_refl _) _).drew.grown hgrow (by simp) (by intro k hk; simp [Value.ownBlock] at hk; omega))
        | (go_at_call 146; refine (CT.out _ _ (slI_own_n LN.out hown1)).mono ?_; rintro e w' ⟨sl', rfl, hsl, hfr, hb⟩; have hb0 := hbl; clear hbl; have hbl := hb0.trans (hb.mono hb0.size); obtain ⟨ao', cap', rfl, q1, q2, q3⟩ := hsl))
    have ts := TS.out.below hbl
    obtain ⟨x, y, r3⟩ := ts.b
    have r4 := r3.set2 (.bool (neg && !R.isEmpty)) (.slice ao' R.length cap')
    have hb4 := (ts.store (.bool (neg && !R.isEmpty)) (.slice ao' R.length cap')).bel
    have t0 := r4.c 0 _ rfl
    have t1 := r4.c 1 _ rfl
    have hfr2 : ∀ k, (Value.slice ao' R.length cap').ownBlock = some k → w.heap.size + 1 < k := fun k h => by
      have := hfr k h
      have := hb0.size
      omega
    have hs := slI_set (slI_set (⟨ao', cap', rfl, q1, q2, q3⟩ : SlI w' (.slice ao' R.length cap') R) (w.heap.size + 1) 0 (.bool (neg && !R.isEmpty)) (fun k h => by have := hfr2 k h; omega)) (w.heap.size + 1) 1 (.slice ao' R.length cap') (fun k h => by have := hfr2 k h; omega)
    go_wp2
    exact bodyPost_ret (v := bigV (neg && !R.isEmpty) (.slice ao' R.length cap')) (by simp [results, Tryz.results190, go_sem, t0, t1]) rfl ⟨_, rfl, hs, (fun k h => by have := hfr2 k h; omega), hb4⟩
end Go.Proofs.YtfkiomjplpbmiaaGreatDoor

/- The document's numbers: fits. -/
namespace Go.Proofs.YtfkiomjplpbmiaaGreatDoor
open Go.RowKit Go.Lib

/-- The digits of 2 to the 63. -/
def topD : List Nat := digL 20 9223372036854775808
theorem topD_len : topD.length = 19 := by decide +kernel
def fitsF (neg : Bool) (ds : List Nat) : Bool := decide (moreN ds topD (ds.length + topD.length + 1) < 0) || ((moreN ds topD (ds.length + topD.length + 1) == 0) && neg)

set_option maxRecDepth 100000 in
set_option maxHeartbeats 8000000 in
theorem r9fits (w : World) (neg : Bool) (sl : Value) (ds : List Nat) (h : SlI w sl ds) (hz : ds.length ≤ 5000) (h0 : ds ≠ []) :
    Calls Tryz.prog 191 #[bigV neg sl] w (Q (.bool (fitsF neg ds)) w) := by
  obtain ⟨R, hR⟩ : ∃ R, fitsF neg ds = R := ⟨_, rfl⟩
  rw [hR]
  have HR := Lib.hid hR
  clear hR
  have A1 := Lib.hid (At.new w #[.bool neg, sl] 188)
  have HB := Lib.hid ((Below.refl w.heap.size w).alloc (Nat.le_refl _) (.cells #[.bool neg, sl] 188))
  have HL := Lib.hid (h.below HB.out)
  have CO := Lib.hid (fun w => r9of w 9223372036854775808 (by decide) (Nat.le_refl _))
  have CM := Lib.hid (fun w na sa nb sb (ha : SlI w sa ds) (hb : SlI w sb topD) => r9more w na sa ds nb sb topD ha hb (by omega) (by rw [topD_len]; omega))
  obtain ⟨n, hn⟩ : ∃ n, moreN ds topD (ds.length + topD.length + 1) = n := ⟨_, rfl⟩
  rw [hn] at CM
  have hf : (decide (n < 0) || ((n == 0) && neg)) = R := by rw [← HR.out]; unfold fitsF; rw [hn]
  have HF := Lib.hid hf
  clear hn hf HR
  obtain ⟨ao, cap, rfl, _, _, _⟩ := h
  go_enter Tryz.func191, Tryz.ntmps191
  go_upto_region 1 with (fail)
  go_cut [1, 3] (fun v1 v3 wx => ∃ T ao2 cap2, v1 = .pointer (some ⟨w.heap.size, 0, none⟩) ∧ v3 = .pointer (some ⟨T, 0, none⟩) ∧ w.heap.size < T ∧ At wx T [.bool true, .slice ao2 topD.length cap2] ∧ At wx w.heap.size [.bool neg, .slice ao ds.length cap] ∧ SlI wx (.slice ao2 topD.length cap2) topD ∧ SlI wx (.slice ao ds.length cap) ds ∧ (∀ k, (Value.slice ao2 topD.length cap2).ownBlock = some k → k ≠ T) ∧ (∀ k, (Value.slice ao ds.length cap).ownBlock = some k → k ≠ T) ∧ Below w.heap.size w wx)
  case first =>
    go_wp2_with fail
    have C : Hid (∀ w, Calls Tryz.prog 226 #[.int .i64 (-9223372036854775808)] w (BigR true topD w)) := CO.out
    refine (C.out _).mono ?_
    rintro e w1 ⟨sl2, rfl, hs2, hfr2, hb⟩
    obtain ⟨ao2, cap2, rfl, k1, k2, k3⟩ := hs2
    have hs2 : SlI w1 (.slice ao2 topD.length cap2) topD := ⟨ao2, cap2, rfl, k1, k2, k3⟩
    have hal : Below w1.heap.size w1 (w1.alloc (.cells #[.bool true, .slice ao2 topD.length cap2] 188)) := (Below.refl _ _).alloc (Nat.le_refl _) _
    have H1 := Lib.hid (At.new w1 #[.bool true, .slice ao2 topD.length cap2] 188)
    have H2 := Lib.hid ((A1.out.below hb).below hal)
    have H3 := Lib.hid (hs2.below hal)
    have H4 := Lib.hid ((HL.out.below hb).below hal)
    have H5 := Lib.hid (bt (bt HB.out hb) hal)
    have hlt : w.heap.size < w1.heap.size := (A1.out.below hb).lt
    have f1 : ∀ k, (Value.slice ao2 topD.length cap2).ownBlock = some k → k ≠ w1.heap.size := fun k hk => by
      obtain ⟨g, o, rfl, hl, _⟩ := k3 (by intro h; have := topD_len; rw [h] at this; cases this)
      simp [Value.ownBlock] at hk; omega
    have f2 : ∀ k, (Value.slice ao ds.length cap).ownBlock = some k → k ≠ w1.heap.size := fun k hk => by
      obtain ⟨p, q, e, c1, c2, c3⟩ := HL.out.below hb
      injection e with e1 e2 e3
      subst e1
      obtain ⟨g, o, rfl, hl, _⟩ := c3 h0
      simp [Value.ownBlock] at hk; omega
    have F1 := Lib.hid f1
    have F2 := Lib.hid f2
    clear hs2 k3 hal hb f1 f2
    go_wp2_with fail
    go_meet
    exact ⟨_, ao2, cap2, rfl, rfl, hlt, H1.out, H2.out, H3.out, H4.out, F1.out, F2.out, H5.out⟩
  obtain ⟨T, ao2, cap2, rfl, rfl, hlt, t1, a1, l1, l2, f1, f2, hb⟩ := hcut
  clear A1 HB HL CO
  have A3 := Lib.hid (a1.other ⟨T, 0, none⟩ (.bool neg) (by show w.heap.size ≠ T; omega))
  have HB3 := Lib.hid (hb.setCell (p := ⟨T, 0, none⟩) (by show w.heap.size ≤ T; omega) (.bool neg))
  have L1 := Lib.hid (slI_set l2 T 0 (.bool neg) f2)
  have L2 := Lib.hid (slI_set l1 T 0 (.bool neg) f1)
  have t3 := t1.set 0 (by simp) (.bool neg)
  have p0 := a1.c 0 _ rfl
  have q0 := t1.c 0 _ rfl
  have q1 := t1.c 1 _ rfl
  have qf := t1.fz
  have r0 := A3.out.c 0 _ rfl
  have r1 := A3.out.c 1 _ rfl
  have s0 := t3.c 0 _ rfl
  have s1 := t3.c 1 _ rfl
  clear t1 a1 l1 l2 f1 f2 hb t3
  go_upto_region 3 with (fail)
  go_cut [1, 4] (fun v1 v4 wx => v1 = .pointer (some ⟨w.heap.size, 0, none⟩) ∧ v4 = .int .i64 n ∧ At wx w.heap.size [.bool neg, .slice ao ds.length cap] ∧ Below w.heap.size w wx)
  case first =>
    go_wp2_with fail
    refine (CM.out _ _ _ _ _ L1.out L2.out).mono ?_
    rintro e w3 ⟨rfl, hb⟩
    have A4 := Lib.hid (A3.out.below hb)
    have HB4 := Lib.hid (bt HB3.out hb)
    clear hb
    go_wp2_with fail
    go_meet
    exact ⟨rfl, rfl, A4.out, HB4.out⟩
  case rest =>
    clear A3 HB3 L1 L2 p0 q0 q1 qf r0 r1 s0 s1
    obtain ⟨rfl, rfl, a1, hb⟩ := hcut
    have p0 := a1.c 0 _ rfl
    have HB2 := Lib.hid hb
    clear hb a1
    cases h1 : decide (n < 0) with
    | true =>
      rw [h1] at HF
      go_wp2_with fail
      go_ret
      exact ⟨by rw [← HF.out]; rfl, HB2.out⟩
    | false =>
      rw [h1] at HF
      cases h2 : (n == 0) with
      | true =>
        rw [h2] at HF
        go_wp2_with fail
        go_ret
        exact ⟨by rw [← HF.out]; simp, HB2.out⟩
      | false =>
        rw [h2] at HF
        go_wp2_with fail
        go_ret
        exact ⟨by rw [← HF.out]; rfl, HB2.out⟩
end Go.Proofs.YtfkiomjplpbmiaaGreatDoor

/- Package dec: by, tens. -/
namespace Go.Proofs.YtfkiomjplpbmiaaGreatDoor
open Go.RowKit Go.Lib

set_option maxRecDepth 100000 in
set_option maxHeartbeats 8000000 in
theorem by_core (hi lo q1 r1 q0 r0 : Nat) (w : World)
    (C1 : Hid (∀ w, Calls Tryz.prog 181 #[.int .u64 0, .int .u64 (hi : Int), .int .u64 10] w (Q (.tuple #[.int .u64 (q1 : Int), .int .u64 (r1 : Int)]) w)))
    (C2 : Hid (∀ w, Calls Tryz.prog 181 #[.int .u64 (r1 : Int), .int .u64 (lo : Int), .int .u64 10] w (Q (.tuple #[.int .u64 (q0 : Int), .int .u64 (r0 : Int)]) w))) :
    Calls Tryz.prog 138 #[.agg #[.int .u64 hi, .int .u64 lo], .int .u64 10] w (Q (.tuple #[.agg #[.int .u64 q1, .int .u64 q0], .int .u64 r0]) w) := by
  have a1 := At.new w #[.int .u64 hi, .int .u64 lo] 125
  have hb1 : Below w.heap.size w (w.alloc (.cells #[.int .u64 hi, .int .u64 lo] 125)) := (Below.refl _ _).alloc (Nat.le_refl _) _
  have a2 := a1.alloc (.cells #[.int .u64 0, .int .u64 0] 125)
  have a3 := At.new (w.alloc (.cells #[.int .u64 hi, .int .u64 lo] 125)) #[.int .u64 0, .int .u64 0] 125
  have hb3 := hb1.alloc hb1.size (.cells #[.int .u64 0, .int .u64 0] 125)
  have hz : (w.alloc (.cells #[.int .u64 hi, .int .u64 lo] 125)).heap.size = w.heap.size + 1 := by simp
  rw [hz] at a3
  have A2 := Lib.hid a2
  have A3 := Lib.hid a3
  have HB := Lib.hid hb3
  clear a1 a2 a3 hb1 hb3 hz
  go_enter Tryz.func138, Tryz.ntmps138
  go_upto_region 0 with (fail)
  go_cut [2, 4] (fun v2 v4 wx => v2 = .pointer (some ⟨w.heap.size, 0, none⟩) ∧ v4 = .pointer (some ⟨w.heap.size + 1, 0, none⟩) ∧ At wx w.heap.size [.int .u64 hi, .int .u64 lo] ∧ At wx (w.heap.size + 1) [.int .u64 0, .int .u64 0] ∧ Below w.heap.size w wx)
  case first =>
    go_wp2_with fail
    go_meet
    exact ⟨rfl, rfl, A2.out, A3.out, HB.out⟩
  case rest =>
    obtain ⟨rfl, rfl, r1, r2, hb⟩ := hcut
    have p0 := r1.c 0 _ rfl
    have R1 := Lib.hid r1
    have R2 := Lib.hid r2
    replace HB := Lib.hid hb
    clear r1 r2 hb A2 A3
    go_wp2_with fail
    refine (C1.out _).mono ?_
    rintro e w1 ⟨rfl, hb⟩
    have r1 := R1.out.below hb
    replace R1 := Lib.hid r1
    replace R2 := Lib.hid (R2.out.below hb)
    replace HB := Lib.hid (bt HB.out hb)
    clear hb p0
    have p1 := r1.c 1 _ rfl
    clear r1
    go_wp2_with fail
    refine (C2.out _).mono ?_
    rintro e w2 ⟨rfl, hb⟩
    have r2 := R2.out.below hb
    replace HB := Lib.hid (bt HB.out hb)
    replace R2 := Lib.hid r2
    have q0' := r2.c 0 _ rfl
    have q1' := r2.c 1 _ rfl
    have qf := r2.fz
    clear hb p1 r2
    go_wp2_with fail
    exact ret_two R2.out HB.out (by omega) wideAgg wideSize rfl rfl rfl rfl rfl

/-- A product by ten, as often as it goes: (what it is, is it whole). -/
def tensF : Nat → Nat → Nat × Bool
  | 0, W => (W, true)
  | k + 1, W => if W = 0 then (W, true) else if W * 10 < 340282366920938463463374607431768211456 then tensF k (W * 10) else (W * 10 % 340282366920938463463374607431768211456, false)

set_option maxRecDepth 100000 in
set_option maxHeartbeats 8000000 in
theorem tens_any (W n : Nat) (w : World) (hW : W < 340282366920938463463374607431768211456) (hn : n ≤ 40) :
    Calls Tryz.prog 139 #[wv W, .int .i64 (n : Int)] w (Q (.tuple #[wv (tensF n W).1, .bool (tensF n W).2]) w) := by
  obtain ⟨V, hV⟩ : ∃ V, tensF n W = V := ⟨_, rfl⟩
  rw [hV]
  have HV := Lib.hid hV
  have CZ := Lib.hid (fun W w hW => zero_any W w hW)
  have CT := Lib.hid (fun W w hW => times_any W 10 w hW (by decide))
  obtain ⟨hi, hhi⟩ : ∃ hi, W / 18446744073709551616 = hi := ⟨_, rfl⟩
  obtain ⟨lo, hlo⟩ : ∃ lo, W % 18446744073709551616 = lo := ⟨_, rfl⟩
  show Calls _ _ #[.agg #[.int .u64 ((W / 18446744073709551616 : Nat) : Int), .int .u64 ((W % 18446744073709551616 : Nat) : Int)], _] _ _
  rw [hhi, hlo]
  have HHI := Lib.hid hhi
  have HLO := Lib.hid hlo
  have HW := Lib.hid hW
  clear hV hhi hlo hW
  have a1 := At.new w #[.int .u64 hi, .int .u64 lo] 125
  have hb1 : Below w.heap.size w (w.alloc (.cells #[.int .u64 hi, .int .u64 lo] 125)) := (Below.refl _ _).alloc (Nat.le_refl _) _
  have a2 := a1.alloc (.cells #[.int .u64 0, .int .u64 0] 125)
  have a3 := At.new (w.alloc (.cells #[.int .u64 hi, .int .u64 lo] 125)) #[.int .u64 0, .int .u64 0] 125
  have hb3 := hb1.alloc hb1.size (.cells #[.int .u64 0, .int .u64 0] 125)
  have hz : (w.alloc (.cells #[.int .u64 hi, .int .u64 lo] 125)).heap.size = w.heap.size + 1 := by simp
  rw [hz] at a3
  have A2 := Lib.hid a2
  have A3 := Lib.hid a3
  have HB := Lib.hid hb3
  clear a1 a2 a3 hb1 hb3 hz
  go_enter Tryz.func139, Tryz.ntmps139
  go_upto_region 0 with (fail)
  go_cut [2, 4] (fun v2 v4 wx => v2 = .pointer (some ⟨w.heap.size, 0, none⟩) ∧ v4 = .pointer (some ⟨w.heap.size + 1, 0, none⟩) ∧ At wx w.heap.size [.int .u64 hi, .int .u64 lo] ∧ At wx (w.heap.size + 1) [.int .u64 0, .int .u64 0] ∧ Below w.heap.size w wx)
  case first =>
    go_wp2_with fail
    go_meet
    exact ⟨rfl, rfl, A2.out, A3.out, HB.out⟩
  case rest =>
    obtain ⟨rfl, rfl, r1, r2, hb⟩ := hcut
    have R1 := Lib.hid r1
    have R2 := Lib.hid r2
    replace HB := Lib.hid hb
    clear r1 r2 hb A2 A3
    go_wp2_with fail
    go_loopg [6, 7] n (fun gf v6 v7 wx => ∃ (X k : Nat) (ok : Bool) (h l : Nat), v6 = .bool ok ∧ v7 = .int .i64 (k : Int) ∧ k ≤ n ∧ n ≤ k + gf ∧ Hid (X < 340282366920938463463374607431768211456) ∧ Hid (X / 18446744073709551616 = h ∧ X % 18446744073709551616 = l) ∧ Hid (V = if ok then tensF (n - k) X else (X, false)) ∧ Hid (At wx w.heap.size [.int .u64 h, .int .u64 l]) ∧ Hid (At wx (w.heap.size + 1) [.int .u64 0, .int .u64 0]) ∧ Below w.heap.size w wx)
    case atStart => exact ⟨W, 0, true, hi, lo, rfl, rfl, by omega, by omega, HW.out, ⟨HHI.out, HLO.out⟩, by show V = _; rw [← HV.out]; rfl, R1, R2, HB.out⟩
    case round =>
      obtain ⟨X, k, ok, h, l, rfl, rfl, hk, hgf, HX, HHL, HQ, R1, R2, hbw⟩ := hrel
      replace HB := Lib.hid hbw
      clear hbw
      have cz := fun w => CZ.out X w HX.out
      have ct := fun w => CT.out X w HX.out
      unfold wv at cz ct
      rw [HHL.out.1, HHL.out.2] at cz ct
      have CZ' := Lib.hid cz
      have CT' := Lib.hid ct
      clear cz ct
      obtain ⟨z, hz⟩ : ∃ z, decide (X = 0) = z := ⟨_, rfl⟩
      rw [hz] at CZ'
      have HZ := Lib.hid hz
      clear hz
      have p0 := R1.out.c 0 _ rfl
      have p1 := R1.out.c 1 _ rfl
      have pf := R1.out.fz
      obtain ⟨g, hg⟩ : ∃ g, (decide (k < n) && ok && !z) = g := ⟨_, rfl⟩
      have HG := Lib.hid hg
      clear hg
      go_upto_region 3 with (fail)
      go_cut [18] (fun v18 wx => v18 = .bool g ∧ Hid (At wx w.heap.size [.int .u64 h, .int .u64 l]) ∧ Hid (At wx (w.heap.size + 1) [.int .u64 0, .int .u64 0]) ∧ Below w.heap.size w wx)
      case first =>
        cases hd : decide (k < n) with
        | false =>
          rw [hd] at HG
          go_wp2_with fail
          go_meet
          exact ⟨by rw [← HG.out]; rfl, R1, R2, HB.out⟩
        | true =>
          rw [hd] at HG
          cases ok with
          | false =>
            go_wp2_with fail
            go_meet
            exact ⟨by rw [← HG.out]; rfl, R1, R2, HB.out⟩
          | true =>
            go_wp2_with fail
            refine (CZ'.out _).mono ?_
            rintro e w1 ⟨rfl, hb⟩
            replace R1 := Lib.hid (R1.out.below hb)
            replace R2 := Lib.hid (R2.out.below hb)
            replace HB := Lib.hid (bt HB.out hb)
            clear hb
            go_wp2_with fail
            go_meet
            exact ⟨by rw [← HG.out]; simp, R1, R2, HB.out⟩
      case rest =>
        clear p0 p1 pf
        obtain ⟨rfl, R1, R2, hb⟩ := hcut
        replace HB := Lib.hid hb
        clear hb
        have p0 := R1.out.c 0 _ rfl
        have p1 := R1.out.c 1 _ rfl
        have pf := R1.out.fz
        cases g with
        | true =>
          have hgg := HG.out
          rw [Bool.and_eq_true, Bool.and_eq_true, decide_eq_true_eq, Bool.not_eq_true'] at hgg
          obtain ⟨⟨hkn, rfl⟩, rfl⟩ := hgg
          have hX0 : X ≠ 0 := by have := HZ.out; simpa using this
          obtain ⟨g', rfl⟩ : ∃ g', gk = g' + 1 := ⟨gk - 1, by omega⟩
          obtain ⟨Y, hY⟩ : ∃ Y, X * 10 % 340282366920938463463374607431768211456 = Y := ⟨_, rfl⟩
          obtain ⟨o2, ho2⟩ : ∃ o2, decide (X * 10 < 340282366920938463463374607431768211456) = o2 := ⟨_, rfl⟩
          obtain ⟨yh, hyh⟩ : ∃ yh, Y / 18446744073709551616 = yh := ⟨_, rfl⟩
          obtain ⟨yl, hyl⟩ : ∃ yl, Y % 18446744073709551616 = yl := ⟨_, rfl⟩
          have hYlt : Y < 340282366920938463463374607431768211456 := by rw [← hY]; exact Nat.mod_lt _ (by decide)
          have hq : V = if o2 then tensF (n - (k + 1)) Y else (Y, false) := by
            have h1 := HQ.out
            rw [if_pos rfl] at h1
            obtain ⟨m, hm⟩ : ∃ m, n - k = m + 1 := ⟨n - k - 1, by omega⟩
            have hm2 : n - (k + 1) = m := by omega
            rw [hm, tensF, if_neg hX0] at h1
            rw [hm2, h1]
            by_cases hlt : X * 10 < 340282366920938463463374607431768211456
            · rw [if_pos hlt, ← ho2, decide_eq_true hlt, if_pos rfl, ← hY, Nat.mod_eq_of_lt hlt]
            · rw [if_neg hlt, ← ho2, decide_eq_false hlt, if_neg (by decide), hY]
          have ct := CT'.out
          rw [hY, hyh, hyl, ho2] at ct
          have CT2 := Lib.hid ct
          have HQ2 := Lib.hid hq
          have HY := Lib.hid hYlt
          have HYH : Hid (Y / 18446744073709551616 = yh ∧ Y % 18446744073709551616 = yl) := ⟨hyh, hyl⟩
          clear ct hq hYlt hyh hyl hY ho2 hX0 CT' CZ' CZ CT HQ HX HHL HZ HG
          go_wp2_with fail
          refine (CT2.out _).mono ?_
          rintro e w1 ⟨rfl, hb⟩
          have r1 := R1.out.below hb
          replace R2 := Lib.hid (R2.out.below hb)
          replace HB := Lib.hid (bt HB.out hb)
          clear hb p0 p1 pf
          have p0 := r1.c 0 _ rfl
          have p1 := r1.c 1 _ rfl
          have pf := r1.fz
          have S1 := Lib.hid (r1.set2 (.int .u64 yh) (.int .u64 yl))
          have S2 := Lib.hid ((R2.out.other ⟨w.heap.size, 0, none⟩ (.int .u64 yh) (by simp)).other ⟨w.heap.size, 1, none⟩ (.int .u64 yl) (by simp))
          have SB := Lib.hid (below_set2 HB.out (Nat.le_refl _) (.int .u64 yh) (.int .u64 yl))
          clear r1
          go_wp2_with fail
          go_roundg g'
          case measure => omega
          case rel => exact ⟨Y, k + 1, o2, yh, yl, rfl, by go_num, by omega, by omega, HY, HYH, HQ2, S1, S2, SB.out⟩
        | false =>
          have hV2 : V = (X, ok) := by
            have h1 := HQ.out
            have h2 := HG.out
            cases ok with
            | false => exact h1
            | true =>
              rw [if_pos rfl] at h1
              rw [Bool.and_true] at h2
              by_cases hkn : k < n
              · obtain ⟨m, hm⟩ : ∃ m, n - k = m + 1 := ⟨n - k - 1, by omega⟩
                have hz1 : z = true := by
                  rw [decide_eq_true hkn, Bool.true_and] at h2
                  simpa using h2
                have hX0 : X = 0 := by have := HZ.out; rw [hz1] at this; simpa using this
                rw [hm, tensF, if_pos hX0] at h1
                exact h1
              · rw [show n - k = 0 by omega, tensF] at h1
                exact h1
          have q0 := R2.out.c 0 _ rfl
          have q1 := R2.out.c 1 _ rfl
          have qf := R2.out.fz
          have HV2 : Hid (Value.tuple #[wv V.1, .bool V.2] = .tuple #[.agg #[.int .u64 h, .int .u64 l], .bool ok]) := by
            show _ = _
            rw [hV2]
            show Value.tuple #[.agg #[.int .u64 ((X / 18446744073709551616 : Nat) : Int), .int .u64 ((X % 18446744073709551616 : Nat) : Int)], .bool ok] = _
            rw [HHL.out.1, HHL.out.2]
          clear hV2 CT' CZ' CZ CT HQ HX HZ HG
          go_wp2_with fail
          exact ret_two R2.out HB.out (by omega) wideAgg wideSize HV2.out rfl rfl rfl rfl
end Go.Proofs.YtfkiomjplpbmiaaGreatDoor

/- Package dec: tell. -/
namespace Go.Proofs.YtfkiomjplpbmiaaGreatDoor
open Go.RowKit Go.Lib

/-- Without noughts at the end. -/
def stripF : Nat → Nat → Int → Nat × Int
  | 0, W, e => (W, e)
  | f + 1, W, e => if W % 10 = 0 then stripF f (W / 10) (e + 1) else (W, e)
/-- With an exponent of at most 18; false: it is too great. -/
def lowF (W : Nat) (e : Int) : Nat × Int × Bool :=
  if 18 < e then ((tensF (min (e - 18) 40).toNat W).1, 18, (tensF (min (e - 18) 40).toNat W).2 && !decide (58 < e)) else (W, e, true)
def topF (neg : Bool) : Nat := if neg then 9223372036854775808 else 9223372036854775807
def endF (neg : Bool) (x : Nat × Int × Bool) : Int × Int × Int :=
  if x.2.2 = false ∨ x.2.1 < -18 ∨ topF neg < x.1 then (30, 0, 0) else (0, if neg then -(x.1 : Int) else (x.1 : Int), x.2.1)
/-- The right Dec of a number: an error, C, E. -/
def tellF (neg : Bool) (W : Nat) (e : Int) : Int × Int × Int :=
  if W = 0 then (0, 0, 0) else endF neg (lowF (stripF 39 W e).1 (stripF 39 W e).2)

theorem tensF_lt : ∀ (k W : Nat), W < 340282366920938463463374607431768211456 → (tensF k W).1 < 340282366920938463463374607431768211456
  | 0, W, h => h
  | k + 1, W, h => by
    rw [tensF]
    split
    · exact h
    · split
      · rename_i h2; exact tensF_lt k _ h2
      · exact Nat.mod_lt _ (by decide)
theorem stripF_le : ∀ (k W : Nat) (e : Int), (stripF k W e).1 ≤ W ∧ e ≤ (stripF k W e).2 ∧ (stripF k W e).2 ≤ e + k
  | 0, W, e => by rw [stripF]; simp
  | k + 1, W, e => by
    rw [stripF]
    split
    · have := stripF_le k (W / 10) (e + 1)
      omega
    · simp; omega

theorem decAgg (w : World) : (isAgg 30).run Tryz.prog w = .ok true w := by kernel_rfl
theorem decSize (w : World) : (Go.sizeOf 30).run Tryz.prog w = .ok 2 w := by kernel_rfl
theorem int64_of (x : Nat) (h : x < 9223372036854775808) : IntKind.i64.wrap (x : Int) = (x : Int) := by
  rw [IntKind.wrap_i64]; omega

def By : Prop := ∀ (X : Nat) (w : World), X < 340282366920938463463374607431768211456 → Calls Tryz.prog 138 #[wv X, .int .u64 10] w (Q (.tuple #[wv (X / 10), .int .u64 ((X % 10 : Nat) : Int)]) w)

theorem neg_of (y : Nat) (h : y ≤ 9223372036854775808) : IntKind.i64.wrap (-(IntKind.i64.wrap (y : Int))) = -(y : Int) := by
  rw [IntKind.wrap_i64, IntKind.wrap_i64]; omega

set_option maxRecDepth 100000 in
set_option maxHeartbeats 16000000 in
theorem tell_core (neg : Bool) (W : Nat) (e : Int) (w : World) (hBy : By) (hW : W < 340282366920938463463374607431768211456) (hW0 : W ≠ 0) (he1 : -20000 ≤ e) (he2 : e ≤ 20000) (V : Value)
    (hV : V = .tuple #[.agg #[.int .i64 (endF neg (lowF (stripF 39 W e).1 (stripF 39 W e).2)).2.1, .int .i64 (endF neg (lowF (stripF 39 W e).1 (stripF 39 W e).2)).2.2], .int .i64 (endF neg (lowF (stripF 39 W e).1 (stripF 39 W e).2)).1]) :
    ∀ hi lo : Nat, W / 18446744073709551616 = hi → W % 18446744073709551616 = lo → Calls Tryz.prog 85 #[.agg #[.bool neg, .int .u64 (hi : Int), .int .u64 (lo : Int), .int .i64 e]] w (Q V w) := by
  intro hi lo hhi hlo
  have HV := Lib.hid hV
  have HBY := Lib.hid hBy
  have HW := Lib.hid hW
  have HW0 := Lib.hid hW0
  have HHL : Hid (W / 18446744073709551616 = hi ∧ W % 18446744073709551616 = lo) := ⟨hhi, hlo⟩
  have cz := fun w => zero_any W w hW
  unfold wv at cz
  rw [hhi, hlo, decide_eq_false hW0] at cz
  have CZ := Lib.hid cz
  clear cz hhi hlo hV hBy hW hW0
  have a1 := At.new w #[.bool neg, .int .u64 (hi : Int), .int .u64 (lo : Int), .int .i64 e] 130
  have hb1 : Below w.heap.size w (w.alloc (.cells #[.bool neg, .int .u64 (hi : Int), .int .u64 (lo : Int), .int .i64 e] 130)) := (Below.refl _ _).alloc (Nat.le_refl _) _
  have a2 := a1.alloc (.cells #[.int .i64 0, .int .i64 0] 30)
  have a3 := At.new (w.alloc (.cells #[.bool neg, .int .u64 (hi : Int), .int .u64 (lo : Int), .int .i64 e] 130)) #[.int .i64 0, .int .i64 0] 30
  have hb3 := hb1.alloc hb1.size (.cells #[.int .i64 0, .int .i64 0] 30)
  have hz : (w.alloc (.cells #[.bool neg, .int .u64 (hi : Int), .int .u64 (lo : Int), .int .i64 e] 130)).heap.size = w.heap.size + 1 := by simp
  rw [hz] at a3
  have hzz : w.heap.size + 2 ≤ ((w.alloc (.cells #[.bool neg, .int .u64 (hi : Int), .int .u64 (lo : Int), .int .i64 e] 130)).alloc (.cells #[.int .i64 0, .int .i64 0] 30)).heap.size := by simp
  have A2 := Lib.hid a2
  have A3 := Lib.hid a3
  have HB := Lib.hid hb3
  have HZ := Lib.hid hzz
  clear a1 a2 a3 hb1 hb3 hz hzz
  go_enter Tryz.func85, Tryz.ntmps85
  go_upto_region 0 with (fail)
  go_cut [1, 2] (fun v1 v2 wx => v1 = .pointer (some ⟨w.heap.size, 0, none⟩) ∧ v2 = .pointer (some ⟨w.heap.size + 1, 0, none⟩) ∧ At wx w.heap.size [.bool neg, .int .u64 (hi : Int), .int .u64 (lo : Int), .int .i64 e] ∧ At wx (w.heap.size + 1) [.int .i64 0, .int .i64 0] ∧ Below w.heap.size w wx ∧ w.heap.size + 2 ≤ wx.heap.size)
  case first =>
    go_wp2_with fail
    go_meet
    exact ⟨rfl, rfl, A2.out, A3.out, HB.out, HZ.out⟩
  case rest =>
    obtain ⟨rfl, rfl, r1, r2, hb, hsz⟩ := hcut
    have p0 := r1.c 0 _ rfl
    have p1 := r1.c 1 _ rfl
    have p2 := r1.c 2 _ rfl
    have p3 := r1.c 3 _ rfl
    replace HB := Lib.hid hb
    clear hb A2 A3
    go_wp2_with fail
    refine (CZ.out _).mono ?_
    rintro e1 w1 ⟨rfl, hb⟩
    have s1 := r1.below hb
    have S2 := Lib.hid (r2.below hb)
    have hs1 := hb.size
    replace HB := Lib.hid (bt HB.out hb)
    clear hb p0 p1 p2 p3 r1 r2
    have p0 := s1.c 0 _ rfl
    have p1 := s1.c 1 _ rfl
    have p2 := s1.c 2 _ rfl
    have p3 := s1.c 3 _ rfl
    have S1 := Lib.hid s1
    clear s1
    have cb := fun w => HBY.out W w HW.out
    unfold wv at cb
    rw [HHL.out.1, HHL.out.2] at cb
    obtain ⟨qh, hqh⟩ : ∃ qh, W / 10 / 18446744073709551616 = qh := ⟨_, rfl⟩
    obtain ⟨ql, hql⟩ : ∃ ql, W / 10 % 18446744073709551616 = ql := ⟨_, rfl⟩
    obtain ⟨rr, hrr⟩ : ∃ rr, W % 10 = rr := ⟨_, rfl⟩
    rw [hqh, hql, hrr] at cb
    have CB := Lib.hid cb
    have HQ : Hid (W / 10 / 18446744073709551616 = qh ∧ W / 10 % 18446744073709551616 = ql ∧ W % 10 = rr) := ⟨hqh, hql, hrr⟩
    clear cb hqh hql hrr
    go_upto_region 3 with (fail)
    go_cut [4, 5] (fun v4 v5 wx => ∃ bq, v4 = .pointer (some ⟨bq, 0, none⟩) ∧ v5 = .int .u64 (rr : Int) ∧ w.heap.size + 2 ≤ bq ∧ At wx bq [.int .u64 qh, .int .u64 ql] ∧ At wx w.heap.size [.bool neg, .int .u64 (hi : Int), .int .u64 (lo : Int), .int .i64 e] ∧ At wx (w.heap.size + 1) [.int .i64 0, .int .i64 0] ∧ Below w.heap.size w wx)
    case first =>
      go_wp2_with fail
      refine (CB.out _).mono ?_
      rintro e2 w2 ⟨rfl, hb⟩
      have t1 := S1.out.below hb
      have t2 := S2.out.below hb
      have hs2 := hb.size
      have hB2 := bt HB.out hb
      have z1 := At.new w2 #[.int .u64 0, .int .u64 0] 125
      have z2 := (Below.refl w2.heap.size w2).alloc (Nat.le_refl _) (.cells #[.int .u64 0, .int .u64 0] 125)
      obtain ⟨W3, hW3⟩ : ∃ W3, w2.alloc (.cells #[.int .u64 0, .int .u64 0] 125) = W3 := ⟨_, rfl⟩
      rw [hW3] at z1 z2
      have Y1 := Lib.hid (((t1.below z2).other ⟨w2.heap.size, 0, none⟩ (.int .u64 (qh : Int)) (by show w.heap.size ≠ w2.heap.size; omega)).other ⟨w2.heap.size, 1, none⟩ (.int .u64 (ql : Int)) (by show w.heap.size ≠ w2.heap.size; omega))
      have Y2 := Lib.hid (((t2.below z2).other ⟨w2.heap.size, 0, none⟩ (.int .u64 (qh : Int)) (by show w.heap.size + 1 ≠ w2.heap.size; omega)).other ⟨w2.heap.size, 1, none⟩ (.int .u64 (ql : Int)) (by show w.heap.size + 1 ≠ w2.heap.size; omega))
      have YB := Lib.hid (below_set2 (bt hB2 z2) (show w.heap.size ≤ w2.heap.size by omega) (.int .u64 (qh : Int)) (.int .u64 (ql : Int)))
      have Y0 := Lib.hid (z1.set2 (.int .u64 (qh : Int)) (.int .u64 (ql : Int)))
      clear p0 p1 p2 p3 hb hB2
      have x0 := z1.c 0 _ rfl
      have x1 := z1.c 1 _ rfl
      have xf := z1.fz
      clear z1 z2 t1 t2
      go_wp2_with fail
      go_meet
      exact ⟨w2.heap.size, rfl, rfl, by omega, Y0.out, Y1.out, Y2.out, YB.out⟩
    case rest =>
      obtain ⟨bq, rfl, rfl, hbq, z1, s1, s2, hb⟩ := hcut
      clear p0 p1 p2 p3 S1 S2 CB CZ HB hs1 hsz
      have HZ1 := Lib.hid z1
      have HS1 := Lib.hid s1
      have HS2 := Lib.hid s2
      have HB := Lib.hid hb
      clear z1 s1 s2 hb
      obtain ⟨S, hS⟩ : ∃ S, stripF 39 W e = S := ⟨_, rfl⟩
      rw [hS] at HV
      have HST := Lib.hid hS
      clear hS
      go_wp2_with fail
      go_loopg [4, 5] 39 (fun gf v4 v5 wx => ∃ (bq X : Nat) (eX : Int) (xh xl qh ql rr : Nat), v4 = .pointer (some ⟨bq, 0, none⟩) ∧ v5 = .int .u64 (rr : Int) ∧ w.heap.size + 2 ≤ bq ∧ e ≤ eX ∧ eX + gf ≤ e + 39 ∧ Hid (At wx bq [.int .u64 qh, .int .u64 ql]) ∧ Hid (At wx w.heap.size [.bool neg, .int .u64 (xh : Int), .int .u64 (xl : Int), .int .i64 eX]) ∧ Hid (At wx (w.heap.size + 1) [.int .i64 0, .int .i64 0]) ∧ Hid (Below w.heap.size w wx) ∧
        Hid (X ≠ 0 ∧ X < 10 ^ gf ∧ X < 340282366920938463463374607431768211456 ∧ X / 18446744073709551616 = xh ∧ X % 18446744073709551616 = xl) ∧ Hid (X / 10 / 18446744073709551616 = qh ∧ X / 10 % 18446744073709551616 = ql ∧ X % 10 = rr) ∧ Hid (stripF gf X eX = S))
      case atStart => exact ⟨bq, W, e, hi, lo, qh, ql, rr, rfl, rfl, hbq, by omega, by omega, HZ1, HS1, HS2, HB, ⟨HW0.out, Nat.lt_trans HW.out (by decide), HW.out, HHL.out.1, HHL.out.2⟩, HQ, HST⟩
      case round =>
        clear HZ1 HS1 HS2 HB HW0 HW HHL HQ HST hbq
        obtain ⟨bq, X, eX, xh, xl, qh, ql, rr, rfl, rfl, hbq, hx1, hx2, HZ1, HS1, HS2, HB, HX, HQ, HST⟩ := hrel
        obtain ⟨g', rfl⟩ : ∃ g', gk = g' + 1 := ⟨gk - 1, by
          have h1 := HX.out.1
          have h2 := HX.out.2.1
          rcases Nat.eq_zero_or_pos gk with h | h
          · rw [h] at h2; simp at h2; exact absurd h2 h1
          · omega⟩
        by_cases hr0 : rr = 0
        · subst hr0
          have p0 := HZ1.out.c 0 _ rfl
          have p1 := HZ1.out.c 1 _ rfl
          have q1 := HS1.out.c 1 _ rfl
          have q2 := HS1.out.c 2 _ rfl
          have qf := HS1.out.fz
          have M1 := Lib.hid ((HS1.out.set 1 (by simp) (.int .u64 (qh : Int))).set 2 (by simp) (.int .u64 (ql : Int)))
          have M0 := Lib.hid ((HZ1.out.other ⟨w.heap.size, 1, none⟩ (.int .u64 (qh : Int)) (by show bq ≠ w.heap.size; omega)).other ⟨w.heap.size, 2, none⟩ (.int .u64 (ql : Int)) (by show bq ≠ w.heap.size; omega))
          have M2 := Lib.hid ((HS2.out.other ⟨w.heap.size, 1, none⟩ (.int .u64 (qh : Int)) (by show w.heap.size + 1 ≠ w.heap.size; omega)).other ⟨w.heap.size, 2, none⟩ (.int .u64 (ql : Int)) (by show w.heap.size + 1 ≠ w.heap.size; omega))
          have MB := Lib.hid ((HB.out.setCell (p := ⟨w.heap.size, 1, none⟩) (Nat.le_refl _) (.int .u64 (qh : Int))).setCell (p := ⟨w.heap.size, 2, none⟩) (Nat.le_refl _) (.int .u64 (ql : Int)))
          go_upto_region 6 with (fail)
          go_cut [4] (fun v4 wx => v4 = .pointer (some ⟨bq, 0, none⟩) ∧ At wx bq [.int .u64 qh, .int .u64 ql] ∧ At wx w.heap.size [.bool neg, .int .u64 (qh : Int), .int .u64 (ql : Int), .int .i64 eX] ∧ At wx (w.heap.size + 1) [.int .i64 0, .int .i64 0] ∧ Below w.heap.size w wx)
          case first =>
            go_wp2_with fail
            go_meet
            exact ⟨rfl, M0.out, M1.out, M2.out, MB.out⟩
          case rest =>
            clear p0 p1 q1 q2 qf M0 M1 M2 MB HZ1 HS1 HS2 HB
            obtain ⟨rfl, z1, s1, s2, hb⟩ := hcut
            have q3 := s1.c 3 _ rfl
            have qf := s1.fz
            have m1 := s1.set 3 (by simp) (.int .i64 (eX + 1))
            have m0 := z1.other ⟨w.heap.size, 3, none⟩ (.int .i64 (eX + 1)) (by show bq ≠ w.heap.size; omega)
            have m2 := s2.other ⟨w.heap.size, 3, none⟩ (.int .i64 (eX + 1)) (by show w.heap.size + 1 ≠ w.heap.size; omega)
            have mB := hb.setCell (p := ⟨w.heap.size, 3, none⟩) (Nat.le_refl _) (.int .i64 (eX + 1))
            have hz4 : (wc.setCell ⟨w.heap.size, 3, none⟩ (.int .i64 (eX + 1))).heap.size = wc.heap.size := setCell_size _ _ _
            have hlt := s2.lt
            obtain ⟨W4, hW4⟩ : ∃ W4, wc.setCell ⟨w.heap.size, 3, none⟩ (.int .i64 (eX + 1)) = W4 := ⟨_, rfl⟩
            rw [hW4] at m0 m1 m2 mB hz4
            have p0 := m0.c 0 _ rfl
            have p1 := m0.c 1 _ rfl
            have u0 := (Below.refl W4.heap.size W4).alloc (Nat.le_refl _) (.cells #[.int .u64 0, .int .u64 0] 125)
            have n5 := At.new W4 #[.int .u64 0, .int .u64 0] 125
            obtain ⟨W5, hW5⟩ : ∃ W5, W4.alloc (.cells #[.int .u64 0, .int .u64 0] 125) = W5 := ⟨_, rfl⟩
            rw [hW5] at u0 n5
            rw [hz4] at n5
            have v0 := n5.c 0 _ rfl
            have v1 := n5.c 1 _ rfl
            have vf := n5.fz
            have y5 := n5.set2 (.int .u64 (qh : Int)) (.int .u64 (ql : Int))
            have y1 := ((m1.below u0).other ⟨wc.heap.size, 0, none⟩ (.int .u64 (qh : Int)) (by show w.heap.size ≠ wc.heap.size; omega)).other ⟨wc.heap.size, 1, none⟩ (.int .u64 (ql : Int)) (by show w.heap.size ≠ wc.heap.size; omega)
            have y2 := ((m2.below u0).other ⟨wc.heap.size, 0, none⟩ (.int .u64 (qh : Int)) (by show w.heap.size + 1 ≠ wc.heap.size; omega)).other ⟨wc.heap.size, 1, none⟩ (.int .u64 (ql : Int)) (by show w.heap.size + 1 ≠ wc.heap.size; omega)
            have yB := below_set2 (bt mB u0) (show w.heap.size ≤ wc.heap.size by omega) (.int .u64 (qh : Int)) (.int .u64 (ql : Int))
            obtain ⟨W6, hW6⟩ : ∃ W6, (W5.setCell ⟨wc.heap.size, 0, none⟩ (.int .u64 (qh : Int))).setCell ⟨wc.heap.size, 1, none⟩ (.int .u64 (ql : Int)) = W6 := ⟨_, rfl⟩
            unfold set2 at y5 yB
            rw [hW6] at y5 y1 y2 yB
            have k1 := y1.c 1 _ rfl
            have k2 := y1.c 2 _ rfl
            have hX10 : X / 10 < 340282366920938463463374607431768211456 := by have := HX.out.2.2.1; omega
            have cb := fun w => HBY.out (X / 10) w hX10
            unfold wv at cb
            rw [HQ.out.1, HQ.out.2.1] at cb
            obtain ⟨nh, hnh⟩ : ∃ nh, X / 10 / 10 / 18446744073709551616 = nh := ⟨_, rfl⟩
            obtain ⟨nl, hnl⟩ : ∃ nl, X / 10 / 10 % 18446744073709551616 = nl := ⟨_, rfl⟩
            obtain ⟨nr, hnr⟩ : ∃ nr, X / 10 % 10 = nr := ⟨_, rfl⟩
            rw [hnh, hnl, hnr] at cb
            have CB := Lib.hid cb
            have HQ2 : Hid (X / 10 / 10 / 18446744073709551616 = nh ∧ X / 10 / 10 % 18446744073709551616 = nl ∧ X / 10 % 10 = nr) := ⟨hnh, hnl, hnr⟩
            have HX2 : Hid (X / 10 ≠ 0 ∧ X / 10 < 10 ^ g' ∧ X / 10 < 340282366920938463463374607431768211456 ∧ X / 10 / 18446744073709551616 = qh ∧ X / 10 % 18446744073709551616 = ql) := by
              have h1 := HX.out.1
              have h2 := HX.out.2.1
              have h3 := HQ.out.2.2
              refine ⟨by omega, ?_, hX10, HQ.out.1, HQ.out.2.1⟩
              rw [Nat.pow_succ] at h2
              omega
            have HST2 : Hid (stripF g' (X / 10) (eX + 1) = S) := by
              have h := HST.out
              rw [stripF, if_pos HQ.out.2.2] at h
              exact h
            have Y5 := Lib.hid y5
            have Y1 := Lib.hid y1
            have Y2 := Lib.hid y2
            have YB := Lib.hid yB
            clear cb hnh hnl hnr z1 s1 s2 hb m0 m1 m2 mB u0 n5 y5 y1 y2 yB HX HQ HST hX10
            go_wp2_with fail
            refine (CB.out _).mono ?_
            rintro e3 w7 ⟨rfl, hb⟩
            have z5 := Y5.out.below hb
            have f0 := z5.c 0 _ rfl
            have f1 := z5.c 1 _ rfl
            have ff := z5.fz
            have Z5 := Lib.hid (z5.set2 (.int .u64 (nh : Int)) (.int .u64 (nl : Int)))
            have Z1 := Lib.hid (((Y1.out.below hb).other ⟨wc.heap.size, 0, none⟩ (.int .u64 (nh : Int)) (by show w.heap.size ≠ wc.heap.size; omega)).other ⟨wc.heap.size, 1, none⟩ (.int .u64 (nl : Int)) (by show w.heap.size ≠ wc.heap.size; omega))
            have Z2 := Lib.hid (((Y2.out.below hb).other ⟨wc.heap.size, 0, none⟩ (.int .u64 (nh : Int)) (by show w.heap.size + 1 ≠ wc.heap.size; omega)).other ⟨wc.heap.size, 1, none⟩ (.int .u64 (nl : Int)) (by show w.heap.size + 1 ≠ wc.heap.size; omega))
            have ZB := Lib.hid (below_set2 (bt YB.out hb) (show w.heap.size ≤ wc.heap.size by omega) (.int .u64 (nh : Int)) (.int .u64 (nl : Int)))
            clear hb z5 p0 p1 q3 qf v0 v1 vf k1 k2 hW4 hW5 hW6
            go_wp2_with fail
            go_roundg g'
            case measure => omega
            case rel => exact ⟨wc.heap.size, X / 10, eX + 1, qh, ql, nh, nl, nr, rfl, rfl, by omega, by omega, by omega, Z5, Z1, Z2, ZB, HX2, HQ2, HST2⟩
        · have hS : S = (X, eX) := by
            have h := HST.out
            have h3 := HQ.out.2.2
            rw [stripF, if_neg (by omega)] at h
            exact h.symm
          rw [hS] at HV
          obtain ⟨L, hL⟩ : ∃ L, lowF X eX = L := ⟨_, rfl⟩
          have HXX : Hid (X < 340282366920938463463374607431768211456 ∧ X / 18446744073709551616 = xh ∧ X % 18446744073709551616 = xl) := ⟨HX.out.2.2.1, HX.out.2.2.2.1, HX.out.2.2.2.2⟩
          have HLL := Lib.hid hL
          dsimp only at HV
          rw [hL] at HV
          have hrr : ((rr : Int) == 0) = false := by rw [beq_eq_false_iff_ne]; omega
          clear hS HST HQ HX HZ1 hL
          have p1 := HS1.out.c 1 _ rfl
          have p2 := HS1.out.c 2 _ rfl
          have p3 := HS1.out.c 3 _ rfl
          have pf := HS1.out.fz
          go_upto_if 36 with (fail)
          go_cut [6] (fun v6 wx => ∃ yh yl : Nat, v6 = .bool L.2.2 ∧ At wx w.heap.size [.bool neg, .int .u64 (yh : Int), .int .u64 (yl : Int), .int .i64 L.2.1] ∧ At wx (w.heap.size + 1) [.int .i64 0, .int .i64 0] ∧ Below w.heap.size w wx ∧ L.1 / 18446744073709551616 = yh ∧ L.1 % 18446744073709551616 = yl)
          case first =>
            by_cases h18 : 18 < eX
            · obtain ⟨k, hk⟩ : ∃ k : Nat, min (eX - 18) 40 = (k : Int) := ⟨(min (eX - 18) 40).toNat, by omega⟩
              have hk40 : k ≤ 40 := by omega
              have hlow : L = ((tensF k X).1, 18, (tensF k X).2 && !decide (58 < eX)) := by
                have h := HLL.out
                unfold lowF at h
                rw [if_pos h18, hk, Int.toNat_natCast] at h
                exact h.symm
              have ct := fun w => tens_any X k w HXX.out.1 hk40
              obtain ⟨T, hT⟩ : ∃ T, tensF k X = T := ⟨_, rfl⟩
              obtain ⟨yh, hyh⟩ : ∃ yh, T.1 / 18446744073709551616 = yh := ⟨_, rfl⟩
              obtain ⟨yl, hyl⟩ : ∃ yl, T.1 % 18446744073709551616 = yl := ⟨_, rfl⟩
              unfold wv at ct
              rw [HXX.out.2.1, HXX.out.2.2, hT, hyh, hyl] at ct
              rw [hT] at hlow
              subst hlow
              obtain ⟨TW, ob⟩ := T
              dsimp only at ct hyh hyl ⊢
              have CT := Lib.hid ct
              have HY : Hid (TW / 18446744073709551616 = yh ∧ TW % 18446744073709551616 = yl) := ⟨hyh, hyl⟩
              have HK := Lib.hid hk
              have d18 : decide (18 < eX) = true := decide_eq_true h18
              clear ct hT hyh hyl hk HLL HV
              go_wp2_with fail
              rw [HK.out]
              refine (CT.out _).mono ?_
              rintro e4 w4 ⟨rfl, hb⟩
              have s1 := HS1.out.below hb
              have s2 := HS2.out.below hb
              have hB := bt HB.out hb
              clear p1 p2 p3 pf hb CT
              have p1 := s1.c 1 _ rfl
              have p2 := s1.c 2 _ rfl
              have p3 := s1.c 3 _ rfl
              have pf := s1.fz
              have M1 := Lib.hid (((s1.set 1 (by simp) (.int .u64 (yh : Int))).set 2 (by simp) (.int .u64 (yl : Int))).set 3 (by simp) (.int .i64 18))
              have M2 := Lib.hid (((s2.other ⟨w.heap.size, 1, none⟩ (.int .u64 (yh : Int)) (by show w.heap.size + 1 ≠ w.heap.size; omega)).other ⟨w.heap.size, 2, none⟩ (.int .u64 (yl : Int)) (by show w.heap.size + 1 ≠ w.heap.size; omega)).other ⟨w.heap.size, 3, none⟩ (.int .i64 18) (by show w.heap.size + 1 ≠ w.heap.size; omega))
              have MB := Lib.hid (((hB.setCell (p := ⟨w.heap.size, 1, none⟩) (Nat.le_refl _) (.int .u64 (yh : Int))).setCell (p := ⟨w.heap.size, 2, none⟩) (Nat.le_refl _) (.int .u64 (yl : Int))).setCell (p := ⟨w.heap.size, 3, none⟩) (Nat.le_refl _) (.int .i64 18))
              clear s1 s2 hB HS1 HS2 HB
              by_cases h58 : 58 < eX
              · have d58 : decide (58 < eX) = true := decide_eq_true h58
                go_wp2_with fail
                go_meet
                exact ⟨yh, yl, by first | rfl | (rw [d58]; cases ob <;> rfl) | (cases ob <;> rfl), M1.out, M2.out, MB.out, HY.out.1, HY.out.2⟩
              · have d58 : decide (58 < eX) = false := decide_eq_false h58
                go_wp2_with fail
                go_meet
                exact ⟨yh, yl, by first | rfl | (rw [d58]; cases ob <;> rfl) | (cases ob <;> rfl), M1.out, M2.out, MB.out, HY.out.1, HY.out.2⟩
            · have hlow : L = (X, eX, true) := by
                have h := HLL.out
                unfold lowF at h
                rw [if_neg h18] at h
                exact h.symm
              subst hlow
              have d18 : decide (18 < eX) = false := decide_eq_false h18
              go_wp2_with fail
              go_meet
              exact ⟨xh, xl, rfl, HS1.out, HS2.out, HB.out, HXX.out.2.1, HXX.out.2.2⟩
          case rest =>
            clear p1 p2 p3 pf HS1 HS2 HB HLL HXX
            obtain ⟨yh, yl, rfl, s1, s2, hb, hyh, hyl⟩ := hcut
            obtain ⟨L1, L2, ok⟩ := L
            dsimp only at *
            have HY : Hid (L1 / 18446744073709551616 = yh ∧ L1 % 18446744073709551616 = yl) := ⟨hyh, hyl⟩
            have hylt : yl < 18446744073709551616 := by omega
            have p0 := s1.c 0 _ rfl
            have p1 := s1.c 1 _ rfl
            have p2 := s1.c 2 _ rfl
            have p3 := s1.c 3 _ rfl
            have q0 := s2.c 0 _ rfl
            have q1 := s2.c 1 _ rfl
            have qf := s2.fz
            have S2 := Lib.hid s2
            have HB := Lib.hid hb
            clear s1 s2 hb hyh hyl
            go_upto_if 53 with (fail)
            go_cut [7] (fun v7 wx => v7 = .int .u64 (topF neg : Int) ∧ wc = wx)
            case first =>
              cases neg with
              | false =>
                go_wp2_with fail
                go_meet
                exact ⟨rfl, rfl⟩
              | true =>
                go_wp2_with fail
                go_meet
                exact ⟨rfl, rfl⟩
            case rest =>
              obtain ⟨rfl, rfl⟩ := hcut
              obtain ⟨top, htop⟩ : ∃ top, topF neg = top := ⟨_, rfl⟩
              rw [htop]
              have HT := Lib.hid htop
              clear htop
              obtain ⟨g, hg⟩ : ∃ g, (!ok || decide (L2 < -18) || decide (0 < yh) || decide (top < yl)) = g := ⟨_, rfl⟩
              have HG := Lib.hid hg
              clear hg
              go_upto_region 19 with (fail)
              go_cut [75] (fun v75 wx => v75 = .bool g ∧ wc = wx)
              case first =>
                cases ok with
                | false =>
                  go_wp2_with fail
                  go_meet
                  exact ⟨by rw [← HG.out]; rfl, rfl⟩
                | true =>
                  cases d1 : decide (L2 < -18) with
                  | true =>
                    rw [d1] at HG
                    go_wp2_with fail
                    go_meet
                    exact ⟨by rw [← HG.out]; rfl, rfl⟩
                  | false =>
                    rw [d1] at HG
                    cases d2 : decide (0 < yh) with
                    | true =>
                      rw [d2] at HG
                      go_wp2_with fail
                      go_meet
                      exact ⟨by rw [← HG.out]; rfl, rfl⟩
                    | false =>
                      rw [d2] at HG
                      cases d3 : decide (top < yl) with
                      | true =>
                        rw [d3] at HG
                        go_wp2_with fail
                        go_meet
                        exact ⟨by rw [← HG.out]; rfl, rfl⟩
                      | false =>
                        rw [d3] at HG
                        go_wp2_with fail
                        go_meet
                        exact ⟨by rw [← HG.out]; rfl, rfl⟩
              case rest =>
                obtain ⟨rfl, rfl⟩ := hcut
                cases g with
                | true =>
                  have hE : endF neg (L1, L2, ok) = (30, 0, 0) := by
                    unfold endF
                    rw [if_pos]
                    have h := HG.out
                    simp only [Bool.or_eq_true, decide_eq_true_eq, Bool.not_eq_true'] at h
                    have := HY.out
                    have := HT.out
                    dsimp only
                    rcases h with ((h | h) | h) | h
                    · exact Or.inl h
                    · exact Or.inr (Or.inl h)
                    · refine Or.inr (Or.inr ?_)
                      have : topF neg < 18446744073709551616 := by unfold topF; split <;> decide
                      omega
                    · refine Or.inr (Or.inr ?_)
                      omega
                  have hv := HV.out
                  rw [hE] at hv
                  have HV2 := Lib.hid hv
                  clear hv hE HV HG
                  go_wp2_with fail
                  exact ret_two S2.out HB.out (by omega) decAgg decSize HV2.out rfl rfl rfl rfl
                | false =>
                  have h := HG.out
                  simp only [Bool.or_eq_false_iff, decide_eq_false_iff_not, Bool.not_eq_false'] at h
                  obtain ⟨⟨⟨h1, h2⟩, h3⟩, h4⟩ := h
                  have hL1 : L1 = yl := by have := HY.out; omega
                  have hE : endF neg (L1, L2, ok) = (0, if neg then -(yl : Int) else (yl : Int), L2) := by
                    unfold endF
                    rw [if_neg]
                    · rw [hL1]
                    · dsimp only
                      rintro (h | h | h)
                      · rw [h1] at h; cases h
                      · exact h2 h
                      · rw [HT.out, hL1] at h; exact h4 h
                  have hv := HV.out
                  rw [hE] at hv
                  dsimp only at hv
                  have HV2 := Lib.hid hv
                  have htn := HT.out
                  clear hv hE HV HG h1 h2 h3
                  cases neg with
                  | false =>
                    have hw := int64_of yl (by unfold topF at htn; simp at htn; omega)
                    clear htn h4
                    go_wp2_with fail
                    exact ret_two S2.out HB.out (by omega) decAgg decSize HV2.out rfl rfl rfl rfl
                  | true =>
                    have hw := neg_of yl (by unfold topF at htn; simp at htn; omega)
                    obtain ⟨C, hC⟩ : ∃ C, IntKind.i64.wrap (yl : Int) = C := ⟨_, rfl⟩
                    rw [hC] at hw
                    clear htn h4
                    go_wp2_with fail
                    exact ret_two S2.out HB.out (by omega) decAgg decSize HV2.out rfl rfl rfl rfl
end Go.Proofs.YtfkiomjplpbmiaaGreatDoor

/- Lists of digits as numbers: what more and fits say of them. No program in sight. -/
namespace Go.Proofs.YtfkiomjplpbmiaaGreatDoor
open Go.RowKit Go.Lib

def valD : List Nat → Nat
  | [] => 0
  | d :: l => d + 10 * valD l
def valK (xs : List Nat) : Nat → Nat
  | 0 => 0
  | k + 1 => valK xs k + dg xs k * 10 ^ k
def DigL (xs : List Nat) : Prop := ∀ d ∈ xs, d < 10
theorem DigL.dg {xs : List Nat} (h : DigL xs) (i : Nat) : dg xs i < 10 := by
  unfold Go.Proofs.YtfkiomjplpbmiaaGreatDoor.dg
  rw [List.getD_eq_getElem?_getD]
  cases hx : xs[i]? with
  | none => show (0 : Nat) < 10; decide
  | some d => exact h d (List.mem_of_getElem? hx)
theorem valK_lt {xs : List Nat} (h : DigL xs) : ∀ k, valK xs k < 10 ^ k
  | 0 => Nat.one_pos
  | k + 1 => by
    have h1 := valK_lt h k
    have h2 := h.dg k
    rw [valK, Nat.pow_succ]
    have : Go.Proofs.YtfkiomjplpbmiaaGreatDoor.dg xs k * 10 ^ k ≤ 9 * 10 ^ k := Nat.mul_le_mul_right _ (by omega)
    omega
theorem dg_cons (d : Nat) (l : List Nat) (i : Nat) : dg (d :: l) (i + 1) = dg l i := by unfold dg; simp
theorem valK_cons (d : Nat) (l : List Nat) : ∀ k, valK (d :: l) (k + 1) = d + 10 * valK l k
  | 0 => by simp [valK, dg]
  | k + 1 => by
    rw [valK, valK_cons d l k, dg_cons, valK, Nat.pow_succ, Nat.mul_add]
    rw [show dg l k * (10 ^ k * 10) = 10 * (dg l k * 10 ^ k) by rw [Nat.mul_comm (10 ^ k) 10, Nat.mul_left_comm]]
    omega
theorem valK_nil : ∀ k, valK [] k = 0
  | 0 => rfl
  | k + 1 => by rw [valK, valK_nil k]; simp [dg]
theorem valK_all : ∀ (xs : List Nat) (k : Nat), xs.length ≤ k → valK xs k = valD xs
  | [], k, _ => valK_nil k
  | d :: l, 0, h => by simp at h
  | d :: l, k + 1, h => by
    rw [valK_cons, valK_all l k (by simpa using h), valD]
theorem moreN_val {xs ys : List Nat} (hx : DigL xs) (hy : DigL ys) : ∀ k, (moreN xs ys k = 1 ∧ valK ys k < valK xs k) ∨ (moreN xs ys k = -1 ∧ valK xs k < valK ys k) ∨ (moreN xs ys k = 0 ∧ valK xs k = valK ys k)
  | 0 => Or.inr (Or.inr ⟨rfl, rfl⟩)
  | k + 1 => by
    have h1 := valK_lt hx k
    have h2 := valK_lt hy k
    rw [moreN, valK, valK]
    by_cases c1 : dg ys k < dg xs k
    · rw [if_pos c1]
      have : (dg ys k + 1) * 10 ^ k ≤ dg xs k * 10 ^ k := Nat.mul_le_mul_right _ c1
      rw [Nat.add_mul, Nat.one_mul] at this
      exact Or.inl ⟨rfl, by omega⟩
    · rw [if_neg c1]
      by_cases c2 : dg xs k < dg ys k
      · rw [if_pos c2]
        have : (dg xs k + 1) * 10 ^ k ≤ dg ys k * 10 ^ k := Nat.mul_le_mul_right _ c2
        rw [Nat.add_mul, Nat.one_mul] at this
        exact Or.inr (Or.inl ⟨rfl, by omega⟩)
      · rw [if_neg c2]
        have he : dg xs k = dg ys k := by omega
        rw [he]
        rcases moreN_val hx hy k with ⟨a, b⟩ | ⟨a, b⟩ | ⟨a, b⟩
        · exact Or.inl ⟨a, by omega⟩
        · exact Or.inr (Or.inl ⟨a, by omega⟩)
        · exact Or.inr (Or.inr ⟨a, by omega⟩)
theorem topD_dig : DigL topD := by unfold DigL; decide +kernel
theorem topD_val : valD topD = 9223372036854775808 := by decide +kernel
theorem fitsF_val (neg : Bool) {ds : List Nat} (h : DigL ds) : fitsF neg ds = decide (valD ds ≤ topF neg) := by
  have hv := moreN_val h topD_dig (ds.length + topD.length + 1)
  rw [valK_all ds _ (by omega), valK_all topD _ (by omega), topD_val] at hv
  unfold fitsF topF
  rcases hv with ⟨a, b⟩ | ⟨a, b⟩ | ⟨a, b⟩
  · rw [a, eq_comm, show (decide ((1 : Int) < 0) || ((1 : Int) == 0) && neg) = false by cases neg <;> rfl]
    apply decide_eq_false
    split <;> omega
  · rw [a, eq_comm, show (decide ((-1 : Int) < 0) || ((-1 : Int) == 0) && neg) = true by cases neg <;> rfl]
    apply decide_eq_true
    split <;> omega
  · rw [a, b]
    cases neg <;> decide

/-- A list of digits that ends with none that is nought. -/
def Trimmed (ds : List Nat) : Prop := ds ≠ [] ∧ trimL ds = ds
theorem trimL_cons (d : Nat) (l : List Nat) : trimL (d :: l) = if trimL l = [] then (if d = 0 then [] else [d]) else d :: trimL l := by
  unfold trimL
  rw [List.reverse_cons, List.dropWhile_append]
  by_cases h : (l.reverse.dropWhile (· == 0)) = []
  · rw [h]
    by_cases hd : d = 0
    · simp [hd]
    · simp [hd]
  · have : (l.reverse.dropWhile (· == 0)).isEmpty = false := by
      cases hx : l.reverse.dropWhile (· == 0) with
      | nil => exact absurd hx h
      | cons a b => rfl
    rw [this]
    simp [h]
theorem Trimmed.zero {ds : List Nat} (h : Trimmed ds) : Trimmed (0 :: ds) := by
  refine ⟨by simp, ?_⟩
  rw [trimL_cons, h.2, if_neg h.1]
theorem Trimmed.tail {t : List Nat} (h : Trimmed (0 :: t)) : Trimmed t := by
  have h2 := h.2
  rw [trimL_cons] at h2
  split at h2
  · simp at h2
  · rename_i hne
    injection h2 with _ h2
    exact ⟨by rintro rfl; exact hne rfl, h2⟩
theorem trimL_idem (ds : List Nat) : trimL ds = [] ∨ Trimmed (trimL ds) := by
  by_cases h : trimL ds = []
  · exact Or.inl h
  · refine Or.inr ⟨h, ?_⟩
    induction ds with
    | nil => exact absurd rfl h
    | cons d l ih =>
      rw [trimL_cons] at h ⊢
      by_cases h1 : trimL l = []
      · rw [if_pos h1] at h ⊢
        by_cases hd : d = 0
        · rw [if_pos hd] at h; exact absurd rfl h
        · rw [if_neg hd, trimL_cons]
          rw [if_pos (show trimL [] = [] from rfl), if_neg hd]
      · rw [if_neg h1, trimL_cons, ih h1, if_neg h1]

/-- Without noughts at the low end. -/
def stripR : Nat → List Nat → Int → List Nat × Int
  | f + 1, 0 :: t, e => stripR f t (e + 1)
  | _, ds, e => (ds, e)
/-- With an exponent of at most 18, as far as 30 digits go. -/
def upR : Nat → List Nat → Int → List Nat × Int
  | 0, ds, e => (ds, e)
  | f + 1, ds, e => if 18 < e ∧ ds.length < 30 then upR f (0 :: ds) (e - 1) else (ds, e)
def endR (neg : Bool) (x : List Nat × Int) : Int × Int × Int :=
  if 18 < x.2 ∨ x.2 < -18 ∨ fitsF neg x.1 = false then (30, 0, 0) else (0, if neg then -(valD x.1 : Int) else (valD x.1 : Int), x.2)
/-- What the document's Tell answers. -/
def tellR (neg : Bool) (ds : List Nat) (e : Int) : Int × Int × Int :=
  if ds = [] then (0, 0, 0) else if 60 < e then (30, 0, 0) else endR neg (upR 60 (stripR ds.length ds e).1 (stripR ds.length ds e).2)
theorem valD_drop (ds : List Nat) (i : Nat) (h : i < ds.length) : valD (ds.drop i) = ds[i] + 10 * valD (ds.drop (i + 1)) := by
  rw [List.drop_eq_getElem_cons h, valD]
theorem valD_drop_le (ds : List Nat) (i : Nat) : valD (ds.drop i) ≤ valD ds := by
  induction ds generalizing i with
  | nil => simp [valD]
  | cons d l ih =>
    cases i with
    | zero => exact Nat.le_refl _
    | succ i =>
      rw [List.drop_succ_cons, valD]
      have := ih i
      omega
end Go.Proofs.YtfkiomjplpbmiaaGreatDoor

/- Package dec: tell at every number; the parser's take and some. -/
namespace Go.Proofs.YtfkiomjplpbmiaaGreatDoor
open Go.RowKit Go.Lib

theorem div10_any (hi lo : Nat) (w : World) (h : hi < 10) (hlo : lo < 18446744073709551616) :
    Calls Tryz.prog 181 #[.int .u64 (hi : Int), .int .u64 (lo : Int), .int .u64 10] w (Q (.tuple #[.int .u64 (((hi * 18446744073709551616 + lo) / 10 : Nat) : Int), .int .u64 (((hi * 18446744073709551616 + lo) % 10 : Nat) : Int)]) w) := by
  rcases Nat.eq_zero_or_pos hi with h0 | h0
  · subst h0
    have e : 0 * 18446744073709551616 + lo = lo := by omega
    rw [e]
    exact div10_zero lo w hlo
  · exact div10_core hi lo w h0 h hlo
theorem by_any : By := fun X w hX => by
  have h := by_core (X / 18446744073709551616) (X % 18446744073709551616) (X / 18446744073709551616 / 10) (X / 18446744073709551616 % 10) ((X / 18446744073709551616 % 10 * 18446744073709551616 + X % 18446744073709551616) / 10) ((X / 18446744073709551616 % 10 * 18446744073709551616 + X % 18446744073709551616) % 10) w
    (Lib.hid fun w => div10_zero _ w (by omega)) (Lib.hid fun w => div10_any _ _ w (by omega) (by omega))
  have e1 : X / 10 / 18446744073709551616 = X / 18446744073709551616 / 10 := by omega
  have e2 : X / 10 % 18446744073709551616 = (X / 18446744073709551616 % 10 * 18446744073709551616 + X % 18446744073709551616) / 10 := by omega
  have e3 : X % 10 = (X / 18446744073709551616 % 10 * 18446744073709551616 + X % 18446744073709551616) % 10 := by omega
  unfold wv
  rw [e1, e2, e3]
  exact h

set_option maxRecDepth 100000 in
set_option maxHeartbeats 16000000 in
theorem tell_zero (neg : Bool) (e : Int) (w : World) :
    Calls Tryz.prog 85 #[.agg #[.bool neg, .int .u64 0, .int .u64 0, .int .i64 e]] w (Q (.tuple #[.agg #[.int .i64 0, .int .i64 0], .int .i64 0]) w) := by
  have CZ := Lib.hid (fun w => zero_any 0 w (by decide))
  have a1 := At.new w #[.bool neg, .int .u64 0, .int .u64 0, .int .i64 e] 130
  have hb1 : Below w.heap.size w (w.alloc (.cells #[.bool neg, .int .u64 0, .int .u64 0, .int .i64 e] 130)) := (Below.refl _ _).alloc (Nat.le_refl _) _
  have a2 := a1.alloc (.cells #[.int .i64 0, .int .i64 0] 30)
  have a3 := At.new (w.alloc (.cells #[.bool neg, .int .u64 0, .int .u64 0, .int .i64 e] 130)) #[.int .i64 0, .int .i64 0] 30
  have hb3 := hb1.alloc hb1.size (.cells #[.int .i64 0, .int .i64 0] 30)
  have hz : (w.alloc (.cells #[.bool neg, .int .u64 0, .int .u64 0, .int .i64 e] 130)).heap.size = w.heap.size + 1 := by simp
  rw [hz] at a3
  have A2 := Lib.hid a2
  have A3 := Lib.hid a3
  have HB := Lib.hid hb3
  clear a1 a2 a3 hb1 hb3 hz
  go_enter Tryz.func85, Tryz.ntmps85
  go_upto_region 0 with (fail)
  go_cut [1, 2] (fun v1 v2 wx => v1 = .pointer (some ⟨w.heap.size, 0, none⟩) ∧ v2 = .pointer (some ⟨w.heap.size + 1, 0, none⟩) ∧ At wx w.heap.size [.bool neg, .int .u64 0, .int .u64 0, .int .i64 e] ∧ At wx (w.heap.size + 1) [.int .i64 0, .int .i64 0] ∧ Below w.heap.size w wx)
  case first =>
    go_wp2_with fail
    go_meet
    exact ⟨rfl, rfl, A2.out, A3.out, HB.out⟩
  case rest =>
    obtain ⟨rfl, rfl, r1, r2, hb⟩ := hcut
    have p1 := r1.c 1 _ rfl
    have p2 := r1.c 2 _ rfl
    have R2 := Lib.hid r2
    replace HB := Lib.hid hb
    clear hb A2 A3 r1 r2
    go_wp2_with fail
    refine (CZ.out _).mono ?_
    rintro e1 w1 ⟨rfl, hb⟩
    have s2 := R2.out.below hb
    replace HB := Lib.hid (bt HB.out hb)
    have q0 := s2.c 0 _ rfl
    have q1 := s2.c 1 _ rfl
    have qf := s2.fz
    have S2 := Lib.hid s2
    clear hb p1 p2 s2
    go_wp2_with fail
    exact ret_two S2.out HB.out (by omega) decAgg decSize rfl rfl rfl rfl rfl

theorem tell_any (neg : Bool) (W : Nat) (e : Int) (w : World) (hW : W < 340282366920938463463374607431768211456) (he1 : -20000 ≤ e) (he2 : e ≤ 20000) :
    Calls Tryz.prog 85 #[.agg #[.bool neg, .int .u64 ((W / 18446744073709551616 : Nat) : Int), .int .u64 ((W % 18446744073709551616 : Nat) : Int), .int .i64 e]] w
      (Q (.tuple #[.agg #[.int .i64 (tellF neg W e).2.1, .int .i64 (tellF neg W e).2.2], .int .i64 (tellF neg W e).1]) w) := by
  unfold tellF
  by_cases h0 : W = 0
  · rw [if_pos h0]
    subst h0
    exact tell_zero neg e w
  · rw [if_neg h0]
    exact tell_core neg W e w by_any hW h0 he1 he2 _ rfl _ _ rfl rfl

set_option maxRecDepth 100000 in
set_option maxHeartbeats 8000000 in
theorem take_any (s : ByteArray) (c : UInt8) (B : Nat) (w : World) (h : At w B [.string s]) :
    Calls Tryz.prog 78 #[.pointer (some ⟨B, 0, none⟩), .string ⟨#[c]⟩] w fun e w' => e = .returned (.bool (s.data.toList.head? == some c)) ∧ w' = w.setCell ⟨B, 0, none⟩ (.string ⟨(if s.data.toList.head? == some c then s.data.toList.tail else s.data.toList).toArray⟩) := by
  have C := Lib.hid (fun w => cutPrefix_one s c w)
  obtain ⟨t, ht⟩ : ∃ t : ByteArray, (⟨(if s.data.toList.head? == some c then s.data.toList.tail else s.data.toList).toArray⟩ : ByteArray) = t := ⟨_, rfl⟩
  obtain ⟨b, hb⟩ : ∃ b : Bool, (s.data.toList.head? == some c) = b := ⟨_, rfl⟩
  rw [ht] at C ⊢
  rw [hb] at C ⊢
  have p0 := h.c 0 _ rfl
  have pf := h.fz
  clear ht hb h
  go_enter Tryz.func78, Tryz.ntmps78
  go_wp2_with fail
  refine (C.out _).mono ?_
  rintro e w1 ⟨rfl, rfl⟩
  go_wp2_with fail
  go_ret
  exact ⟨rfl, rfl⟩

set_option maxRecDepth 100000 in
set_option maxHeartbeats 8000000 in
theorem some_any' (s : ByteArray) (B n : Nat) (w : World) (hs : s.size ≤ 512) (h : At w B [.string s]) (hn : n = runN Pl.digit s.data.toList) :
    Calls Tryz.prog 79 #[.pointer (some ⟨B, 0, none⟩)] w fun e w' => e = .returned (.string (s.extract 0 n)) ∧ w' = w.setCell ⟨B, 0, none⟩ (.string (s.extract n s.size)) := by
  have p0 := h.c 0 _ rfl
  have pf := h.fz
  have HN := Lib.hid hn
  clear h hn
  go_enter Tryz.func79, Tryz.ntmps79
  go_wp2_with fail
  go_loopg [3] s.size (fun gf v3 wx => ∃ k : Nat, v3 = .int .i64 (k : Int) ∧ k ≤ s.size ∧ s.size ≤ k + gf ∧ wx = w ∧ Hid (runN Pl.digit (s.data.toList.drop k) + k = n))
  case atStart => exact ⟨0, rfl, by omega, by omega, rfl, by show _ = _; rw [List.drop_zero, HN.out]; rfl⟩
  case round =>
    obtain ⟨k, rfl, hk, hgf, rfl, HQ⟩ := hrel
    by_cases hlt : k < s.size
    · have hcl : s.data.toList.drop k = (s[k]'hlt) :: s.data.toList.drop (k + 1) := List.drop_eq_getElem_cons hlt
      have hq := HQ.out
      rw [hcl] at hq
      unfold runN at hq
      rw [List.takeWhile_cons] at hq
      obtain ⟨g', rfl⟩ : ∃ g', gk = g' + 1 := ⟨gk - 1, by omega⟩
      by_cases h1 : 48 ≤ (s[k]'hlt).toNat
      · by_cases h2 : (s[k]'hlt).toNat ≤ 57
        · have hd : Pl.digit (s[k]'hlt) = true := (digit_iff _).2 ⟨h1, h2⟩
          rw [hd] at hq
          have HQ2 : Hid (runN Pl.digit (s.data.toList.drop (k + 1)) + (k + 1) = n) := by
            show _ = _
            rw [if_pos rfl, List.length_cons] at hq
            unfold runN; omega
          clear hq hcl HQ HN
          go_wp2_with fail
          go_roundg g'
          case measure => omega
          case rel => exact ⟨k + 1, by go_num, by omega, by omega, rfl, HQ2⟩
        · have hd : Pl.digit (s[k]'hlt) = false := by
            cases hh : Pl.digit (s[k]'hlt) with
            | false => rfl
            | true => exact absurd ((digit_iff _).1 hh).2 h2
          rw [hd] at hq
          have hkn : k = n := by simpa using hq
          have HK := Lib.hid hkn
          clear hq hcl HQ HN hkn
          go_wp2_with fail
          go_ret
          exact ⟨by rw [← HK.out]; rfl, by rw [← HK.out]⟩
      · have hd : Pl.digit (s[k]'hlt) = false := by
          cases hh : Pl.digit (s[k]'hlt) with
          | false => rfl
          | true => exact absurd ((digit_iff _).1 hh).1 h1
        rw [hd] at hq
        have hkn : k = n := by simpa using hq
        have HK := Lib.hid hkn
        clear hq hcl HQ HN hkn
        go_wp2_with fail
        go_ret
        exact ⟨by rw [← HK.out]; rfl, by rw [← HK.out]⟩
    · have hkn : k = n := by
        have h := HQ.out
        rw [List.drop_eq_nil_of_le (by show s.size ≤ k; omega)] at h
        unfold runN at h; simpa using h
      have HK := Lib.hid hkn
      clear HQ HN hkn
      go_wp2_with fail
      go_ret
      exact ⟨by rw [← HK.out]; rfl, by rw [← HK.out]⟩
end Go.Proofs.YtfkiomjplpbmiaaGreatDoor

