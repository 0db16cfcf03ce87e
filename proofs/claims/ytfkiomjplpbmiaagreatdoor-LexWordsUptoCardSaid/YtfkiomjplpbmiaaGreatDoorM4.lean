/- A slice of bytes or numbers that a call makes: append, string; the document's quoted. -/
import Derived.Test.YtfkiomjplpbmiaaGreatDoorM2
import Derived.Test.YtfkiomjplpbmiaaGreatDoorM3
import Derived.Laws.BytesArg
import Derived.Deep.AppendLies
import Derived.Maps.AppendAt
import Derived.OwnWalk
import Derived.Deep.QuietTactic
import Derived.BigQuiet
namespace Go.Proofs.YtfkiomjplpbmiaaGreatDoor
open Go.RowKit Go.Lib

/-- A text's bytes as cells. -/
def bytesV (l : List UInt8) : List Value := l.map fun b => .int .u8 (b.toNat : Int)
theorem bytesV_snoc (l : List UInt8) (b : UInt8) : bytesV (l ++ [b]) = bytesV l ++ [.int .u8 (b.toNat : Int)] := by unfold bytesV; simp
theorem bytesV_len (l : List UInt8) : (bytesV l).length = l.length := by unfold bytesV; simp

theorem own_base' {w : World} {base e size n : Nat} {v : Value} {xs : List Value} (h : w.ownsRow base e size v n xs) : ∀ k, v.ownBlock = some k → base ≤ k := fun k e => (h.lt k e).1

/-- What an append to a row of the call's own leaves. -/
theorem own_append {P : Program} {ops : Array Oper} {rest : List Oper} {o : Oper} {a : Act} {Q : Exit → Act → World → Prop} {w0 W : World} (hgd : o.guard = none) (s x : Operand) (t e : TypeId) (z : Value) (bytes : Nat)
    (ho : o.op = .call { callee := .builtin .append, args := #[s, x], argTypes := #[t, t] })
    (ht : P.underlying t = some (.slice e)) (hinfo : (P.info? e).map (fun i => (i.zero, i.size, i.bytes)) = some (some z, 1, bytes)) (hz : z.cells.size = 1)
    (v : Value) (n : Nat) (xs : List Value) (y : Value) (hs : a.eval s = v) (hx : a.eval x = .slice (some ⟨W.heap.size, 0, none⟩) 1 1) (h1 : y.oneCell' = true)
    (HO : W.ownsRow w0.heap.size e 1 v n xs) (HB : Below w0.heap.size w0 W) (hn : n ≤ 9000000000) (hb : bytes ≤ 8)
    (h : ∀ v1 w1, w1.ownsRow w0.heap.size e 1 v1 (n + 1) (xs ++ [y]) → Below w0.heap.size w0 w1 → W.grownBy w1 v.ownBlock → (v1.ownBlock = v.ownBlock ∨ ∃ b, v1.ownBlock = some b ∧ W.heap.size ≤ b) → wpList P ops Q rest (a.put o.dst v1) w1) :
    wpList P ops Q (o :: rest) a (W.alloc (.cells #[y] e)) := by
  obtain ⟨i0, hi, hz0, hz1, hz2⟩ := info_parts hinfo
  have hlen : (n + 1) * bytes ≤ 140737488355328 := Nat.le_trans (Nat.mul_le_mul_left _ hb) (by omega)
  refine wpList_append_own_at (W.alloc (.cells #[y] e)) hgd s x t ho w0.heap.size e i0 z 1 bytes ht hi hz0 hz1 hz2 hz (by omega) v n xs hs (HO.alloc _) ⟨W.heap.size, 0, none⟩ 1 1 [y] hx rfl
    (World.news_of_block (cs := #[y]) (t := e) (fr := (0, 0)) (heap_alloc_new W _)) (by simpa using h1) (by simp only [maxLen]; omega) hlen (by simp; have := HB.size; omega) ?_
  intro v1 w1 hown hg _ hat
  refine h v1 w1 hown ((HB.alloc HB.size _).grown hg (by simp; have := HB.size; omega) (own_base' HO)) (World.grownBy.trans (World.grownBy_alloc W _ _) hg) ?_
  rcases hat with hat | hat
  · exact .inl hat
  · exact .inr ⟨_, hat, by simp⟩

theorem own_str {P : Program} {w : World} {base n : Nat} {e' src dst e : TypeId} {v : Value} {l : List UInt8} (hs : P.underlying src = some (.slice e)) (he : P.underlying e = some (.int .u8)) (hd : P.underlying dst = some .string)
    (h : w.ownsRow base e' 1 v n (bytesV l)) : (convert src dst v).run P w = .ok (.string ⟨l.toArray⟩) w := by
  have hl : l.length = n := by have := h.1; rw [bytesV_len, Nat.mul_one] at this; exact this
  have hstr : strOfNums (l.map fun b => (b.toNat : Int)) = ⟨l.toArray⟩ := by
    apply ByteArray.ext
    apply Array.toList_inj.1
    rw [strOfNums_data, List.map_map]
    show l.map _ = l
    have : ((fun n : Int => UInt8.ofNat n.toNat) ∘ fun b : UInt8 => (b.toNat : Int)) = id := by funext b; simp
    rw [this, List.map_id]
  rcases h.2 with ⟨rfl, rfl⟩ | ⟨g, cap, cur, rfl, _⟩
  · obtain rfl : l = [] := List.eq_nil_of_length_eq_zero hl
    exact run_convert_bytes_nil w src e hs he 0 0 dst hd
  · rw [← hstr]
    refine run_convert_bytes_arg w src e hs he g 0 n cap _ (by rw [List.length_map]; exact hl) (fun i hi => ?_) dst hd
    have hc := h.cells (g := g) rfl i (.int .u8 ((l.map fun b => (b.toNat : Int)).getD i 0)) (by
      unfold bytesV
      rw [List.getElem?_map, List.getElem?_eq_getElem (show i < l.length by omega), List.getD_eq_getElem?_getD, List.getElem?_map, List.getElem?_eq_getElem (show i < l.length by omega)]; rfl)
    have ha : (⟨g, 0, none⟩ : Addr).add i = ⟨g, 0 + i, none⟩ := by unfold Addr.add; split <;> simp_all
    rwa [ha] at hc

theorem byteInfo : (Tryz.prog.info? 5).map (fun i => (i.zero, i.size, i.bytes)) = some (some (.int .u8 0), 1, 1) := by kernel_rfl

/-! ### quoted -/
def quoted3 (n : Nat) : Option (List UInt8 × List UInt8) → Value
  | none => .tuple #[.string ⟨#[]⟩, .int .i64 0, .bool false]
  | some (t, r) => .tuple #[.string ⟨t.toArray⟩, .int .i64 ((n - r.length : Nat) : Int), .bool true]

set_option maxRecDepth 100000 in
set_option maxHeartbeats 8000000 in
theorem r11quoted (s : ByteArray) (i : Nat) (m : UInt8) (w : World) (hs : s.size ≤ 4294967280) (hi : i < s.size) (hm : s[i]'hi = m) (hm0 : m ≠ 0) :
    Calls Tryz.prog 94 #[.string s, .int .i64 (i : Int)] w (Q (quoted3 s.size (quotedM m [] (s.data.toList.drop (i + 1)))) w) := by
  obtain ⟨R, hR⟩ : ∃ R, quotedM m [] (s.data.toList.drop (i + 1)) = R := ⟨_, rfl⟩
  rw [hR]
  have HR := Lib.hid hR
  have HM := Lib.hid hm
  have H0 := Lib.hid hm0
  clear hR hm hm0
  go_enter Tryz.func94, Tryz.ntmps94
  go_wp2_with fail
  rw [HM.out]
  go_wp2_with fail
  go_loopg [8, 9] s.size (fun gf v8 v9 wx => ∃ (j : Nat) (acc : List UInt8), v9 = .int .i64 (j : Int) ∧ j ≤ s.size + 1 ∧ s.size ≤ j + gf ∧ acc.length ≤ j ∧ Hid (wx.ownsRow w.heap.size 5 1 v8 acc.length (bytesV acc)) ∧ Hid (Below w.heap.size w wx) ∧ Hid (quotedM m acc (s.data.toList.drop j) = R))
  case atStart => exact ⟨i + 1, [], by go_num, by omega, by omega, by simp, World.ownsRow_nil _ _ _ _, Below.refl _ _, HR.out⟩
  case round =>
    obtain ⟨j, acc, rfl, hj, hgf, hacc, HO, HB, HJ⟩ := hrel
    by_cases hlt : j < s.size
    · obtain ⟨g', rfl⟩ : ∃ g', gk = g' + 1 := ⟨gk - 1, by omega⟩
      have hl : j < s.data.toList.length := hlt
      obtain ⟨c, hc⟩ : ∃ c, s[j]'hlt = c := ⟨_, rfl⟩
      have hst : s.data.toList.drop j = c :: s.data.toList.drop (j + 1) := by rw [List.drop_eq_getElem_cons hl, ← hc]; rfl
      have hq := HJ.out
      rw [hst, quotedM] at hq
      by_cases hcm : c = m
      · rw [if_pos hcm] at hq
        have ca := fun w => r11at s (j + 1) w
        have e1 : ((j + 1 : Nat) : Int) = (j : Int) + 1 := by omega
        rw [e1] at ca
        have CA := Lib.hid ca
        have hh : (s.data.toList.drop (j + 1)).head? = some m ↔ atB s (j + 1) = m := by unfold atB; rw [getD_eq H0.out]
        have d1 : (((s[j]'hlt).toNat : Int) != (m.toNat : Int)) = false := by rw [hc, hcm]; simp
        have d1' : (((s[j]'hlt).toNat : Int) == (m.toNat : Int)) = true := by rw [hc, hcm]; simp
        clear ca hst hc HJ hcm hl
        by_cases h2 : atB s (j + 1) = m
        · rw [if_pos (hh.2 h2), List.tail_drop] at hq
          have HQ := Lib.hid hq
          have d2 : (((atB s (j + 1)).toNat : Int) != (m.toNat : Int)) = false := by rw [h2]; simp
          have d2' : (((atB s (j + 1)).toNat : Int) == (m.toNat : Int)) = true := by rw [h2]; simp
          clear hq hh h2
          go_wp2_with fail
          refine (CA.out _).mono ?_
          rintro e w1 ⟨rfl, hb⟩
          replace HO := Lib.hid (owns_below HO.out hb)
          replace HB := Lib.hid (bt HB.out hb)
          clear hb
          go_wp2_with ((at_builtin; refine own_append rfl (.tmp 42) (.tmp 44) 76 5 (.int .u8 0) 1 rfl Tryz.underlying76 byteInfo rfl u8 acc.length (bytesV acc) (.int .u8 (m.toNat : Int)) rfl rfl rfl HO.out HB.out (by omega) (by omega) ?_; intro v1 w2 ho hb hg hat; rw [← bytesV_snoc] at ho; replace HO := Lib.hid ho; replace HB := Lib.hid hb; clear ho hb hg hat))
          go_roundg g'
          case measure => omega
          case rel => exact ⟨j + 2, acc ++ [m], by go_num, by omega, by omega, by rw [List.length_append, List.length_singleton]; omega, by rw [List.length_append]; exact HO.out, HB.out, HQ.out⟩
        · rw [if_neg (fun h => h2 (hh.1 h))] at hq
          have hR2 : quoted3 s.size R = .tuple #[.string ⟨acc.toArray⟩, .int .i64 ((j : Int) + 1), .bool true] := by
            rw [← hq]
            unfold quoted3
            dsimp only
            rw [List.length_drop, show s.data.toList.length = s.size from rfl, show s.size - (s.size - (j + 1)) = j + 1 by omega]
            rfl
          have HR2 := Lib.hid hR2
          have hne : ((atB s (j + 1)).toNat : Int) ≠ (m.toNat : Int) := fun h => h2 (UInt8.toNat_inj.1 (by omega))
          have d2 : (((atB s (j + 1)).toNat : Int) != (m.toNat : Int)) = true := by simpa using hne
          have d2' : (((atB s (j + 1)).toNat : Int) == (m.toNat : Int)) = false := by simpa using hne
          clear hq hh h2 hR2 hne
          go_wp2_with fail
          refine (CA.out _).mono ?_
          rintro e w1 ⟨rfl, hb⟩
          replace HO := Lib.hid (owns_below HO.out hb)
          replace HB := Lib.hid (bt HB.out hb)
          clear hb
          have hcv := own_str (P := Tryz.prog) Tryz.underlying76 Tryz.underlying5 Tryz.underlying9 HO.out
          go_wp2_with fail
          go_ret3
          exact ⟨by rw [HR2.out]; rfl, HB.out⟩
      · rw [if_neg hcm] at hq
        have HQ := Lib.hid hq
        have hne : (c.toNat : Int) ≠ (m.toNat : Int) := fun h => hcm (UInt8.toNat_inj.1 (by omega))
        have d1 : (((s[j]'hlt).toNat : Int) != (m.toNat : Int)) = true := by rw [hc]; simpa using hne
        have d1' : (((s[j]'hlt).toNat : Int) == (m.toNat : Int)) = false := by rw [hc]; simpa using hne
        have HC := Lib.hid hc
        clear hq hst hc HJ hcm hl hne
        go_wp2_with ((at_builtin; refine own_append rfl (.tmp 26) (.tmp 30) 76 5 (.int .u8 0) 1 rfl Tryz.underlying76 byteInfo rfl u8 acc.length (bytesV acc) (.int .u8 ((s[j]'hlt).toNat : Int)) rfl rfl rfl HO.out HB.out (by omega) (by omega) ?_; intro v1 w2 ho hb hg hat; rw [HC.out, ← bytesV_snoc] at ho; replace HO := Lib.hid ho; replace HB := Lib.hid hb; clear ho hb hg hat))
        go_roundg g'
        case measure => omega
        case rel => exact ⟨j + 1, acc ++ [c], by go_num, by omega, by omega, by rw [List.length_append, List.length_singleton]; omega, by rw [List.length_append]; exact HO.out, HB.out, HQ.out⟩
    · have hR2 : R = none := by rw [← HJ.out, List.drop_eq_nil_of_le (show s.data.toList.length ≤ j by show s.size ≤ j; omega), quotedM]
      have HR2 := Lib.hid hR2
      clear HJ hR2
      go_wp2_with fail
      go_ret3
      exact ⟨by rw [HR2.out]; rfl, HB.out⟩
end Go.Proofs.YtfkiomjplpbmiaaGreatDoor

/- The document's tokens: a token's variable, what one token is as Go hands it back; ref. -/
namespace Go.Proofs.YtfkiomjplpbmiaaGreatDoor
open Go.RowKit Go.Lib

theorem rzero10_new (w : World) : At (w.alloc (.cells zero10 35)) w.heap.size zero10.toList ∧ Below w.heap.size w (w.alloc (.cells zero10 35)) :=
  ⟨At.new w zero10 _, (Below.refl _ _).alloc (Nat.le_refl _) _⟩

/-- A function that hands back a token's variable, a number, an error: at its end. -/
theorem rret_tok {f : Func} {act : Act} {w W : World} {a b c B : Nat} {V vb vc : Value} {L : List Value} {v0 v1 v2 v3 v4 v5 v6 v7 v8 v9 : Value} (r : At W B L) (hL : L.length = 10) (HB : Below w.heap.size w W) (hB : w.heap.size ≤ B)
    (hV : V = .tuple #[.agg #[v0, v1, v2, v3, v4, v5, v6, v7, v8, v9], vb, vc]) (hf : f.results = #[.cell a 35, .tmp b, .tmp c]) (hd : act.defers = [])
    (ha : act.tmps.getD a undef = .pointer (some ⟨B, 0, none⟩)) (hb : act.tmps.getD b undef = vb) (hc : act.tmps.getD c undef = vc) :
    bodyPost Tryz.prog f (Q V w) .ret act (set10 W B v0 v1 v2 v3 v4 v5 v6 v7 v8 v9) := by
  obtain ⟨r2, hb2⟩ := ret10 r hL HB hB v0 v1 v2 v3 v4 v5 v6 v7 v8 v9
  obtain ⟨t0, t1, t2, t3, t4, t5, t6, t7, t8, t9⟩ := r2.ten
  generalize set10 W B v0 v1 v2 v3 v4 v5 v6 v7 v8 v9 = W' at *
  subst hV
  rw [Array.getD_eq_getD_getElem?] at ha hb hc
  exact bodyPost_ret (v := .tuple #[.agg #[v0, v1, v2, v3, v4, v5, v6, v7, v8, v9], vb, vc]) (by simp [results, hf, go_sem, ha, hb, hc, t0, t1, t2, t3, t4, t5, t6, t7, t8, t9]) hd ⟨rfl, hb2⟩

/-- One token that begins at a place, as the document's functions hand it back. -/
def oneRV (i : Nat) (o : One) : Value :=
  if o.1.kind = 0 then .tuple #[tok0.val 0, .int .i64 0, .int .i64 o.2.2] else .tuple #[o.1.val (i : Int), .int .i64 ((i + o.2.1 : Nat) : Int), .int .i64 o.2.2]
/-- What is asked of the document's Parse of a reference. -/
def RefParseIs : Prop := ∀ (s : ByteArray) (w : World), s.size ≤ 4294967280 → Calls Tryz.prog 149 #[.string s] w (Q (parseV (parseF s.data.toList)) w)

set_option maxRecDepth 100000 in
set_option maxHeartbeats 8000000 in
theorem r11ref_core (s p sh : ByteArray) (i k : Nat) (e co ro : Int) (ac ar : Bool) (w : World) (hik : i ≤ k) (hk : k ≤ s.size) (hp : s.extract i k = p)
    (C1 : Hid (∀ w, Calls Tryz.prog 149 #[.string p] w (Q (.tuple #[refV sh co ro ac ar, .int .i64 e]) w))) :
    Calls Tryz.prog 97 #[.string s, .int .i64 (i : Int), .int .i64 (k : Int)] w (Q (.tuple #[tok10 3 i ⟨#[]⟩ 0 0 sh co ro ac ar, .int .i64 (k : Int), .int .i64 e]) w) := by
  have HP := Lib.hid hp
  clear hp
  have r1 := (rzero10_new w).1
  have hB := (rzero10_new w).2
  have R1 := Lib.hid r1
  have HB := Lib.hid hB
  clear r1 hB
  go_enter Tryz.func97, Tryz.ntmps97
  go_wp2_with fail
  rw [HP.out]
  refine (C1.out _).mono ?_
  rintro e w1 ⟨rfl, hb⟩
  have r1 := R1.out.below hb
  replace HB := Lib.hid (bt HB.out hb)
  clear hb C1 R1
  have hA : Below w1.heap.size w1 (w1.alloc (.cells #[.string sh, .int .i64 co, .int .i64 ro, .bool ac, .bool ar] 32)) := (Below.refl _ _).alloc (Nat.le_refl _) _
  have R2 := RefAt.new w1 sh co ro ac ar
  have r2 := r1.below hA
  replace HB := Lib.hid (bt HB.out hA)
  clear hA r1
  obtain ⟨q0, q1, q2, q3, q4, qf, ql⟩ := R2
  obtain ⟨p0, p1, p2, p3, p4, p5, p6, p7, p8, p9⟩ := r2.ten
  have pf := r2.fz
  go_wp2_with fail
  exact rret_tok r2 rfl HB.out (Nat.le_refl _) rfl rfl rfl rfl rfl rfl

theorem ext_take (s : ByteArray) (i n : Nat) : (s.extract i (i + n)).data.toList = (s.data.toList.drop i).take n := by
  rw [ByteArray.data_extract, Array.toList_extract, List.extract_eq_take_drop]
  congr 1; omega
theorem r11ref_any (hP : RefParseIs) (s : ByteArray) (i n : Nat) (w : World) (hn : i + n ≤ s.size) (hs : s.size ≤ 512) :
    Calls Tryz.prog 97 #[.string s, .int .i64 (i : Int), .int .i64 ((i + n : Nat) : Int)] w (Q (oneRV i (refOne parseF (s.data.toList.drop i) n)) w) := by
  have hz : (s.extract i (i + n)).size ≤ 4294967280 := by rw [ByteArray.size_extract]; omega
  have C1 := fun w => hP (s.extract i (i + n)) w hz
  rw [ext_take] at C1
  exact r11ref_core s (s.extract i (i + n)) _ i (i + n) _ _ _ _ _ w (by omega) hn rfl (Lib.hid C1)
end Go.Proofs.YtfkiomjplpbmiaaGreatDoor

/- The document's word. -/
namespace Go.Proofs.YtfkiomjplpbmiaaGreatDoor
open Go.RowKit Go.Lib

set_option maxRecDepth 100000 in
set_option maxHeartbeats 8000000 in
theorem r11word_core (s wd : ByteArray) (i k k2 : Nat) (c1 : UInt8) (b1 h1 h2 g bp b3 : Bool) (pe pc pr : Int) (psh : ByteArray) (pa pb : Bool) (q : Bool) (sh : ByteArray) (ek co ro : Int) (ac ar : Bool) (sh2 : ByteArray) (ek2 co2 ro2 : Int) (ac2 ar2 : Bool) (w : World) (hs : s.size ≤ 512) (hik : i ≤ k) (hk : k ≤ s.size)
    (hwd : s.extract i k = wd)
    (C1 : Hid (∀ w, Calls Tryz.prog 98 #[.string s, .int .i64 (i : Int), .bool false] w (Q (.int .i64 (k : Int)) w)))
    (C2 : Hid (∀ w, Calls Tryz.prog 96 #[.string s, .int .i64 (k : Int)] w (Q (.int .u8 (c1.toNat : Int)) w)))
    (hb1 : ((c1.toNat : Int) == 33) = b1) (hb3 : ((c1.toNat : Int) != 40) = b3)
    (C3 : Hid (∀ w, Calls Tryz.prog 152 #[.string wd, .int .u8 36] w (Q (.bool h1) w)))
    (C4 : Hid (∀ w, Calls Tryz.prog 152 #[.string wd, .int .u8 46] w (Q (.bool h2) w)))
    (hgg : g = (b1 && !h1 && !h2))
    (C5 : Hid (∀ w, Calls Tryz.prog 98 #[.string s, .int .i64 ((k : Int) + 1), .bool true] w (Q (.int .i64 (k2 : Int)) w)))
    (C6 : Hid (g = true → ∀ w, Calls Tryz.prog 97 #[.string s, .int .i64 (i : Int), .int .i64 (k2 : Int)] w (Q (.tuple #[tok10 3 i ⟨#[]⟩ 0 0 sh co ro ac ar, .int .i64 (k2 : Int), .int .i64 ek]) w)))
    (C7 : Hid (∀ w, Calls Tryz.prog 149 #[.string wd] w (Q (.tuple #[refV psh pc pr pa pb, .int .i64 pe]) w)))
    (hbp : ((pe == 0) || (pe == 41)) = bp) (hq : q = (bp && b3))
    (C8 : Hid (∀ w, Calls Tryz.prog 97 #[.string s, .int .i64 (i : Int), .int .i64 (k : Int)] w (Q (.tuple #[tok10 3 i ⟨#[]⟩ 0 0 sh2 co2 ro2 ac2 ar2, .int .i64 (k : Int), .int .i64 ek2]) w)))
    (V : Value) (HVa : Hid (g = true → V = .tuple #[tok10 3 i ⟨#[]⟩ 0 0 sh co ro ac ar, .int .i64 (k2 : Int), .int .i64 ek]))
    (HVb : Hid (g = false → q = true → V = .tuple #[tok10 3 i ⟨#[]⟩ 0 0 sh2 co2 ro2 ac2 ar2, .int .i64 (k : Int), .int .i64 ek2]))
    (HVc : Hid (g = false → q = false → h1 = true → V = .tuple #[.agg zero10, .int .i64 0, .int .i64 40]))
    (HVd : Hid (g = false → q = false → h1 = false → V = .tuple #[tok10 4 i wd 0 0 ⟨#[]⟩ 0 0 false false, .int .i64 (k : Int), .int .i64 0])) :
    Calls Tryz.prog 100 #[.string s, .int .i64 (i : Int)] w (Q V w) := by
  have R1 := Lib.hid (rzero10_new w).1
  have HB := Lib.hid (rzero10_new w).2
  have HGG := Lib.hid hgg
  have HQ := Lib.hid hq
  have HW := Lib.hid hwd
  have HBP := Lib.hid hbp
  clear hgg hq hwd hbp
  go_enter Tryz.func100, Tryz.ntmps100
  go_wp2_with fail
  refine (C1.out _).mono ?_
  rintro e w1 ⟨rfl, hb⟩
  replace R1 := Lib.hid (R1.out.below hb)
  replace HB := Lib.hid (bt HB.out hb)
  clear hb C1
  go_upto_region 2 with (fail)
  go_cut [8] (fun v8 wx => v8 = .string wd ∧ At wx w.heap.size zero10.toList ∧ Below w.heap.size w wx)
  case first =>
    go_wp2_with fail
    go_meet
    exact ⟨by rw [← HW.out], R1.out, HB.out⟩
  case rest =>
    obtain ⟨rfl, r1, hb⟩ := hcut
    replace R1 := Lib.hid r1
    replace HB := Lib.hid hb
    clear r1 hb
    go_upto_region 3 with (fail)
    go_cut [31] (fun v31 wx => v31 = .bool g ∧ At wx w.heap.size zero10.toList ∧ Below w.heap.size w wx)
    case first =>
      go_wp2_with fail
      refine (C2.out _).mono ?_
      rintro e w2 ⟨rfl, hb⟩
      replace R1 := Lib.hid (R1.out.below hb)
      replace HB := Lib.hid (bt HB.out hb)
      clear hb
      cases b1 with
      | false =>
        go_wp2_with fail
        go_meet
        exact ⟨by rw [HGG.out]; rfl, R1.out, HB.out⟩
      | true =>
        cases h1 with
        | true =>
          go_wp2_with fail
          refine (C3.out _).mono ?_
          rintro e w2 ⟨rfl, hb⟩
          replace R1 := Lib.hid (R1.out.below hb)
          replace HB := Lib.hid (bt HB.out hb)
          clear hb
          go_wp2_with fail
          go_meet
          exact ⟨by rw [HGG.out]; rfl, R1.out, HB.out⟩
        | false =>
          go_wp2_with fail
          refine (C3.out _).mono ?_
          rintro e w2 ⟨rfl, hb⟩
          replace R1 := Lib.hid (R1.out.below hb)
          replace HB := Lib.hid (bt HB.out hb)
          clear hb
          go_wp2_with fail
          refine (C4.out _).mono ?_
          rintro e w2 ⟨rfl, hb⟩
          replace R1 := Lib.hid (R1.out.below hb)
          replace HB := Lib.hid (bt HB.out hb)
          clear hb
          go_wp2_with fail
          go_meet
          exact ⟨by rw [HGG.out]; simp, R1.out, HB.out⟩
    case rest =>
      obtain ⟨rfl, r1, hb⟩ := hcut
      replace R1 := Lib.hid r1
      replace HB := Lib.hid hb
      clear r1 hb
      cases g with
      | true =>
        have hva := HVa.out rfl
        have HV := Lib.hid hva
        replace C6 := Lib.hid (C6.out rfl)
        clear HVa HVb HVc HVd hva HGG
        go_wp2_with fail
        refine (C5.out _).mono ?_
        rintro e w2 ⟨rfl, hb⟩
        replace R1 := Lib.hid (R1.out.below hb)
        replace HB := Lib.hid (bt HB.out hb)
        clear hb C5
        go_wp2_with fail
        refine (C6.out _).mono ?_
        rintro e w3 ⟨rfl, hb⟩
        have r1 := R1.out.below hb
        replace HB := Lib.hid (bt HB.out hb)
        clear hb C6
        obtain ⟨p0, p1, p2, p3, p4, p5, p6, p7, p8, p9⟩ := r1.ten
        have pf := r1.fz
        go_wp2_with fail
        exact rret_tok r1 rfl HB.out (Nat.le_refl _) HV.out rfl rfl rfl rfl rfl
      | false =>
        replace HVb := Lib.hid (HVb.out rfl)
        replace HVc := Lib.hid (HVc.out rfl)
        replace HVd := Lib.hid (HVd.out rfl)
        clear HVa HGG C5 C6 C4
        go_wp2_with fail
        refine (C7.out _).mono ?_
        rintro e w2 ⟨rfl, hb⟩
        replace R1 := Lib.hid (R1.out.below hb)
        replace HB := Lib.hid (bt HB.out hb)
        have hA : Below w2.heap.size w2 (w2.alloc (.cells #[.string psh, .int .i64 pc, .int .i64 pr, .bool pa, .bool pb] 32)) := (Below.refl _ _).alloc (Nat.le_refl _) _
        replace R1 := Lib.hid (R1.out.below hA)
        replace HB := Lib.hid (bt HB.out hA)
        clear hb hA C7
        go_upto_region 6 with (fail)
        go_cut [58] (fun v58 wx => v58 = .bool q ∧ At wx w.heap.size zero10.toList ∧ Below w.heap.size w wx)
        case first =>
          cases h4 : (pe == 0) with
          | true =>
            have hbp1 := HBP.out
            rw [h4] at hbp1
            have hbp2 : bp = true := hbp1.symm
            rw [hbp2] at HQ
            clear hbp1 hbp2
            go_wp2_with fail
            refine (C2.out _).mono ?_
            rintro e w3 ⟨rfl, hb⟩
            replace R1 := Lib.hid (R1.out.below hb)
            replace HB := Lib.hid (bt HB.out hb)
            clear hb
            go_wp2_with fail
            go_meet
            exact ⟨by rw [HQ.out]; rfl, R1.out, HB.out⟩
          | false =>
            cases h5 : (pe == 41) with
            | true =>
              have hbp1 := HBP.out
              rw [h4, h5] at hbp1
              have hbp2 : bp = true := hbp1.symm
              rw [hbp2] at HQ
              clear hbp1 hbp2
              go_wp2_with fail
              refine (C2.out _).mono ?_
              rintro e w3 ⟨rfl, hb⟩
              replace R1 := Lib.hid (R1.out.below hb)
              replace HB := Lib.hid (bt HB.out hb)
              clear hb
              go_wp2_with fail
              go_meet
              exact ⟨by rw [HQ.out]; rfl, R1.out, HB.out⟩
            | false =>
              have hbp1 := HBP.out
              rw [h4, h5] at hbp1
              have hbp2 : bp = false := hbp1.symm
              rw [hbp2] at HQ
              clear hbp1 hbp2
              go_wp2_with fail
              go_meet
              exact ⟨by rw [HQ.out]; rfl, R1.out, HB.out⟩
        case rest =>
          obtain ⟨rfl, r1, hb⟩ := hcut
          replace R1 := Lib.hid r1
          replace HB := Lib.hid hb
          clear r1 hb HBP
          cases q with
          | true =>
            have hv := HVb.out rfl
            have HV := Lib.hid hv
            clear HVb HVc HVd hv HQ
            go_wp2_with fail
            refine (C8.out _).mono ?_
            rintro e w3 ⟨rfl, hb⟩
            have r1 := R1.out.below hb
            replace HB := Lib.hid (bt HB.out hb)
            clear hb C8
            obtain ⟨p0, p1, p2, p3, p4, p5, p6, p7, p8, p9⟩ := r1.ten
            have pf := r1.fz
            go_wp2_with fail
            exact rret_tok r1 rfl HB.out (Nat.le_refl _) HV.out rfl rfl rfl rfl rfl
          | false =>
            replace HVc := Lib.hid (HVc.out rfl)
            replace HVd := Lib.hid (HVd.out rfl)
            clear HVb HQ
            go_wp2_with fail
            refine (C3.out _).mono ?_
            rintro e w3 ⟨rfl, hb⟩
            have r1 := R1.out.below hb
            replace HB := Lib.hid (bt HB.out hb)
            clear hb
            obtain ⟨p0, p1, p2, p3, p4, p5, p6, p7, p8, p9⟩ := r1.ten
            have pf := r1.fz
            cases h1 with
            | true =>
              replace HVc := Lib.hid (HVc.out rfl)
              clear HVd
              go_wp2_with fail
              exact rret_tok r1 rfl HB.out (Nat.le_refl _) HVc.out rfl rfl rfl rfl rfl
            | false =>
              replace HVd := Lib.hid (HVd.out rfl)
              clear HVc
              go_wp2_with fail
              exact rret_tok r1 rfl HB.out (Nat.le_refl _) HVd.out rfl rfl rfl rfl rfl

theorem parseF_err (l : List UInt8) : (parseF l).1 = 0 ∨ (parseF l).1 = 40 ∨ (parseF l).1 = 41 := by
  unfold parseF parseG
  split
  · exact Or.inr (Or.inl rfl)
  · split
    · unfold cellF cellG
      split
      · exact Or.inr (Or.inl rfl)
      · split
        · exact Or.inr (Or.inr rfl)
        · exact Or.inl rfl
    · exact Or.inl rfl
theorem has_two (l : List UInt8) : (!l.contains 36 && !l.contains 46) = !(l.any fun b => b == 36 || b == 46) := by
  induction l with
  | nil => rfl
  | cons b l ih =>
    rw [List.any_cons, List.contains_cons, List.contains_cons, Bool.not_or, Bool.not_or, Bool.not_or, ← ih]
    rw [show ((36 : UInt8) == b) = (b == 36) from Bool.beq_comm, show ((46 : UInt8) == b) = (b == 46) from Bool.beq_comm]
    cases b == 36 <;> cases b == 46 <;> cases l.contains 36 <;> cases l.contains 46 <;> rfl

theorem r11word_any (hP : RefParseIs) (s : ByteArray) (i : Nat) (w : World) (hs : s.size ≤ 512) (hi : i ≤ s.size) :
    Calls Tryz.prog 100 #[.string s, .int .i64 (i : Int)] w (Q (oneRV i (wordOne parseF (s.data.toList.drop i))) w) := by
  obtain ⟨l, hl⟩ : ∃ l, s.data.toList.drop i = l := ⟨_, rfl⟩
  have hlz : l.length = s.size - i := by rw [← hl, List.length_drop]; rfl
  have hd : ∀ m, s.data.toList.drop (i + m) = l.drop m := fun m => by rw [← hl, List.drop_drop]
  have hle : wordN l ≤ l.length := runN_le isW l
  have C1 := fun w => r11while s i false w (by omega) (by omega)
  have C2 := fun w => r11at s (i + wordN l) w
  have hat : atB s (i + wordN l) = (l.drop (wordN l)).head?.getD 0 := by unfold atB; rw [hd]
  have hwd : (s.extract i (i + wordN l)).data.toList = l.take (wordN l) := by rw [ext_take, hl]
  have hwz : (s.extract i (i + wordN l)).size ≤ 512 := by rw [ByteArray.size_extract]; omega
  have C3 := fun w => r11has (s.extract i (i + wordN l)) 36 w (by omega)
  have C4 := fun w => r11has (s.extract i (i + wordN l)) 46 w (by omega)
  have C5 := fun w => r11while s (i + wordN l + 1) true w (by omega) (by omega)
  have C7 := fun w => hP (s.extract i (i + wordN l)) w (by omega)
  have C8 := fun w => r11ref_any hP s i (wordN l) w (by omega) hs
  have C6 := fun (h : wordN l < l.length) w => r11ref_any hP s i (afterN l (wordN l)) w (by have := afterN_le l _ h; omega) hs
  rw [hwd] at C3 C4 C7
  rw [hl] at C1 C6 C8
  rw [show i + wordN l + 1 = i + (wordN l + 1) by omega, hd] at C5
  have e33 : (((atB s (i + wordN l)).toNat : Int) == 33) = ((l.drop (wordN l)).head? == some 33) := by
    rw [hat, show (33 : Int) = ((33 : UInt8).toNat : Int) from rfl, eq_byte, Bool.eq_iff_iff, beq_iff_eq, beq_iff_eq, getD_eq (by decide)]
  have e40 : (((atB s (i + wordN l)).toNat : Int) != 40) = !((l.drop (wordN l)).head? == some 40) := by
    have h : (((atB s (i + wordN l)).toNat : Int) == 40) = ((l.drop (wordN l)).head? == some 40) := by
      rw [hat, show (40 : Int) = ((40 : UInt8).toNat : Int) from rfl, eq_byte, Bool.eq_iff_iff, beq_iff_eq, beq_iff_eq, getD_eq (by decide)]
    rw [bne, h]
  have C5' : ∀ w, Calls Tryz.prog 98 #[.string s, .int .i64 (((i + wordN l : Nat) : Int) + 1), .bool true] w (Q (.int .i64 ((i + afterN l (wordN l) : Nat) : Int)) w) := by
    intro w
    have h := C5 w
    rw [show i + (wordN l + 1) + runN (if true = true then isC else isW) (l.drop (wordN l + 1)) = i + afterN l (wordN l) by unfold afterN; rw [if_pos rfl]; omega, show ((i + (wordN l + 1) : Nat) : Int) = ((i + wordN l : Nat) : Int) + 1 by omega] at h
    exact h
  have hbp : (((parseF (l.take (wordN l))).1 == 0) || ((parseF (l.take (wordN l))).1 == 41)) = ((parseF (l.take (wordN l))).1 != 40) := by
    rcases parseF_err (l.take (wordN l)) with h | h | h <;> rw [h] <;> decide
  have hg2 : ∀ a : Bool, (a && !(l.take (wordN l)).contains 36 && !(l.take (wordN l)).contains 46) = (a && !((l.take (wordN l)).any fun b => b == 36 || b == 46)) := fun a => by rw [Bool.and_assoc, has_two]
  rw [hl]
  refine r11word_core s _ i (i + wordN l) (i + afterN l (wordN l)) _ _ _ _ _ _ _ _ _ _ _ _ _ _ _ _ _ _ _ _ _ _ _ _ _ _ w hs (by omega) (by omega) rfl (Lib.hid C1) (Lib.hid C2) e33 e40 (Lib.hid C3) (Lib.hid C4) rfl (Lib.hid C5') (Lib.hid fun h => C6 ?_) (Lib.hid C7) hbp rfl (Lib.hid C8) _
    (Lib.hid fun h => ?_) (Lib.hid fun h h2 => ?_) (Lib.hid fun h h2 h3 => ?_) (Lib.hid fun h h2 h3 => ?_)
  · rw [Bool.and_assoc, Bool.and_eq_true] at h
    exact head_lt h.1
  all_goals rw [hg2] at h
  · unfold wordOne
    rw [Bool.and_eq_true, Bool.not_eq_true'] at h
    rw [if_pos h]; rfl
  · have hn : ¬ (((l.drop (wordN l)).head? == some 33) = true ∧ ((l.take (wordN l)).any fun b => b == 36 || b == 46) = false) := by
      rintro ⟨ha, hb⟩; rw [ha, hb] at h; cases h
    rw [Bool.and_eq_true, Bool.not_eq_true'] at h2
    unfold wordOne
    rw [if_neg hn, if_pos ⟨bne_iff_ne.1 h2.1, h2.2⟩]; rfl
  · have hn : ¬ (((l.drop (wordN l)).head? == some 33) = true ∧ ((l.take (wordN l)).any fun b => b == 36 || b == 46) = false) := by
      rintro ⟨ha, hb⟩; rw [ha, hb] at h; cases h
    have hm : ¬ ((parseF (l.take (wordN l))).1 ≠ 40 ∧ ((l.drop (wordN l)).head? == some 40) = false) := by
      rintro ⟨ha, hb⟩; rw [bne_iff_ne.2 ha, hb] at h2; cases h2
    unfold wordOne
    rw [if_neg hn, if_neg hm, if_pos h3]; rfl
  · have hn : ¬ (((l.drop (wordN l)).head? == some 33) = true ∧ ((l.take (wordN l)).any fun b => b == 36 || b == 46) = false) := by
      rintro ⟨ha, hb⟩; rw [ha, hb] at h; cases h
    have hm : ¬ ((parseF (l.take (wordN l))).1 ≠ 40 ∧ ((l.drop (wordN l)).head? == some 40) = false) := by
      rintro ⟨ha, hb⟩; rw [bne_iff_ne.2 ha, hb] at h2; cases h2
    unfold wordOne
    rw [if_neg hn, if_neg hm, if_neg (by rw [h3]; decide)]
    unfold oneRV Tok.val Tok.cells tok0
    rw [if_neg (fun h => by cases h)]
    dsimp only
    rw [← hwd, bytes_eq]
end Go.Proofs.YtfkiomjplpbmiaaGreatDoor

/- The document's mark. -/
namespace Go.Proofs.YtfkiomjplpbmiaaGreatDoor
open Go.RowKit Go.Lib

/-- The operators in the document's order. -/
def allS : List ByteArray := [⟨#[60, 62]⟩, ⟨#[60, 61]⟩, ⟨#[62, 61]⟩, ⟨#[60]⟩, ⟨#[62]⟩, ⟨#[61]⟩, ⟨#[43]⟩, ⟨#[45]⟩, ⟨#[42]⟩, ⟨#[47]⟩, ⟨#[94]⟩, ⟨#[38]⟩, ⟨#[37]⟩, ⟨#[40]⟩, ⟨#[41]⟩, ⟨#[44]⟩, ⟨#[58]⟩]
def preS (l : List UInt8) (k : Nat) : Bool := (allS.getD k ⟨#[]⟩).data.toList.isPrefixOf l
theorem allS_get {k : Nat} (h : k < 17) : (allS.map Value.string)[k]? = some (.string (allS.getD k ⟨#[]⟩)) := by
  have hl : k < allS.length := h
  rw [List.getElem?_map, List.getD_eq_getElem?_getD, List.getElem?_eq_getElem hl]; rfl
theorem allS_size {k : Nat} (h : k < 17) : 1 ≤ (allS.getD k ⟨#[]⟩).size ∧ (allS.getD k ⟨#[]⟩).size ≤ 2 := by
  have : ∀ i : Fin 17, 1 ≤ (allS.getD i.val ⟨#[]⟩).size ∧ (allS.getD i.val ⟨#[]⟩).size ≤ 2 := by decide +kernel
  exact this ⟨k, h⟩

theorem pre_ext (s m : ByteArray) (i : Nat) (_h : i + m.size ≤ s.size) : ((s.extract i (i + m.size)).toList == m.toList) = m.data.toList.isPrefixOf (s.data.toList.drop i) := by
  rw [Lib.toList_data, Lib.toList_data, ext_take, Bool.eq_iff_iff, beq_iff_eq, List.isPrefixOf_iff_prefix, List.prefix_iff_eq_take]
  exact eq_comm
theorem pre_not (s m : ByteArray) (i : Nat) (h : s.size < i + m.size) (h0 : 1 ≤ m.size) : m.data.toList.isPrefixOf (s.data.toList.drop i) = false := by
  rw [Bool.eq_false_iff]
  intro e
  have h1 := mark_le e
  rw [List.length_drop] at h1
  have e1 : m.data.toList.length = m.size := rfl
  have e2 : s.data.toList.length = s.size := rfl
  omega

set_option maxRecDepth 100000 in
set_option maxHeartbeats 8000000 in
theorem r11mark_core (s : ByteArray) (i : Nat) (w : World) (hs : s.size ≤ 512) (hi : i ≤ s.size) (V : Value)
    (HV0 : Hid ((∀ j, j < 17 → preS (s.data.toList.drop i) j = false) → V = .tuple #[.agg zero10, .int .i64 0, .int .i64 40]))
    (HV1 : Hid (∀ k m n, k < 17 → (∀ j, j < k → preS (s.data.toList.drop i) j = false) → preS (s.data.toList.drop i) k = true → allS.getD k ⟨#[]⟩ = m → i + m.size = n → V = .tuple #[tok10 5 i m 0 0 ⟨#[]⟩ 0 0 false false, .int .i64 (n : Int), .int .i64 0])) :
    Calls Tryz.prog 101 #[.string s, .int .i64 (i : Int)] w (Q V w) := by
  have R1 := Lib.hid (rzero10_new w).1
  have HB := Lib.hid (rzero10_new w).2
  go_enter Tryz.func101, Tryz.ntmps101
  go_upto_region 1 with (fail)
  go_cut [4, 7] (fun v4 v7 wx => v4 = .pointer (some ⟨w.heap.size, 0, none⟩) ∧ ∃ B, v7 = .slice (some ⟨B, 0, none⟩) 17 17 ∧ At wx B (allS.map Value.string) ∧ At wx w.heap.size zero10.toList ∧ Below w.heap.size w wx)
  case first =>
    have a1 := At.new (w.alloc (.cells zero10 35)) #[.string ⟨#[60, 62]⟩, .string ⟨#[60, 61]⟩, .string ⟨#[62, 61]⟩, .string ⟨#[60]⟩, .string ⟨#[62]⟩, .string ⟨#[61]⟩, .string ⟨#[43]⟩, .string ⟨#[45]⟩, .string ⟨#[42]⟩, .string ⟨#[47]⟩, .string ⟨#[94]⟩, .string ⟨#[38]⟩, .string ⟨#[37]⟩, .string ⟨#[40]⟩, .string ⟨#[41]⟩, .string ⟨#[44]⟩, .string ⟨#[58]⟩] 9
    have hz : (w.alloc (.cells zero10 35)).heap.size = w.heap.size + 1 := by simp
    rw [hz] at a1
    have HA := Lib.hid a1
    clear a1 hz
    go_wp2_with fail
    go_meet
    exact ⟨rfl, _, rfl, HA.out, R1.out.alloc _, HB.out.alloc HB.out.size _⟩
  case rest =>
    clear R1 HB
    obtain ⟨rfl, hcut⟩ := hcut
    obtain ⟨B, rfl, a1, r1, hb⟩ := hcut
    replace R1 := Lib.hid r1
    replace HB := Lib.hid hb
    have HA := Lib.hid a1
    clear r1 hb a1
    go_wp2_with fail
    go_loopg [8] 17 (fun gf v8 wx => ∃ k : Nat, v8 = .int .i64 (k : Int) ∧ k ≤ 17 ∧ 17 ≤ k + gf ∧ Hid (∀ j, j < k → preS (s.data.toList.drop i) j = false) ∧ At wx B (allS.map Value.string) ∧ At wx w.heap.size zero10.toList ∧ Below w.heap.size w wx)
    case atStart => exact ⟨0, rfl, by omega, by omega, fun j h => by omega, HA.out, R1.out, HB.out⟩
    case round =>
      obtain ⟨k, rfl, hk, hgf, HK, a1, r1, hbw⟩ := hrel
      replace R1 := Lib.hid r1
      replace HB := Lib.hid hbw
      replace HA := Lib.hid a1
      clear r1 hbw a1
      by_cases hlt : k < 17
      · obtain ⟨g', rfl⟩ : ∃ g', gk = g' + 1 := ⟨gk - 1, by omega⟩
        obtain ⟨m, hm⟩ : ∃ m, allS.getD k ⟨#[]⟩ = m := ⟨_, rfl⟩
        have hc := HA.out.c k _ (allS_get hlt)
        have hz := allS_size hlt
        rw [hm] at hc hz
        have HM := Lib.hid hm
        have hpk : preS (s.data.toList.drop i) k = m.data.toList.isPrefixOf (s.data.toList.drop i) := by unfold preS; rw [hm]
        have dk : decide ((k : Int) < 17) = true := decide_eq_true (by omega)
        obtain ⟨n, hn⟩ : ∃ n, i + m.size = n := ⟨_, rfl⟩
        have HN := Lib.hid hn
        clear hm
        go_upto_region 5 with (fail)
        go_cut [9] (fun v9 wx => v9 = .int .i64 (n : Int) ∧ wr = wx)
        case first =>
          go_wp2_with fail
          go_meet
          exact ⟨by rw [← HN.out]; go_num, rfl⟩
        obtain ⟨rfl, rfl⟩ := hcut
        by_cases hle : n ≤ s.size
        · have hpe := pre_ext s m i (by omega)
          rw [← hpk, hn] at hpe
          have dn : decide ((n : Int) ≤ (s.size : Int)) = true := decide_eq_true (by omega)
          have q1 : i ≤ n := by omega
          clear hpk hn
          cases hp : preS (s.data.toList.drop i) k with
          | true =>
            rw [hp] at hpe
            have HV := Lib.hid (HV1.out k m n hlt HK.out hp HM.out HN.out)
            clear hp HV1 HV0 HM HK
            obtain ⟨p0, p1, p2, p3, p4, p5, p6, p7, p8, p9⟩ := R1.out.ten
            have pf := R1.out.fz
            go_wp2_with fail
            go_quiet (fail)
            go_wp2_with fail
            exact rret_tok (R1.out.below (below_drewN (Below.refl _ _) _)) rfl (below_drewN HB.out _) (Nat.le_refl _) HV.out rfl rfl rfl rfl rfl
          | false =>
            rw [hp] at hpe
            have HK2 : Hid (∀ j, j < k + 1 → preS (s.data.toList.drop i) j = false) := fun j hj => by
              by_cases h : j < k
              · exact HK.out j h
              · obtain rfl : j = k := by omega
                exact hp
            clear hp HM HK
            go_wp2_with fail
            go_quiet (fail)
            go_wp2_with fail
            go_roundg g'
            case measure => omega
            case rel => exact ⟨k + 1, by go_num, by omega, by omega, HK2, HA.out.below (below_drewN (Below.refl _ _) _), R1.out.below (below_drewN (Below.refl _ _) _), below_drewN HB.out _⟩
        · have hp : preS (s.data.toList.drop i) k = false := by rw [hpk]; exact pre_not s m i (by omega) hz.1
          have dn : decide ((n : Int) ≤ (s.size : Int)) = false := decide_eq_false (by omega)
          have HK2 : Hid (∀ j, j < k + 1 → preS (s.data.toList.drop i) j = false) := fun j hj => by
            by_cases h : j < k
            · exact HK.out j h
            · obtain rfl : j = k := by omega
              exact hp
          clear hp hpk HM HK hn
          go_wp2_with fail
          go_quiet (fail)
          go_wp2_with fail
          go_roundg g'
          case measure => omega
          case rel => exact ⟨k + 1, by go_num, by omega, by omega, HK2, HA.out.below (below_drewN (Below.refl _ _) _), R1.out.below (below_drewN (Below.refl _ _) _), below_drewN HB.out _⟩
      · obtain rfl : k = 17 := by omega
        have dk : decide (((17 : Nat) : Int) < 17) = false := by decide
        have HV := Lib.hid (HV0.out HK.out)
        clear HV0 HV1 HK
        have r1 := R1.out
        obtain ⟨p0, p1, p2, p3, p4, p5, p6, p7, p8, p9⟩ := r1.ten
        have pf := r1.fz
        go_wp2_with fail
        exact rret_tok r1 rfl HB.out (Nat.le_refl _) HV.out rfl rfl rfl rfl rfl
/-- What the document's mark answers. -/
def markR (l : List UInt8) : One :=
  if ([60, 62] : List UInt8).isPrefixOf l = true then (⟨5, [60, 62], 0, 0, tok0.r⟩, 2, 0)
  else if ([60, 61] : List UInt8).isPrefixOf l = true then (⟨5, [60, 61], 0, 0, tok0.r⟩, 2, 0)
  else if ([62, 61] : List UInt8).isPrefixOf l = true then (⟨5, [62, 61], 0, 0, tok0.r⟩, 2, 0)
  else if isM (l.headD 0) = true then (⟨5, l.take 1, 0, 0, tok0.r⟩, 1, 0)
  else (tok0, 0, 40)
theorem pre_one (l : List UInt8) (c : UInt8) (hc : c ≠ 0) : ([c] : List UInt8).isPrefixOf l = (l.headD 0 == c) := by
  cases l with
  | nil => simp [hc.symm]
  | cons b l =>
    rw [List.headD_cons, List.isPrefixOf_cons_cons, List.isPrefixOf_nil_left, Bool.and_true]
    exact Bool.beq_comm
theorem take_one (l : List UInt8) (c : UInt8) (hc : c ≠ 0) (h : (l.headD 0 == c) = true) : l.take 1 = [c] := by
  cases l with
  | nil => simp at h; exact absurd h.symm hc
  | cons b l => simp at h; rw [h]; rfl

theorem r11mark_any (s : ByteArray) (i : Nat) (w : World) (hs : s.size ≤ 512) (hi : i ≤ s.size) :
    Calls Tryz.prog 101 #[.string s, .int .i64 (i : Int)] w (Q (oneRV i (markR (s.data.toList.drop i))) w) := by
  obtain ⟨l, hl⟩ : ∃ l, s.data.toList.drop i = l := ⟨_, rfl⟩
  have hm : isM (l.headD 0) = true ↔ ∃ k, 3 ≤ k ∧ k < 17 ∧ preS l k = true := by
    have h1 : ∀ i : Fin 256, isM (UInt8.ofNat i.val) = true ↔ ∃ k : Fin 17, 3 ≤ k.val ∧ UInt8.ofNat i.val = (allS.getD k.val ⟨#[]⟩).data.toList.headD 0 := by decide +kernel
    have this : ∀ (b : UInt8), isM b = true ↔ ∃ k : Fin 17, 3 ≤ k.val ∧ b = (allS.getD k.val ⟨#[]⟩).data.toList.headD 0 := fun b => by
      have k := h1 ⟨b.toNat, b.toNat_lt⟩
      simpa using k
    rw [this]
    have h2 : ∀ k : Fin 17, 3 ≤ k.val → ∃ c : UInt8, c ≠ 0 ∧ (allS.getD k.val ⟨#[]⟩).data.toList = [c] := by
      have h3 : ∀ k : Fin 17, 3 ≤ k.val → (allS.getD k.val ⟨#[]⟩).data.toList.headD 0 ≠ 0 ∧ (allS.getD k.val ⟨#[]⟩).data.toList = [(allS.getD k.val ⟨#[]⟩).data.toList.headD 0] := by decide +kernel
      exact fun k hk => ⟨_, h3 k hk⟩
    constructor
    · rintro ⟨k, hk, hb⟩
      obtain ⟨c, hc, he⟩ := h2 k hk
      refine ⟨k.val, hk, k.isLt, ?_⟩
      unfold preS
      rw [he] at hb ⊢
      rw [pre_one l c hc, hb]; simp
    · rintro ⟨k, hk, hk2, hb⟩
      obtain ⟨c, hc, he⟩ := h2 ⟨k, hk2⟩ hk
      refine ⟨⟨k, hk2⟩, hk, ?_⟩
      unfold preS at hb
      rw [show (allS.getD k ⟨#[]⟩).data.toList = [c] from he, pre_one l c hc] at hb
      rw [he]; simpa using hb
  have p0 : preS l 0 = ([60, 62] : List UInt8).isPrefixOf l := rfl
  have p1 : preS l 1 = ([60, 61] : List UInt8).isPrefixOf l := rfl
  have p2 : preS l 2 = ([62, 61] : List UInt8).isPrefixOf l := rfl
  refine r11mark_core s i w hs hi _ (Lib.hid fun h => ?_) (Lib.hid fun k m n hk h0 h1 hmm hn => ?_)
  · rw [hl] at h ⊢
    unfold markR
    rw [if_neg (by rw [← p0, h 0 (by decide)]; decide), if_neg (by rw [← p1, h 1 (by decide)]; decide), if_neg (by rw [← p2, h 2 (by decide)]; decide), if_neg ?_]
    · rfl
    · intro hh
      obtain ⟨k, _, hk2, hk3⟩ := hm.1 hh
      rw [h k hk2] at hk3; cases hk3
  · rw [hl] at h0 h1 ⊢
    unfold markR
    match k, hk with
    | 0, _ =>
      subst hmm
      rw [if_pos (by rw [← p0, h1])]
      rw [show i + (allS.getD 0 ⟨#[]⟩).size = i + 2 from rfl] at hn
      subst hn; rfl
    | 1, _ =>
      subst hmm
      rw [if_neg (by rw [← p0, h0 0 (by decide)]; decide), if_pos (by rw [← p1, h1])]
      rw [show i + (allS.getD 1 ⟨#[]⟩).size = i + 2 from rfl] at hn
      subst hn; rfl
    | 2, _ =>
      subst hmm
      rw [if_neg (by rw [← p0, h0 0 (by decide)]; decide), if_neg (by rw [← p1, h0 1 (by decide)]; decide), if_pos (by rw [← p2, h1])]
      rw [show i + (allS.getD 2 ⟨#[]⟩).size = i + 2 from rfl] at hn
      subst hn; rfl
    | k + 3, hk =>
      have h3 : ∀ k : Fin 17, 3 ≤ k.val → (allS.getD k.val ⟨#[]⟩).data.toList.headD 0 ≠ 0 ∧ (allS.getD k.val ⟨#[]⟩).data.toList = [(allS.getD k.val ⟨#[]⟩).data.toList.headD 0] ∧ (allS.getD k.val ⟨#[]⟩).size = 1 := by decide +kernel
      obtain ⟨hc, he, hz⟩ := h3 ⟨k + 3, hk⟩ (Nat.le_add_left 3 k)
      rw [if_neg (by rw [← p0, h0 0 (by omega)]; decide), if_neg (by rw [← p1, h0 1 (by omega)]; decide), if_neg (by rw [← p2, h0 2 (by omega)]; decide), if_pos (hm.2 ⟨k + 3, by omega, hk, h1⟩)]
      unfold preS at h1
      dsimp only at hc he hz
      rw [hmm] at h1 hc he hz
      rw [he, pre_one l _ hc] at h1
      rw [take_one l _ hc h1, ← he]
      rw [hz] at hn
      subst hn; rfl
end Go.Proofs.YtfkiomjplpbmiaaGreatDoor

/- The document's one: the token that begins at a place. -/
namespace Go.Proofs.YtfkiomjplpbmiaaGreatDoor
open Go.RowKit Go.Lib

/-- What is asked of the document's Parse of a number, and of its Xml. -/
def DecRefIs (D : FD) : Prop := ∀ (t : ByteArray) (w : World), t.size ≤ 512 → Calls Tryz.prog 93 #[.string t] w (Q (.tuple #[.agg #[.int .i64 (D t.data.toList).2.1, .int .i64 (D t.data.toList).2.2], .int .i64 (D t.data.toList).1]) w)
def XmlRefIs (X : FX) : Prop := ∀ (t : ByteArray) (w : World), t.size ≤ 255 → Calls Tryz.prog 95 #[.string t] w (Q (.int .i64 (X t.data.toList)) w)

set_option maxRecDepth 100000 in
set_option maxHeartbeats 8000000 in
theorem r11one_num (s p : ByteArray) (i k : Nat) (c : UInt8) (dc de e : Int) (w : World) (hi : i < s.size) (hc : s[i]'hi = c) (hik : i ≤ k) (hk : k ≤ s.size) (hp : s.extract i k = p)
    (C1 : Hid (∀ w, Calls Tryz.prog 91 #[.int .u8 c.toNat] w (Q (.bool true) w)))
    (C2 : Hid (∀ w, Calls Tryz.prog 92 #[.string s, .int .i64 (i : Int)] w (Q (.int .i64 (k : Int)) w)))
    (C3 : Hid (∀ w, Calls Tryz.prog 93 #[.string p] w (Q (.tuple #[.agg #[.int .i64 dc, .int .i64 de], .int .i64 e]) w))) :
    Calls Tryz.prog 50 #[.string s, .int .i64 (i : Int)] w (Q (.tuple #[tok10 1 i ⟨#[]⟩ dc de ⟨#[]⟩ 0 0 false false, .int .i64 (k : Int), .int .i64 e]) w) := by
  have HP := Lib.hid hp
  have HC := Lib.hid hc
  have R1 := Lib.hid (rzero10_new w).1
  have HB := Lib.hid (rzero10_new w).2
  clear hp hc
  go_enter Tryz.func50, Tryz.ntmps50
  go_wp2_with fail
  rw [HC.out]
  refine (C1.out _).mono ?_
  rintro e w1 ⟨rfl, hb⟩
  replace R1 := Lib.hid (R1.out.below hb)
  replace HB := Lib.hid (bt HB.out hb)
  clear hb C1
  go_wp2_with fail
  refine (C2.out _).mono ?_
  rintro e w1 ⟨rfl, hb⟩
  replace R1 := Lib.hid (R1.out.below hb)
  replace HB := Lib.hid (bt HB.out hb)
  clear hb C2
  go_wp2_with fail
  rw [HP.out]
  refine (C3.out _).mono ?_
  rintro e w1 ⟨rfl, hb⟩
  have r1 := R1.out.below hb
  replace HB := Lib.hid (bt HB.out hb)
  clear hb C3 R1
  have r2 := r1.alloc (.cells #[.int .i64 dc, .int .i64 de] 30)
  replace HB := Lib.hid (HB.out.alloc HB.out.size (.cells #[.int .i64 dc, .int .i64 de] 30))
  have r3 := At.new w1 #[.int .i64 dc, .int .i64 de] 30
  have q0 := r3.c 0 _ rfl
  have q1 := r3.c 1 _ rfl
  have qf := r3.fz
  obtain ⟨p0, p1, p2, p3, p4, p5, p6, p7, p8, p9⟩ := r2.ten
  have pf := r2.fz
  clear r1 r3
  go_wp2_with fail
  exact rret_tok r2 rfl HB.out (Nat.le_refl _) rfl rfl rfl rfl rfl rfl

set_option maxRecDepth 100000 in
set_option maxHeartbeats 8000000 in
theorem r11one_text (s t : ByteArray) (i k : Nat) (is : Bool) (x : Int) (w : World) (hi : i < s.size) (hc : s[i]'hi = 34) (b : Bool) (hbt : decide (255 < t.size) = b)
    (C1 : Hid (∀ w, Calls Tryz.prog 91 #[.int .u8 34] w (Q (.bool false) w)))
    (C2 : Hid (∀ w, Calls Tryz.prog 94 #[.string s, .int .i64 (i : Int)] w (Q (.tuple #[.string t, .int .i64 (k : Int), .bool is]) w)))
    (C3 : Hid (is = true → b = false → ∀ w, Calls Tryz.prog 95 #[.string t] w (Q (.int .i64 x) w)))
    (V : Value) (HV0 : Hid (is = false → V = .tuple #[.agg zero10, .int .i64 0, .int .i64 40])) (HV1 : Hid (is = true → b = true → V = .tuple #[.agg zero10, .int .i64 0, .int .i64 3]))
    (HV2 : Hid (is = true → b = false → V = .tuple #[tok10 2 i t 0 0 ⟨#[]⟩ 0 0 false false, .int .i64 (k : Int), .int .i64 x])) :
    Calls Tryz.prog 50 #[.string s, .int .i64 (i : Int)] w (Q V w) := by
  have HC := Lib.hid hc
  have R1 := Lib.hid (rzero10_new w).1
  have HB := Lib.hid (rzero10_new w).2
  have HBT := Lib.hid hbt
  clear hc hbt
  go_enter Tryz.func50, Tryz.ntmps50
  go_wp2_with fail
  rw [HC.out]
  refine (C1.out _).mono ?_
  rintro e w1 ⟨rfl, hb⟩
  replace R1 := Lib.hid (R1.out.below hb)
  replace HB := Lib.hid (bt HB.out hb)
  clear hb C1
  go_wp2_with fail
  refine (C2.out _).mono ?_
  rintro e w1 ⟨rfl, hb⟩
  replace R1 := Lib.hid (R1.out.below hb)
  replace HB := Lib.hid (bt HB.out hb)
  clear hb C2
  cases is with
  | false =>
    replace HV0 := Lib.hid (HV0.out rfl)
    have r1 := R1.out
    obtain ⟨p0, p1, p2, p3, p4, p5, p6, p7, p8, p9⟩ := r1.ten
    have pf := r1.fz
    go_wp2_with fail
    exact rret_tok r1 rfl HB.out (Nat.le_refl _) HV0.out rfl rfl rfl rfl rfl
  | true =>
    cases b with
    | true =>
      have hbp : 255 < t.size := of_decide_eq_true HBT.out
      have hb0 : decide (255 < t.size) = true := HBT.out
      replace HV1 := Lib.hid (HV1.out rfl rfl)
      have r1 := R1.out
      obtain ⟨p0, p1, p2, p3, p4, p5, p6, p7, p8, p9⟩ := r1.ten
      have pf := r1.fz
      go_wp2_with fail
      exact rret_tok r1 rfl HB.out (Nat.le_refl _) HV1.out rfl rfl rfl rfl rfl
    | false =>
      have hbp : ¬ 255 < t.size := of_decide_eq_false HBT.out
      have hb0 : decide (255 < t.size) = false := HBT.out
      replace HV2 := Lib.hid (HV2.out rfl rfl)
      replace C3 := Lib.hid (C3.out rfl rfl)
      go_wp2_with fail
      refine (C3.out _).mono ?_
      rintro e w1 ⟨rfl, hb⟩
      have r1 := R1.out.below hb
      replace HB := Lib.hid (bt HB.out hb)
      obtain ⟨p0, p1, p2, p3, p4, p5, p6, p7, p8, p9⟩ := r1.ten
      have pf := r1.fz
      clear hb C3
      go_wp2_with fail
      exact rret_tok r1 rfl HB.out (Nat.le_refl _) HV2.out rfl rfl rfl rfl rfl

set_option maxRecDepth 100000 in
set_option maxHeartbeats 8000000 in
theorem r11one_sheet (s t : ByteArray) (i k k2 : Nat) (is : Bool) (c1 : UInt8) (b : Bool) (hb1 : ((c1.toNat : Int) != 33) = !b) (sh : ByteArray) (ek co ro : Int) (ac ar : Bool) (w : World) (hi : i < s.size) (hc : s[i]'hi = 39) (hk : k ≤ 600)
    (C1 : Hid (∀ w, Calls Tryz.prog 91 #[.int .u8 39] w (Q (.bool false) w)))
    (C2 : Hid (∀ w, Calls Tryz.prog 94 #[.string s, .int .i64 (i : Int)] w (Q (.tuple #[.string t, .int .i64 (k : Int), .bool is]) w)))
    (C3 : Hid (∀ w, Calls Tryz.prog 96 #[.string s, .int .i64 (k : Int)] w (Q (.int .u8 (c1.toNat : Int)) w)))
    (C5 : Hid (∀ w, Calls Tryz.prog 98 #[.string s, .int .i64 ((k : Int) + 1), .bool true] w (Q (.int .i64 (k2 : Int)) w)))
    (C6 : Hid (is = true → b = true → ∀ w, Calls Tryz.prog 97 #[.string s, .int .i64 (i : Int), .int .i64 (k2 : Int)] w (Q (.tuple #[tok10 3 i ⟨#[]⟩ 0 0 sh co ro ac ar, .int .i64 (k2 : Int), .int .i64 ek]) w)))
    (V : Value) (HV0 : Hid (is = false ∨ b = false → V = .tuple #[.agg zero10, .int .i64 0, .int .i64 40]))
    (HV1 : Hid (is = true → b = true → V = .tuple #[tok10 3 i ⟨#[]⟩ 0 0 sh co ro ac ar, .int .i64 (k2 : Int), .int .i64 ek])) :
    Calls Tryz.prog 50 #[.string s, .int .i64 (i : Int)] w (Q V w) := by
  have HC := Lib.hid hc
  have R1 := Lib.hid (rzero10_new w).1
  have HB := Lib.hid (rzero10_new w).2
  clear hc
  go_enter Tryz.func50, Tryz.ntmps50
  go_wp2_with fail
  rw [HC.out]
  refine (C1.out _).mono ?_
  rintro e w1 ⟨rfl, hb⟩
  replace R1 := Lib.hid (R1.out.below hb)
  replace HB := Lib.hid (bt HB.out hb)
  clear hb C1
  go_wp2_with fail
  refine (C2.out _).mono ?_
  rintro e w1 ⟨rfl, hb⟩
  replace R1 := Lib.hid (R1.out.below hb)
  replace HB := Lib.hid (bt HB.out hb)
  clear hb C2
  cases is with
  | false =>
    replace HV0 := Lib.hid (HV0.out (Or.inl rfl))
    have r1 := R1.out
    obtain ⟨p0, p1, p2, p3, p4, p5, p6, p7, p8, p9⟩ := r1.ten
    have pf := r1.fz
    go_wp2_with fail
    exact rret_tok r1 rfl HB.out (Nat.le_refl _) HV0.out rfl rfl rfl rfl rfl
  | true =>
    cases b with
    | false =>
      replace HV0 := Lib.hid (HV0.out (Or.inr rfl))
      go_wp2_with fail
      refine (C3.out _).mono ?_
      rintro e w1 ⟨rfl, hb⟩
      have r1 := R1.out.below hb
      replace HB := Lib.hid (bt HB.out hb)
      obtain ⟨p0, p1, p2, p3, p4, p5, p6, p7, p8, p9⟩ := r1.ten
      have pf := r1.fz
      clear hb C3
      go_wp2_with fail
      exact rret_tok r1 rfl HB.out (Nat.le_refl _) HV0.out rfl rfl rfl rfl rfl
    | true =>
      replace HV1 := Lib.hid (HV1.out rfl rfl)
      replace C6 := Lib.hid (C6.out rfl rfl)
      go_wp2_with fail
      refine (C3.out _).mono ?_
      rintro e w1 ⟨rfl, hb⟩
      replace R1 := Lib.hid (R1.out.below hb)
      replace HB := Lib.hid (bt HB.out hb)
      clear hb C3
      go_wp2_with fail
      refine (C5.out _).mono ?_
      rintro e w1 ⟨rfl, hb⟩
      replace R1 := Lib.hid (R1.out.below hb)
      replace HB := Lib.hid (bt HB.out hb)
      clear hb C5
      go_wp2_with fail
      refine (C6.out _).mono ?_
      rintro e w1 ⟨rfl, hb⟩
      have r1 := R1.out.below hb
      replace HB := Lib.hid (bt HB.out hb)
      obtain ⟨p0, p1, p2, p3, p4, p5, p6, p7, p8, p9⟩ := r1.ten
      have pf := r1.fz
      clear hb C6
      go_wp2_with fail
      exact rret_tok r1 rfl HB.out (Nat.le_refl _) HV1.out rfl rfl rfl rfl rfl

set_option maxRecDepth 100000 in
set_option maxHeartbeats 8000000 in
theorem r11one_word (s : ByteArray) (i : Nat) (c : UInt8) (k : Int) (hl : Bool) (sh S : ByteArray) (kd ek tc te co ro ta : Int) (ac ar : Bool) (w : World) (hi : i < s.size) (hc : s[i]'hi = c) (h34 : ((c.toNat : Int) == 34) = false) (h39 : ((c.toNat : Int) == 39) = false) (h36 : hl = false → ((c.toNat : Int) == 36) = true)
    (C1 : Hid (∀ w, Calls Tryz.prog 91 #[.int .u8 c.toNat] w (Q (.bool false) w)))
    (C2 : Hid (∀ w, Calls Tryz.prog 99 #[.int .u8 c.toNat] w (Q (.bool hl) w)))
    (C3 : Hid (∀ w, Calls Tryz.prog 100 #[.string s, .int .i64 (i : Int)] w (Q (.tuple #[tok10 kd ta S tc te sh co ro ac ar, .int .i64 k, .int .i64 ek]) w))) :
    Calls Tryz.prog 50 #[.string s, .int .i64 (i : Int)] w (Q (.tuple #[tok10 kd ta S tc te sh co ro ac ar, .int .i64 k, .int .i64 ek]) w) := by
  have HC := Lib.hid hc
  have R1 := Lib.hid (rzero10_new w).1
  have HB := Lib.hid (rzero10_new w).2
  have H36 := Lib.hid h36
  clear hc h36
  go_enter Tryz.func50, Tryz.ntmps50
  go_wp2_with fail
  rw [HC.out]
  refine (C1.out _).mono ?_
  rintro e w1 ⟨rfl, hb⟩
  replace R1 := Lib.hid (R1.out.below hb)
  replace HB := Lib.hid (bt HB.out hb)
  clear hb C1
  go_wp2_with (fail)
  refine (C2.out _).mono ?_
  rintro e w1 ⟨rfl, hb⟩
  replace R1 := Lib.hid (R1.out.below hb)
  replace HB := Lib.hid (bt HB.out hb)
  clear hb C2
  cases hl with
  | true =>
    clear H36
    go_wp2_with fail
    refine (C3.out _).mono ?_
    rintro e w1 ⟨rfl, hb⟩
    have r1 := R1.out.below hb
    replace HB := Lib.hid (bt HB.out hb)
    obtain ⟨p0, p1, p2, p3, p4, p5, p6, p7, p8, p9⟩ := r1.ten
    have pf := r1.fz
    clear hb C3
    go_wp2_with fail
    exact rret_tok r1 rfl HB.out (Nat.le_refl _) rfl rfl rfl rfl rfl rfl
  | false =>
    have h36 := H36.out rfl
    clear H36
    go_wp2_with fail
    refine (C3.out _).mono ?_
    rintro e w1 ⟨rfl, hb⟩
    have r1 := R1.out.below hb
    replace HB := Lib.hid (bt HB.out hb)
    obtain ⟨p0, p1, p2, p3, p4, p5, p6, p7, p8, p9⟩ := r1.ten
    have pf := r1.fz
    clear hb C3
    go_wp2_with fail
    exact rret_tok r1 rfl HB.out (Nat.le_refl _) rfl rfl rfl rfl rfl rfl

set_option maxRecDepth 100000 in
set_option maxHeartbeats 8000000 in
theorem r11one_mark (s : ByteArray) (i : Nat) (c : UInt8) (k : Int) (sh S : ByteArray) (kd ek tc te co ro ta : Int) (ac ar : Bool) (w : World) (hs : s.size ≤ 512) (hi : i < s.size) (hc : s[i]'hi = c) (h34 : ((c.toNat : Int) == 34) = false) (h39 : ((c.toNat : Int) == 39) = false) (h36 : ((c.toNat : Int) == 36) = false) (b5 bb : Bool) (hb5 : decide ((5 : Int) ≤ (s.size : Int) - (i : Int)) = b5) (hbb : b5 = true → ((s.extract i (i + 5)).toList == [35, 82, 69, 70, 33]) = bb)
    (C1 : Hid (∀ w, Calls Tryz.prog 91 #[.int .u8 c.toNat] w (Q (.bool false) w)))
    (C2 : Hid (∀ w, Calls Tryz.prog 99 #[.int .u8 c.toNat] w (Q (.bool false) w)))
    (C3 : Hid (∀ w, Calls Tryz.prog 101 #[.string s, .int .i64 (i : Int)] w (Q (.tuple #[tok10 kd ta S tc te sh co ro ac ar, .int .i64 k, .int .i64 ek]) w)))
    (V : Value) (HV1 : Hid (b5 = true → bb = true → V = .tuple #[tok10 6 i ⟨#[]⟩ 0 0 ⟨#[]⟩ 0 0 false false, .int .i64 ((i : Int) + 5), .int .i64 0]))
    (HV2 : Hid (b5 = false ∨ bb = false → V = .tuple #[tok10 kd ta S tc te sh co ro ac ar, .int .i64 k, .int .i64 ek])) :
    Calls Tryz.prog 50 #[.string s, .int .i64 (i : Int)] w (Q V w) := by
  have HC := Lib.hid hc
  have R1 := Lib.hid (rzero10_new w).1
  have HB := Lib.hid (rzero10_new w).2
  have HBB := Lib.hid hbb
  clear hc hbb
  go_enter Tryz.func50, Tryz.ntmps50
  go_wp2_with fail
  rw [HC.out]
  refine (C1.out _).mono ?_
  rintro e w1 ⟨rfl, hb⟩
  replace R1 := Lib.hid (R1.out.below hb)
  replace HB := Lib.hid (bt HB.out hb)
  clear hb C1
  go_wp2_with (fail)
  refine (C2.out _).mono ?_
  rintro e w1 ⟨rfl, hb⟩
  replace R1 := Lib.hid (R1.out.below hb)
  replace HB := Lib.hid (bt HB.out hb)
  clear hb C2
  cases b5 with
  | false =>
    replace HV2 := Lib.hid (HV2.out (Or.inl rfl))
    clear HBB HV1
    go_wp2_with fail
    refine (C3.out _).mono ?_
    rintro e w1 ⟨rfl, hb⟩
    have r1 := R1.out.below hb
    replace HB := Lib.hid (bt HB.out hb)
    obtain ⟨p0, p1, p2, p3, p4, p5, p6, p7, p8, p9⟩ := r1.ten
    have pf := r1.fz
    clear hb C3
    go_wp2_with fail
    exact rret_tok r1 rfl HB.out (Nat.le_refl _) HV2.out rfl rfl rfl rfl rfl
  | true =>
    have hbb := HBB.out rfl
    have h5 := of_decide_eq_true hb5
    have q1 : i + 5 ≤ s.size := by omega
    have q2 : (i : Int) + 5 = ((i + 5 : Nat) : Int) := by omega
    have q3 : (0 : Int) ≤ (i : Int) + 5 := by omega
    have q4 : ((i : Int) + 5).toNat = i + 5 := by omega
    have q5 : (i : Int) + 5 ≤ (s.size : Int) := by omega
    clear HBB h5 q2
    cases bb with
    | true =>
      replace HV1 := Lib.hid (HV1.out rfl rfl)
      clear HV2
      have r1 := R1.out
      obtain ⟨p0, p1, p2, p3, p4, p5, p6, p7, p8, p9⟩ := r1.ten
      have pf := r1.fz
      go_wp2_with fail
      exact rret_tok r1 rfl HB.out (Nat.le_refl _) HV1.out rfl rfl rfl rfl rfl
    | false =>
      replace HV2 := Lib.hid (HV2.out (Or.inr rfl))
      clear HV1
      go_wp2_with fail
      refine (C3.out _).mono ?_
      rintro e w1 ⟨rfl, hb⟩
      have r1 := R1.out.below hb
      replace HB := Lib.hid (bt HB.out hb)
      obtain ⟨p0, p1, p2, p3, p4, p5, p6, p7, p8, p9⟩ := r1.ten
      have pf := r1.fz
      clear hb C3
      go_wp2_with fail
      exact rret_tok r1 rfl HB.out (Nat.le_refl _) HV2.out rfl rfl rfl rfl rfl
end Go.Proofs.YtfkiomjplpbmiaaGreatDoor

/- The document's one, whatever begins there; what it answers is what lex.Lex takes. -/
namespace Go.Proofs.YtfkiomjplpbmiaaGreatDoor
open Go.RowKit Go.Lib

theorem byte_dec {c d : UInt8} : ((c.toNat : Int) == (d.toNat : Int)) = (c == d) := by
  rw [Bool.eq_iff_iff, beq_iff_eq, beq_iff_eq]
  constructor
  · intro h; exact UInt8.toNat_inj.1 (by omega)
  · rintro rfl; rfl

theorem r11one_any (hP : RefParseIs) {D : FD} {X : FX} (hD : DecRefIs D) (hX : XmlRefIs X) (s : ByteArray) (i : Nat) (w : World) (hs : s.size ≤ 512) (hi : i < s.size) :
    Calls Tryz.prog 50 #[.string s, .int .i64 (i : Int)] w (Q (oneRV i (oneM parseF D X (s.data.toList.drop i))) w) := by
  have hsz : s.data.toList.length = s.size := rfl
  obtain ⟨c, hc⟩ : ∃ c, s[i]'hi = c := ⟨_, rfl⟩
  have hl : s.data.toList.drop i = c :: s.data.toList.drop (i + 1) := by
    have hl : i < s.data.toList.length := hi
    rw [List.drop_eq_getElem_cons hl, ← hc]; rfl
  obtain ⟨l, hll⟩ : ∃ l, s.data.toList.drop (i + 1) = l := ⟨_, rfl⟩
  rw [hll] at hl
  have hlz : (c :: l).length = s.size - i := by rw [← hl, List.length_drop]; rfl
  have hd : ∀ m, s.data.toList.drop (i + m) = (c :: l).drop m := fun m => by rw [← hl, List.drop_drop]
  rw [hl]
  cases hdg : Pl.digit c with
  | true =>
    have C1 := fun w => r11digit c w
    rw [hdg] at C1
    have C2 := fun w => r11num s i w hs (by omega)
    rw [hl] at C2
    have hn := numN_le (c :: l)
    have C3 := fun w => hD (s.extract i (i + numN (c :: l))) w (by rw [ByteArray.size_extract]; omega)
    rw [ext_take, hl] at C3
    rw [one_num hdg]
    exact r11one_num s _ i (i + numN (c :: l)) c _ _ _ w hi hc (by omega) (by omega) rfl (Lib.hid C1) (Lib.hid C2) (Lib.hid C3)
  | false =>
    have C1 := fun w => r11digit c w
    rw [hdg] at C1
    by_cases h34 : c = 34
    · rw [one_text hdg h34]
      subst h34
      have C2 := fun w => r11quoted s i 34 w (by omega) hi hc (by decide)
      rw [hll] at C2
      unfold textOne
      rw [show (34 :: l).drop 1 = l from rfl]
      cases hq : quotedM 34 [] l with
      | none =>
        rw [hq] at C2
        exact r11one_text s ⟨#[]⟩ i 0 false 0 w hi hc false (by decide) (Lib.hid C1) (Lib.hid C2) (Lib.hid fun h => by cases h) _ (Lib.hid fun _ => rfl) (Lib.hid fun h => by cases h) (Lib.hid fun h => by cases h)
      | some p =>
        obtain ⟨t, r⟩ := p
        rw [hq] at C2
        have hlt := quotedM_lt hq
        dsimp only
        have C2' : ∀ w, Calls Tryz.prog 94 #[.string s, .int .i64 (i : Int)] w (Q (.tuple #[.string ⟨t.toArray⟩, .int .i64 ((i + ((34 :: l).length - r.length) : Nat) : Int), .bool true]) w) := fun w => by
          have h := C2 w
          unfold quoted3 at h
          dsimp only at h
          have e : s.size - r.length = i + ((34 :: l).length - r.length) := by simp only [List.length_cons] at hlz ⊢; omega
          rw [e] at h
          exact h
        by_cases ht : 255 < t.length
        · rw [if_pos ht]
          exact r11one_text s ⟨t.toArray⟩ i _ true 0 w hi hc true (by rw [size_mk]; exact decide_eq_true ht) (Lib.hid C1) (Lib.hid C2') (Lib.hid fun _ h => by cases h) _ (Lib.hid fun h => by cases h) (Lib.hid fun _ _ => rfl) (Lib.hid fun _ h => by cases h)
        · rw [if_neg ht]
          have C3 := fun w => hX ⟨t.toArray⟩ w (by rw [size_mk]; omega)
          rw [str_data] at C3
          exact r11one_text s ⟨t.toArray⟩ i _ true _ w hi hc false (by rw [size_mk]; exact decide_eq_false ht) (Lib.hid C1) (Lib.hid C2') (Lib.hid fun _ _ => C3) _ (Lib.hid fun h => by cases h) (Lib.hid fun _ h => by cases h) (Lib.hid fun _ _ => rfl)
    · by_cases h39 : c = 39
      · rw [one_sheet hdg h34 h39]
        subst h39
        have C2 := fun w => r11quoted s i 39 w (by omega) hi hc (by decide)
        rw [hll] at C2
        unfold sheetOne
        rw [show (39 :: l).drop 1 = l from rfl]
        cases hq : quotedM 39 [] l with
        | none =>
          rw [hq] at C2
          exact r11one_sheet s ⟨#[]⟩ i 0 _ false _ _ (Bool.not_not _).symm ⟨#[]⟩ 0 0 0 false false w hi hc (by omega) (Lib.hid C1) (Lib.hid C2) (Lib.hid fun w => r11at s 0 w) (Lib.hid fun w => r11while s 1 true w (by omega) (by omega)) (Lib.hid fun h => by cases h) _ (Lib.hid fun _ => rfl) (Lib.hid fun h => by cases h)
        | some p =>
          obtain ⟨t, r⟩ := p
          rw [hq] at C2
          have hlt := quotedM_lt hq
          have hb := drop_back hq
          dsimp only
          obtain ⟨n, hn⟩ : ∃ n, (39 :: l).length - r.length = n := ⟨_, rfl⟩
          have hn1 : n = l.length - r.length + 1 := by rw [← hn, List.length_cons]; omega
          have hr : (39 :: l).drop n = r := by rw [hn1, List.drop_succ_cons, hb]
          have hin : i + n ≤ s.size := by simp only [List.length_cons] at hlz; omega
          rw [hn]
          have C2' : ∀ w, Calls Tryz.prog 94 #[.string s, .int .i64 (i : Int)] w (Q (.tuple #[.string ⟨t.toArray⟩, .int .i64 ((i + n : Nat) : Int), .bool true]) w) := fun w => by
            have h := C2 w
            unfold quoted3 at h
            dsimp only at h
            have e : s.size - r.length = i + n := by simp only [List.length_cons] at hlz hn; omega
            rw [e] at h
            exact h
          have hat : atB s (i + n) = r.head?.getD 0 := by unfold atB; rw [hd, hr]
          have e33 : (((atB s (i + n)).toNat : Int) != 33) = !(r.head? == some 33) := by
            have h : (((atB s (i + n)).toNat : Int) == 33) = (r.head? == some 33) := by
              rw [hat, show (33 : Int) = ((33 : UInt8).toNat : Int) from rfl, eq_byte, Bool.eq_iff_iff, beq_iff_eq, beq_iff_eq, getD_eq (by decide)]
            rw [bne, h]
          have C5' : ∀ w, Calls Tryz.prog 98 #[.string s, .int .i64 (((i + n : Nat) : Int) + 1), .bool true] w (Q (.int .i64 ((i + afterN (39 :: l) n : Nat) : Int)) w) := by
            intro w
            have h := r11while s (i + (n + 1)) true w (by omega) (by omega)
            rw [hd, show i + (n + 1) + runN (if true = true then isC else isW) ((39 :: l).drop (n + 1)) = i + afterN (39 :: l) n by unfold afterN; rw [if_pos rfl]; omega, show ((i + (n + 1) : Nat) : Int) = ((i + n : Nat) : Int) + 1 by omega] at h
            exact h
          have hla : (r.head? == some 33) = true → afterN (39 :: l) n ≤ (39 :: l).length := fun hh => afterN_le _ _ (head_lt (c := 33) (by rw [hr]; exact hh))
          have C6 := fun (hh : (r.head? == some 33) = true) w => r11ref_any hP s i (afterN (39 :: l) n) w (by have := hla hh; omega) hs
          rw [hl] at C6
          refine r11one_sheet s _ i (i + n) (i + afterN (39 :: l) n) true _ _ e33 _ _ _ _ _ _ w hi hc (by omega) (Lib.hid C1) (Lib.hid C2') (Lib.hid fun w => r11at s (i + n) w) (Lib.hid C5') (Lib.hid fun _ hh => C6 hh) _ (Lib.hid fun h => ?_) (Lib.hid fun _ h => ?_)
          · rw [if_neg (by rcases h with h | h; cases h; rw [h]; decide)]; rfl
          · rw [if_pos h]; rfl
      · have e34 : ((c.toNat : Int) == 34) = false := by
          rw [show (34 : Int) = ((34 : UInt8).toNat : Int) from rfl, byte_dec]; simpa using h34
        have e39 : ((c.toNat : Int) == 39) = false := by
          rw [show (39 : Int) = ((39 : UInt8).toNat : Int) from rfl, byte_dec]; simpa using h39
        have C2 := fun w => r11letter c w
        have cell : ∀ o : One, ∃ kd ta S tc te sh co ro ac ar k, oneRV i o = .tuple #[tok10 kd ta S tc te sh co ro ac ar, .int .i64 k, .int .i64 o.2.2] := fun o => by
          unfold oneRV
          split
          · exact ⟨_, _, _, _, _, _, _, _, _, _, _, rfl⟩
          · exact ⟨_, _, _, _, _, _, _, _, _, _, _, rfl⟩
        by_cases hw : c = 36 ∨ isL c = true
        · rw [one_word hdg h34 h39 hw]
          have C3 := fun w => r11word_any hP s i w hs (by omega)
          rw [hl] at C3
          obtain ⟨kd, ta, S, tc, te, sh, co, ro, ac, ar, k, e⟩ := cell (wordOne parseF (c :: l))
          rw [e] at C3 ⊢
          refine r11one_word s i c k (isL c) sh S kd _ tc te co ro ta ac ar w hi hc e34 e39 (fun h => ?_) (Lib.hid C1) (Lib.hid C2) (Lib.hid C3)
          rcases hw with rfl | hw
          · rfl
          · rw [h] at hw; cases hw
        · have h36 : c ≠ 36 := fun h => hw (Or.inl h)
          have hL : isL c = false := by cases h : isL c with
            | true => exact absurd (Or.inr h) hw
            | false => rfl
          have e36 : ((c.toNat : Int) == 36) = false := by
            rw [show (36 : Int) = ((36 : UInt8).toNat : Int) from rfl, byte_dec]; simpa using h36
          rw [hL] at C2
          rw [one_mark hdg h34 h39 h36 hL]
          have C3 := fun w => r11mark_any s i w hs (by omega)
          rw [hl] at C3
          obtain ⟨kd, ta, S, tc, te, sh, co, ro, ac, ar, k, e⟩ := cell (markR (c :: l))
          rw [e] at C3
          have hpre : ∀ h : i + 5 ≤ s.size, ((s.extract i (i + 5)).toList == [35, 82, 69, 70, 33]) = ([35, 82, 69, 70, 33] : List UInt8).isPrefixOf (c :: l) := fun h => by
            have k := pre_ext s ⟨#[35, 82, 69, 70, 33]⟩ i h
            rw [hl, show (⟨#[35, 82, 69, 70, 33]⟩ : ByteArray).toList = [35, 82, 69, 70, 33] from by rw [Lib.toList_data]] at k
            exact k
          have hnp : ¬ i + 5 ≤ s.size → ([35, 82, 69, 70, 33] : List UInt8).isPrefixOf (c :: l) = false := fun h => by
            rw [Bool.eq_false_iff]
            intro hh
            have := mark_le hh
            simp only [List.length_cons, List.length_nil] at this hlz; omega
          refine r11one_mark s i c k sh S kd _ tc te co ro ta ac ar w hs hi hc e34 e39 e36 (decide ((5 : Int) ≤ (s.size : Int) - (i : Int))) _ rfl (fun h => hpre (by have := of_decide_eq_true h; omega)) (Lib.hid C1) (Lib.hid C2) (Lib.hid C3) _ (Lib.hid fun h5 hb => ?_) (Lib.hid fun h => ?_)
          · unfold markOne
            rw [if_pos hb]; rfl
          · rw [← e]
            have hno : ¬ ([35, 82, 69, 70, 33] : List UInt8).isPrefixOf (c :: l) = true := by
              rcases h with h | h
              · rw [hnp (by have := of_decide_eq_false h; omega)]; decide
              · rw [h]; decide
            unfold markOne markR
            rw [if_neg hno]
end Go.Proofs.YtfkiomjplpbmiaaGreatDoor

/- lex.Lex, over what dec.Parse and utf.Xml answer. -/
namespace Go.Proofs.YtfkiomjplpbmiaaGreatDoor
open Go.RowKit Go.Lib

/-- What is asked of dec.Parse: that it answers, and what. -/
def DecIs (D : FD) : Prop := ∀ (t : ByteArray) (w : World), t.size ≤ 512 → Glob w → Calls Tryz.prog 45 #[.string t] w (Q (.tuple #[.agg #[.int .i64 (D t.data.toList).2.1, .int .i64 (D t.data.toList).2.2], .int .i64 (D t.data.toList).1]) w)

theorem byte_no {c d : UInt8} (h : c ≠ d) : (c == d) = false := by simpa using h
theorem byte_yes {c d : UInt8} (h : c = d) : (c == d) = true := by simpa using h
/-- One token as Go hands it back, its cells apart. -/
abbrev oneW (o : One) : Value := .tuple #[tok10 o.1.kind 0 ⟨o.1.s.toArray⟩ o.1.c o.1.e ⟨o.1.r.1.toArray⟩ o.1.r.2.1 o.1.r.2.2.1 o.1.r.2.2.2.1 o.1.r.2.2.2.2, .int .i64 o.2.1, .int .i64 o.2.2]
theorem digS_contains (c : UInt8) : (⟨#[48, 49, 50, 51, 52, 53, 54, 55, 56, 57]⟩ : ByteArray).data.toList.contains c = Pl.digit c := congrFun digs_contains c

set_option maxRecDepth 100000 in
set_option maxHeartbeats 8000000 in
theorem lex_core (s : ByteArray) (D : FD) (X : FX) (hD : DecIs D) (hX : XmlIs X) (w : World) (hs : s.size ≤ 512) (hg : Glob w) (R : Ending → World → Prop)
    (HR1 : Hid (∀ a x w', lexA (oneM parseF D X) s.data.toList = .error (a, x) → Below w.heap.size w w' → R (.returned (.tuple #[.slice none 0 0, .int .i64 ((a : Nat) : Int), .int .i64 x])) w'))
    (HR2 : Hid (∀ ts v w', lexA (oneM parseF D X) s.data.toList = .ok ts → w'.ownsRow w.heap.size 34 10 v ts.length (cellsT ts) → Below w.heap.size w w' → R (.returned (.tuple #[v, .int .i64 0, .int .i64 0])) w')) :
    Calls Tryz.prog 11 #[.string s] w R := by
  have HG := Lib.hid hg
  have HD := Lib.hid hD
  have HX := Lib.hid hX
  have hs0 : decide (512 < s.size) = false := decide_eq_false (by omega)
  clear hg hD hX
  go_enter Tryz.func11, Tryz.ntmps11
  go_wp2_with fail
  go_step3
  go_wp2_with fail
  go_step3
  go_wp2_with fail
  go_loopg [5, 6] s.size (fun gf v5 v6 wx => ∃ (k : Nat) (acc : List (Nat × Tok)), v6 = .int .i64 (k : Int) ∧ k ≤ s.size ∧ s.size ≤ k + gf ∧ acc.length ≤ k ∧ Hid (wx.ownsRow w.heap.size 34 10 v5 acc.length (cellsT acc)) ∧ Below w.heap.size w wx ∧ Hid (contL acc (lexM (oneM parseF D X) (s.data.toList.length - k) k (s.data.toList.drop k)) = lexA (oneM parseF D X) s.data.toList))
  case atStart => exact ⟨0, [], rfl, by omega, by omega, by simp, World.ownsRow_nil _ _ _ _, Below.refl _ _, by
    show contL [] (lexM _ s.data.toList.length 0 s.data.toList) = lexM _ _ _ _
    cases lexM (oneM parseF D X) s.data.toList.length 0 s.data.toList <;> rfl⟩
  case round =>
    obtain ⟨k, acc, rfl, hk, hgf, hacc, HO, hbw, HQ⟩ := hrel
    have HB := Lib.hid hbw
    clear hbw
    have hsz : s.data.toList.length = s.size := rfl
    by_cases hlt : k < s.size
    · obtain ⟨c, l, hcl⟩ : ∃ c l, s.data.toList.drop k = c :: l := by
        cases h : s.data.toList.drop k with
        | nil => have := congrArg List.length h; rw [List.length_drop] at this; simp at this; omega
        | cons c l => exact ⟨c, l, rfl⟩
      obtain ⟨r, hr⟩ : ∃ r, s.extract k s.size = r := ⟨_, rfl⟩
      have hrl : r.data.toList = c :: l := by rw [← hr, ext_drop, hcl]
      have hrz : r.size = s.size - k := by rw [← hr, ByteArray.size_extract]; omega
      have hr1 := ext1 hrl
      have HR := Lib.hid hr
      have HE1 := Lib.hid hr1
      have HL := Lib.hid hrl
      obtain ⟨g', rfl⟩ : ∃ g', gk = g' + 1 := ⟨gk - 1, by omega⟩
      clear hr hr1 hrl
      go_upto_region 10 with (fail)
      go_cut [7, 8, 9, 10, 11] (fun v7 v8 v9 v10 v11 wx => v7 = .string r ∧ v8 = .pointer (some ⟨wr.heap.size, 0, none⟩) ∧ v9 = .int .i64 0 ∧ v10 = .int .i64 0 ∧ v11 = .string ⟨#[c]⟩ ∧ At wx wr.heap.size zero10.toList ∧ Below wr.heap.size wr wx)
      case first =>
        rw [HR.out]
        go_wp2_with fail
        rw [HE1.out]
        go_wp2_with fail
        go_meet
        exact ⟨rfl, rfl, rfl, rfl, rfl, (zero10_new wr).1, (zero10_new wr).2⟩
      case rest =>
        obtain ⟨rfl, rfl, rfl, rfl, rfl, r1, hb⟩ := hcut
        have R1 := Lib.hid r1
        have HA := Lib.hid hb
        clear r1 hb
        by_cases h32 : c = 32
        · subst h32
          have HQ2 := Lib.hid ((step_blank acc _ l k hcl).symm.trans HQ.out)
          clear hcl HQ hsz
          go_wp2_with fail
          go_roundg g'
          case measure => omega
          case rel => exact ⟨k + 1, acc, by go_num, by omega, by omega, by omega, owns_below HO.out HA.out, bt HB.out HA.out, HQ2⟩
        · have e32 := byte_no h32
          obtain ⟨o, ho⟩ : ∃ o, oneM parseF D X (c :: l) = o := ⟨_, rfl⟩
          have HOO := Lib.hid ho
          have hzr : r.size ≤ 512 := by omega
          have hgx := HG.out.below (bt HB.out HA.out)
          have HGX := Lib.hid hgx
          have cd := fun w => contains_byte ⟨#[48, 49, 50, 51, 52, 53, 54, 55, 56, 57]⟩ c w
          rw [digS_contains] at cd
          have CD := Lib.hid cd
          clear hgx cd
          go_upto_block 2 with (fail)
          go_cut [6, 8, 9, 10] (fun v6 v8 v9 v10 wx => v6 = .int .i64 (k : Int) ∧ v8 = .pointer (some ⟨wr.heap.size, 0, none⟩) ∧ v9 = .int .i64 (o.2.1 : Int) ∧ v10 = .int .i64 o.2.2 ∧ At wx wr.heap.size (o.1.cells 0) ∧ Below wr.heap.size wr wx)
          case first =>
            clear HQ
            cases hdg : Pl.digit c with
            | true =>
              rw [hdg] at CD
              have hn := fun w => number_any r w hzr
              have hle := numN_le (c :: l)
              have hz2 : (c :: l).length = r.size := by rw [← HL.out]; rfl
              have hd := fun w hg => HD.out (r.extract 0 (numN (c :: l))) w (by rw [ByteArray.size_extract]; omega) hg
              have he : (r.extract 0 (numN (c :: l))).data.toList = (c :: l).take (numN (c :: l)) := by
                rw [ByteArray.data_extract, Array.toList_extract, List.extract_eq_take_drop, HL.out]; simp
              rw [he] at hd
              rw [HL.out] at hn
              have hon := one_num (P := parseF) (D := D) (X := X) (l := l) hdg
              rw [ho] at hon
              have hlo : numN (c :: l) ≤ r.size := by omega
              have HON := Lib.hid hon
              have CN := Lib.hid hn
              have CP := Lib.hid hd
              clear hn hd he hon hdg hz2 hle ho HL h32
              go_wp2_with fail
              refine (CD.out _).mono ?_
              rintro e w1 ⟨rfl, rfl⟩
              go_wp2_with fail
              refine (CN.out _).mono ?_
              rintro e w2 ⟨rfl, hb⟩
              have r1 := R1.out.below hb
              replace HA := Lib.hid (bt HA.out hb)
              have r2 : At (w2.setCell ⟨wr.heap.size, 0, none⟩ (.int .i64 1)) wr.heap.size [.int .i64 1, .int .i64 0, .string ⟨#[]⟩, .int .i64 0, .int .i64 0, .string ⟨#[]⟩, .int .i64 0, .int .i64 0, .bool false, .bool false] := r1.set 0 (by decide) _
              have hb2 := HA.out.setCell (p := ⟨wr.heap.size, 0, none⟩) (Nat.le_refl _) (.int .i64 1)
              have hg2 := HG.out.below (bt HB.out hb2)
              have R2 := Lib.hid r2
              have HA2 := Lib.hid hb2
              have HG2 := Lib.hid hg2
              obtain ⟨p0, p1, p2, p3, p4, p5, p6, p7, p8, p9⟩ := r1.ten
              have pf := r1.fz
              clear r2 hb2 hg2 hb r1
              go_wp2_with fail
              refine (CP.out _ HG2.out).mono ?_
              rintro e w3 ⟨rfl, hb⟩
              have r3 := R2.out.below hb
              have HA3 := Lib.hid (bt HA2.out hb)
              clear p0 p1 p2 p3 p4 p5 p6 p7 p8 p9 pf hb
              obtain ⟨p0, p1, p2, p3, p4, p5, p6, p7, p8, p9⟩ := r3.ten
              have pf := r3.fz
              go_wp2_with fail
              go_meet
              rw [HON.out]
              exact ⟨rfl, rfl, rfl, rfl, (r3.set 3 (by simp) _).set 4 (by simp) _, (HA3.out.setCell (p := ⟨wr.heap.size, 3, none⟩) (Nat.le_refl _) _).setCell (p := ⟨wr.heap.size, 4, none⟩) (Nat.le_refl _) _⟩
            | false =>
              rw [hdg] at CD
              by_cases h34 : c = 34
              · have e34 := byte_yes h34
                have cc := fun w hg => lexText_any X HX.out r l w hzr (by rw [HL.out, h34]) hg
                rw [HL.out, ← one_text hdg h34, ho] at cc
                have CC : Hid (∀ w, Glob w → Calls Tryz.prog 46 #[.string r] w (Q (oneW o) w)) := cc
                clear cc ho HL h34 h32 hdg
                go_wp2_with fail
                refine (CD.out _).mono ?_
                rintro e w1 ⟨rfl, rfl⟩
                go_wp2_with fail
                refine (CC.out _ HGX.out).mono ?_
                rintro e w2 ⟨rfl, hb⟩
                have r1 := R1.out.below hb
                replace HA := Lib.hid (bt HA.out hb)
                obtain ⟨p0, p1, p2, p3, p4, p5, p6, p7, p8, p9⟩ := r1.ten
                have pf := r1.fz
                go_wp2_with fail
                go_meet
                exact ⟨rfl, rfl, rfl, rfl, (ret10 r1 rfl HA.out (Nat.le_refl _) _ _ _ _ _ _ _ _ _ _).1, (ret10 r1 rfl HA.out (Nat.le_refl _) _ _ _ _ _ _ _ _ _ _).2⟩
              · have e34 := byte_no h34
                by_cases h39 : c = 39
                · have e39 := byte_yes h39
                  have cc := fun w hg => lexSheet_any r l w hzr (by rw [HL.out, h39]) hg
                  rw [HL.out, ← one_sheet (D := D) (X := X) hdg h34 h39, ho] at cc
                  have CC : Hid (∀ w, Glob w → Calls Tryz.prog 47 #[.string r] w (Q (oneW o) w)) := cc
                  clear cc ho HL h34 h39 h32 hdg
                  go_wp2_with fail
                  refine (CD.out _).mono ?_
                  rintro e w1 ⟨rfl, rfl⟩
                  go_wp2_with fail
                  refine (CC.out _ HGX.out).mono ?_
                  rintro e w2 ⟨rfl, hb⟩
                  have r1 := R1.out.below hb
                  replace HA := Lib.hid (bt HA.out hb)
                  obtain ⟨p0, p1, p2, p3, p4, p5, p6, p7, p8, p9⟩ := r1.ten
                  have pf := r1.fz
                  go_wp2_with fail
                  go_meet
                  exact ⟨rfl, rfl, rfl, rfl, (ret10 r1 rfl HA.out (Nat.le_refl _) _ _ _ _ _ _ _ _ _ _).1, (ret10 r1 rfl HA.out (Nat.le_refl _) _ _ _ _ _ _ _ _ _ _).2⟩
                · have e39 := byte_no h39
                  have cl := fun w => contains_byte lettS c w
                  have CL := Lib.hid cl
                  clear cl
                  by_cases h36 : c = 36
                  · have e36 := byte_yes h36
                    have cc := fun w hg => lexWord_any r w hzr hg
                    rw [HL.out, ← one_word (D := D) (X := X) hdg h34 h39 (Or.inl h36), ho] at cc
                    have CC : Hid (∀ w, Glob w → Calls Tryz.prog 48 #[.string r] w (Q (oneW o) w)) := cc
                    clear cc ho HL h34 h39 h36 h32 hdg
                    go_wp2_with fail
                    refine (CD.out _).mono ?_
                    rintro e w1 ⟨rfl, rfl⟩
                    go_wp2_with fail
                    refine (CC.out _ HGX.out).mono ?_
                    rintro e w2 ⟨rfl, hb⟩
                    have r1 := R1.out.below hb
                    replace HA := Lib.hid (bt HA.out hb)
                    obtain ⟨p0, p1, p2, p3, p4, p5, p6, p7, p8, p9⟩ := r1.ten
                    have pf := r1.fz
                    go_wp2_with fail
                    go_meet
                    exact ⟨rfl, rfl, rfl, rfl, (ret10 r1 rfl HA.out (Nat.le_refl _) _ _ _ _ _ _ _ _ _ _).1, (ret10 r1 rfl HA.out (Nat.le_refl _) _ _ _ _ _ _ _ _ _ _).2⟩
                  · have e36 := byte_no h36
                    cases hl : isL c with
                    | true =>
                      have hl2 : lettS.data.toList.contains c = true := hl
                      rw [hl2] at CL
                      have cc := fun w hg => lexWord_any r w hzr hg
                      rw [HL.out, ← one_word (D := D) (X := X) hdg h34 h39 (Or.inr hl), ho] at cc
                      have CC : Hid (∀ w, Glob w → Calls Tryz.prog 48 #[.string r] w (Q (oneW o) w)) := cc
                      clear cc ho HL h34 h39 h36 h32 hdg hl hl2
                      go_wp2_with fail
                      refine (CD.out _).mono ?_
                      rintro e w1 ⟨rfl, rfl⟩
                      go_wp2_with fail
                      refine (CL.out _).mono ?_
                      rintro e w1 ⟨rfl, rfl⟩
                      go_wp2_with fail
                      refine (CC.out _ HGX.out).mono ?_
                      rintro e w2 ⟨rfl, hb⟩
                      have r1 := R1.out.below hb
                      replace HA := Lib.hid (bt HA.out hb)
                      obtain ⟨p0, p1, p2, p3, p4, p5, p6, p7, p8, p9⟩ := r1.ten
                      have pf := r1.fz
                      go_wp2_with fail
                      go_meet
                      exact ⟨rfl, rfl, rfl, rfl, (ret10 r1 rfl HA.out (Nat.le_refl _) _ _ _ _ _ _ _ _ _ _).1, (ret10 r1 rfl HA.out (Nat.le_refl _) _ _ _ _ _ _ _ _ _ _).2⟩
                    | false =>
                      have hl2 : lettS.data.toList.contains c = false := hl
                      rw [hl2] at CL
                      have cc := fun w => lexMark_any r c l w HL.out
                      rw [HL.out, ← one_mark (P := parseF) (D := D) (X := X) hdg h34 h39 h36 hl, ho] at cc
                      have CC : Hid (∀ w, Glob w → Calls Tryz.prog 49 #[.string r] w (Q (oneW o) w)) := fun w _ => cc w
                      clear cc ho HL h34 h39 h36 h32 hdg hl hl2
                      go_wp2_with fail
                      refine (CD.out _).mono ?_
                      rintro e w1 ⟨rfl, rfl⟩
                      go_wp2_with fail
                      refine (CL.out _).mono ?_
                      rintro e w1 ⟨rfl, rfl⟩
                      go_wp2_with fail
                      refine (CC.out _ HGX.out).mono ?_
                      rintro e w2 ⟨rfl, hb⟩
                      have r1 := R1.out.below hb
                      replace HA := Lib.hid (bt HA.out hb)
                      obtain ⟨p0, p1, p2, p3, p4, p5, p6, p7, p8, p9⟩ := r1.ten
                      have pf := r1.fz
                      go_wp2_with fail
                      go_meet
                      exact ⟨rfl, rfl, rfl, rfl, (ret10 r1 rfl HA.out (Nat.le_refl _) _ _ _ _ _ _ _ _ _ _).1, (ret10 r1 rfl HA.out (Nat.le_refl _) _ _ _ _ _ _ _ _ _ _).2⟩
          case rest =>
            obtain ⟨rfl, rfl, rfl, rfl, r1, hb⟩ := hcut
            replace HA := Lib.hid hb
            have R3 := Lib.hid r1
            clear r1 hb R1 CD
            have hre := oneM_fits parseF D X
            cases he : (o.2.2 == 0) with
            | false =>
              have hne : (oneM parseF D X (c :: l)).2.2 ≠ 0 := by rw [ho]; simpa using he
              have hq := (step_err acc _ l c k hcl h32 hne).symm.trans HQ.out
              rw [ho] at hq
              have HQ2 := Lib.hid hq
              have he2 : (o.2.2 != 0) = true := by simp [bne, he]
              clear hq hne hre ho HQ hcl h32 e32
              generalize o.2.2 = ek at *
              go_wp2_with fail
              try rw [Exit.noGoto_ret]
              exact bodyPost_ret (v := .tuple #[.slice none 0 0, .int .i64 (k : Int), .int .i64 ek]) (by simp [results, Tryz.results11, go_sem]) rfl (HR1.out k ek _ HQ2.out.symm (bt HB.out HA.out))
            | true =>
              have he0 : (oneM parseF D X (c :: l)).2.2 = 0 := by rw [ho]; simpa using he
              have hfit := hre c l he0
              have hq := (step_ok hre acc _ l c k hcl h32 he0).symm.trans HQ.out
              rw [ho] at hq hfit
              have hcz : (c :: l).length = s.size - k := by rw [← hcl, List.length_drop]; omega
              rw [hcz] at hfit
              have HQ2 := Lib.hid hq
              have HI := Lib.hid hfit
              have he2 : (o.2.2 != 0) = false := by simp [bne, he]
              clear hq he0 hre ho HQ hcl h32 e32 hfit hcz
              obtain ⟨⟨tk, ts, tc, te, tsh, tco, tro, tac, tar⟩, tn, ek⟩ := o
              have hnn := HI.out
              clear HOO
              obtain ⟨S, hS⟩ : ∃ S : ByteArray, (⟨ts.toArray⟩ : ByteArray) = S := ⟨_, rfl⟩
              obtain ⟨SH, hSH⟩ : ∃ S : ByteArray, (⟨tsh.toArray⟩ : ByteArray) = S := ⟨_, rfl⟩
              have r3 : At wc wr.heap.size [.int .i64 tk, .int .i64 0, .string S, .int .i64 tc, .int .i64 te, .string SH, .int .i64 tco, .int .i64 tro, .bool tac, .bool tar] := by
                rw [← hS, ← hSH]; exact R3.out
              have HC : Hid ((⟨tk, ts, tc, te, tsh, tco, tro, tac, tar⟩ : Tok).cells (k : Int) = [.int .i64 tk, .int .i64 (k : Int), .string S, .int .i64 tc, .int .i64 te, .string SH, .int .i64 tco, .int .i64 tro, .bool tac, .bool tar]) := by
                show _ = _
                rw [← hS, ← hSH]; rfl
              obtain ⟨p0, p1, p2, p3, p4, p5, p6, p7, p8, p9⟩ := r3.ten
              have pf := r3.fz
              have R4 := Lib.hid (r3.set 1 (by simp) (.int .i64 (k : Int)))
              clear r3 R3 hS hSH
              go_upto_region 26 with (fail)
              go_cut [8] (fun v8 wx => v8 = .pointer (some ⟨wr.heap.size, 0, none⟩) ∧ At wx wr.heap.size [.int .i64 tk, .int .i64 (k : Int), .string S, .int .i64 tc, .int .i64 te, .string SH, .int .i64 tco, .int .i64 tro, .bool tac, .bool tar] ∧ Below wr.heap.size wr wx)
              case first =>
                go_wp2_with fail
                go_meet
                exact ⟨rfl, R4.out, HA.out.setCell (p := ⟨wr.heap.size, 1, none⟩) (Nat.le_refl _) _⟩
              case rest =>
                obtain ⟨rfl, r3, hb⟩ := hcut
                replace HA := Lib.hid hb
                clear hb p0 p1 p2 p3 p4 p5 p6 p7 p8 p9 pf R4
                obtain ⟨p0, p1, p2, p3, p4, p5, p6, p7, p8, p9⟩ := r3.ten
                have pf := r3.fz
                clear r3
                obtain ⟨i0, hi, hz0, hz1, hz2⟩ := info_parts tokInfo
                have HOW := Lib.hid (owns_below HO.out HA.out)
                have hzs : w.heap.size ≤ wc.heap.size := Nat.le_trans HB.out.size HA.out.size
                go_wp2_with (at_builtin; refine wpList_append_own _ rfl _ _ 22 rfl w.heap.size 34 i0 (.agg zero10) 10 88 Tryz.underlying22 hi hz0 hz1 hz2 rfl (by decide) _ _ _ rfl (HOW.out.alloc _) ⟨wc.heap.size, 0, none⟩ 1 1 [.int .i64 tk, .int .i64 (k : Int), .string S, .int .i64 tc, .int .i64 te, .string SH, .int .i64 tco, .int .i64 tro, .bool tac, .bool tar] rfl rfl ?c1 ?c2 ?c3 ?c4 ?c5 ?_)
                case c2 => exact ⟨rfl, rfl, rfl, rfl, rfl, rfl, rfl, rfl, rfl, rfl⟩
                case c3 => unfold maxLen; omega
                case c4 => omega
                case c5 => omega
                · intro v' w1 hown' hgrow _
                  have hal : Below wc.heap.size wc (wc.alloc (.cells #[.int .i64 tk, .int .i64 (k : Int), .string S, .int .i64 tc, .int .i64 te, .string SH, .int .i64 tco, .int .i64 tro, .bool tac, .bool tar] 34)) := (Below.refl _ _).alloc (Nat.le_refl _) _
                  have HB4 := Lib.hid (below_grown (bt (bt HB.out HA.out) hal) (HOW.out.alloc _) (Nat.le_refl _) hgrow)
                  have HO4 : Hid (w1.ownsRow w.heap.size 34 10 v' (acc ++ [(k, (⟨tk, ts, tc, te, tsh, tco, tro, tac, tar⟩ : Tok))]).length (cellsT (acc ++ [(k, (⟨tk, ts, tc, te, tsh, tco, tro, tac, tar⟩ : Tok))]))) := by
                    show World.ownsRow _ _ _ _ _ _ _
                    rw [cellsT_snoc, HC.out, List.length_append]
                    exact hown'
                  clear hal hown' hgrow HOW p0 p1 p2 p3 p4 p5 p6 p7 p8 p9 pf hi hz0 hz1 hz2
                  go_wp2_with fail
                  go_roundg g'
                  case measure => omega
                  case rel => exact ⟨k + tn, acc ++ [(k, ⟨tk, ts, tc, te, tsh, tco, tro, tac, tar⟩)], by go_num, by omega, by omega, by rw [List.length_append, List.length_singleton]; omega, HO4, HB4.out, HQ2⟩
    · have hk2 : k = s.size := by omega
      have hq : lexA (oneM parseF D X) s.data.toList = .ok acc := by
        rw [← HQ.out, List.drop_eq_nil_of_le (by omega), show s.data.toList.length - k = 0 by omega, lexM, contL, List.append_nil]
      have HQ2 := Lib.hid hq
      clear hq hk2 HQ
      go_wp2_with fail
      try rw [Exit.noGoto_ret]
      exact bodyPost_ret (v := .tuple #[u5, .int .i64 0, .int .i64 0]) (by simp [results, Tryz.results11, go_sem]) rfl (HR2.out acc _ _ HQ2.out HO.out HB.out)
end Go.Proofs.YtfkiomjplpbmiaaGreatDoor

/- The chapter's examples, in plain words: what the three texts of quirelaw11.alive are. No program in sight. -/
namespace Go.Proofs.YtfkiomjplpbmiaaGreatDoor
open Go.RowKit Go.Lib

theorem lex_step {one : List UInt8 → One} {f k n : Nat} {c : UInt8} {l : List UInt8} {t : Tok} {r : Except (Nat × Int) (List (Nat × Tok))} (hc : c ≠ 32) (h : one (c :: l) = (t, n, 0)) (hr : lexM one f (k + n) ((c :: l).drop n) = r) :
    lexM one (f + 1) k (c :: l) = contL [(k, t)] r := by
  rw [lexM, if_neg hc, h, if_neg (fun e => e rfl)]
  dsimp only
  rw [hr]
  cases r <;> rfl
theorem lex_skip {one : List UInt8 → One} {f k : Nat} {l : List UInt8} {r : Except (Nat × Int) (List (Nat × Tok))} (hr : lexM one f (k + 1) l = r) : lexM one (f + 1) k (32 :: l) = r := by
  rw [lexM, if_pos rfl, hr]
theorem lex_fail {one : List UInt8 → One} {f k n : Nat} {c : UInt8} {l : List UInt8} {t : Tok} {e : Int} (hc : c ≠ 32) (h : one (c :: l) = (t, n, e)) (he : e ≠ 0) : lexM one (f + 1) k (c :: l) = .error (k, e) := by
  rw [lexM, if_neg hc, h, if_pos he]
theorem lex_end {one : List UInt8 → One} {f k : Nat} : lexM one f k [] = .ok [] := by cases f <;> rw [lexM]

variable {D : FD} {X : FX}
theorem mark_one {c : UInt8} {l : List UInt8} {o : One} (h1 : Pl.digit c = false) (h2 : c ≠ 34) (h3 : c ≠ 39) (h4 : c ≠ 36) (h5 : isL c = false) (h : markOne (c :: l) = o) : oneM parseF D X (c :: l) = o := by
  unfold oneM
  rw [List.headD_cons, if_neg (by rw [h1]; decide), if_neg h2, if_neg h3, if_neg (by rintro (h | h); exact h4 h; rw [h5] at h; cases h), h]
theorem word_one {c : UInt8} {l : List UInt8} {o : One} (h1 : Pl.digit c = false) (h2 : c ≠ 34) (h3 : c ≠ 39) (h5 : isL c = true) (h : wordOne parseF (c :: l) = o) : oneM parseF D X (c :: l) = o := by
  unfold oneM
  rw [List.headD_cons, if_neg (by rw [h1]; decide), if_neg h2, if_neg h3, if_pos (Or.inr h5), h]

def ex1 : List UInt8 := [83, 85, 77, 40, 65, 49, 58, 66, 50, 41, 42, 49, 46, 53, 37]
def ex2 : List UInt8 := [39, 97, 32, 98, 39, 33, 65, 49, 32, 34, 120, 34, 34, 121, 34]
def ex3 : List UInt8 := [76, 79, 71, 49, 48]
def noR : List UInt8 × Int × Int × Bool × Bool := ([], 0, 0, false, false)

theorem ex1_lex (hD : D [49, 46, 53] = (0, 15, -1)) : lexA (oneM parseF D X) ex1 = .ok [(0, ⟨4, [83, 85, 77], 0, 0, noR⟩), (3, ⟨5, [40], 0, 0, noR⟩), (4, ⟨3, [], 0, 0, ([], 1, 1, false, false)⟩), (6, ⟨5, [58], 0, 0, noR⟩), (7, ⟨3, [], 0, 0, ([], 2, 2, false, false)⟩), (9, ⟨5, [41], 0, 0, noR⟩), (10, ⟨5, [42], 0, 0, noR⟩), (11, ⟨1, [], 15, -1, noR⟩), (14, ⟨5, [37], 0, 0, noR⟩)] := by
  have w0 : oneM parseF D X ex1 = (⟨4, [83, 85, 77], 0, 0, noR⟩, 3, 0) := word_one (by decide) (by decide) (by decide) (by decide) (by kernel_rfl)
  have w1 : oneM parseF D X (ex1.drop 3) = (⟨5, [40], 0, 0, noR⟩, 1, 0) := mark_one (by decide) (by decide) (by decide) (by decide) (by decide) (by kernel_rfl)
  have w2 : oneM parseF D X (ex1.drop 4) = (⟨3, [], 0, 0, ([], 1, 1, false, false)⟩, 2, 0) := word_one (by decide) (by decide) (by decide) (by decide) (by kernel_rfl)
  have w3 : oneM parseF D X (ex1.drop 6) = (⟨5, [58], 0, 0, noR⟩, 1, 0) := mark_one (by decide) (by decide) (by decide) (by decide) (by decide) (by kernel_rfl)
  have w4 : oneM parseF D X (ex1.drop 7) = (⟨3, [], 0, 0, ([], 2, 2, false, false)⟩, 2, 0) := word_one (by decide) (by decide) (by decide) (by decide) (by kernel_rfl)
  have w5 : oneM parseF D X (ex1.drop 9) = (⟨5, [41], 0, 0, noR⟩, 1, 0) := mark_one (by decide) (by decide) (by decide) (by decide) (by decide) (by kernel_rfl)
  have w6 : oneM parseF D X (ex1.drop 10) = (⟨5, [42], 0, 0, noR⟩, 1, 0) := mark_one (by decide) (by decide) (by decide) (by decide) (by decide) (by kernel_rfl)
  have w7 : oneM parseF D X (ex1.drop 11) = (⟨1, [], 15, -1, noR⟩, 3, 0) := by
    have h : oneM parseF D X (ex1.drop 11) = (⟨1, [], (D [49, 46, 53]).2.1, (D [49, 46, 53]).2.2, noR⟩, 3, (D [49, 46, 53]).1) := by kernel_rfl
    rw [h, hD]
  have w8 : oneM parseF D X (ex1.drop 14) = (⟨5, [37], 0, 0, noR⟩, 1, 0) := mark_one (by decide) (by decide) (by decide) (by decide) (by decide) (by kernel_rfl)
  refine (lex_step (by decide) w0 (lex_step (by decide) w1 (lex_step (by decide) w2 (lex_step (by decide) w3 (lex_step (by decide) w4 (lex_step (by decide) w5 (lex_step (by decide) w6 (lex_step (by decide) w7 (lex_step (by decide) w8 lex_end))))))))).trans rfl

theorem ex3_lex : lexA (oneM parseF D X) ex3 = .error (0, 41) := by
  have w0 : oneM parseF D X ex3 = (⟨3, [], 0, 0, noR⟩, 5, 41) := word_one (by decide) (by decide) (by decide) (by decide) (by kernel_rfl)
  exact lex_fail (by decide) w0 (by decide)

theorem ex2_lex (hX : X [120, 34, 121] = 0) : lexA (oneM parseF D X) ex2 = .ok [(0, ⟨3, [], 0, 0, ([97, 32, 98], 1, 1, false, false)⟩), (9, ⟨2, [120, 34, 121], 0, 0, noR⟩)] := by
  have q1 : quotedM 39 [] (ex2.drop 1) = some ([97, 32, 98], ex2.drop 5) := by simp [quotedM, ex2]
  have q2 : quotedM 34 [] (ex2.drop 10) = some ([120, 34, 121], []) := by simp [quotedM, ex2]
  have p1 : parseF [39, 97, 32, 98, 39, 33, 65, 49] = (0, [97, 32, 98], 1, 1, false, false) := by
    have s1 : quoted [97, 32, 98, 39, 33, 65, 49] = some ([97, 32, 98], [33, 65, 49]) := by simp [quoted, quotedL]
    have s2 : sheetF [39, 97, 32, 98, 39, 33, 65, 49] = ([97, 32, 98], [65, 49], true) := by
      unfold sheetF
      rw [if_pos (by rfl : ([39, 97, 32, 98, 39, 33, 65, 49] : List UInt8).head? = some 39), List.tail_cons, s1]
      kernel_rfl
    unfold parseF
    rw [s2]
    show parseG ([97, 32, 98], [65, 49], true) (cellF [65, 49]) = _
    kernel_rfl
  have w0 : oneM parseF D X ex2 = (⟨3, [], 0, 0, ([97, 32, 98], 1, 1, false, false)⟩, 8, 0) := by
    show oneM parseF D X (39 :: ex2.drop 1) = _
    rw [one_sheet (by decide) (by decide) rfl]
    unfold sheetOne
    rw [show (39 :: ex2.drop 1).drop 1 = ex2.drop 1 from rfl, q1]
    dsimp only
    rw [if_pos (by decide)]
    unfold refOne
    rw [show (39 :: ex2.drop 1).take (afterN (39 :: ex2.drop 1) ((39 :: ex2.drop 1).length - (ex2.drop 5).length)) = [39, 97, 32, 98, 39, 33, 65, 49] from by kernel_rfl, p1]
    kernel_rfl
  have w1 : oneM parseF D X (ex2.drop 9) = (⟨2, [120, 34, 121], 0, 0, noR⟩, 6, 0) := by
    show oneM parseF D X (34 :: ex2.drop 10) = _
    rw [one_text (by decide) rfl]
    unfold textOne
    rw [show (34 :: ex2.drop 10).drop 1 = ex2.drop 10 from rfl, q2]
    dsimp only
    rw [if_neg (by decide), hX]
    kernel_rfl
  refine (lex_step (by decide) w0 (lex_skip (lex_step (by decide) w1 lex_end))).trans rfl
end Go.Proofs.YtfkiomjplpbmiaaGreatDoor

