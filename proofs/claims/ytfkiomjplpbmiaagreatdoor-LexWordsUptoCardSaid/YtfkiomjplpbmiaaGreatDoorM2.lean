/- Contracts of package lex: cutLeft, run. -/
import Derived.Test.YtfkiomjplpbmiaaGreatDoorM1
import Derived.Deep.DeepCutAuto
namespace Go.Proofs.YtfkiomjplpbmiaaGreatDoor
open Go.RowKit Go.Lib

set_option maxHeartbeats 4000000 in
theorem lexCut_any (s t : ByteArray) (w : World) (ht : ∀ j, (h : j < t.size) → (t[j]'h).toNat < 128) :
    Calls Tryz.prog 124 #[.string s, .string t] w (Q (.string ⟨(s.data.toList.dropWhile (t.data.toList.contains ·)).toArray⟩) w) := by
  have HT := Lib.hid ht
  clear ht
  have hd : ∀ k, k ≤ s.data.toList.length → (∀ j, (h : j < s.data.toList.length) → j < k → t.data.toList.contains s.data.toList[j] = true) → (∀ h : k < s.data.toList.length, t.data.toList.contains s.data.toList[k] = false) → s.data.toList.dropWhile (t.data.toList.contains ·) = s.data.toList.drop k :=
    dropWhile_at (t.data.toList.contains ·) s.data.toList
  have HD := Lib.hid hd
  clear hd
  generalize s.data.toList.dropWhile (t.data.toList.contains ·) = R at HD ⊢
  go_enter Tryz.func124, Tryz.ntmps124
  go_wp2
  go_loopg [] s.size (fun gf wx => ∃ pos : Nat, wx.heap[w.heap.size]? = some (.stringIter s pos) ∧ Below w.heap.size w wx ∧ pos ≤ s.size ∧ s.size ≤ pos + gf ∧ Hid (∀ j, (h : j < s.data.toList.length) → j < pos → t.data.toList.contains s.data.toList[j] = true))
  case atStart => exact ⟨0, World.iter_heap w s 0, (Below.refl _ w).alloc (Nat.le_refl _) _, Nat.zero_le _, by omega, fun j _ h => absurd h (Nat.not_lt_zero _)⟩
  case round =>
    obtain ⟨pos, hit, hbw, hps, hfu, HJ⟩ := hrel
    by_cases hlt : pos < s.size
    · obtain ⟨g', rfl⟩ : ∃ g', gk = g' + 1 := ⟨gk - 1, by omega⟩
      obtain ⟨r, hr⟩ : ∃ r, (Utf8.decode s pos).1 = r := ⟨_, rfl⟩
      obtain ⟨K, hK⟩ : ∃ K, (Utf8.decode s pos).2 = K := ⟨_, rfl⟩
      have hnx : ∀ ty, (Instr.next (.pointer (some ⟨w.heap.size, 0, none⟩)) true ty).run Tryz.prog wr = _ := fun ty => Lib.run_next_any_at wr w.heap.size s pos ty hit hlt
      rw [hr, hK] at hnx
      have hit2 := Lib.iterAt_heap wr w.heap.size s pos (pos + K) hit
      have hbw2 := Lib.below_iterAt hbw (k := w.heap.size) (Nat.le_refl _) s (pos + K)
      obtain ⟨W, hWd⟩ : ∃ W, wr.iterAt w.heap.size s (pos + K) = W := ⟨_, rfl⟩
      rw [hWd] at hnx hit2 hbw2
      clear hWd hit hbw
      go_wp2
      clear hnx
      go_loopg [7] t.size (fun gf inn wx => ∃ (p : Nat) (b : Bool), wx.heap[W.heap.size]? = some (.stringIter t p) ∧ Below W.heap.size W wx ∧ p ≤ t.size ∧ t.size ≤ p + gf ∧ inn = .bool b ∧ Hid (b = hasN t p r))
      case atStart => exact ⟨0, false, World.iter_heap W t 0, (Below.refl _ W).alloc (Nat.le_refl _) _, Nat.zero_le _, by omega, rfl, by show false = _; simp [hasN]⟩
      case round =>
        obtain ⟨p, b, hit3, hbw3, hps3, hfu3, rfl, hb⟩ := hrel
        by_cases hlt3 : p < t.size
        · obtain ⟨k', rfl⟩ : ∃ k', gk = k' + 1 := ⟨gk - 1, by omega⟩
          have hnx : ∀ ty, (Instr.next (.pointer (some ⟨W.heap.size, 0, none⟩)) true ty).run Tryz.prog wr = _ := fun ty => Lib.run_next_ascii_at wr W.heap.size t p ty hit3 hlt3 (HT.out p hlt3)
          have hit4 := Lib.iterAt_heap wr W.heap.size t p (p + 1) hit3
          have hbw4 := Lib.below_iterAt hbw3 (k := W.heap.size) (Nat.le_refl _) t (p + 1)
          obtain ⟨W4, hW4⟩ : ∃ W4, wr.iterAt W.heap.size t (p + 1) = W4 := ⟨_, rfl⟩
          rw [hW4] at hnx hit4 hbw4
          clear hW4 hit3 hbw3
          have hsucc : hasN t (p + 1) r = (b || (t[p]'hlt3).toNat == r) := by rw [hasN_succ t p r hlt3, ← hb.out]
          have HS := Lib.hid hsucc
          clear hsucc
          generalize (t[p]'hlt3).toNat = q at hnx HS
          cases b with
          | true =>
            go_wp2
            go_roundg k'
            case measure => omega
            case rel => exact ⟨p + 1, true, hit4, hbw4, by omega, by omega, rfl, by show true = _; rw [HS.out]; rfl⟩
          | false =>
            by_cases hq : q = r
            · have hq1 : (((r : Nat) : Int) == (q : Int)) = true := by rw [hq]; simp
              have HS2 : Hid (true = hasN t (p + 1) r) := by show true = _; rw [HS.out, hq]; simp
              clear HS hq
              go_wp2
              go_roundg k'
              case measure => omega
              case rel => exact ⟨p + 1, true, hit4, hbw4, by omega, by omega, rfl, HS2⟩
            · have hq1 : (((r : Nat) : Int) == (q : Int)) = false := by rw [beq_eq_false_iff_ne]; omega
              have HS2 : Hid (false = hasN t (p + 1) r) := by show false = _; rw [HS.out]; simp [hq]
              clear HS hq
              go_wp2
              go_roundg k'
              case measure => omega
              case rel => exact ⟨p + 1, false, hit4, hbw4, by omega, by omega, rfl, HS2⟩
        · have hnx : ∀ ty, (Instr.next (.pointer (some ⟨W.heap.size, 0, none⟩)) true ty).run Tryz.prog wr = _ := fun ty => Lib.run_next_end_at wr W.heap.size t p ty hit3 hlt3
          have hall : Hid (b = t.data.toList.any fun c => c.toNat == r) := by
            have : p = t.size := by omega
            show b = _
            rw [hb.out, this, hasN_all]
          have hbw5 : Below w.heap.size w wr := hbw2.trans (hbw3.mono hbw2.size)
          have hit5 : wr.heap[w.heap.size]? = some (.stringIter s (pos + K)) := (hbw3.block w.heap.size (Array.getElem?_eq_some_iff.1 hit2).1).trans hit2
          clear hit3 hbw3 hb
          cases b with
          | true =>
            have hasc : (s[pos]'hlt).toNat < 128 := by
              rcases Nat.lt_or_ge (s[pos]'hlt).toNat 128 with h | h
              · exact h
              · exfalso
                have h1 := (decode_high s pos hlt h).1
                obtain ⟨c, hc, hcr⟩ := List.any_eq_true.1 hall.out.symm
                obtain ⟨j, hj, rfl⟩ := List.getElem_of_mem hc
                have h2 := HT.out j hj
                have h3 : (t[j]'hj).toNat = r := beq_iff_eq.1 hcr
                omega
            have hdec := decode_ascii s pos hlt hasc
            have h1 : (s[pos]'hlt).toNat = r := by rw [← hr, hdec]
            have h2 : K = 1 := by rw [← hK, hdec]
            subst h2
            have HJ2 : Hid (∀ j, (h : j < s.data.toList.length) → j < pos + 1 → t.data.toList.contains s.data.toList[j] = true) := fun j hj hj2 => by
              rcases Nat.lt_or_ge j pos with h | h
              · exact HJ.out j hj h
              · obtain rfl : j = pos := by omega
                rw [← has_contains, show (s.data.toList[j]).toNat = r from h1]; exact hall.out.symm
            clear hr hK hdec h1 hasc hall HJ
            go_wp2
            go_roundg g'
            case measure => omega
            case rel => exact ⟨pos + 1, hit5, hbw5, by omega, by omega, HJ2⟩
          | false =>
            have hno : t.data.toList.contains (s.data.toList[pos]'hlt) = false := by
              rw [← has_contains]
              rcases Nat.lt_or_ge (s[pos]'hlt).toNat 128 with h | h
              · have hdec := decode_ascii s pos hlt h
                have h1 : (s.data.toList[pos]'hlt).toNat = r := by rw [← hr, hdec]; rfl
                rw [h1]; exact hall.out.symm
              · cases hc : t.data.toList.any fun c => c.toNat == (s.data.toList[pos]'hlt).toNat with
                | false => rfl
                | true =>
                  exfalso
                  obtain ⟨c, hc, hcr⟩ := List.any_eq_true.1 hc
                  obtain ⟨j, hj, rfl⟩ := List.getElem_of_mem hc
                  have h2 := HT.out j hj
                  have h3 : (t[j]'hj).toNat = (s[pos]'hlt).toNat := beq_iff_eq.1 hcr
                  omega
            have hR : Hid (R = s.data.toList.drop pos) := HD.out pos (by show pos ≤ s.size; omega) HJ.out (fun _ => hno)
            have hext : (s.extract pos s.size) = ⟨(s.data.toList.drop pos).toArray⟩ := by
              apply ByteArray.ext
              rw [← Array.toList_inj, Lib.extract_to_end]
            have HX := Lib.hid hext
            clear hext hno hall HJ HD hr hK
            go_wp2
            go_ret
            exact ⟨by rw [hR.out, ← HX.out]; rfl, hbw5⟩
    · have hnx : ∀ ty, (Instr.next (.pointer (some ⟨w.heap.size, 0, none⟩)) true ty).run Tryz.prog wr = _ := fun ty => Lib.run_next_end_at wr w.heap.size s pos ty hit hlt
      have hR : Hid (R = []) := by
        show R = []
        have hp : pos = s.data.toList.length := by show pos = s.size; omega
        rw [HD.out pos (by omega) HJ.out (fun h => absurd h (by omega))]
        exact List.drop_eq_nil_of_le (by omega)
      clear HD HJ
      go_wp2
      go_ret
      exact ⟨by rw [hR.out]; rfl, hbw⟩


theorem bt {w X Y : World} (h : Below w.heap.size w X) (k : Below X.heap.size X Y) : Below w.heap.size w Y := h.trans (k.mono h.size)
/-- How many of a text's first bytes stand in a list of bytes. -/
def runN (p : UInt8 → Bool) (l : List UInt8) : Nat := (l.takeWhile p).length
theorem runN_le (p : UInt8 → Bool) (l : List UInt8) : runN p l ≤ l.length := takeWhile_le p l
theorem run_any (s t : ByteArray) (w : World) (hs : s.size ≤ 9223372036854775807) (ht : ∀ j, (h : j < t.size) → (t[j]'h).toNat < 128) :
    Calls Tryz.prog 76 #[.string s, .string t] w (Q (.int .i64 (runN (t.data.toList.contains ·) s.data.toList)) w) := by
  have h := lexCut_any s t
  have hl : (runN (t.data.toList.contains ·) s.data.toList : Int) = (s.size : Int) - ((⟨(s.data.toList.dropWhile (t.data.toList.contains ·)).toArray⟩ : ByteArray).size : Int) := by
    have e0 : (⟨(s.data.toList.dropWhile (t.data.toList.contains ·)).toArray⟩ : ByteArray).size = (s.data.toList.dropWhile (t.data.toList.contains ·)).length := size_mk _
    have e2 : s.data.toList.length = s.size := rfl
    unfold runN
    have e := List.takeWhile_append_dropWhile (p := (t.data.toList.contains ·)) (l := s.data.toList)
    have e3 := congrArg List.length e
    rw [List.length_append] at e3
    omega
  have hd : (⟨(s.data.toList.dropWhile (t.data.toList.contains ·)).toArray⟩ : ByteArray).size ≤ s.size := by
    rw [size_mk]
    exact dropWhile_le _ s.data.toList
  rw [hl]
  have C := Lib.hid (fun w => h w ht)
  generalize (⟨(s.data.toList.dropWhile (t.data.toList.contains ·)).toArray⟩ : ByteArray) = r at *
  clear hl h
  have HT := Lib.hid ht
  clear ht
  go_enter Tryz.func76, Tryz.ntmps76
  go_wp2_with fail
  refine (C.out _).mono ?_
  rintro e w1 ⟨rfl, hb⟩
  go_wp2_with fail
  go_ret
  exact ⟨rfl, hb⟩
end Go.Proofs.YtfkiomjplpbmiaaGreatDoor

/- Contracts of package lex: number. -/
namespace Go.Proofs.YtfkiomjplpbmiaaGreatDoor
open Go.RowKit Go.Lib

abbrev digS : ByteArray := ⟨#[48, 49, 50, 51, 52, 53, 54, 55, 56, 57]⟩
theorem runD_any (s : ByteArray) (w : World) (hs : s.size ≤ 9223372036854775807) :
    Calls Tryz.prog 76 #[.string s, .string ⟨#[48, 49, 50, 51, 52, 53, 54, 55, 56, 57]⟩] w (Q (.int .i64 (runN Pl.digit s.data.toList)) w) := by
  have h := run_any s digS w hs (ascii_all _ (by decide +kernel))
  rw [digs_contains] at h
  exact h

/-- Behind the whole digits: where a number's part ends. -/
def numP (l : List UInt8) : Nat :=
  if (l.drop (runN Pl.digit l)).head? = some 46 ∧ 0 < runN Pl.digit (l.drop (runN Pl.digit l + 1)) then runN Pl.digit l + 1 + runN Pl.digit (l.drop (runN Pl.digit l + 1)) else runN Pl.digit l
/-- A sign may stand behind an e. -/
def signN (l : List UInt8) : Nat := if (l.drop 1).head? = some 43 ∨ (l.drop 1).head? = some 45 then 2 else 1
def expN (l : List UInt8) : Nat := if (l.head? = some 101 ∨ l.head? = some 69) ∧ 0 < runN Pl.digit (l.drop (signN l)) then signN l + runN Pl.digit (l.drop (signN l)) else 0
def numN (l : List UInt8) : Nat := numP l + expN (l.drop (numP l))
end Go.Proofs.YtfkiomjplpbmiaaGreatDoor

/- lex.number's walk. -/
namespace Go.Proofs.YtfkiomjplpbmiaaGreatDoor
open Go.RowKit Go.Lib

theorem ext_drop (s : ByteArray) (n : Nat) : (s.extract n s.size).data.toList = s.data.toList.drop n := Lib.extract_to_end s n
theorem ext_le (s : ByteArray) (n : Nat) : (s.extract n s.size).size ≤ s.size := by rw [ByteArray.size_extract]; omega

set_option maxRecDepth 100000 in
set_option maxHeartbeats 8000000 in
theorem number_core (s : ByteArray) (w : World) (hs : s.size ≤ 512) (n d1 d2 : Nat) (dot : Bool) (h1 : n ≤ s.size)
    (C1 : Hid (∀ w, Calls Tryz.prog 76 #[.string s, .string ⟨#[48, 49, 50, 51, 52, 53, 54, 55, 56, 57]⟩] w (Q (.int .i64 n) w)))
    (C2 : Hid (∀ w, Calls Tryz.prog 77 #[.string (s.extract n s.size), .string ⟨#[46]⟩] w fun e w' => e = .returned (.bool dot) ∧ w = w'))
    (hdot : dot = true → n + 1 + d1 ≤ s.size)
    (C3 : Hid (∀ w, Calls Tryz.prog 76 #[.string (s.extract (n + 1) s.size), .string ⟨#[48, 49, 50, 51, 52, 53, 54, 55, 56, 57]⟩] w (Q (.int .i64 d1) w)))
    (b1 : Bool) (hb1 : b1 = (dot && decide (0 < d1))) (np : Nat) (hnp0 : b1 = false → np = n) (hnp1 : b1 = true → np = n + 1 + d1) (r : ByteArray) (hr : r = s.extract np s.size) (hnp : np ≤ s.size) (isE : Bool) (hE0 : r.size = 0 → isE = false) (hE1 : ∀ h : 0 < r.size, (bits .or .u8 ((r[0]'h).toNat : Int) 32 != 101) = !isE)
    (sg : Bool) (hS0 : r.size ≤ 1 → sg = false) (hS1 : ∀ h : 1 < r.size, sg = (((r[1]'h).toNat : Int) == 43 || ((r[1]'h).toNat : Int) == 45)) (k : Nat) (hk : k = if sg then 2 else 1)
    (C4 : Hid (∀ w, Calls Tryz.prog 76 #[.string (r.extract k r.size), .string ⟨#[48, 49, 50, 51, 52, 53, 54, 55, 56, 57]⟩] w (Q (.int .i64 d2) w))) (hd2 : d2 ≤ 512)
    (V : Value) (hV : V = .int .i64 (if isE = true ∧ 0 < d2 then ((np + k + d2 : Nat) : Int) else (np : Int))) :
    Calls Tryz.prog 44 #[.string s] w (Q V w) := by
  have hdot2 : b1 = true → n + 1 + d1 ≤ s.size := fun h => hdot (by rw [hb1] at h; revert h; cases dot <;> simp)
  have HB1 := Lib.hid hb1
  have hrs : r.size ≤ 512 := by rw [hr, ByteArray.size_extract]; omega
  have HR := Lib.hid hr
  have HV := Lib.hid hV
  have HK := Lib.hid hk
  have HE0 := Lib.hid hE0
  have HE1 := Lib.hid hE1
  have HS0 := Lib.hid hS0
  have HS1 := Lib.hid hS1
  have HP0 := Lib.hid hnp0
  have HP1 := Lib.hid hnp1
  have HD := Lib.hid hdot
  have HD2 := Lib.hid hdot2
  clear hb1 hr hV hk hE0 hE1 hS0 hS1 hnp0 hnp1 hdot hdot2
  go_enter Tryz.func44, Tryz.ntmps44
  go_wp2_with fail
  refine (C1.out _).mono ?_
  rintro e w1 ⟨rfl, hb⟩
  have HB := Lib.hid hb
  clear hb
  go_upto_region 2 with (fail)
  go_cut [20] (fun v20 wx => v20 = .bool b1 ∧ Below w.heap.size w wx)
  case first =>
    go_wp2_with fail
    refine (C2.out _).mono ?_
    rintro e w2 ⟨rfl, rfl⟩
    cases dot with
    | false =>
      go_wp2_with fail
      go_meet
      exact ⟨by rw [HB1.out]; rfl, HB.out⟩
    | true =>
      have hd := HD.out rfl
      go_wp2_with fail
      refine (C3.out _).mono ?_
      rintro e w2 ⟨rfl, hb⟩
      go_wp2_with fail
      go_meet
      exact ⟨by rw [HB1.out]; simp, bt HB.out hb⟩
  case rest =>
    obtain ⟨rfl, hb⟩ := hcut
    replace HB := Lib.hid hb
    clear hb
    go_upto_if 20 with (fail)
    go_cut [3] (fun v3 wx => v3 = .int .i64 (np : Int) ∧ Below w.heap.size w wx)
    case first =>
      cases b1 with
      | false =>
        have hn := HP0.out rfl
        have HN := Lib.hid hn
        clear hn
        go_wp2_with fail
        go_meet
        exact ⟨by rw [HN.out], HB.out⟩
      | true =>
        have hn := HP1.out rfl
        have hd := HD2.out rfl
        have HN := Lib.hid hn
        clear hn
        go_wp2_with fail
        refine (C3.out _).mono ?_
        rintro e w2 ⟨rfl, hb⟩
        have HB2 := Lib.hid (bt HB.out hb)
        clear hb
        go_wp2_with fail
        go_meet
        exact ⟨by rw [HN.out]; congr 1; omega, HB2.out⟩
    case rest =>
      obtain ⟨rfl, hb⟩ := hcut
      replace HB := Lib.hid hb
      clear hb
      go_upto_region 4 with (fail)
      go_cut [4] (fun v4 wx => v4 = .string r ∧ Below w.heap.size w wx)
      case first =>
        go_wp2_with fail
        go_meet
        exact ⟨by rw [HR.out], HB.out⟩
      case rest =>
        obtain ⟨rfl, hb⟩ := hcut
        replace HB := Lib.hid hb
        clear hb
        go_upto_region 5 with (fail)
        go_cut [39] (fun v39 wx => v39 = .bool (!isE) ∧ Below w.heap.size w wx)
        case first =>
          by_cases h0 : r.toList = []
          · have hz : r.size = 0 := by
              have h := toList_nil.1 h0
              show r.data.size = 0
              have h2 : r.data.toList.length = 0 := by rw [h]; rfl
              simpa using h2
            have hi := HE0.out hz
            have he : r.toList.isEmpty = true := by rw [h0]; rfl
            clear h0
            subst hi
            go_wp2_with fail
            go_meet
            exact ⟨rfl, HB.out⟩
          · obtain ⟨he, _, h1z⟩ := isEmpty_nil h0
            have hE := HE1.out h1z
            clear h0
            cases isE with
            | true =>
              have hE' : (bits .or .u8 ((r[0]'h1z).toNat : Int) 32 != 101) = false := hE
              have hE2 : (bits .or .u8 ((r[0]'h1z).toNat : Int) 32 == 101) = true := by simpa using hE'
              go_wp2_with fail
              go_meet
              exact ⟨rfl, HB.out⟩
            | false =>
              have hE' : (bits .or .u8 ((r[0]'h1z).toNat : Int) 32 != 101) = true := hE
              have hE2 : (bits .or .u8 ((r[0]'h1z).toNat : Int) 32 == 101) = false := by simpa using hE'
              go_wp2_with fail
              go_meet
              exact ⟨rfl, HB.out⟩
        case rest =>
          obtain ⟨rfl, hb⟩ := hcut
          replace HB := Lib.hid hb
          clear hb
          cases isE with
          | false =>
            have HV' : Hid (V = .int .i64 (np : Int)) := by show _ = _; rw [HV.out]; simp
            clear HV
            go_wp2_with fail
            go_ret
            exact ⟨by rw [HV'.out]; rfl, HB.out⟩
          | true =>
            have hz : 0 < r.size := by
              rcases Nat.eq_zero_or_pos r.size with h | h
              · have := HE0.out h; cases this
              · exact h
            have hkr : k ≤ r.size := by
              rw [HK.out]
              cases hsg : sg with
              | false => simp; omega
              | true =>
                rcases Nat.lt_or_ge 1 r.size with h | h
                · simp; omega
                · have := HS0.out h; rw [hsg] at this; cases this
            go_upto_region 8 with (fail)
            go_cut [56] (fun v56 wx => v56 = .bool sg ∧ Below w.heap.size w wx)
            case first =>
              by_cases h1z : 1 < r.size
              · have hs1 := HS1.out h1z
                cases e1 : (((r[1]'h1z).toNat : Int) == 43) with
                | true =>
                  rw [e1] at hs1
                  have hs1' : sg = true := hs1
                  subst hs1'
                  clear hs1
                  go_wp2_with fail
                  go_meet
                  exact ⟨rfl, HB.out⟩
                | false =>
                  rw [e1, Bool.false_or] at hs1
                  cases e2 : (((r[1]'h1z).toNat : Int) == 45) with
                  | true =>
                    rw [e2] at hs1
                    subst hs1
                    go_wp2_with fail
                    go_meet
                    exact ⟨rfl, HB.out⟩
                  | false =>
                    rw [e2] at hs1
                    subst hs1
                    go_wp2_with fail
                    go_meet
                    exact ⟨rfl, HB.out⟩
              · have hs1 := HS0.out (by omega)
                subst hs1
                have d1 : decide (1 < (r.size : Int)) = false := by rw [decide_eq_false_iff_not]; omega
                go_wp2_with fail
                go_meet
                exact ⟨rfl, HB.out⟩
            case rest =>
              obtain ⟨rfl, hb⟩ := hcut
              replace HB := Lib.hid hb
              clear hb
              go_upto_if 56 with (fail)
              go_cut [5] (fun v5 wx => v5 = .int .i64 (k : Int) ∧ Below w.heap.size w wx)
              case first =>
                cases sg with
                | true =>
                  go_wp2_with fail
                  go_meet
                  exact ⟨by rw [HK.out]; rfl, HB.out⟩
                | false =>
                  go_wp2_with fail
                  go_meet
                  exact ⟨by rw [HK.out]; rfl, HB.out⟩
              case rest =>
                obtain ⟨rfl, hb⟩ := hcut
                replace HB := Lib.hid hb
                clear hb
                go_wp2_with fail
                refine (C4.out _).mono ?_
                rintro e w2 ⟨rfl, hb⟩
                replace HB := Lib.hid (bt HB.out hb)
                clear hb
                by_cases hd0 : 0 < d2
                · have HV' : Hid (V = .int .i64 ((np + k + d2 : Nat) : Int)) := by show _ = _; rw [HV.out]; simp [hd0]
                  have dd : decide (0 < d2) = true := decide_eq_true hd0
                  clear HV
                  go_wp2_with fail
                  go_ret
                  exact ⟨by rw [HV'.out]; congr 2, HB.out⟩
                · have HV' : Hid (V = .int .i64 (np : Int)) := by show _ = _; rw [HV.out]; simp [hd0]
                  have dd : decide (0 < d2) = false := decide_eq_false hd0
                  clear HV
                  go_wp2_with fail
                  go_ret
                  exact ⟨by rw [HV'.out]; rfl, HB.out⟩
end Go.Proofs.YtfkiomjplpbmiaaGreatDoor

/- lex.number at every text. -/
namespace Go.Proofs.YtfkiomjplpbmiaaGreatDoor
open Go.RowKit Go.Lib

theorem or_e : ∀ b : UInt8, (bits .or .u8 (b.toNat : Int) 32 != 101) = !(b == 101 || b == 69) := by
  intro b
  have h : ∀ i : Fin 256, (bits .or .u8 ((UInt8.ofNat i.val).toNat : Int) 32 != 101) = !((UInt8.ofNat i.val) == 101 || (UInt8.ofNat i.val) == 69) := by decide +kernel
  have k := h ⟨b.toNat, b.toNat_lt⟩
  simpa using k
theorem eq_byte (b c : UInt8) : (((b.toNat : Nat) : Int) == ((c.toNat : Nat) : Int)) = (b == c) := by
  rw [Bool.eq_iff_iff]; simp only [beq_iff_eq]
  exact ⟨fun h => UInt8.toNat_inj.1 (by omega), fun h => by rw [h]⟩
theorem head_drop (s : ByteArray) (k : Nat) (h : k < s.size) : (s.data.toList.drop k).head? = some (s[k]'h) := by
  rw [List.head?_drop, List.getElem?_eq_getElem (show k < s.data.toList.length from h)]; rfl
theorem head_none (s : ByteArray) (k : Nat) (h : s.size ≤ k) : (s.data.toList.drop k).head? = none := by
  rw [List.head?_drop, List.getElem?_eq_none (show s.data.toList.length ≤ k from h)]

theorem number_any (s : ByteArray) (w : World) (hs : s.size ≤ 512) : Calls Tryz.prog 44 #[.string s] w (Q (.int .i64 (numN s.data.toList)) w) := by
  have hsz : s.data.toList.length = s.size := rfl
  have hn := runN_le Pl.digit s.data.toList
  have C1 := fun w => runD_any s w (by omega)
  have C2 := fun w => prefix_one (s.extract (runN Pl.digit s.data.toList) s.size) 46 w
  have C3 := fun w => runD_any (s.extract (runN Pl.digit s.data.toList + 1) s.size) w (by have := ext_le s (runN Pl.digit s.data.toList + 1); omega)
  rw [ext_drop] at C2 C3
  have hd1 := runN_le Pl.digit (s.data.toList.drop (runN Pl.digit s.data.toList + 1))
  rw [List.length_drop] at hd1
  have hdot : ((s.data.toList.drop (runN Pl.digit s.data.toList)).head? == some 46) = true → runN Pl.digit s.data.toList + 1 + runN Pl.digit (s.data.toList.drop (runN Pl.digit s.data.toList + 1)) ≤ s.size := by
    intro h
    rcases Nat.lt_or_ge (runN Pl.digit s.data.toList) s.size with h1 | h1
    · omega
    · rw [head_none s _ h1] at h; cases h
  have hnp : numP s.data.toList ≤ s.size := by
    unfold numP
    split
    · rename_i h; exact hdot (by simpa using h.1)
    · omega
  have hr := ext_drop s (numP s.data.toList)
  have hrs := ext_le s (numP s.data.toList)
  generalize hrr : s.extract (numP s.data.toList) s.size = r at *
  have hrl : r.data.toList.length = r.size := rfl
  have C4 := fun w => runD_any (r.extract (signN r.data.toList) r.size) w (by have := ext_le r (signN r.data.toList); omega)
  rw [ext_drop] at C4
  have hd2 := runN_le Pl.digit (r.data.toList.drop (signN r.data.toList))
  rw [List.length_drop] at hd2
  have hfin := number_core s w hs _ _ _ _ (by omega) (Lib.hid C1) (Lib.hid C2) hdot (Lib.hid C3) _ rfl (numP s.data.toList)
    (fun h => by
      unfold numP
      rw [if_neg]
      rintro ⟨h1, h2⟩
      rw [h1] at h; simp at h; omega)
    (fun h => by
      unfold numP
      rw [if_pos]
      simpa using h)
    r hrr.symm hnp (r.data.toList.head? == some 101 || r.data.toList.head? == some 69)
    (fun h => by rw [List.length_eq_zero_iff.1 (hrl.trans h)]; rfl)
    (fun h => by
      rw [or_e]
      have hh : r.data.toList.head? = some (r[0]'h) := by have := head_drop r 0 h; rwa [List.drop_zero] at this
      rw [hh]; rfl)
    (r.data.toList[1]? == some 43 || r.data.toList[1]? == some 45)
    (fun h => by rw [List.getElem?_eq_none (by omega)]; rfl)
    (fun h => by
      rw [List.getElem?_eq_getElem (show 1 < r.data.toList.length from h)]
      show ((r[1]'h == 43) || (r[1]'h == 45)) = _
      rw [← eq_byte, ← eq_byte]; rfl)
    (signN r.data.toList)
    (by unfold signN; rw [List.head?_drop]; simp)
    (Lib.hid C4) (by omega) _ rfl
  have e : (Value.int .i64 (if (r.data.toList.head? == some 101 || r.data.toList.head? == some 69) = true ∧ 0 < runN Pl.digit (r.data.toList.drop (signN r.data.toList)) then ((numP s.data.toList + signN r.data.toList + runN Pl.digit (r.data.toList.drop (signN r.data.toList)) : Nat) : Int) else (numP s.data.toList : Int))) = .int .i64 (numN s.data.toList) := by
    unfold numN expN
    rw [← hr]
    congr 1
    simp only [Bool.or_eq_true, beq_iff_eq]
    split <;> omega
  rw [e] at hfin
  exact hfin
end Go.Proofs.YtfkiomjplpbmiaaGreatDoor

/- What stands between two marks of one kind, in plain words. -/
namespace Go.Proofs.YtfkiomjplpbmiaaGreatDoor
open Go.RowKit Go.Lib

/-- What stands between two marks m, with two for one: its text, and what is behind; none: it does not end. -/
def quotedM (m : UInt8) (acc : List UInt8) : List UInt8 → Option (List UInt8 × List UInt8)
  | [] => none
  | c :: r => if c = m then (if r.head? = some m then quotedM m (acc ++ [m]) r.tail else some (acc, r)) else quotedM m (acc ++ [c]) r
termination_by l => l.length
decreasing_by
  · cases r <;> simp; omega
  · simp

theorem quotedM_no (m : UInt8) : ∀ (l acc : List UInt8), l.contains m = false → quotedM m acc l = none
  | [], acc, _ => by rw [quotedM]
  | c :: r, acc, h => by
    simp only [List.contains_cons, Bool.or_eq_false_iff, beq_eq_false_iff_ne] at h
    rw [quotedM, if_neg (fun e => h.1 e.symm)]
    exact quotedM_no m r _ h.2

theorem quotedM_yes (m : UInt8) : ∀ (l acc : List UInt8), l.contains m = true → quotedM m acc l =
    if (l.dropWhile (· != m)).tail.head? = some m then quotedM m (acc ++ l.takeWhile (· != m) ++ [m]) (l.dropWhile (· != m)).tail.tail else some (acc ++ l.takeWhile (· != m), (l.dropWhile (· != m)).tail)
  | [], acc, h => by simp at h
  | c :: r, acc, h => by
    by_cases hc : c = m
    · subst hc
      rw [quotedM, if_pos rfl]; simp
    · have hr : r.contains m = true := by
        simp only [List.contains_cons, Bool.or_eq_true, beq_iff_eq] at h
        exact h.resolve_left (fun e => hc e.symm)
      have hb : (c != m) = true := by simp [hc]
      rw [quotedM, if_neg hc, quotedM_yes m r _ hr]
      simp [hb]

theorem indexByte_tw (c : UInt8) : ∀ l : List UInt8, Lib.indexByte l c = if l.contains c then ((l.takeWhile (· != c)).length : Int) else -1
  | [] => rfl
  | b :: l => by
    have ih := indexByte_tw c l
    rw [Lib.indexByte, ih]
    by_cases h : b = c
    · subst h; simp
    · have e1 : (b == c) = false := by simp [h]
      have e2 : (b != c) = true := by simp [h]
      have e3 : (c == b) = false := by simp; exact fun e => h e.symm
      rw [e1, if_neg (by decide), List.contains_cons, e3, Bool.false_or, List.takeWhile_cons, e2]
      cases l.contains c with
      | false => rfl
      | true =>
        have : ¬ (((l.takeWhile (· != c)).length : Int) == -1) = true := by
          intro e; have := beq_iff_eq.1 e; omega
        simp only [if_true]
        rw [if_neg this]; simp
end Go.Proofs.YtfkiomjplpbmiaaGreatDoor

/- The tokens of a text, in plain words: what lex.Lex answers, over any answers of cells.Parse (P), dec.Parse (D) and utf.Xml (X). No program in sight. -/
namespace Go.Proofs.YtfkiomjplpbmiaaGreatDoor
open Go.RowKit Go.Lib

abbrev wordS : ByteArray := ⟨#[65, 66, 67, 68, 69, 70, 71, 72, 73, 74, 75, 76, 77, 78, 79, 80, 81, 82, 83, 84, 85, 86, 87, 88, 89, 90, 97, 98, 99, 100, 101, 102, 103, 104, 105, 106, 107, 108, 109, 110, 111, 112, 113, 114, 115, 116, 117, 118, 119, 120, 121, 122, 95, 48, 49, 50, 51, 52, 53, 54, 55, 56, 57, 46, 36]⟩
abbrev cellS : ByteArray := ⟨#[65, 66, 67, 68, 69, 70, 71, 72, 73, 74, 75, 76, 77, 78, 79, 80, 81, 82, 83, 84, 85, 86, 87, 88, 89, 90, 48, 49, 50, 51, 52, 53, 54, 55, 56, 57, 36]⟩
abbrev lettS : ByteArray := ⟨#[65, 66, 67, 68, 69, 70, 71, 72, 73, 74, 75, 76, 77, 78, 79, 80, 81, 82, 83, 84, 85, 86, 87, 88, 89, 90, 97, 98, 99, 100, 101, 102, 103, 104, 105, 106, 107, 108, 109, 110, 111, 112, 113, 114, 115, 116, 117, 118, 119, 120, 121, 122, 95]⟩
abbrev markS : ByteArray := ⟨#[60, 62, 61, 43, 45, 42, 47, 94, 38, 37, 40, 41, 44, 58]⟩
def isW (b : UInt8) : Bool := wordS.data.toList.contains b
def isC (b : UInt8) : Bool := cellS.data.toList.contains b
def isL (b : UInt8) : Bool := lettS.data.toList.contains b
def isM (b : UInt8) : Bool := markS.data.toList.contains b

/-- A token without its place. -/
structure Tok where
  kind : Int
  s : List UInt8
  c : Int
  e : Int
  r : List UInt8 × Int × Int × Bool × Bool
def tok0 : Tok := ⟨0, [], 0, 0, ([], 0, 0, false, false)⟩
abbrev One := Tok × Nat × Int
abbrev FP := List UInt8 → Int × List UInt8 × Int × Int × Bool × Bool
abbrev FD := List UInt8 → Int × Int × Int
abbrev FX := List UInt8 → Int

def refOne (P : FP) (l : List UInt8) (n : Nat) : One := (⟨3, [], 0, 0, (P (l.take n)).2⟩, n, (P (l.take n)).1)
def wordN (l : List UInt8) : Nat := runN isW l
def afterN (l : List UInt8) (n : Nat) : Nat := n + 1 + runN isC (l.drop (n + 1))
def wordOne (P : FP) (l : List UInt8) : One :=
  if ((l.drop (wordN l)).head? == some 33) = true ∧ ((l.take (wordN l)).any fun b => b == 36 || b == 46) = false then refOne P l (afterN l (wordN l))
  else if (P (l.take (wordN l))).1 ≠ 40 ∧ ((l.drop (wordN l)).head? == some 40) = false then refOne P l (wordN l)
  else if (l.take (wordN l)).contains 36 = true then (tok0, 0, 40)
  else (⟨4, l.take (wordN l), 0, 0, tok0.r⟩, wordN l, 0)
def sheetOne (P : FP) (l : List UInt8) : One :=
  match quotedM 39 [] (l.drop 1) with
  | none => (tok0, 0, 40)
  | some (_, r) => if (r.head? == some 33) = true then refOne P l (afterN l (l.length - r.length)) else (tok0, 0, 40)
def textOne (X : FX) (l : List UInt8) : One :=
  match quotedM 34 [] (l.drop 1) with
  | none => (tok0, 0, 40)
  | some (t, r) => if 255 < t.length then (tok0, 0, 3) else (⟨2, t, 0, 0, tok0.r⟩, l.length - r.length, X t)
def markOne (l : List UInt8) : One :=
  if ([35, 82, 69, 70, 33] : List UInt8).isPrefixOf l = true then (⟨6, [], 0, 0, tok0.r⟩, 5, 0)
  else if ([60, 62] : List UInt8).isPrefixOf l = true then (⟨5, [60, 62], 0, 0, tok0.r⟩, 2, 0)
  else if ([60, 61] : List UInt8).isPrefixOf l = true then (⟨5, [60, 61], 0, 0, tok0.r⟩, 2, 0)
  else if ([62, 61] : List UInt8).isPrefixOf l = true then (⟨5, [62, 61], 0, 0, tok0.r⟩, 2, 0)
  else if isM (l.headD 0) = true then (⟨5, l.take 1, 0, 0, tok0.r⟩, 1, 0)
  else (tok0, 0, 40)
def numOne (D : FD) (l : List UInt8) : One := (⟨1, [], (D (l.take (numN l))).2.1, (D (l.take (numN l))).2.2, tok0.r⟩, numN l, (D (l.take (numN l))).1)
def oneM (P : FP) (D : FD) (X : FX) (l : List UInt8) : One :=
  if Pl.digit (l.headD 0) = true then numOne D l
  else if l.headD 0 = 34 then textOne X l
  else if l.headD 0 = 39 then sheetOne P l
  else if l.headD 0 = 36 ∨ isL (l.headD 0) = true then wordOne P l
  else markOne l

/-- The tokens and their places, or the first error's place and the error. -/
def lexM (one : List UInt8 → One) : Nat → Nat → List UInt8 → Except (Nat × Int) (List (Nat × Tok))
  | 0, _, _ => .ok []
  | _ + 1, _, [] => .ok []
  | f + 1, at_, c :: l =>
    if c = 32 then lexM one f (at_ + 1) l
    else if (one (c :: l)).2.2 ≠ 0 then .error (at_, (one (c :: l)).2.2)
    else match lexM one f (at_ + (one (c :: l)).2.1) ((c :: l).drop (one (c :: l)).2.1) with
      | .error x => .error x
      | .ok ts => .ok ((at_, (one (c :: l)).1) :: ts)

/-! ### How far a token reaches -/
theorem quotedM_len (m : UInt8) : ∀ (k : Nat) (l acc t r : List UInt8), l.length ≤ k → quotedM m acc l = some (t, r) → r.length < l.length ∧ t.length ≤ acc.length + (l.length - r.length)
  | _, [], acc, t, r, _, h => by rw [quotedM] at h; cases h
  | 0, c :: l, acc, t, r, hk, h => by simp at hk
  | k + 1, c :: l, acc, t, r, hk, h => by
    have hk2 : l.length ≤ k := by simpa using hk
    rw [quotedM] at h
    split at h
    · split at h
      · have ht : l.tail.length ≤ k := by rw [List.length_tail]; omega
        have := quotedM_len m k l.tail _ t r ht h
        rw [List.length_tail, List.length_append, List.length_singleton] at this
        simp; omega
      · injection h with h; injection h with h1 h2; subst h1 h2; simp
    · have := quotedM_len m k l _ t r hk2 h
      rw [List.length_append, List.length_singleton] at this
      simp; omega
theorem quotedM_lt {m : UInt8} {l acc t r : List UInt8} (h : quotedM m acc l = some (t, r)) : r.length < l.length := (quotedM_len m _ l acc t r (Nat.le_refl _) h).1

theorem numP_le (l : List UInt8) : numP l ≤ l.length := by
  unfold numP
  split
  · rename_i h
    have h1 : runN Pl.digit l < l.length := by
      rcases Nat.lt_or_ge (runN Pl.digit l) l.length with h1 | h1
      · exact h1
      · rw [List.drop_eq_nil_of_le h1] at h; cases h.1
    have := runN_le Pl.digit (l.drop (runN Pl.digit l + 1))
    rw [List.length_drop] at this
    omega
  · exact runN_le _ _
theorem expN_le (l : List UInt8) : expN l ≤ l.length := by
  unfold expN
  split
  · rename_i h
    have h1 := runN_le Pl.digit (l.drop (signN l))
    rw [List.length_drop] at h1
    omega
  · omega
theorem numN_le (l : List UInt8) : numN l ≤ l.length := by
  unfold numN
  have h1 := numP_le l
  have h2 := expN_le (l.drop (numP l))
  rw [List.length_drop] at h2
  omega
theorem afterN_le (l : List UInt8) (n : Nat) (h : n < l.length) : afterN l n ≤ l.length := by
  unfold afterN
  have := runN_le isC (l.drop (n + 1))
  rw [List.length_drop] at this
  omega
theorem head_lt {l : List UInt8} {n : Nat} {c : UInt8} (h : ((l.drop n).head? == some c) = true) : n < l.length := by
  rcases Nat.lt_or_ge n l.length with h1 | h1
  · exact h1
  · rw [List.drop_eq_nil_of_le h1] at h; cases h
theorem runN_pos {p : UInt8 → Bool} {c : UInt8} {l : List UInt8} (h : p c = true) : 1 ≤ runN p (c :: l) := by
  unfold runN; rw [List.takeWhile_cons, h]; simp
theorem numN_pos {c : UInt8} {l : List UInt8} (h : Pl.digit c = true) : 1 ≤ numN (c :: l) := by
  have h1 := runN_pos (l := l) h
  have : runN Pl.digit (c :: l) ≤ numP (c :: l) := by unfold numP; split <;> omega
  unfold numN; omega
theorem isL_isW {b : UInt8} (h : b = 36 ∨ isL b = true) : isW b = true := by
  rcases h with rfl | h
  · decide
  · unfold isL isW at *
    simp only [List.contains_iff_mem] at *
    revert h
    have : ∀ x ∈ lettS.data.toList, x ∈ wordS.data.toList := by decide
    exact this b
theorem mark_le {p : List UInt8} {l : List UInt8} (h : p.isPrefixOf l = true) : p.length ≤ l.length := (List.isPrefixOf_iff_prefix.1 h).length_le

/-- How far a token reaches that is none, or one. -/
def Fits (l : List UInt8) (o : One) : Prop := o.2.2 = 0 → 1 ≤ o.2.1 ∧ o.2.1 ≤ l.length
theorem fits_no (l : List UInt8) : Fits l (tok0, 0, 40) := fun h => by cases h
theorem fits_text (X : FX) (c : UInt8) (l : List UInt8) : Fits (c :: l) (textOne X (c :: l)) := by
  unfold textOne
  split
  · exact fits_no _
  · rename_i t r hx
    have := quotedM_lt hx
    rw [List.drop_one, List.tail_cons] at this
    split
    · exact fun h => by cases h
    · intro _
      simp only [List.length_cons] at *
      omega
theorem fits_sheet (P : FP) (c : UInt8) (l : List UInt8) : Fits (c :: l) (sheetOne P (c :: l)) := by
  unfold sheetOne
  split
  · exact fits_no _
  · rename_i t r hx
    have := quotedM_lt hx
    rw [List.drop_one, List.tail_cons] at this
    split
    · rename_i hr
      have h1 : 1 ≤ r.length := by cases r <;> simp at hr ⊢
      have := afterN_le (c :: l) ((c :: l).length - r.length) (by simp only [List.length_cons]; omega)
      intro _
      refine ⟨?_, this⟩
      unfold refOne afterN; dsimp only; omega
    · exact fits_no _
theorem fits_word (P : FP) (c : UInt8) (l : List UInt8) (hw : c = 36 ∨ isL c = true) : Fits (c :: l) (wordOne P (c :: l)) := by
  have h1 : 1 ≤ wordN (c :: l) := runN_pos (isL_isW hw)
  have h2 : wordN (c :: l) ≤ (c :: l).length := runN_le _ _
  unfold wordOne
  split
  · rename_i hr
    exact fun _ => ⟨by unfold refOne afterN; dsimp only; omega, afterN_le _ _ (head_lt hr.1)⟩
  · split
    · exact fun _ => ⟨h1, h2⟩
    · split
      · exact fits_no _
      · exact fun _ => ⟨h1, h2⟩
theorem fits_mark (c : UInt8) (l : List UInt8) : Fits (c :: l) (markOne (c :: l)) := by
  unfold markOne
  split
  · rename_i hp; exact fun _ => ⟨by decide, mark_le hp⟩
  · split
    · rename_i hp; exact fun _ => ⟨by decide, mark_le hp⟩
    · split
      · rename_i hp; exact fun _ => ⟨by decide, mark_le hp⟩
      · split
        · rename_i hp; exact fun _ => ⟨by decide, mark_le hp⟩
        · split
          · exact fun _ => ⟨Nat.le_refl 1, by simp⟩
          · exact fits_no _
theorem oneM_fits (P : FP) (D : FD) (X : FX) (c : UInt8) (l : List UInt8) : Fits (c :: l) (oneM P D X (c :: l)) := by
  have hh2 : (c :: l).headD 0 = c := rfl
  unfold oneM
  rw [hh2]
  by_cases hd : Pl.digit c = true
  · rw [if_pos hd]
    exact fun _ => ⟨numN_pos hd, numN_le _⟩
  · rw [if_neg hd]
    by_cases hq : c = 34
    · rw [if_pos hq]
      exact fits_text X c l
    · rw [if_neg hq]
      by_cases hs : c = 39
      · rw [if_pos hs]
        exact fits_sheet P c l
      · rw [if_neg hs]
        by_cases hw : c = 36 ∨ isL c = true
        · rw [if_pos hw]; exact fits_word P c l hw
        · rw [if_neg hw]; exact fits_mark c l
end Go.Proofs.YtfkiomjplpbmiaaGreatDoor

/- The document's bytes: digit, letter, runs, cell, at. -/
namespace Go.Proofs.YtfkiomjplpbmiaaGreatDoor
open Go.RowKit Go.Lib

theorem r11digit (b : UInt8) (w : World) : Calls Tryz.prog 91 #[.int .u8 b.toNat] w (Q (.bool (Pl.digit b)) w) := by
  obtain ⟨n, hn⟩ : ∃ n, b.toNat = n := ⟨_, rfl⟩
  have hd : Pl.digit b = (decide (48 ≤ (n : Int)) && decide ((n : Int) ≤ 57)) := by
    rw [← hn]
    have h : ∀ i : Fin 256, Pl.digit (UInt8.ofNat i.val) = (decide (48 ≤ ((UInt8.ofNat i.val).toNat : Int)) && decide (((UInt8.ofNat i.val).toNat : Int) ≤ 57)) := by decide +kernel
    have k := h ⟨b.toNat, b.toNat_lt⟩
    simpa using k
  rw [hd, hn]
  clear hd hn
  cases h1 : decide (48 ≤ (n : Int)) with
  | false =>
    go_enter Tryz.func91, Tryz.ntmps91
    go_wp2_with fail
    go_ret
    exact ⟨rfl, Below.refl _ _⟩
  | true =>
    cases h2 : decide ((n : Int) ≤ 57) with
    | false =>
      go_enter Tryz.func91, Tryz.ntmps91
      go_wp2_with fail
      go_ret
      exact ⟨rfl, Below.refl _ _⟩
    | true =>
      go_enter Tryz.func91, Tryz.ntmps91
      go_wp2_with fail
      go_ret
      exact ⟨rfl, Below.refl _ _⟩

theorem r11letter (b : UInt8) (w : World) : Calls Tryz.prog 99 #[.int .u8 b.toNat] w (Q (.bool (isL b)) w) := by
  obtain ⟨n, hn⟩ : ∃ n, b.toNat = n := ⟨_, rfl⟩
  have hd : isL b = (decide (65 ≤ (n : Int)) && decide ((n : Int) ≤ 90) || (decide (97 ≤ (n : Int)) && decide ((n : Int) ≤ 122) || (n : Int) == 95)) := by
    rw [← hn]
    have h : ∀ i : Fin 256, isL (UInt8.ofNat i.val) = (decide (65 ≤ ((UInt8.ofNat i.val).toNat : Int)) && decide (((UInt8.ofNat i.val).toNat : Int) ≤ 90) || (decide (97 ≤ ((UInt8.ofNat i.val).toNat : Int)) && decide (((UInt8.ofNat i.val).toNat : Int) ≤ 122) || ((UInt8.ofNat i.val).toNat : Int) == 95)) := by decide +kernel
    have k := h ⟨b.toNat, b.toNat_lt⟩
    simpa using k
  rw [hd, hn]
  clear hd hn
  cases h1 : decide (65 ≤ (n : Int)) <;> cases h2 : decide ((n : Int) ≤ 90) <;> cases h3 : decide (97 ≤ (n : Int)) <;> cases h4 : decide ((n : Int) ≤ 122) <;> cases h5 : ((n : Int) == 95) <;>
  · go_enter Tryz.func99, Tryz.ntmps99
    go_wp2_with fail
    go_ret
    exact ⟨rfl, Below.refl _ _⟩

theorem r11runs (b : UInt8) (w : World) : Calls Tryz.prog 151 #[.int .u8 b.toNat] w (Q (.bool (isW b)) w) := by
  have C1 := Lib.hid (fun w => r11letter b w)
  have C2 := Lib.hid (fun w => r11digit b w)
  obtain ⟨n, hn⟩ : ∃ n, b.toNat = n := ⟨_, rfl⟩
  have hd : isW b = (isL b || (Pl.digit b || ((n : Int) == 46 || (n : Int) == 36))) := by
    rw [← hn]
    have h : ∀ i : Fin 256, isW (UInt8.ofNat i.val) = (isL (UInt8.ofNat i.val) || (Pl.digit (UInt8.ofNat i.val) || (((UInt8.ofNat i.val).toNat : Int) == 46 || ((UInt8.ofNat i.val).toNat : Int) == 36))) := by decide +kernel
    have k := h ⟨b.toNat, b.toNat_lt⟩
    simpa using k
  rw [hd, hn]
  rw [hn] at C1 C2
  clear hd hn
  cases h1 : isL b with
  | true =>
    rw [h1] at C1
    go_enter Tryz.func151, Tryz.ntmps151
    go_wp2_with fail
    refine (C1.out _).mono ?_
    rintro e w1 ⟨rfl, hb⟩
    go_wp2_with fail
    go_ret
    exact ⟨rfl, hb⟩
  | false =>
    rw [h1] at C1
    cases h2 : Pl.digit b with
    | true =>
      rw [h2] at C2
      go_enter Tryz.func151, Tryz.ntmps151
      go_wp2_with fail
      refine (C1.out _).mono ?_
      rintro e w1 ⟨rfl, hb⟩
      go_wp2_with fail
      refine (C2.out _).mono ?_
      rintro e w2 ⟨rfl, hb2⟩
      go_wp2_with fail
      go_ret
      exact ⟨rfl, bt hb hb2⟩
    | false =>
      rw [h2] at C2
      cases h3 : ((n : Int) == 46) <;> cases h4 : ((n : Int) == 36) <;>
      · go_enter Tryz.func151, Tryz.ntmps151
        go_wp2_with fail
        refine (C1.out _).mono ?_
        rintro e w1 ⟨rfl, hb⟩
        go_wp2_with fail
        refine (C2.out _).mono ?_
        rintro e w2 ⟨rfl, hb2⟩
        go_wp2_with fail
        go_ret
        exact ⟨rfl, bt hb hb2⟩

theorem r11cell (b : UInt8) (w : World) : Calls Tryz.prog 150 #[.int .u8 b.toNat] w (Q (.bool (isC b)) w) := by
  have C2 := Lib.hid (fun w => r11digit b w)
  obtain ⟨n, hn⟩ : ∃ n, b.toNat = n := ⟨_, rfl⟩
  have hd : isC b = (decide (65 ≤ (n : Int)) && decide ((n : Int) ≤ 90) || (Pl.digit b || (n : Int) == 36)) := by
    rw [← hn]
    have h : ∀ i : Fin 256, isC (UInt8.ofNat i.val) = (decide (65 ≤ ((UInt8.ofNat i.val).toNat : Int)) && decide (((UInt8.ofNat i.val).toNat : Int) ≤ 90) || (Pl.digit (UInt8.ofNat i.val) || ((UInt8.ofNat i.val).toNat : Int) == 36)) := by decide +kernel
    have k := h ⟨b.toNat, b.toNat_lt⟩
    simpa using k
  rw [hd, hn]
  rw [hn] at C2
  clear hd hn
  cases hc : (decide (65 ≤ (n : Int)) && decide ((n : Int) ≤ 90)) with
  | true =>
    simp only [Bool.and_eq_true] at hc
    obtain ⟨h1, h2⟩ := hc
    go_enter Tryz.func150, Tryz.ntmps150
    go_wp2_with fail
    go_ret
    exact ⟨rfl, Below.refl _ _⟩
  | false =>
    cases h1 : decide (65 ≤ (n : Int)) with
    | false =>
      clear hc
      cases h3 : Pl.digit b <;> rw [h3] at C2 <;> cases h4 : ((n : Int) == 36) <;>
      · go_enter Tryz.func150, Tryz.ntmps150
        go_wp2_with fail
        refine (C2.out _).mono ?_
        rintro e w2 ⟨rfl, hb2⟩
        go_wp2_with fail
        go_ret
        exact ⟨rfl, hb2⟩
    | true =>
      have h2 : decide ((n : Int) ≤ 90) = false := by rw [h1] at hc; exact hc
      clear hc
      cases h3 : Pl.digit b <;> rw [h3] at C2 <;> cases h4 : ((n : Int) == 36) <;>
      · go_enter Tryz.func150, Tryz.ntmps150
        go_wp2_with fail
        refine (C2.out _).mono ?_
        rintro e w2 ⟨rfl, hb2⟩
        go_wp2_with fail
        go_ret
        exact ⟨rfl, hb2⟩

/-- The byte at a place, 0 behind the end. -/
def atB (s : ByteArray) (k : Nat) : UInt8 := (s.data.toList.drop k).head?.getD 0
theorem atB_get (s : ByteArray) (k : Nat) (h : k < s.size) : atB s k = s[k] := by
  unfold atB
  rw [head_drop s k h]; rfl
theorem atB_none (s : ByteArray) (k : Nat) (h : s.size ≤ k) : atB s k = 0 := by
  unfold atB
  rw [head_none s k h]; rfl
theorem r11at (s : ByteArray) (k : Nat) (w : World) : Calls Tryz.prog 96 #[.string s, .int .i64 (k : Int)] w (Q (.int .u8 ((atB s k).toNat : Int)) w) := by
  by_cases h : k < s.size
  · rw [atB_get s k h]
    go_enter Tryz.func96, Tryz.ntmps96
    go_wp2_with fail
    go_ret
    exact ⟨rfl, Below.refl _ _⟩
  · rw [atB_none s k (by omega)]
    go_enter Tryz.func96, Tryz.ntmps96
    go_wp2_with fail
    go_ret
    exact ⟨rfl, Below.refl _ _⟩
end Go.Proofs.YtfkiomjplpbmiaaGreatDoor

/- The document's runs: digits, while, has. -/
namespace Go.Proofs.YtfkiomjplpbmiaaGreatDoor
open Go.RowKit Go.Lib

theorem runN_at (p : UInt8 → Bool) (s : ByteArray) (k : Nat) (h : k < s.size) : runN p (s.data.toList.drop k) = if p (s[k]'h) = true then runN p (s.data.toList.drop (k + 1)) + 1 else 0 := by
  have hl : k < s.data.toList.length := h
  have e : s.data.toList[k]'hl = s[k]'h := rfl
  rw [List.drop_eq_getElem_cons hl, e]
  unfold runN
  rw [List.takeWhile_cons]
  split <;> simp
theorem runN_end (p : UInt8 → Bool) (s : ByteArray) (k : Nat) (h : s.size ≤ k) : runN p (s.data.toList.drop k) = 0 := by
  rw [List.drop_eq_nil_of_le (show s.data.toList.length ≤ k from h)]; rfl

set_option maxHeartbeats 1000000 in
theorem r11digits (s : ByteArray) (k : Nat) (w : World) (hs : s.size ≤ 4294967280) (hk : k ≤ 4294967280) :
    Calls Tryz.prog 144 #[.string s, .int .i64 (k : Int)] w (Q (.int .i64 ((k + runN Pl.digit (s.data.toList.drop k) : Nat) : Int)) w) := by
  obtain ⟨R, hR⟩ : ∃ R, k + runN Pl.digit (s.data.toList.drop k) = R := ⟨_, rfl⟩
  rw [hR]
  have HR := Lib.hid hR
  clear hR
  go_enter Tryz.func144, Tryz.ntmps144
  go_wp2_with fail
  go_loopg [1] s.size (fun gf v1 wx => ∃ j : Nat, v1 = .int .i64 (j : Int) ∧ j ≤ 4294967280 ∧ s.size ≤ j + gf ∧ Below w.heap.size w wx ∧ Hid (j + runN Pl.digit (s.data.toList.drop j) = R))
  case atStart => exact ⟨k, rfl, hk, by omega, Below.refl _ _, HR.out⟩
  case round =>
    obtain ⟨j, rfl, hj, hgf, hb, HJ⟩ := hrel
    have C1 := Lib.hid (fun w => r11at s j w)
    have C2 := Lib.hid (fun w => r11digit (atB s j) w)
    by_cases hlt : j < s.size
    · obtain ⟨g', rfl⟩ : ∃ g', gk = g' + 1 := ⟨gk - 1, by omega⟩
      have hst := runN_at Pl.digit s j hlt
      rw [← atB_get s j hlt] at hst
      cases hd : Pl.digit (atB s j) with
      | true =>
        rw [hd] at C2 hst
        have HN : Hid (j + 1 + runN Pl.digit (s.data.toList.drop (j + 1)) = R) := by
          show _ = _
          rw [← HJ.out, hst, if_pos rfl]; omega
        clear hst hd HJ
        go_wp2_with fail
        refine (C1.out _).mono ?_
        rintro e w1 ⟨rfl, hb1⟩
        go_wp2_with fail
        refine (C2.out _).mono ?_
        rintro e w2 ⟨rfl, hb2⟩
        go_wp2_with fail
        go_roundg g'
        case measure => omega
        case rel => exact ⟨j + 1, by go_num, by omega, by omega, bt hb (bt hb1 hb2), HN⟩
      | false =>
        rw [hd] at C2 hst
        have HN : Hid (R = j) := by show _ = _; rw [← HJ.out, hst]; rfl
        clear hst hd HJ
        go_wp2_with fail
        refine (C1.out _).mono ?_
        rintro e w1 ⟨rfl, hb1⟩
        go_wp2_with fail
        refine (C2.out _).mono ?_
        rintro e w2 ⟨rfl, hb2⟩
        go_wp2_with fail
        go_ret
        exact ⟨by rw [HN.out]; rfl, bt hb (bt hb1 hb2)⟩
    · have hst := runN_end Pl.digit s j (by omega)
      rw [atB_none s j (by omega)] at C1 C2
      have HN : Hid (R = j) := by show _ = _; rw [← HJ.out, hst]; rfl
      clear hst HJ
      go_wp2_with fail
      refine (C1.out _).mono ?_
      rintro e w1 ⟨rfl, hb1⟩
      go_wp2_with fail
      refine (C2.out _).mono ?_
      rintro e w2 ⟨rfl, hb2⟩
      go_wp2_with fail
      go_ret
      exact ⟨by rw [HN.out]; rfl, bt hb (bt hb1 hb2)⟩

set_option maxHeartbeats 1000000 in
theorem r11while (s : ByteArray) (k : Nat) (cells : Bool) (w : World) (hs : s.size ≤ 4294967280) (hk : k ≤ 4294967280) :
    Calls Tryz.prog 98 #[.string s, .int .i64 (k : Int), .bool cells] w (Q (.int .i64 ((k + runN (if cells then isC else isW) (s.data.toList.drop k) : Nat) : Int)) w) := by
  obtain ⟨p, hp⟩ : ∃ p, (if cells then isC else isW) = p := ⟨_, rfl⟩
  rw [hp]
  obtain ⟨R, hR⟩ : ∃ R, k + runN p (s.data.toList.drop k) = R := ⟨_, rfl⟩
  rw [hR]
  have HR := Lib.hid hR
  clear hR
  go_enter Tryz.func98, Tryz.ntmps98
  go_wp2_with fail
  go_loopg [1] s.size (fun gf v1 wx => ∃ j : Nat, v1 = .int .i64 (j : Int) ∧ j ≤ 4294967280 ∧ s.size ≤ j + gf ∧ Below w.heap.size w wx ∧ Hid (j + runN p (s.data.toList.drop j) = R))
  case atStart => exact ⟨k, rfl, hk, by omega, Below.refl _ _, HR.out⟩
  case round =>
    obtain ⟨j, rfl, hj, hgf, hb, HJ⟩ := hrel
    by_cases hlt : j < s.size
    · obtain ⟨g', rfl⟩ : ∃ g', gk = g' + 1 := ⟨gk - 1, by omega⟩
      have hst := runN_at p s j hlt
      obtain ⟨c, hc⟩ : ∃ c, s[j]'hlt = c := ⟨_, rfl⟩
      rw [hc] at hst
      cases cells with
      | true =>
        have C2 := Lib.hid (fun w => r11cell c w)
        have hp2 : isC = p := hp
        rw [hp2] at C2
        clear hp hp2
        cases hd : p c with
        | true =>
          rw [hd] at C2 hst
          have HN : Hid (j + 1 + runN p (s.data.toList.drop (j + 1)) = R) := by
            show _ = _
            rw [← HJ.out, hst, if_pos rfl]; omega
          clear hst hd HJ
          go_wp2_with fail
          try rw [hc]
          refine (C2.out _).mono ?_
          rintro e w2 ⟨rfl, hb2⟩
          go_wp2_with fail
          go_roundg g'
          case measure => omega
          case rel => exact ⟨j + 1, by go_num, by omega, by omega, bt hb hb2, HN⟩
        | false =>
          rw [hd] at C2 hst
          have HN : Hid (R = j) := by show _ = _; rw [← HJ.out, hst]; rfl
          clear hst hd HJ
          go_wp2_with fail
          try rw [hc]
          refine (C2.out _).mono ?_
          rintro e w2 ⟨rfl, hb2⟩
          go_wp2_with fail
          go_ret
          exact ⟨by rw [HN.out]; rfl, bt hb hb2⟩
      | false =>
        have C2 := Lib.hid (fun w => r11runs c w)
        have hp2 : isW = p := hp
        rw [hp2] at C2
        clear hp hp2
        cases hd : p c with
        | true =>
          rw [hd] at C2 hst
          have HN : Hid (j + 1 + runN p (s.data.toList.drop (j + 1)) = R) := by
            show _ = _
            rw [← HJ.out, hst, if_pos rfl]; omega
          clear hst hd HJ
          go_wp2_with fail
          try rw [hc]
          refine (C2.out _).mono ?_
          rintro e w2 ⟨rfl, hb2⟩
          go_wp2_with fail
          go_roundg g'
          case measure => omega
          case rel => exact ⟨j + 1, by go_num, by omega, by omega, bt hb hb2, HN⟩
        | false =>
          rw [hd] at C2 hst
          have HN : Hid (R = j) := by show _ = _; rw [← HJ.out, hst]; rfl
          clear hst hd HJ
          go_wp2_with fail
          try rw [hc]
          refine (C2.out _).mono ?_
          rintro e w2 ⟨rfl, hb2⟩
          go_wp2_with fail
          go_ret
          exact ⟨by rw [HN.out]; rfl, bt hb hb2⟩
    · have hst := runN_end p s j (by omega)
      have HN : Hid (R = j) := by show _ = _; rw [← HJ.out, hst]; rfl
      clear hst HJ
      go_wp2_with fail
      go_ret
      exact ⟨by rw [HN.out]; rfl, hb⟩

set_option maxHeartbeats 1000000 in
theorem r11has (s : ByteArray) (c : UInt8) (w : World) (hs : s.size ≤ 4294967280) :
    Calls Tryz.prog 152 #[.string s, .int .u8 (c.toNat : Int)] w (Q (.bool (s.data.toList.contains c)) w) := by
  obtain ⟨R, hR⟩ : ∃ R, s.data.toList.contains c = R := ⟨_, rfl⟩
  rw [hR]
  have HR := Lib.hid hR
  clear hR
  go_enter Tryz.func152, Tryz.ntmps152
  go_wp2_with fail
  go_loopg [5] s.size (fun gf v1 wx => ∃ j : Nat, v1 = .int .i64 (j : Int) ∧ j ≤ s.size ∧ s.size ≤ j + gf ∧ Below w.heap.size w wx ∧ Hid ((s.data.toList.drop j).contains c = R))
  case atStart => exact ⟨0, rfl, by omega, by omega, Below.refl _ _, HR.out⟩
  case round =>
    obtain ⟨j, rfl, hj, hgf, hb, HJ⟩ := hrel
    by_cases hlt : j < s.size
    · obtain ⟨g', rfl⟩ : ∃ g', gk = g' + 1 := ⟨gk - 1, by omega⟩
      have hl : j < s.data.toList.length := hlt
      have hst : (s.data.toList.drop j).contains c = (c == s[j]'hlt || (s.data.toList.drop (j + 1)).contains c) := by
        rw [List.drop_eq_getElem_cons hl, List.contains_cons]; rfl
      cases hd : (((s[j]'hlt).toNat : Int) == (c.toNat : Int)) with
      | true =>
        have hd2 := hd
        rw [eq_byte] at hd2
        have HN : Hid (R = true) := by
          show _ = _
          rw [← HJ.out, hst, (beq_iff_eq.1 hd2)]; simp
        clear hst hd2 HJ
        go_wp2_with fail
        go_ret
        exact ⟨by rw [HN.out]; rfl, hb⟩
      | false =>
        have hd2 := hd
        rw [eq_byte] at hd2
        have HN : Hid ((s.data.toList.drop (j + 1)).contains c = R) := by
          show _ = _
          have e : (c == s[j]'hlt) = false := by
            rw [beq_eq_false_iff_ne] at hd2 ⊢
            exact fun h => hd2 h.symm
          rw [← HJ.out, hst, e]; rfl
        clear hst hd2 HJ
        go_wp2_with fail
        go_roundg g'
        case measure => omega
        case rel => exact ⟨j + 1, by go_num, by omega, by omega, hb, HN⟩
    · have HN : Hid (R = false) := by show _ = _; rw [← HJ.out, List.drop_eq_nil_of_le (show s.data.toList.length ≤ j by show s.size ≤ j; omega)]; rfl
      clear HJ
      go_wp2_with fail
      go_ret
      exact ⟨by rw [HN.out]; rfl, hb⟩
end Go.Proofs.YtfkiomjplpbmiaaGreatDoor

/- The document's num. -/
namespace Go.Proofs.YtfkiomjplpbmiaaGreatDoor
open Go.RowKit Go.Lib

def num2 (s : ByteArray) (np : Nat) : Nat := if atB s (np + 1) = 43 ∨ atB s (np + 1) = 45 then np + 2 else np + 1
set_option maxRecDepth 100000 in
set_option maxHeartbeats 8000000 in
theorem r11num_core (s : ByteArray) (k a1 np k2 : Nat) (w : World) (hs : s.size ≤ 512) (ha1 : a1 ≤ s.size) (hnp : np ≤ s.size) (hk2 : k2 ≤ s.size + 2) (b1 isE sg b3 : Bool)
    (C1 : Hid (∀ w, Calls Tryz.prog 144 #[.string s, .int .i64 (k : Int)] w (Q (.int .i64 (a1 : Int)) w)))
    (hb1 : b1 = (((atB s a1).toNat : Int) == 46 && Pl.digit (atB s (a1 + 1))))
    (hnp0 : b1 = false → np = a1) (hnp1 : b1 = true → np = a1 + 1 + runN Pl.digit (s.data.toList.drop (a1 + 1)))
    (hE : isE = (((atB s np).toNat : Int) == 69 || ((atB s np).toNat : Int) == 101))
    (hsg : sg = (((atB s (np + 1)).toNat : Int) == 43 || ((atB s (np + 1)).toNat : Int) == 45))
    (hk2' : k2 = if sg then np + 2 else np + 1) (hb3 : b3 = Pl.digit (atB s k2))
    (V : Value) (hV : V = .int .i64 (if isE = true ∧ b3 = true then ((k2 + runN Pl.digit (s.data.toList.drop k2) : Nat) : Int) else (np : Int))) :
    Calls Tryz.prog 92 #[.string s, .int .i64 (k : Int)] w (Q V w) := by
  have CA := Lib.hid (fun (j : Nat) w => r11at s j w)
  have CD := Lib.hid (fun (b : UInt8) w => r11digit b w)
  have CS := Lib.hid (fun (j : Nat) (hj : j ≤ 4294967280) w => r11digits s j w (by omega) hj)
  have HB1 := Lib.hid hb1
  have HV := Lib.hid hV
  have HE := Lib.hid hE
  have HS := Lib.hid hsg
  have HK := Lib.hid hk2'
  have H3 := Lib.hid hb3
  have HP0 := Lib.hid hnp0
  have HP1 := Lib.hid hnp1
  clear hb1 hV hE hsg hk2' hb3 hnp0 hnp1
  go_enter Tryz.func92, Tryz.ntmps92
  go_wp2_with fail
  refine (C1.out _).mono ?_
  rintro e w1 ⟨rfl, hb⟩
  have HB := Lib.hid hb
  clear hb C1
  go_upto_region 2 with (fail)
  go_cut [1, 19] (fun v1 v19 wx => v1 = .int .i64 (a1 : Int) ∧ v19 = .bool b1 ∧ Below w.heap.size w wx)
  case first =>
    go_wp2_with fail
    refine (CA.out a1 _).mono ?_
    rintro e w2 ⟨rfl, hb⟩
    cases h46 : (((atB s a1).toNat : Int) == 46) with
    | false =>
      have HN : Hid (b1 = false) := by show _ = _; rw [HB1.out, h46]; rfl
      clear HB1
      go_wp2_with fail
      go_meet
      exact ⟨rfl, by rw [HN.out], bt HB.out hb⟩
    | true =>
      have HN : Hid (b1 = Pl.digit (atB s (a1 + 1))) := by show _ = _; rw [HB1.out, h46]; rfl
      clear HB1
      have ca := CA.out (a1 + 1)
      have e1 : ((a1 + 1 : Nat) : Int) = (a1 : Int) + 1 := by omega
      rw [e1] at ca
      have CA2 := Lib.hid ca
      clear ca
      go_wp2_with fail
      refine (CA2.out _).mono ?_
      rintro e w3 ⟨rfl, hb3⟩
      go_wp2_with fail
      refine (CD.out _ _).mono ?_
      rintro e w4 ⟨rfl, hb4⟩
      go_wp2_with fail
      go_meet
      exact ⟨rfl, by rw [HN.out], bt HB.out (bt hb (bt hb3 hb4))⟩
  case rest =>
    obtain ⟨rfl, rfl, hb⟩ := hcut
    replace HB := Lib.hid hb
    clear hb HB1
    go_upto_if 19 with (fail)
    go_cut [1] (fun v1 wx => v1 = .int .i64 (np : Int) ∧ Below w.heap.size w wx)
    case first =>
      cases b1 with
      | false =>
        have HN := Lib.hid (HP0.out rfl)
        go_wp2_with fail
        go_meet
        exact ⟨by rw [HN.out], HB.out⟩
      | true =>
        have HN := Lib.hid (HP1.out rfl)
        have ca := CS.out (a1 + 1) (by omega)
        have e1 : ((a1 + 1 : Nat) : Int) = (a1 : Int) + 1 := by omega
        rw [← HN.out, e1] at ca
        have CA2 := Lib.hid ca
        clear ca
        go_wp2_with fail
        refine (CA2.out _).mono ?_
        rintro e w3 ⟨rfl, hb3⟩
        go_wp2_with fail
        go_meet
        exact ⟨rfl, bt HB.out hb3⟩
    case rest =>
      obtain ⟨rfl, hb⟩ := hcut
      replace HB := Lib.hid hb
      clear hb HP0 HP1
      go_upto_region 4 with (fail)
      go_cut [1, 33] (fun v1 v33 wx => v1 = .int .i64 (np : Int) ∧ v33 = .bool isE ∧ Below w.heap.size w wx)
      case first =>
        have CAN := Lib.hid (CA.out np)
        obtain ⟨m, hm⟩ : ∃ m, ((atB s np).toNat : Int) = m := ⟨_, rfl⟩
        have HEN : Hid (isE = (m == 69 || m == 101)) := by show _ = _; rw [HE.out, hm]
        rw [hm] at CAN
        clear HE hm
        cases h1 : (m == 69) <;> cases h2 : (m == 101) <;> rw [h1, h2] at HEN <;>
        · go_wp2_with fail
          refine (CAN.out _).mono ?_
          rintro e w2 ⟨rfl, hb⟩
          go_wp2_with fail
          try
            refine (CAN.out _).mono ?_
            rintro e w3 ⟨rfl, hb⟩
            go_wp2_with fail
          go_meet
          exact ⟨rfl, by rw [HEN.out]; rfl, bt HB.out (by first | exact hb | exact bt (by assumption) hb)⟩
      case rest =>
        obtain ⟨rfl, rfl, hb⟩ := hcut
        replace HB := Lib.hid hb
        clear hb HE
        cases isE with
        | false =>
          have HV2 : Hid (V = .int .i64 (np : Int)) := by show _ = _; rw [HV.out]; rfl
          clear HV
          go_wp2_with fail
          go_ret
          exact ⟨by rw [HV2.out]; rfl, HB.out⟩
        | true =>
          go_upto_region 6 with (fail)
          go_cut [1, 5, 45] (fun v1 v5 v45 wx => v1 = .int .i64 (np : Int) ∧ v5 = .int .i64 ((np : Int) + 1) ∧ v45 = .bool sg ∧ Below w.heap.size w wx)
          case first =>
            have ca := CA.out (np + 1)
            have e1 : ((np + 1 : Nat) : Int) = (np : Int) + 1 := by omega
            rw [e1] at ca
            have CAN := Lib.hid ca
            obtain ⟨m, hm⟩ : ∃ m, ((atB s (np + 1)).toNat : Int) = m := ⟨_, rfl⟩
            have HEN : Hid (sg = (m == 43 || m == 45)) := by show _ = _; rw [HS.out, hm]
            rw [hm] at CAN
            clear HS hm ca
            cases h1 : (m == 43) <;> cases h2 : (m == 45) <;> rw [h1, h2] at HEN <;>
            · go_wp2_with fail
              refine (CAN.out _).mono ?_
              rintro e w2 ⟨rfl, hb⟩
              go_wp2_with fail
              try
                refine (CAN.out _).mono ?_
                rintro e w3 ⟨rfl, hb⟩
                go_wp2_with fail
              go_meet
              exact ⟨rfl, rfl, by rw [HEN.out]; rfl, bt HB.out (by first | exact hb | exact bt (by assumption) hb)⟩
          case rest =>
            obtain ⟨rfl, rfl, rfl, hb⟩ := hcut
            replace HB := Lib.hid hb
            clear hb HS
            go_upto_if 45 with (fail)
            go_cut [5] (fun v5 wx => v5 = .int .i64 (k2 : Int) ∧ Below w.heap.size w wx)
            case first =>
              cases sg with
              | false =>
                go_wp2_with fail
                go_meet
                exact ⟨by rw [HK.out]; congr 1, HB.out⟩
              | true =>
                go_wp2_with fail
                go_meet
                exact ⟨by rw [HK.out]; congr 1, HB.out⟩
            case rest =>
              obtain ⟨rfl, hb⟩ := hcut
              replace HB := Lib.hid hb
              clear hb HK
              have CAN := Lib.hid (CA.out k2)
              have CDN := CD.out (atB s k2)
              rw [← H3.out] at CDN
              have CDN := Lib.hid CDN
              have CSN := Lib.hid (CS.out k2 (by omega))
              clear CA CD CS H3
              cases b3 with
              | false =>
                have HV2 : Hid (V = .int .i64 (np : Int)) := by show _ = _; rw [HV.out]; rfl
                clear HV
                go_wp2_with fail
                refine (CAN.out _).mono ?_
                rintro e w2 ⟨rfl, hb⟩
                go_wp2_with fail
                refine (CDN.out _).mono ?_
                rintro e w3 ⟨rfl, hb2⟩
                go_wp2_with fail
                go_ret
                exact ⟨by rw [HV2.out]; rfl, bt HB.out (bt hb hb2)⟩
              | true =>
                have HV2 : Hid (V = .int .i64 ((k2 + runN Pl.digit (s.data.toList.drop k2) : Nat) : Int)) := by show _ = _; rw [HV.out]; rfl
                clear HV
                go_wp2_with fail
                refine (CAN.out _).mono ?_
                rintro e w2 ⟨rfl, hb⟩
                go_wp2_with fail
                refine (CDN.out _).mono ?_
                rintro e w3 ⟨rfl, hb2⟩
                go_wp2_with fail
                refine (CSN.out _).mono ?_
                rintro e w4 ⟨rfl, hb3⟩
                go_wp2_with fail
                go_ret
                exact ⟨by rw [HV2.out]; rfl, bt HB.out (bt hb (bt hb2 hb3))⟩

theorem atB_drop (s : ByteArray) (k m : Nat) : atB s (k + m) = ((s.data.toList.drop k).drop m).head?.getD 0 := by unfold atB; rw [List.drop_drop]
theorem getD_eq {o : Option UInt8} {c : UInt8} (h : c ≠ 0) : o.getD 0 = c ↔ o = some c := by
  cases o with
  | none => simp; exact fun e => h e.symm
  | some d => simp
theorem digit_pos (l : List UInt8) : Pl.digit (l.head?.getD 0) = decide (0 < runN Pl.digit l) := by
  cases l with
  | nil => decide
  | cons c l =>
    unfold runN
    rw [List.takeWhile_cons]
    show Pl.digit c = _
    cases Pl.digit c <;> simp
theorem head_split (s : ByteArray) (k m : Nat) : ((s.data.toList.drop k).drop m).head? = (s.data.toList.drop (k + m)).head? := by rw [List.drop_drop]

theorem r11num (s : ByteArray) (k : Nat) (w : World) (hs : s.size ≤ 512) (hk : k ≤ s.size) :
    Calls Tryz.prog 92 #[.string s, .int .i64 (k : Int)] w (Q (.int .i64 ((k + numN (s.data.toList.drop k) : Nat) : Int)) w) := by
  have hsz : s.data.toList.length = s.size := rfl
  obtain ⟨l, hl⟩ : ∃ l, s.data.toList.drop k = l := ⟨_, rfl⟩
  have hll : l.length = s.size - k := by rw [← hl, List.length_drop]; rfl
  have hat : ∀ m, atB s (k + m) = (l.drop m).head?.getD 0 := fun m => by rw [atB_drop, hl]
  have hd : ∀ m, s.data.toList.drop (k + m) = l.drop m := fun m => by rw [← hl, List.drop_drop]
  have hr := runN_le Pl.digit l
  have hP := numP_le l
  have hE := expN_le (l.drop (numP l))
  rw [hl]
  have C1 := fun w => r11digits s k w (by omega) (by omega)
  rw [hl] at C1
  obtain ⟨sg, hsg⟩ : ∃ sg, sg = (((atB s (k + numP l + 1)).toNat : Int) == 43 || ((atB s (k + numP l + 1)).toNat : Int) == 45) := ⟨_, rfl⟩
  have hsn : (if sg then k + numP l + 2 else k + numP l + 1) = k + numP l + signN (l.drop (numP l)) := by
    unfold signN
    rw [hsg, Nat.add_assoc k, hat, ← List.drop_drop]
    generalize ((l.drop (numP l)).drop 1).head? = o
    have e43 : (((o.getD 0).toNat : Int) == 43) = decide (o = some 43) := by
      rw [show (43 : Int) = ((43 : UInt8).toNat : Int) from rfl, eq_byte, Bool.eq_iff_iff, beq_iff_eq, decide_eq_true_eq, getD_eq (by decide)]
    have e45 : (((o.getD 0).toNat : Int) == 45) = decide (o = some 45) := by
      rw [show (45 : Int) = ((45 : UInt8).toNat : Int) from rfl, eq_byte, Bool.eq_iff_iff, beq_iff_eq, decide_eq_true_eq, getD_eq (by decide)]
    rw [e43, e45]
    by_cases h : o = some 43 ∨ o = some 45
    · rw [if_pos h, if_pos (by simpa using h)] <;> omega
    · rw [if_neg h, if_neg (by simpa using h)] <;> omega
  have hfin := r11num_core s k (k + runN Pl.digit l) (k + numP l) (k + numP l + signN (l.drop (numP l))) w hs (by omega) (by omega)
    (by have : signN (l.drop (numP l)) ≤ 2 := by unfold signN; split <;> omega
        omega) _ _ sg _ (Lib.hid C1) rfl ?_ ?_ rfl hsg hsn.symm rfl _ rfl
  · have e : (Value.int .i64 (if (((atB s (k + numP l)).toNat : Int) == 69 || ((atB s (k + numP l)).toNat : Int) == 101) = true ∧ Pl.digit (atB s (k + numP l + signN (l.drop (numP l)))) = true then ((k + numP l + signN (l.drop (numP l)) + runN Pl.digit (s.data.toList.drop (k + numP l + signN (l.drop (numP l)))) : Nat) : Int) else ((k + numP l : Nat) : Int))) = .int .i64 ((k + numN l : Nat) : Int) := by
      unfold numN expN
      rw [Nat.add_assoc k (numP l) (signN _), hat, hat, hd, ← List.drop_drop, digit_pos]
      generalize l.drop (numP l) = r
      have e69 : (((r.head?.getD 0).toNat : Int) == 69) = decide (r.head? = some 69) := by
        rw [show (69 : Int) = ((69 : UInt8).toNat : Int) from rfl, eq_byte, Bool.eq_iff_iff, beq_iff_eq, decide_eq_true_eq, getD_eq (by decide)]
      have e101 : (((r.head?.getD 0).toNat : Int) == 101) = decide (r.head? = some 101) := by
        rw [show (101 : Int) = ((101 : UInt8).toNat : Int) from rfl, eq_byte, Bool.eq_iff_iff, beq_iff_eq, decide_eq_true_eq, getD_eq (by decide)]
      rw [e69, e101]
      by_cases h : (r.head? = some 101 ∨ r.head? = some 69) ∧ 0 < runN Pl.digit (r.drop (signN r))
      · rw [if_pos h, if_pos (by simp; exact ⟨h.1.symm, h.2⟩)]
        congr 2; omega
      · rw [if_neg h, if_neg (by simp only [Bool.or_eq_true, decide_eq_true_eq]; exact fun hh => h ⟨hh.1.symm, hh.2⟩)]
        congr 2
    rw [e] at hfin
    exact hfin
  · intro h
    have h' : ¬ ((l.drop (runN Pl.digit l)).head? = some 46 ∧ 0 < runN Pl.digit (l.drop (runN Pl.digit l + 1))) := by
      rintro ⟨h1, h2⟩
      rw [Nat.add_assoc, hat, hat, h1, digit_pos, decide_eq_true h2] at h
      cases h
    unfold numP; rw [if_neg h']
  · intro h
    have h' : (l.drop (runN Pl.digit l)).head? = some 46 ∧ 0 < runN Pl.digit (l.drop (runN Pl.digit l + 1)) := by
      rw [Nat.add_assoc, hat, hat, digit_pos] at h
      simp only [Bool.and_eq_true, decide_eq_true_eq] at h
      refine ⟨(getD_eq (by decide)).1 ?_, h.2⟩
      apply UInt8.toNat_inj.1
      have := beq_iff_eq.1 h.1
      have : (46 : UInt8).toNat = 46 := rfl
      omega
    unfold numP; rw [if_pos h', Nat.add_assoc k (runN Pl.digit l) 1, hd]; omega
end Go.Proofs.YtfkiomjplpbmiaaGreatDoor

/- lex.quoted. -/
namespace Go.Proofs.YtfkiomjplpbmiaaGreatDoor
open Go.RowKit Go.Lib

/-- What lex.quoted answers of a text of so many bytes. -/
def quotedV (n : Nat) : Option (List UInt8 × List UInt8) → Value
  | none => .tuple #[.int .i64 0, .string ⟨#[]⟩]
  | some (t, r) => .tuple #[.int .i64 ((n - r.length : Nat) : Int), .string ⟨t.toArray⟩]

theorem index_mark (s : ByteArray) (m : UInt8) (w : World) (i : Int) (h : i = if s.data.toList.contains m then ((s.data.toList.takeWhile (· != m)).length : Int) else -1) :
    Calls Tryz.prog 75 #[.string s, .string ⟨#[m]⟩] w fun e w' => e = .returned (.int .i64 i) ∧ w' = w := by
  have h0 := Tryz.strings_Index_one s m w
  rw [indexByte_tw, ← h] at h0
  exact h0

set_option maxRecDepth 100000 in
set_option maxHeartbeats 8000000 in
theorem lexQuoted_core (s : ByteArray) (m : UInt8) (w : World) (hs : s.size ≤ 512) (h0 : 1 ≤ s.size) (hm : s.extract 0 1 = ⟨#[m]⟩) (R : Option (List UInt8 × List UInt8)) (hR : R = quotedM m [] (s.data.toList.drop 1)) :
    Calls Tryz.prog 86 #[.string s] w (Q (quotedV s.size R) w) := by
  have HM := Lib.hid hm
  have HR := Lib.hid hR
  clear hm hR
  go_enter Tryz.func86, Tryz.ntmps86
  go_wp2_with fail
  go_step3
  go_wp2_with fail
  rw [HM.out]
  go_step3
  go_wp2_with fail
  go_loopg [5, 6] s.size (fun gf v5 v6 wx => ∃ (n : Nat) (o : ByteArray), v5 = .int .i64 (n : Int) ∧ v6 = .string o ∧ n ≤ s.size ∧ s.size < n + gf ∧ o.size ≤ n ∧ Below w.heap.size w wx ∧ Hid (quotedM m o.data.toList (s.data.toList.drop n) = R))
  case atStart => exact ⟨1, ⟨#[]⟩, rfl, rfl, h0, by omega, by show 0 ≤ 1; omega, Below.refl _ _, HR.out.symm⟩
  case round =>
    obtain ⟨n, o, rfl, rfl, hn, hfu, ho, hbw, HQ⟩ := hrel
    obtain ⟨g', rfl⟩ : ∃ g', gk = g' + 1 := ⟨gk - 1, by omega⟩
    have hrl : (s.extract n s.size).data.toList = s.data.toList.drop n := Lib.extract_to_end s n
    have hsz : s.data.toList.length = s.size := rfl
    by_cases h : (s.data.toList.drop n).contains m = true
    · obtain ⟨k, hk⟩ : ∃ k, k = ((s.data.toList.drop n).takeWhile (· != m)).length := ⟨_, rfl⟩
      have c1 := fun w => index_mark (s.extract n s.size) m w k (by rw [hrl, if_pos h, hk])
      have hkl : n + k + 1 ≤ s.size := by
        have := cut_parts _ m h
        rw [← hk, List.length_drop, hsz] at this
        omega
      have hdw : (s.data.toList.drop n).dropWhile (· != m) = s.data.toList.drop (n + k) := by
        rw [← Pl.drop_takeWhile, List.drop_drop, ← hk]
      have htl : ((s.data.toList.drop n).dropWhile (· != m)).tail = s.data.toList.drop (n + k + 1) := by
        rw [hdw, List.tail_drop]
      have hex : (s.extract n (n + k)).data.toList = (s.data.toList.drop n).takeWhile (· != m) := by
        rw [← Pl.take_takeWhile, ← hk]
        rw [ByteArray.data_extract, Array.toList_extract, List.extract_eq_take_drop]
        congr 1; omega
      have hq := quotedM_yes m _ o.data.toList h
      rw [htl, List.tail_drop, ← hex, HQ.out] at hq
      have c2 := prefix_one (s.extract (n + k + 1) s.size) m
      rw [Lib.extract_to_end] at c2
      have hes : (s.extract n (n + k)).size = k := by rw [ByteArray.size_extract]; omega
      have hos : (o ++ s.extract n (n + k)).size ≤ n + k := by rw [ByteArray.size_append, hes]; omega
      have C1 := Lib.hid c1
      have HQ2 := Lib.hid hq
      have HES := Lib.hid hes
      have HOS := Lib.hid hos
      have HX := Lib.hid hex
      clear c1 hq hex hes hos hdw htl hk h hrl HQ
      cases hb : ((s.data.toList.drop (n + k + 1)).head? == some m) with
      | true =>
        rw [hb] at c2
        have C2 := Lib.hid c2
        have hlt := head_lt hb
        rw [hsz] at hlt
        have HE : Hid (quotedM m (o ++ s.extract n (n + k) ++ ⟨#[m]⟩).data.toList (s.data.toList.drop (n + k + 2)) = R) := by
          show _ = _
          rw [HQ2.out, if_pos (by simpa using hb)]; simp
        clear c2 hb HQ2 hsz
        go_wp2_with fail
        refine (C1.out _).mono ?_
        rintro e w1 ⟨rfl, rfl⟩
        go_wp2_with fail
        refine (C2.out _).mono ?_
        rintro e w1 ⟨rfl, rfl⟩
        go_wp2_with fail
        go_roundg g'
        case measure => omega
        case rel => exact ⟨n + k + 2, o ++ s.extract n (n + k) ++ ⟨#[m]⟩, by go_num, rfl, by omega, by omega, by rw [ByteArray.size_append]; have := HOS.out; show _ + 1 ≤ _; omega, hbw, HE⟩
      | false =>
        rw [hb] at c2
        have C2 := Lib.hid c2
        have HE : Hid (quotedV s.size R = .tuple #[.int .i64 ((n + k + 1 : Nat) : Int), .string (o ++ s.extract n (n + k))]) := by
          show _ = _
          rw [HQ2.out, if_neg (by simpa using hb)]
          unfold quotedV
          dsimp only
          rw [List.length_drop, hsz]
          have e1 : s.size - (s.size - (n + k + 1)) = n + k + 1 := by omega
          have e2 : (⟨(o.data.toList ++ (s.extract n (n + k)).data.toList).toArray⟩ : ByteArray) = o ++ s.extract n (n + k) := by
            apply ByteArray.ext; rw [← Array.toList_inj]; simp
          rw [e1, e2]
        clear c2 hb HQ2 hsz
        go_wp2_with fail
        refine (C1.out _).mono ?_
        rintro e w1 ⟨rfl, rfl⟩
        go_wp2_with fail
        refine (C2.out _).mono ?_
        rintro e w1 ⟨rfl, rfl⟩
        go_wp2_with fail
        try rw [Exit.noGoto_ret]
        go_ret2
        exact ⟨by rw [HE.out]; rfl, hbw⟩
    · have h' : (s.data.toList.drop n).contains m = false := by simpa using h
      have C1 := Lib.hid (fun w => index_mark (s.extract n s.size) m w (-1) (by rw [hrl, h']; rfl))
      have HE : Hid (R = none) := by show _ = _; rw [← HQ.out, quotedM_no _ _ _ h']
      clear h h' hrl HQ
      go_wp2_with fail
      refine (C1.out _).mono ?_
      rintro e w1 ⟨rfl, rfl⟩
      go_wp2_with fail
      try rw [Exit.noGoto_ret]
      go_ret2
      exact ⟨by rw [HE.out]; rfl, hbw⟩
end Go.Proofs.YtfkiomjplpbmiaaGreatDoor

