/- utf.Xml: which texts may stand in XML. -/
import Derived.Test.YtegjainidiaeaaaGreatDoorLa
import Derived.Test.YtegjainidiaeaaaGreatDoorShelfV
import Derived.Lib.TrimU
import Derived.Lib.TrimUEq
namespace Go.Proofs.YtegjainidiaeaaaGreatDoor
open Go.RowKit Go.Lib

/-- May a character stand in XML? -/
def okR (r : Nat) : Bool := (r == 9 || r == 10 || r == 13) || !(decide (r < 32) || r == 65534 || r == 65535)
def xmlOk : Nat → List UInt8 → Bool
  | 0, _ => true
  | _ + 1, [] => true
  | f + 1, c :: l => okR (Lib.decodeL (c :: l)).1 && xmlOk f ((c :: l).drop (Lib.decodeL (c :: l)).2)
/-- What utf.Xml answers. -/
def xmlF (l : List UInt8) : Int := if Lib.validD l = true ∧ xmlOk l.length l = true then 0 else 20
theorem xmlF_two (l : List UInt8) : xmlF l = 0 ∨ xmlF l = 20 := by unfold xmlF; split <;> simp

theorem xmlOk_end (f : Nat) : xmlOk f [] = true := by cases f <;> rfl
theorem drop_cons (s : ByteArray) (pos : Nat) (h : pos < s.size) : ∃ c l, s.data.toList.drop pos = c :: l := by
  cases e : s.data.toList.drop pos with
  | nil =>
    have := congrArg List.length e
    rw [List.length_drop] at this
    have hz : s.data.toList.length = s.size := rfl
    simp at this; omega
  | cons c l => exact ⟨c, l, rfl⟩

set_option maxRecDepth 100000 in
set_option maxHeartbeats 8000000 in
theorem xml_valid (s : ByteArray) (b : Bool) (w : World) (hb : xmlOk s.size s.data.toList = b)
    (C : Hid (∀ w, Glob w → Calls Tryz.prog 68 #[.string s] w (Q (.bool true) w))) (hg : Glob w) :
    Calls Tryz.prog 35 #[.string s] w (Q (.int .i64 (if b then 0 else 20)) w) := by
  obtain ⟨V, hV⟩ : ∃ V : Int, (if b then 0 else 20) = V := ⟨_, rfl⟩
  rw [hV]
  have HV := Lib.hid hV
  have HG := Lib.hid hg
  have HBB := Lib.hid hb
  clear hg hV hb
  go_enter Tryz.func35, Tryz.ntmps35
  go_wp2_with fail
  refine (C.out _ HG.out).mono ?_
  rintro e w1 ⟨rfl, hb⟩
  have HB := Lib.hid hb
  have hzs := hb.size
  clear hb C
  go_wp2_with fail
  go_loopg [] s.size (fun gf wx => ∃ pos : Nat, wx.heap[w1.heap.size]? = some (.stringIter s pos) ∧ Below w1.heap.size w1 wx ∧ s.size ≤ pos + gf ∧ Hid (xmlOk gf (s.data.toList.drop pos) = b))
  case atStart => exact ⟨0, World.iter_heap w1 s 0, (Below.refl _ w1).alloc (Nat.le_refl _) _, by omega, HBB.out⟩
  case round =>
    obtain ⟨pos, hit, hbw, hfu, HQ⟩ := hrel
    by_cases hlt : pos < s.size
    · obtain ⟨g', rfl⟩ : ∃ g', gk = g' + 1 := ⟨gk - 1, by omega⟩
      obtain ⟨c, l, hcl⟩ := drop_cons s pos hlt
      have hdl := Lib.decodeL_drop s pos
      have hwp := Lib.width_pos s pos
      obtain ⟨r, hr⟩ : ∃ r, (Utf8.decode s pos).1 = r := ⟨_, rfl⟩
      obtain ⟨K, hK⟩ : ∃ K, (Utf8.decode s pos).2 = K := ⟨_, rfl⟩
      have hq := HQ.out
      rw [hcl, xmlOk, ← hcl, hdl, hr, hK, List.drop_drop] at hq
      have HQ2 := Lib.hid hq
      have hnx : ∀ ty, (Instr.next (.pointer (some ⟨w1.heap.size, 0, none⟩)) true ty).run Tryz.prog wr = _ := fun ty => Lib.run_next_any_at wr w1.heap.size s pos ty hit hlt
      rw [hr, hK] at hnx
      rw [hK] at hwp
      have hit2 := Lib.iterAt_heap wr w1.heap.size s pos (pos + K) hit
      have hbw2 := Lib.below_iterAt hbw (k := w1.heap.size) (Nat.le_refl _) s (pos + K)
      obtain ⟨W, hWd⟩ : ∃ W, wr.iterAt w1.heap.size s (pos + K) = W := ⟨_, rfl⟩
      rw [hWd] at hnx hit2 hbw2
      clear hWd hit hbw hq HQ hcl hdl hK hr
      have HI := Lib.hid hit2
      have HW := Lib.hid hbw2
      clear hit2 hbw2
      have HB2 := Lib.hid (bt HB.out HW.out)
      have HOK : Hid (okR r = true → xmlOk g' (s.data.toList.drop (pos + K)) = b) := fun h => by
        have := HQ2.out
        rw [h, Bool.true_and] at this
        exact this
      have HNO : Hid (okR r = false → V = 20) := fun h => by
        have := HQ2.out
        rw [h, Bool.false_and] at this
        rw [← HV.out, ← this]; rfl
      clear HQ2 HV HBB
      by_cases h9 : r = 9
      · subst h9
        have HQ2 := Lib.hid (HOK.out (by decide))
        clear HOK HNO
        go_wp2
        go_roundg g'
        case measure => omega
        case rel => exact ⟨pos + K, HI.out, HW.out, by omega, HQ2⟩
      · have n9 : ((r : Int) == 9) = false := by rw [beq_eq_false_iff_ne]; omega
        by_cases h10 : r = 10
        · subst h10
          have HQ2 := Lib.hid (HOK.out (by decide))
          clear HOK HNO
          go_wp2
          go_roundg g'
          case measure => omega
          case rel => exact ⟨pos + K, HI.out, HW.out, by omega, HQ2⟩
        · have n10 : ((r : Int) == 10) = false := by rw [beq_eq_false_iff_ne]; omega
          by_cases h13 : r = 13
          · subst h13
            have HQ2 := Lib.hid (HOK.out (by decide))
            clear HOK HNO
            go_wp2
            go_roundg g'
            case measure => omega
            case rel => exact ⟨pos + K, HI.out, HW.out, by omega, HQ2⟩
          · have n13 : ((r : Int) == 13) = false := by rw [beq_eq_false_iff_ne]; omega
            have hok : okR r = !(decide (r < 32) || r == 65534 || r == 65535) := by
              unfold okR
              have e1 : (r == 9) = false := by simpa using h9
              have e2 : (r == 10) = false := by simpa using h10
              have e3 : (r == 13) = false := by simpa using h13
              rw [e1, e2, e3]; rfl
            by_cases h32 : r < 32
            · have hR := Lib.hid (HNO.out (by rw [hok, decide_eq_true h32]; rfl))
              have d32 : decide ((r : Int) < 32) = true := decide_eq_true (by omega)
              clear HOK HNO hok h9 h10 h13
              go_wp2
              try rw [Exit.noGoto_ret]
              go_ret
              exact ⟨by rw [hR.out]; rfl, HB2.out⟩
            · have d32 : decide ((r : Int) < 32) = false := decide_eq_false (by omega)
              by_cases hfe : r = 65534
              · have hR := Lib.hid (HNO.out (by rw [hok, hfe]; rfl))
                have dfe : ((r : Int) == 65534) = true := by rw [beq_iff_eq]; omega
                clear HOK HNO hok h9 h10 h13 hfe
                go_wp2
                try rw [Exit.noGoto_ret]
                go_ret
                exact ⟨by rw [hR.out]; rfl, HB2.out⟩
              · have dfe : ((r : Int) == 65534) = false := by rw [beq_eq_false_iff_ne]; omega
                by_cases hff : r = 65535
                · have hR := Lib.hid (HNO.out (by rw [hok, hff]; rfl))
                  have dff : ((r : Int) == 65535) = true := by rw [beq_iff_eq]; omega
                  clear HOK HNO hok h9 h10 h13 hfe hff
                  go_wp2
                  try rw [Exit.noGoto_ret]
                  go_ret
                  exact ⟨by rw [hR.out]; rfl, HB2.out⟩
                · have dff : ((r : Int) == 65535) = false := by rw [beq_eq_false_iff_ne]; omega
                  have e1 : (r == 65534) = false := by simpa using hfe
                  have e2 : (r == 65535) = false := by simpa using hff
                  have HQ2 := Lib.hid (HOK.out (by rw [hok, decide_eq_false h32, e1, e2]; rfl))
                  clear HOK HNO hok h9 h10 h13 hfe hff e1 e2
                  go_wp2
                  go_roundg g'
                  case measure => omega
                  case rel => exact ⟨pos + K, HI.out, HW.out, by omega, HQ2⟩
    · have hnx : ∀ ty, (Instr.next (.pointer (some ⟨w1.heap.size, 0, none⟩)) true ty).run Tryz.prog wr = _ := fun ty => Lib.run_next_end_at wr w1.heap.size s pos ty hit hlt
      have hR : Hid (V = 0) := by
        show V = 0
        have h1 := HQ.out
        rw [List.drop_eq_nil_of_le (by show s.size ≤ pos; omega), xmlOk_end] at h1
        rw [← HV.out, ← h1]; rfl
      have HB2 := Lib.hid (bt HB.out hbw)
      clear HQ hit hbw
      go_wp2
      go_ret
      exact ⟨by rw [hR.out]; rfl, HB2.out⟩

set_option maxHeartbeats 1000000 in
theorem xml_not (s : ByteArray) (w : World)
    (C : Hid (∀ w, Glob w → Calls Tryz.prog 68 #[.string s] w (Q (.bool false) w))) (hg : Glob w) :
    Calls Tryz.prog 35 #[.string s] w (Q (.int .i64 20) w) := by
  have HG := Lib.hid hg
  clear hg
  go_enter Tryz.func35, Tryz.ntmps35
  go_wp2_with fail
  refine (C.out _ HG.out).mono ?_
  rintro e w1 ⟨rfl, hb⟩
  have HB := Lib.hid hb
  clear hb
  go_wp2_with fail
  go_ret
  exact ⟨rfl, HB.out⟩

theorem xml_any (s : ByteArray) (w : World) (hs : s.size ≤ 9223372036854775807) (hg : Glob w) :
    Calls Tryz.prog 35 #[.string s] w (Q (.int .i64 (xmlF s.data.toList)) w) := by
  have C : ∀ w, Glob w → Calls Tryz.prog 68 #[.string s] w (Q (.bool (Lib.validD s.data.toList)) w) := fun w hg => Tryz.utf8_ValidString s w hs hg.utf
  unfold xmlF
  have hsz : s.data.toList.length = s.size := rfl
  cases hv : Lib.validD s.data.toList with
  | false =>
    rw [hv] at C
    rw [if_neg (fun h => by cases h.1)]
    exact xml_not s w (Lib.hid C) hg
  | true =>
    rw [hv] at C
    have h := xml_valid s _ w rfl (Lib.hid C) hg
    rw [hsz]
    cases hx : xmlOk s.size s.data.toList with
    | false => rw [hx] at h; rw [if_neg (fun h => by cases h.2)]; exact h
    | true => rw [hx] at h; rw [if_pos ⟨rfl, rfl⟩]; exact h
end Go.Proofs.YtegjainidiaeaaaGreatDoor
