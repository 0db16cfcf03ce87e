/- quirelaw11.LexBack, walked over what dec.Parse and utf.Xml answer. -/
import Derived.Test.YtegjainidiaeaaaGreatDoorLs
namespace Go.Proofs.YtegjainidiaeaaaGreatDoor
open Go.RowKit Go.Lib

set_option maxRecDepth 100000 in
set_option maxHeartbeats 16000000 in
theorem back_walk (s q S : ByteArray) (l : List UInt8) (x : Int) (hx : x = 0 ∨ x = 3 ∨ x = 20) (b : Bool) (k : Nat) (t : Tok) (w : World)
    (hl : (⟨l.toArray⟩ : ByteArray) = s)
    (CQ : Hid (∀ w, Glob w → Calls Tryz.prog 12 #[.string s] w (Q (.string q) w)))
    (CL : Hid (∀ w, Glob w → Calls Tryz.prog 7 #[.string q] w fun e w' => ∃ v, e = .returned (.tuple #[v, .int .i64 0, .int .i64 x]) ∧ (x = 0 → TokS w' v [(0, ⟨2, l, 0, 0, tok0.r⟩)]) ∧ Below w.heap.size w w'))
    (CW : Hid (∀ w, Glob w → Calls Tryz.prog 10 #[.string s] w (Q (.bool b) w)))
    (CA : Hid (∀ w, Glob w → Calls Tryz.prog 9 #[] w (Q (.bool true) w)))
    (hk : t.kind = 4) (hS : (⟨t.s.toArray⟩ : ByteArray) = S) (hSs : (S.toList == s.toList) = true)
    (CM : Hid (b = true → ∀ w, Glob w → Calls Tryz.prog 7 #[.string s] w fun e w' => ∃ v, e = .returned (.tuple #[v, .int .i64 0, .int .i64 0]) ∧ TokS w' v [(k, t)] ∧ Below w.heap.size w w'))
    (hg : Glob w) :
    Calls Tryz.prog 6 #[.string s] w (Q (.bool true) w) := by
  have HG := Lib.hid hg
  have HL := Lib.hid hl
  have HK := Lib.hid hk
  have HS := Lib.hid hS
  have HSS := Lib.hid hSs
  have hss : (s.toList == s.toList) = true := by simp
  clear hg hl hk hS hSs
  go_enter Tryz.func6, Tryz.ntmps6
  go_wp2_with fail
  refine (CQ.out _ HG.out).mono ?_
  rintro e w1 ⟨rfl, hb⟩
  have HB := Lib.hid hb
  clear hb
  go_wp2_with fail
  refine (CL.out _ (HG.out.below HB.out)).mono ?_
  rintro e w2 ⟨v, rfl, ht, hb⟩
  replace HB := Lib.hid (bt HB.out hb)
  clear hb CL CQ
  rcases hx with rfl | rfl | rfl
  · obtain ⟨g1, cap1, rfl, hn1, hm1, k1⟩ := (ht rfl).some (n := 1) rfl (by decide)
    have a0 := k1.c 0 _ rfl
    have a2 := k1.c 2 _ rfl
    dsimp only at a0 a2
    rw [HL.out] at a2
    clear k1 ht
    go_wp2_with fail
    refine (CW.out _ (HG.out.below HB.out)).mono ?_
    rintro e w3 ⟨rfl, hb⟩
    replace HB := Lib.hid (bt HB.out hb)
    clear hb a0 a2
    cases b with
    | false =>
      go_wp2_with fail
      refine (CA.out _ (HG.out.below HB.out)).mono ?_
      rintro e w4 ⟨rfl, hb⟩
      replace HB := Lib.hid (bt HB.out hb)
      clear hb
      go_wp2_with fail
      go_ret
      exact ⟨rfl, HB.out⟩
    | true =>
      replace CM := Lib.hid (CM.out rfl)
      go_wp2_with fail
      refine (CM.out _ (HG.out.below HB.out)).mono ?_
      rintro e w4 ⟨v, rfl, ht, hb⟩
      replace HB := Lib.hid (bt HB.out hb)
      obtain ⟨g2, cap2, rfl, hn2, hm2, k2⟩ := ht.some (n := 1) rfl (by decide)
      have a0 := k2.c 0 _ rfl
      have a2 := k2.c 2 _ rfl
      dsimp only at a0 a2
      rw [HK.out] at a0
      rw [HS.out] at a2
      have hss2 := HSS.out
      clear hb k2 ht
      go_wp2_with fail
      refine (CA.out _ (HG.out.below HB.out)).mono ?_
      rintro e w5 ⟨rfl, hb⟩
      replace HB := Lib.hid (bt HB.out hb)
      clear hb
      go_wp2_with fail
      go_ret
      exact ⟨rfl, HB.out⟩
  all_goals
    clear ht
    go_wp2_with fail
    refine (CW.out _ (HG.out.below HB.out)).mono ?_
    rintro e w3 ⟨rfl, hb⟩
    replace HB := Lib.hid (bt HB.out hb)
    clear hb
    cases b with
    | false =>
      go_wp2_with fail
      refine (CA.out _ (HG.out.below HB.out)).mono ?_
      rintro e w4 ⟨rfl, hb⟩
      replace HB := Lib.hid (bt HB.out hb)
      clear hb
      go_wp2_with fail
      go_ret
      exact ⟨rfl, HB.out⟩
    | true =>
      replace CM := Lib.hid (CM.out rfl)
      go_wp2_with fail
      refine (CM.out _ (HG.out.below HB.out)).mono ?_
      rintro e w4 ⟨v, rfl, ht, hb⟩
      replace HB := Lib.hid (bt HB.out hb)
      obtain ⟨g2, cap2, rfl, hn2, hm2, k2⟩ := ht.some (n := 1) rfl (by decide)
      have a0 := k2.c 0 _ rfl
      have a2 := k2.c 2 _ rfl
      dsimp only at a0 a2
      rw [HK.out] at a0
      rw [HS.out] at a2
      have hss2 := HSS.out
      clear hb k2 ht
      go_wp2_with fail
      refine (CA.out _ (HG.out.below HB.out)).mono ?_
      rintro e w5 ⟨rfl, hb⟩
      replace HB := Lib.hid (bt HB.out hb)
      clear hb
      go_wp2_with fail
      go_ret
      exact ⟨rfl, HB.out⟩

theorem wordM_yes {one : List UInt8 → One} {l : List UInt8} (h : wordM one l = true) : l.length ≤ 512 ∧ ∃ k t, lexA one l = .ok [(k, t)] ∧ t.kind = 4 ∧ t.s = l := by
  unfold wordM at h
  split at h
  · cases h
  · rename_i hn
    refine ⟨by omega, ?_⟩
    split at h
    · rename_i k t ht
      rw [Bool.and_eq_true] at h
      exact ⟨k, t, ht, by simpa using h.1, by simpa using h.2⟩
    · cases h

theorem back_law {D : FD} {X : FX} (hD : DecIs D) (hX : XmlIs X) (hD1 : D [49, 46, 53] = (0, 15, -1)) (hX1 : X [120, 34, 121] = 0) (hX2 : ∀ l, X l = 0 ∨ X l = 20) (s : ByteArray) (w : World) (hs : s.size ≤ 4294967280) (hg : Glob w) :
    Calls Tryz.prog 6 #[.string s] w (Q (.bool true) w) := by
  have CQ := Lib.hid fun w hg => lexQuote_any s w hs hg
  have CW := Lib.hid fun w hg => wordM_any hD hX s w hg
  have CA := Lib.hid fun w hg => alive_any hD hX hD1 hX1 w hg
  have hlex := lex_quote D X s.data.toList
  obtain ⟨x, hx, CL⟩ : ∃ x : Int, (x = 0 ∨ x = 3 ∨ x = 20) ∧ ∀ w, Glob w → Calls Tryz.prog 7 #[.string ⟨(quoteL s.data.toList).toArray⟩] w fun e w' => ∃ v, e = .returned (.tuple #[v, .int .i64 0, .int .i64 x]) ∧ (x = 0 → TokS w' v [(0, ⟨2, s.data.toList, 0, 0, tok0.r⟩)]) ∧ Below w.heap.size w w' := by
    by_cases h512 : 512 < (⟨(quoteL s.data.toList).toArray⟩ : ByteArray).size
    · exact ⟨3, Or.inr (Or.inl rfl), fun w _ => (lex_long _ w h512).mono fun e w' ⟨he, hb⟩ => ⟨_, he, (fun h => by cases h), hb⟩⟩
    · have hq : (⟨(quoteL s.data.toList).toArray⟩ : ByteArray).data.toList = quoteL s.data.toList := str_data _
      rw [← hq] at hlex
      by_cases h255 : 255 < s.data.toList.length
      · rw [if_pos h255] at hlex
        exact ⟨3, Or.inr (Or.inl rfl), fun w hg => (lex_err hD hX _ w (by omega) hg hlex).mono fun e w' ⟨he, hb⟩ => ⟨_, he, (fun h => by cases h), hb⟩⟩
      · rw [if_neg h255] at hlex
        by_cases hxl : X s.data.toList = 0
        · rw [if_neg (by rw [hxl]; decide)] at hlex
          exact ⟨0, Or.inl rfl, fun w hg => (lex_ok hD hX _ w (by omega) hg hlex).mono fun e w' ⟨v, he, ht, hb⟩ => ⟨v, he, fun _ => ht, hb⟩⟩
        · rw [if_pos hxl] at hlex
          exact ⟨X s.data.toList, Or.inr (Or.inr ((hX2 _).resolve_left hxl)), fun w hg => (lex_err hD hX _ w (by omega) hg hlex).mono fun e w' ⟨he, hb⟩ => ⟨_, he, (fun h => absurd h hxl), hb⟩⟩
  cases hb : wordM (oneM parseF D X) s.data.toList with
  | false =>
    rw [hb] at CW
    exact back_walk s _ s s.data.toList x hx false 0 ⟨4, s.data.toList, 0, 0, tok0.r⟩ w (bytes_eq s) CQ (Lib.hid CL) CW CA rfl (bytes_eq s) (by simp) (Lib.hid fun h => by cases h) hg
  | true =>
    rw [hb] at CW
    obtain ⟨h512, k, t, ht, hk, hts⟩ := wordM_yes hb
    exact back_walk s _ s s.data.toList x hx true k t w (bytes_eq s) CQ (Lib.hid CL) CW CA hk (by rw [hts, bytes_eq]) (by simp) (Lib.hid fun _ w hg => lex_ok hD hX s w h512 hg ht) hg
end Go.Proofs.YtegjainidiaeaaaGreatDoor
