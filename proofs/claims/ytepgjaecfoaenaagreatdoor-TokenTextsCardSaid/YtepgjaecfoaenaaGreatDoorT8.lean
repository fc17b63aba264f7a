/- The law TokenTexts. -/
import Derived.Test.YtepgjaecfoaenaaGreatDoorS11
namespace Go.Proofs.YtepgjaecfoaenaaGreatDoor
open Go.RowKit
set_option linter.unusedVariables false
set_option linter.unusedSimpArgs false

set_option maxRecDepth 100000 in
set_option maxHeartbeats 8000000 in
theorem Texts_calls (v : Value) (ts : List Tok) (o : Int) (w : World) (h : ReadT w v ts) (ho1 : -9223372036854775808 ≤ o) (ho2 : o ≤ 9223372036854775807) :
    Calls Tryz.prog 11 #[v, .int .i64 o] w fun e w' => e = .returned (.bool true) ∧ Below w.heap.size w w' := by
  have HR := Lib.hid h
  obtain ⟨A, c, rfl, -, -⟩ := h
  go_enter Tryz.func11, Tryz.ntmps11
  go_wp2_with fail
  refine (RCut_calls _ ts w HR.out).mono ?_
  rintro e w1 ⟨u, rfl, hown1, hb1⟩
  have hlen := cutL_length ts
  have htl := cutL_text ts
  have hr1 := hown1.read (by omega)
  obtain ⟨cs, hcs⟩ : ∃ cs, cs = cutL ts := ⟨_, rfl⟩
  rw [← hcs] at hr1 hlen htl
  have hcl : cs.length ≤ 20001 := by omega
  have HR1 := Lib.hid hr1
  clear hown1 hlen hcs HR hr1
  go_wp2_with fail
  refine (Text_calls u cs w1 HR1.out).mono ?_
  rintro e w2 ⟨rfl, hb2⟩
  have HR2 := Lib.hid (HR1.out.below hb2)
  have hb12 := bel_then hb1 hb2
  go_wp2_with fail
  refine (At_calls u cs o w2 HR2.out ho1 ho2).mono ?_
  rintro e w3 ⟨rfl, hb3⟩
  have HR3 := Lib.hid (HR2.out.below hb3)
  have hb13 := bel_then hb12 hb3
  go_wp2_with fail
  refine (RCheck_calls u cs w3 HR3.out htl).mono ?_
  rintro e w4 ⟨rfl, hb4⟩
  have HR4 := Lib.hid (HR3.out.below hb4)
  have hb14 := bel_then hb13 hb4
  clear hb1 hb2 hb3 hb4 hb12 hb13 HR1 HR2 HR3
  obtain ⟨E, hE⟩ : ∃ E, E = textErr cs := ⟨_, rfl⟩
  obtain ⟨T, hT⟩ : ∃ T, T = textRes cs := ⟨_, rfl⟩
  obtain ⟨a, ha⟩ : ∃ a, a = atRes cs o := ⟨_, rfl⟩
  obtain ⟨f, hf⟩ : ∃ f, f = atErr cs o := ⟨_, rfl⟩
  rw [← hE, ← hT, ← ha, ← hf]
  have hcase : (E ≠ 0 ∧ T = [] ∧ a = 0 ∧ f = E) ∨ (E = 0 ∧ T = textOf cs ∧ (o < 0 ∨ (T.length : Int) < o) ∧ a = 0 ∧ f = 2) ∨ (E = 0 ∧ T = textOf cs ∧ 0 ≤ o ∧ o ≤ (T.length : Int) ∧ a = atIdx cs o 0 ∧ f = 0) := by
    by_cases h0 : textErr cs = 0
    · have hT2 : T = textOf cs := by rw [hT]; exact textRes_ok cs h0
      by_cases hoo : o < 0 ∨ (textOf cs).length < o
      · have e2 : atErr cs o = 2 := by unfold atErr; rw [if_neg (by simp [h0]), if_pos hoo]
        exact .inr (.inl ⟨by rw [hE]; exact h0, hT2, by rw [hT2]; exact hoo, by rw [ha]; unfold atRes; rw [e2]; rfl, by rw [hf]; exact e2⟩)
      · have e2 : atErr cs o = 0 := by unfold atErr; rw [if_neg (by simp [h0]), if_neg hoo]
        exact .inr (.inr ⟨by rw [hE]; exact h0, hT2, by omega, by rw [hT2]; omega, by rw [ha]; unfold atRes; rw [if_pos e2], by rw [hf]; exact e2⟩)
    · have e2 : atErr cs o = textErr cs := by unfold atErr; rw [if_pos h0]
      exact .inl ⟨by rw [hE]; exact h0, by rw [hT]; exact textRes_ne cs h0, by rw [ha]; unfold atRes; rw [if_neg (by rw [e2]; exact h0)], by rw [hf, hE]; exact e2⟩
  clear hE hT ha hf
  rcases hcase with ⟨h0, rfl, rfl, rfl⟩ | ⟨rfl, hT2, hoo, rfl, rfl⟩ | ⟨rfl, hT2, h1, h2, ha2, rfl⟩
  · have b1 : (f != 0) = true := by simpa using h0
    have b2 : (f == f) = true := by simp
    clear h0
    go_wp2_with fail
    refine (alive_calls _).mono ?_
    rintro e w5 ⟨rfl, hb5⟩
    go_wp2
    go_ret
    exact ⟨rfl, bel_then hb14 hb5⟩
  · have HT2 := Lib.hid hT2; clear hT2
    go_wp2_with fail
    refine (RText_calls u cs w4 HR4.out htl).mono ?_
    rw [← HT2.out]
    rintro e w5 ⟨rfl, hb5⟩
    have hb15 := bel_then hb14 hb5
    have t1 : (T != T) = false := by simp
    have hs : decide (o < 0) = true ∨ (decide (o < 0) = false ∧ decide (o > (T.length : Int)) = true) := by
      by_cases h : o < 0
      · exact .inl (decide_eq_true h)
      · exact .inr ⟨decide_eq_false h, decide_eq_true (by omega)⟩
    clear hoo
    rcases hs with h1 | ⟨h1, h2⟩
    all_goals go_wp2_with fail
    all_goals refine (alive_calls _).mono ?_
    all_goals rintro e w6 ⟨rfl, hb6⟩
    all_goals go_wp2
    all_goals go_ret
    all_goals exact ⟨rfl, bel_then hb15 hb6⟩
  · have HT2 := Lib.hid hT2; clear hT2
    have HA2 := Lib.hid ha2; clear ha2
    go_wp2_with fail
    refine (RText_calls u cs w4 HR4.out htl).mono ?_
    rw [← HT2.out]
    rintro e w5 ⟨rfl, hb5⟩
    have hb15 := bel_then hb14 hb5
    have t1 : (T != T) = false := by simp
    have d1 : decide (o < 0) = false := by rw [decide_eq_false_iff_not]; omega
    have d2 : decide (o > (T.length : Int)) = false := by rw [decide_eq_false_iff_not]; omega
    have HR5 := Lib.hid (HR4.out.below hb5)
    clear h1 h2
    go_wp2_with fail
    refine (RAt_calls u cs o w5 HR5.out htl).mono ?_
    rw [← HA2.out]
    rintro e w6 ⟨rfl, rfl⟩
    have t2 : (a == a) = true := by simp
    go_wp2_with fail
    refine (alive_calls _).mono ?_
    rintro e w7 ⟨rfl, hb7⟩
    go_wp2
    go_ret
    exact ⟨rfl, bel_then hb15 hb7⟩

end Go.Proofs.YtepgjaecfoaenaaGreatDoor
