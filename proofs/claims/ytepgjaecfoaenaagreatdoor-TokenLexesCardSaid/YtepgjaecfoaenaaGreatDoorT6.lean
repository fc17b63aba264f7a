/- The law TokenLexes. -/
import Derived.Test.YtepgjaecfoaenaaGreatDoorS6
import Derived.Test.YtepgjaecfoaenaaGreatDoorT4
namespace Go.Proofs.YtepgjaecfoaenaaGreatDoor
open Go.RowKit
set_option linter.unusedVariables false
set_option linter.unusedSimpArgs false

set_option maxRecDepth 100000 in
set_option maxHeartbeats 4000000 in
theorem Lexes_calls (l : List UInt8) (w : World) (hs : l.length ≤ 9223372036854775000) :
    Calls Tryz.prog 9 #[.string (S l)] w fun e w' => e = .returned (.bool true) ∧ Below w.heap.size w w' := by
  obtain ⟨s, hS⟩ : ∃ s, s = l.take 20001 := ⟨_, rfl⟩
  have ls : s.length ≤ 20001 := by rw [hS, List.length_take]; omega
  have HS := Lib.hid hS
  clear hS
  go_enter Tryz.func9, Tryz.ntmps9
  go_wp2_with fail
  refine (Short_same l w (by omega)).mono ?_
  rw [← HS.out]
  rintro e w1 ⟨rfl, rfl⟩
  go_wp2_with fail
  refine (Lex_any s w (by omega)).mono ?_
  rintro e w2 ⟨v, rfl, hown, hb2⟩
  have hx : ReadT w2 v (lexR s).1 := hown.read (by have := lexR_len s; omega)
  have HX := Lib.hid hx
  clear hx hown
  go_wp2_with fail
  refine (Words_calls w2).mono ?_
  rintro e w3 ⟨g1, c1, rfl, hg1, hc1, hb3⟩
  go_wp2_with fail
  refine (RWords_calls w3).mono ?_
  rintro e w4 ⟨g2, c2, rfl, hg2, hc2, hb4⟩
  have hc1' : ∀ k, k < wordsL.length → w4.cell? ⟨g1, k, none⟩ = some (.string (S (strAt wordsL k))) := fun k hk => by rw [hb4.cell (p := ⟨g1, k, none⟩) hg1]; exact hc1 k hk
  have hg1' : g1 < w4.heap.size := by have := hb4.size; omega
  clear hc1
  go_wp2_with fail
  refine (texts_calls g1 c1 g2 c2 wordsL w4 (by decide) hg1' hg2 hc1' hc2).mono ?_
  rintro e w5 ⟨rfl, hb5⟩
  have hb25 := bel_then (bel_then hb3 hb4) hb5
  clear hc1' hc2 hb3 hb4 hb5
  go_wp2_with fail
  refine (Signs_calls w5).mono ?_
  rintro e w6 ⟨g3, c3, rfl, hg3, hc3, hb6⟩
  go_wp2_with fail
  refine (RSigns_calls w6).mono ?_
  rintro e w7 ⟨g4, c4, rfl, hg4, hc4, hb7⟩
  have hc3' : ∀ k, k < signsL.length → w7.cell? ⟨g3, k, none⟩ = some (.string (S (strAt signsL k))) := fun k hk => by rw [hb7.cell (p := ⟨g3, k, none⟩) hg3]; exact hc3 k hk
  have hg3' : g3 < w7.heap.size := by have := hb7.size; omega
  clear hc3
  go_wp2_with fail
  refine (texts_calls g3 c3 g4 c4 signsL w7 (by decide) hg3' hg4 hc3' hc4).mono ?_
  rintro e w8 ⟨rfl, hb8⟩
  have hb28 := bel_then (bel_then (bel_then hb25 hb6) hb7) hb8
  have HX8 := Lib.hid (HX.out.below hb28)
  have hb := bel_then hb2 hb28
  clear hc3' hc4 hb6 hb7 hb8 hb25 hb28 hb2 HX
  by_cases hlong : 20000 < s.length
  · have e1 : lexR s = ([], 3) := by unfold lexR; rw [if_pos hlong]
    have hlb : decide ((s.length : Int) > 20000) = true := by rw [decide_eq_true_eq]; omega
    rw [e1] at HX8 ⊢
    obtain ⟨A, c, rfl, -, -⟩ := HX8.out
    clear hlong e1
    go_wp2_with fail
    refine (alive_calls _).mono ?_
    rintro e w9 ⟨rfl, hb9⟩
    go_wp2
    go_ret
    exact ⟨rfl, bel_then hb hb9⟩
  · have e1 : lexR s = (lex s, 0) := by unfold lexR; rw [if_neg hlong]
    have hlb : decide ((s.length : Int) > 20000) = false := by rw [decide_eq_false_iff_not]; omega
    rw [e1] at HX8 ⊢
    have hl2 : s.length ≤ 20000 := by omega
    clear hlong e1
    go_wp2_with fail
    refine (RLex_calls s _ hl2).mono ?_
    rintro e w9 ⟨u, rfl, hown9, hb9⟩
    have hy : ReadT w9 u (lex s) := hown9.read (by have := lex_length s; omega)
    have HY := Lib.hid hy
    clear hown9 hy
    go_wp2_with fail
    refine (Same_calls v u (lex s) (lex s) w9 (HX8.out.below hb9) HY.out).mono ?_
    rw [show decide (lex s = lex s) = true from decide_eq_true rfl]
    rintro e w10 ⟨rfl, hb10⟩
    go_wp2_with fail
    refine (alive_calls _).mono ?_
    rintro e w11 ⟨rfl, hb11⟩
    go_wp2
    go_ret
    exact ⟨rfl, bel_then (bel_then (bel_then hb hb9) hb10) hb11⟩

end Go.Proofs.YtepgjaecfoaenaaGreatDoor
