/- The reference's Apart. -/
import Derived.Test.YtepgjaecfoaenaaGreatDoorS12
namespace Go.Proofs.YtepgjaecfoaenaaGreatDoor
open Go.RowKit
set_option linter.unusedVariables false
set_option linter.unusedSimpArgs false

theorem are_eq {s t : Tok} (h : s.text.length + t.text.length ≤ 20000) : areB [s, t] = decide (lex (s.text ++ t.text) = [s, t]) := by
  unfold areB textErr
  rw [textOf_two, if_neg (by simp; omega)]
  by_cases hx : lex (s.text ++ t.text) = [s, t]
  · rw [if_pos hx, decide_eq_true hx]; rfl
  · rw [if_neg hx, decide_eq_false hx]; rfl
theorem are_long {s t : Tok} (h : 20000 < s.text.length + t.text.length) : areB [s, t] = false := by
  unfold areB textErr
  rw [textOf_two, if_pos (by simp; omega)]; rfl

set_option maxRecDepth 100000 in
set_option maxHeartbeats 8000000 in
theorem RApart_calls (s t : Tok) (w : World) (hs : s.text.length ≤ 9223372036854775000) (ht : t.text.length ≤ 9223372036854775000) :
    Calls Tryz.prog 34 #[.agg #[.int .i64 s.kind, .string (S s.text)], .agg #[.int .i64 t.kind, .string (S t.text)]] w fun e w' => e = .returned (.bool (apartB s t)) ∧ Below w.heap.size w w' := by
  obtain ⟨W0, hW0⟩ : ∃ W0, W0 = (w.alloc (.cells #[.int .i64 s.kind, .string (S s.text)] 23)).alloc (.cells #[.int .i64 t.kind, .string (S t.text)] 23) := ⟨_, rfl⟩
  have hb0 : Below w.heap.size w W0 := by rw [hW0]; exact bel_alloc (bel_alloc (Below.refl _ _) _) _
  have p0 : W0.cell? ⟨w.heap.size, 0, none⟩ = some (.int .i64 s.kind) := by rw [hW0]; simp
  have p1 : W0.cell? ⟨w.heap.size, 1, none⟩ = some (.string (S s.text)) := by rw [hW0]; simp
  have p2 : W0.cell? ⟨w.heap.size + 1, 0, none⟩ = some (.int .i64 t.kind) := by rw [hW0]; simp
  have p3 : W0.cell? ⟨w.heap.size + 1, 1, none⟩ = some (.string (S t.text)) := by rw [hW0]; simp
  have hz0 : w.heap.size < W0.heap.size := by rw [hW0]; simp; omega
  have hz1 : w.heap.size + 1 < W0.heap.size := by rw [hW0]; simp
  have r0 := cell_regrown p0
  have r1 := cell_regrown p1
  have r2 := cell_regrown p2
  have r3 := cell_regrown p3
  have c1 : ∀ d os, Calls Tryz.prog 18 #[.agg #[.int .i64 s.kind, .string (S s.text)]] (Sort.grow (redrawn W0 d) os) fun e w'' => e = .returned (.bool (isTokB s)) ∧ ∃ p : Regrown, w'' = Sort.grow (redrawn W0 p.d) p.os :=
    fun d os => Calls.regrown_of (RIsToken_calls s _ hs)
  have c2 : ∀ d os, Calls Tryz.prog 18 #[.agg #[.int .i64 t.kind, .string (S t.text)]] (Sort.grow (redrawn W0 d) os) fun e w'' => e = .returned (.bool (isTokB t)) ∧ ∃ p : Regrown, w'' = Sort.grow (redrawn W0 p.d) p.os :=
    fun d os => Calls.regrown_of (RIsToken_calls t _ ht)
  unfold apartB
  have hcase : isTokB s = false ∨ (isTokB s = true ∧ isTokB t = false) ∨ (isTokB s = true ∧ isTokB t = true ∧ 20000 < s.text.length + t.text.length) ∨ (isTokB s = true ∧ isTokB t = true ∧ s.text.length + t.text.length ≤ 20000) := by
    cases isTokB s <;> cases isTokB t <;> simp <;> omega
  have esum : isTokB s = true → isTokB t = true → IntKind.i64.wrap ((s.text.length : Int) + (t.text.length : Int)) = (s.text.length : Int) + (t.text.length : Int) := fun h1 h2 => by
    have := (isTok_next h1).2.1; have := (isTok_next h2).2.1; exact wrapI _ (by omega)
  rcases hcase with k1 | ⟨k1, k2⟩ | ⟨k1, k2, k3⟩ | ⟨k1, k2, k3⟩
  case inr.inr.inr =>
    have es := esum k1 k2
    have d1 : decide ((s.text.length : Int) + (t.text.length : Int) ≤ 20000) = true := by rw [decide_eq_true_eq]; omega
    have m1 : ¬ 9223372036854775807 < s.text.length + t.text.length := by omega
    rw [k1, k2, are_eq k3]
    simp only [Bool.true_and]
    have KB : ∀ W : World, Below W0.heap.size W0 W → Below W0.heap.size W0 W ∧ W.cell? ⟨w.heap.size, 0, none⟩ = some (.int .i64 s.kind) ∧ W.cell? ⟨w.heap.size, 1, none⟩ = some (.string (S s.text)) ∧ W.cell? ⟨w.heap.size + 1, 0, none⟩ = some (.int .i64 t.kind) ∧ W.cell? ⟨w.heap.size + 1, 1, none⟩ = some (.string (S t.text)) :=
      fun W h => ⟨h, (h.cell (p := ⟨w.heap.size, 0, none⟩) hz0).trans p0, (h.cell (p := ⟨w.heap.size, 1, none⟩) hz0).trans p1, (h.cell (p := ⟨w.heap.size + 1, 0, none⟩) hz1).trans p2, (h.cell (p := ⟨w.heap.size + 1, 1, none⟩) hz1).trans p3⟩
    have KH := Lib.hid KB
    have hll : (s.text ++ t.text).length ≤ 20000 := by simp; omega
    clear KB r0 r1 r2 r3 c1 c2 p0 p1 p2 p3 esum k3
    go_enter Tryz.func34, Tryz.ntmps34
    go_wp2_with fail
    rw [← hW0]
    clear hW0
    go_region_held3 (fun W => Below W0.heap.size W0 W ∧ W.cell? ⟨w.heap.size, 0, none⟩ = some (.int .i64 s.kind) ∧ W.cell? ⟨w.heap.size, 1, none⟩ = some (.string (S s.text)) ∧ W.cell? ⟨w.heap.size + 1, 0, none⟩ = some (.int .i64 t.kind) ∧ W.cell? ⟨w.heap.size + 1, 1, none⟩ = some (.string (S t.text)))
      (first
        | assumption
        | exact KH.out _ (Below.refl _ _).drew
        | exact KH.out _ hq4
        | exact KH.out _ hq3
        | exact KH.out _ hq2
        | exact KH.out _ hq1
        | exact KH.out _ (bel_alloc hq3 _)
        | exact KH.out _ (bel_alloc hq2 _))
      (first
        | (go_at_call_of 18 (Value.int IntKind.i64 s.kind); refine (RIsToken_calls s _ hs).mono ?_; rw [k1]; rintro e w1 ⟨rfl, hb1⟩; have hq1 : Below W0.heap.size W0 w1 := bel_then (And.left (by assumption)) hb1)
        | (go_at_call_of 18 (Value.int IntKind.i64 t.kind); refine (RIsToken_calls t _ ht).mono ?_; rw [k2]; rintro e w2 ⟨rfl, hb2⟩; have hq2 : Below W0.heap.size W0 w2 := bel_then (And.left (by assumption)) hb2)
        | (go_at_call 32; refine (RLex_calls (s.text ++ t.text) _ hll).mono ?_; rintro e w3 ⟨u, rfl, hown3, hb3⟩; have hq3 : Below W0.heap.size W0 w3 := bel_then (And.left (by assumption)) hb3; have hr3 : ReadT w3 u (lex (s.text ++ t.text)) := hown3.read (by have := lex_length (s.text ++ t.text); omega))
        | (go_at_call_of 24 (World.heap w3).size; refine (Same_calls u _ (lex (s.text ++ t.text)) [s, t] _ (hr3.below (bel_alloc (Below.refl _ _) _)) (ReadT.two w3 s t)).mono ?_; rintro e w4 ⟨rfl, hb4⟩; have hq4 : Below W0.heap.size W0 w4 := bel_then (And.left (by assumption)) hb4)
        | (go_at_call_of 24 (World.heap w2).size; refine (Same_calls u _ (lex (s.text ++ t.text)) [s, t] _ hr3 ((ReadT.two w2 s t).below hb3)).mono ?_; rintro e w4 ⟨rfl, hb4⟩; have hq4 : Below W0.heap.size W0 w4 := bel_then (And.left (by assumption)) hb4))
    all_goals go_wp2
    all_goals go_ret
    all_goals exact ⟨rfl, bel_then hb0 hq4⟩
  case inr.inr.inl =>
    have es := esum k1 k2
    have d1 : decide ((s.text.length : Int) + (t.text.length : Int) ≤ 20000) = false := by rw [decide_eq_false_iff_not]; omega
    have d2 : decide (s.text.length + t.text.length ≤ 20000) = false := by rw [decide_eq_false_iff_not]; omega
    rw [k1] at c1
    rw [k2] at c2
    rw [k1, k2, are_long k3]
    simp only [Bool.true_and]
    clear p0 p1 p2 p3 esum k3
    go_enter Tryz.func34, Tryz.ntmps34
    go_wp2_with fail
    rw [← hW0]
    clear hW0
    refine wp_region_quiet_below (by first | assumption | kernel_rfl) (by kernel_rfl) ?_
    repeat (go_big_quiet_step (first | (go_at_call_of 18 (Value.int IntKind.i64 s.kind); exact c1 _ _) | (go_at_call_of 18 (Value.int IntKind.i64 t.kind); exact c2 _ _)))
    refine wpQuiet_nil ?_
    intro _ hw'
    obtain ⟨⟨dq, osq⟩, hw''⟩ := hw'
    subst hw''
    have hbr := below_regrown W0 dq osq
    go_wp2
    go_ret
    exact ⟨rfl, bel_then hb0 hbr⟩
  case inr.inl =>
    rw [k1] at c1
    rw [k2] at c2
    rw [k1, k2]
    simp only [Bool.true_and, Bool.false_and]
    clear p0 p1 p2 p3 esum
    go_enter Tryz.func34, Tryz.ntmps34
    go_wp2_with fail
    rw [← hW0]
    clear hW0
    refine wp_region_quiet_below (by first | assumption | kernel_rfl) (by kernel_rfl) ?_
    repeat (go_big_quiet_step (first | (go_at_call_of 18 (Value.int IntKind.i64 s.kind); exact c1 _ _) | (go_at_call_of 18 (Value.int IntKind.i64 t.kind); exact c2 _ _)))
    refine wpQuiet_nil ?_
    intro _ hw'
    obtain ⟨⟨dq, osq⟩, hw''⟩ := hw'
    subst hw''
    have hbr := below_regrown W0 dq osq
    go_wp2
    go_ret
    exact ⟨rfl, bel_then hb0 hbr⟩
  case inl =>
    rw [k1] at c1
    rw [k1]
    simp only [Bool.false_and]
    clear p0 p1 p2 p3 esum c2
    go_enter Tryz.func34, Tryz.ntmps34
    go_wp2_with fail
    rw [← hW0]
    clear hW0
    refine wp_region_quiet_below (by first | assumption | kernel_rfl) (by kernel_rfl) ?_
    repeat (go_big_quiet_step (first | (go_at_call 18; exact c1 _ _)))
    refine wpQuiet_nil ?_
    intro _ hw'
    obtain ⟨⟨dq, osq⟩, hw''⟩ := hw'
    subst hw''
    have hbr := below_regrown W0 dq osq
    go_wp2
    go_ret
    exact ⟨rfl, bel_then hb0 hbr⟩

end Go.Proofs.YtepgjaecfoaenaaGreatDoor
