/- The reference's IsToken. -/
import Derived.Test.YtepgjaecfoaenaaGreatDoorS8
namespace Go.Proofs.YtepgjaecfoaenaaGreatDoor
open Go.RowKit
set_option linter.unusedVariables false
set_option linter.unusedSimpArgs false

theorem isTok_long {t : Tok} (h : 20000 < t.text.length) : isTokB t = false := by
  cases hx : isTokB t with
  | false => rfl
  | true => have := (isTok_next hx).2.1; omega
theorem isTok_empty {t : Tok} (h : t.text.length = 0) : isTokB t = false := by
  cases hx : isTokB t with
  | false => rfl
  | true => have := (isTok_next hx).1; omega
theorem isTok_eq {t : Tok} (h0 : 0 < t.text.length) (h1 : t.text.length ≤ 20000) : isTokB t = tokEq ⟨(nextT t.text).kind, (nextT t.text).text⟩ ⟨t.kind, t.text⟩ := by
  cases hx : isTokB t with
  | true =>
    have := (isTok_next hx).2.2
    rw [this]; symm; rw [tokEq_iff]
  | false =>
    cases hy : tokEq ⟨(nextT t.text).kind, (nextT t.text).text⟩ ⟨t.kind, t.text⟩ with
    | false => rfl
    | true =>
      exfalso
      have e : nextT t.text = t := tokEq_iff.1 hy
      have hn : (nextKN t.text).2 = t.text.length := (next_full rfl e (nextKN_le _ h0)).1
      have : lex t.text = [t] := by rw [lex_cons _ h0, hn, List.drop_length, lex_nil, e]
      rw [isTok_of h0 h1 this] at hx; cases hx

set_option maxRecDepth 100000 in
set_option maxHeartbeats 2000000 in
theorem RIsToken_calls (t : Tok) (w : World) (hs : t.text.length ≤ 9223372036854775000) :
    Calls Tryz.prog 18 #[.agg #[.int .i64 t.kind, .string (S t.text)]] w fun e w' => e = .returned (.bool (isTokB t)) ∧ Below w.heap.size w w' := by
  obtain ⟨W0, hW0⟩ : ∃ W0, W0 = w.alloc (.cells #[.int .i64 t.kind, .string (S t.text)] 23) := ⟨_, rfl⟩
  have hb0 : Below w.heap.size w W0 := by rw [hW0]; exact bel_alloc (Below.refl _ _) _
  have p0 : W0.cell? ⟨w.heap.size, 0, none⟩ = some (.int .i64 t.kind) := by rw [hW0]; simp
  have p1 : W0.cell? ⟨w.heap.size, 1, none⟩ = some (.string (S t.text)) := by rw [hW0]; simp
  have r0 := cell_regrown p0
  have r1 := cell_regrown p1
  by_cases h0 : 0 < t.text.length
  · have d0 : decide ((t.text.length : Int) > 0) = true := by rw [decide_eq_true_eq]; omega
    have d0' : decide (0 < t.text.length) = true := decide_eq_true h0
    by_cases h1 : t.text.length ≤ 20000
    · have d1 : decide ((t.text.length : Int) ≤ 20000) = true := by rw [decide_eq_true_eq]; omega
      have d1' : decide (t.text.length ≤ 20000) = true := decide_eq_true h1
      rw [isTok_eq h0 h1]
      have cN : ∀ d os, Calls Tryz.prog 48 #[.string (S t.text), .int .i64 0] (Sort.grow (redrawn W0 d) os) fun e w'' => e = .returned (.agg #[.int .i64 (nextT t.text).kind, .string (S (nextT t.text).text)]) ∧ ∃ p : Regrown, w'' = Sort.grow (redrawn W0 p.d) p.os :=
        fun d os => Calls.regrown_of (by have := Rnext_calls t.text 0 (Sort.grow (redrawn W0 d) os) h0 hs; rw [List.drop_zero] at this; exact this)
      clear h0 h1
      go_enter Tryz.func18, Tryz.ntmps18
      go_wp2_with fail
      rw [← hW0]
      clear hW0 p0 p1
      refine wp_region_quiet_below (by first | assumption | kernel_rfl) (by kernel_rfl) ?_
      repeat (go_big_quiet_step (first | (go_at_call 48; exact cN _ _)))
      refine wpQuiet_nil ?_
      intro _ hw'
      obtain ⟨⟨dq, osq⟩, hw''⟩ := hw'
      subst hw''
      have hbr := below_regrown W0 dq osq
      go_wp2
      go_ret
      exact ⟨rfl, bel_then hb0 hbr⟩
    · have d1 : decide ((t.text.length : Int) ≤ 20000) = false := by rw [decide_eq_false_iff_not]; omega
      have d1' : decide (t.text.length ≤ 20000) = false := decide_eq_false h1
      rw [isTok_long (by omega)]
      clear h0 h1
      go_enter Tryz.func18, Tryz.ntmps18
      go_wp2_with fail
      rw [← hW0]
      clear hW0 p0 p1
      refine wp_region_quiet_below (by first | assumption | kernel_rfl) (by kernel_rfl) ?_
      repeat (go_big_quiet_step (fail))
      refine wpQuiet_nil ?_
      intro _ hw'
      obtain ⟨⟨dq, osq⟩, hw''⟩ := hw'
      subst hw''
      have hbr := below_regrown W0 dq osq
      go_wp2
      go_ret
      exact ⟨rfl, bel_then hb0 hbr⟩
  · have d0 : decide ((t.text.length : Int) > 0) = false := by rw [decide_eq_false_iff_not]; omega
    have d0' : decide (0 < t.text.length) = false := decide_eq_false h0
    rw [isTok_empty (by omega)]
    clear h0
    go_enter Tryz.func18, Tryz.ntmps18
    go_wp2_with fail
    rw [← hW0]
    clear hW0 p0 p1
    refine wp_region_quiet_below (by first | assumption | kernel_rfl) (by kernel_rfl) ?_
    repeat (go_big_quiet_step (fail))
    refine wpQuiet_nil ?_
    intro _ hw'
    obtain ⟨⟨dq, osq⟩, hw''⟩ := hw'
    subst hw''
    have hbr := below_regrown W0 dq osq
    go_wp2
    go_ret
    exact ⟨rfl, bel_then hb0 hbr⟩

end Go.Proofs.YtepgjaecfoaenaaGreatDoor
