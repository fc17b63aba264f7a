/- The walks of the token package's are, IsToken, Apart, IsTrivia, Great. Condition: a slice reads as tokens. -/
import Derived.Test.YtepgjaecfoaenaaGreatDoorW9
namespace Go.Proofs.YtepgjaecfoaenaaGreatDoor
open Go.RowKit
set_option linter.unusedVariables false
set_option linter.unusedSimpArgs false

set_option maxHeartbeats 1000000 in
theorem are_calls (v : Value) (ts : List Tok) (w : World) (h : ReadT w v ts) :
    Calls Tryz.prog 49 #[v] w fun e w' => e = .returned (.bool (areB ts)) ∧ Below w.heap.size w w' := by
  unfold areB
  go_enter Tryz.func49, Tryz.ntmps49
  go_wp2_with (go_at_call 25; refine (Text_calls v ts _ h).mono ?_; rintro e w1 ⟨rfl, hb⟩)
  go_ret
  exact ⟨rfl, hb⟩

set_option maxHeartbeats 1000000 in
theorem IsToken_calls (t : Tok) (w : World) :
    Calls Tryz.prog 22 #[.agg #[.int .i64 t.kind, .string (S t.text)]] w fun e w' => e = .returned (.bool (isTokB t)) ∧ Below w.heap.size w w' := by
  cases ht : (t.text == ([] : List UInt8)) with
  | true =>
    have hr : isTokB t = false := by simp [isTokB, ht]
    rw [hr]; clear hr
    go_enter Tryz.func22, Tryz.ntmps22
    go_wp2
    go_ret
    exact ⟨rfl, bel_alloc (Below.refl _ _) _⟩
  | false =>
    have hr : isTokB t = areB [t] := by simp [isTokB, ht]
    rw [hr]; clear hr
    go_enter Tryz.func22, Tryz.ntmps22
    go_wp2_with fail
    refine (are_calls _ [t] _ (by simpa using ReadT.one (w.alloc (.cells #[.int .i64 t.kind, .string (S t.text)] 23)) t)).mono ?_
    rintro e w1 ⟨rfl, hb⟩
    go_wp2
    go_ret
    exact ⟨rfl, bel_then (bel_alloc (bel_alloc (Below.refl _ _) _) _) hb⟩

set_option maxHeartbeats 1000000 in
theorem Apart_calls (s t : Tok) (w : World) :
    Calls Tryz.prog 26 #[.agg #[.int .i64 s.kind, .string (S s.text)], .agg #[.int .i64 t.kind, .string (S t.text)]] w fun e w' => e = .returned (.bool (apartB s t)) ∧ Below w.heap.size w w' := by
  unfold apartB
  go_enter Tryz.func26, Tryz.ntmps26
  go_wp2_with fail
  refine (IsToken_calls s _).mono ?_
  rintro e w1 ⟨rfl, hb1⟩
  cases h1 : isTokB s with
  | false =>
    go_wp2
    go_ret
    exact ⟨ret_bool (by simp [h1]), bel_then (bel_alloc (bel_alloc (Below.refl _ _) _) _) hb1⟩
  | true =>
    obtain ⟨hc, hf⟩ := bcell hb1
    have hz : w.heap.size + 1 < w1.heap.size := by have := hb1.size; simp at this; omega
    go_wp2_with fail
    refine (IsToken_calls t _).mono ?_
    rintro e w2 ⟨rfl, hb2⟩
    have hb3 := hb1.trans (hb2.mono hb1.size)
    clear hb1 hb2 hc hf
    cases h2 : isTokB t with
    | false =>
      go_wp2
      go_ret
      exact ⟨ret_bool (by simp [h1, h2]), bel_then (bel_alloc (bel_alloc (Below.refl _ _) _) _) hb3⟩
    | true =>
      obtain ⟨hc, hf⟩ := bcell hb3
      have hz2 : w.heap.size + 1 < w2.heap.size := by have := hb3.size; simp at this; omega
      go_wp2_with fail
      refine (are_calls _ [s, t] _ (ReadT.two w2 s t)).mono ?_
      rintro e w3 ⟨rfl, hb4⟩
      go_wp2
      go_ret
      exact ⟨ret_bool (by simp [h1, h2]), bel_then (bel_alloc (bel_then (bel_alloc (bel_alloc (Below.refl _ _) _) _) hb3) _) hb4⟩

set_option maxHeartbeats 1000000 in
theorem IsTrivia_calls (t : Tok) (w : World) :
    Calls Tryz.prog 35 #[.agg #[.int .i64 t.kind, .string (S t.text)]] w fun e w' => e = .returned (.bool (isTriviaB t)) ∧ Below w.heap.size w w' := by
  unfold isTriviaB
  go_enter Tryz.func35, Tryz.ntmps35
  go_wp2
  all_goals go_ret
  all_goals refine ⟨ret_bool ?_, bel_alloc (Below.refl _ _) _⟩
  all_goals simp [*]

theorem great_int : ∀ c : UInt8, (decide (65 ≤ c) && decide (c ≤ 90)) = (decide (65 ≤ (c.toNat : Int)) && decide ((c.toNat : Int) ≤ 90)) := u8_all (by decide +kernel)

set_option maxHeartbeats 1000000 in
theorem Great_calls (t : Tok) (w : World) :
    Calls Tryz.prog 37 #[.agg #[.int .i64 t.kind, .string (S t.text)]] w fun e w' => e = .returned (.bool (greatB t)) ∧ Below w.heap.size w w' := by
  unfold greatB
  rw [great_int]
  by_cases hl : 0 < t.text.length
  · have hne : (t.text == ([] : List UInt8)) = false := by cases h : t.text <;> simp [h] at hl ⊢
    go_enter Tryz.func37, Tryz.ntmps37
    go_wp2
    all_goals go_ret
    all_goals refine ⟨ret_bool ?_, bel_alloc (Below.refl _ _) _⟩
    all_goals simp [*] <;> omega
  · have hnil : t.text = [] := List.eq_nil_of_length_eq_zero (by omega)
    have hne : (t.text == ([] : List UInt8)) = true := by simp [hnil]
    go_enter Tryz.func37, Tryz.ntmps37
    go_wp2
    all_goals go_ret
    all_goals refine ⟨ret_bool ?_, bel_alloc (Below.refl _ _) _⟩
    all_goals simp [*]

end Go.Proofs.YtepgjaecfoaenaaGreatDoor
