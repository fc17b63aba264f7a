/- The reference's IsTrivia, Great, Solid. -/
import Derived.Test.YtepgjaecfoaenaaGreatDoorS11
namespace Go.Proofs.YtepgjaecfoaenaaGreatDoor
open Go.RowKit
set_option linter.unusedVariables false
set_option linter.unusedSimpArgs false

set_option maxHeartbeats 1000000 in
theorem RTrivia_calls (t : Tok) (w : World) :
    Calls Tryz.prog 36 #[.agg #[.int .i64 t.kind, .string (S t.text)]] w fun e w' => e = .returned (.bool (isTriviaB t)) ∧ Below w.heap.size w w' := by
  unfold isTriviaB
  go_enter Tryz.func36, Tryz.ntmps36
  go_wp2
  all_goals go_ret
  all_goals refine ⟨ret_bool ?_, bel_alloc (Below.refl _ _) _⟩
  all_goals simp [*]

set_option maxHeartbeats 1000000 in
theorem RGreat_calls (t : Tok) (w : World) :
    Calls Tryz.prog 38 #[.agg #[.int .i64 t.kind, .string (S t.text)]] w fun e w' => e = .returned (.bool (greatB t)) ∧ Below w.heap.size w w' := by
  unfold greatB
  rw [great_int]
  by_cases hl : 0 < t.text.length
  · have hne : (t.text == ([] : List UInt8)) = false := by cases h : t.text <;> simp [h] at hl ⊢
    go_enter Tryz.func38, Tryz.ntmps38
    go_wp2
    all_goals go_ret
    all_goals refine ⟨ret_bool ?_, bel_alloc (Below.refl _ _) _⟩
    all_goals simp [*] <;> omega
  · have hnil : t.text = [] := List.eq_nil_of_length_eq_zero (by omega)
    have hne : (t.text == ([] : List UInt8)) = true := by simp [hnil]
    go_enter Tryz.func38, Tryz.ntmps38
    go_wp2
    all_goals go_ret
    all_goals refine ⟨ret_bool ?_, bel_alloc (Below.refl _ _) _⟩
    all_goals simp [*]

set_option maxHeartbeats 2000000 in
theorem RSolid_calls (v : Value) (ts : List Tok) (w : World) (h : ReadT w v ts) (hl0 : ts.length ≤ 1000000) :
    Calls Tryz.prog 40 #[v] w (SolidPost w (solidTo ts ts.length)) := by
  obtain ⟨A, c, rfl, hl, h⟩ := h
  go_enter Tryz.func40, Tryz.ntmps40
  go_wp2
  go_loopw [3, 4] (fun out i wr => ∃ k : Nat, k ≤ ts.length ∧ i = .int .i64 k ∧ OwnI wr w.heap.size out (solidTo ts k) ∧ Below w.heap.size w wr) (fun _ i _ => ts.length - (intOf i).toNat)
  case atStart => exact ⟨0, Nat.zero_le _, rfl, OwnI.nil _ _, Below.refl _ _⟩
  case round =>
    obtain ⟨k, hk, rfl, hown, hb⟩ := hrel
    have hsz := hb.size
    have hle := solidTo_le ts k
    by_cases hlt : k < ts.length
    · obtain ⟨b, off, rfl, hb0, hc⟩ := h (by omega)
      obtain ⟨hc1, hc2⟩ := hc k hlt
      have g1 : wr.cell? ⟨b, off + k * 2, none⟩ = some (.int .i64 (tokAt ts k).kind) := by rw [hb.cell (p := ⟨b, _, none⟩) hb0]; exact hc1
      have g2 : wr.cell? ⟨b, off + k * 2 + 1, none⟩ = some (.string (S (tokAt ts k).text)) := by rw [hb.cell (p := ⟨b, _, none⟩) hb0]; exact hc2
      clear hc1 hc2 hc
      have hstep : solidTo ts (k + 1) = if isTriviaB (tokAt ts k) then solidTo ts k else solidTo ts k ++ [(k : Int)] := rfl
      have HS := Lib.hid hstep; clear hstep
      go_wp2_with fail
      refine (RTrivia_calls (tokAt ts k) _).mono ?_
      rintro e w1 ⟨rfl, hb1⟩
      have hown1 : OwnI w1 w.heap.size u3 (solidTo ts k) := own_below hown hb1
      have hb2 := bel_then hb hb1
      have hsz2 := hb2.size
      clear hown hb hb1
      cases ht : isTriviaB (tokAt ts k) with
      | true =>
        have HT := Lib.hid ht; clear ht
        go_wp2
        go_roundw
        case rel => exact ⟨k + 1, by omega, by go_num, by rw [HS.out, if_pos HT.out]; exact hown1, hb2⟩
        case measure => simp [intOf]; omega
      | false =>
        have HT := Lib.hid ht; clear ht
        have hlb : (solidTo ts k).length ≤ 1000000 := by omega
        go_wp2_with (at_builtin; refine int_append w w.heap.size rfl (.tmp 17) (.tmp 19) rfl u3 (solidTo ts k) k rfl w1.heap.size rfl rfl hown1 hb2 hsz2 hlb ?_; intro v1 w2 hown2 hb3; clear hown1 hb2)
        go_roundw
        case rel => exact ⟨k + 1, by omega, by go_num, by rw [HS.out, if_neg (by rw [HT.out]; decide)]; exact hown2, hb3⟩
        case measure => simp [intOf]; omega
    · have hkk : k = ts.length := by omega
      subst hkk
      go_wp2
      go_ret
      exact ⟨_, rfl, hown, hb⟩

end Go.Proofs.YtepgjaecfoaenaaGreatDoor
