/- The walks of the token package's sign and quoted. Condition: the string is no longer than an int can tell. -/
import Derived.Test.YtepgjaecfoaenaaGreatDoorW2
namespace Go.Proofs.YtepgjaecfoaenaaGreatDoor
open Go.RowKit
set_option linter.unusedVariables false
set_option linter.unusedSimpArgs false

theorem pairs : ∀ c : UInt8, (Lib.indexByte [110, 34, 92] c < 0 ↔ ¬ (c = 110 ∨ c = 34 ∨ c = 92)) := u8_all (by decide +kernel)

theorem signN_big (l : List UInt8) (h : isSign (l.take 2) = true) (h2 : 2 ≤ l.length) : signN l = 2 := by simp [signN, h, h2]

set_option maxHeartbeats 400000 in
theorem sign_calls (l : List UInt8) (w : World) (hs : l.length ≤ 9223372036854775000) :
    Calls Tryz.prog 90 #[.string (S l)] w fun e w' => e = .returned (.int .i64 (signN l)) ∧ w = w' := by
  go_enter Tryz.func90, Tryz.ntmps90
  go_wp2
  go_loop [3] (fun i => ∃ k : Nat, k ≤ 2 ∧ k ≤ l.length ∧ i = .int .i64 k ∧ Hid ((k = 2 ∨ l.length < 2 ∨ isSign (l.take 2) = false) ∧ (1 ≤ k ∨ l.length < 1 ∨ isSign (l.take 1) = false))) (fun i => (intOf i).toNat)
  case atStart =>
    refine ⟨min 2 l.length, by omega, by omega, ?_, Lib.hid ⟨by omega, by omega⟩⟩
    go_num
  case round =>
    obtain ⟨k, hk, hk2, rfl, hq⟩ := hrel
    by_cases h0 : 0 < k
    · go_wp2_with (go_at_call 103; refine (isSign_calls _ _).mono ?_; rintro e w' ⟨rfl, rfl⟩)
      · have h1 : isSign (l.take k) = true := by assumption
        go_ret
        refine ⟨ret_int ?_, rfl⟩
        obtain ⟨hq1, hq2⟩ := hq.out
        rcases (show k = 1 ∨ k = 2 by omega) with rfl | rfl
        · rcases hq1 with h | h | h
          · omega
          · simp [signN, h1, show ¬ 2 ≤ l.length by omega, show 1 ≤ l.length by omega]
          · simp [signN, h1, h, show 1 ≤ l.length by omega]
        · simp [signN, h1, hk2]
      · have h1 : isSign (l.take k) = false := by assumption
        go_round
        case rel =>
          refine ⟨k - 1, by omega, by omega, by go_num, Lib.hid ?_⟩
          obtain ⟨hq1, hq2⟩ := hq.out
          rcases (show k = 1 ∨ k = 2 by omega) with rfl | rfl
          · exact ⟨hq1.imp_left (by omega), .inr (.inr h1)⟩
          · exact ⟨.inr (.inr h1), .inl (by omega)⟩
        case measure => simp [intOf]; omega
    · go_wp2
      go_ret
      refine ⟨ret_int ?_, rfl⟩
      obtain ⟨hq1, hq2⟩ := hq.out
      have h1 : ¬ (2 ≤ l.length ∧ isSign (l.take 2) = true) := by
        rintro ⟨h2, h3⟩; rcases hq1 with h | h | h
        · omega
        · omega
        · rw [h] at h3; cases h3
      have h2 : ¬ (1 ≤ l.length ∧ isSign (l.take 1) = true) := by
        rintro ⟨h2, h3⟩; rcases hq2 with h | h | h
        · omega
        · omega
        · rw [h] at h3; cases h3
      rw [signN, if_neg h1, if_neg h2]; rfl

set_option maxHeartbeats 1000000 in
theorem quoted_calls (l : List UInt8) (w : World) (hs : l.length ≤ 9223372036854775000) :
    Calls Tryz.prog 89 #[.string (S l)] w fun e w' => e = .returned (.int .i64 (quotedN l)) ∧ w = w' := by
  go_enter Tryz.func89, Tryz.ntmps89
  go_wp2
  go_loop [3] (fun i => ∃ k : Nat, 1 ≤ k ∧ i = .int .i64 k ∧ Hid (quotedN l = qRes k (qbody (l.drop k)))) (fun i => l.length - (intOf i).toNat)
  case atStart => exact ⟨1, Nat.le_refl _, rfl, Lib.hid rfl⟩
  case round =>
    obtain ⟨k, hk, rfl, hq⟩ := hrel
    by_cases hlt : k < l.length
    · go_wp2_with (go_at_call 91; refine (indexByte_calls [110, 34, 92] _ _).mono ?_; rintro e w' ⟨rfl, rfl⟩)
      · have h1 : ((at_ l k).toNat == (34 : Int)) = true := by assumption
        go_ret
        rw [hq.out, q_quote l k hlt (byte_yes 34 h1)]
        exact ⟨rfl, rfl⟩
      · have h1 : ((at_ l k).toNat == (10 : Int)) = true := by assumption
        go_ret
        rw [hq.out, q_line l k hlt (byte_yes 10 h1)]
        exact ⟨rfl, rfl⟩
      · have h1 : ((at_ l k).toNat == (92 : Int)) = true := by assumption
        have h2 : (k : Int) + 1 = l.length := by assumption
        go_ret
        rw [hq.out, q_cut l k hlt (byte_yes 92 h1) (by omega)]
        exact ⟨rfl, rfl⟩
      · have h1 : ((at_ l k).toNat == (92 : Int)) = true := by assumption
        have h2 : 0 ≤ (k : Int) + 1 ∧ (k : Int) + 1 < l.length := by assumption
        have h3 : (k : Int) + 1 ≠ l.length := by omega
        have h4 : ((k : Int) + 1 == l.length) = true ∨ Lib.indexByte [110, 34, 92] (at_ l (k + 1)) < 0 := by assumption
        have h5 : Lib.indexByte [110, 34, 92] (at_ l (k + 1)) < 0 := h4.resolve_left (by simpa using h3)
        have h6 := pairs (at_ l (k + 1))
        go_ret
        rw [hq.out, q_wrong l k (by omega) (byte_yes 92 h1) (h6.1 h5)]
        exact ⟨rfl, rfl⟩
      · have h1 : ((at_ l k).toNat == (92 : Int)) = true := by assumption
        have h2 : 0 ≤ (k : Int) + 1 ∧ (k : Int) + 1 < l.length := by assumption
        have h4 : ((k : Int) + 1 == l.length) = false ∧ 0 ≤ Lib.indexByte [110, 34, 92] (at_ l (k + 1)) := by assumption
        have h6 := pairs (at_ l (k + 1))
        have h7 : (at_ l (k + 1) = 110 ∨ at_ l (k + 1) = 34 ∨ at_ l (k + 1) = 92) := by
          have h5 := h4.2
          exact Classical.byContradiction fun hn => absurd (h6.2 hn) (by omega)
        go_round
        case rel => exact ⟨k + 2, by omega, by go_num, Lib.hid (by rw [hq.out, q_pair l k (by omega) (byte_yes 92 h1) h7])⟩
        case measure => simp [intOf]; omega
      · have h1 : ((at_ l k).toNat == (34 : Int)) = false := by assumption
        have h2 : ((at_ l k).toNat == (10 : Int)) = false := by assumption
        have h3 : ((at_ l k).toNat == (92 : Int)) = false := by assumption
        go_round
        case rel => exact ⟨k + 1, by omega, by go_num, Lib.hid (by rw [hq.out, q_plain l k hlt (byte_no 34 h1) (byte_no 10 h2) (byte_no 92 h3)])⟩
        case measure => simp [intOf]; omega
    · go_wp2
      go_ret
      rw [hq.out, q_end l k (by omega)]
      exact ⟨rfl, rfl⟩

end Go.Proofs.YtepgjaecfoaenaaGreatDoor
