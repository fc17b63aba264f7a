/- The walks of strings.HasPrefix, strings.IndexByte and of the token package's line, isWord, isSign, sign, quoted. No condition but that a string is no longer than an int. -/
import Derived.Test.YtepgjaecfoaenaaGreatDoorW1
import Derived.Test.YtepgjaecfoaenaaGreatDoorShelf
import Derived.Lib.IndexLaws
namespace Go.Proofs.YtepgjaecfoaenaaGreatDoor
open Go.RowKit
set_option linter.unusedVariables false
set_option linter.unusedSimpArgs false

theorem indexByte_calls (l : List UInt8) (c : UInt8) (w : World) :
    Calls Tryz.prog 91 #[.string (S l), .int .u8 c.toNat] w fun e w' => e = .returned (.int .i64 (Lib.indexByte l c)) ∧ w = w' :=
  (Tryz.strings_IndexByte (S l) c.toNat w).mono fun e w' ⟨h1, h2⟩ => ⟨by rw [h1, S_data]; simp, h2.symm⟩

theorem indexByte_line (l : List UInt8) : (Lib.indexByte l 10 = -1 ∧ lineN l = l.length) ∨ (0 ≤ Lib.indexByte l 10 ∧ Lib.indexByte l 10 = lineN l) := by
  have h := Lib.indexByte_ge l 10
  by_cases h0 : Lib.indexByte l 10 = -1
  · refine .inl ⟨h0, runN_of _ _ _ (Nat.le_refl _) (fun j hj => ?_) (.inl rfl)⟩
    have := Lib.indexByte_none h0 j
    rw [List.getElem?_eq_getElem hj] at this
    simp [at_, List.getElem?_eq_getElem hj]
    intro hc; exact this (by rw [hc])
  · obtain ⟨o, ho⟩ := Int.eq_ofNat_of_zero_le (show 0 ≤ Lib.indexByte l 10 by omega)
    have := Lib.indexByte_some ho
    have hlt : o < l.length := by
      by_cases hc : o < l.length
      · exact hc
      · rw [List.getElem?_eq_none (by omega)] at this; cases this.1
    refine .inr ⟨by omega, ?_⟩
    rw [ho]; congr 1; symm
    refine runN_of _ _ _ (by omega) (fun j hj => ?_) (.inr ?_)
    · have h2 := this.2 j hj
      rw [List.getElem?_eq_getElem (by omega)] at h2
      simp [at_, List.getElem?_eq_getElem (show j < l.length by omega)]
      intro hc; exact h2 (by rw [hc])
    · simp [at_, this.1]

set_option maxHeartbeats 400000 in
theorem hasPrefix_calls (a b : List UInt8) (w : World) (ha : a.length ≤ 9223372036854775807) (hb : b.length ≤ 9223372036854775807) :
    Calls Tryz.prog 84 #[.string (S a), .string (S b)] w fun e w' => e = .returned (.bool (b.isPrefixOf a)) ∧ w = w' := by
  go_enter Tryz.func84, Tryz.ntmps84
  by_cases hle : b.length ≤ a.length
  · go_wp2
    go_ret
    refine ⟨ret_bool ?_, rfl⟩
    rw [← Lib.hasPrefix, ← Lib.hasPrefix_of_take]
    simp [hle]
  · go_wp2
    go_ret
    refine ⟨ret_bool ?_, rfl⟩
    rw [← Lib.hasPrefix, ← Lib.hasPrefix_of_take]
    simp [hle]

set_option maxHeartbeats 400000 in
theorem line_calls (l : List UInt8) (w : World) :
    Calls Tryz.prog 69 #[.string (S l)] w fun e w' => e = .returned (.int .i64 (lineN l)) ∧ w = w' := by
  rcases indexByte_line l with ⟨h1, h2⟩ | ⟨h0, h1⟩
  · go_enter Tryz.func69, Tryz.ntmps69
    go_wp2_with (go_at_call 91; refine (indexByte_calls _ 10 _).mono ?_; rintro e w' ⟨rfl, rfl⟩)
    go_ret
    exact ⟨ret_int (by rw [h2]), rfl⟩
  · have H1 := Lib.hid h1; clear h1
    go_enter Tryz.func69, Tryz.ntmps69
    go_wp2_with (go_at_call 91; refine (indexByte_calls _ 10 _).mono ?_; rintro e w' ⟨rfl, rfl⟩)
    go_ret
    exact ⟨ret_int (by rw [H1.out]), rfl⟩

set_option maxHeartbeats 1000000 in
theorem isWord_calls (l : List UInt8) (w : World) :
    Calls Tryz.prog 88 #[.string (S l)] w fun e w' => e = .returned (.bool (isWord l)) ∧ w = w' := by
  go_enter Tryz.func88, Tryz.ntmps88
  go_wp2
  all_goals go_ret
  all_goals first | (exfalso; simp_all; done) | (refine ⟨ret_bool ?_, rfl⟩; simp_all [isWord, wordsL])


set_option maxHeartbeats 1000000 in
theorem isSign_calls (l : List UInt8) (w : World) :
    Calls Tryz.prog 103 #[.string (S l)] w fun e w' => e = .returned (.bool (isSign l)) ∧ w = w' := by
  go_enter Tryz.func103, Tryz.ntmps103
  go_wp2
  all_goals go_ret
  all_goals first | (exfalso; simp_all; done) | (refine ⟨ret_bool ?_, rfl⟩; simp_all [isSign, signsL])

end Go.Proofs.YtepgjaecfoaenaaGreatDoor
