/- The walks of the token package's good and next. Conditions: the string has a byte, and no more than an int can tell. -/
import Derived.Test.YtepgjaecfoaenaaGreatDoorW3
namespace Go.Proofs.YtepgjaecfoaenaaGreatDoor
open Go.RowKit
set_option linter.unusedVariables false
set_option linter.unusedSimpArgs false

/-- A token as a value. -/
def tokV (t : Tok) : Value := .agg #[.int .i64 t.kind, .string (S t.text)]
attribute [go_sem] tokV

set_option maxHeartbeats 1000000 in
theorem good_calls (l : List UInt8) (w : World) (h0 : 0 < l.length) (hs : l.length ≤ 9223372036854775000) :
    Calls Tryz.prog 68 #[.string (S l)] w fun e w' => e = .returned (.tuple #[tokV (goodT l), .bool (decide (0 < (goodKN l).2))]) ∧ Below w.heap.size w w' := by
  have r1 := runN_le isBlank l
  have r2 := runN_le isAlnum l
  have r3 := runN_le isDigit l
  have r4 := lineN_le l
  have r5 := quotedN_le l
  have r6 := signN_le l
  go_enter Tryz.func68, Tryz.ntmps68
  go_wp2_with (first
    | (go_at_call 82; refine (isBlank_calls _ _).mono ?_; rintro e w' ⟨rfl, rfl⟩)
    | (go_at_call 85; refine (isLetter_calls _ _).mono ?_; rintro e w' ⟨rfl, rfl⟩)
    | (go_at_call 87; refine (isDigit_calls _ _).mono ?_; rintro e w' ⟨rfl, rfl⟩)
    | (go_at_call 84; refine (hasPrefix_calls _ [47, 47] _ (by omega) (by decide)).mono ?_; rintro e w' ⟨rfl, rfl⟩)
    | (go_at_call 88; refine (isWord_calls _ _).mono ?_; rintro e w' ⟨rfl, rfl⟩)
    | (go_at_call 69; refine (line_calls _ _).mono ?_; rintro e w' ⟨rfl, rfl⟩)
    | (go_at_call 89; refine (quoted_calls _ _ hs).mono ?_; rintro e w' ⟨rfl, rfl⟩)
    | (go_at_call 90; refine (sign_calls _ _ hs).mono ?_; rintro e w' ⟨rfl, rfl⟩)
    | (go_at_call 83; (with_reducible refine (run_calls _ 82 _ _ (by omega) byteFn_isBlank).mono ?_); rintro e w' ⟨rfl, rfl⟩)
    | (go_at_call 83; (with_reducible refine (run_calls _ 87 _ _ (by omega) byteFn_isDigit).mono ?_); rintro e w' ⟨rfl, rfl⟩)
    | (go_at_call 83; (with_reducible refine (run_calls _ 86 _ _ (by omega) byteFn_good1).mono ?_); rintro e w' ⟨rfl, rfl⟩))
  · have h1 : isBlank (at_ l 0) = true := by assumption
    have e : goodKN l = (1, runN isBlank l) := by simp [goodKN, h1]
    unfold goodT tokV
    rw [e]
    exact bodyPost_ret (v := .tuple #[.agg #[.int .i64 1, .string (S (l.take (runN isBlank l)))], .bool (decide (0 < runN isBlank l))]) (by simp [results, Tryz.results68, go_sem]) rfl ⟨rfl, (Below.refl _ _).alloc (Nat.le_refl _) _⟩
  · have h1 : isBlank (at_ l 0) = false := by assumption
    have h2 : [47, 47].isPrefixOf l = true := by assumption
    have e : goodKN l = (2, lineN l) := by simp [goodKN, h1, h2]
    unfold goodT tokV
    rw [e]
    exact bodyPost_ret (v := .tuple #[.agg #[.int .i64 2, .string (S (l.take (lineN l)))], .bool (decide (0 < lineN l))]) (by simp [results, Tryz.results68, go_sem]) rfl ⟨rfl, (Below.refl _ _).alloc (Nat.le_refl _) _⟩
  · have h1 : isBlank (at_ l 0) = false := by assumption
    have h2 : [47, 47].isPrefixOf l = false := by assumption
    have h3 : isLetter (at_ l 0) = true := by assumption
    have h4 : isWord (l.take (runN isAlnum l)) = true := by assumption
    have e : goodKN l = (4, runN isAlnum l) := by simp [goodKN, h1, h2, h3, h4]
    unfold goodT tokV
    rw [e]
    exact bodyPost_ret (v := .tuple #[.agg #[.int .i64 4, .string (S (l.take (runN isAlnum l)))], .bool (decide (0 < runN isAlnum l))]) (by simp [results, Tryz.results68, go_sem]) rfl ⟨rfl, (Below.refl _ _).alloc (Nat.le_refl _) _⟩
  · have h1 : isBlank (at_ l 0) = false := by assumption
    have h2 : [47, 47].isPrefixOf l = false := by assumption
    have h3 : isLetter (at_ l 0) = true := by assumption
    have h4 : isWord (l.take (runN isAlnum l)) = false := by assumption
    have e : goodKN l = (3, runN isAlnum l) := by simp [goodKN, h1, h2, h3, h4]
    unfold goodT tokV
    rw [e]
    exact bodyPost_ret (v := .tuple #[.agg #[.int .i64 3, .string (S (l.take (runN isAlnum l)))], .bool (decide (0 < runN isAlnum l))]) (by simp [results, Tryz.results68, go_sem]) rfl ⟨rfl, (Below.refl _ _).alloc (Nat.le_refl _) _⟩
  · have h1 : isBlank (at_ l 0) = false := by assumption
    have h2 : [47, 47].isPrefixOf l = false := by assumption
    have h3 : isLetter (at_ l 0) = false := by assumption
    have h4 : isDigit (at_ l 0) = true := by assumption
    have e : goodKN l = (5, runN isDigit l) := by simp [goodKN, h1, h2, h3, h4]
    unfold goodT tokV
    rw [e]
    exact bodyPost_ret (v := .tuple #[.agg #[.int .i64 5, .string (S (l.take (runN isDigit l)))], .bool (decide (0 < runN isDigit l))]) (by simp [results, Tryz.results68, go_sem]) rfl ⟨rfl, (Below.refl _ _).alloc (Nat.le_refl _) _⟩
  · have h1 : isBlank (at_ l 0) = false := by assumption
    have h2 : [47, 47].isPrefixOf l = false := by assumption
    have h3 : isLetter (at_ l 0) = false := by assumption
    have h4 : isDigit (at_ l 0) = false := by assumption
    have h5 : ((at_ l 0).toNat == (34 : Int)) = true := by assumption
    have e : goodKN l = (6, quotedN l) := by simp only [goodKN, h1, h2, h3, h4, Bool.false_eq_true, if_false]; rw [if_pos (byte_yes 34 h5)]
    unfold goodT tokV
    rw [e]
    exact bodyPost_ret (v := .tuple #[.agg #[.int .i64 6, .string (S (l.take (quotedN l)))], .bool (decide (0 < quotedN l))]) (by simp [results, Tryz.results68, go_sem]) rfl ⟨rfl, (Below.refl _ _).alloc (Nat.le_refl _) _⟩
  · have h1 : isBlank (at_ l 0) = false := by assumption
    have h2 : [47, 47].isPrefixOf l = false := by assumption
    have h3 : isLetter (at_ l 0) = false := by assumption
    have h4 : isDigit (at_ l 0) = false := by assumption
    have h5 : ((at_ l 0).toNat == (34 : Int)) = false := by assumption
    have e : goodKN l = (7, signN l) := by simp only [goodKN, h1, h2, h3, h4, Bool.false_eq_true, if_false]; rw [if_neg (byte_no 34 h5)]
    unfold goodT tokV
    rw [e]
    exact bodyPost_ret (v := .tuple #[.agg #[.int .i64 7, .string (S (l.take (signN l)))], .bool (decide (0 < signN l))]) (by simp [results, Tryz.results68, go_sem]) rfl ⟨rfl, (Below.refl _ _).alloc (Nat.le_refl _) _⟩

theorem goodKN_le (l : List UInt8) : (goodKN l).2 ≤ l.length := by
  have r1 := runN_le isBlank l
  have r2 := runN_le isAlnum l
  have r3 := runN_le isDigit l
  have r4 := lineN_le l
  have r5 := quotedN_le l
  have r6 := signN_le l
  unfold goodKN
  repeat' split
  all_goals assumption

end Go.Proofs.YtepgjaecfoaenaaGreatDoor
