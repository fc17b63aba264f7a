/- The walks of the token package's tests of bytes, and of run. No condition. The walks of strings.HasPrefix, strings.IndexByte and of the token package's line, isWord, isSign, sign, quoted. No condition but that a string is no longer than an int. The walks of the token package's sign and quoted. Condition: the string is no longer than an int can tell. The walks of the token package's good and next. Conditions: the string has a byte, and no more than an int can tell. The walk of the token package's next. Conditions: the string has a byte, and no more than an int can tell. -/
import Derived.Test.YtplnfepdikbpfaaGreatDoorBase
import Derived.Test.YtplnfepdikbpfaaGreatDoorA
import Derived.Test.YtplnfepdikbpfaaGreatDoorShelf
import Derived.Lib.IndexLaws
namespace Go.Proofs.YtplnfepdikbpfaaGreatDoor
open Go.RowKit
set_option linter.unusedVariables false
set_option linter.unusedSimpArgs false

theorem isDigit_int : ∀ c : UInt8, isDigit c = (decide (48 ≤ (c.toNat : Int)) && decide ((c.toNat : Int) ≤ 57)) :=
  u8_all (by decide +kernel)
theorem isBlank_int : ∀ c : UInt8, isBlank c = ((c.toNat : Int) == 32 || (c.toNat : Int) == 9 || (c.toNat : Int) == 10 || (c.toNat : Int) == 13) :=
  u8_all (by decide +kernel)
theorem isLetter_int : ∀ c : UInt8, isLetter c = ((c.toNat : Int) == 95 || (decide (97 ≤ bits .or .u8 (c.toNat : Int) 32) && decide (bits .or .u8 (c.toNat : Int) 32 ≤ 122))) :=
  u8_all (by decide +kernel)

set_option maxHeartbeats 400000 in
theorem isDigit_calls (c : UInt8) (w : World) :
    Calls Tryz.prog 212 #[.int .u8 c.toNat] w fun e w' => e = .returned (.bool (isDigit c)) ∧ w = w' := by
  rw [isDigit_int]
  go_enter Tryz.func212, Tryz.ntmps212
  go_wp2
  all_goals go_ret
  all_goals (refine ⟨ret_bool ?_, rfl⟩; simp <;> omega)

set_option maxHeartbeats 400000 in
theorem isBlank_calls (c : UInt8) (w : World) :
    Calls Tryz.prog 207 #[.int .u8 c.toNat] w fun e w' => e = .returned (.bool (isBlank c)) ∧ w = w' := by
  rw [isBlank_int]
  go_enter Tryz.func207, Tryz.ntmps207
  go_wp2
  all_goals go_ret
  all_goals simp [*]

set_option maxHeartbeats 400000 in
theorem isLetter_calls (c : UInt8) (w : World) :
    Calls Tryz.prog 210 #[.int .u8 c.toNat] w fun e w' => e = .returned (.bool (isLetter c)) ∧ w = w' := by
  rw [isLetter_int]
  go_enter Tryz.func210, Tryz.ntmps210
  go_wp2
  all_goals go_ret
  all_goals (refine ⟨ret_bool ?_, rfl⟩; simp [*] <;> omega)

set_option maxHeartbeats 400000 in
theorem good1_calls (c : UInt8) (w : World) :
    Calls Tryz.prog 211 #[.int .u8 c.toNat] w fun e w' => e = .returned (.bool (isAlnum c)) ∧ w = w' := by
  unfold isAlnum
  go_enter Tryz.func211, Tryz.ntmps211
  go_wp2_with (first | (go_at_call 210; refine (isLetter_calls _ _).mono ?_; rintro e w' ⟨rfl, rfl⟩) | (go_at_call 212; refine (isDigit_calls _ _).mono ?_; rintro e w' ⟨rfl, rfl⟩))
  all_goals go_ret
  all_goals simp [*]

/-- The function tells of each byte what p tells, and leaves the world alone. -/
structure ByteFn (f : FuncId) (p : UInt8 → Bool) : Prop where
  enters : ∀ args w, (callFunc f args).run Tryz.prog w = .ok (.enter f args) w
  tells : ∀ (c : UInt8) (w : World), Calls Tryz.prog f #[.int .u8 (c.toNat : Int)] w fun e w' => e = .returned (.bool (p c)) ∧ w = w'

theorem byteFn_isDigit : ByteFn 212 isDigit := ⟨fun args w => by go_simp, isDigit_calls⟩
theorem byteFn_isBlank : ByteFn 207 isBlank := ⟨fun args w => by go_simp, isBlank_calls⟩
theorem byteFn_good1 : ByteFn 211 isAlnum := ⟨fun args w => by go_simp, good1_calls⟩

set_option maxHeartbeats 400000 in
theorem run_calls (l : List UInt8) (f : FuncId) (p : UInt8 → Bool) (w : World) (hs : l.length ≤ 9223372036854775807) (hf : ByteFn f p) :
    Calls Tryz.prog 208 #[.string (S l), .func (.func f) #[] #[]] w fun e w' => e = .returned (.int .i64 (runN p l)) ∧ w = w' := by
  have eg := hf.enters
  go_enter Tryz.func208, Tryz.ntmps208
  go_wp2
  go_loop [5] (fun i => ∃ k : Nat, k ≤ l.length ∧ i = .int .i64 k ∧ Hid (∀ j, j < k → p (at_ l j) = true)) (fun i => l.length - (intOf i).toNat)
  case atStart => exact ⟨0, Nat.zero_le _, rfl, Lib.hid (fun j hj => absurd hj (by omega))⟩
  case round =>
    obtain ⟨k, hk, rfl, hall⟩ := hrel
    by_cases hlt : k < l.length
    · go_wp2_with (refine (hf.tells _ _).mono ?_; rintro e w' ⟨rfl, rfl⟩)
      · have hp : p (at_ l k) = true := by assumption
        go_round
        case rel => exact ⟨k + 1, by omega, by go_num, Lib.hid (fun j hj => if h : j = k then h ▸ hp else hall.out j (by omega))⟩
        case measure => simp [intOf]; omega
      · have hp : p (at_ l k) = false := by assumption
        go_ret
        have hr : runN p l = k := runN_of p l k hk hall.out (.inr hp)
        rw [hr]
        exact ⟨rfl, rfl⟩
    · go_wp2
      go_ret
      have hr : runN p l = k := runN_of p l k hk hall.out (by omega)
      rw [hr]
      exact ⟨rfl, rfl⟩

end Go.Proofs.YtplnfepdikbpfaaGreatDoor

namespace Go.Proofs.YtplnfepdikbpfaaGreatDoor
open Go.RowKit
set_option linter.unusedVariables false
set_option linter.unusedSimpArgs false

theorem indexByte_calls (l : List UInt8) (c : UInt8) (w : World) :
    Calls Tryz.prog 216 #[.string (S l), .int .u8 c.toNat] w fun e w' => e = .returned (.int .i64 (Lib.indexByte l c)) ∧ w = w' :=
  (Tryz.strings_IndexByte (S l) c.toNat w).mono fun e w' ⟨h1, h2⟩ => ⟨by rw [h1, S_data]; simp, h2.symm⟩

theorem indexByte_line (l : List UInt8) : (Lib.indexByte l 10 = -1 ∧ lineN l = l.length) ∨ (0 ≤ Lib.indexByte l 10 ∧ Lib.indexByte l 10 = lineN l) := by
  have h := Lib.indexByte_ge l 10
  by_cases h0 : Lib.indexByte l 10 = -1
  · refine .inl ⟨h0, runN_of _ _ _ (Nat.le_refl _) (fun j hj => ?_) (.inl rfl)⟩
    have := Lib.indexByte_none h0 j
    rw [List.getElem?_eq_getElem hj] at this
    simp [at_, List.getElem?_eq_getElem hj]
    intro hc; exact this (by rw [hc])
  · obtain ⟨o, ho⟩ := Int.eq_ofNat_of_zero_le (show 0 ≤ Lib.indexByte l 10 by omega)
    have := Lib.indexByte_some ho
    have hlt : o < l.length := by
      by_cases hc : o < l.length
      · exact hc
      · rw [List.getElem?_eq_none (by omega)] at this; cases this.1
    refine .inr ⟨by omega, ?_⟩
    rw [ho]; congr 1; symm
    refine runN_of _ _ _ (by omega) (fun j hj => ?_) (.inr ?_)
    · have h2 := this.2 j hj
      rw [List.getElem?_eq_getElem (by omega)] at h2
      simp [at_, List.getElem?_eq_getElem (show j < l.length by omega)]
      intro hc; exact h2 (by rw [hc])
    · simp [at_, this.1]

set_option maxHeartbeats 400000 in
theorem hasPrefix_calls (a b : List UInt8) (w : World) (ha : a.length ≤ 9223372036854775807) (hb : b.length ≤ 9223372036854775807) :
    Calls Tryz.prog 209 #[.string (S a), .string (S b)] w fun e w' => e = .returned (.bool (b.isPrefixOf a)) ∧ w = w' := by
  go_enter Tryz.func209, Tryz.ntmps209
  by_cases hle : b.length ≤ a.length
  · go_wp2
    go_ret
    refine ⟨ret_bool ?_, rfl⟩
    rw [← Lib.hasPrefix, ← Lib.hasPrefix_of_take]
    simp [hle]
  · go_wp2
    go_ret
    refine ⟨ret_bool ?_, rfl⟩
    rw [← Lib.hasPrefix, ← Lib.hasPrefix_of_take]
    simp [hle]

set_option maxHeartbeats 400000 in
theorem line_calls (l : List UInt8) (w : World) :
    Calls Tryz.prog 206 #[.string (S l)] w fun e w' => e = .returned (.int .i64 (lineN l)) ∧ w = w' := by
  rcases indexByte_line l with ⟨h1, h2⟩ | ⟨h0, h1⟩
  · go_enter Tryz.func206, Tryz.ntmps206
    go_wp2_with (go_at_call 216; refine (indexByte_calls _ 10 _).mono ?_; rintro e w' ⟨rfl, rfl⟩)
    go_ret
    exact ⟨ret_int (by rw [h2]), rfl⟩
  · have H1 := Lib.hid h1; clear h1
    go_enter Tryz.func206, Tryz.ntmps206
    go_wp2_with (go_at_call 216; refine (indexByte_calls _ 10 _).mono ?_; rintro e w' ⟨rfl, rfl⟩)
    go_ret
    exact ⟨ret_int (by rw [H1.out]), rfl⟩

set_option maxHeartbeats 1000000 in
theorem isWord_calls (l : List UInt8) (w : World) :
    Calls Tryz.prog 213 #[.string (S l)] w fun e w' => e = .returned (.bool (isWord l)) ∧ w = w' := by
  go_enter Tryz.func213, Tryz.ntmps213
  go_wp2
  all_goals go_ret
  all_goals first | (exfalso; simp_all; done) | (refine ⟨ret_bool ?_, rfl⟩; simp_all [isWord, wordsL])


set_option maxHeartbeats 1000000 in
theorem isSign_calls (l : List UInt8) (w : World) :
    Calls Tryz.prog 217 #[.string (S l)] w fun e w' => e = .returned (.bool (isSign l)) ∧ w = w' := by
  go_enter Tryz.func217, Tryz.ntmps217
  go_wp2
  all_goals go_ret
  all_goals first | (exfalso; simp_all; done) | (refine ⟨ret_bool ?_, rfl⟩; simp_all [isSign, signsL])

end Go.Proofs.YtplnfepdikbpfaaGreatDoor

namespace Go.Proofs.YtplnfepdikbpfaaGreatDoor
open Go.RowKit
set_option linter.unusedVariables false
set_option linter.unusedSimpArgs false

theorem pairs : ∀ c : UInt8, (Lib.indexByte [110, 34, 92] c < 0 ↔ ¬ (c = 110 ∨ c = 34 ∨ c = 92)) := u8_all (by decide +kernel)

theorem signN_big (l : List UInt8) (h : isSign (l.take 2) = true) (h2 : 2 ≤ l.length) : signN l = 2 := by simp [signN, h, h2]

set_option maxHeartbeats 400000 in
theorem sign_calls (l : List UInt8) (w : World) (hs : l.length ≤ 9223372036854775000) :
    Calls Tryz.prog 215 #[.string (S l)] w fun e w' => e = .returned (.int .i64 (signN l)) ∧ w = w' := by
  go_enter Tryz.func215, Tryz.ntmps215
  go_wp2
  go_loop [3] (fun i => ∃ k : Nat, k ≤ 2 ∧ k ≤ l.length ∧ i = .int .i64 k ∧ Hid ((k = 2 ∨ l.length < 2 ∨ isSign (l.take 2) = false) ∧ (1 ≤ k ∨ l.length < 1 ∨ isSign (l.take 1) = false))) (fun i => (intOf i).toNat)
  case atStart =>
    refine ⟨min 2 l.length, by omega, by omega, ?_, Lib.hid ⟨by omega, by omega⟩⟩
    go_num
  case round =>
    obtain ⟨k, hk, hk2, rfl, hq⟩ := hrel
    by_cases h0 : 0 < k
    · go_wp2_with (go_at_call 217; refine (isSign_calls _ _).mono ?_; rintro e w' ⟨rfl, rfl⟩)
      · have h1 : isSign (l.take k) = true := by assumption
        go_ret
        refine ⟨ret_int ?_, rfl⟩
        obtain ⟨hq1, hq2⟩ := hq.out
        rcases (show k = 1 ∨ k = 2 by omega) with rfl | rfl
        · rcases hq1 with h | h | h
          · omega
          · simp [signN, h1, show ¬ 2 ≤ l.length by omega, show 1 ≤ l.length by omega]
          · simp [signN, h1, h, show 1 ≤ l.length by omega]
        · simp [signN, h1, hk2]
      · have h1 : isSign (l.take k) = false := by assumption
        go_round
        case rel =>
          refine ⟨k - 1, by omega, by omega, by go_num, Lib.hid ?_⟩
          obtain ⟨hq1, hq2⟩ := hq.out
          rcases (show k = 1 ∨ k = 2 by omega) with rfl | rfl
          · exact ⟨hq1.imp_left (by omega), .inr (.inr h1)⟩
          · exact ⟨.inr (.inr h1), .inl (by omega)⟩
        case measure => simp [intOf]; omega
    · go_wp2
      go_ret
      refine ⟨ret_int ?_, rfl⟩
      obtain ⟨hq1, hq2⟩ := hq.out
      have h1 : ¬ (2 ≤ l.length ∧ isSign (l.take 2) = true) := by
        rintro ⟨h2, h3⟩; rcases hq1 with h | h | h
        · omega
        · omega
        · rw [h] at h3; cases h3
      have h2 : ¬ (1 ≤ l.length ∧ isSign (l.take 1) = true) := by
        rintro ⟨h2, h3⟩; rcases hq2 with h | h | h
        · omega
        · omega
        · rw [h] at h3; cases h3
      rw [signN, if_neg h1, if_neg h2]; rfl

set_option maxHeartbeats 1000000 in
theorem quoted_calls (l : List UInt8) (w : World) (hs : l.length ≤ 9223372036854775000) :
    Calls Tryz.prog 214 #[.string (S l)] w fun e w' => e = .returned (.int .i64 (quotedN l)) ∧ w = w' := by
  go_enter Tryz.func214, Tryz.ntmps214
  go_wp2
  go_loop [3] (fun i => ∃ k : Nat, 1 ≤ k ∧ i = .int .i64 k ∧ Hid (quotedN l = qRes k (qbody (l.drop k)))) (fun i => l.length - (intOf i).toNat)
  case atStart => exact ⟨1, Nat.le_refl _, rfl, Lib.hid rfl⟩
  case round =>
    obtain ⟨k, hk, rfl, hq⟩ := hrel
    by_cases hlt : k < l.length
    · go_wp2_with (go_at_call 216; refine (indexByte_calls [110, 34, 92] _ _).mono ?_; rintro e w' ⟨rfl, rfl⟩)
      · have h1 : ((at_ l k).toNat == (34 : Int)) = true := by assumption
        go_ret
        rw [hq.out, q_quote l k hlt (byte_yes 34 h1)]
        exact ⟨rfl, rfl⟩
      · have h1 : ((at_ l k).toNat == (10 : Int)) = true := by assumption
        go_ret
        rw [hq.out, q_line l k hlt (byte_yes 10 h1)]
        exact ⟨rfl, rfl⟩
      · have h1 : ((at_ l k).toNat == (92 : Int)) = true := by assumption
        have h2 : (k : Int) + 1 = l.length := by assumption
        go_ret
        rw [hq.out, q_cut l k hlt (byte_yes 92 h1) (by omega)]
        exact ⟨rfl, rfl⟩
      · have h1 : ((at_ l k).toNat == (92 : Int)) = true := by assumption
        have h2 : 0 ≤ (k : Int) + 1 ∧ (k : Int) + 1 < l.length := by assumption
        have h3 : (k : Int) + 1 ≠ l.length := by omega
        have h4 : ((k : Int) + 1 == l.length) = true ∨ Lib.indexByte [110, 34, 92] (at_ l (k + 1)) < 0 := by assumption
        have h5 : Lib.indexByte [110, 34, 92] (at_ l (k + 1)) < 0 := h4.resolve_left (by simpa using h3)
        have h6 := pairs (at_ l (k + 1))
        go_ret
        rw [hq.out, q_wrong l k (by omega) (byte_yes 92 h1) (h6.1 h5)]
        exact ⟨rfl, rfl⟩
      · have h1 : ((at_ l k).toNat == (92 : Int)) = true := by assumption
        have h2 : 0 ≤ (k : Int) + 1 ∧ (k : Int) + 1 < l.length := by assumption
        have h4 : ((k : Int) + 1 == l.length) = false ∧ 0 ≤ Lib.indexByte [110, 34, 92] (at_ l (k + 1)) := by assumption
        have h6 := pairs (at_ l (k + 1))
        have h7 : (at_ l (k + 1) = 110 ∨ at_ l (k + 1) = 34 ∨ at_ l (k + 1) = 92) := by
          have h5 := h4.2
          exact Classical.byContradiction fun hn => absurd (h6.2 hn) (by omega)
        go_round
        case rel => exact ⟨k + 2, by omega, by go_num, Lib.hid (by rw [hq.out, q_pair l k (by omega) (byte_yes 92 h1) h7])⟩
        case measure => simp [intOf]; omega
      · have h1 : ((at_ l k).toNat == (34 : Int)) = false := by assumption
        have h2 : ((at_ l k).toNat == (10 : Int)) = false := by assumption
        have h3 : ((at_ l k).toNat == (92 : Int)) = false := by assumption
        go_round
        case rel => exact ⟨k + 1, by omega, by go_num, Lib.hid (by rw [hq.out, q_plain l k hlt (byte_no 34 h1) (byte_no 10 h2) (byte_no 92 h3)])⟩
        case measure => simp [intOf]; omega
    · go_wp2
      go_ret
      rw [hq.out, q_end l k (by omega)]
      exact ⟨rfl, rfl⟩

end Go.Proofs.YtplnfepdikbpfaaGreatDoor

namespace Go.Proofs.YtplnfepdikbpfaaGreatDoor
open Go.RowKit
set_option linter.unusedVariables false
set_option linter.unusedSimpArgs false

/-- A token as a value. -/
def tokV (t : Tok) : Value := .agg #[.int .i64 t.kind, .string (S t.text)]
attribute [go_sem] tokV

set_option maxHeartbeats 1000000 in
theorem good_calls (l : List UInt8) (w : World) (h0 : 0 < l.length) (hs : l.length ≤ 9223372036854775000) :
    Calls Tryz.prog 205 #[.string (S l)] w fun e w' => e = .returned (.tuple #[tokV (goodT l), .bool (decide (0 < (goodKN l).2))]) ∧ Below w.heap.size w w' := by
  have r1 := runN_le isBlank l
  have r2 := runN_le isAlnum l
  have r3 := runN_le isDigit l
  have r4 := lineN_le l
  have r5 := quotedN_le l
  have r6 := signN_le l
  go_enter Tryz.func205, Tryz.ntmps205
  go_wp2_with (first
    | (go_at_call 207; refine (isBlank_calls _ _).mono ?_; rintro e w' ⟨rfl, rfl⟩)
    | (go_at_call 210; refine (isLetter_calls _ _).mono ?_; rintro e w' ⟨rfl, rfl⟩)
    | (go_at_call 212; refine (isDigit_calls _ _).mono ?_; rintro e w' ⟨rfl, rfl⟩)
    | (go_at_call 209; refine (hasPrefix_calls _ [47, 47] _ (by omega) (by decide)).mono ?_; rintro e w' ⟨rfl, rfl⟩)
    | (go_at_call 213; refine (isWord_calls _ _).mono ?_; rintro e w' ⟨rfl, rfl⟩)
    | (go_at_call 206; refine (line_calls _ _).mono ?_; rintro e w' ⟨rfl, rfl⟩)
    | (go_at_call 214; refine (quoted_calls _ _ hs).mono ?_; rintro e w' ⟨rfl, rfl⟩)
    | (go_at_call 215; refine (sign_calls _ _ hs).mono ?_; rintro e w' ⟨rfl, rfl⟩)
    | (go_at_call 208; (with_reducible refine (run_calls _ 207 _ _ (by omega) byteFn_isBlank).mono ?_); rintro e w' ⟨rfl, rfl⟩)
    | (go_at_call 208; (with_reducible refine (run_calls _ 212 _ _ (by omega) byteFn_isDigit).mono ?_); rintro e w' ⟨rfl, rfl⟩)
    | (go_at_call 208; (with_reducible refine (run_calls _ 211 _ _ (by omega) byteFn_good1).mono ?_); rintro e w' ⟨rfl, rfl⟩))
  · have h1 : isBlank (at_ l 0) = true := by assumption
    have e : goodKN l = (1, runN isBlank l) := by simp [goodKN, h1]
    unfold goodT tokV
    rw [e]
    exact bodyPost_ret (v := .tuple #[.agg #[.int .i64 1, .string (S (l.take (runN isBlank l)))], .bool (decide (0 < runN isBlank l))]) (by simp [results, Tryz.results205, go_sem]) rfl ⟨rfl, (Below.refl _ _).alloc (Nat.le_refl _) _⟩
  · have h1 : isBlank (at_ l 0) = false := by assumption
    have h2 : [47, 47].isPrefixOf l = true := by assumption
    have e : goodKN l = (2, lineN l) := by simp [goodKN, h1, h2]
    unfold goodT tokV
    rw [e]
    exact bodyPost_ret (v := .tuple #[.agg #[.int .i64 2, .string (S (l.take (lineN l)))], .bool (decide (0 < lineN l))]) (by simp [results, Tryz.results205, go_sem]) rfl ⟨rfl, (Below.refl _ _).alloc (Nat.le_refl _) _⟩
  · have h1 : isBlank (at_ l 0) = false := by assumption
    have h2 : [47, 47].isPrefixOf l = false := by assumption
    have h3 : isLetter (at_ l 0) = true := by assumption
    have h4 : isWord (l.take (runN isAlnum l)) = true := by assumption
    have e : goodKN l = (4, runN isAlnum l) := by simp [goodKN, h1, h2, h3, h4]
    unfold goodT tokV
    rw [e]
    exact bodyPost_ret (v := .tuple #[.agg #[.int .i64 4, .string (S (l.take (runN isAlnum l)))], .bool (decide (0 < runN isAlnum l))]) (by simp [results, Tryz.results205, go_sem]) rfl ⟨rfl, (Below.refl _ _).alloc (Nat.le_refl _) _⟩
  · have h1 : isBlank (at_ l 0) = false := by assumption
    have h2 : [47, 47].isPrefixOf l = false := by assumption
    have h3 : isLetter (at_ l 0) = true := by assumption
    have h4 : isWord (l.take (runN isAlnum l)) = false := by assumption
    have e : goodKN l = (3, runN isAlnum l) := by simp [goodKN, h1, h2, h3, h4]
    unfold goodT tokV
    rw [e]
    exact bodyPost_ret (v := .tuple #[.agg #[.int .i64 3, .string (S (l.take (runN isAlnum l)))], .bool (decide (0 < runN isAlnum l))]) (by simp [results, Tryz.results205, go_sem]) rfl ⟨rfl, (Below.refl _ _).alloc (Nat.le_refl _) _⟩
  · have h1 : isBlank (at_ l 0) = false := by assumption
    have h2 : [47, 47].isPrefixOf l = false := by assumption
    have h3 : isLetter (at_ l 0) = false := by assumption
    have h4 : isDigit (at_ l 0) = true := by assumption
    have e : goodKN l = (5, runN isDigit l) := by simp [goodKN, h1, h2, h3, h4]
    unfold goodT tokV
    rw [e]
    exact bodyPost_ret (v := .tuple #[.agg #[.int .i64 5, .string (S (l.take (runN isDigit l)))], .bool (decide (0 < runN isDigit l))]) (by simp [results, Tryz.results205, go_sem]) rfl ⟨rfl, (Below.refl _ _).alloc (Nat.le_refl _) _⟩
  · have h1 : isBlank (at_ l 0) = false := by assumption
    have h2 : [47, 47].isPrefixOf l = false := by assumption
    have h3 : isLetter (at_ l 0) = false := by assumption
    have h4 : isDigit (at_ l 0) = false := by assumption
    have h5 : ((at_ l 0).toNat == (34 : Int)) = true := by assumption
    have e : goodKN l = (6, quotedN l) := by simp only [goodKN, h1, h2, h3, h4, Bool.false_eq_true, if_false]; rw [if_pos (byte_yes 34 h5)]
    unfold goodT tokV
    rw [e]
    exact bodyPost_ret (v := .tuple #[.agg #[.int .i64 6, .string (S (l.take (quotedN l)))], .bool (decide (0 < quotedN l))]) (by simp [results, Tryz.results205, go_sem]) rfl ⟨rfl, (Below.refl _ _).alloc (Nat.le_refl _) _⟩
  · have h1 : isBlank (at_ l 0) = false := by assumption
    have h2 : [47, 47].isPrefixOf l = false := by assumption
    have h3 : isLetter (at_ l 0) = false := by assumption
    have h4 : isDigit (at_ l 0) = false := by assumption
    have h5 : ((at_ l 0).toNat == (34 : Int)) = false := by assumption
    have e : goodKN l = (7, signN l) := by simp only [goodKN, h1, h2, h3, h4, Bool.false_eq_true, if_false]; rw [if_neg (byte_no 34 h5)]
    unfold goodT tokV
    rw [e]
    exact bodyPost_ret (v := .tuple #[.agg #[.int .i64 7, .string (S (l.take (signN l)))], .bool (decide (0 < signN l))]) (by simp [results, Tryz.results205, go_sem]) rfl ⟨rfl, (Below.refl _ _).alloc (Nat.le_refl _) _⟩

theorem goodKN_le (l : List UInt8) : (goodKN l).2 ≤ l.length := by
  have r1 := runN_le isBlank l
  have r2 := runN_le isAlnum l
  have r3 := runN_le isDigit l
  have r4 := lineN_le l
  have r5 := quotedN_le l
  have r6 := signN_le l
  unfold goodKN
  repeat' split
  all_goals assumption

end Go.Proofs.YtplnfepdikbpfaaGreatDoor

namespace Go.Proofs.YtplnfepdikbpfaaGreatDoor
open Go.RowKit
set_option linter.unusedVariables false
set_option linter.unusedSimpArgs false

theorem runBad_le : ∀ l : List UInt8, runBad l ≤ l.length
  | [] => Nat.le_refl _
  | c :: r => by
    have := runBad_le r
    unfold runBad
    split
    · omega
    · split <;> simp <;> omega

/-- The place where a bad token that has no quote ends, from a place on. -/
def badAt (l : List UInt8) (k : Nat) : Nat := k + runBad (l.drop k)
theorem badAt_end (l : List UInt8) (k : Nat) (h : l.length = k) : badAt l k = k := by
  unfold badAt; rw [List.drop_eq_nil_of_le (by omega)]; rfl
theorem badAt_quote (l : List UInt8) (k : Nat) (h : k < l.length) (hc : at_ l k = 34) : badAt l k = k := by
  unfold badAt; rw [drop_at l k h, runBad, if_pos hc]; rfl
theorem badAt_good (l : List UInt8) (k : Nat) (h : k < l.length) (hg : 0 < (goodKN (l.drop k)).2) : badAt l k = k := by
  unfold badAt; rw [drop_at l k h] at hg ⊢; rw [runBad]; split <;> simp [hg]
theorem badAt_on (l : List UInt8) (k : Nat) (h : k < l.length) (hc : at_ l k ≠ 34) (hg : ¬ 0 < (goodKN (l.drop k)).2) : badAt l k = badAt l (k + 1) := by
  unfold badAt; rw [drop_at l k h] at hg ⊢; rw [runBad, if_neg hc, if_neg hg]; omega

set_option maxHeartbeats 1000000 in
theorem next_calls (l : List UInt8) (w : World) (h0 : 0 < l.length) (hs : l.length ≤ 9223372036854775000) :
    Calls Tryz.prog 202 #[.string (S l)] w fun e w' => e = .returned (tokV (nextT l)) ∧ Below w.heap.size w w' := by
  have r4 := lineN_le l
  by_cases hg : 0 < (goodKN l).2
  · have hn : nextT l = goodT l := by unfold nextT goodT nextKN; rw [if_pos hg]
    rw [hn]; clear hn
    go_enter Tryz.func202, Tryz.ntmps202
    go_wp2_with fail
    refine (good_calls _ _ h0 hs).mono ?_
    rintro e w1 ⟨rfl, hb⟩
    obtain ⟨hc, hf⟩ := bcell hb
    have hz : w.heap.size < w1.heap.size := by have := hb.size; simp at this; omega
    go_wp2
    refine bodyPost_ret (v := tokV (goodT l)) (by simp [results, Tryz.results202, go_sem, hc, hz]) rfl ⟨rfl, ?_⟩
    exact bel_alloc (bel_set (bel_set (bel_then (bel_alloc (Below.refl _ _) _) hb) _ _ (Nat.le_refl _)) _ _ (Nat.le_refl _)) _
  · have hg' : (goodKN l).2 = 0 := by omega
    have hgd : decide (0 < (goodKN l).2) = false := by simp [hg']
    by_cases hq : at_ l 0 = 34
    · have hn : nextT l = ⟨8, l.take (lineN l)⟩ := by unfold nextT nextKN; rw [if_neg hg, if_pos hq]
      rw [hn]; clear hn
      have hqi : ((at_ l 0).toNat == (34 : Int)) = true := by rw [hq]; rfl
      clear hq hg hg'
      go_enter Tryz.func202, Tryz.ntmps202
      go_wp2_with fail
      refine (good_calls _ _ h0 hs).mono ?_
      rintro e w1 ⟨rfl, hb⟩
      obtain ⟨hc, hf⟩ := bcell hb
      have hz : w.heap.size < w1.heap.size := by have := hb.size; simp at this; omega
      go_wp2_with (first | (go_at_call 206; refine (line_calls _ _).mono ?_; rintro e w' ⟨rfl, rfl⟩))
      refine bodyPost_ret (v := tokV ⟨8, l.take (lineN l)⟩) (by simp [results, Tryz.results202, go_sem, hc, hz]) rfl ⟨rfl, ?_⟩
      exact bel_alloc (bel_set (bel_set (bel_then (bel_alloc (Below.refl _ _) _) hb) _ _ (Nat.le_refl _)) _ _ (Nat.le_refl _)) _
    · have hn : nextT l = ⟨8, l.take (badAt l 1)⟩ := by unfold nextT nextKN badAt; rw [if_neg hg, if_neg hq]
      rw [hn]; clear hn
      have hqi : ((at_ l 0).toNat == (34 : Int)) = false := by
        cases h : ((at_ l 0).toNat == (34 : Int)) with
        | false => rfl
        | true => exact absurd (byte_yes 34 h) hq
      clear hq hg hg'
      go_enter Tryz.func202, Tryz.ntmps202
      go_wp2_with fail
      refine (good_calls _ _ h0 hs).mono ?_
      rintro e w1 ⟨rfl, hb⟩
      obtain ⟨hc, hf⟩ := bcell hb
      have hz : w.heap.size < w1.heap.size := by have := hb.size; simp at this; omega
      go_wp2
      have hb0 : Below (w.heap.size + 1) (w.alloc (Obj.cells #[Value.int IntKind.i64 0, Value.string { data := #[] }] 167)) (w1.alloc (Obj.cells #[Value.int IntKind.i64 (goodT l).kind, Value.string (S (goodT l).text)] 167)) :=
        (hb.mono (by simp)).alloc (by omega) _
      clear hb hc hf
      go_loopw [5] (fun i wr => ∃ k : Nat, 1 ≤ k ∧ k ≤ l.length ∧ i = .int .i64 k ∧ Hid (badAt l 1 = badAt l k) ∧ Below (w.heap.size + 1) (w.alloc (Obj.cells #[Value.int IntKind.i64 0, Value.string { data := #[] }] 167)) wr) (fun i _ => l.length - (intOf i).toNat)
      case atStart => exact ⟨1, Nat.le_refl _, h0, rfl, Lib.hid rfl, hb0⟩
      case round =>
        obtain ⟨k, hk, hkl, rfl, hq, hb⟩ := hrel
        clear hb0
        obtain ⟨hc, hf⟩ := bcell (W := w.alloc (Obj.cells #[Value.int IntKind.i64 0, Value.string { data := #[] }] 167)) (hb.mono (by simp))
        have hz : w.heap.size < wr.heap.size := by have := hb.size; simp at this; omega
        by_cases hlt : k < l.length
        · by_cases hq4 : ((at_ l k).toNat == (34 : Int)) = true
          · have e1 : badAt l 1 = k := by rw [hq.out]; exact badAt_quote l k hlt (byte_yes 34 hq4)
            have HE := Lib.hid e1; clear e1
            go_wp2
            refine bodyPost_ret (v := tokV ⟨8, l.take k⟩) (by simp [results, Tryz.results202, go_sem, hc, hz]) rfl ⟨by rw [HE.out], ?_⟩
            exact bel_set (bel_set (bel_then (bel_alloc (Below.refl _ _) _) (hb.mono (by simp))) _ _ (Nat.le_refl _)) _ _ (Nat.le_refl _)
          · have hqf : ((at_ l k).toNat == (34 : Int)) = false := by simpa using hq4
            have hne : at_ l k ≠ 34 := byte_no 34 hqf
            by_cases hgk : 0 < (goodKN (l.drop k)).2
            · have e1 : badAt l 1 = k := by rw [hq.out]; exact badAt_good l k hlt hgk
              have HE := Lib.hid e1; clear e1 hne
              go_wp2_with fail
              refine (good_calls (l.drop k) _ (by simp; omega) (by simp; omega)).mono ?_
              rintro e w2 ⟨rfl, hb2⟩
              have hb3 := hb.trans (hb2.mono (by have := hb.size; simp at this; omega))
              clear hb hb2 hc hf
              obtain ⟨hc, hf⟩ := bcell (W := w.alloc (Obj.cells #[Value.int IntKind.i64 0, Value.string { data := #[] }] 167)) (hb3.mono (by simp))
              have hz : w.heap.size < w2.heap.size := by have := hb3.size; simp at this; omega
              go_wp2
              refine bodyPost_ret (v := tokV ⟨8, l.take k⟩) (by simp [results, Tryz.results202, go_sem, hc, hz]) rfl ⟨by rw [HE.out], ?_⟩
              exact bel_alloc (bel_set (bel_set (bel_then (bel_alloc (Below.refl _ _) _) (hb3.mono (by simp))) _ _ (Nat.le_refl _)) _ _ (Nat.le_refl _)) _
            · have e1 : badAt l 1 = badAt l (k + 1) := by rw [hq.out]; exact badAt_on l k hlt hne hgk
              have HE := Lib.hid e1; clear e1 hne
              go_wp2_with fail
              refine (good_calls (l.drop k) _ (by simp; omega) (by simp; omega)).mono ?_
              rintro e w2 ⟨rfl, hb2⟩
              have hb3 := hb.trans (hb2.mono (by have := hb.size; simp at this; omega))
              clear hb hb2 hc hf
              have hz : w.heap.size < w2.heap.size := by have := hb3.size; simp at this; omega
              go_wp2
              go_roundw
              case rel => exact ⟨k + 1, by omega, by omega, by go_num, HE, hb3.alloc (by omega) _⟩
              case measure => simp [intOf]; omega
        · have e1 : badAt l 1 = k := by rw [hq.out]; exact badAt_end l k (by omega)
          have HE := Lib.hid e1; clear e1
          go_wp2
          refine bodyPost_ret (v := tokV ⟨8, l.take k⟩) (by simp [results, Tryz.results202, go_sem, hc, hz]) rfl ⟨by rw [HE.out], ?_⟩
          exact bel_set (bel_set (bel_then (bel_alloc (Below.refl _ _) _) (hb.mono (by simp))) _ _ (Nat.le_refl _)) _ _ (Nat.le_refl _)

end Go.Proofs.YtplnfepdikbpfaaGreatDoor
