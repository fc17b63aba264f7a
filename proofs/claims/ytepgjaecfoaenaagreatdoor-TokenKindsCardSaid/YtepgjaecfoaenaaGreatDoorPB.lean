/- Plain laws: the token at the beginning of a string stays the same when the string is cut behind it or goes on behind it. No program in sight. Plain laws about the tokens of a string: each one is a token, neighbours are apart; the tokens of two strings, one after the other. No program in sight. -/
import Derived.Test.YtepgjaecfoaenaaGreatDoorA
import Derived.Test.YtepgjaecfoaenaaGreatDoorX
namespace Go.Proofs.YtepgjaecfoaenaaGreatDoor
set_option linter.unusedVariables false
set_option linter.unusedSimpArgs false

theorem at_take (l : List UInt8) (m k : Nat) (h : k < m) : at_ (l.take m) k = at_ l k := by simp [at_, List.getElem?_take, h]
theorem at_app (l r : List UInt8) (k : Nat) (h : k < l.length) : at_ (l ++ r) k = at_ l k := by simp [at_, List.getElem?_append_left h]

theorem runN_at (p : UInt8 → Bool) : ∀ (l : List UInt8) (j : Nat), j < runN p l → p (at_ l j) = true
  | [], j, h => by simp [runN] at h
  | c :: r, j, h => by
    by_cases hc : p c = true
    · have e : runN p (c :: r) = runN p r + 1 := by simp [runN, List.takeWhile_cons, hc]
      cases j with
      | zero => simpa [at_] using hc
      | succ j => have := runN_at p r j (by omega); simpa [at_] using this
    · have e : runN p (c :: r) = 0 := by simp [runN, List.takeWhile_cons, hc]
      omega
theorem runN_take (p : UInt8 → Bool) (l : List UInt8) (m : Nat) (h : runN p l ≤ m) : runN p (l.take m) = runN p l := by
  have hl := runN_le p l
  refine runN_of p _ _ (by simp; omega) (fun j hj => by rw [at_take _ _ _ (by omega)]; exact runN_at p l j hj) ?_
  by_cases he : runN p l = (l.take m).length
  · exact .inl he
  · have : runN p l < (l.take m).length := by simp at he ⊢; omega
    simp at this
    exact .inr (by rw [at_take _ _ _ (by omega)]; exact runN_stop p l (by omega))
theorem runN_app (p : UInt8 → Bool) (l r : List UInt8) (h : runN p l < l.length) : runN p (l ++ r) = runN p l :=
  runN_of p _ _ (by simp; omega) (fun j hj => by rw [at_app _ _ _ (by omega)]; exact runN_at p l j hj) (.inr (by rw [at_app _ _ _ h]; exact runN_stop p l h))
theorem runN_pos (p : UInt8 → Bool) (l : List UInt8) (hl : 0 < l.length) (h : p (at_ l 0) = true) : 0 < runN p l := by
  cases l with
  | nil => simp at hl
  | cons c r => have hc : p c = true := by simpa [at_] using h
                simp [runN, List.takeWhile_cons, hc]

theorem qbody_app : ∀ (n : Nat) (l : List UInt8), l.length ≤ n → ∀ m r, qbody l = some m → qbody (l ++ r) = some m := by
  intro n
  induction n with
  | zero => intro l hl m r h; have : l = [] := List.eq_nil_of_length_eq_zero (by omega); subst this; cases h
  | succ n ih =>
    intro l hl m r h
    cases l with
    | nil => cases h
    | cons c l =>
      simp only [List.length_cons] at hl
      rw [qbody.eq_def] at h
      rw [List.cons_append, qbody.eq_def]
      simp only at h ⊢
      by_cases h1 : c = 34
      · simpa only [h1, if_true] using h
      · simp only [if_neg h1] at h ⊢
        by_cases h2 : c = 10
        · simp only [h2, if_true] at h; cases h
        · simp only [if_neg h2] at h ⊢
          by_cases h3 : c = 92
          · simp only [if_pos h3] at h ⊢
            cases l with
            | nil => cases h
            | cons d l' =>
              simp only [List.cons_append] at h ⊢
              split at h
              · rename_i hd
                rw [if_pos hd]
                rw [Option.map_eq_some_iff] at h; obtain ⟨k, hk, rfl⟩ := h
                rw [ih l' (by simp at hl; omega) k r hk]; rfl
              · cases h
          · simp only [if_neg h3] at h ⊢
            rw [Option.map_eq_some_iff] at h; obtain ⟨k, hk, rfl⟩ := h
            rw [ih l (by omega) k r hk]; rfl
theorem qbody_take : ∀ (n : Nat) (l : List UInt8), l.length ≤ n → ∀ m k, qbody l = some m → m ≤ k → qbody (l.take k) = some m := by
  intro n
  induction n with
  | zero => intro l hl m k h; have : l = [] := List.eq_nil_of_length_eq_zero (by omega); subst this; cases h
  | succ n ih =>
    intro l hl m k h hk
    cases l with
    | nil => cases h
    | cons c l =>
      simp only [List.length_cons] at hl
      rw [qbody.eq_def] at h
      simp only at h
      by_cases h1 : c = 34
      · simp only [h1, if_true] at h
        injection h with h
        obtain ⟨k, rfl⟩ : ∃ j, k = j + 1 := ⟨k - 1, by omega⟩
        rw [List.take_succ_cons, qbody.eq_def]; simp [h1, h]
      · simp only [if_neg h1] at h
        by_cases h2 : c = 10
        · simp only [h2, if_true] at h; cases h
        · simp only [if_neg h2] at h
          by_cases h3 : c = 92
          · simp only [if_pos h3] at h
            cases l with
            | nil => cases h
            | cons d l' =>
              simp only at h
              split at h
              · rename_i hd
                rw [Option.map_eq_some_iff] at h; obtain ⟨j, hj, rfl⟩ := h
                obtain ⟨k, rfl⟩ : ∃ i, k = i + 2 := ⟨k - 2, by omega⟩
                rw [List.take_succ_cons, List.take_succ_cons, qbody.eq_def]
                simp only [if_neg h1, if_neg h2, if_pos h3, if_pos hd]
                rw [ih l' (by simp at hl; omega) j k hj (by omega)]; rfl
              · cases h
          · simp only [if_neg h3] at h
            rw [Option.map_eq_some_iff] at h; obtain ⟨j, hj, rfl⟩ := h
            obtain ⟨k, rfl⟩ : ∃ i, k = i + 1 := ⟨k - 1, by omega⟩
            rw [List.take_succ_cons, qbody.eq_def]
            simp only [if_neg h1, if_neg h2, if_neg h3]
            rw [ih l (by omega) j k hj (by omega)]; rfl
theorem qbody_take_none (l : List UInt8) (k : Nat) (h : qbody l = none) : qbody (l.take k) = none := by
  cases hq : qbody (l.take k) with
  | none => rfl
  | some m =>
    have := qbody_app _ _ (Nat.le_refl _) m (l.drop k) hq
    rw [List.take_append_drop, h] at this; cases this
theorem qbody_none_app : ∀ (n : Nat) (l : List UInt8), l.length ≤ n → ∀ r, (10 : UInt8) ∈ l → qbody l = none → qbody (l ++ r) = none := by
  intro n
  induction n with
  | zero => intro l hl r h; have : l = [] := List.eq_nil_of_length_eq_zero (by omega); subst this; cases h
  | succ n ih =>
    intro l hl r hm h
    cases l with
    | nil => cases hm
    | cons c l =>
      simp only [List.length_cons] at hl
      rw [qbody.eq_def] at h
      rw [List.cons_append, qbody.eq_def]
      simp only at h ⊢
      by_cases h1 : c = 34
      · simp [h1] at h
      · simp only [if_neg h1] at h ⊢
        by_cases h2 : c = 10
        · simp only [h2, if_true]
        · have hm2 : (10 : UInt8) ∈ l := by
            rcases List.mem_cons.1 hm with e | e
            · exact absurd e.symm h2
            · exact e
          simp only [if_neg h2] at h ⊢
          by_cases h3 : c = 92
          · simp only [if_pos h3] at h ⊢
            cases l with
            | nil => cases hm2
            | cons d l' =>
              simp only [List.cons_append] at h ⊢
              by_cases hd : d = 110 ∨ d = 34 ∨ d = 92
              · simp only [if_pos hd, Option.map_eq_none_iff] at h ⊢
                refine ih l' (by simp at hl; omega) r ?_ h
                rcases List.mem_cons.1 hm2 with e | e
                · subst e; simp at hd
                · exact e
              · simp only [if_neg hd]
          · simp only [if_neg h3, Option.map_eq_none_iff] at h ⊢
            exact ih l (by omega) r hm2 h

/-- Does a remark begin here? -/
def pre (l : List UInt8) : Bool := [47, 47].isPrefixOf l
theorem pre_eq (l : List UInt8) : pre l = (decide (2 ≤ l.length) && (at_ l 0 == 47 && at_ l 1 == 47)) := by
  unfold pre
  match l with
  | [] => rfl
  | [c] => simp [List.isPrefixOf]
  | c :: d :: r =>
    simp only [List.isPrefixOf, at_, List.length_cons]
    rw [show ((47 : UInt8) == c) = (c == 47) from BEq.comm, show ((47 : UInt8) == d) = (d == 47) from BEq.comm]
    simp

theorem good_blank {l : List UInt8} (h : isBlank (at_ l 0) = true) : goodKN l = (1, runN isBlank l) := by unfold goodKN; rw [if_pos h]
theorem good_remark {l : List UInt8} (h : isBlank (at_ l 0) = false) (h2 : pre l = true) : goodKN l = (2, lineN l) := by
  unfold goodKN; unfold pre at h2; simp [h, h2]
theorem good_letter {l : List UInt8} (h : isBlank (at_ l 0) = false) (h2 : pre l = false) (h3 : isLetter (at_ l 0) = true) :
    goodKN l = (if isWord (l.take (runN isAlnum l)) then 4 else 3, runN isAlnum l) := by
  unfold goodKN; unfold pre at h2; simp [h, h2, h3]
theorem good_digit {l : List UInt8} (h : isBlank (at_ l 0) = false) (h2 : pre l = false) (h3 : isLetter (at_ l 0) = false) (h4 : isDigit (at_ l 0) = true) :
    goodKN l = (5, runN isDigit l) := by
  unfold goodKN; unfold pre at h2; simp [h, h2, h3, h4]
theorem good_quote {l : List UInt8} (h5 : at_ l 0 = 34) : goodKN l = (6, quotedN l) := by
  have h : isBlank (at_ l 0) = false := by rw [h5]; decide
  have h2 : pre l = false := by rw [pre_eq, h5]; simp
  have h3 : isLetter (at_ l 0) = false := by rw [h5]; decide
  have h4 : isDigit (at_ l 0) = false := by rw [h5]; decide
  unfold goodKN; unfold pre at h2; rw [h, h2, h3, h4]; simp only [Bool.false_eq_true, if_false]; rw [if_pos h5]
theorem good_sign {l : List UInt8} (h : isBlank (at_ l 0) = false) (h2 : pre l = false) (h3 : isLetter (at_ l 0) = false) (h4 : isDigit (at_ l 0) = false) (h5 : at_ l 0 ≠ 34) :
    goodKN l = (7, signN l) := by
  unfold goodKN; unfold pre at h2; simp [h, h2, h3, h4, h5]

theorem line_remark {l : List UInt8} (h : pre l = true) : 2 ≤ lineN l := by
  rw [pre_eq] at h
  simp only [Bool.and_eq_true, decide_eq_true_eq, beq_iff_eq] at h
  obtain ⟨h0, h1, h2⟩ := h
  match l, h0 with
  | c :: d :: r, _ =>
    have hc : c = 47 := by simpa [at_] using h1
    have hd : d = 47 := by simpa [at_] using h2
    subst hc; subst hd
    simp [lineN, runN, List.takeWhile_cons]
theorem alnum_letter {c : UInt8} (h : isLetter c = true) : isAlnum c = true := by simp [isAlnum, h]

theorem take_take_le (l : List UInt8) (a m : Nat) (h : a ≤ m) : (l.take m).take a = l.take a := by rw [List.take_take, Nat.min_eq_left h]
theorem drop_take_one (l : List UInt8) (m : Nat) : (l.take m).drop 1 = (l.drop 1).take (m - 1) := by rw [List.drop_take]
theorem signN_two (l : List UInt8) (h1 : 2 ≤ l.length) (h2 : isSign (l.take 2) = true) : signN l = 2 := by unfold signN; rw [if_pos ⟨h1, h2⟩]
theorem signN_one (l : List UInt8) (h1 : ¬ (2 ≤ l.length ∧ isSign (l.take 2) = true)) (h2 : 1 ≤ l.length ∧ isSign (l.take 1) = true) : signN l = 1 := by
  unfold signN; rw [if_neg h1, if_pos h2]
theorem signN_zero (l : List UInt8) (h1 : ¬ (2 ≤ l.length ∧ isSign (l.take 2) = true)) (h2 : ¬ (1 ≤ l.length ∧ isSign (l.take 1) = true)) : signN l = 0 := by
  unfold signN; rw [if_neg h1, if_neg h2]

theorem good_take (l : List UInt8) (m : Nat) (h : 0 < (goodKN l).2) (hm : (goodKN l).2 ≤ m) : goodKN (l.take m) = goodKN l := by
  have e0 : at_ (l.take m) 0 = at_ l 0 := at_take _ _ _ (by omega)
  cases h1 : isBlank (at_ l 0) with
  | true => rw [good_blank h1] at h hm ⊢; rw [good_blank (by rw [e0]; exact h1), runN_take _ _ _ hm]
  | false =>
    cases h2 : pre l with
    | true =>
      have h22 := line_remark h2
      rw [good_remark h1 h2] at h hm ⊢
      have hmm : lineN l ≤ m := hm
      have : pre (l.take m) = true := by
        rw [pre_eq] at h2 ⊢
        simp only [Bool.and_eq_true, decide_eq_true_eq] at h2 ⊢
        rw [e0, at_take _ _ _ (by omega)]
        exact ⟨by simp; omega, h2.2⟩
      rw [good_remark (by rw [e0]; exact h1) this]; unfold lineN at hmm ⊢; rw [runN_take _ _ _ hmm]
    | false =>
      have h2' : pre (l.take m) = false := by
        rw [pre_eq] at h2 ⊢
        by_cases hm2 : 2 ≤ (l.take m).length
        · simp at hm2
          rw [e0, at_take _ _ _ (by omega)]
          rw [decide_eq_true (by omega)] at h2; simp at h2 ⊢; intro _; exact h2
        · simp only [hm2, decide_false, Bool.false_and]
      cases h3 : isLetter (at_ l 0) with
      | true =>
        rw [good_letter h1 h2 h3] at h hm ⊢
        have hmm : runN isAlnum l ≤ m := hm
        rw [good_letter (by rw [e0]; exact h1) h2' (by rw [e0]; exact h3), runN_take _ _ _ hmm, take_take_le _ _ _ hmm]
      | false =>
        cases h4 : isDigit (at_ l 0) with
        | true =>
          rw [good_digit h1 h2 h3 h4] at h hm ⊢
          rw [good_digit (by rw [e0]; exact h1) h2' (by rw [e0]; exact h3) (by rw [e0]; exact h4), runN_take _ _ _ hm]
        | false =>
          by_cases h5 : at_ l 0 = 34
          · rw [good_quote h5] at h hm ⊢
            rw [good_quote (by rw [e0]; exact h5)]
            simp only at h hm
            unfold quotedN at h hm ⊢
            rw [drop_take_one]
            cases hq : qbody (l.drop 1) with
            | none => rw [hq] at h; simp [qRes] at h
            | some k =>
              rw [hq] at hm; simp only [qRes] at hm
              rw [qbody_take _ _ (Nat.le_refl _) k (m - 1) hq (by omega)]
          · rw [good_sign h1 h2 h3 h4 h5] at h hm ⊢
            rw [good_sign (by rw [e0]; exact h1) h2' (by rw [e0]; exact h3) (by rw [e0]; exact h4) (by rw [e0]; exact h5)]
            simp only at h hm
            congr 1
            by_cases s2 : 2 ≤ l.length ∧ isSign (l.take 2) = true
            · rw [signN_two l s2.1 s2.2] at hm ⊢
              exact signN_two _ (by simp; omega) (by rw [take_take_le _ _ _ hm]; exact s2.2)
            · by_cases s1 : 1 ≤ l.length ∧ isSign (l.take 1) = true
              · rw [signN_one l s2 s1] at hm ⊢
                refine signN_one _ ?_ ⟨by simp; omega, by rw [take_take_le _ _ _ hm]; exact s1.2⟩
                rintro ⟨a, b⟩
                simp at a
                rw [take_take_le _ _ _ (by omega)] at b
                exact s2 ⟨by omega, b⟩
              · rw [signN_zero l s2 s1] at h; omega

theorem good_cut {l : List UInt8} (h : (goodKN l).2 = 0) (hl : 0 < l.length) : isBlank (at_ l 0) = false ∧ pre l = false ∧ isLetter (at_ l 0) = false ∧ isDigit (at_ l 0) = false := by
  cases h1 : isBlank (at_ l 0) with
  | true => rw [good_blank h1] at h; have := runN_pos _ l hl h1; simp only at h; omega
  | false =>
    cases h2 : pre l with
    | true => rw [good_remark h1 h2] at h; have := line_remark h2; simp only at h; omega
    | false =>
      cases h3 : isLetter (at_ l 0) with
      | true => rw [good_letter h1 h2 h3] at h; have := runN_pos isAlnum l hl (alnum_letter h3); simp only at h; omega
      | false =>
        cases h4 : isDigit (at_ l 0) with
        | true => rw [good_digit h1 h2 h3 h4] at h; have := runN_pos _ l hl h4; simp only at h; omega
        | false => exact ⟨rfl, rfl, rfl, rfl⟩

theorem sign_none {l : List UInt8} (h : signN l = 0) : ¬ (2 ≤ l.length ∧ isSign (l.take 2) = true) ∧ ¬ (1 ≤ l.length ∧ isSign (l.take 1) = true) := by
  unfold signN at h
  split at h
  · omega
  · split at h
    · omega
    · constructor <;> assumption

theorem good_take_zero (l : List UInt8) (m : Nat) (h : (goodKN l).2 = 0) (hl : 0 < l.length) (hm : 0 < m) : (goodKN (l.take m)).2 = 0 := by
  obtain ⟨h1, h2, h3, h4⟩ := good_cut h hl
  have e0 : at_ (l.take m) 0 = at_ l 0 := at_take _ _ _ hm
  have h2' : pre (l.take m) = false := by
    rw [pre_eq] at h2 ⊢
    by_cases hm2 : 2 ≤ (l.take m).length
    · simp at hm2
      rw [e0, at_take _ _ _ (by omega)]
      rw [decide_eq_true (by omega)] at h2; simp at h2 ⊢; intro _; exact h2
    · simp only [hm2, decide_false, Bool.false_and]
  by_cases h5 : at_ l 0 = 34
  · rw [good_quote h5] at h
    rw [good_quote (by rw [e0]; exact h5)]
    simp only at h ⊢
    unfold quotedN at h ⊢
    rw [drop_take_one]
    cases hq : qbody (l.drop 1) with
    | none => rw [qbody_take_none _ _ hq]; rfl
    | some k => rw [hq] at h; simp [qRes] at h
  · rw [good_sign h1 h2 h3 h4 h5] at h
    rw [good_sign (by rw [e0]; exact h1) h2' (by rw [e0]; exact h3) (by rw [e0]; exact h4) (by rw [e0]; exact h5)]
    obtain ⟨s2, s1⟩ := sign_none h
    refine signN_zero _ ?_ ?_
    · rintro ⟨a, b⟩
      simp at a
      rw [take_take_le _ _ _ (by omega)] at b
      exact s2 ⟨by omega, b⟩
    · rintro ⟨a, b⟩
      simp at a
      rw [take_take_le _ _ _ (by omega)] at b
      exact s1 ⟨by omega, b⟩

theorem next_bad {l : List UInt8} (h : (goodKN l).2 = 0) : nextKN l = (8, if at_ l 0 = 34 then lineN l else 1 + runBad (l.drop 1)) := by
  unfold nextKN; rw [if_neg (by omega)]
theorem next_good {l : List UInt8} (h : 0 < (goodKN l).2) : nextKN l = goodKN l := by unfold nextKN; rw [if_pos h]

theorem runBad_take : ∀ (r : List UInt8) (k : Nat), (k = runBad r ∨ (runBad r < r.length ∧ runBad r + (nextKN (r.drop (runBad r))).2 ≤ k)) → runBad (r.take k) = runBad r
  | [], k, h => by simp [runBad]
  | c :: r, k, h => by
    have hpos := nextKN_pos (c :: r) (by simp)
    by_cases h34 : c = 34
    · have e : runBad (c :: r) = 0 := by unfold runBad; rw [if_pos h34]
      rw [e] at h ⊢
      cases k with
      | zero => rfl
      | succ k => rw [List.take_succ_cons]; unfold runBad; rw [if_pos h34]
    · by_cases hg : 0 < (goodKN (c :: r)).2
      · have e : runBad (c :: r) = 0 := by unfold runBad; rw [if_neg h34, if_pos hg]
        rw [e] at h ⊢
        cases k with
        | zero => rfl
        | succ k =>
          rcases h with h | ⟨_, h⟩
          · omega
          · rw [List.drop_zero, next_good hg] at h
            have := good_take (c :: r) (k + 1) hg (by omega)
            rw [List.take_succ_cons] at this ⊢
            unfold runBad; rw [if_neg h34, this, if_pos hg]
      · have e : runBad (c :: r) = runBad r + 1 := by conv => lhs; unfold runBad
                                                      rw [if_neg h34, if_neg hg]
        rw [e] at h ⊢
        obtain ⟨k, rfl⟩ : ∃ j, k = j + 1 := ⟨k - 1, by omega⟩
        have := good_take_zero (c :: r) (k + 1) (by omega) (by simp) (by omega)
        rw [List.take_succ_cons] at this ⊢
        conv => lhs; unfold runBad
        rw [if_neg h34, this, if_neg (by omega), runBad_take r k ?_]
        rcases h with h | ⟨h1, h⟩
        · exact .inl (by omega)
        · rw [List.drop_succ_cons] at h
          simp only [List.length_cons] at h1
          exact .inr ⟨by omega, by omega⟩

theorem next_take (l : List UInt8) (m : Nat) (hl : 0 < l.length)
    (hm : m = (nextKN l).2 ∨ ((nextKN l).2 < l.length ∧ (nextKN l).2 + (nextKN (l.drop (nextKN l).2)).2 ≤ m)) : nextKN (l.take m) = nextKN l := by
  have hp := nextKN_pos l hl
  have hmn : (nextKN l).2 ≤ m := by omega
  by_cases hg : 0 < (goodKN l).2
  · rw [next_good hg] at hmn ⊢
    have := good_take l m hg hmn
    rw [next_good (by rw [this]; exact hg), this]
  · have hg0 : (goodKN l).2 = 0 := by omega
    have hz := good_take_zero l m hg0 hl (by omega)
    have e0 : at_ (l.take m) 0 = at_ l 0 := at_take _ _ _ (by omega)
    rw [next_bad hz, next_bad hg0]
    rw [next_bad hg0] at hm hmn
    rw [e0]
    simp only at hm hmn
    by_cases h5 : at_ l 0 = 34
    · simp only [if_pos h5] at hm hmn ⊢
      unfold lineN at hmn ⊢; rw [runN_take _ _ _ hmn]
    · simp only [if_neg h5] at hm hmn ⊢
      rw [drop_take_one, runBad_take]
      rcases hm with hm | ⟨h1, h2⟩
      · exact .inl (by omega)
      · rw [← List.drop_drop] at h2
        exact .inr ⟨by rw [List.length_drop]; omega, by omega⟩

theorem pre_app (l r : List UInt8) (h : 2 ≤ l.length) : pre (l ++ r) = pre l := by
  rw [pre_eq, pre_eq, at_app _ _ _ (by omega), at_app _ _ _ (by omega), decide_eq_true (by simp; omega), decide_eq_true h]
theorem take_app (l r : List UInt8) (k : Nat) (h : k ≤ l.length) : (l ++ r).take k = l.take k := List.take_append_of_le_length h
theorem drop_app (l r : List UInt8) (k : Nat) (h : k ≤ l.length) : (l ++ r).drop k = l.drop k ++ r := List.drop_append_of_le_length h

theorem good_app (l r : List UInt8) (h : 0 < (goodKN l).2) (hm : (goodKN l).2 < l.length) : goodKN (l ++ r) = goodKN l := by
  have e0 : at_ (l ++ r) 0 = at_ l 0 := at_app _ _ _ (by omega)
  have h2l : 2 ≤ l.length := by omega
  have ep := pre_app l r h2l
  cases h1 : isBlank (at_ l 0) with
  | true => rw [good_blank h1] at h hm ⊢; rw [good_blank (by rw [e0]; exact h1), runN_app _ _ _ hm]
  | false =>
    cases h2 : pre l with
    | true =>
      rw [good_remark h1 h2] at h hm ⊢
      have hmm : lineN l < l.length := hm
      rw [good_remark (by rw [e0]; exact h1) (by rw [ep]; exact h2)]; unfold lineN at hmm ⊢; rw [runN_app _ _ _ hmm]
    | false =>
      cases h3 : isLetter (at_ l 0) with
      | true =>
        rw [good_letter h1 h2 h3] at h hm ⊢
        have hmm : runN isAlnum l < l.length := hm
        rw [good_letter (by rw [e0]; exact h1) (by rw [ep]; exact h2) (by rw [e0]; exact h3), runN_app _ _ _ hmm, take_app _ _ _ (by omega)]
      | false =>
        cases h4 : isDigit (at_ l 0) with
        | true =>
          rw [good_digit h1 h2 h3 h4] at h hm ⊢
          rw [good_digit (by rw [e0]; exact h1) (by rw [ep]; exact h2) (by rw [e0]; exact h3) (by rw [e0]; exact h4), runN_app _ _ _ hm]
        | false =>
          by_cases h5 : at_ l 0 = 34
          · rw [good_quote h5] at h hm ⊢
            rw [good_quote (by rw [e0]; exact h5)]
            simp only at h hm
            unfold quotedN at h hm ⊢
            rw [drop_app _ _ _ (by omega)]
            cases hq : qbody (l.drop 1) with
            | none => rw [hq] at h; simp [qRes] at h
            | some k => rw [qbody_app _ _ (Nat.le_refl _) k r hq]
          · rw [good_sign h1 h2 h3 h4 h5] at h hm ⊢
            rw [good_sign (by rw [e0]; exact h1) (by rw [ep]; exact h2) (by rw [e0]; exact h3) (by rw [e0]; exact h4) (by rw [e0]; exact h5)]
            congr 1
            unfold signN
            rw [take_app _ _ _ h2l, take_app _ _ _ (by omega)]
            simp only [List.length_append, h2l, show 2 ≤ l.length + r.length by omega, show 1 ≤ l.length + r.length by omega, show 1 ≤ l.length by omega]

theorem good_app_pos (l r : List UInt8) (h : 0 < (goodKN l).2) (hl : 0 < l.length) : 0 < (goodKN (l ++ r)).2 := by
  have e0 : at_ (l ++ r) 0 = at_ l 0 := at_app _ _ _ hl
  have hl' : 0 < (l ++ r).length := by simp; omega
  rcases Nat.eq_zero_or_pos (goodKN (l ++ r)).2 with hz | hz
  · exfalso
    obtain ⟨h1, h2, h3, h4⟩ := good_cut hz hl'
    rw [e0] at h1 h3 h4
    have h2' : pre l = false := by
      by_cases h2l : 2 ≤ l.length
      · rw [← pre_app l r h2l]; exact h2
      · rw [pre_eq, decide_eq_false h2l]; rfl
    by_cases h5 : at_ l 0 = 34
    · rw [good_quote (by rw [e0]; exact h5)] at hz
      rw [good_quote h5] at h
      simp only at h hz
      unfold quotedN at h hz
      rw [drop_app _ _ _ (by omega)] at hz
      cases hq : qbody (l.drop 1) with
      | none => rw [hq] at h; simp [qRes] at h
      | some k => rw [qbody_app _ _ (Nat.le_refl _) k r hq] at hz; simp [qRes] at hz
    · rw [good_sign (by rw [e0]; exact h1) h2 (by rw [e0]; exact h3) (by rw [e0]; exact h4) (by rw [e0]; exact h5)] at hz
      rw [good_sign h1 h2' h3 h4 h5] at h
      obtain ⟨s2, s1⟩ := sign_none hz
      rw [signN_zero l ?_ ?_] at h
      · simp at h
      · rintro ⟨a, b⟩
        exact s2 ⟨by simp; omega, by rw [take_app _ _ _ a]; exact b⟩
      · rintro ⟨a, b⟩
        exact s1 ⟨by simp; omega, by rw [take_app _ _ _ a]; exact b⟩
  · exact hz

theorem good_app_zero (l r : List UInt8) (h : (goodKN l).2 = 0) (h2l : 2 ≤ l.length) (h5 : at_ l 0 ≠ 34) : (goodKN (l ++ r)).2 = 0 := by
  obtain ⟨h1, h2, h3, h4⟩ := good_cut h (by omega)
  have e0 : at_ (l ++ r) 0 = at_ l 0 := at_app _ _ _ (by omega)
  have ep := pre_app l r h2l
  rw [good_sign h1 h2 h3 h4 h5] at h
  rw [good_sign (by rw [e0]; exact h1) (by rw [ep]; exact h2) (by rw [e0]; exact h3) (by rw [e0]; exact h4) (by rw [e0]; exact h5)]
  obtain ⟨s2, s1⟩ := sign_none h
  refine signN_zero _ ?_ ?_
  · rintro ⟨a, b⟩
    rw [take_app _ _ _ h2l] at b
    exact s2 ⟨h2l, b⟩
  · rintro ⟨a, b⟩
    rw [take_app _ _ _ (by omega)] at b
    exact s1 ⟨by omega, b⟩

theorem runBad_app : ∀ (r s : List UInt8), runBad r < r.length → runBad (r ++ s) = runBad r
  | [], s, h => by simp at h
  | c :: r, s, h => by
    by_cases h34 : c = 34
    · rw [List.cons_append]; unfold runBad; rw [if_pos h34, if_pos h34]
    · by_cases hg : 0 < (goodKN (c :: r)).2
      · have := good_app_pos (c :: r) s hg (by simp)
        rw [List.cons_append] at this ⊢
        unfold runBad; rw [if_neg h34, if_neg h34, if_pos hg, if_pos this]
      · have e : runBad (c :: r) = runBad r + 1 := by conv => lhs; unfold runBad
                                                      rw [if_neg h34, if_neg hg]
        rw [e] at h ⊢
        have hr : runBad r < r.length := by simpa using h
        have := good_app_zero (c :: r) s (by omega) (by simp; omega) (by simpa [at_] using h34)
        rw [List.cons_append] at this ⊢
        conv => lhs; unfold runBad
        rw [if_neg h34, this, if_neg (by omega), runBad_app r s hr]

theorem next_app (l r : List UInt8) (h : (nextKN l).2 < l.length) : nextKN (l ++ r) = nextKN l := by
  have hl : 0 < l.length := by omega
  have hp := nextKN_pos l hl
  by_cases hg : 0 < (goodKN l).2
  · rw [next_good hg] at h ⊢
    have := good_app l r hg h
    rw [next_good (by rw [this]; exact hg), this]
  · have hg0 : (goodKN l).2 = 0 := by omega
    have e0 : at_ (l ++ r) 0 = at_ l 0 := at_app _ _ _ (by omega)
    rw [next_bad hg0] at h hp ⊢
    simp only at h hp
    by_cases h5 : at_ l 0 = 34
    · simp only [if_pos h5] at h hp ⊢
      have hz : (goodKN (l ++ r)).2 = 0 := by
        rw [good_quote h5] at hg0
        rw [good_quote (by rw [e0]; exact h5)]
        simp only at hg0 ⊢
        unfold quotedN at hg0 ⊢
        rw [drop_app _ _ _ (by omega)]
        cases hq : qbody (l.drop 1) with
        | some k => rw [hq] at hg0; simp [qRes] at hg0
        | none =>
          rw [qbody_none_app _ _ (Nat.le_refl _) r ?_ hq]; rfl
          have hs := runN_stop _ l h
          have hb : at_ l (lineN l) = 10 := by unfold lineN; simpa using hs
          obtain ⟨c, l', rfl⟩ : ∃ c l', l = c :: l' := by cases l with
            | nil => simp at hl
            | cons c l' => exact ⟨c, l', rfl⟩
          obtain ⟨k, hk⟩ : ∃ k, lineN (c :: l') = k + 1 := ⟨_, (Nat.succ_pred_eq_of_pos hp).symm⟩
          rw [hk] at hb h
          have hkl : k < l'.length := by simpa using h
          have hb' : at_ l' k = 10 := by simpa [at_] using hb
          rw [at_, List.getD_eq_getElem?_getD, List.getElem?_eq_getElem hkl] at hb'
          rw [← hb']
          exact List.getElem_mem _
      rw [next_bad hz, e0, if_pos h5]
      unfold lineN at h ⊢; rw [runN_app _ _ _ h]
    · simp only [if_neg h5] at h hp ⊢
      have hz := good_app_zero l r hg0 (by omega) h5
      rw [next_bad hz, e0, if_neg h5, drop_app _ _ _ (by omega), runBad_app _ _ (by rw [List.length_drop]; omega)]

end Go.Proofs.YtepgjaecfoaenaaGreatDoor

namespace Go.Proofs.YtepgjaecfoaenaaGreatDoor
set_option linter.unusedVariables false
set_option linter.unusedSimpArgs false

theorem lex_pos : ∀ (n : Nat) (l : List UInt8), l.length ≤ n → ∀ t ∈ lex l, 0 < t.text.length := by
  intro n
  induction n with
  | zero =>
    intro l hl t ht
    have : l = [] := List.eq_nil_of_length_eq_zero (by omega)
    subst this; rw [lex_nil] at ht; cases ht
  | succ n ih =>
    intro l hl t ht
    by_cases h0 : 0 < l.length
    · have hp := nextKN_pos l h0
      have hle := nextKN_le l h0
      rw [lex_cons l h0] at ht
      rcases List.mem_cons.1 ht with rfl | ht
      · simp [nextT]; omega
      · exact ih _ (by simp; omega) t ht
    · have : l = [] := List.eq_nil_of_length_eq_zero (by omega)
      subst this; rw [lex_nil] at ht; cases ht

theorem nextT_len (l : List UInt8) (h : 0 < l.length) : (nextT l).text.length = (nextKN l).2 := by
  have := nextKN_le l h; simp [nextT]; omega
theorem nextT_text (l : List UInt8) : (nextT l).text = l.take (nextKN l).2 := rfl

theorem lex_one (l : List UInt8) (h : 0 < l.length) : lex (nextT l).text = [nextT l] := by
  have hp := nextKN_pos l h
  have hle := nextKN_le l h
  have e := next_take l (nextKN l).2 h (.inl rfl)
  rw [nextT_text]
  rw [lex_cons _ (by simp; omega), e]
  have : (l.take (nextKN l).2).drop (nextKN l).2 = [] := List.drop_eq_nil_of_le (by simp; omega)
  rw [this, lex_nil]
  congr 1
  unfold nextT
  rw [e, List.take_take, Nat.min_self]
theorem lex_two (l : List UInt8) (h : (nextKN l).2 < l.length) : lex ((nextT l).text ++ (nextT (l.drop (nextKN l).2)).text) = [nextT l, nextT (l.drop (nextKN l).2)] := by
  have hl : 0 < l.length := by omega
  have hp := nextKN_pos l hl
  obtain ⟨n, hn⟩ : ∃ n, n = (nextKN l).2 := ⟨_, rfl⟩
  rw [← hn] at h hp ⊢
  obtain ⟨u, hu⟩ : ∃ u, u = l.drop n := ⟨_, rfl⟩
  have hul : 0 < u.length := by rw [hu]; simp; omega
  have hul2 : n + u.length = l.length := by rw [hu]; simp; omega
  rw [← hu]
  have hp2 := nextKN_pos u hul
  have hle2 := nextKN_le u hul
  obtain ⟨k, hk⟩ : ∃ k, k = (nextKN u).2 := ⟨_, rfl⟩
  have e := next_take l (n + k) hl (.inr ⟨by omega, by rw [← hn, ← hu]; omega⟩)
  have et : (nextT l).text ++ (nextT u).text = l.take (n + k) := by
    rw [nextT_text, nextT_text, ← hn, ← hk, List.take_add, hu]
  rw [et, lex_cons _ (by simp; omega), e, ← hn]
  have ed : (l.take (n + k)).drop n = (nextT u).text := by rw [nextT_text, ← hk, List.drop_take, hu]; congr 1; omega
  rw [ed, lex_one u hul]
  congr 1
  unfold nextT
  rw [e, ← hn, List.take_take, Nat.min_eq_left (by omega)]

theorem isTok_of {t : Tok} (h0 : 0 < t.text.length) (h1 : t.text.length ≤ 20000) (h : lex t.text = [t]) : isTokB t = true := by
  unfold isTokB areB
  have : textErr [t] = 0 := textErr_ok [t] (by rw [textOf_one]; simp; omega) (by rw [textOf_one]; exact h)
  rw [this]
  have : (t.text == []) = false := by cases hx : t.text <;> simp [hx] at h0 ⊢
  rw [this]; rfl
theorem textOf_two (t u : Tok) : textOf [t, u] = t.text ++ u.text := by simp [textOf]
theorem are_two {t u : Tok} (h1 : t.text.length + u.text.length ≤ 20000) (h : lex (t.text ++ u.text) = [t, u]) : areB [t, u] = true := by
  unfold areB
  have : textErr [t, u] = 0 := textErr_ok [t, u] (by rw [textOf_two]; simp; omega) (by rw [textOf_two]; exact h)
  rw [this]; rfl
theorem two_are {t u : Tok} (h : areB [t, u] = true) : lex (t.text ++ u.text) = [t, u] := by
  unfold areB at h
  have h3 : textErr [t, u] = 0 := by simpa using h
  unfold textErr at h3
  rw [textOf_two] at h3
  split at h3
  · omega
  · split at h3
    · assumption
    · omega

theorem lex_isTok : ∀ (n : Nat) (l : List UInt8), l.length ≤ n → l.length ≤ 20000 → ∀ t ∈ lex l, isTokB t = true := by
  intro n
  induction n with
  | zero =>
    intro l hl _ t ht
    have : l = [] := List.eq_nil_of_length_eq_zero (by omega)
    subst this; rw [lex_nil] at ht; cases ht
  | succ n ih =>
    intro l hl hb t ht
    by_cases h0 : 0 < l.length
    · have hp := nextKN_pos l h0
      have hle := nextKN_le l h0
      rw [lex_cons l h0] at ht
      rcases List.mem_cons.1 ht with rfl | ht
      · have := nextT_len l h0
        exact isTok_of (by omega) (by omega) (lex_one l h0)
      · exact ih _ (by simp; omega) (by simp; omega) t ht
    · have : l = [] := List.eq_nil_of_length_eq_zero (by omega)
      subst this; rw [lex_nil] at ht; cases ht
theorem lex_apart : ∀ (n : Nat) (l : List UInt8), l.length ≤ n → l.length ≤ 20000 → ∀ (k : Nat) (t u : Tok), (lex l)[k]? = some t → (lex l)[k + 1]? = some u → apartB t u = true := by
  intro n
  induction n with
  | zero =>
    intro l hl _ k t u ht
    have : l = [] := List.eq_nil_of_length_eq_zero (by omega)
    subst this; rw [lex_nil] at ht; cases ht
  | succ n ih =>
    intro l hl hb k t u ht hu
    by_cases h0 : 0 < l.length
    · have hp := nextKN_pos l h0
      have hle := nextKN_le l h0
      have mt := lex_isTok _ l (Nat.le_refl _) hb t (List.mem_of_getElem? ht)
      have mu := lex_isTok _ l (Nat.le_refl _) hb u (List.mem_of_getElem? hu)
      rw [lex_cons l h0] at ht hu
      cases k with
      | succ k => exact ih (l.drop (nextKN l).2) (by rw [List.length_drop]; omega) (by rw [List.length_drop]; omega) k t u (by simpa using ht) (by simpa using hu)
      | zero =>
        obtain rfl : nextT l = t := by simpa using ht
        by_cases h1 : 0 < (l.drop (nextKN l).2).length
        · rw [lex_cons _ h1] at hu
          obtain rfl : nextT (l.drop (nextKN l).2) = u := by simpa using hu
          have n1 := nextT_len l h0
          have n2 := nextT_len _ h1
          have n3 := nextKN_le _ h1
          unfold apartB
          rw [mt, mu, are_two ?_ (lex_two l (by simp at h1; omega))]; rfl
          rw [List.length_drop] at h1 n3; omega
        · have : l.drop (nextKN l).2 = [] := List.eq_nil_of_length_eq_zero (by omega)
          rw [this, lex_nil] at hu; simp at hu
    · have : l = [] := List.eq_nil_of_length_eq_zero (by omega)
      subst this; rw [lex_nil] at ht; cases ht
theorem textErr_lex (l : List UInt8) (h : l.length ≤ 20000) : textErr (lex l) = 0 := by
  have := lex_length l
  exact textErr_ok _ (by rw [textOf_lex]; omega) (by rw [textOf_lex])
theorem textRes_lex (l : List UInt8) (h : l.length ≤ 20000) : textRes (lex l) = l := by rw [textRes_ok _ (textErr_lex l h), textOf_lex]

/-- All tokens but the last one are those of the string that goes on. -/
theorem lex_tail : ∀ (n : Nat) (A : List UInt8), A.length ≤ n → 0 < A.length → ∃ ts t, lex A = ts ++ [t] ∧ 0 < t.text.length ∧ (textOf ts ++ t.text = A) ∧ ∀ B, lex (A ++ B) = ts ++ lex (t.text ++ B) := by
  intro n
  induction n with
  | zero => intro A h h0; omega
  | succ n ih =>
    intro A h h0
    have hp := nextKN_pos A h0
    have hle := nextKN_le A h0
    by_cases hlt : (nextKN A).2 < A.length
    · obtain ⟨ts, t, e1, e2, e3, e4⟩ := ih (A.drop (nextKN A).2) (by simp; omega) (by simp; omega)
      refine ⟨nextT A :: ts, t, ?_, e2, ?_, fun B => ?_⟩
      · rw [lex_cons A h0, e1]; rfl
      · rw [textOf_cons, List.append_assoc, e3, nextT_text, List.take_append_drop]
      · have en := next_app A B hlt
        rw [lex_cons (A ++ B) (by simp; omega), en, drop_app _ _ _ hle, e4]
        have : nextT (A ++ B) = nextT A := by unfold nextT; rw [en, take_app _ _ _ hle]
        rw [this]; rfl
    · have hn : (nextKN A).2 = A.length := by omega
      have ht : (nextT A).text = A := by rw [nextT_text, hn, List.take_length]
      refine ⟨[], nextT A, ?_, by rw [ht]; exact h0, by rw [ht]; rfl, fun B => by rw [ht]; rfl⟩
      rw [lex_cons A h0, hn, List.drop_length, lex_nil]; rfl

/-- Behind a token that is apart from the first one of what goes on. -/
theorem lex_glue (t u : Tok) (R : List UInt8) (h1 : 0 < t.text.length) (h2 : 0 < u.text.length) (h : areB [t, u] = true) : lex (t.text ++ (u.text ++ R)) = t :: lex (u.text ++ R) := by
  have hx := two_are h
  have h0 : 0 < (t.text ++ u.text).length := by simp; omega
  rw [lex_cons _ h0] at hx
  injection hx with hx _
  have hn : (nextKN (t.text ++ u.text)).2 = t.text.length := by
    have := nextT_len _ h0
    rw [hx] at this; exact this.symm
  have hlt : (nextKN (t.text ++ u.text)).2 < (t.text ++ u.text).length := by rw [hn]; simp; omega
  have en := next_app _ R hlt
  rw [← List.append_assoc, lex_cons _ (by simp; omega), en, hn]
  have e1 : nextT (t.text ++ u.text ++ R) = t := by
    have e2 : nextT (t.text ++ u.text ++ R) = nextT (t.text ++ u.text) := by unfold nextT; rw [en, take_app _ _ _ (by omega)]
    rw [e2, hx]
  rw [e1, List.append_assoc, List.drop_left]

theorem lex_parts (A B : List UInt8) (ts us : List Tok) (t u : Tok) (hA : lex A = ts ++ [t]) (hB : lex B = u :: us) (h : areB [t, u] = true) : lex (A ++ B) = (ts ++ [t]) ++ (u :: us) := by
  have hA0 : 0 < A.length := by
    rcases Nat.eq_zero_or_pos A.length with h | h
    · have : A = [] := List.eq_nil_of_length_eq_zero h
      subst this; rw [lex_nil] at hA; simp at hA
    · exact h
  have hB0 : 0 < B.length := by
    rcases Nat.eq_zero_or_pos B.length with h | h
    · have : B = [] := List.eq_nil_of_length_eq_zero h
      subst this; rw [lex_nil] at hB; simp at hB
    · exact h
  obtain ⟨ts', t', e1, e2, e3, e4⟩ := lex_tail _ A (Nat.le_refl _) hA0
  rw [hA] at e1
  obtain ⟨rfl, et⟩ := List.append_inj' e1 rfl
  obtain rfl : t = t' := by simpa using et
  have hu : u = nextT B := by rw [lex_cons B hB0] at hB; exact (List.cons.inj hB).1.symm
  have hp := nextKN_pos B hB0
  have hlen := nextT_len B hB0
  have hBe : B = u.text ++ B.drop (nextKN B).2 := by rw [hu, nextT_text, List.take_append_drop]
  rw [e4, hBe, lex_glue t u _ e2 (by rw [hu]; omega) h, ← hBe, hB]
  simp

/-- Put a token behind tokens: a blank behind a blank is one with it. -/
def pushT (x : List Tok) (u : Tok) : List Tok :=
  match x.getLast? with
  | some t => if t.kind = 1 ∧ u.kind = 1 then x.dropLast ++ [⟨1, t.text ++ u.text⟩] else x ++ [u]
  | none => [u]

theorem pushT_nil (u : Tok) : pushT [] u = [u] := rfl
theorem pushT_blank (x : List Tok) (s u : Tok) (h : s.kind = 1) (hu : u.kind = 1) : pushT (x ++ [s]) u = x ++ [⟨1, s.text ++ u.text⟩] := by simp [pushT, h, hu]
theorem pushT_no (x : List Tok) (s u : Tok) (h : ¬ (s.kind = 1 ∧ u.kind = 1)) : pushT (x ++ [s]) u = x ++ [s] ++ [u] := by
  unfold pushT; simp [h]

theorem push_all : ∀ (us : List Tok) (x : List Tok), (∀ s u, x.getLast? = some s → us.head? = some u → ¬ (s.kind = 1 ∧ u.kind = 1)) →
    (∀ (k : Nat) (t u : Tok), us[k]? = some t → us[k + 1]? = some u → ¬ (t.kind = 1 ∧ u.kind = 1)) → us.foldl pushT x = x ++ us
  | [], x, _, _ => by simp
  | u :: us, x, h1, h2 => by
    have e : pushT x u = x ++ [u] := by
      rcases List.eq_nil_or_concat x with rfl | ⟨y, s, hys⟩
      · rfl
      · rw [List.concat_eq_append] at hys; subst hys; exact pushT_no y s u (h1 s u (by simp) rfl)
    rw [List.foldl_cons, e, push_all us (x ++ [u]) ?_ (fun k t v ht hv => h2 (k + 1) t v (by simpa using ht) (by simpa using hv))]
    · simp
    · intro s v hs hv
      obtain rfl : u = s := by simpa using hs
      cases us with
      | nil => cases hv
      | cons a b => exact h2 0 u v rfl (by simpa using hv)

theorem pair_blank {t u : Tok} (h : pairB t u = true) : ¬ (t.kind = 1 ∧ u.kind = 1) := by
  rintro ⟨a, b⟩; simp [pairB, a, b] at h
theorem lex_chain (l : List UInt8) (k : Nat) (t u : Tok) (ht : (lex l)[k]? = some t) (hu : (lex l)[k + 1]? = some u) : ¬ (t.kind = 1 ∧ u.kind = 1) :=
  pair_blank (lex_pair _ l (Nat.le_refl _) k t u ht hu)

theorem runN_glue (p : UInt8 → Bool) : ∀ (A B : List UInt8), (∀ c ∈ A, p c = true) → runN p (A ++ B) = A.length + runN p B
  | [], B, _ => by simp
  | c :: A, B, h => by
    have hc := h c (List.mem_cons_self ..)
    have := runN_glue p A B (fun d hd => h d (List.mem_cons_of_mem _ hd))
    simp only [runN, List.cons_append, List.takeWhile_cons, hc, if_true, List.length_cons] at this ⊢
    omega

theorem next_first {l : List UInt8} (h : (nextKN l).1 = 1) : isBlank (at_ l 0) = true ∧ (nextKN l).2 = runN isBlank l := by
  have hg := nextKN_good (l := l) (by omega)
  rw [hg] at h ⊢
  exact goodKN_blank h
theorem next_blank {l : List UInt8} (hl : 0 < l.length) (h : isBlank (at_ l 0) = true) : nextKN l = (1, runN isBlank l) := by
  have e := good_blank h
  rw [next_good (by rw [e]; exact runN_pos _ l hl h), e]

/-- The tokens of a string behind one that ends with a line feed. -/
theorem lex_lines (A L : List UInt8) (hA : A = [] ∨ A.getLast? = some 10) : (lex L).foldl pushT (lex A) = lex (A ++ L) := by
  rcases hA with rfl | hA
  · rw [lex_nil, List.nil_append, push_all _ _ (fun s u h => by cases h) (lex_chain L)]; simp
  · have hA0 : 0 < A.length := by cases A <;> simp at hA ⊢
    obtain ⟨ts, t, e1, e2, e3, e4⟩ := lex_tail _ A (Nat.le_refl _) hA0
    have hmem : (10 : UInt8) ∈ t.text := by
      rw [← e3, List.getLast?_append] at hA
      cases hl : t.text.getLast? with
      | none => rw [List.getLast?_eq_none_iff] at hl; rw [hl] at e2; simp at e2
      | some c => rw [hl] at hA; simp at hA; subst hA; exact List.mem_of_getLast? hl
    have hk : t.kind = 1 := Decidable.byContradiction fun hk => lex_10 _ A (Nat.le_refl _) t (by rw [e1]; simp) hk hmem
    -- the last token is a blank: all its bytes are
    obtain ⟨l0, hl0, hl1⟩ : ∃ l0, 0 < l0.length ∧ t = nextT l0 := by
      have hone := lex_isTok
      have : ∀ (n : Nat) (l : List UInt8), l.length ≤ n → ∀ u ∈ lex l, ∃ l0, 0 < l0.length ∧ u = nextT l0 := by
        intro n
        induction n with
        | zero =>
          intro l hl u hu
          have : l = [] := List.eq_nil_of_length_eq_zero (by omega)
          subst this; rw [lex_nil] at hu; cases hu
        | succ n ih =>
          intro l hl u hu
          by_cases h0 : 0 < l.length
          · have hp := nextKN_pos l h0
            rw [lex_cons l h0] at hu
            rcases List.mem_cons.1 hu with rfl | hu
            · exact ⟨l, h0, rfl⟩
            · exact ih _ (by simp; omega) u hu
          · have : l = [] := List.eq_nil_of_length_eq_zero (by omega)
            subst this; rw [lex_nil] at hu; cases hu
      exact this _ A (Nat.le_refl _) t (by rw [e1]; simp)
    have hkn : (nextKN l0).1 = 1 := by rw [hl1] at hk; exact hk
    have hall : ∀ c ∈ t.text, isBlank c = true := by
      intro c hc
      rw [hl1, nextT_text, (next_first hkn).2] at hc
      exact runN_mem _ _ c hc
    have hat : ∀ B, isBlank (at_ (t.text ++ B) 0) = true := by
      intro B
      rw [at_app _ _ _ e2]
      apply hall
      rw [at_, List.getD_eq_getElem?_getD, List.getElem?_eq_getElem e2]
      exact List.getElem_mem _
    rw [e4, e1]
    have hnx := next_blank (l := t.text ++ L) (by simp; omega) (hat L)
    rw [runN_glue _ _ _ hall] at hnx
    rw [lex_cons (t.text ++ L) (by simp; omega), hnx]
    have eT : nextT (t.text ++ L) = ⟨1, t.text ++ L.take (runN isBlank L)⟩ := by
      unfold nextT; rw [hnx, List.take_append, List.take_of_length_le (by omega)]; simp
    rw [eT, show (t.text ++ L).drop (t.text.length + runN isBlank L) = L.drop (runN isBlank L) by rw [List.drop_append]; simp]
    by_cases hL : 0 < L.length
    · cases hb : isBlank (at_ L 0) with
      | true =>
        have hn := next_blank hL hb
        rw [lex_cons L hL, List.foldl_cons]
        have e1' : nextT L = ⟨1, L.take (runN isBlank L)⟩ := by unfold nextT; rw [hn]
        rw [e1', pushT_blank _ _ _ hk rfl, hn]
        rw [push_all _ _ ?_ (lex_chain _)]
        · simp
        · intro s v hs hv
          obtain rfl : (⟨1, t.text ++ L.take (runN isBlank L)⟩ : Tok) = s := by simpa using hs
          have := lex_pair _ L (Nat.le_refl _) 0 (nextT L) v (by rw [lex_cons L hL]; rfl) (by rw [lex_cons L hL, hn]; simpa [List.head?_eq_getElem?] using hv)
          have h2 := pair_blank this
          rw [e1'] at h2; exact h2
      | false =>
        have hr0 : runN isBlank L = 0 := by
          cases L with
          | nil => rfl
          | cons c r => have hc : isBlank c = false := by simpa [at_] using hb
                        simp [runN, List.takeWhile_cons, hc]
        rw [hr0, push_all _ _ ?_ (lex_chain _)]
        · have : (⟨1, t.text⟩ : Tok) = t := by cases t; simp at hk; subst hk; rfl
          simp [this]
        · intro s v hs hv
          rintro ⟨_, h2⟩
          rw [lex_cons L hL] at hv
          obtain rfl : nextT L = v := by simpa using hv
          have := (next_first (l := L) h2).1
          rw [hb] at this; cases this
    · have : L = [] := List.eq_nil_of_length_eq_zero (by omega)
      subst this
      have : (⟨1, t.text⟩ : Tok) = t := by cases t; simp at hk; subst hk; rfl
      simp [lex_nil, runN, this]

end Go.Proofs.YtepgjaecfoaenaaGreatDoor
