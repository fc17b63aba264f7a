/- Plain laws about the tokens of a string: a line feed is in a blank alone, and which kinds may be neighbours. No program in sight. -/
import Derived.Test.YtepgjaecfoaenaaGreatDoorP3
import Derived.Test.YtepgjaecfoaenaaGreatDoorP4
namespace Go.Proofs.YtepgjaecfoaenaaGreatDoor
set_option linter.unusedVariables false
set_option linter.unusedSimpArgs false

theorem runN_stop (p : UInt8 → Bool) : ∀ l : List UInt8, runN p l < l.length → p (at_ l (runN p l)) = false
  | [], h => by simp at h
  | c :: r, h => by
    by_cases hc : p c = true
    · have e : runN p (c :: r) = runN p r + 1 := by simp [runN, List.takeWhile_cons, hc]
      rw [e] at h ⊢
      have := runN_stop p r (by simpa using h)
      simpa [at_] using this
    · have e : runN p (c :: r) = 0 := by simp [runN, List.takeWhile_cons, hc]
      rw [e]; simpa [at_] using hc
theorem runN_mem (p : UInt8 → Bool) : ∀ (l : List UInt8) (c : UInt8), c ∈ l.take (runN p l) → p c = true
  | [], c, h => by simp at h
  | d :: r, c, h => by
    by_cases hd : p d = true
    · have e : runN p (d :: r) = runN p r + 1 := by simp [runN, List.takeWhile_cons, hd]
      rw [e, List.take_succ_cons] at h
      rcases List.mem_cons.1 h with rfl | h
      · exact hd
      · exact runN_mem p r c h
    · have e : runN p (d :: r) = 0 := by simp [runN, List.takeWhile_cons, hd]
      rw [e] at h; simp at h

theorem goodKN_blank {l : List UInt8} (h : (goodKN l).1 = 1) : isBlank (at_ l 0) = true ∧ (goodKN l).2 = runN isBlank l := by
  unfold goodKN at h ⊢
  split at h
  · rename_i hb; rw [if_pos hb]; exact ⟨hb, rfl⟩
  · exfalso
    split at h
    · simp at h
    · split at h
      · split at h <;> simp at h
      · split at h
        · simp at h
        · split at h <;> simp at h
theorem goodKN_name {l : List UInt8} (h : (goodKN l).1 = 3 ∨ (goodKN l).1 = 4) : isLetter (at_ l 0) = true ∧ (goodKN l).2 = runN isAlnum l := by
  unfold goodKN at h ⊢
  split at h
  · simp at h
  · split at h
    · simp at h
    · split at h
      · rename_i h1 h2 h3
        rw [if_neg h1, if_neg h2, if_pos h3]; exact ⟨h3, rfl⟩
      · exfalso
        split at h
        · simp at h
        · split at h <;> simp at h
theorem goodKN_int {l : List UInt8} (h : (goodKN l).1 = 5) : isDigit (at_ l 0) = true := by
  unfold goodKN at h
  split at h
  · simp at h
  · split at h
    · simp at h
    · split at h
      · split at h <;> simp at h
      · split at h
        · assumption
        · split at h <;> simp at h
theorem nextKN_good {l : List UInt8} (h : (nextKN l).1 ≠ 8) : nextKN l = goodKN l := by
  unfold nextKN at h ⊢
  split at h
  · rename_i h1; rw [if_pos h1]
  · simp at h

/-- May these two follow one another? -/
def pairB (t u : Tok) : Bool := !(t.kind == 1 && u.kind == 1) && !((t.kind == 3 || t.kind == 4) && (u.kind == 3 || u.kind == 4 || u.kind == 5))

theorem at_drop (l : List UInt8) (n : Nat) : at_ (l.drop n) 0 = at_ l n := by simp [at_, List.getElem?_drop]

theorem pair_next (l : List UInt8) (h : 0 < (l.drop (nextKN l).2).length) : pairB (nextT l) (nextT (l.drop (nextKN l).2)) = true := by
  have hlt : (nextKN l).2 < l.length := by simp at h; omega
  unfold pairB
  simp only [nextT]
  by_cases h1 : (nextKN l).1 = 1
  · have hg := nextKN_good (l := l) (by omega)
    rw [hg] at h1 hlt ⊢
    obtain ⟨_, e⟩ := goodKN_blank h1
    rw [e] at hlt ⊢
    have hs := runN_stop isBlank l hlt
    have : (nextKN (l.drop (runN isBlank l))).1 ≠ 1 := by
      intro h2
      have hg2 := nextKN_good (l := l.drop (runN isBlank l)) (by omega)
      rw [hg2] at h2
      have := (goodKN_blank h2).1
      rw [at_drop, hs] at this; cases this
    simp [h1, this]
  · by_cases h3 : (nextKN l).1 = 3 ∨ (nextKN l).1 = 4
    · have hg := nextKN_good (l := l) (by omega)
      rw [hg] at h1 h3 hlt ⊢
      obtain ⟨_, e⟩ := goodKN_name h3
      rw [e] at hlt ⊢
      have hs := runN_stop isAlnum l hlt
      simp only [isAlnum, Bool.or_eq_false_iff] at hs
      have n1 : ¬ ((nextKN (l.drop (runN isAlnum l))).1 = 3 ∨ (nextKN (l.drop (runN isAlnum l))).1 = 4) := by
        intro h2
        have hg2 := nextKN_good (l := l.drop (runN isAlnum l)) (by omega)
        rw [hg2] at h2
        have := (goodKN_name h2).1
        rw [at_drop] at this
        rw [hs.1] at this; cases this
      have n2 : (nextKN (l.drop (runN isAlnum l))).1 ≠ 5 := by
        intro h2
        have hg2 := nextKN_good (l := l.drop (runN isAlnum l)) (by omega)
        rw [hg2] at h2
        have := goodKN_int h2
        rw [at_drop] at this
        rw [hs.2] at this; cases this
      simp only [not_or] at n1
      simp [h1, n1.1, n1.2, n2]
    · simp only [not_or] at h3
      simp [h1, h3.1, h3.2]

theorem isAlnum_10 : isAlnum 10 = false := by decide
theorem isDigit_10 : isDigit 10 = false := by decide
theorem signs_10 : ∀ s ∈ signsL, (10 : UInt8) ∉ s := by decide
theorem good_10 (r : List UInt8) : 0 < (goodKN (10 :: r)).2 := by
  have : isBlank (at_ (10 :: r) 0) = true := by show isBlank 10 = true; decide
  unfold goodKN
  rw [if_pos this]
  simp [runN, List.takeWhile_cons, show isBlank 10 = true by decide]
theorem qbody_10 : ∀ (n : Nat) (l : List UInt8), l.length ≤ n → ∀ m, qbody l = some m → (10 : UInt8) ∉ l.take m := by
  intro n
  induction n with
  | zero =>
    intro l hl m h
    have : l = [] := List.eq_nil_of_length_eq_zero (by omega)
    subst this; simp [qbody] at h
  | succ n ih =>
    intro l hl m h
    cases l with
    | nil => simp [qbody] at h
    | cons c r =>
      rw [qbody.eq_def] at h
      simp only [List.length_cons] at hl h
      by_cases h1 : c = 34
      · simp only [h1, if_true] at h; injection h with h; subst h; subst h1; simp
      · rw [if_neg h1] at h
        by_cases h2 : c = 10
        · simp only [h2, if_true] at h; cases h
        · rw [if_neg h2] at h
          by_cases h3 : c = 92
          · rw [if_pos h3] at h
            cases r with
            | nil => cases h
            | cons d r' =>
              simp only at h
              split at h
              · rename_i hd
                rw [Option.map_eq_some_iff] at h; obtain ⟨k, hk, rfl⟩ := h
                have := ih r' (by simp at hl; omega) k hk
                simp only [List.take_succ_cons, List.mem_cons, not_or]
                refine ⟨fun e => h2 e.symm, ?_, this⟩
                rintro rfl; simp at hd
              · cases h
          · rw [if_neg h3] at h
            rw [Option.map_eq_some_iff] at h; obtain ⟨k, hk, rfl⟩ := h
            have := ih r (by omega) k hk
            simp only [List.take_succ_cons, List.mem_cons, not_or]
            exact ⟨fun e => h2 e.symm, this⟩
theorem runBad_10 : ∀ l : List UInt8, (10 : UInt8) ∉ l.take (runBad l)
  | [] => by simp
  | c :: r => by
    unfold runBad
    split
    · simp
    · split
      · simp
      · rename_i h1 h2
        simp only [List.take_succ_cons, List.mem_cons, not_or]
        refine ⟨?_, runBad_10 r⟩
        rintro rfl; exact h2 (good_10 r)

theorem next_10 (l : List UInt8) (h : 0 < l.length) (hk : (nextKN l).1 ≠ 1) : (10 : UInt8) ∉ (nextT l).text := by
  simp only [nextT]
  obtain ⟨c, r, rfl⟩ : ∃ c r, l = c :: r := by cases l with
    | nil => simp at h
    | cons c r => exact ⟨c, r, rfl⟩
  unfold nextKN at hk ⊢
  split
  · rename_i hg
    rw [if_pos hg] at hk
    intro hm
    unfold goodKN at hk hm
    split at hm
    · rename_i hb; rw [if_pos hb] at hk; exact hk rfl
    · split at hm
      · have := runN_mem _ _ _ hm; simp at this
      · split at hm
        · have := runN_mem _ _ _ hm; rw [isAlnum_10] at this; cases this
        · split at hm
          · have := runN_mem _ _ _ hm; rw [isDigit_10] at this; cases this
          · split at hm
            · rename_i h34
              have hc : c = 34 := h34
              simp only [quotedN, List.drop_succ_cons, List.drop_zero] at hm
              cases hq : qbody r with
              | none => rw [hq] at hm; simp [qRes] at hm
              | some m =>
                rw [hq] at hm
                simp only [qRes] at hm
                rw [Nat.add_comm, List.take_succ_cons] at hm
                rcases List.mem_cons.1 hm with e | hm
                · rw [hc] at e; cases e
                · exact qbody_10 _ r (Nat.le_refl _) m hq hm
            · simp only [signN] at hm
              split at hm
              · rename_i h2
                exact signs_10 _ (by have := h2.2; simpa [isSign] using this) hm
              · split at hm
                · rename_i h2
                  exact signs_10 _ (by have := h2.2; simpa [isSign] using this) hm
                · simp at hm
  · rename_i hg
    intro hm
    simp only at hm
    split at hm
    · have := runN_mem _ _ _ hm; simp at this
    · simp only [List.drop_succ_cons, List.drop_zero] at hm
      rw [Nat.add_comm, List.take_succ_cons] at hm
      rcases List.mem_cons.1 hm with e | hm
      · subst e; exact hg (good_10 r)
      · exact runBad_10 r hm

theorem lex_10 : ∀ (n : Nat) (l : List UInt8), l.length ≤ n → ∀ t ∈ lex l, t.kind ≠ 1 → (10 : UInt8) ∉ t.text := by
  intro n
  induction n with
  | zero =>
    intro l hl t ht
    have : l = [] := List.eq_nil_of_length_eq_zero (by omega)
    subst this; rw [lex_nil] at ht; cases ht
  | succ n ih =>
    intro l hl t ht hk
    by_cases h0 : 0 < l.length
    · rw [lex_cons l h0] at ht
      rcases List.mem_cons.1 ht with rfl | ht
      · exact next_10 l h0 hk
      · have := nextKN_pos l h0
        exact ih _ (by simp; omega) t ht hk
    · have : l = [] := List.eq_nil_of_length_eq_zero (by omega)
      subst this; rw [lex_nil] at ht; cases ht
theorem lex_pair : ∀ (n : Nat) (l : List UInt8), l.length ≤ n → ∀ (k : Nat) (t u : Tok), (lex l)[k]? = some t → (lex l)[k + 1]? = some u → pairB t u = true := by
  intro n
  induction n with
  | zero =>
    intro l hl k t u ht
    have : l = [] := List.eq_nil_of_length_eq_zero (by omega)
    subst this; rw [lex_nil] at ht; cases ht
  | succ n ih =>
    intro l hl k t u ht hu
    by_cases h0 : 0 < l.length
    · have hp := nextKN_pos l h0
      rw [lex_cons l h0] at ht hu
      cases k with
      | succ k => exact ih (l.drop (nextKN l).2) (by rw [List.length_drop]; omega) k t u (by simpa using ht) (by simpa using hu)
      | zero =>
        obtain rfl : nextT l = t := by simpa using ht
        by_cases h1 : 0 < (l.drop (nextKN l).2).length
        · rw [lex_cons _ h1] at hu
          obtain rfl : nextT (l.drop (nextKN l).2) = u := by simpa using hu
          exact pair_next l h1
        · have : l.drop (nextKN l).2 = [] := List.eq_nil_of_length_eq_zero (by omega)
          rw [this, lex_nil] at hu; simp at hu
    · have : l = [] := List.eq_nil_of_length_eq_zero (by omega)
      subst this; rw [lex_nil] at ht; cases ht

end Go.Proofs.YtepgjaecfoaenaaGreatDoor
