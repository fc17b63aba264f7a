/- Plain laws of quoting: Unquote of Quote, Quote of Unquote, and that a quoted string is a token. No program in sight. -/
import Derived.Test.YtepgjaecfoaenaaGreatDoorPB
import Derived.Test.YtepgjaecfoaenaaGreatDoorRR
import Derived.Test.YtepgjaecfoaenaaGreatDoorQQ
namespace Go.Proofs.YtepgjaecfoaenaaGreatDoor
set_option linter.unusedVariables false
set_option linter.unusedSimpArgs false

theorem unq_plain (c : UInt8) (l : List UInt8) (h : c ≠ 92) : unq (c :: l) = c :: unq l := by
  cases l with
  | nil => rfl
  | cons d r => simp [unq, h]
theorem isE_cases {b : UInt8} (h : isE b = true) : b = 10 ∨ b = 34 ∨ b = 92 := by simpa [isE, or_assoc] using h
theorem isE_no {b : UInt8} (h : isE b = false) : b ≠ 10 ∧ b ≠ 34 ∧ b ≠ 92 := by simpa [isE, and_assoc] using h
theorem escL_cons (b : UInt8) (l : List UInt8) : escL (b :: l) = escB b ++ escL l := by simp [escL]
theorem unq_escL : ∀ a : List UInt8, unq (escL a) = a
  | [] => rfl
  | b :: a => by
    rw [escL_cons]
    cases hb : isE b with
    | true =>
      rcases isE_cases hb with rfl | rfl | rfl <;> simp [escB, isE, esc, unq, unq_escL a]
    | false =>
      simp only [escB, hb]
      show unq (b :: escL a) = _
      rw [unq_plain _ _ (isE_no hb).2.2, unq_escL a]
theorem qbody_escL : ∀ (a r : List UInt8), qbody (escL a ++ 34 :: r) = some ((escL a).length + 1)
  | [], r => by show qbody (34 :: r) = _; rw [qbody.eq_def]; rfl
  | b :: a, r => by
    rw [escL_cons]
    cases hb : isE b with
    | true =>
      rcases isE_cases hb with rfl | rfl | rfl <;> (simp only [escB, hb, if_true, esc]; rw [List.append_assoc, List.cons_append, List.cons_append, List.nil_append, qbody.eq_def]; simp [qbody_escL a r])
    | false =>
      obtain ⟨h1, h2, h3⟩ := isE_no hb
      simp only [escB, hb]
      show qbody (b :: (escL a ++ 34 :: r)) = _
      rw [qbody.eq_def]; simp [h1, h2, h3, qbody_escL a r]
theorem qbody_shape : ∀ (n : Nat) (l : List UInt8), l.length ≤ n → ∀ k, qbody l = some k → ∃ a, l.take k = escL a ++ [34] := by
  intro n
  induction n with
  | zero => intro l hl k h; have : l = [] := List.eq_nil_of_length_eq_zero (by omega); subst this; cases h
  | succ n ih =>
    intro l hl k h
    cases l with
    | nil => cases h
    | cons c l =>
      simp only [List.length_cons] at hl
      rw [qbody.eq_def] at h
      simp only at h
      by_cases h1 : c = 34
      · simp only [h1, if_true] at h; injection h with h; subst h; subst h1; exact ⟨[], rfl⟩
      · simp only [if_neg h1] at h
        by_cases h2 : c = 10
        · simp only [h2, if_true] at h; cases h
        · simp only [if_neg h2] at h
          by_cases h3 : c = 92
          · simp only [if_pos h3] at h
            cases l with
            | nil => cases h
            | cons d l' =>
              simp only at h
              split at h
              · rename_i hd
                rw [Option.map_eq_some_iff] at h; obtain ⟨j, hj, rfl⟩ := h
                obtain ⟨a, ha⟩ := ih l' (by simp at hl; omega) j hj
                subst h3
                rcases hd with rfl | rfl | rfl
                · exact ⟨10 :: a, by rw [List.take_succ_cons, List.take_succ_cons, ha, escL_cons]; rfl⟩
                · exact ⟨34 :: a, by rw [List.take_succ_cons, List.take_succ_cons, ha, escL_cons]; rfl⟩
                · exact ⟨92 :: a, by rw [List.take_succ_cons, List.take_succ_cons, ha, escL_cons]; rfl⟩
              · cases h
          · simp only [if_neg h3] at h
            rw [Option.map_eq_some_iff] at h; obtain ⟨j, hj, rfl⟩ := h
            obtain ⟨a, ha⟩ := ih l (by omega) j hj
            refine ⟨c :: a, ?_⟩
            rw [List.take_succ_cons, ha, escL_cons]
            have : isE c = false := by simp [isE, h1, h2, h3]
            simp [escB, this]

theorem quoted_tok (a : List UInt8) (h : (escL a).length + 2 ≤ 20000) : isTokB ⟨6, 34 :: escL a ++ [34]⟩ = true := by
  have hq : quotedN (34 :: escL a ++ [34]) = (34 :: escL a ++ [34]).length := by
    unfold quotedN
    show qRes 1 (qbody (escL a ++ [34])) = _
    rw [qbody_escL]; simp [qRes]; omega
  have hg := good_quote (l := 34 :: escL a ++ [34]) rfl
  have hn : nextKN (34 :: escL a ++ [34]) = (6, (34 :: escL a ++ [34]).length) := by
    rw [next_good (by rw [hg, hq]; simp), hg, hq]
  refine isTok_of (by simp) (by simp; omega) ?_
  show lex (34 :: escL a ++ [34]) = _
  rw [lex_cons _ (by simp), hn]
  unfold nextT
  rw [hn, List.take_length, List.drop_length, lex_nil]
theorem tok_text {t : Tok} (hk : t.kind = 6) (h : isTokB t = true) : ∃ a, t.text = 34 :: escL a ++ [34] := by
  obtain ⟨h0, h1, h2⟩ := isTok_next h
  have hkk : (nextKN t.text).1 = 6 := by have := congrArg Tok.kind h2; simpa [nextT, hk] using this
  obtain ⟨e1, e2⟩ := nextKN_text hkk
  have hf := next_full rfl h2 (nextKN_le _ h0)
  rw [e1] at hf
  obtain ⟨c, r, hr⟩ : ∃ c r, t.text = c :: r := by cases hx : t.text with
    | nil => rw [hx] at h0; simp at h0
    | cons c r => exact ⟨c, r, rfl⟩
  rw [hr] at e2 hf ⊢
  have hc : c = 34 := by simpa [at_] using e2
  have hq : quotedN (c :: r) = (c :: r).length := hf.1
  unfold quotedN at hq
  rw [List.drop_succ_cons, List.drop_zero] at hq
  cases hb : qbody r with
  | none => rw [hb] at hq; simp [qRes] at hq
  | some k =>
    rw [hb] at hq
    simp only [qRes, List.length_cons] at hq
    obtain ⟨a, ha⟩ := qbody_shape _ r (Nat.le_refl _) k hb
    rw [List.take_of_length_le (by omega)] at ha
    exact ⟨a, by rw [hc, ha]; rfl⟩
theorem unquote_text {t : Tok} (hk : t.kind = 6) (h : isTokB t = true) : ∃ a, t.text = 34 :: escL a ++ [34] ∧ unquoteRes t = (a, 0) := by
  obtain ⟨a, ha⟩ := tok_text hk h
  refine ⟨a, ha, ?_⟩
  unfold unquoteRes
  rw [if_neg (by simp [hk, h])]
  have : (t.text.take (t.text.length - 1)).tail = escL a := by rw [ha]; simp [List.take_append]
  rw [this, unq_escL]
theorem unquote_no {t : Tok} (h : t.kind ≠ 6 ∨ isTokB t = false) : unquoteRes t = ([], 4) := by unfold unquoteRes; rw [if_pos h]
theorem quote_ok {a : List UInt8} (h : (escL a).length + 2 ≤ 20000) : quoteRes a = (34 :: escL a ++ [34], 0) := by
  have := escL_length a
  unfold quoteRes; rw [if_neg (by omega), if_neg (by omega)]
theorem quote_no {a : List UInt8} (h : ¬ (escL a).length + 2 ≤ 20000) : quoteRes a = ([], 3) := by
  unfold quoteRes
  split
  · rfl
  · rw [if_pos (by omega)]
theorem unquote_quoted (a : List UInt8) (h : (escL a).length + 2 ≤ 20000) : unquoteRes ⟨6, 34 :: escL a ++ [34]⟩ = (a, 0) := by
  obtain ⟨b, hb, hr⟩ := unquote_text (t := ⟨6, 34 :: escL a ++ [34]⟩) rfl (quoted_tok a h)
  rw [hr]
  have h2 : escL a = escL b := by simpa using hb
  rw [show a = b by rw [← unq_escL a, h2, unq_escL]]

end Go.Proofs.YtepgjaecfoaenaaGreatDoor
