/- Tokens of a number and of a string, and the number of digits, as plain laws. No condition. -/
import Derived.Test.YtepgjaecfoaenaaGreatDoorP3
import Derived.Lib.ParseIntB
namespace Go.Proofs.YtepgjaecfoaenaaGreatDoor

theorem textOf_one (t : Tok) : textOf [t] = t.text := by simp [textOf]

theorem isTok_next {t : Tok} (h : isTokB t = true) : 0 < t.text.length ∧ t.text.length ≤ 20000 ∧ nextT t.text = t := by
  unfold isTokB areB at h
  rw [Bool.and_eq_true] at h
  obtain ⟨h1, h2⟩ := h
  have hpos : 0 < t.text.length := by
    cases hx : t.text with
    | nil => simp [hx] at h1
    | cons a b => simp
  have h3 : textErr [t] = 0 := by simpa using h2
  unfold textErr at h3
  rw [textOf_one] at h3
  split at h3
  · omega
  · rename_i hn
    split at h3
    · rename_i hl
      rw [lex_cons _ hpos] at hl
      injection hl with hl _
      exact ⟨hpos, by omega, hl⟩
    · omega

theorem goodKN_digit {l : List UInt8} (h : (goodKN l).1 = 5) : goodKN l = (5, runN isDigit l) := by
  unfold goodKN at h ⊢
  split at h
  · simp at h
  · split at h
    · simp at h
    · split at h
      · simp only at h; split at h <;> omega
      · split at h
        · simp [*]
        · split at h <;> simp at h

theorem goodKN_text {l : List UInt8} (h : (goodKN l).1 = 6) : goodKN l = (6, quotedN l) ∧ at_ l 0 = 34 := by
  unfold goodKN at h ⊢
  split at h
  · simp at h
  · split at h
    · simp at h
    · split at h
      · simp only at h; split at h <;> omega
      · split at h
        · simp at h
        · split at h
          · rename_i h1 h2 h3 h4 h5
            refine ⟨?_, h5⟩
            rw [if_neg h1, if_neg h2, if_neg h3, if_neg h4, if_pos h5]
          · simp at h

theorem nextKN_digit {l : List UInt8} (h : (nextKN l).1 = 5) : nextKN l = (5, runN isDigit l) := by
  unfold nextKN at h ⊢
  split at h
  · rw [if_pos (by assumption)]; exact goodKN_digit h
  · simp at h
theorem nextKN_text {l : List UInt8} (h : (nextKN l).1 = 6) : nextKN l = (6, quotedN l) ∧ at_ l 0 = 34 := by
  unfold nextKN at h ⊢
  split at h
  · rw [if_pos (by assumption)]; exact goodKN_text h
  · simp at h

theorem next_full {l : List UInt8} {t : Tok} (hl : l = t.text) (h : nextT l = t) (hle : (nextKN l).2 ≤ l.length) : (nextKN l).2 = l.length ∧ (nextKN l).1 = t.kind := by
  have h2 : l.take (nextKN l).2 = t.text := congrArg Tok.text h
  have h3 := congrArg List.length h2
  rw [List.length_take, ← hl] at h3
  exact ⟨by omega, congrArg Tok.kind h⟩

theorem runN_all {p : UInt8 → Bool} : ∀ {l : List UInt8}, runN p l = l.length → ∀ c ∈ l, p c = true
  | [], _, c, hc => by simp at hc
  | a :: l, h, c, hc => by
    unfold runN at h
    rw [List.takeWhile_cons] at h
    split at h
    · rename_i ha
      rcases List.mem_cons.1 hc with rfl | hc
      · exact ha
      · exact runN_all (l := l) (by unfold runN; simpa using h) c hc
    · simp at h

/-- The number of a row of digits. -/
def numFrom (n : Nat) (l : List UInt8) : Nat := l.foldl (fun n c => 10 * n + (c.toNat - 48)) n
def numVal (l : List UInt8) : Nat := numFrom 0 l
theorem numFrom_ge : ∀ (l : List UInt8) (n : Nat), n ≤ numFrom n l
  | [], n => Nat.le_refl _
  | c :: l, n => by have := numFrom_ge l (10 * n + (c.toNat - 48)); simp only [numFrom, List.foldl_cons] at this ⊢; omega

theorem parseM_digits : ∀ (l : List UInt8) (acc : Nat), acc ≤ 18446744073709551615 → (∀ c ∈ l, isDigit c = true) →
    Lib.parseUintM 18446744073709551615 acc l = if numFrom acc l ≤ 18446744073709551615 then .ok (numFrom acc l) else .range
  | [], acc, ha, _ => by simp [Lib.parseUintM, numFrom, ha]
  | c :: l, acc, ha, h => by
    have hc : 48 ≤ c.toNat ∧ c.toNat ≤ 57 := by
      have := h c (List.mem_cons_self ..)
      simp [isDigit, UInt8.le_iff_toNat_le] at this
      omega
    have hf : numFrom acc (c :: l) = numFrom (10 * acc + (c.toNat - 48)) l := rfl
    have hge := numFrom_ge l (10 * acc + (c.toNat - 48))
    rw [Lib.parseUintM, if_pos hc, hf]
    split
    · rw [if_neg (by omega)]
    · split
      · rw [if_neg (by omega)]
      · rw [Nat.mul_comm acc 10]
        exact parseM_digits l _ (by omega) (fun c hc => h c (List.mem_cons_of_mem _ hc))

theorem parse_digits (l : List UInt8) (h0 : 0 < l.length) (h : ∀ c ∈ l, isDigit c = true) :
    Lib.parseUintB 64 l = if numVal l ≤ 18446744073709551615 then .ok (numVal l) else .range := by
  unfold Lib.parseUintB
  rw [if_neg (List.length_pos_iff.1 h0)]
  exact parseM_digits l 0 (by omega) h

theorem nextKN_le0 (l : List UInt8) (hg : (goodKN l).2 ≤ l.length) (hb : (if at_ l 0 = 34 then lineN l else 1 + runBad (l.drop 1)) ≤ l.length) : (nextKN l).2 ≤ l.length := by
  unfold nextKN; split <;> assumption

/-- The number, whether it is small enough, and the error. -/
def numRes (t : Tok) : Int × Bool × Int :=
  if t.kind ≠ 5 ∨ isTokB t = false then (0, false, 4) else if numVal t.text ≤ 9223372036854775807 then (numVal t.text, true, 0) else (0, false, 0)

end Go.Proofs.YtepgjaecfoaenaaGreatDoor
