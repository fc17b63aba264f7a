/- What the token package tells of tokens, as plain functions. No condition. -/
import Derived.Test.YtepgjaecfoaenaaGreatDoorP2
namespace Go.Proofs.YtepgjaecfoaenaaGreatDoor

theorem lex_len : ∀ (n : Nat) (l : List UInt8), l.length ≤ n → (lex l).length ≤ l.length := by
  intro n
  induction n with
  | zero => intro l h; have : l = [] := List.eq_nil_of_length_eq_zero (by omega); subst this; exact Nat.le_refl _
  | succ n ih =>
    intro l h
    by_cases hl : 0 < l.length
    · have hp := nextKN_pos l hl
      have := ih (l.drop (nextKN l).2) (by simp; omega)
      rw [lex_cons l hl, List.length_cons]
      simp only [List.length_drop] at this
      omega
    · have : l = [] := List.eq_nil_of_length_eq_zero (by omega); subst this; exact Nat.le_refl _
theorem lex_length (l : List UInt8) : (lex l).length ≤ l.length := lex_len _ l (Nat.le_refl _)

def textErr (ts : List Tok) : Int :=
  if 20000 < (textOf ts).length ∨ 20000 < ts.length then 3 else if lex (textOf ts) = ts then 0 else 4
def textRes (ts : List Tok) : List UInt8 := if textErr ts = 0 then textOf ts else []
def areB (ts : List Tok) : Bool := textErr ts == 0
def isTokB (t : Tok) : Bool := !(t.text == []) && areB [t]
def apartB (a b : Tok) : Bool := isTokB a && isTokB b && areB [a, b]
def isTriviaB (t : Tok) : Bool := t.kind == 1 || t.kind == 2
def greatB (t : Tok) : Bool := t.kind == 3 && (!(t.text == []) && (decide (65 ≤ at_ t.text 0) && decide (at_ t.text 0 ≤ 90)))

theorem textErr_long (ts : List Tok) (h : 20000 < (textOf ts).length ∨ 20000 < ts.length) : textErr ts = 3 := by unfold textErr; rw [if_pos h]
theorem textErr_ok (ts : List Tok) (h1 : ¬ (20000 < (textOf ts).length ∨ 20000 < ts.length)) (h : lex (textOf ts) = ts) : textErr ts = 0 := by unfold textErr; rw [if_neg h1, if_pos h]
theorem textErr_form (ts : List Tok) (h1 : ¬ (20000 < (textOf ts).length ∨ 20000 < ts.length)) (h : ¬ lex (textOf ts) = ts) : textErr ts = 4 := by unfold textErr; rw [if_neg h1, if_neg h]
theorem textRes_ne (ts : List Tok) (h : textErr ts ≠ 0) : textRes ts = [] := by unfold textRes; rw [if_neg h]
theorem textRes_ok (ts : List Tok) (h : textErr ts = 0) : textRes ts = textOf ts := by unfold textRes; rw [if_pos h]

end Go.Proofs.YtepgjaecfoaenaaGreatDoor
