/- The tokens of a string, as a plain function, and small laws about it. No condition. -/
import Derived.Test.YtepgjaecfoaenaaGreatDoorP1
namespace Go.Proofs.YtepgjaecfoaenaaGreatDoor

theorem nextKN_pos (l : List UInt8) (h : 0 < l.length) : 0 < (nextKN l).2 := by
  unfold nextKN
  split
  · assumption
  · simp only
    split
    · rename_i hq
      cases l with
      | nil => simp at h
      | cons c r =>
        have : c = 34 := by simpa [at_] using hq
        subst this
        unfold lineN runN
        rw [List.takeWhile_cons, if_pos (by decide)]; simp
    · omega

def lexF : Nat → List UInt8 → List Tok
  | 0, _ => []
  | f + 1, l => if l = [] then [] else nextT l :: lexF f (l.drop (nextKN l).2)

theorem lexF_more : ∀ (f g : Nat) (l : List UInt8), l.length ≤ f → l.length ≤ g → lexF f l = lexF g l := by
  intro f
  induction f with
  | zero =>
    intro g l hf hg
    have : l = [] := List.eq_nil_of_length_eq_zero (by omega)
    subst this
    cases g <;> simp [lexF]
  | succ f ih =>
    intro g l hf hg
    by_cases hl : l = []
    · subst hl; cases g <;> simp [lexF]
    · have hp : 0 < l.length := List.length_pos_iff.2 hl
      obtain ⟨g, rfl⟩ : ∃ g', g = g' + 1 := ⟨g - 1, by omega⟩
      have hn := nextKN_pos l hp
      simp only [lexF, if_neg hl]
      rw [ih g _ (by simp; omega) (by simp; omega)]

/-- The tokens of a string. -/
def lex (l : List UInt8) : List Tok := lexF l.length l
theorem lex_nil : lex [] = [] := rfl
theorem lex_cons (l : List UInt8) (h : 0 < l.length) : lex l = nextT l :: lex (l.drop (nextKN l).2) := by
  obtain ⟨n, hn⟩ : ∃ n, l.length = n + 1 := ⟨l.length - 1, by omega⟩
  have hl : l ≠ [] := List.length_pos_iff.1 h
  have hp := nextKN_pos l h
  unfold lex
  rw [hn, lexF, if_neg hl]
  congr 1
  exact lexF_more _ _ _ (by simp; omega) (Nat.le_refl _)

def textOf (ts : List Tok) : List UInt8 := ts.flatMap Tok.text
theorem textOf_cons (t : Tok) (ts : List Tok) : textOf (t :: ts) = t.text ++ textOf ts := rfl
theorem textOf_append (a b : List Tok) : textOf (a ++ b) = textOf a ++ textOf b := by simp [textOf]

theorem lex_text : ∀ (n : Nat) (l : List UInt8), l.length ≤ n → textOf (lex l) = l := by
  intro n
  induction n with
  | zero => intro l h; have : l = [] := List.eq_nil_of_length_eq_zero (by omega); subst this; rfl
  | succ n ih =>
    intro l h
    by_cases hl : 0 < l.length
    · have hp := nextKN_pos l hl
      rw [lex_cons l hl, textOf_cons, ih _ (by simp; omega)]
      exact List.take_append_drop _ _
    · have : l = [] := List.eq_nil_of_length_eq_zero (by omega); subst this; rfl
theorem textOf_lex (l : List UInt8) : textOf (lex l) = l := lex_text _ l (Nat.le_refl _)

end Go.Proofs.YtepgjaecfoaenaaGreatDoor
