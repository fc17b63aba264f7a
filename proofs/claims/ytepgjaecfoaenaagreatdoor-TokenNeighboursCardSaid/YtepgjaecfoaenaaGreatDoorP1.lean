/- The plain functions of the token package and small laws about them: no program in sight. No condition. -/
namespace Go.Proofs.YtepgjaecfoaenaaGreatDoor

/-- The byte at a place. -/
def at_ (l : List UInt8) (k : Nat) : UInt8 := l.getD k 0

def isBlank (c : UInt8) : Bool := c == 32 || c == 9 || c == 10 || c == 13
def isDigit (c : UInt8) : Bool := decide (48 ≤ c) && decide (c ≤ 57)
def isLetter (c : UInt8) : Bool := c == 95 || (decide (97 ≤ c ||| 32) && decide (c ||| 32 ≤ 122))
def isAlnum (c : UInt8) : Bool := isLetter c || isDigit c

/-- How many bytes at the beginning are of a sort. -/
def runN (p : UInt8 → Bool) (l : List UInt8) : Nat := (l.takeWhile p).length

theorem runN_le (p : UInt8 → Bool) (l : List UInt8) : runN p l ≤ l.length := by
  unfold runN; induction l with
  | nil => simp
  | cons a l ih => rw [List.takeWhile_cons]; split <;> simp; omega

theorem runN_of (p : UInt8 → Bool) (l : List UInt8) : ∀ (k : Nat), k ≤ l.length → (∀ j, j < k → p (at_ l j) = true) →
    (k = l.length ∨ p (at_ l k) = false) → runN p l = k := by
  unfold runN at_
  induction l with
  | nil => intro k hk _ _; simp at hk; subst hk; rfl
  | cons a l ih =>
    intro k hk hp he
    cases k with
    | zero =>
      rcases he with h | h
      · simp at h
      · rw [List.takeWhile_cons, if_neg (by simpa using h)]; rfl
    | succ k =>
      have h0 := hp 0 (by omega)
      rw [List.takeWhile_cons, if_pos (by simpa using h0), List.length_cons]
      rw [ih k (by simpa using hk) (fun j hj => by simpa using hp (j + 1) (by omega)) (by simpa using he)]

/-- How many bytes there are up to the next line feed. -/
def lineN (l : List UInt8) : Nat := runN (fun c => !(c == 10)) l

def wordsL : List (List UInt8) := [[100, 101, 102], [101, 108, 115, 101], [102, 97, 108, 115, 101], [102, 110], [105, 102], [105, 109, 112, 111, 114, 116],
  [105, 110], [108, 101, 116], [109, 97, 116, 99, 104], [116, 104, 101, 110], [116, 114, 117, 101], [116, 121, 112, 101]]
def signsL : List (List UInt8) := [[33], [38, 38], [40], [41], [42], [43], [44], [45], [45, 62], [46], [58], [59], [60], [61], [61, 61], [61, 62], [91], [93], [123], [124], [124, 124], [125]]
def isWord (l : List UInt8) : Bool := wordsL.contains l
def isSign (l : List UInt8) : Bool := signsL.contains l

/-- How many bytes the sign at the beginning has; 0 if there is none. -/
def signN (l : List UInt8) : Nat :=
  if 2 ≤ l.length ∧ isSign (l.take 2) = true then 2 else if 1 ≤ l.length ∧ isSign (l.take 1) = true then 1 else 0

/-- Behind a quote: how many bytes up to and with the one that ends the text. -/
def qbody : List UInt8 → Option Nat
  | [] => none
  | c :: r =>
    if c = 34 then some 1
    else if c = 10 then none
    else if c = 92 then
      match r with
      | [] => none
      | d :: r' => if d = 110 ∨ d = 34 ∨ d = 92 then (qbody r').map (· + 2) else none
    else (qbody r).map (· + 1)

def qRes (n : Nat) : Option Nat → Nat
  | some m => n + m
  | none => 0

/-- How many bytes the text token at the beginning has; 0 if there is none. -/
def quotedN (l : List UInt8) : Nat := qRes 1 (qbody (l.drop 1))

theorem drop_at (l : List UInt8) (n : Nat) (h : n < l.length) : l.drop n = at_ l n :: l.drop (n + 1) := by
  rw [List.drop_eq_getElem_cons h]; simp [at_, List.getElem?_eq_getElem h]

theorem qRes_map (n k : Nat) (r : Option Nat) : qRes n (r.map (· + k)) = qRes (n + k) r := by
  cases r <;> simp [qRes]; omega

theorem q_end (l : List UInt8) (n : Nat) (h : l.length ≤ n) : qRes n (qbody (l.drop n)) = 0 := by
  rw [List.drop_eq_nil_of_le h]; rfl
theorem q_quote (l : List UInt8) (n : Nat) (h : n < l.length) (hc : at_ l n = 34) : qRes n (qbody (l.drop n)) = n + 1 := by
  rw [drop_at l n h, qbody.eq_def]; simp only [hc, if_pos]; rfl
theorem q_line (l : List UInt8) (n : Nat) (h : n < l.length) (hc : at_ l n = 10) : qRes n (qbody (l.drop n)) = 0 := by
  rw [drop_at l n h, qbody.eq_def]; simp only [hc]; rfl
theorem q_plain (l : List UInt8) (n : Nat) (h : n < l.length) (h1 : at_ l n ≠ 34) (h2 : at_ l n ≠ 10) (h3 : at_ l n ≠ 92) :
    qRes n (qbody (l.drop n)) = qRes (n + 1) (qbody (l.drop (n + 1))) := by
  rw [drop_at l n h, qbody.eq_def]; simp only [h1, h2, h3, if_false]; rw [qRes_map]
theorem q_cut (l : List UInt8) (n : Nat) (h : n < l.length) (hc : at_ l n = 92) (he : n + 1 = l.length) : qRes n (qbody (l.drop n)) = 0 := by
  rw [drop_at l n h, qbody.eq_def]; simp only [hc]; rw [List.drop_eq_nil_of_le (by omega)]; rfl
theorem q_pair (l : List UInt8) (n : Nat) (h : n + 1 < l.length) (hc : at_ l n = 92) (hd : at_ l (n + 1) = 110 ∨ at_ l (n + 1) = 34 ∨ at_ l (n + 1) = 92) :
    qRes n (qbody (l.drop n)) = qRes (n + 2) (qbody (l.drop (n + 2))) := by
  rw [drop_at l n (by omega), qbody.eq_def]; simp only [hc]; rw [drop_at l (n + 1) h]; simp only [hd, if_true, if_false, show ¬ (92 : UInt8) = 34 by decide, show ¬ (92 : UInt8) = 10 by decide]; rw [qRes_map]
theorem q_wrong (l : List UInt8) (n : Nat) (h : n + 1 < l.length) (hc : at_ l n = 92) (hd : ¬ (at_ l (n + 1) = 110 ∨ at_ l (n + 1) = 34 ∨ at_ l (n + 1) = 92)) :
    qRes n (qbody (l.drop n)) = 0 := by
  rw [drop_at l n (by omega), qbody.eq_def]; simp only [hc]; rw [drop_at l (n + 1) h]; simp only [hd, if_true, if_false, show ¬ (92 : UInt8) = 34 by decide, show ¬ (92 : UInt8) = 10 by decide]; rfl

theorem lineN_le (l : List UInt8) : lineN l ≤ l.length := runN_le _ l
theorem signN_le (l : List UInt8) : signN l ≤ l.length := by unfold signN; split <;> (try split) <;> omega
theorem qbody_le : ∀ (n : Nat) (l : List UInt8), l.length ≤ n → ∀ m, qbody l = some m → m ≤ l.length := by
  intro n
  induction n with
  | zero => intro l hl m h; have : l = [] := List.eq_nil_of_length_eq_zero (by omega); subst this; cases h
  | succ n ih =>
    intro l hl m h
    cases l with
    | nil => cases h
    | cons c r =>
      rw [qbody.eq_def] at h
      simp only [List.length_cons] at hl h ⊢
      by_cases h1 : c = 34
      · simp only [h1, if_true] at h; injection h with h; omega
      · rw [if_neg h1] at h
        by_cases h2 : c = 10
        · simp only [h2, if_true] at h; cases h
        · rw [if_neg h2] at h
          by_cases h3 : c = 92
          · rw [if_pos h3] at h
            cases r with
            | nil => cases h
            | cons d r' =>
              simp only [List.length_cons] at hl ⊢
              simp only at h
              split at h
              · rw [Option.map_eq_some_iff] at h; obtain ⟨k, hk, rfl⟩ := h; have := ih r' (by omega) k hk; omega
              · cases h
          · rw [if_neg h3] at h
            rw [Option.map_eq_some_iff] at h; obtain ⟨k, hk, rfl⟩ := h; have := ih r (by omega) k hk; omega
theorem quotedN_le (l : List UInt8) : quotedN l ≤ l.length := by
  unfold quotedN
  cases h : qbody (l.drop 1) with
  | none => simp [qRes]
  | some m =>
    have := qbody_le _ _ (Nat.le_refl _) _ h
    simp only [List.length_drop] at this
    cases l with
    | nil => simp [qbody] at h
    | cons c r => simp [qRes] at this ⊢; omega

/-- The kind of the token at the beginning that is not bad, and how many bytes it has (0: there is none). -/
def goodKN (l : List UInt8) : Int × Nat :=
  if isBlank (at_ l 0) then (1, runN isBlank l)
  else if [47, 47].isPrefixOf l then (2, lineN l)
  else if isLetter (at_ l 0) then (if isWord (l.take (runN isAlnum l)) then 4 else 3, runN isAlnum l)
  else if isDigit (at_ l 0) then (5, runN isDigit l)
  else if at_ l 0 = 34 then (6, quotedN l)
  else (7, signN l)

/-- How many bytes a bad token goes on for, behind its first one. -/
def runBad : List UInt8 → Nat
  | [] => 0
  | c :: r => if c = 34 then 0 else if 0 < (goodKN (c :: r)).2 then 0 else runBad r + 1

def nextKN (l : List UInt8) : Int × Nat :=
  if 0 < (goodKN l).2 then goodKN l else (8, if at_ l 0 = 34 then lineN l else 1 + runBad (l.drop 1))

structure Tok where
  kind : Int
  text : List UInt8
deriving DecidableEq

def goodT (l : List UInt8) : Tok := ⟨(goodKN l).1, l.take (goodKN l).2⟩
def nextT (l : List UInt8) : Tok := ⟨(nextKN l).1, l.take (nextKN l).2⟩

end Go.Proofs.YtepgjaecfoaenaaGreatDoor
