/- The plain functions of the token package and small laws about them: no program in sight. No condition. The tokens of a string, as a plain function, and small laws about it. No condition. What the token package tells of tokens, as plain functions. No condition. Tokens of a number and of a string, and the number of digits, as plain laws. No condition. A string with the bytes line feed, quote and backslash written as two, as plain laws. No condition. Plain laws about the tokens of a string: a line feed is in a blank alone, and which kinds may be neighbours. No program in sight. -/
import Derived.Lib.ParseIntB
namespace Go.Proofs.YtplnfepdikbpfaaGreatDoor

/-- The byte at a place. -/
def at_ (l : List UInt8) (k : Nat) : UInt8 := l.getD k 0

def isBlank (c : UInt8) : Bool := c == 32 || c == 9 || c == 10 || c == 13
def isDigit (c : UInt8) : Bool := decide (48 ≤ c) && decide (c ≤ 57)
def isLetter (c : UInt8) : Bool := c == 95 || (decide (97 ≤ c ||| 32) && decide (c ||| 32 ≤ 122))
def isAlnum (c : UInt8) : Bool := isLetter c || isDigit c

/-- How many bytes at the beginning are of a sort. -/
def runN (p : UInt8 → Bool) (l : List UInt8) : Nat := (l.takeWhile p).length

theorem runN_le (p : UInt8 → Bool) (l : List UInt8) : runN p l ≤ l.length := by
  unfold runN; induction l with
  | nil => simp
  | cons a l ih => rw [List.takeWhile_cons]; split <;> simp; omega

theorem runN_of (p : UInt8 → Bool) (l : List UInt8) : ∀ (k : Nat), k ≤ l.length → (∀ j, j < k → p (at_ l j) = true) →
    (k = l.length ∨ p (at_ l k) = false) → runN p l = k := by
  unfold runN at_
  induction l with
  | nil => intro k hk _ _; simp at hk; subst hk; rfl
  | cons a l ih =>
    intro k hk hp he
    cases k with
    | zero =>
      rcases he with h | h
      · simp at h
      · rw [List.takeWhile_cons, if_neg (by simpa using h)]; rfl
    | succ k =>
      have h0 := hp 0 (by omega)
      rw [List.takeWhile_cons, if_pos (by simpa using h0), List.length_cons]
      rw [ih k (by simpa using hk) (fun j hj => by simpa using hp (j + 1) (by omega)) (by simpa using he)]

/-- How many bytes there are up to the next line feed. -/
def lineN (l : List UInt8) : Nat := runN (fun c => !(c == 10)) l

def wordsL : List (List UInt8) := [[100, 101, 102], [101, 108, 115, 101], [102, 97, 108, 115, 101], [102, 110], [105, 102], [105, 109, 112, 111, 114, 116],
  [105, 110], [108, 101, 116], [109, 97, 116, 99, 104], [116, 104, 101, 110], [116, 114, 117, 101], [116, 121, 112, 101]]
def signsL : List (List UInt8) := [[33], [38, 38], [40], [41], [42], [43], [44], [45], [45, 62], [46], [58], [59], [60], [61], [61, 61], [61, 62], [91], [93], [123], [124], [124, 124], [125]]
def isWord (l : List UInt8) : Bool := wordsL.contains l
def isSign (l : List UInt8) : Bool := signsL.contains l

/-- How many bytes the sign at the beginning has; 0 if there is none. -/
def signN (l : List UInt8) : Nat :=
  if 2 ≤ l.length ∧ isSign (l.take 2) = true then 2 else if 1 ≤ l.length ∧ isSign (l.take 1) = true then 1 else 0

/-- Behind a quote: how many bytes up to and with the one that ends the text. -/
def qbody : List UInt8 → Option Nat
  | [] => none
  | c :: r =>
    if c = 34 then some 1
    else if c = 10 then none
    else if c = 92 then
      match r with
      | [] => none
      | d :: r' => if d = 110 ∨ d = 34 ∨ d = 92 then (qbody r').map (· + 2) else none
    else (qbody r).map (· + 1)

def qRes (n : Nat) : Option Nat → Nat
  | some m => n + m
  | none => 0

/-- How many bytes the text token at the beginning has; 0 if there is none. -/
def quotedN (l : List UInt8) : Nat := qRes 1 (qbody (l.drop 1))

theorem drop_at (l : List UInt8) (n : Nat) (h : n < l.length) : l.drop n = at_ l n :: l.drop (n + 1) := by
  rw [List.drop_eq_getElem_cons h]; simp [at_, List.getElem?_eq_getElem h]

theorem qRes_map (n k : Nat) (r : Option Nat) : qRes n (r.map (· + k)) = qRes (n + k) r := by
  cases r <;> simp [qRes]; omega

theorem q_end (l : List UInt8) (n : Nat) (h : l.length ≤ n) : qRes n (qbody (l.drop n)) = 0 := by
  rw [List.drop_eq_nil_of_le h]; rfl
theorem q_quote (l : List UInt8) (n : Nat) (h : n < l.length) (hc : at_ l n = 34) : qRes n (qbody (l.drop n)) = n + 1 := by
  rw [drop_at l n h, qbody.eq_def]; simp only [hc, if_pos]; rfl
theorem q_line (l : List UInt8) (n : Nat) (h : n < l.length) (hc : at_ l n = 10) : qRes n (qbody (l.drop n)) = 0 := by
  rw [drop_at l n h, qbody.eq_def]; simp only [hc]; rfl
theorem q_plain (l : List UInt8) (n : Nat) (h : n < l.length) (h1 : at_ l n ≠ 34) (h2 : at_ l n ≠ 10) (h3 : at_ l n ≠ 92) :
    qRes n (qbody (l.drop n)) = qRes (n + 1) (qbody (l.drop (n + 1))) := by
  rw [drop_at l n h, qbody.eq_def]; simp only [h1, h2, h3, if_false]; rw [qRes_map]
theorem q_cut (l : List UInt8) (n : Nat) (h : n < l.length) (hc : at_ l n = 92) (he : n + 1 = l.length) : qRes n (qbody (l.drop n)) = 0 := by
  rw [drop_at l n h, qbody.eq_def]; simp only [hc]; rw [List.drop_eq_nil_of_le (by omega)]; rfl
theorem q_pair (l : List UInt8) (n : Nat) (h : n + 1 < l.length) (hc : at_ l n = 92) (hd : at_ l (n + 1) = 110 ∨ at_ l (n + 1) = 34 ∨ at_ l (n + 1) = 92) :
    qRes n (qbody (l.drop n)) = qRes (n + 2) (qbody (l.drop (n + 2))) := by
  rw [drop_at l n (by omega), qbody.eq_def]; simp only [hc]; rw [drop_at l (n + 1) h]; simp only [hd, if_true, if_false, show ¬ (92 : UInt8) = 34 by decide, show ¬ (92 : UInt8) = 10 by decide]; rw [qRes_map]
theorem q_wrong (l : List UInt8) (n : Nat) (h : n + 1 < l.length) (hc : at_ l n = 92) (hd : ¬ (at_ l (n + 1) = 110 ∨ at_ l (n + 1) = 34 ∨ at_ l (n + 1) = 92)) :
    qRes n (qbody (l.drop n)) = 0 := by
  rw [drop_at l n (by omega), qbody.eq_def]; simp only [hc]; rw [drop_at l (n + 1) h]; simp only [hd, if_true, if_false, show ¬ (92 : UInt8) = 34 by decide, show ¬ (92 : UInt8) = 10 by decide]; rfl

theorem lineN_le (l : List UInt8) : lineN l ≤ l.length := runN_le _ l
theorem signN_le (l : List UInt8) : signN l ≤ l.length := by unfold signN; split <;> (try split) <;> omega
theorem qbody_le : ∀ (n : Nat) (l : List UInt8), l.length ≤ n → ∀ m, qbody l = some m → m ≤ l.length := by
  intro n
  induction n with
  | zero => intro l hl m h; have : l = [] := List.eq_nil_of_length_eq_zero (by omega); subst this; cases h
  | succ n ih =>
    intro l hl m h
    cases l with
    | nil => cases h
    | cons c r =>
      rw [qbody.eq_def] at h
      simp only [List.length_cons] at hl h ⊢
      by_cases h1 : c = 34
      · simp only [h1, if_true] at h; injection h with h; omega
      · rw [if_neg h1] at h
        by_cases h2 : c = 10
        · simp only [h2, if_true] at h; cases h
        · rw [if_neg h2] at h
          by_cases h3 : c = 92
          · rw [if_pos h3] at h
            cases r with
            | nil => cases h
            | cons d r' =>
              simp only [List.length_cons] at hl ⊢
              simp only at h
              split at h
              · rw [Option.map_eq_some_iff] at h; obtain ⟨k, hk, rfl⟩ := h; have := ih r' (by omega) k hk; omega
              · cases h
          · rw [if_neg h3] at h
            rw [Option.map_eq_some_iff] at h; obtain ⟨k, hk, rfl⟩ := h; have := ih r (by omega) k hk; omega
theorem quotedN_le (l : List UInt8) : quotedN l ≤ l.length := by
  unfold quotedN
  cases h : qbody (l.drop 1) with
  | none => simp [qRes]
  | some m =>
    have := qbody_le _ _ (Nat.le_refl _) _ h
    simp only [List.length_drop] at this
    cases l with
    | nil => simp [qbody] at h
    | cons c r => simp [qRes] at this ⊢; omega

/-- The kind of the token at the beginning that is not bad, and how many bytes it has (0: there is none). -/
def goodKN (l : List UInt8) : Int × Nat :=
  if isBlank (at_ l 0) then (1, runN isBlank l)
  else if [47, 47].isPrefixOf l then (2, lineN l)
  else if isLetter (at_ l 0) then (if isWord (l.take (runN isAlnum l)) then 4 else 3, runN isAlnum l)
  else if isDigit (at_ l 0) then (5, runN isDigit l)
  else if at_ l 0 = 34 then (6, quotedN l)
  else (7, signN l)

/-- How many bytes a bad token goes on for, behind its first one. -/
def runBad : List UInt8 → Nat
  | [] => 0
  | c :: r => if c = 34 then 0 else if 0 < (goodKN (c :: r)).2 then 0 else runBad r + 1

def nextKN (l : List UInt8) : Int × Nat :=
  if 0 < (goodKN l).2 then goodKN l else (8, if at_ l 0 = 34 then lineN l else 1 + runBad (l.drop 1))

structure Tok where
  kind : Int
  text : List UInt8
deriving DecidableEq

def goodT (l : List UInt8) : Tok := ⟨(goodKN l).1, l.take (goodKN l).2⟩
def nextT (l : List UInt8) : Tok := ⟨(nextKN l).1, l.take (nextKN l).2⟩

end Go.Proofs.YtplnfepdikbpfaaGreatDoor

namespace Go.Proofs.YtplnfepdikbpfaaGreatDoor

theorem nextKN_pos (l : List UInt8) (h : 0 < l.length) : 0 < (nextKN l).2 := by
  unfold nextKN
  split
  · assumption
  · simp only
    split
    · rename_i hq
      cases l with
      | nil => simp at h
      | cons c r =>
        have : c = 34 := by simpa [at_] using hq
        subst this
        unfold lineN runN
        rw [List.takeWhile_cons, if_pos (by decide)]; simp
    · omega

def lexF : Nat → List UInt8 → List Tok
  | 0, _ => []
  | f + 1, l => if l = [] then [] else nextT l :: lexF f (l.drop (nextKN l).2)

theorem lexF_more : ∀ (f g : Nat) (l : List UInt8), l.length ≤ f → l.length ≤ g → lexF f l = lexF g l := by
  intro f
  induction f with
  | zero =>
    intro g l hf hg
    have : l = [] := List.eq_nil_of_length_eq_zero (by omega)
    subst this
    cases g <;> simp [lexF]
  | succ f ih =>
    intro g l hf hg
    by_cases hl : l = []
    · subst hl; cases g <;> simp [lexF]
    · have hp : 0 < l.length := List.length_pos_iff.2 hl
      obtain ⟨g, rfl⟩ : ∃ g', g = g' + 1 := ⟨g - 1, by omega⟩
      have hn := nextKN_pos l hp
      simp only [lexF, if_neg hl]
      rw [ih g _ (by simp; omega) (by simp; omega)]

/-- The tokens of a string. -/
def lex (l : List UInt8) : List Tok := lexF l.length l
theorem lex_nil : lex [] = [] := rfl
theorem lex_cons (l : List UInt8) (h : 0 < l.length) : lex l = nextT l :: lex (l.drop (nextKN l).2) := by
  obtain ⟨n, hn⟩ : ∃ n, l.length = n + 1 := ⟨l.length - 1, by omega⟩
  have hl : l ≠ [] := List.length_pos_iff.1 h
  have hp := nextKN_pos l h
  unfold lex
  rw [hn, lexF, if_neg hl]
  congr 1
  exact lexF_more _ _ _ (by simp; omega) (Nat.le_refl _)

def textOf (ts : List Tok) : List UInt8 := ts.flatMap Tok.text
theorem textOf_cons (t : Tok) (ts : List Tok) : textOf (t :: ts) = t.text ++ textOf ts := rfl
theorem textOf_append (a b : List Tok) : textOf (a ++ b) = textOf a ++ textOf b := by simp [textOf]

theorem lex_text : ∀ (n : Nat) (l : List UInt8), l.length ≤ n → textOf (lex l) = l := by
  intro n
  induction n with
  | zero => intro l h; have : l = [] := List.eq_nil_of_length_eq_zero (by omega); subst this; rfl
  | succ n ih =>
    intro l h
    by_cases hl : 0 < l.length
    · have hp := nextKN_pos l hl
      rw [lex_cons l hl, textOf_cons, ih _ (by simp; omega)]
      exact List.take_append_drop _ _
    · have : l = [] := List.eq_nil_of_length_eq_zero (by omega); subst this; rfl
theorem textOf_lex (l : List UInt8) : textOf (lex l) = l := lex_text _ l (Nat.le_refl _)

end Go.Proofs.YtplnfepdikbpfaaGreatDoor

namespace Go.Proofs.YtplnfepdikbpfaaGreatDoor

theorem lex_len : ∀ (n : Nat) (l : List UInt8), l.length ≤ n → (lex l).length ≤ l.length := by
  intro n
  induction n with
  | zero => intro l h; have : l = [] := List.eq_nil_of_length_eq_zero (by omega); subst this; exact Nat.le_refl _
  | succ n ih =>
    intro l h
    by_cases hl : 0 < l.length
    · have hp := nextKN_pos l hl
      have := ih (l.drop (nextKN l).2) (by simp; omega)
      rw [lex_cons l hl, List.length_cons]
      simp only [List.length_drop] at this
      omega
    · have : l = [] := List.eq_nil_of_length_eq_zero (by omega); subst this; exact Nat.le_refl _
theorem lex_length (l : List UInt8) : (lex l).length ≤ l.length := lex_len _ l (Nat.le_refl _)

def textErr (ts : List Tok) : Int :=
  if 20000 < (textOf ts).length ∨ 20000 < ts.length then 3 else if lex (textOf ts) = ts then 0 else 4
def textRes (ts : List Tok) : List UInt8 := if textErr ts = 0 then textOf ts else []
def areB (ts : List Tok) : Bool := textErr ts == 0
def isTokB (t : Tok) : Bool := !(t.text == []) && areB [t]
def apartB (a b : Tok) : Bool := isTokB a && isTokB b && areB [a, b]
def isTriviaB (t : Tok) : Bool := t.kind == 1 || t.kind == 2
def greatB (t : Tok) : Bool := t.kind == 3 && (!(t.text == []) && (decide (65 ≤ at_ t.text 0) && decide (at_ t.text 0 ≤ 90)))

theorem textErr_long (ts : List Tok) (h : 20000 < (textOf ts).length ∨ 20000 < ts.length) : textErr ts = 3 := by unfold textErr; rw [if_pos h]
theorem textErr_ok (ts : List Tok) (h1 : ¬ (20000 < (textOf ts).length ∨ 20000 < ts.length)) (h : lex (textOf ts) = ts) : textErr ts = 0 := by unfold textErr; rw [if_neg h1, if_pos h]
theorem textErr_form (ts : List Tok) (h1 : ¬ (20000 < (textOf ts).length ∨ 20000 < ts.length)) (h : ¬ lex (textOf ts) = ts) : textErr ts = 4 := by unfold textErr; rw [if_neg h1, if_neg h]
theorem textRes_ne (ts : List Tok) (h : textErr ts ≠ 0) : textRes ts = [] := by unfold textRes; rw [if_neg h]
theorem textRes_ok (ts : List Tok) (h : textErr ts = 0) : textRes ts = textOf ts := by unfold textRes; rw [if_pos h]

end Go.Proofs.YtplnfepdikbpfaaGreatDoor

namespace Go.Proofs.YtplnfepdikbpfaaGreatDoor

theorem textOf_one (t : Tok) : textOf [t] = t.text := by simp [textOf]

theorem isTok_next {t : Tok} (h : isTokB t = true) : 0 < t.text.length ∧ t.text.length ≤ 20000 ∧ nextT t.text = t := by
  unfold isTokB areB at h
  rw [Bool.and_eq_true] at h
  obtain ⟨h1, h2⟩ := h
  have hpos : 0 < t.text.length := by
    cases hx : t.text with
    | nil => simp [hx] at h1
    | cons a b => simp
  have h3 : textErr [t] = 0 := by simpa using h2
  unfold textErr at h3
  rw [textOf_one] at h3
  split at h3
  · omega
  · rename_i hn
    split at h3
    · rename_i hl
      rw [lex_cons _ hpos] at hl
      injection hl with hl _
      exact ⟨hpos, by omega, hl⟩
    · omega

theorem goodKN_digit {l : List UInt8} (h : (goodKN l).1 = 5) : goodKN l = (5, runN isDigit l) := by
  unfold goodKN at h ⊢
  split at h
  · simp at h
  · split at h
    · simp at h
    · split at h
      · simp only at h; split at h <;> omega
      · split at h
        · simp [*]
        · split at h <;> simp at h

theorem goodKN_text {l : List UInt8} (h : (goodKN l).1 = 6) : goodKN l = (6, quotedN l) ∧ at_ l 0 = 34 := by
  unfold goodKN at h ⊢
  split at h
  · simp at h
  · split at h
    · simp at h
    · split at h
      · simp only at h; split at h <;> omega
      · split at h
        · simp at h
        · split at h
          · rename_i h1 h2 h3 h4 h5
            refine ⟨?_, h5⟩
            rw [if_neg h1, if_neg h2, if_neg h3, if_neg h4, if_pos h5]
          · simp at h

theorem nextKN_digit {l : List UInt8} (h : (nextKN l).1 = 5) : nextKN l = (5, runN isDigit l) := by
  unfold nextKN at h ⊢
  split at h
  · rw [if_pos (by assumption)]; exact goodKN_digit h
  · simp at h
theorem nextKN_text {l : List UInt8} (h : (nextKN l).1 = 6) : nextKN l = (6, quotedN l) ∧ at_ l 0 = 34 := by
  unfold nextKN at h ⊢
  split at h
  · rw [if_pos (by assumption)]; exact goodKN_text h
  · simp at h

theorem next_full {l : List UInt8} {t : Tok} (hl : l = t.text) (h : nextT l = t) (hle : (nextKN l).2 ≤ l.length) : (nextKN l).2 = l.length ∧ (nextKN l).1 = t.kind := by
  have h2 : l.take (nextKN l).2 = t.text := congrArg Tok.text h
  have h3 := congrArg List.length h2
  rw [List.length_take, ← hl] at h3
  exact ⟨by omega, congrArg Tok.kind h⟩

theorem runN_all {p : UInt8 → Bool} : ∀ {l : List UInt8}, runN p l = l.length → ∀ c ∈ l, p c = true
  | [], _, c, hc => by simp at hc
  | a :: l, h, c, hc => by
    unfold runN at h
    rw [List.takeWhile_cons] at h
    split at h
    · rename_i ha
      rcases List.mem_cons.1 hc with rfl | hc
      · exact ha
      · exact runN_all (l := l) (by unfold runN; simpa using h) c hc
    · simp at h

/-- The number of a row of digits. -/
def numFrom (n : Nat) (l : List UInt8) : Nat := l.foldl (fun n c => 10 * n + (c.toNat - 48)) n
def numVal (l : List UInt8) : Nat := numFrom 0 l
theorem numFrom_ge : ∀ (l : List UInt8) (n : Nat), n ≤ numFrom n l
  | [], n => Nat.le_refl _
  | c :: l, n => by have := numFrom_ge l (10 * n + (c.toNat - 48)); simp only [numFrom, List.foldl_cons] at this ⊢; omega

theorem parseM_digits : ∀ (l : List UInt8) (acc : Nat), acc ≤ 18446744073709551615 → (∀ c ∈ l, isDigit c = true) →
    Lib.parseUintM 18446744073709551615 acc l = if numFrom acc l ≤ 18446744073709551615 then .ok (numFrom acc l) else .range
  | [], acc, ha, _ => by simp [Lib.parseUintM, numFrom, ha]
  | c :: l, acc, ha, h => by
    have hc : 48 ≤ c.toNat ∧ c.toNat ≤ 57 := by
      have := h c (List.mem_cons_self ..)
      simp [isDigit, UInt8.le_iff_toNat_le] at this
      omega
    have hf : numFrom acc (c :: l) = numFrom (10 * acc + (c.toNat - 48)) l := rfl
    have hge := numFrom_ge l (10 * acc + (c.toNat - 48))
    rw [Lib.parseUintM, if_pos hc, hf]
    split
    · rw [if_neg (by omega)]
    · split
      · rw [if_neg (by omega)]
      · rw [Nat.mul_comm acc 10]
        exact parseM_digits l _ (by omega) (fun c hc => h c (List.mem_cons_of_mem _ hc))

theorem parse_digits (l : List UInt8) (h0 : 0 < l.length) (h : ∀ c ∈ l, isDigit c = true) :
    Lib.parseUintB 64 l = if numVal l ≤ 18446744073709551615 then .ok (numVal l) else .range := by
  unfold Lib.parseUintB
  rw [if_neg (List.length_pos_iff.1 h0)]
  exact parseM_digits l 0 (by omega) h

theorem nextKN_le0 (l : List UInt8) (hg : (goodKN l).2 ≤ l.length) (hb : (if at_ l 0 = 34 then lineN l else 1 + runBad (l.drop 1)) ≤ l.length) : (nextKN l).2 ≤ l.length := by
  unfold nextKN; split <;> assumption

/-- The number, whether it is small enough, and the error. -/
def numRes (t : Tok) : Int × Bool × Int :=
  if t.kind ≠ 5 ∨ isTokB t = false then (0, false, 4) else if numVal t.text ≤ 9223372036854775807 then (numVal t.text, true, 0) else (0, false, 0)

end Go.Proofs.YtplnfepdikbpfaaGreatDoor

namespace Go.Proofs.YtplnfepdikbpfaaGreatDoor

/-- What is written for a byte, behind the backslash. -/
def esc (b : UInt8) : UInt8 := if b = 10 then 110 else b
def isE (b : UInt8) : Bool := b == 10 || b == 34 || b == 92
def escB (b : UInt8) : List UInt8 := if isE b then [92, esc b] else [b]
def escL (l : List UInt8) : List UInt8 := l.flatMap escB
def cntE (l : List UInt8) : Nat := l.countP isE

theorem escB_length (b : UInt8) : (escB b).length = if isE b then 2 else 1 := by unfold escB; split <;> rfl
theorem escL_length (l : List UInt8) : (escL l).length = l.length + cntE l := by
  induction l with
  | nil => rfl
  | cons b l ih =>
    unfold escL cntE at *
    rw [List.flatMap_cons, List.length_append, escB_length, ih, List.countP_cons, List.length_cons]
    split <;> omega
theorem cntE_le (l : List UInt8) : cntE l ≤ l.length := List.countP_le_length
theorem escL_none (l : List UInt8) (h : cntE l = 0) : escL l = l := by
  induction l with
  | nil => rfl
  | cons b l ih =>
    unfold cntE at *
    rw [List.countP_cons] at h
    have h1 : isE b = false := by cases hb : isE b <;> simp [hb] at h ⊢
    rw [escL, List.flatMap_cons, escB, h1]
    have := ih (by omega)
    rw [escL] at this
    simp [this]

/-- The bytes as the library counts them, one sort after the other. -/
def cntTo (l : List UInt8) : Nat → Nat
  | 0 => 0 | 1 => l.count 92 | 2 => l.count 92 + l.count 34 | _ => l.count 92 + l.count 34 + l.count 10
theorem cntTo_all (l : List UInt8) : cntTo l 3 = cntE l := by
  show l.count 92 + l.count 34 + l.count 10 = cntE l
  unfold cntE
  induction l with
  | nil => rfl
  | cons b l ih =>
    rw [List.count_cons, List.count_cons, List.count_cons, List.countP_cons, ← ih]
    by_cases h1 : b = 92
    · subst h1; simp [isE]; omega
    · by_cases h2 : b = 34
      · subst h2; simp [isE]; omega
      · by_cases h3 : b = 10
        · subst h3; simp [isE]; omega
        · simp [isE, h1, h2, h3]
theorem count_le_cntE (l : List UInt8) (k : Nat) : cntTo l k ≤ l.length := by
  have h := cntTo_all l
  have := cntE_le l
  match k with
  | 0 => simp [cntTo]
  | 1 => simp only [cntTo] at *; omega
  | 2 => simp only [cntTo] at *; omega
  | k + 3 => simp only [cntTo] at *; omega

theorem take_byte (l : List UInt8) (k : Nat) (h : k < l.length) : l.take (k + 1) = l.take k ++ [at_ l k] := by
  rw [List.take_succ_eq_append_getElem h]; simp [at_, List.getElem?_eq_getElem h]
theorem cntE_step (l : List UInt8) (k : Nat) (h : k < l.length) : cntE (l.take (k + 1)) = cntE (l.take k) + if isE (at_ l k) then 1 else 0 := by
  rw [take_byte l k h]; unfold cntE; rw [List.countP_append]; simp [List.countP_cons]
theorem escL_step (l : List UInt8) (k : Nat) (h : k < l.length) : escL (l.take (k + 1)) = escL (l.take k) ++ escB (at_ l k) := by
  rw [take_byte l k h]; simp [escL]
theorem escL_take_le (l : List UInt8) (k : Nat) : (escL (l.take k)).length ≤ (escL l).length := by
  conv => rhs; rw [← List.take_append_drop k l]
  unfold escL; rw [List.flatMap_append, List.length_append]; omega

end Go.Proofs.YtplnfepdikbpfaaGreatDoor

namespace Go.Proofs.YtplnfepdikbpfaaGreatDoor
set_option linter.unusedVariables false
set_option linter.unusedSimpArgs false

theorem runN_stop (p : UInt8 → Bool) : ∀ l : List UInt8, runN p l < l.length → p (at_ l (runN p l)) = false
  | [], h => by simp at h
  | c :: r, h => by
    by_cases hc : p c = true
    · have e : runN p (c :: r) = runN p r + 1 := by simp [runN, List.takeWhile_cons, hc]
      rw [e] at h ⊢
      have := runN_stop p r (by simpa using h)
      simpa [at_] using this
    · have e : runN p (c :: r) = 0 := by simp [runN, List.takeWhile_cons, hc]
      rw [e]; simpa [at_] using hc
theorem runN_mem (p : UInt8 → Bool) : ∀ (l : List UInt8) (c : UInt8), c ∈ l.take (runN p l) → p c = true
  | [], c, h => by simp at h
  | d :: r, c, h => by
    by_cases hd : p d = true
    · have e : runN p (d :: r) = runN p r + 1 := by simp [runN, List.takeWhile_cons, hd]
      rw [e, List.take_succ_cons] at h
      rcases List.mem_cons.1 h with rfl | h
      · exact hd
      · exact runN_mem p r c h
    · have e : runN p (d :: r) = 0 := by simp [runN, List.takeWhile_cons, hd]
      rw [e] at h; simp at h

theorem goodKN_blank {l : List UInt8} (h : (goodKN l).1 = 1) : isBlank (at_ l 0) = true ∧ (goodKN l).2 = runN isBlank l := by
  unfold goodKN at h ⊢
  split at h
  · rename_i hb; rw [if_pos hb]; exact ⟨hb, rfl⟩
  · exfalso
    split at h
    · simp at h
    · split at h
      · split at h <;> simp at h
      · split at h
        · simp at h
        · split at h <;> simp at h
theorem goodKN_name {l : List UInt8} (h : (goodKN l).1 = 3 ∨ (goodKN l).1 = 4) : isLetter (at_ l 0) = true ∧ (goodKN l).2 = runN isAlnum l := by
  unfold goodKN at h ⊢
  split at h
  · simp at h
  · split at h
    · simp at h
    · split at h
      · rename_i h1 h2 h3
        rw [if_neg h1, if_neg h2, if_pos h3]; exact ⟨h3, rfl⟩
      · exfalso
        split at h
        · simp at h
        · split at h <;> simp at h
theorem goodKN_int {l : List UInt8} (h : (goodKN l).1 = 5) : isDigit (at_ l 0) = true := by
  unfold goodKN at h
  split at h
  · simp at h
  · split at h
    · simp at h
    · split at h
      · split at h <;> simp at h
      · split at h
        · assumption
        · split at h <;> simp at h
theorem nextKN_good {l : List UInt8} (h : (nextKN l).1 ≠ 8) : nextKN l = goodKN l := by
  unfold nextKN at h ⊢
  split at h
  · rename_i h1; rw [if_pos h1]
  · simp at h

/-- May these two follow one another? -/
def pairB (t u : Tok) : Bool := !(t.kind == 1 && u.kind == 1) && !((t.kind == 3 || t.kind == 4) && (u.kind == 3 || u.kind == 4 || u.kind == 5))

theorem at_drop (l : List UInt8) (n : Nat) : at_ (l.drop n) 0 = at_ l n := by simp [at_, List.getElem?_drop]

theorem pair_next (l : List UInt8) (h : 0 < (l.drop (nextKN l).2).length) : pairB (nextT l) (nextT (l.drop (nextKN l).2)) = true := by
  have hlt : (nextKN l).2 < l.length := by simp at h; omega
  unfold pairB
  simp only [nextT]
  by_cases h1 : (nextKN l).1 = 1
  · have hg := nextKN_good (l := l) (by omega)
    rw [hg] at h1 hlt ⊢
    obtain ⟨_, e⟩ := goodKN_blank h1
    rw [e] at hlt ⊢
    have hs := runN_stop isBlank l hlt
    have : (nextKN (l.drop (runN isBlank l))).1 ≠ 1 := by
      intro h2
      have hg2 := nextKN_good (l := l.drop (runN isBlank l)) (by omega)
      rw [hg2] at h2
      have := (goodKN_blank h2).1
      rw [at_drop, hs] at this; cases this
    simp [h1, this]
  · by_cases h3 : (nextKN l).1 = 3 ∨ (nextKN l).1 = 4
    · have hg := nextKN_good (l := l) (by omega)
      rw [hg] at h1 h3 hlt ⊢
      obtain ⟨_, e⟩ := goodKN_name h3
      rw [e] at hlt ⊢
      have hs := runN_stop isAlnum l hlt
      simp only [isAlnum, Bool.or_eq_false_iff] at hs
      have n1 : ¬ ((nextKN (l.drop (runN isAlnum l))).1 = 3 ∨ (nextKN (l.drop (runN isAlnum l))).1 = 4) := by
        intro h2
        have hg2 := nextKN_good (l := l.drop (runN isAlnum l)) (by omega)
        rw [hg2] at h2
        have := (goodKN_name h2).1
        rw [at_drop] at this
        rw [hs.1] at this; cases this
      have n2 : (nextKN (l.drop (runN isAlnum l))).1 ≠ 5 := by
        intro h2
        have hg2 := nextKN_good (l := l.drop (runN isAlnum l)) (by omega)
        rw [hg2] at h2
        have := goodKN_int h2
        rw [at_drop] at this
        rw [hs.2] at this; cases this
      simp only [not_or] at n1
      simp [h1, n1.1, n1.2, n2]
    · simp only [not_or] at h3
      simp [h1, h3.1, h3.2]

theorem isAlnum_10 : isAlnum 10 = false := by decide
theorem isDigit_10 : isDigit 10 = false := by decide
theorem signs_10 : ∀ s ∈ signsL, (10 : UInt8) ∉ s := by decide
theorem good_10 (r : List UInt8) : 0 < (goodKN (10 :: r)).2 := by
  have : isBlank (at_ (10 :: r) 0) = true := by show isBlank 10 = true; decide
  unfold goodKN
  rw [if_pos this]
  simp [runN, List.takeWhile_cons, show isBlank 10 = true by decide]
theorem qbody_10 : ∀ (n : Nat) (l : List UInt8), l.length ≤ n → ∀ m, qbody l = some m → (10 : UInt8) ∉ l.take m := by
  intro n
  induction n with
  | zero =>
    intro l hl m h
    have : l = [] := List.eq_nil_of_length_eq_zero (by omega)
    subst this; simp [qbody] at h
  | succ n ih =>
    intro l hl m h
    cases l with
    | nil => simp [qbody] at h
    | cons c r =>
      rw [qbody.eq_def] at h
      simp only [List.length_cons] at hl h
      by_cases h1 : c = 34
      · simp only [h1, if_true] at h; injection h with h; subst h; subst h1; simp
      · rw [if_neg h1] at h
        by_cases h2 : c = 10
        · simp only [h2, if_true] at h; cases h
        · rw [if_neg h2] at h
          by_cases h3 : c = 92
          · rw [if_pos h3] at h
            cases r with
            | nil => cases h
            | cons d r' =>
              simp only at h
              split at h
              · rename_i hd
                rw [Option.map_eq_some_iff] at h; obtain ⟨k, hk, rfl⟩ := h
                have := ih r' (by simp at hl; omega) k hk
                simp only [List.take_succ_cons, List.mem_cons, not_or]
                refine ⟨fun e => h2 e.symm, ?_, this⟩
                rintro rfl; simp at hd
              · cases h
          · rw [if_neg h3] at h
            rw [Option.map_eq_some_iff] at h; obtain ⟨k, hk, rfl⟩ := h
            have := ih r (by omega) k hk
            simp only [List.take_succ_cons, List.mem_cons, not_or]
            exact ⟨fun e => h2 e.symm, this⟩
theorem runBad_10 : ∀ l : List UInt8, (10 : UInt8) ∉ l.take (runBad l)
  | [] => by simp
  | c :: r => by
    unfold runBad
    split
    · simp
    · split
      · simp
      · rename_i h1 h2
        simp only [List.take_succ_cons, List.mem_cons, not_or]
        refine ⟨?_, runBad_10 r⟩
        rintro rfl; exact h2 (good_10 r)

theorem next_10 (l : List UInt8) (h : 0 < l.length) (hk : (nextKN l).1 ≠ 1) : (10 : UInt8) ∉ (nextT l).text := by
  simp only [nextT]
  obtain ⟨c, r, rfl⟩ : ∃ c r, l = c :: r := by cases l with
    | nil => simp at h
    | cons c r => exact ⟨c, r, rfl⟩
  unfold nextKN at hk ⊢
  split
  · rename_i hg
    rw [if_pos hg] at hk
    intro hm
    unfold goodKN at hk hm
    split at hm
    · rename_i hb; rw [if_pos hb] at hk; exact hk rfl
    · split at hm
      · have := runN_mem _ _ _ hm; simp at this
      · split at hm
        · have := runN_mem _ _ _ hm; rw [isAlnum_10] at this; cases this
        · split at hm
          · have := runN_mem _ _ _ hm; rw [isDigit_10] at this; cases this
          · split at hm
            · rename_i h34
              have hc : c = 34 := h34
              simp only [quotedN, List.drop_succ_cons, List.drop_zero] at hm
              cases hq : qbody r with
              | none => rw [hq] at hm; simp [qRes] at hm
              | some m =>
                rw [hq] at hm
                simp only [qRes] at hm
                rw [Nat.add_comm, List.take_succ_cons] at hm
                rcases List.mem_cons.1 hm with e | hm
                · rw [hc] at e; cases e
                · exact qbody_10 _ r (Nat.le_refl _) m hq hm
            · simp only [signN] at hm
              split at hm
              · rename_i h2
                exact signs_10 _ (by have := h2.2; simpa [isSign] using this) hm
              · split at hm
                · rename_i h2
                  exact signs_10 _ (by have := h2.2; simpa [isSign] using this) hm
                · simp at hm
  · rename_i hg
    intro hm
    simp only at hm
    split at hm
    · have := runN_mem _ _ _ hm; simp at this
    · simp only [List.drop_succ_cons, List.drop_zero] at hm
      rw [Nat.add_comm, List.take_succ_cons] at hm
      rcases List.mem_cons.1 hm with e | hm
      · subst e; exact hg (good_10 r)
      · exact runBad_10 r hm

theorem lex_10 : ∀ (n : Nat) (l : List UInt8), l.length ≤ n → ∀ t ∈ lex l, t.kind ≠ 1 → (10 : UInt8) ∉ t.text := by
  intro n
  induction n with
  | zero =>
    intro l hl t ht
    have : l = [] := List.eq_nil_of_length_eq_zero (by omega)
    subst this; rw [lex_nil] at ht; cases ht
  | succ n ih =>
    intro l hl t ht hk
    by_cases h0 : 0 < l.length
    · rw [lex_cons l h0] at ht
      rcases List.mem_cons.1 ht with rfl | ht
      · exact next_10 l h0 hk
      · have := nextKN_pos l h0
        exact ih _ (by simp; omega) t ht hk
    · have : l = [] := List.eq_nil_of_length_eq_zero (by omega)
      subst this; rw [lex_nil] at ht; cases ht
theorem lex_pair : ∀ (n : Nat) (l : List UInt8), l.length ≤ n → ∀ (k : Nat) (t u : Tok), (lex l)[k]? = some t → (lex l)[k + 1]? = some u → pairB t u = true := by
  intro n
  induction n with
  | zero =>
    intro l hl k t u ht
    have : l = [] := List.eq_nil_of_length_eq_zero (by omega)
    subst this; rw [lex_nil] at ht; cases ht
  | succ n ih =>
    intro l hl k t u ht hu
    by_cases h0 : 0 < l.length
    · have hp := nextKN_pos l h0
      rw [lex_cons l h0] at ht hu
      cases k with
      | succ k => exact ih (l.drop (nextKN l).2) (by rw [List.length_drop]; omega) k t u (by simpa using ht) (by simpa using hu)
      | zero =>
        obtain rfl : nextT l = t := by simpa using ht
        by_cases h1 : 0 < (l.drop (nextKN l).2).length
        · rw [lex_cons _ h1] at hu
          obtain rfl : nextT (l.drop (nextKN l).2) = u := by simpa using hu
          exact pair_next l h1
        · have : l.drop (nextKN l).2 = [] := List.eq_nil_of_length_eq_zero (by omega)
          rw [this, lex_nil] at hu; simp at hu
    · have : l = [] := List.eq_nil_of_length_eq_zero (by omega)
      subst this; rw [lex_nil] at ht; cases ht

end Go.Proofs.YtplnfepdikbpfaaGreatDoor
