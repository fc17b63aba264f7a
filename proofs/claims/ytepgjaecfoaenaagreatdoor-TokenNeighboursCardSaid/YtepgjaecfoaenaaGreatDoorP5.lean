/- A string with the bytes line feed, quote and backslash written as two, as plain laws. No condition. -/
import Derived.Test.YtepgjaecfoaenaaGreatDoorP4
namespace Go.Proofs.YtepgjaecfoaenaaGreatDoor

/-- What is written for a byte, behind the backslash. -/
def esc (b : UInt8) : UInt8 := if b = 10 then 110 else b
def isE (b : UInt8) : Bool := b == 10 || b == 34 || b == 92
def escB (b : UInt8) : List UInt8 := if isE b then [92, esc b] else [b]
def escL (l : List UInt8) : List UInt8 := l.flatMap escB
def cntE (l : List UInt8) : Nat := l.countP isE

theorem escB_length (b : UInt8) : (escB b).length = if isE b then 2 else 1 := by unfold escB; split <;> rfl
theorem escL_length (l : List UInt8) : (escL l).length = l.length + cntE l := by
  induction l with
  | nil => rfl
  | cons b l ih =>
    unfold escL cntE at *
    rw [List.flatMap_cons, List.length_append, escB_length, ih, List.countP_cons, List.length_cons]
    split <;> omega
theorem cntE_le (l : List UInt8) : cntE l ≤ l.length := List.countP_le_length
theorem escL_none (l : List UInt8) (h : cntE l = 0) : escL l = l := by
  induction l with
  | nil => rfl
  | cons b l ih =>
    unfold cntE at *
    rw [List.countP_cons] at h
    have h1 : isE b = false := by cases hb : isE b <;> simp [hb] at h ⊢
    rw [escL, List.flatMap_cons, escB, h1]
    have := ih (by omega)
    rw [escL] at this
    simp [this]

/-- The bytes as the library counts them, one sort after the other. -/
def cntTo (l : List UInt8) : Nat → Nat
  | 0 => 0 | 1 => l.count 92 | 2 => l.count 92 + l.count 34 | _ => l.count 92 + l.count 34 + l.count 10
theorem cntTo_all (l : List UInt8) : cntTo l 3 = cntE l := by
  show l.count 92 + l.count 34 + l.count 10 = cntE l
  unfold cntE
  induction l with
  | nil => rfl
  | cons b l ih =>
    rw [List.count_cons, List.count_cons, List.count_cons, List.countP_cons, ← ih]
    by_cases h1 : b = 92
    · subst h1; simp [isE]; omega
    · by_cases h2 : b = 34
      · subst h2; simp [isE]; omega
      · by_cases h3 : b = 10
        · subst h3; simp [isE]; omega
        · simp [isE, h1, h2, h3]
theorem count_le_cntE (l : List UInt8) (k : Nat) : cntTo l k ≤ l.length := by
  have h := cntTo_all l
  have := cntE_le l
  match k with
  | 0 => simp [cntTo]
  | 1 => simp only [cntTo] at *; omega
  | 2 => simp only [cntTo] at *; omega
  | k + 3 => simp only [cntTo] at *; omega

theorem take_byte (l : List UInt8) (k : Nat) (h : k < l.length) : l.take (k + 1) = l.take k ++ [at_ l k] := by
  rw [List.take_succ_eq_append_getElem h]; simp [at_, List.getElem?_eq_getElem h]
theorem cntE_step (l : List UInt8) (k : Nat) (h : k < l.length) : cntE (l.take (k + 1)) = cntE (l.take k) + if isE (at_ l k) then 1 else 0 := by
  rw [take_byte l k h]; unfold cntE; rw [List.countP_append]; simp [List.countP_cons]
theorem escL_step (l : List UInt8) (k : Nat) (h : k < l.length) : escL (l.take (k + 1)) = escL (l.take k) ++ escB (at_ l k) := by
  rw [take_byte l k h]; simp [escL]
theorem escL_take_le (l : List UInt8) (k : Nat) : (escL (l.take k)).length ≤ (escL l).length := by
  conv => rhs; rw [← List.take_append_drop k l]
  unfold escL; rw [List.flatMap_append, List.length_append]; omega

end Go.Proofs.YtepgjaecfoaenaaGreatDoor
