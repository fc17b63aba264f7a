/- What the unify package's reader comes to: plain functions. No condition. The unify package's reader: a good read takes a byte; more fuel gives the same. No condition. -/
import Derived.Test.YtplnfepdikbpfaaGreatDoorU9
import Derived.Lib.AtoiAll
namespace Go.Proofs.YtplnfepdikbpfaaGreatDoor
set_option linter.unusedVariables false
set_option linter.unusedSimpArgs false

/-- The number of a variable's text, if it is one. -/
def numV (w : List UInt8) : Int :=
  match w with
  | [] => 0
  | c :: r =>
    if 97 ≤ (c.toNat : Int) ∧ (c.toNat : Int) ≤ 122 then
      match (if r = [] then .ok 0 else Lib.atoiAll r : Lib.NumEnd Int) with
      | .ok n => if 0 ≤ n ∧ n ≤ 1048576 then 26 * n + ((c.toNat : Int) - 97) else 0
      | _ => 0
    else 0
theorem numV_le (w : List UInt8) : 0 ≤ numV w ∧ numV w ≤ 100000000 := by
  unfold numV
  split
  · omega
  · split
    · split
      · split <;> omega
      · omega
    · omega

/-- What a word says alone, and whether it is none. -/
def leafR (w : List UInt8) : Ty × Bool :=
  if w = [73, 110, 116] then (.mk 1 [] [] [] 0, false) else if w = [66, 111, 111, 108] then (.mk 2 [] [] [] 0, false) else if w = [84, 101, 120, 116] then (.mk 3 [] [] [] 0, false)
  else (.mk 6 [] [] [] (numV w), decide (letterL (numV w) ≠ w))

/-- read with a last part still to come (behind the brackets). -/
def arrow (r : Option (Ty × List UInt8 × Bool)) (args : List Ty) : Option (Ty × List UInt8 × Bool) :=
  match r with
  | none => none
  | some (t, s, b) => some (.mk 5 [] [] (args ++ [t]) 0, s, b)

mutual
/-- read: the type, what is left, whether it is bad; deep: how deep the reader was. -/
def readF : Nat → List UInt8 → Bool → Int → Option (Ty × List UInt8 × Bool)
  | 0, _, _, _ => none
  | f + 1, s, bad, deep =>
    if bad = true ∨ 100 < deep + 1 then some (.mk 0 [] [] [] 0, s, true)
    else if skipB s [40] = true then
      if skipB (skipL s [40]) [41] = true then
        arrow (readF f (skipL (skipL (skipL s [40]) [41]) [32, 45, 62, 32]) (!skipB (skipL (skipL s [40]) [41]) [32, 45, 62, 32]) (deep + 1)) []
      else
        match listF f [41] (skipL s [40]) false (deep + 1) [] with
        | none => none
        | some (args, s2, b2) => arrow (readF f (skipL s2 [32, 45, 62, 32]) (b2 || !skipB s2 [32, 45, 62, 32]) (deep + 1)) args
    else if skipB (s.drop (wordN s)) [46] = true then
      if skipB ((skipL (s.drop (wordN s)) [46]).drop (wordN (skipL (s.drop (wordN s)) [46]))) [91] = true then
        match listF f [93] (skipL ((skipL (s.drop (wordN s)) [46]).drop (wordN (skipL (s.drop (wordN s)) [46]))) [91]) false (deep + 1) [] with
        | none => none
        | some (args, s2, b2) => some (.mk 4 (s.take (wordN s)) ((skipL (s.drop (wordN s)) [46]).take (wordN (skipL (s.drop (wordN s)) [46]))) args 0, s2, b2)
      else some (.mk 4 (s.take (wordN s)) ((skipL (s.drop (wordN s)) [46]).take (wordN (skipL (s.drop (wordN s)) [46]))) [] 0, (skipL (s.drop (wordN s)) [46]).drop (wordN (skipL (s.drop (wordN s)) [46])), false)
    else some ((leafR (s.take (wordN s))).1, s.drop (wordN s), (leafR (s.take (wordN s))).2)
/-- list: the types up to a text. -/
def listF : Nat → List UInt8 → List UInt8 → Bool → Int → List Ty → Option (List Ty × List UInt8 × Bool)
  | 0, _, _, _, _, _ => none
  | f + 1, fin, s, bad, deep, acc =>
    if bad = true then some (acc, s, true)
    else match readF f s bad deep with
      | none => none
      | some (t, s1, b1) =>
        if skipB s1 fin = true then some (acc ++ [t], skipL s1 fin, b1)
        else listF f fin (skipL s1 [44, 32]) (b1 || !skipB s1 [44, 32]) deep (acc ++ [t])
end

theorem skipL_le (s t : List UInt8) : (skipL s t).length ≤ s.length := by
  unfold skipL Lib.trimPrefix; split
  · rw [List.length_drop]; omega
  · exact Nat.le_refl _
theorem skipL_lt {s t : List UInt8} (h : skipB s t = true) (ht : t ≠ []) : (skipL s t).length < s.length := by
  unfold skipB at h
  unfold skipL Lib.trimPrefix
  rw [if_pos h, List.length_drop]
  unfold Lib.hasPrefix at h
  have h1 := (List.isPrefixOf_iff_prefix.1 h).length_le
  have h2 := List.length_pos_iff.2 ht
  omega

end Go.Proofs.YtplnfepdikbpfaaGreatDoor

namespace Go.Proofs.YtplnfepdikbpfaaGreatDoor
set_option linter.unusedVariables false
set_option linter.unusedSimpArgs false

theorem leafR_nil : (leafR []).2 = true := by
  unfold leafR
  simp [numV, letterL, letterC]
theorem arrow_some {r : Option (Ty × List UInt8 × Bool)} {args : List Ty} {t : Ty} {s : List UInt8} {b : Bool} (h : arrow r args = some (t, s, b)) : ∃ t', r = some (t', s, b) ∧ t = .mk 5 [] [] (args ++ [t']) 0 := by
  unfold arrow at h
  cases r with
  | none => cases h
  | some x =>
    obtain ⟨t', s', b'⟩ := x
    simp only [Option.some.injEq, Prod.mk.injEq] at h
    exact ⟨t', by rw [h.2.1, h.2.2], h.1.symm⟩

theorem wordN_le (s : List UInt8) : wordN s ≤ s.length := runN_le _ _

theorem read_takes (f : Nat) : (∀ s bad deep t s' b, readF f s bad deep = some (t, s', b) → s'.length ≤ s.length ∧ (b = false → s'.length < s.length)) ∧
    (∀ fin s bad deep acc r s' b, listF f fin s bad deep acc = some (r, s', b) → s'.length ≤ s.length) := by
  induction f with
  | zero => exact ⟨fun s bad deep t s' b h => (by simp [readF] at h), fun fin s bad deep acc r s' b h => (by simp [listF] at h)⟩
  | succ f ih =>
    obtain ⟨ihr, ihl⟩ := ih
    constructor
    · intro s bad deep t s' b h
      unfold readF at h
      by_cases h1 : bad = true ∨ 100 < deep + 1
      · rw [if_pos h1] at h
        simp only [Option.some.injEq, Prod.mk.injEq] at h
        obtain ⟨-, rfl, rfl⟩ := h
        exact ⟨Nat.le_refl _, fun e => (by cases e)⟩
      · rw [if_neg h1] at h
        by_cases h2 : skipB s [40] = true
        · rw [if_pos h2] at h
          have l1 := skipL_lt h2 (by simp)
          by_cases h3 : skipB (skipL s [40]) [41] = true
          · rw [if_pos h3] at h
            obtain ⟨t', hr, -⟩ := arrow_some h
            have l2 := skipL_le (skipL s [40]) [41]
            have l3 := skipL_le (skipL (skipL s [40]) [41]) [32, 45, 62, 32]
            have l4 := (ihr _ _ _ _ _ _ hr).1
            exact ⟨by omega, fun _ => by omega⟩
          · rw [if_neg h3] at h
            cases hl : listF f [41] (skipL s [40]) false (deep + 1) [] with
            | none => rw [hl] at h; cases h
            | some x =>
              obtain ⟨args, s2, b2⟩ := x
              rw [hl] at h
              obtain ⟨t', hr, -⟩ := arrow_some h
              have l2 := ihl _ _ _ _ _ _ _ _ hl
              have l3 := skipL_le s2 [32, 45, 62, 32]
              have l4 := (ihr _ _ _ _ _ _ hr).1
              exact ⟨by omega, fun _ => by omega⟩
        · rw [if_neg h2] at h
          have w1 : (s.drop (wordN s)).length ≤ s.length := by rw [List.length_drop]; omega
          by_cases h3 : skipB (s.drop (wordN s)) [46] = true
          · rw [if_pos h3] at h
            have l1 := skipL_lt h3 (by simp)
            have w2 : ((skipL (s.drop (wordN s)) [46]).drop (wordN (skipL (s.drop (wordN s)) [46]))).length ≤ (skipL (s.drop (wordN s)) [46]).length := by rw [List.length_drop]; omega
            by_cases h4 : skipB ((skipL (s.drop (wordN s)) [46]).drop (wordN (skipL (s.drop (wordN s)) [46]))) [91] = true
            · rw [if_pos h4] at h
              have l2 := skipL_le ((skipL (s.drop (wordN s)) [46]).drop (wordN (skipL (s.drop (wordN s)) [46]))) [91]
              generalize hq : listF f [93] (skipL ((skipL (s.drop (wordN s)) [46]).drop (wordN (skipL (s.drop (wordN s)) [46]))) [91]) false (deep + 1) [] = q at h
              cases q with
              | none => cases h
              | some x =>
                obtain ⟨args, s2, b2⟩ := x
                simp only [Option.some.injEq, Prod.mk.injEq] at h
                obtain ⟨-, rfl, rfl⟩ := h
                have l3 := ihl _ _ _ _ _ _ _ _ hq
                exact ⟨by omega, fun _ => by omega⟩
            · rw [if_neg h4] at h
              simp only [Option.some.injEq, Prod.mk.injEq] at h
              obtain ⟨-, rfl, rfl⟩ := h
              exact ⟨by omega, fun _ => by omega⟩
          · rw [if_neg h3] at h
            simp only [Option.some.injEq, Prod.mk.injEq] at h
            obtain ⟨-, rfl, rfl⟩ := h
            refine ⟨w1, fun hb => ?_⟩
            have hne : wordN s ≠ 0 := by
              intro e
              rw [e, List.take_zero, leafR_nil] at hb
              cases hb
            have := wordN_le s
            rw [List.length_drop]
            omega
    · intro fin s bad deep acc r s' b h
      unfold listF at h
      by_cases h1 : bad = true
      · rw [if_pos h1] at h
        simp only [Option.some.injEq, Prod.mk.injEq] at h
        obtain ⟨-, rfl, -⟩ := h
        exact Nat.le_refl _
      · rw [if_neg h1] at h
        cases hr : readF f s bad deep with
        | none => rw [hr] at h; cases h
        | some x =>
          obtain ⟨t, s1, b1⟩ := x
          rw [hr] at h
          simp only at h
          have l1 := (ihr _ _ _ _ _ _ hr).1
          by_cases h2 : skipB s1 fin = true
          · rw [if_pos h2] at h
            simp only [Option.some.injEq, Prod.mk.injEq] at h
            obtain ⟨-, rfl, -⟩ := h
            have := skipL_le s1 fin
            omega
          · rw [if_neg h2] at h
            have := ihl _ _ _ _ _ _ _ _ h
            have := skipL_le s1 [44, 32]
            omega

theorem read_more (f : Nat) : (∀ s bad deep r, readF f s bad deep = some r → readF (f + 1) s bad deep = some r) ∧
    (∀ fin s bad deep acc r, listF f fin s bad deep acc = some r → listF (f + 1) fin s bad deep acc = some r) := by
  induction f with
  | zero => exact ⟨fun s bad deep r h => (by simp [readF] at h), fun fin s bad deep acc r h => (by simp [listF] at h)⟩
  | succ f ih =>
    obtain ⟨ihr, ihl⟩ := ih
    have ha : ∀ s bad deep args r, arrow (readF f s bad deep) args = some r → arrow (readF (f + 1) s bad deep) args = some r := by
      intro s bad deep args r h
      obtain ⟨t, s', b⟩ := r
      obtain ⟨t', hr, rfl⟩ := arrow_some h
      rw [ihr _ _ _ _ hr]
      rfl
    constructor
    · intro s bad deep r h
      unfold readF at h ⊢
      by_cases h1 : bad = true ∨ 100 < deep + 1
      · rw [if_pos h1] at h ⊢; exact h
      · rw [if_neg h1] at h ⊢
        by_cases h2 : skipB s [40] = true
        · rw [if_pos h2] at h ⊢
          by_cases h3 : skipB (skipL s [40]) [41] = true
          · rw [if_pos h3] at h ⊢
            exact ha _ _ _ _ _ h
          · rw [if_neg h3] at h ⊢
            cases hl : listF f [41] (skipL s [40]) false (deep + 1) [] with
            | none => rw [hl] at h; cases h
            | some x =>
              rw [hl] at h
              rw [ihl _ _ _ _ _ _ hl]
              exact ha _ _ _ _ _ h
        · rw [if_neg h2] at h ⊢
          by_cases h3 : skipB (s.drop (wordN s)) [46] = true
          · rw [if_pos h3] at h ⊢
            by_cases h4 : skipB ((skipL (s.drop (wordN s)) [46]).drop (wordN (skipL (s.drop (wordN s)) [46]))) [91] = true
            · rw [if_pos h4] at h ⊢
              generalize hq : listF f [93] (skipL ((skipL (s.drop (wordN s)) [46]).drop (wordN (skipL (s.drop (wordN s)) [46]))) [91]) false (deep + 1) [] = q at h
              cases q with
              | none => cases h
              | some x => rw [ihl _ _ _ _ _ _ hq]; exact h
            · rw [if_neg h4] at h ⊢; exact h
          · rw [if_neg h3] at h ⊢; exact h
    · intro fin s bad deep acc r h
      unfold listF at h ⊢
      by_cases h1 : bad = true
      · rw [if_pos h1] at h ⊢; exact h
      · rw [if_neg h1] at h ⊢
        cases hr : readF f s bad deep with
        | none => rw [hr] at h; cases h
        | some x =>
          obtain ⟨t, s1, b1⟩ := x
          rw [hr] at h
          rw [ihr _ _ _ _ hr]
          simp only at h ⊢
          by_cases h2 : skipB s1 fin = true
          · rw [if_pos h2] at h ⊢; exact h
          · rw [if_neg h2] at h ⊢; exact ihl _ _ _ _ _ _ h
theorem readF_le {f g : Nat} (h : f ≤ g) {s : List UInt8} {bad : Bool} {deep : Int} {r : Ty × List UInt8 × Bool} (hr : readF f s bad deep = some r) : readF g s bad deep = some r := by
  induction g with
  | zero => have : f = 0 := by omega
            subst this; exact hr
  | succ g ih =>
    by_cases e : f = g + 1
    · subst e; exact hr
    · exact (read_more g).1 _ _ _ _ (ih (by omega))
theorem listF_le {f g : Nat} (h : f ≤ g) {fin s : List UInt8} {bad : Bool} {deep : Int} {acc : List Ty} {r : List Ty × List UInt8 × Bool} (hr : listF f fin s bad deep acc = some r) : listF g fin s bad deep acc = some r := by
  induction g with
  | zero => have : f = 0 := by omega
            subst this; exact hr
  | succ g ih =>
    by_cases e : f = g + 1
    · subst e; exact hr
    · exact (read_more g).2 _ _ _ _ _ _ (ih (by omega))

end Go.Proofs.YtplnfepdikbpfaaGreatDoor
