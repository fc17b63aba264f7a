/- What the reference's reader of types comes to: plain functions; a formed type's text reads as the type. No program in sight. No condition. -/
import Derived.Test.YtplnfepdikbpfaaGreatDoorUV
namespace Go.Proofs.YtplnfepdikbpfaaGreatDoor
set_option linter.unusedVariables false
set_option linter.unusedSimpArgs false

/-- The number of digits, as far as it is looked at. -/
def rnum : Int → List UInt8 → Int
  | n, [] => n
  | n, c :: r => if n ≤ 1048576 then rnum (10 * n + ((c - 48).toNat : Int)) r else n
theorem rnum_le (l : List UInt8) : ∀ n : Int, 0 ≤ n → n ≤ 10486015 → 0 ≤ rnum n l ∧ rnum n l ≤ 10486015 := by
  induction l with
  | nil => intro n h0 h1; exact ⟨h0, h1⟩
  | cons c r ih =>
    intro n h0 h1
    rw [rnum]
    split
    · have := (c - 48).toNat_lt
      exact ih _ (by omega) (by omega)
    · exact ⟨h0, h1⟩

/-- What a word says alone, and whether it is none. -/
def rleaf (w : List UInt8) : Ty × Bool :=
  if w = [73, 110, 116] then (.mk 1 [] [] [] 0, false) else if w = [66, 111, 111, 108] then (.mk 2 [] [] [] 0, false) else if w = [84, 101, 120, 116] then (.mk 3 [] [] [] 0, false)
  else if w.length = 0 ∨ 1048576 < rnum 0 (w.drop 1) then (.mk 0 [] [] [] 0, true)
  else (.mk 6 [] [] [] (26 * rnum 0 (w.drop 1) + ((at_ w 0).toNat : Int) - 97), false)

/-- A function's type with the last part. -/
def rarrow (r : Option (Ty × List UInt8 × Nat × Bool)) (args : List Ty) : Option (Ty × List UInt8 × Nat × Bool) :=
  match r with
  | none => none
  | some (t, s, p, b) => some (.mk 5 [] [] (args ++ [t]) 0, s, p, b)

mutual
/-- read: the type, what is left, how many parts, whether it is bad. -/
def rreadF : Nat → List UInt8 → Nat → Bool → Int → Option (Ty × List UInt8 × Nat × Bool)
  | 0, _, _, _, _ => none
  | f + 1, s, p, bad, d =>
    if bad = true ∨ 100 < d ∨ 4000 < p + 1 then some (.mk 0 [] [] [] 0, s, p + 1, true)
    else if skipB s [40] = true then
      match rlistF f [41, 32, 45, 62, 32] (skipL s [40]) (p + 1) false (d + 1) [] with
      | none => none
      | some (args, s2, p2, b2) => rarrow (rreadF f s2 p2 b2 (d + 1)) args
    else if skipB (s.drop (wordN s)) [46] = true then
      if skipB ((skipL (s.drop (wordN s)) [46]).drop (wordN (skipL (s.drop (wordN s)) [46]))) [91] = true then
        match rlistF f [93] (skipL ((skipL (s.drop (wordN s)) [46]).drop (wordN (skipL (s.drop (wordN s)) [46]))) [91]) (p + 1) false (d + 1) [] with
        | none => none
        | some (args, s2, p2, b2) => some (.mk 4 (s.take (wordN s)) ((skipL (s.drop (wordN s)) [46]).take (wordN (skipL (s.drop (wordN s)) [46]))) args 0, s2, p2, b2)
      else some (.mk 4 (s.take (wordN s)) ((skipL (s.drop (wordN s)) [46]).take (wordN (skipL (s.drop (wordN s)) [46]))) [] 0, (skipL (s.drop (wordN s)) [46]).drop (wordN (skipL (s.drop (wordN s)) [46])), p + 1, false)
    else some ((rleaf (s.take (wordN s))).1, s.drop (wordN s), p + 1, (rleaf (s.take (wordN s))).2)
/-- list: the types up to a text. -/
def rlistF : Nat → List UInt8 → List UInt8 → Nat → Bool → Int → List Ty → Option (List Ty × List UInt8 × Nat × Bool)
  | 0, _, _, _, _, _, _ => none
  | f + 1, fin, s, p, bad, d, acc =>
    if bad = true ∨ skipB s fin = true then some (acc, skipL s fin, p, bad || !skipB s fin)
    else match rreadF f (if acc.length = 0 then s else skipL s [44, 32]) p (if acc.length = 0 then false else !skipB s [44, 32]) d with
      | none => none
      | some (t, s1, p1, b1) => rlistF f fin s1 p1 b1 d (acc ++ [t])
end

theorem rarrow_some {r : Option (Ty × List UInt8 × Nat × Bool)} {args : List Ty} {t : Ty} {s : List UInt8} {p : Nat} {b : Bool} (h : rarrow r args = some (t, s, p, b)) : ∃ t', r = some (t', s, p, b) ∧ t = .mk 5 [] [] (args ++ [t']) 0 := by
  unfold rarrow at h
  cases r with
  | none => cases h
  | some x =>
    obtain ⟨t', s', p', b'⟩ := x
    simp only [Option.some.injEq, Prod.mk.injEq] at h
    exact ⟨t', by rw [h.2.1, h.2.2.1, h.2.2.2], h.1.symm⟩

theorem rread_more (f : Nat) : (∀ s p bad d r, rreadF f s p bad d = some r → rreadF (f + 1) s p bad d = some r) ∧
    (∀ fin s p bad d acc r, rlistF f fin s p bad d acc = some r → rlistF (f + 1) fin s p bad d acc = some r) := by
  induction f with
  | zero => exact ⟨fun s p bad d r h => (by simp [rreadF] at h), fun fin s p bad d acc r h => (by simp [rlistF] at h)⟩
  | succ f ih =>
    obtain ⟨ihr, ihl⟩ := ih
    have ha : ∀ s p bad d args r, rarrow (rreadF f s p bad d) args = some r → rarrow (rreadF (f + 1) s p bad d) args = some r := by
      intro s p bad d args r h
      obtain ⟨t, s', p', b⟩ := r
      obtain ⟨t', hr, rfl⟩ := rarrow_some h
      rw [ihr _ _ _ _ _ hr]
      rfl
    constructor
    · intro s p bad d r h
      unfold rreadF at h ⊢
      by_cases h1 : bad = true ∨ 100 < d ∨ 4000 < p + 1
      · rw [if_pos h1] at h ⊢; exact h
      · rw [if_neg h1] at h ⊢
        by_cases h2 : skipB s [40] = true
        · rw [if_pos h2] at h ⊢
          cases hl : rlistF f [41, 32, 45, 62, 32] (skipL s [40]) (p + 1) false (d + 1) [] with
          | none => rw [hl] at h; cases h
          | some x =>
            rw [hl] at h
            rw [ihl _ _ _ _ _ _ _ hl]
            exact ha _ _ _ _ _ _ h
        · rw [if_neg h2] at h ⊢
          by_cases h3 : skipB (s.drop (wordN s)) [46] = true
          · rw [if_pos h3] at h ⊢
            by_cases h4 : skipB ((skipL (s.drop (wordN s)) [46]).drop (wordN (skipL (s.drop (wordN s)) [46]))) [91] = true
            · rw [if_pos h4] at h ⊢
              generalize hq : rlistF f [93] (skipL ((skipL (s.drop (wordN s)) [46]).drop (wordN (skipL (s.drop (wordN s)) [46]))) [91]) (p + 1) false (d + 1) [] = q at h
              cases q with
              | none => cases h
              | some x => rw [ihl _ _ _ _ _ _ _ hq]; exact h
            · rw [if_neg h4] at h ⊢; exact h
          · rw [if_neg h3] at h ⊢; exact h
    · intro fin s p bad d acc r h
      unfold rlistF at h ⊢
      by_cases h1 : bad = true ∨ skipB s fin = true
      · rw [if_pos h1] at h ⊢; exact h
      · rw [if_neg h1] at h ⊢
        generalize hr : rreadF f (if acc.length = 0 then s else skipL s [44, 32]) p (if acc.length = 0 then false else !skipB s [44, 32]) d = q at h
        cases q with
        | none => cases h
        | some x =>
          obtain ⟨t, s1, p1, b1⟩ := x
          rw [ihr _ _ _ _ _ hr]
          simp only at h ⊢
          exact ihl _ _ _ _ _ _ _ h
theorem rreadF_le {f g : Nat} (h : f ≤ g) {s : List UInt8} {p : Nat} {bad : Bool} {d : Int} {r : Ty × List UInt8 × Nat × Bool} (hr : rreadF f s p bad d = some r) : rreadF g s p bad d = some r := by
  induction g with
  | zero => have : f = 0 := by omega
            subst this; exact hr
  | succ g ih =>
    by_cases e : f = g + 1
    · subst e; exact hr
    · exact (rread_more g).1 _ _ _ _ _ (ih (by omega))
theorem rlistF_le {f g : Nat} (h : f ≤ g) {fin s : List UInt8} {p : Nat} {bad : Bool} {d : Int} {acc : List Ty} {r : List Ty × List UInt8 × Nat × Bool} (hr : rlistF f fin s p bad d acc = some r) : rlistF g fin s p bad d acc = some r := by
  induction g with
  | zero => have : f = 0 := by omega
            subst this; exact hr
  | succ g ih =>
    by_cases e : f = g + 1
    · subst e; exact hr
    · exact (rread_more g).2 _ _ _ _ _ _ _ (ih (by omega))

/-- Some fuel always answers; each read counts a part at least. -/
def RAns (N : Nat) : Prop := ∀ s p bad d, 4001 - p ≤ N → ∃ f t s' p' b, rreadF f s p bad d = some (t, s', p', b) ∧ p + 1 ≤ p' ∧ (b = false → p + 1 ≤ 4000)
def LAns (N : Nat) : Prop := ∀ fin s p bad d acc, 4001 - p ≤ N → ∃ f l s' p' b, rlistF f fin s p bad d acc = some (l, s', p', b) ∧ p ≤ p'
theorem lans_bad (fin s : List UInt8) (p : Nat) (d : Int) (acc : List Ty) : rlistF 1 fin s p true d acc = some (acc, skipL s fin, p, true) := by
  rw [rlistF, if_pos (.inl rfl)]; simp
theorem lans_of {N : Nat} (hr : RAns N) (hl : ∀ M, M < N → LAns M) : LAns N := by
  intro fin s p bad d acc hN
  by_cases h1 : bad = true ∨ skipB s fin = true
  · exact ⟨1, _, _, _, _, by rw [rlistF, if_pos h1], Nat.le_refl _⟩
  · obtain ⟨f, t, s', p', b, h2, h3, h4⟩ := hr (if acc.length = 0 then s else skipL s [44, 32]) p (if acc.length = 0 then false else !skipB s [44, 32]) d hN
    cases b with
    | true =>
      refine ⟨f + 1 + 1, acc ++ [t], skipL s' fin, p', true, ?_, (by omega : p ≤ p')⟩
      rw [rlistF, if_neg h1, rreadF_le (Nat.le_add_right f 1) h2]
      exact rlistF_le (by omega) (lans_bad fin s' p' d (acc ++ [t]))
    | false =>
      have := h4 rfl
      obtain ⟨g, l, s2, p2, b2, h5, h6⟩ := hl (4001 - p') (by omega) fin s' p' false d (acc ++ [t]) (Nat.le_refl _)
      refine ⟨max f g + 1, l, s2, p2, b2, ?_, by omega⟩
      rw [rlistF, if_neg h1, rreadF_le (Nat.le_max_left f g) h2]
      exact rlistF_le (Nat.le_max_right f g) h5
theorem rans_of {N : Nat} (hr : ∀ M, M < N → RAns M) (hl : ∀ M, M < N → LAns M) : RAns N := by
  intro s p bad d hN
  by_cases h1 : bad = true ∨ 100 < d ∨ 4000 < p + 1
  · exact ⟨1, _, _, _, _, by rw [rreadF, if_pos h1], Nat.le_refl _, fun e => by cases e⟩
  · have hp : p + 1 ≤ 4000 := by
      have := not_or.1 (not_or.1 h1).2
      omega
    by_cases h2 : skipB s [40] = true
    · obtain ⟨f, l, s2, p2, b2, h5, h6⟩ := hl (4001 - (p + 1)) (by omega) [41, 32, 45, 62, 32] (skipL s [40]) (p + 1) false (d + 1) [] (Nat.le_refl _)
      obtain ⟨g, t, s3, p3, b3, h7, h8, -⟩ := hr (4001 - p2) (by omega) s2 p2 b2 (d + 1) (Nat.le_refl _)
      refine ⟨max f g + 1, .mk 5 [] [] (l ++ [t]) 0, s3, p3, b3, ?_, by omega, fun _ => hp⟩
      rw [rreadF, if_neg h1, if_pos h2, rlistF_le (Nat.le_max_left f g) h5]
      simp only
      rw [rreadF_le (Nat.le_max_right f g) h7]
      rfl
    · by_cases h3 : skipB (s.drop (wordN s)) [46] = true
      · by_cases h4 : skipB ((skipL (s.drop (wordN s)) [46]).drop (wordN (skipL (s.drop (wordN s)) [46]))) [91] = true
        · obtain ⟨f, l, s2, p2, b2, h5, h6⟩ := hl (4001 - (p + 1)) (by omega) [93] (skipL ((skipL (s.drop (wordN s)) [46]).drop (wordN (skipL (s.drop (wordN s)) [46]))) [91]) (p + 1) false (d + 1) [] (Nat.le_refl _)
          refine ⟨f + 1, _, _, _, _, by rw [rreadF, if_neg h1, if_neg h2, if_pos h3, if_pos h4, h5], by omega, fun _ => hp⟩
        · exact ⟨1, _, _, _, _, by rw [rreadF, if_neg h1, if_neg h2, if_pos h3, if_neg h4], by omega, fun _ => hp⟩
      · exact ⟨1, _, _, _, _, by rw [rreadF, if_neg h1, if_neg h2, if_neg h3], by omega, fun _ => hp⟩
theorem rans_all (N : Nat) : RAns N ∧ LAns N := by
  induction N using Nat.strongRecOn with
  | ind N ih =>
    have hr := rans_of (N := N) (fun M h => (ih M h).1) (fun M h => (ih M h).2)
    exact ⟨hr, lans_of hr fun M h => (ih M h).2⟩
theorem rread_some (s : List UInt8) (p : Nat) (bad : Bool) (d : Int) : ∃ f r, rreadF f s p bad d = some r := by
  obtain ⟨f, t, s', p', b, h, -⟩ := (rans_all (4001 - p)).1 s p bad d (Nat.le_refl _)
  exact ⟨f, _, h⟩

/-- How many parts. -/
theorem partsL_app (a b : List Ty) : partsL (a ++ b) = partsL a + partsL b := by
  induction a with
  | nil => simp [partsL]
  | cons x a ih => simp only [List.cons_append, partsL]; rw [ih]; omega
theorem rleaf_parts (w : List UInt8) : partsT (rleaf w).1 = 1 := by
  unfold rleaf
  split
  · simp [partsT, partsL]
  · split
    · simp [partsT, partsL]
    · split
      · simp [partsT, partsL]
      · split <;> simp [partsT, partsL]
theorem rread_parts (f : Nat) : (∀ s p bad d t s' p' b, rreadF f s p bad d = some (t, s', p', b) → p + partsT t ≤ p' ∧ (b = false → p' ≤ 4000)) ∧
    (∀ fin s p bad d acc l s' p' b, rlistF f fin s p bad d acc = some (l, s', p', b) → p + partsL l ≤ p' + partsL acc ∧ (b = false → p ≤ 4000 → p' ≤ 4000)) := by
  induction f with
  | zero => exact ⟨fun s p bad d t s' p' b h => (by simp [rreadF] at h), fun fin s p bad d acc l s' p' b h => (by simp [rlistF] at h)⟩
  | succ f ih =>
    obtain ⟨ihr, ihl⟩ := ih
    constructor
    · intro s p bad d t s' p' b h
      unfold rreadF at h
      by_cases h1 : bad = true ∨ 100 < d ∨ 4000 < p + 1
      · rw [if_pos h1] at h
        simp only [Option.some.injEq, Prod.mk.injEq] at h
        obtain ⟨rfl, -, rfl, rfl⟩ := h
        exact ⟨by simp [partsT, partsL], fun e => by cases e⟩
      · rw [if_neg h1] at h
        have hp : p + 1 ≤ 4000 := by
          have := not_or.1 (not_or.1 h1).2
          omega
        by_cases h2 : skipB s [40] = true
        · rw [if_pos h2] at h
          cases hl : rlistF f [41, 32, 45, 62, 32] (skipL s [40]) (p + 1) false (d + 1) [] with
          | none => rw [hl] at h; cases h
          | some x =>
            obtain ⟨args, s2, p2, b2⟩ := x
            rw [hl] at h
            obtain ⟨t', hr, rfl⟩ := rarrow_some h
            have g1 := (ihl _ _ _ _ _ _ _ _ _ _ hl).1
            have g2 := ihr _ _ _ _ _ _ _ _ hr
            refine ⟨?_, g2.2⟩
            simp only [partsL] at g1
            simp only [partsT]
            rw [partsL_app]
            simp only [partsL]
            omega
        · rw [if_neg h2] at h
          by_cases h3 : skipB (s.drop (wordN s)) [46] = true
          · rw [if_pos h3] at h
            by_cases h4 : skipB ((skipL (s.drop (wordN s)) [46]).drop (wordN (skipL (s.drop (wordN s)) [46]))) [91] = true
            · rw [if_pos h4] at h
              generalize hq : rlistF f [93] (skipL ((skipL (s.drop (wordN s)) [46]).drop (wordN (skipL (s.drop (wordN s)) [46]))) [91]) (p + 1) false (d + 1) [] = q at h
              cases q with
              | none => cases h
              | some x =>
                obtain ⟨args, s2, p2, b2⟩ := x
                simp only [Option.some.injEq, Prod.mk.injEq] at h
                obtain ⟨rfl, -, rfl, rfl⟩ := h
                have g1 := ihl _ _ _ _ _ _ _ _ _ _ hq
                refine ⟨?_, fun e => g1.2 e hp⟩
                have g2 := g1.1
                simp only [partsL] at g2
                simp only [partsT]
                omega
            · rw [if_neg h4] at h
              simp only [Option.some.injEq, Prod.mk.injEq] at h
              obtain ⟨rfl, -, rfl, rfl⟩ := h
              exact ⟨by simp [partsT, partsL], fun _ => hp⟩
          · rw [if_neg h3] at h
            simp only [Option.some.injEq, Prod.mk.injEq] at h
            obtain ⟨rfl, -, rfl, rfl⟩ := h
            exact ⟨by rw [rleaf_parts]; omega, fun _ => hp⟩
    · intro fin s p bad d acc l s' p' b h
      unfold rlistF at h
      by_cases h1 : bad = true ∨ skipB s fin = true
      · rw [if_pos h1] at h
        simp only [Option.some.injEq, Prod.mk.injEq] at h
        obtain ⟨rfl, -, rfl, -⟩ := h
        exact ⟨Nat.le_refl _, fun _ h => h⟩
      · rw [if_neg h1] at h
        generalize hr : rreadF f (if acc.length = 0 then s else skipL s [44, 32]) p (if acc.length = 0 then false else !skipB s [44, 32]) d = q at h
        cases q with
        | none => cases h
        | some x =>
          obtain ⟨t, s1, p1, b1⟩ := x
          simp only at h
          have g1 := ihr _ _ _ _ _ _ _ _ hr
          have g2 := ihl _ _ _ _ _ _ _ _ _ _ h
          rw [partsL_app] at g2
          simp only [partsL] at g2
          refine ⟨by omega, fun e hp => ?_⟩
          cases b1 with
          | false => exact g2.2 e (g1.2 rfl)
          | true =>
            exfalso
            cases f with
            | zero => simp [rlistF] at h
            | succ f =>
              rw [rlistF, if_pos (.inl rfl)] at h
              simp only [Bool.true_or, Option.some.injEq, Prod.mk.injEq] at h
              rw [e] at h
              cases h.2.2.2

/-! ### A formed type's text reads -/
theorem u8_sub48 (d : Nat) (hd : d < 10) : ((UInt8.ofNat (48 + d)) - 48).toNat = d := by
  have : ∀ d : Fin 10, ((UInt8.ofNat (48 + d.1)) - 48).toNat = d.1 := by decide
  exact this ⟨d, hd⟩
theorem rnum_dec : ∀ (n u acc : Nat), u ≤ n → ∀ r, acc * 10 ^ Lib.nDigits u + u ≤ 1048576 → rnum (acc : Int) (Lib.decDigits u ++ r) = rnum ((acc * 10 ^ Lib.nDigits u + u : Nat) : Int) r := by
  intro n
  have one : ∀ (acc d : Nat) (r : List UInt8), d < 10 → acc ≤ 1048576 → rnum (acc : Int) (UInt8.ofNat (48 + d) :: r) = rnum ((acc * 10 + d : Nat) : Int) r := by
    intro acc d r hd ha
    rw [rnum, if_pos (by omega), u8_sub48 d hd]
    congr 1
    omega
  induction n with
  | zero =>
    intro u acc hu r h
    have : u = 0 := by omega
    subst this
    rw [Lib.decDigits, dif_pos (by omega)]
    rw [Lib.nDigits_small (by omega)] at h ⊢
    rw [Nat.pow_one] at h ⊢
    exact one acc 0 r (by omega) (by omega)
  | succ n ih =>
    intro u acc hu r h
    by_cases h1 : u < 10
    · rw [Lib.decDigits, dif_pos h1]
      rw [Lib.nDigits_small h1] at h ⊢
      rw [Nat.pow_one] at h ⊢
      exact one acc u r h1 (by omega)
    · have en : Lib.nDigits u = Lib.nDigits (u / 10) + 1 := by rw [Lib.nDigits, dif_neg h1]
      rw [Lib.decDigits, dif_neg h1, List.append_assoc]
      rw [en, Nat.pow_succ, ← Nat.mul_assoc] at h ⊢
      obtain ⟨q, hq⟩ : ∃ q, q = acc * 10 ^ Lib.nDigits (u / 10) := ⟨_, rfl⟩
      rw [← hq] at h ⊢
      rw [ih (u / 10) acc (by omega) _ (by rw [← hq]; omega), ← hq, List.singleton_append]
      rw [one (q + u / 10) (u % 10) r (by omega) (by omega)]
      congr 2
      omega
theorem rnum_itoa (n : Int) (h0 : 0 ≤ n) (h1 : n ≤ 1048576) : rnum 0 (Lib.itoa n) = n := by
  have e : Lib.itoa n = Lib.decDigits n.toNat := by unfold Lib.itoa; rw [if_neg (by omega)]
  have := rnum_dec n.toNat n.toNat 0 (Nat.le_refl _) [] (by omega)
  rw [e]
  rw [List.append_nil] at this
  simp only [rnum] at this
  rw [show ((0 : Nat) : Int) = 0 from rfl] at this
  rw [this]
  omega
theorem rleaf_letter (v : Int) (h0 : 0 ≤ v) (h1 : v ≤ 1048576) : rleaf (letterL v) = (.mk 6 [] [] [] v, false) := by
  have hc := letterC_nat v h0
  have hne : ∀ (d : UInt8) (l : List UInt8), (d.toNat : Int) < 97 → letterL v ≠ d :: l := by
    intro d l hd e
    unfold letterL at e
    have := (List.cons.inj e).1
    rw [this] at hc
    omega
  have hd : (letterL v).drop 1 = if 26 ≤ v then Lib.itoa (v / 26) else [] := rfl
  have h2 : at_ (letterL v) 0 = letterC v := rfl
  have hl : (letterL v).length ≠ 0 := by unfold letterL; simp
  have hn : rnum 0 ((letterL v).drop 1) = v / 26 := by
    rw [hd]
    by_cases hv : 26 ≤ v
    · rw [if_pos hv]; exact rnum_itoa _ (by omega) (by omega)
    · rw [if_neg hv]; simp only [rnum]; omega
  unfold rleaf
  rw [if_neg (hne _ _ (by decide)), if_neg (hne _ _ (by decide)), if_neg (hne _ _ (by decide)), hn, h2, hc, if_neg (by omega)]
  congr 2
  omega

theorem Stop.rword {r : List UInt8} (h : Stop r) {u : List UInt8} (hu : ∀ c ∈ u, isAlnum c = true) (hne : u ≠ []) (f p : Nat) (d : Int) (hd : d ≤ 100) (hp : p + 1 ≤ 4000) :
    rreadF (f + 1) (u ++ r) p false d = some ((rleaf u).1, r, p + 1, (rleaf u).2) := by
  obtain ⟨h1, h2⟩ := word_take hu h.alnum
  have hp2 : skipB (u ++ r) [40] = false := by
    cases u with
    | nil => exact absurd rfl hne
    | cons c u =>
      refine skipB_head (fun e => ?_)
      have := hu c (by simp)
      rw [e] at this
      revert this
      decide
  rw [rreadF, if_neg (by simp; omega), if_neg (by rw [hp2]; simp), h1, h2, if_neg (by rw [h.point]; simp)]

/-- A type of which the text reads. -/
def RReads (t : Ty) : Prop := ∀ (d : Int) (p : Nat) (r : List UInt8), okT t d = true → p + partsT t ≤ 4000 → Stop r → ∃ f, rreadF f (textT t ++ r) p false d = some (t, r, p + partsT t, false)
/-- A formed type's text begins with no bracket that ends. -/
theorem text_head {t : Ty} {d : Int} (h : okT t d = true) : ∃ c u, textT t = c :: u ∧ c ≠ 41 ∧ c ≠ 93 := by
  have al : ∀ c : UInt8, isAlnum c = true → c ≠ 41 ∧ c ≠ 93 := fun c hc => ⟨fun e => by rw [e] at hc; revert hc; decide, fun e => by rw [e] at hc; revert hc; decide⟩
  obtain ⟨k, m, n, xs, v⟩ := t
  have eo : okT (.mk k m n xs v) d = (decide (d ≤ 100) && headB (.mk k m n xs v) && okL xs (d + 1)) := by simp [okT]
  rw [eo, Bool.and_eq_true, Bool.and_eq_true] at h
  have hh := h.1.2
  have eh : headB (.mk k m n xs v) = ((if k = 1 ∨ k = 2 ∨ k = 3 then decide (xs.length = 0)
      else if k = 4 then nameB m false && nameB n true && decide (xs.length ≤ 12)
      else if k = 5 then decide (1 ≤ xs.length) && decide (xs.length ≤ 13)
      else if k = 6 then decide (xs.length = 0) && decide (0 ≤ v) && decide (v ≤ 1048576)
      else false) && (k == 4 || (m == [] && n == [])) && (k == 6 || v == 0)) := rfl
  rw [eh] at hh
  clear eh eo
  by_cases e1 : k = 1 ∨ k = 2 ∨ k = 3
  · rcases e1 with rfl | rfl | rfl
    · exact ⟨73, _, by simp [textT]; rfl, by decide, by decide⟩
    · exact ⟨66, _, by simp [textT]; rfl, by decide, by decide⟩
    · exact ⟨84, _, by simp [textT]; rfl, by decide, by decide⟩
  · rw [if_neg e1] at hh
    by_cases e4 : k = 4
    · subst e4
      simp only [if_true, Bool.and_eq_true, decide_eq_true_eq] at hh
      obtain ⟨hm0, hma⟩ := nameB_alnum hh.1.1.1.1
      cases m with
      | nil => exact absurd rfl hm0
      | cons c m =>
        have := al c (hma c (by simp))
        exact ⟨c, _, by simp [textT]; rfl, this.1, this.2⟩
    · rw [if_neg e4] at hh
      by_cases e5 : k = 5
      · subst e5
        exact ⟨40, _, by simp [textT]; rfl, by decide, by decide⟩
      · rw [if_neg e5] at hh
        by_cases e6 : k = 6
        · subst e6
          simp at hh
          have e : textT (.mk 6 m n xs v) = letterC v :: (if 26 ≤ v then Lib.itoa (v / 26) else []) := by simp [textT, letterL]
          have := al (letterC v) (letter_alnum _ (by rw [letterC_nat v (by omega)]; omega))
          exact ⟨_, _, e, this.1, this.2⟩
        · rw [if_neg e6] at hh
          simp at hh

/-- The texts behind a first one. -/
def commaC : List Ty → List UInt8
  | [] => []
  | t :: xs => [44, 32] ++ textT t ++ commaC xs
theorem joinC_comma (t : Ty) (xs : List Ty) : joinC (textsT (t :: xs)) = textT t ++ commaC xs := by
  induction xs generalizing t with
  | nil => simp [textsT, joinC, commaC]
  | cons a xs ih =>
    have := ih a
    simp only [textsT] at this ⊢
    rw [joinC_cons2, this, commaC]
    simp
def FinIs (fin : List UInt8) : Prop := fin = [41, 32, 45, 62, 32] ∨ fin = [93]
theorem FinIs.stop {fin : List UInt8} (h : FinIs fin) (r : List UInt8) : Stop (fin ++ r) := by
  rcases h with rfl | rfl
  · exact .inr ⟨41, _, rfl, .inr (.inl rfl)⟩
  · exact .inr ⟨93, _, rfl, .inr (.inr rfl)⟩
theorem FinIs.other {fin : List UInt8} (h : FinIs fin) {c : UInt8} (u : List UInt8) (h1 : c ≠ 41) (h2 : c ≠ 93) : skipB (c :: u) fin = false := by
  rcases h with rfl | rfl
  · unfold skipB Lib.hasPrefix; simp [List.isPrefixOf, Ne.symm h1]
  · exact skipB_head h2
theorem stop_comma {fin : List UInt8} (hf : FinIs fin) (xs : List Ty) (r : List UInt8) : Stop (commaC xs ++ (fin ++ r)) := by
  cases xs with
  | nil => exact hf.stop r
  | cons a xs => exact .inr ⟨44, _, rfl, .inl rfl⟩
theorem rlist_rest {fin : List UInt8} (hf : FinIs fin) (d : Int) : ∀ (xs acc : List Ty) (p : Nat) (r : List UInt8), acc.length ≠ 0 → (∀ t ∈ xs, RReads t ∧ okT t d = true) → p + partsL xs ≤ 4000 →
    ∃ f, rlistF f fin (commaC xs ++ (fin ++ r)) p false d acc = some (acc ++ xs, r, p + partsL xs, false) := by
  intro xs
  induction xs with
  | nil =>
    intro acc p r ha _ _
    exact ⟨1, by rw [commaC, List.nil_append, rlistF, if_pos (.inr (skipB_self fin r)), skipB_self, skipL_self]; simp [partsL]⟩
  | cons a xs ih =>
    intro acc p r ha hall hp
    simp only [partsL] at hp
    obtain ⟨h1, h2⟩ := hall a (by simp)
    obtain ⟨f, hf1⟩ := h1 d p (commaC xs ++ (fin ++ r)) h2 (by omega) (stop_comma hf xs r)
    obtain ⟨g, hg⟩ := ih (acc ++ [a]) (p + partsT a) r (by simp) (fun t ht => hall t (by simp [ht])) (by omega)
    refine ⟨max f g + 1, ?_⟩
    have e1 : commaC (a :: xs) ++ (fin ++ r) = [44, 32] ++ (textT a ++ (commaC xs ++ (fin ++ r))) := by rw [commaC]; simp
    have e2 : skipB ([44, 32] ++ (textT a ++ (commaC xs ++ (fin ++ r)))) fin = false := hf.other _ (by decide) (by decide)
    rw [e1, rlistF, if_neg (by rw [e2]; simp), if_neg ha, if_neg ha, skipL_self, skipB_self, Bool.not_true, rreadF_le (Nat.le_max_left f g) hf1]
    simp only
    rw [rlistF_le (Nat.le_max_right f g) hg]
    simp only [partsL, List.append_assoc, List.singleton_append, Nat.add_assoc]
theorem rlist_all {fin : List UInt8} (hf : FinIs fin) (d : Int) (xs : List Ty) (p : Nat) (r : List UInt8) (hall : ∀ t ∈ xs, RReads t ∧ okT t d = true) (hp : p + partsL xs ≤ 4000) :
    ∃ f, rlistF f fin (joinC (textsT xs) ++ (fin ++ r)) p false d [] = some (xs, r, p + partsL xs, false) := by
  cases xs with
  | nil => exact ⟨1, by rw [show joinC (textsT []) = [] by simp [textsT, joinC], List.nil_append, rlistF, if_pos (.inr (skipB_self fin r)), skipB_self, skipL_self]; simp [partsL]⟩
  | cons a xs =>
    simp only [partsL] at hp
    obtain ⟨h1, h2⟩ := hall a (by simp)
    obtain ⟨f, hf1⟩ := h1 d p (commaC xs ++ (fin ++ r)) h2 (by omega) (stop_comma hf xs r)
    obtain ⟨g, hg⟩ := rlist_rest hf d xs [a] (p + partsT a) r (by simp) (fun t ht => hall t (by simp [ht])) (by omega)
    refine ⟨max f g + 1, ?_⟩
    have e1 : joinC (textsT (a :: xs)) ++ (fin ++ r) = textT a ++ (commaC xs ++ (fin ++ r)) := by rw [joinC_comma]; simp
    have e2 : skipB (textT a ++ (commaC xs ++ (fin ++ r))) fin = false := by
      obtain ⟨c, u, hc, h3, h4⟩ := text_head h2
      rw [hc]
      exact hf.other _ h3 h4
    rw [e1, rlistF, if_neg (by rw [e2]; simp), if_pos (show ([] : List Ty).length = 0 from rfl), if_pos (show ([] : List Ty).length = 0 from rfl), rreadF_le (Nat.le_max_left f g) hf1]
    simp only [List.nil_append]
    rw [rlistF_le (Nat.le_max_right f g) hg]
    simp only [partsL, List.singleton_append, Nat.add_assoc]

theorem rreads_back (t : Ty) : RReads t := by
  induction t using Ty.ind with
  | h k m n xs v ih =>
    intro d p r hok hp hr
    have eo : okT (.mk k m n xs v) d = (decide (d ≤ 100) && headB (.mk k m n xs v) && okL xs (d + 1)) := by simp [okT]
    rw [eo, Bool.and_eq_true, Bool.and_eq_true, decide_eq_true_eq] at hok
    obtain ⟨⟨hd, hh⟩, hL⟩ := hok
    have hmem := okL_mem hL
    have eh : headB (.mk k m n xs v) = ((if k = 1 ∨ k = 2 ∨ k = 3 then decide (xs.length = 0)
        else if k = 4 then nameB m false && nameB n true && decide (xs.length ≤ 12)
        else if k = 5 then decide (1 ≤ xs.length) && decide (xs.length ≤ 13)
        else if k = 6 then decide (xs.length = 0) && decide (0 ≤ v) && decide (v ≤ 1048576)
        else false) && (k == 4 || (m == [] && n == [])) && (k == 6 || v == 0)) := rfl
    rw [eh] at hh
    clear eh eo
    have ep : partsT (.mk k m n xs v) = 1 + partsL xs := by simp [partsT]
    rw [ep] at hp ⊢
    by_cases e1 : k = 1 ∨ k = 2 ∨ k = 3
    · rw [if_pos e1] at hh
      have hk4 : k ≠ 4 := by omega
      have hk6 : k ≠ 6 := by omega
      simp [hk4, hk6] at hh
      obtain ⟨⟨rfl, rfl, rfl⟩, rfl⟩ := hh
      have hp1 : p + 1 ≤ 4000 := by omega
      rcases e1 with rfl | rfl | rfl
      · exact ⟨1, by rw [show textT (.mk 1 [] [] [] 0) = [73, 110, 116] by simp [textT], hr.rword (by decide) (by simp) 0 p d hd hp1]; rfl⟩
      · exact ⟨1, by rw [show textT (.mk 2 [] [] [] 0) = [66, 111, 111, 108] by simp [textT], hr.rword (by decide) (by simp) 0 p d hd hp1]; rfl⟩
      · exact ⟨1, by rw [show textT (.mk 3 [] [] [] 0) = [84, 101, 120, 116] by simp [textT], hr.rword (by decide) (by simp) 0 p d hd hp1]; rfl⟩
    · rw [if_neg e1] at hh
      by_cases e4 : k = 4
      · subst e4
        simp only [if_true, Bool.and_eq_true, decide_eq_true_eq, beq_self_eq_true, Bool.true_or, Bool.true_and] at hh
        obtain ⟨⟨⟨⟨hm, hn⟩, hlen⟩, -⟩, hv⟩ := hh
        have hv : v = 0 := by simpa using hv
        subst hv
        obtain ⟨hm0, hma⟩ := nameB_alnum hm
        obtain ⟨hn0, hna⟩ := nameB_alnum hn
        obtain ⟨q, hq⟩ : ∃ q, q = (if xs.length = 0 then [] else [91] ++ joinC (textsT xs) ++ [93]) ++ r := ⟨_, rfl⟩
        have et : textT (.mk 4 m n xs 0) ++ r = m ++ (46 :: (n ++ q)) := by
          rw [hq]
          simp [textT]
        have hqs : q = [] ∨ isAlnum (at_ q 0) = false := by
          rw [hq]
          by_cases hx : xs.length = 0
          · rw [if_pos hx]; simpa using hr.alnum
          · rw [if_neg hx]; exact .inr (by simp [at_]; decide)
        obtain ⟨w1, w2⟩ := word_take (r := 46 :: (n ++ q)) hma (.inr (by simp [at_]; decide))
        obtain ⟨w3, w4⟩ := word_take hna hqs
        have hp0 : skipB (m ++ (46 :: (n ++ q))) [40] = false := by
          cases m with
          | nil => exact absurd rfl hm0
          | cons c u =>
            refine skipB_head (fun e => ?_)
            have := hma c (by simp)
            rw [e] at this
            revert this
            decide
        have s1 : skipB (46 :: (n ++ q)) [46] = true := skipB_self [46] _
        have s2 : skipL (46 :: (n ++ q)) [46] = n ++ q := skipL_self [46] _
        by_cases hx : xs.length = 0
        · have hxs : xs = [] := List.eq_nil_of_length_eq_zero hx
          subst hxs
          have hqr : q = r := by rw [hq]; simp
          refine ⟨1, ?_⟩
          rw [et, rreadF, if_neg (by simp; omega), if_neg (by rw [hp0]; simp), w2, w1, if_pos s1, s2, w3, w4, if_neg (by rw [hqr, hr.bracket]; simp), hqr]
          simp [partsL]
        · have hqr : q = 91 :: (joinC (textsT xs) ++ ([93] ++ r)) := by rw [hq, if_neg hx]; simp
          obtain ⟨f, hf⟩ := rlist_all (.inr rfl) (d + 1) xs (p + 1) r (fun t ht => ⟨ih t ht, hmem t ht⟩) (by omega)
          refine ⟨f + 1, ?_⟩
          have s3 : skipB q [91] = true := by rw [hqr]; exact skipB_self [91] _
          have s4 : skipL q [91] = joinC (textsT xs) ++ ([93] ++ r) := by rw [hqr]; exact skipL_self [91] _
          rw [et, rreadF, if_neg (by simp; omega), if_neg (by rw [hp0]; simp), w2, w1, if_pos s1, s2, w3, w4, if_pos s3, s4, hf]
          simp [Nat.add_assoc]
      · rw [if_neg e4] at hh
        by_cases e5 : k = 5
        · subst e5
          simp at hh
          obtain ⟨⟨⟨h1, -⟩, rfl, rfl⟩, rfl⟩ := hh
          obtain ⟨ys, a, rfl⟩ : ∃ ys a, xs = ys ++ [a] := by
            rcases List.eq_nil_or_concat xs with rfl | ⟨ys, a, rfl⟩
            · simp at h1
            · exact ⟨ys, a, by rw [List.concat_eq_append]⟩
          have ets : textsT (ys ++ [a]) = textsT ys ++ [textT a] := by rw [textsT_map, textsT_map]; simp
          have et : textT (.mk 5 [] [] (ys ++ [a]) 0) ++ r = 40 :: (joinC (textsT ys) ++ ([41, 32, 45, 62, 32] ++ (textT a ++ r))) := by
            simp [textT, ets]
          have s1 : ∀ u : List UInt8, skipB (40 :: u) [40] = true := fun u => skipB_self [40] u
          have s2 : ∀ u : List UInt8, skipL (40 :: u) [40] = u := fun u => skipL_self [40] u
          rw [partsL_app] at hp ⊢
          simp only [partsL, Nat.add_zero] at hp ⊢
          obtain ⟨f, hf⟩ := rlist_all (.inl rfl) (d + 1) ys (p + 1) (textT a ++ r) (fun t ht => ⟨ih t (by simp [ht]), hmem t (by simp [ht])⟩) (by omega)
          obtain ⟨g, hg⟩ := ih a (by simp) (d + 1) (p + 1 + partsL ys) r (hmem a (by simp)) (by omega) hr
          refine ⟨max f g + 1, ?_⟩
          rw [et, rreadF, if_neg (by simp; omega), if_pos (s1 _), s2, rlistF_le (Nat.le_max_left f g) hf]
          simp only
          rw [rreadF_le (Nat.le_max_right f g) hg]
          simp [rarrow, Nat.add_assoc]
        · rw [if_neg e5] at hh
          by_cases e6 : k = 6
          · subst e6
            simp at hh
            obtain ⟨⟨⟨rfl, h0⟩, h1⟩, rfl, rfl⟩ := hh
            refine ⟨1, ?_⟩
            have hl := letterL_alnum v h0 (by omega)
            rw [show textT (.mk 6 [] [] [] v) = letterL v by simp [textT], hr.rword hl (by unfold letterL; simp) 0 p d hd (by omega), rleaf_letter v h0 h1]
            rfl
          · rw [if_neg e6] at hh
            simp at hh

/-- The reference's Parse: what was read, if it is a type's text. -/
def RParseIs (s : List UInt8) (r : Ty × Bool) : Prop := ∃ f t s' p' b, rreadF f s 0 false 1 = some (t, s', p', b) ∧ r = (if b = false ∧ s' = [] ∧ formedB t = true ∧ textT t = s then (t, true) else (.mk 0 [] [] [] 0, false))
theorem rparse_of {s : List UInt8} {r : Ty × Bool} (h : RParseIs s r) {t : Ty} (ht : formedB t = true) (e : textT t = s) : r = (t, true) := by
  obtain ⟨f, t1, s', p', b, h1, h2⟩ := h
  have h3 := ht
  unfold formedB at h3
  rw [Bool.and_eq_true, decide_eq_true_eq] at h3
  obtain ⟨g, hg⟩ := rreads_back t 1 0 [] h3.1 (by omega) (.inl rfl)
  rw [List.append_nil, e] at hg
  have h4 := rreadF_le (Nat.le_max_left f g) h1
  rw [rreadF_le (Nat.le_max_right f g) hg] at h4
  simp only [Option.some.injEq, Prod.mk.injEq] at h4
  obtain ⟨rfl, rfl, -, rfl⟩ := h4
  rw [h2, if_pos ⟨rfl, rfl, ht, e⟩]
theorem rparse_true {s : List UInt8} {r : Ty × Bool} (h : RParseIs s r) (hr : r.2 = true) : formedB r.1 = true ∧ textT r.1 = s := by
  obtain ⟨f, t1, s', p', b, h1, h2⟩ := h
  split at h2
  · rename_i h3
    subst h2
    exact h3.2.2
  · subst h2; cases hr
theorem rparse_false {s : List UInt8} {r : Ty × Bool} (h : RParseIs s r) (hr : r.2 = false) : r.1 = .mk 0 [] [] [] 0 := by
  obtain ⟨f, t1, s', p', b, h1, h2⟩ := h
  split at h2
  · subst h2; cases hr
  · subst h2; rfl

end Go.Proofs.YtplnfepdikbpfaaGreatDoor
