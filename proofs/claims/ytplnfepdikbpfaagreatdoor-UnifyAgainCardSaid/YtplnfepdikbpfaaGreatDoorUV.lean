/- The text of a type reads as the type, and what reads has the text: plain laws about the unify package's texts. No program in sight. No condition. read of a type's text is the type, and the text of what is read is what was read: plain laws. No program in sight. No condition. -/
import Derived.Test.YtplnfepdikbpfaaGreatDoorUP
import Derived.Test.YtplnfepdikbpfaaGreatDoorU9
namespace Go.Proofs.YtplnfepdikbpfaaGreatDoor
set_option linter.unusedVariables false
set_option linter.unusedSimpArgs false

theorem skipB_self (t r : List UInt8) : skipB (t ++ r) t = true := by
  unfold skipB Lib.hasPrefix; exact List.isPrefixOf_iff_prefix.2 (List.prefix_append _ _)
theorem skipL_self (t r : List UInt8) : skipL (t ++ r) t = r := by
  have := skipB_self t r
  unfold skipB at this
  unfold skipL Lib.trimPrefix
  rw [if_pos this, List.drop_left]
theorem skip_split {s t : List UInt8} (h : skipB s t = true) : s = t ++ skipL s t := by
  unfold skipB at h
  unfold skipL Lib.trimPrefix
  rw [if_pos h]
  unfold Lib.hasPrefix at h
  obtain ⟨r, rfl⟩ := List.isPrefixOf_iff_prefix.1 h
  rw [List.drop_left]
theorem skipB_head {c d : UInt8} {s : List UInt8} (h : c ≠ d) : skipB (c :: s) [d] = false := by
  unfold skipB Lib.hasPrefix
  simp [List.isPrefixOf, Ne.symm h]
theorem skipB_nil (d : UInt8) : skipB [] [d] = false := rfl

/-- Nothing of a word, no point and no bracket is next. -/
def Stop (r : List UInt8) : Prop := r = [] ∨ ∃ c l, r = c :: l ∧ (c = 44 ∨ c = 41 ∨ c = 93)
theorem Stop.alnum {r : List UInt8} (h : Stop r) : r = [] ∨ isAlnum (at_ r 0) = false := by
  rcases h with rfl | ⟨c, l, rfl, rfl | rfl | rfl⟩
  · exact .inl rfl
  all_goals exact .inr (by simp [at_]; decide)
theorem Stop.point {r : List UInt8} (h : Stop r) : skipB r [46] = false := by
  rcases h with rfl | ⟨c, l, rfl, rfl | rfl | rfl⟩
  · rfl
  all_goals exact skipB_head (by decide)
theorem Stop.bracket {r : List UInt8} (h : Stop r) : skipB r [91] = false := by
  rcases h with rfl | ⟨c, l, rfl, rfl | rfl | rfl⟩
  · rfl
  all_goals exact skipB_head (by decide)

theorem wordN_of {u r : List UInt8} (hu : ∀ c ∈ u, isAlnum c = true) (hr : r = [] ∨ isAlnum (at_ r 0) = false) : wordN (u ++ r) = u.length := by
  refine runN_of isAlnum (u ++ r) u.length (by simp) (fun j hj => ?_) ?_
  · apply hu
    simp [at_, List.getElem?_append_left hj, List.getElem?_eq_getElem hj]
  · rcases hr with rfl | hr
    · exact .inl (by simp)
    · refine .inr ?_
      have e : at_ (u ++ r) u.length = at_ r 0 := by simp [at_, List.getD_eq_getElem?_getD, List.getElem?_append_right]
      rw [e]; exact hr
theorem word_take {u r : List UInt8} (hu : ∀ c ∈ u, isAlnum c = true) (hr : r = [] ∨ isAlnum (at_ r 0) = false) : (u ++ r).take (wordN (u ++ r)) = u ∧ (u ++ r).drop (wordN (u ++ r)) = r := by
  rw [wordN_of hu hr]; simp

/-! ### Numbers -/
theorem parse_step (acc : Nat) (d : Nat) (hd : d < 10) (h : acc * 10 + d < 1000000000000000000) (r : List UInt8) : Lib.parseUint10 acc (UInt8.ofNat (48 + d) :: r) = Lib.parseUint10 (acc * 10 + d) r := by
  have e : (UInt8.ofNat (48 + d)).toNat = 48 + d := by rw [UInt8.toNat_ofNat']; omega
  rw [Lib.parseUint10]
  simp only [e]
  rw [if_pos (by omega), if_neg (by omega), if_neg (by omega), Nat.add_sub_cancel_left]
theorem parse_dec : ∀ (n u acc : Nat), u ≤ n → ∀ r, acc * 10 ^ Lib.nDigits u + u < 1000000000000000000 → Lib.parseUint10 acc (Lib.decDigits u ++ r) = Lib.parseUint10 (acc * 10 ^ Lib.nDigits u + u) r := by
  intro n
  induction n with
  | zero =>
    intro u acc hu r h
    have : u = 0 := by omega
    subst this
    rw [Lib.decDigits, dif_pos (by omega)]
    rw [Lib.nDigits_small (by omega)] at h ⊢
    exact parse_step acc 0 (by omega) (by omega) r
  | succ n ih =>
    intro u acc hu r h
    by_cases h1 : u < 10
    · rw [Lib.decDigits, dif_pos h1]
      rw [Lib.nDigits_small h1] at h ⊢
      rw [Nat.pow_one] at h ⊢
      exact parse_step acc u h1 h r
    · have en : Lib.nDigits u = Lib.nDigits (u / 10) + 1 := by rw [Lib.nDigits, dif_neg h1]
      rw [Lib.decDigits, dif_neg h1, List.append_assoc]
      rw [en, Nat.pow_succ, ← Nat.mul_assoc] at h ⊢
      obtain ⟨q, hq⟩ : ∃ q, q = acc * 10 ^ Lib.nDigits (u / 10) := ⟨_, rfl⟩
      rw [← hq] at h ⊢
      rw [ih (u / 10) acc (by omega) _ (by rw [← hq]; omega), ← hq, List.singleton_append]
      rw [parse_step (q + u / 10) (u % 10) (by omega) (by omega)]
      congr 1
      omega
theorem digit_byte (d : Nat) (hd : d < 10) : isDigit (UInt8.ofNat (48 + d)) = true := by
  have : ∀ d : Fin 10, isDigit (UInt8.ofNat (48 + d.1)) = true := by decide
  exact this ⟨d, hd⟩
theorem dec_digits : ∀ (n u : Nat), u ≤ n → Lib.decDigits u ≠ [] ∧ ∀ c ∈ Lib.decDigits u, isDigit c = true := by
  intro n
  induction n with
  | zero =>
    intro u hu
    have : u = 0 := by omega
    subst this
    rw [Lib.decDigits, dif_pos (by omega)]
    exact ⟨by simp, fun c hc => by rw [List.mem_singleton.1 hc]; exact digit_byte 0 (by omega)⟩
  | succ n ih =>
    intro u hu
    by_cases h1 : u < 10
    · rw [Lib.decDigits, dif_pos h1]
      exact ⟨by simp, fun c hc => by rw [List.mem_singleton.1 hc]; exact digit_byte u h1⟩
    · rw [Lib.decDigits, dif_neg h1]
      refine ⟨by simp, fun c hc => ?_⟩
      rcases List.mem_append.1 hc with hc | hc
      · exact (ih (u / 10) (by omega)).2 c hc
      · rw [List.mem_singleton.1 hc]; exact digit_byte (u % 10) (by omega)
theorem atoi_itoa (n : Int) (h0 : 0 ≤ n) (h1 : n ≤ 100000000) : Lib.itoa n ≠ [] ∧ (∀ c ∈ Lib.itoa n, isDigit c = true) ∧ Lib.atoiAll (Lib.itoa n) = .ok n := by
  have e : Lib.itoa n = Lib.decDigits n.toNat := by unfold Lib.itoa; rw [if_neg (by omega)]
  obtain ⟨hne, hd⟩ := dec_digits n.toNat n.toNat (Nat.le_refl _)
  rw [e]
  refine ⟨hne, hd, ?_⟩
  have hp : Lib.parseUint10 0 (Lib.decDigits n.toNat) = .ok n.toNat := by
    have := parse_dec n.toNat n.toNat 0 (Nat.le_refl _) [] (by omega)
    rw [List.append_nil] at this
    rw [this, Nat.zero_mul, Nat.zero_add]
    rfl
  cases hx : Lib.decDigits n.toNat with
  | nil => exact absurd hx hne
  | cons c r =>
    have hc := hd c (by rw [hx]; simp)
    have c1 : ¬ (c.toNat = 43 ∨ c.toNat = 45) := by
      rw [isDigit_int] at hc
      simp only [Bool.and_eq_true, decide_eq_true_eq] at hc
      omega
    have c2 : ¬ c.toNat = 45 := fun e => c1 (.inr e)
    rw [hx] at hp
    unfold Lib.atoiAll
    simp only [if_neg c1]
    unfold Lib.parseMag
    rw [if_neg (by simp), hp]
    simp only [c2, not_false_iff, true_and, false_and, if_false]
    rw [if_neg (by omega)]
    congr 1
    omega

/-! ### A variable's text -/
theorem letterC_nat (v : Int) (h0 : 0 ≤ v) : ((letterC v).toNat : Int) = 97 + v % 26 := by
  have e : (letterC v).toNat = (97 + v % 26).toNat := by unfold letterC; rw [UInt8.toNat_ofNat']; omega
  rw [e]; omega
theorem letter_alnum (c : UInt8) (h : 97 ≤ (c.toNat : Int) ∧ (c.toNat : Int) ≤ 122) : isAlnum c = true := by
  revert h
  refine u8_all (p := fun c => 97 ≤ (c.toNat : Int) ∧ (c.toNat : Int) ≤ 122 → isAlnum c = true) ?_ c
  decide +kernel
theorem letterL_alnum (v : Int) (h0 : 0 ≤ v) (h1 : v ≤ 100000000) : ∀ c ∈ letterL v, isAlnum c = true := by
  intro c hc
  unfold letterL at hc
  rcases List.mem_cons.1 hc with rfl | hc
  · exact letter_alnum _ (by rw [letterC_nat v h0]; omega)
  · split at hc
    · have := (atoi_itoa (v / 26) (by omega) (by omega)).2.1 c hc
      simp [isAlnum, this]
    · cases hc
theorem numV_letter (v : Int) (h0 : 0 ≤ v) (h1 : v ≤ 1048576) : numV (letterL v) = v := by
  have hc := letterC_nat v h0
  unfold letterL numV
  simp only
  rw [if_pos (by rw [hc]; omega), hc]
  by_cases hv : 26 ≤ v
  · obtain ⟨hne, -, hat⟩ := atoi_itoa (v / 26) (by omega) (by omega)
    rw [if_pos hv, if_neg hne, hat]
    simp only
    rw [if_pos (by omega)]
    omega
  · rw [if_neg hv, if_pos rfl]
    simp only
    rw [if_pos (by omega)]
    omega
theorem leaf_letter (v : Int) (h0 : 0 ≤ v) (h1 : v ≤ 1048576) : leafR (letterL v) = (.mk 6 [] [] [] v, false) := by
  have hc := letterC_nat v h0
  have hne : ∀ (d : UInt8) (l : List UInt8), (d.toNat : Int) < 97 → letterL v ≠ d :: l := by
    intro d l hd e
    unfold letterL at e
    have := (List.cons.inj e).1
    rw [this] at hc
    omega
  unfold leafR
  rw [if_neg (hne _ _ (by decide)), if_neg (hne _ _ (by decide)), if_neg (hne _ _ (by decide)), numV_letter v h0 h1]
  simp

/-! ### A name's text -/
theorem nameB_alnum {s : List UInt8} {g : Bool} (h : nameB s g = true) : s ≠ [] ∧ ∀ c ∈ s, isAlnum c = true := by
  unfold nameB at h
  rw [Bool.and_eq_true] at h
  obtain ⟨h1, h2, h3⟩ := isTok_next h.1
  simp only at h1 h2 h3
  have hk : (nextKN s).1 = 3 := by have := congrArg Tok.kind h3; simpa [nextT] using this
  have hg := nextKN_good (l := s) (by omega)
  rw [hg] at hk
  obtain ⟨-, e⟩ := goodKN_name (.inl hk)
  have ht : s.take (runN isAlnum s) = s := by have := congrArg Tok.text h3; simpa [nextT, hg, e] using this
  refine ⟨fun e => by rw [e] at h1; simp at h1, fun c hc => ?_⟩
  rw [← ht] at hc
  exact runN_mem isAlnum s c hc

end Go.Proofs.YtplnfepdikbpfaaGreatDoor

namespace Go.Proofs.YtplnfepdikbpfaaGreatDoor
set_option linter.unusedVariables false
set_option linter.unusedSimpArgs false

theorem joinC_cons2 (a b : List UInt8) (l : List (List UInt8)) : joinC (a :: b :: l) = a ++ [44, 32] ++ joinC (b :: l) := rfl
theorem textsT_length (xs : List Ty) : (textsT xs).length = xs.length := by rw [textsT_map]; simp

/-- A type of which the text reads. -/
def ReadsBack (t : Ty) : Prop := ∀ (d : Int) (r : List UInt8), okT t (d + 1) = true → Stop r → ∃ f, readF f (textT t ++ r) false d = some (t, r, false)

theorem okL_mem {xs : List Ty} {d : Int} (h : okL xs d = true) : ∀ t ∈ xs, okT t d = true := by
  induction xs with
  | nil => intro t ht; cases ht
  | cons a xs ih =>
    simp only [okL, Bool.and_eq_true] at h
    intro t ht
    rcases List.mem_cons.1 ht with rfl | ht
    · exact h.1
    · exact ih h.2 t ht

theorem list_back (fin : UInt8) (hfin : fin = 41 ∨ fin = 93) (d : Int) : ∀ (xs : List Ty) (acc : List Ty) (r : List UInt8), xs ≠ [] → (∀ t ∈ xs, ReadsBack t ∧ okT t (d + 1) = true) →
    ∃ f, listF f [fin] (joinC (textsT xs) ++ fin :: r) false d acc = some (acc ++ xs, r, false) := by
  intro xs
  induction xs with
  | nil => intro acc r h; exact absurd rfl h
  | cons a xs ih =>
    intro acc r _ hall
    obtain ⟨ha, hok⟩ := hall a (by simp)
    cases xs with
    | nil =>
      obtain ⟨f, hf⟩ := ha d (fin :: r) hok (.inr ⟨fin, r, rfl, by rcases hfin with h | h <;> simp [h]⟩)
      refine ⟨f + 1, ?_⟩
      have e1 : joinC (textsT [a]) = textT a := by simp [textsT, joinC]
      rw [listF, if_neg (by simp), e1, hf]
      simp only
      rw [if_pos (by exact skipB_self [fin] r)]
      rw [show skipL (fin :: r) [fin] = r from skipL_self [fin] r]
    | cons b xs =>
      obtain ⟨g, hg⟩ := ih (acc ++ [a]) r (by simp) (fun t ht => hall t (by simp at ht ⊢; exact .inr ht))
      have e1 : joinC (textsT (a :: b :: xs)) ++ fin :: r = textT a ++ (44 :: 32 :: (joinC (textsT (b :: xs)) ++ fin :: r)) := by
        simp only [textsT]
        rw [joinC_cons2]
        simp
      obtain ⟨f, hf⟩ := ha d (44 :: 32 :: (joinC (textsT (b :: xs)) ++ fin :: r)) hok (.inr ⟨44, _, rfl, .inl rfl⟩)
      refine ⟨max f g + 1, ?_⟩
      rw [listF, if_neg (by simp), e1, readF_le (Nat.le_max_left f g) hf]
      simp only
      rw [if_neg (by rw [skipB_head (by rcases hfin with h | h <;> rw [h] <;> decide)]; simp)]
      have e2 : skipB (44 :: 32 :: (joinC (textsT (b :: xs)) ++ fin :: r)) [44, 32] = true := skipB_self [44, 32] _
      have e3 : skipL (44 :: 32 :: (joinC (textsT (b :: xs)) ++ fin :: r)) [44, 32] = joinC (textsT (b :: xs)) ++ fin :: r := skipL_self [44, 32] _
      rw [e2, e3]
      have := listF_le (Nat.le_max_right f g) hg
      simpa using this

theorem Stop.word {r : List UInt8} (h : Stop r) {u : List UInt8} (hu : ∀ c ∈ u, isAlnum c = true) (hne : u ≠ []) (f : Nat) (d : Int) (hd : d + 1 ≤ 100) :
    readF (f + 1) (u ++ r) false d = some ((leafR u).1, r, (leafR u).2) := by
  obtain ⟨h1, h2⟩ := word_take hu h.alnum
  have hp : skipB (u ++ r) [40] = false := by
    cases u with
    | nil => exact absurd rfl hne
    | cons c u =>
      refine skipB_head (fun e => ?_)
      have := hu c (by simp)
      rw [e] at this
      revert this
      decide
  rw [readF, if_neg (by simp; omega), if_neg (by rw [hp]; simp), h1, h2, if_neg (by rw [h.point]; simp)]

theorem reads_back (t : Ty) : ReadsBack t := by
  induction t using Ty.ind with
  | h k m n xs v ih =>
    intro d r hok hr
    have eo : okT (.mk k m n xs v) (d + 1) = (decide (d + 1 ≤ 100) && headB (.mk k m n xs v) && okL xs (d + 1 + 1)) := by simp [okT]
    rw [eo, Bool.and_eq_true, Bool.and_eq_true, decide_eq_true_eq] at hok
    obtain ⟨⟨hd, hh⟩, hL⟩ := hok
    have hmem := okL_mem hL
    have eh : headB (.mk k m n xs v) = ((if k = 1 ∨ k = 2 ∨ k = 3 then decide (xs.length = 0)
        else if k = 4 then nameB m false && nameB n true && decide (xs.length ≤ 12)
        else if k = 5 then decide (1 ≤ xs.length) && decide (xs.length ≤ 13)
        else if k = 6 then decide (xs.length = 0) && decide (0 ≤ v) && decide (v ≤ 1048576)
        else false) && (k == 4 || (m == [] && n == [])) && (k == 6 || v == 0)) := rfl
    rw [eh] at hh
    clear eh eo
    by_cases e1 : k = 1 ∨ k = 2 ∨ k = 3
    · rw [if_pos e1] at hh
      have hk4 : k ≠ 4 := by omega
      have hk6 : k ≠ 6 := by omega
      simp [hk4, hk6] at hh
      obtain ⟨⟨rfl, rfl, rfl⟩, rfl⟩ := hh
      rcases e1 with rfl | rfl | rfl
      · exact ⟨1, by rw [show textT (.mk 1 [] [] [] 0) = [73, 110, 116] by simp [textT], hr.word (by decide) (by simp) 0 d hd]; rfl⟩
      · exact ⟨1, by rw [show textT (.mk 2 [] [] [] 0) = [66, 111, 111, 108] by simp [textT], hr.word (by decide) (by simp) 0 d hd]; rfl⟩
      · exact ⟨1, by rw [show textT (.mk 3 [] [] [] 0) = [84, 101, 120, 116] by simp [textT], hr.word (by decide) (by simp) 0 d hd]; rfl⟩
    · rw [if_neg e1] at hh
      by_cases e4 : k = 4
      · subst e4
        simp only [if_true, Bool.and_eq_true, decide_eq_true_eq, beq_self_eq_true, Bool.true_or, Bool.true_and] at hh
        obtain ⟨⟨⟨⟨hm, hn⟩, hlen⟩, -⟩, hv⟩ := hh
        have hv : v = 0 := by simpa using hv
        subst hv
        obtain ⟨hm0, hma⟩ := nameB_alnum hm
        obtain ⟨hn0, hna⟩ := nameB_alnum hn
        obtain ⟨q, hq⟩ : ∃ q, q = (if xs.length = 0 then [] else [91] ++ joinC (textsT xs) ++ [93]) ++ r := ⟨_, rfl⟩
        have et : textT (.mk 4 m n xs 0) ++ r = m ++ (46 :: (n ++ q)) := by
          rw [hq]
          simp [textT]
        have hqs : q = [] ∨ isAlnum (at_ q 0) = false := by
          rw [hq]
          by_cases hx : xs.length = 0
          · rw [if_pos hx]; simpa using hr.alnum
          · rw [if_neg hx]; exact .inr (by simp [at_]; decide)
        obtain ⟨w1, w2⟩ := word_take (r := 46 :: (n ++ q)) hma (.inr (by simp [at_]; decide))
        obtain ⟨w3, w4⟩ := word_take hna hqs
        have hp : skipB (m ++ (46 :: (n ++ q))) [40] = false := by
          cases m with
          | nil => exact absurd rfl hm0
          | cons c u =>
            refine skipB_head (fun e => ?_)
            have := hma c (by simp)
            rw [e] at this
            revert this
            decide
        have s1 : skipB (46 :: (n ++ q)) [46] = true := skipB_self [46] _
        have s2 : skipL (46 :: (n ++ q)) [46] = n ++ q := skipL_self [46] _
        by_cases hx : xs.length = 0
        · have hxs : xs = [] := List.eq_nil_of_length_eq_zero hx
          subst hxs
          have hqr : q = r := by rw [hq]; simp
          refine ⟨1, ?_⟩
          rw [et, readF, if_neg (by simp; omega), if_neg (by rw [hp]; simp), w2, w1, if_pos s1, s2, w3, w4, if_neg (by rw [hqr, hr.bracket]; simp), hqr]
        · have hqr : q = 91 :: (joinC (textsT xs) ++ 93 :: r) := by rw [hq, if_neg hx]; simp
          obtain ⟨f, hf⟩ := list_back 93 (.inr rfl) (d + 1) xs [] r (fun e => hx (by rw [e]; rfl)) (fun t ht => ⟨ih t ht, hmem t ht⟩)
          refine ⟨f + 1, ?_⟩
          have s3 : skipB q [91] = true := by rw [hqr]; exact skipB_self [91] _
          have s4 : skipL q [91] = joinC (textsT xs) ++ 93 :: r := by rw [hqr]; exact skipL_self [91] _
          rw [et, readF, if_neg (by simp; omega), if_neg (by rw [hp]; simp), w2, w1, if_pos s1, s2, w3, w4, if_pos s3, s4, hf]
          simp
      · rw [if_neg e4] at hh
        by_cases e5 : k = 5
        · subst e5
          simp at hh
          obtain ⟨⟨⟨h1, -⟩, rfl, rfl⟩, rfl⟩ := hh
          obtain ⟨ys, a, rfl⟩ : ∃ ys a, xs = ys ++ [a] := by
            rcases List.eq_nil_or_concat xs with rfl | ⟨ys, a, rfl⟩
            · simp at h1
            · exact ⟨ys, a, by rw [List.concat_eq_append]⟩
          have ets : textsT (ys ++ [a]) = textsT ys ++ [textT a] := by rw [textsT_map, textsT_map]; simp
          have et : textT (.mk 5 [] [] (ys ++ [a]) 0) ++ r = 40 :: (joinC (textsT ys) ++ 41 :: (32 :: 45 :: 62 :: 32 :: (textT a ++ r))) := by
            simp [textT, ets]
          have s1 : ∀ u : List UInt8, skipB (40 :: u) [40] = true := fun u => skipB_self [40] u
          have s2 : ∀ u : List UInt8, skipL (40 :: u) [40] = u := fun u => skipL_self [40] u
          have s5 : ∀ u : List UInt8, skipB (32 :: 45 :: 62 :: 32 :: u) [32, 45, 62, 32] = true := fun u => skipB_self [32, 45, 62, 32] u
          have s6 : ∀ u : List UInt8, skipL (32 :: 45 :: 62 :: 32 :: u) [32, 45, 62, 32] = u := fun u => skipL_self [32, 45, 62, 32] u
          obtain ⟨g, hg⟩ := ih a (by simp) (d + 1) r (hmem a (by simp)) hr
          cases ys with
          | nil =>
            refine ⟨g + 1, ?_⟩
            have s3 : ∀ u : List UInt8, skipB (41 :: u) [41] = true := fun u => skipB_self [41] u
            have s4 : ∀ u : List UInt8, skipL (41 :: u) [41] = u := fun u => skipL_self [41] u
            have ej : joinC (textsT []) = [] := by simp [textsT, joinC]
            rw [et, ej, List.nil_append, readF, if_neg (by simp; omega), if_pos (s1 _), s2, if_pos (s3 _), s4, s5, s6, Bool.not_true, hg]
            rfl
          | cons b ys =>
            obtain ⟨f, hf⟩ := list_back 41 (.inl rfl) (d + 1) (b :: ys) [] (32 :: 45 :: 62 :: 32 :: (textT a ++ r)) (by simp) (fun t ht => ⟨ih t (by simp at ht ⊢; rcases ht with h | h <;> simp [h]), hmem t (by simp at ht ⊢; rcases ht with h | h <;> simp [h])⟩)
            have s3 : skipB (joinC (textsT (b :: ys)) ++ 41 :: (32 :: 45 :: 62 :: 32 :: (textT a ++ r))) [41] = false := by
              obtain ⟨c, u, hcu, hc⟩ : ∃ c u, joinC (textsT (b :: ys)) = c :: u ∧ c ≠ 41 := by
                have hb : ∃ c u, textT b = c :: u ∧ c ≠ 41 := by
                  obtain ⟨f', hf'⟩ := ih b (by simp) (d + 1) [41] (hmem b (by simp)) (.inr ⟨41, [], rfl, .inr (.inl rfl)⟩)
                  cases hb : textT b with
                  | nil =>
                    rw [hb] at hf'
                    have := ((read_takes f').1 _ _ _ _ _ _ hf').2 rfl
                    simp at this
                  | cons c u =>
                    refine ⟨c, u, rfl, fun e => ?_⟩
                    subst e
                    rw [hb] at hf'
                    cases f' with
                    | zero => simp [readF] at hf'
                    | succ f' =>
                      have hd2 : d + 1 + 1 ≤ 100 := by
                        have := hmem b (by simp)
                        obtain ⟨k', m', n', xs', v'⟩ := b
                        simp only [okT, Bool.and_eq_true, decide_eq_true_eq] at this
                        omega
                      have hw0 : wordN (41 :: u ++ [41]) = 0 := by
                        show runN isAlnum (41 :: (u ++ [41])) = 0
                        rw [runN, List.takeWhile_cons, if_neg (by decide)]; rfl
                      rw [readF, if_neg (by simp; omega), if_neg (by rw [List.cons_append, skipB_head (by decide)]; simp), hw0, List.drop_zero, List.take_zero, if_neg (by rw [List.cons_append, skipB_head (by decide)]; simp), leafR_nil] at hf'
                      simp at hf'
                obtain ⟨c, u, hcu, hc⟩ := hb
                cases ys with
                | nil => exact ⟨c, u, by simp [textsT, joinC, hcu], hc⟩
                | cons y ys => exact ⟨c, _, by simp only [textsT]; rw [joinC_cons2, hcu]; rfl, hc⟩
              rw [hcu]
              exact skipB_head hc
            refine ⟨max f g + 1, ?_⟩
            rw [et, readF, if_neg (by simp; omega), if_pos (s1 _), s2, if_neg (by rw [s3]; simp), listF_le (Nat.le_max_left f g) hf]
            simp only
            rw [s5, s6, Bool.not_true, Bool.or_false, readF_le (Nat.le_max_right f g) hg]
            rfl
        · rw [if_neg e5] at hh
          by_cases e6 : k = 6
          · subst e6
            simp at hh
            obtain ⟨⟨⟨rfl, h0⟩, h1⟩, rfl, rfl⟩ := hh
            refine ⟨1, ?_⟩
            have hl := letterL_alnum v h0 (by omega)
            rw [show textT (.mk 6 [] [] [] v) = letterL v by simp [textT], hr.word hl (by unfold letterL; simp) 0 d hd, leaf_letter v h0 h1]
          · rw [if_neg e6] at hh
            simp at hh

theorem readF_true {f : Nat} {s : List UInt8} {d : Int} {t : Ty} {s' : List UInt8} {b : Bool} (h : readF f s true d = some (t, s', b)) : b = true := by
  cases f with
  | zero => simp [readF] at h
  | succ f =>
    rw [readF, if_pos (.inl rfl)] at h
    simp only [Option.some.injEq, Prod.mk.injEq] at h
    exact h.2.2.symm
theorem listF_true {f : Nat} {fin s : List UInt8} {d : Int} {acc ts : List Ty} {s' : List UInt8} {b : Bool} (h : listF f fin s true d acc = some (ts, s', b)) : b = true := by
  cases f with
  | zero => simp [listF] at h
  | succ f =>
    rw [listF, if_pos rfl] at h
    simp only [Option.some.injEq, Prod.mk.injEq] at h
    exact h.2.2.symm

theorem leafR_text (w : List UInt8) (h : (leafR w).2 = false) : textT (leafR w).1 = w := by
  unfold leafR at h ⊢
  by_cases h1 : w = [73, 110, 116]
  · rw [if_pos h1, h1]; simp [textT]
  · rw [if_neg h1] at h ⊢
    by_cases h2 : w = [66, 111, 111, 108]
    · rw [if_pos h2, h2]; simp [textT]
    · rw [if_neg h2] at h ⊢
      by_cases h3 : w = [84, 101, 120, 116]
      · rw [if_pos h3, h3]; simp [textT]
      · rw [if_neg h3] at h ⊢
        simp at h
        simp [textT, h]

theorem textT_fn (args : List Ty) (t : Ty) : textT (.mk 5 [] [] (args ++ [t]) 0) = [40] ++ joinC (textsT args) ++ [41, 32, 45, 62, 32] ++ textT t := by
  have ets : textsT (args ++ [t]) = textsT args ++ [textT t] := by rw [textsT_map, textsT_map]; simp
  simp [textT, ets]
theorem textT_made (m n : List UInt8) (xs : List Ty) : textT (.mk 4 m n xs 0) = m ++ [46] ++ n ++ (if xs.length = 0 then [] else [91] ++ joinC (textsT xs) ++ [93]) := by
  simp [textT]

theorem read_text (f : Nat) : (∀ s bad d t s', readF f s bad d = some (t, s', false) → s = textT t ++ s') ∧
    (∀ fin s bad d acc ts s', listF f fin s bad d acc = some (ts, s', false) → ∃ xs, xs ≠ [] ∧ ts = acc ++ xs ∧ s = joinC (textsT xs) ++ fin ++ s') := by
  induction f with
  | zero => exact ⟨fun s bad d t s' h => (by simp [readF] at h), fun fin s bad d acc ts s' h => (by simp [listF] at h)⟩
  | succ f ih =>
    obtain ⟨ihr, ihl⟩ := ih
    constructor
    · intro s bad d t s' h
      unfold readF at h
      by_cases h1 : bad = true ∨ 100 < d + 1
      · rw [if_pos h1] at h
        simp at h
      · rw [if_neg h1] at h
        by_cases h2 : skipB s [40] = true
        · rw [if_pos h2] at h
          have e1 := skip_split h2
          by_cases h3 : skipB (skipL s [40]) [41] = true
          · rw [if_pos h3] at h
            obtain ⟨t', hr, rfl⟩ := arrow_some h
            have e2 := skip_split h3
            have hb : skipB (skipL (skipL s [40]) [41]) [32, 45, 62, 32] = true := by
              cases hb : skipB (skipL (skipL s [40]) [41]) [32, 45, 62, 32] with
              | true => rfl
              | false => rw [hb] at hr; exact absurd (readF_true hr) (by simp)
            have e3 := skip_split hb
            have e4 := ihr _ _ _ _ _ hr
            rw [textT_fn]
            rw [e1, e2, e3, e4]
            simp [textsT, joinC]
          · rw [if_neg h3] at h
            cases hl : listF f [41] (skipL s [40]) false (d + 1) [] with
            | none => rw [hl] at h; cases h
            | some x =>
              obtain ⟨args, s2, b2⟩ := x
              rw [hl] at h
              obtain ⟨t', hr, rfl⟩ := arrow_some h
              have hb : b2 = false ∧ skipB s2 [32, 45, 62, 32] = true := by
                cases hb : (b2 || !skipB s2 [32, 45, 62, 32]) with
                | true => rw [hb] at hr; exact absurd (readF_true hr) (by simp)
                | false => simpa using hb
              obtain ⟨rfl, hb⟩ := hb
              have e3 := skip_split hb
              have e4 := ihr _ _ _ _ _ hr
              obtain ⟨xs, -, rfl, e5⟩ := ihl _ _ _ _ _ _ _ hl
              rw [textT_fn]
              rw [e1, e5, e3, e4]
              simp
        · rw [if_neg h2] at h
          have ew : s = s.take (wordN s) ++ s.drop (wordN s) := (List.take_append_drop _ _).symm
          by_cases h3 : skipB (s.drop (wordN s)) [46] = true
          · rw [if_pos h3] at h
            have e1 := skip_split h3
            obtain ⟨u, hu⟩ : ∃ u, u = skipL (s.drop (wordN s)) [46] := ⟨_, rfl⟩
            rw [← hu] at h e1
            have eu : u = u.take (wordN u) ++ u.drop (wordN u) := (List.take_append_drop _ _).symm
            by_cases h4 : skipB (u.drop (wordN u)) [91] = true
            · rw [if_pos h4] at h
              have e2 := skip_split h4
              generalize hq : listF f [93] (skipL (u.drop (wordN u)) [91]) false (d + 1) [] = q at h
              cases q with
              | none => cases h
              | some x =>
                obtain ⟨args, s2, b2⟩ := x
                simp only [Option.some.injEq, Prod.mk.injEq] at h
                obtain ⟨rfl, rfl, rfl⟩ := h
                obtain ⟨xs, hne, rfl, e5⟩ := ihl _ _ _ _ _ _ _ hq
                rw [textT_made, if_neg (by simpa using hne)]
                conv => lhs; rw [ew, e1, eu, e2, e5]
                simp
            · rw [if_neg h4] at h
              simp only [Option.some.injEq, Prod.mk.injEq] at h
              obtain ⟨rfl, rfl, -⟩ := h
              rw [textT_made, if_pos (by simp)]
              conv => lhs; rw [ew, e1, eu]
              simp
          · rw [if_neg h3] at h
            simp only [Option.some.injEq, Prod.mk.injEq] at h
            obtain ⟨rfl, rfl, hb⟩ := h
            rw [leafR_text _ hb]
            exact ew
    · intro fin s bad d acc ts s' h
      unfold listF at h
      by_cases h1 : bad = true
      · rw [if_pos h1] at h
        simp at h
      · rw [if_neg h1] at h
        cases hr : readF f s bad d with
        | none => rw [hr] at h; cases h
        | some x =>
          obtain ⟨t, s1, b1⟩ := x
          rw [hr] at h
          simp only at h
          by_cases h2 : skipB s1 fin = true
          · rw [if_pos h2] at h
            simp only [Option.some.injEq, Prod.mk.injEq] at h
            obtain ⟨rfl, rfl, rfl⟩ := h
            refine ⟨[t], by simp, rfl, ?_⟩
            have e1 := ihr _ _ _ _ _ hr
            have e2 := skip_split h2
            conv => lhs; rw [e1, e2]
            simp [textsT, joinC]
          · rw [if_neg h2] at h
            have hb : b1 = false ∧ skipB s1 [44, 32] = true := by
              cases hb : (b1 || !skipB s1 [44, 32]) with
              | true => rw [hb] at h; exact absurd (listF_true h) (by simp)
              | false => simpa using hb
            obtain ⟨rfl, hb⟩ := hb
            obtain ⟨xs, hne, rfl, e5⟩ := ihl _ _ _ _ _ _ _ h
            have e1 := ihr _ _ _ _ _ hr
            have e2 := skip_split hb
            refine ⟨t :: xs, by simp, by simp, ?_⟩
            conv => lhs; rw [e1, e2, e5]
            cases xs with
            | nil => exact absurd rfl hne
            | cons y ys =>
              simp only [textsT]
              rw [joinC_cons2]
              simp

/-- Parse: the type and the error (0: none; 3: too long; 4: no type's text). -/
def parseR (s : List UInt8) (r : Ty × List UInt8 × Bool) : Ty × Int :=
  if r.2.2 = false ∧ r.2.1 = [] ∧ formedB r.1 = true then (r.1, 0) else (.mk 0 [] [] [] 0, 4)
theorem parse_text {t : Ty} (h : formedB t = true) : ∃ f, readF f (textT t) false 0 = some (t, [], false) := by
  rw [formedB, Bool.and_eq_true] at h
  have := reads_back t 0 [] (by simpa using h.1) (.inl rfl)
  simpa using this
theorem text_parse {f : Nat} {s : List UInt8} {t : Ty} (h : readF f s false 0 = some (t, [], false)) : textT t = s := by
  have := (read_text f).1 _ _ _ _ _ h
  simpa using this.symm

end Go.Proofs.YtplnfepdikbpfaaGreatDoor
