/- Plain laws of types with other variables: what is formed, the variables, the normal form. -/
import Derived.Test.YtplnfepdikbpfaaGreatDoorVI
namespace Go.Proofs.YtplnfepdikbpfaaGreatDoor
open Go.RowKit
set_option linter.unusedVariables false
set_option linter.unusedSimpArgs false

theorem partsL_ren (f : Int → Int) {xs : List Ty} (ih : ∀ a ∈ xs, partsT (renT f a) = partsT a) : partsL (renL f xs) = partsL xs := by
  induction xs with
  | nil => simp [renL]
  | cons a xs ih2 => simp only [renL, partsL]; rw [ih a (by simp), ih2 fun b hb => ih b (by simp [hb])]
theorem partsT_ren (f : Int → Int) (t : Ty) : partsT (renT f t) = partsT t := by
  induction t using Ty.ind with
  | h k m n xs v ih => rw [renT_mk]; simp only [partsT]; rw [partsL_ren f ih]
theorem renL_length (f : Int → Int) (xs : List Ty) : (renL f xs).length = xs.length := by rw [renL_map, List.length_map]

/-- All variables of a type are such just if those of its list are. -/
theorem varsL_all {P : Int → Prop} {xs : List Ty} (ih : ∀ a ∈ xs, ∀ l, (∀ v ∈ varsT a l, P v) ↔ allV P a ∧ ∀ v ∈ l, P v) : ∀ l, (∀ v ∈ varsL xs l, P v) ↔ allVL P xs ∧ ∀ v ∈ l, P v := by
  induction xs with
  | nil => intro l; rw [varsL_nil]; simp [allVL]
  | cons a xs ih2 =>
    intro l
    rw [varsL_cons, ih2 (fun b hb => ih b (by simp [hb])), ih a (by simp)]
    simp only [allVL]
    constructor
    · rintro ⟨h1, h2, h3⟩; exact ⟨⟨h2, h1⟩, h3⟩
    · rintro ⟨⟨h2, h1⟩, h3⟩; exact ⟨h1, h2, h3⟩
theorem varsT_all {P : Int → Prop} (t : Ty) : ∀ l, (∀ v ∈ varsT t l, P v) ↔ allV P t ∧ ∀ v ∈ l, P v := by
  induction t using Ty.ind with
  | h k m n xs v ih =>
    intro l
    rw [varsT_mk, varsL_all ih]
    simp only [allV]
    by_cases hk : k = 6
    · cases hc : l.contains v with
      | true =>
        have hm : v ∈ l := by simpa using hc
        rw [if_neg (by simp)]
        constructor
        · rintro ⟨h1, h2⟩; exact ⟨⟨fun _ => h2 v hm, h1⟩, h2⟩
        · rintro ⟨⟨h0, h1⟩, h2⟩; exact ⟨h1, h2⟩
      | false =>
        rw [if_pos ⟨hk, rfl⟩]
        constructor
        · rintro ⟨h1, h2⟩; exact ⟨⟨fun _ => h2 v (by simp), h1⟩, fun x hx => h2 x (by simp [hx])⟩
        · rintro ⟨⟨h0, h1⟩, h2⟩
          refine ⟨h1, fun x hx => ?_⟩
          rcases List.mem_append.1 hx with hx | hx
          · exact h2 x hx
          · rw [List.mem_singleton.1 hx]; exact h0 hk
    · rw [if_neg (fun h => hk h.1)]
      constructor
      · rintro ⟨h1, h2⟩; exact ⟨⟨fun h => absurd h hk, h1⟩, h2⟩
      · rintro ⟨⟨h0, h1⟩, h2⟩; exact ⟨h1, h2⟩
theorem vars_all {P : Int → Prop} (t : Ty) : (∀ v ∈ varsT t [], P v) ↔ allV P t := by rw [varsT_all]; simp

/-- A variable that may be. -/
def InV (v : Int) : Prop := 0 ≤ v ∧ v ≤ 1048576
theorem okL_all {xs : List Ty} (ih : ∀ a ∈ xs, ∀ d, okT a d = true → allV InV a) : ∀ d, okL xs d = true → allVL InV xs := by
  induction xs with
  | nil => intro d _; simp [allVL]
  | cons a xs ih2 =>
    intro d h
    have e : okL (a :: xs) d = (okT a d && okL xs d) := by simp [okL]
    rw [e, Bool.and_eq_true] at h
    simp only [allVL]
    exact ⟨ih a (by simp) d h.1, ih2 (fun b hb => ih b (by simp [hb])) d h.2⟩
theorem okT_all (t : Ty) : ∀ d, okT t d = true → allV InV t := by
  induction t using Ty.ind with
  | h k m n xs v ih =>
    intro d h
    have e : okT (.mk k m n xs v) d = (decide (d ≤ 100) && headB (.mk k m n xs v) && okL xs (d + 1)) := by simp [okT]
    rw [e, Bool.and_eq_true, Bool.and_eq_true] at h
    simp only [allV]
    refine ⟨fun hk => ?_, okL_all ih (d + 1) h.2⟩
    subst hk
    have eh : headB (.mk 6 m n xs v) = ((decide (xs.length = 0) && decide (0 ≤ v) && decide (v ≤ 1048576)) && ((6 : Int) == 4 || (m == [] && n == [])) && ((6 : Int) == 6 || v == 0)) := rfl
    have h2 := h.1.2
    rw [eh, Bool.and_eq_true, Bool.and_eq_true, Bool.and_eq_true, Bool.and_eq_true, decide_eq_true_eq, decide_eq_true_eq] at h2
    exact ⟨h2.1.1.1.2, of_decide_eq_true h2.1.1.2⟩
theorem formed_all {t : Ty} (h : formedB t = true) : allV InV t := by
  unfold formedB at h
  rw [Bool.and_eq_true] at h
  exact okT_all t 1 h.1

theorem okL_ren (f : Int → Int) {xs : List Ty} (ih : ∀ a ∈ xs, ∀ d, allV (fun v => InV (f v)) a → okT a d = true → okT (renT f a) d = true) : ∀ d, allVL (fun v => InV (f v)) xs → okL xs d = true → okL (renL f xs) d = true := by
  induction xs with
  | nil => intro d _ _; simp [renL, okL]
  | cons a xs ih2 =>
    intro d hv h
    have e : okL (a :: xs) d = (okT a d && okL xs d) := by simp [okL]
    have e2 : okL (renL f (a :: xs)) d = (okT (renT f a) d && okL (renL f xs) d) := by simp [renL, okL]
    simp only [allVL] at hv
    rw [e, Bool.and_eq_true] at h
    rw [e2, Bool.and_eq_true]
    exact ⟨ih a (by simp) d hv.1 h.1, ih2 (fun b hb => ih b (by simp [hb])) d hv.2 h.2⟩
def hbN (k : Int) (m n : List UInt8) (len : Nat) (v : Int) : Bool :=
  (if k = 1 ∨ k = 2 ∨ k = 3 then decide (len = 0)
   else if k = 4 then nameB m false && nameB n true && decide (len ≤ 12)
   else if k = 5 then decide (1 ≤ len) && decide (len ≤ 13)
   else if k = 6 then decide (len = 0) && decide (0 ≤ v) && decide (v ≤ 1048576)
   else false) && (k == 4 || (m == [] && n == [])) && (k == 6 || v == 0)
theorem headB_mk (k : Int) (m n : List UInt8) (xs : List Ty) (v : Int) : headB (.mk k m n xs v) = hbN k m n xs.length v := rfl
theorem headB_ren (f : Int → Int) (k : Int) (m n : List UInt8) (xs : List Ty) (v : Int) (hv : k = 6 → InV (f v)) (h : headB (.mk k m n xs v) = true) : headB (renT f (.mk k m n xs v)) = true := by
  rw [renT_mk, headB_mk, renL_length]
  rw [headB_mk] at h
  by_cases hk : k = 6
  · subst hk
    obtain ⟨h1, h2⟩ := hv rfl
    unfold hbN at h ⊢
    simp at h ⊢
    exact ⟨⟨⟨h.1.1.1, h1⟩, h2⟩, h.2⟩
  · rw [if_neg hk]
    exact h
theorem okT_ren (f : Int → Int) (t : Ty) : ∀ d, allV (fun v => InV (f v)) t → okT t d = true → okT (renT f t) d = true := by
  induction t using Ty.ind with
  | h k m n xs v ih =>
    intro d hv h
    have e : okT (.mk k m n xs v) d = (decide (d ≤ 100) && headB (.mk k m n xs v) && okL xs (d + 1)) := by simp [okT]
    have e2 : okT (renT f (.mk k m n xs v)) d = (decide (d ≤ 100) && headB (renT f (.mk k m n xs v)) && okL (renL f xs) (d + 1)) := by rw [renT_mk]; simp [okT]
    simp only [allV] at hv
    rw [e, Bool.and_eq_true, Bool.and_eq_true] at h
    rw [e2, Bool.and_eq_true, Bool.and_eq_true]
    exact ⟨⟨h.1.1, headB_ren f k m n xs v hv.1 h.1.2⟩, okL_ren f ih (d + 1) hv.2 h.2⟩
theorem formed_ren (f : Int → Int) {t : Ty} (hv : allV (fun v => InV (f v)) t) (h : formedB t = true) : formedB (renT f t) = true := by
  unfold formedB at h ⊢
  rw [Bool.and_eq_true] at h ⊢
  exact ⟨okT_ren f t 1 hv h.1, by rw [partsT_ren]; exact h.2⟩

/-- The variables of a type with other variables. -/
theorem contains_map {f : Int → Int} (hf : ∀ x y, f x = f y → x = y) (l : List Int) (v : Int) : (l.map f).contains (f v) = l.contains v := by
  rw [Bool.eq_iff_iff]
  simp only [List.contains_iff_mem, List.mem_map]
  exact ⟨fun ⟨x, hx, e⟩ => hf x v e ▸ hx, fun h => ⟨v, h, rfl⟩⟩
theorem varsL_ren {f : Int → Int} {xs : List Ty} (ih : ∀ a ∈ xs, ∀ l, varsT (renT f a) (l.map f) = (varsT a l).map f) : ∀ l, varsL (renL f xs) (l.map f) = (varsL xs l).map f := by
  induction xs with
  | nil => intro l; rw [renL, varsL_nil, varsL_nil]
  | cons a xs ih2 => intro l; rw [renL, varsL_cons, varsL_cons, ih a (by simp), ih2 fun b hb => ih b (by simp [hb])]
theorem varsT_ren {f : Int → Int} (hf : ∀ x y, f x = f y → x = y) (t : Ty) : ∀ l, varsT (renT f t) (l.map f) = (varsT t l).map f := by
  induction t using Ty.ind with
  | h k m n xs v ih =>
    intro l
    rw [renT_mk, varsT_mk, varsT_mk, ← varsL_ren ih]
    congr 1
    by_cases hk : k = 6
    · rw [if_pos hk, contains_map hf]
      by_cases hc : l.contains v = false
      · rw [if_pos ⟨hk, hc⟩, if_pos ⟨hk, hc⟩]; simp
      · rw [if_neg (fun h => hc h.2), if_neg (fun h => hc h.2)]
    · rw [if_neg (fun h => hk h.1), if_neg (fun h => hk h.1)]
theorem vars_ren {f : Int → Int} (hf : ∀ x y, f x = f y → x = y) (t : Ty) : varsT (renT f t) [] = (varsT t []).map f := by
  have := varsT_ren hf t []
  simpa using this

theorem renL_ren (f g : Int → Int) {xs : List Ty} (ih : ∀ a ∈ xs, renT g (renT f a) = renT (fun v => g (f v)) a) : renL g (renL f xs) = renL (fun v => g (f v)) xs := by
  induction xs with
  | nil => simp [renL]
  | cons a xs ih2 => simp only [renL]; rw [ih a (by simp), ih2 fun b hb => ih b (by simp [hb])]
theorem renT_ren (f g : Int → Int) (t : Ty) : renT g (renT f t) = renT (fun v => g (f v)) t := by
  induction t using Ty.ind with
  | h k m n xs v ih =>
    rw [renT_mk, renT_mk, renT_mk, renL_ren f g ih]
    by_cases hk : k = 6
    · simp [hk]
    · simp [hk]
theorem renL_congr {f g : Int → Int} {P : Int → Prop} (h : ∀ v, P v → f v = g v) {xs : List Ty} (ih : ∀ a ∈ xs, allV P a → renT f a = renT g a) : allVL P xs → renL f xs = renL g xs := by
  induction xs with
  | nil => intro _; simp [renL]
  | cons a xs ih2 =>
    intro hv
    simp only [allVL] at hv
    simp only [renL]
    rw [ih a (by simp) hv.1, ih2 (fun b hb => ih b (by simp [hb])) hv.2]
theorem renT_congr {f g : Int → Int} {P : Int → Prop} (h : ∀ v, P v → f v = g v) (t : Ty) : allV P t → renT f t = renT g t := by
  induction t using Ty.ind with
  | h k m n xs v ih =>
    intro hv
    simp only [allV] at hv
    rw [renT_mk, renT_mk, renL_congr h ih hv.2]
    by_cases hk : k = 6
    · rw [if_pos hk, if_pos hk, h v (hv.1 hk)]
    · rw [if_neg hk, if_neg hk]

/-- The normal form of a type. -/
def normT (t : Ty) : Ty := renT (fun v => Lib.idxOf (varsT t []) v) t
theorem sortI_map (a : Int) (l : List Int) : sortI (l.map (· + a)) = (sortI l).map (· + a) := by
  unfold sortI
  exact (List.map_mergeSort (fun x _ y _ => by simp)).symm
theorem varsV_add (a : Int) (t : Ty) : varsV (renT (· + a) t) = (varsV t).map (· + a) := by
  unfold varsV
  rw [vars_ren (fun x y h => by omega) t, sortI_map]
theorem mem_varsV {t : Ty} {v : Int} : v ∈ varsV t ↔ v ∈ varsT t [] := by
  unfold varsV sortI
  exact List.mem_mergeSort

theorem idxFrom_map {f : Int → Int} (hf : ∀ x y, f x = f y → x = y) (v : Int) : ∀ (l : List Int) (i : Nat), Lib.idxFrom (l.map f) (f v) i = Lib.idxFrom l v i
  | [], i => rfl
  | z :: l, i => by
    simp only [List.map_cons, Lib.idxFrom]
    by_cases h : z = v
    · rw [if_pos (congrArg f h), if_pos h]
    · rw [if_neg (fun e => h (hf _ _ e)), if_neg h, idxFrom_map hf v l (i + 1)]
theorem idxFrom_in (v : Int) : ∀ (l : List Int) (i : Nat), v ∈ l → (i : Int) ≤ Lib.idxFrom l v i ∧ Lib.idxFrom l v i < i + l.length
  | [], i, h => by simp at h
  | z :: l, i, h => by
    simp only [Lib.idxFrom]
    by_cases e : z = v
    · rw [if_pos e]; simp; omega
    · rw [if_neg e]
      have h2 : v ∈ l := by
        rcases List.mem_cons.1 h with h | h
        · exact absurd h.symm e
        · exact h
      have h3 := idxFrom_in v l (i + 1) h2
      simp only [List.length_cons]
      omega
/-- The normal form does not see other variables. -/
theorem normT_add (a : Int) (t : Ty) : normT (renT (· + a) t) = normT t := by
  unfold normT
  rw [renT_ren, vars_ren (fun x y h => by omega) t]
  congr 1
  funext v
  exact idxFrom_map (f := (· + a)) (fun x y h => by omega) v _ 0

end Go.Proofs.YtplnfepdikbpfaaGreatDoor
