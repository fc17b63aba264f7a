/- Plain laws of types with other variables: what is formed, the variables, the normal form. Formed types and solved substitutions against the theory of the Store: a solved substitution is the most general one of what its pairs ask; what Unify answers is solved. Plain. No condition. Which type is more general than which; normal forms; what follows of what Unify answers. Plain. No condition. -/
import Derived.Test.YtplnfepdikbpfaaGreatDoorVI
import Derived.Test.YtplnfepdikbpfaaGreatDoorHA
import Derived.Test.YtplnfepdikbpfaaGreatDoorST15
namespace Go.Proofs.YtplnfepdikbpfaaGreatDoor
open Go.RowKit
set_option linter.unusedVariables false
set_option linter.unusedSimpArgs false

theorem partsL_ren (f : Int → Int) {xs : List Ty} (ih : ∀ a ∈ xs, partsT (renT f a) = partsT a) : partsL (renL f xs) = partsL xs := by
  induction xs with
  | nil => simp [renL]
  | cons a xs ih2 => simp only [renL, partsL]; rw [ih a (by simp), ih2 fun b hb => ih b (by simp [hb])]
theorem partsT_ren (f : Int → Int) (t : Ty) : partsT (renT f t) = partsT t := by
  induction t using Ty.ind with
  | h k m n xs v ih => rw [renT_mk]; simp only [partsT]; rw [partsL_ren f ih]
theorem renL_length (f : Int → Int) (xs : List Ty) : (renL f xs).length = xs.length := by rw [renL_map, List.length_map]

/-- All variables of a type are such just if those of its list are. -/
theorem varsL_all {P : Int → Prop} {xs : List Ty} (ih : ∀ a ∈ xs, ∀ l, (∀ v ∈ varsT a l, P v) ↔ allV P a ∧ ∀ v ∈ l, P v) : ∀ l, (∀ v ∈ varsL xs l, P v) ↔ allVL P xs ∧ ∀ v ∈ l, P v := by
  induction xs with
  | nil => intro l; rw [varsL_nil]; simp [allVL]
  | cons a xs ih2 =>
    intro l
    rw [varsL_cons, ih2 (fun b hb => ih b (by simp [hb])), ih a (by simp)]
    simp only [allVL]
    constructor
    · rintro ⟨h1, h2, h3⟩; exact ⟨⟨h2, h1⟩, h3⟩
    · rintro ⟨⟨h2, h1⟩, h3⟩; exact ⟨h1, h2, h3⟩
theorem varsT_all {P : Int → Prop} (t : Ty) : ∀ l, (∀ v ∈ varsT t l, P v) ↔ allV P t ∧ ∀ v ∈ l, P v := by
  induction t using Ty.ind with
  | h k m n xs v ih =>
    intro l
    rw [varsT_mk, varsL_all ih]
    simp only [allV]
    by_cases hk : k = 6
    · cases hc : l.contains v with
      | true =>
        have hm : v ∈ l := by simpa using hc
        rw [if_neg (by simp)]
        constructor
        · rintro ⟨h1, h2⟩; exact ⟨⟨fun _ => h2 v hm, h1⟩, h2⟩
        · rintro ⟨⟨h0, h1⟩, h2⟩; exact ⟨h1, h2⟩
      | false =>
        rw [if_pos ⟨hk, rfl⟩]
        constructor
        · rintro ⟨h1, h2⟩; exact ⟨⟨fun _ => h2 v (by simp), h1⟩, fun x hx => h2 x (by simp [hx])⟩
        · rintro ⟨⟨h0, h1⟩, h2⟩
          refine ⟨h1, fun x hx => ?_⟩
          rcases List.mem_append.1 hx with hx | hx
          · exact h2 x hx
          · rw [List.mem_singleton.1 hx]; exact h0 hk
    · rw [if_neg (fun h => hk h.1)]
      constructor
      · rintro ⟨h1, h2⟩; exact ⟨⟨fun h => absurd h hk, h1⟩, h2⟩
      · rintro ⟨⟨h0, h1⟩, h2⟩; exact ⟨h1, h2⟩
theorem vars_all {P : Int → Prop} (t : Ty) : (∀ v ∈ varsT t [], P v) ↔ allV P t := by rw [varsT_all]; simp

/-- A variable that may be. -/
def InV (v : Int) : Prop := 0 ≤ v ∧ v ≤ 1048576
theorem okL_all {xs : List Ty} (ih : ∀ a ∈ xs, ∀ d, okT a d = true → allV InV a) : ∀ d, okL xs d = true → allVL InV xs := by
  induction xs with
  | nil => intro d _; simp [allVL]
  | cons a xs ih2 =>
    intro d h
    have e : okL (a :: xs) d = (okT a d && okL xs d) := by simp [okL]
    rw [e, Bool.and_eq_true] at h
    simp only [allVL]
    exact ⟨ih a (by simp) d h.1, ih2 (fun b hb => ih b (by simp [hb])) d h.2⟩
theorem okT_all (t : Ty) : ∀ d, okT t d = true → allV InV t := by
  induction t using Ty.ind with
  | h k m n xs v ih =>
    intro d h
    have e : okT (.mk k m n xs v) d = (decide (d ≤ 100) && headB (.mk k m n xs v) && okL xs (d + 1)) := by simp [okT]
    rw [e, Bool.and_eq_true, Bool.and_eq_true] at h
    simp only [allV]
    refine ⟨fun hk => ?_, okL_all ih (d + 1) h.2⟩
    subst hk
    have eh : headB (.mk 6 m n xs v) = ((decide (xs.length = 0) && decide (0 ≤ v) && decide (v ≤ 1048576)) && ((6 : Int) == 4 || (m == [] && n == [])) && ((6 : Int) == 6 || v == 0)) := rfl
    have h2 := h.1.2
    rw [eh, Bool.and_eq_true, Bool.and_eq_true, Bool.and_eq_true, Bool.and_eq_true, decide_eq_true_eq, decide_eq_true_eq] at h2
    exact ⟨h2.1.1.1.2, of_decide_eq_true h2.1.1.2⟩
theorem formed_all {t : Ty} (h : formedB t = true) : allV InV t := by
  unfold formedB at h
  rw [Bool.and_eq_true] at h
  exact okT_all t 1 h.1

theorem okL_ren (f : Int → Int) {xs : List Ty} (ih : ∀ a ∈ xs, ∀ d, allV (fun v => InV (f v)) a → okT a d = true → okT (renT f a) d = true) : ∀ d, allVL (fun v => InV (f v)) xs → okL xs d = true → okL (renL f xs) d = true := by
  induction xs with
  | nil => intro d _ _; simp [renL, okL]
  | cons a xs ih2 =>
    intro d hv h
    have e : okL (a :: xs) d = (okT a d && okL xs d) := by simp [okL]
    have e2 : okL (renL f (a :: xs)) d = (okT (renT f a) d && okL (renL f xs) d) := by simp [renL, okL]
    simp only [allVL] at hv
    rw [e, Bool.and_eq_true] at h
    rw [e2, Bool.and_eq_true]
    exact ⟨ih a (by simp) d hv.1 h.1, ih2 (fun b hb => ih b (by simp [hb])) d hv.2 h.2⟩
def hbN (k : Int) (m n : List UInt8) (len : Nat) (v : Int) : Bool :=
  (if k = 1 ∨ k = 2 ∨ k = 3 then decide (len = 0)
   else if k = 4 then nameB m false && nameB n true && decide (len ≤ 12)
   else if k = 5 then decide (1 ≤ len) && decide (len ≤ 13)
   else if k = 6 then decide (len = 0) && decide (0 ≤ v) && decide (v ≤ 1048576)
   else false) && (k == 4 || (m == [] && n == [])) && (k == 6 || v == 0)
theorem headB_mk (k : Int) (m n : List UInt8) (xs : List Ty) (v : Int) : headB (.mk k m n xs v) = hbN k m n xs.length v := rfl
theorem headB_ren (f : Int → Int) (k : Int) (m n : List UInt8) (xs : List Ty) (v : Int) (hv : k = 6 → InV (f v)) (h : headB (.mk k m n xs v) = true) : headB (renT f (.mk k m n xs v)) = true := by
  rw [renT_mk, headB_mk, renL_length]
  rw [headB_mk] at h
  by_cases hk : k = 6
  · subst hk
    obtain ⟨h1, h2⟩ := hv rfl
    unfold hbN at h ⊢
    simp at h ⊢
    exact ⟨⟨⟨h.1.1.1, h1⟩, h2⟩, h.2⟩
  · rw [if_neg hk]
    exact h
theorem okT_ren (f : Int → Int) (t : Ty) : ∀ d, allV (fun v => InV (f v)) t → okT t d = true → okT (renT f t) d = true := by
  induction t using Ty.ind with
  | h k m n xs v ih =>
    intro d hv h
    have e : okT (.mk k m n xs v) d = (decide (d ≤ 100) && headB (.mk k m n xs v) && okL xs (d + 1)) := by simp [okT]
    have e2 : okT (renT f (.mk k m n xs v)) d = (decide (d ≤ 100) && headB (renT f (.mk k m n xs v)) && okL (renL f xs) (d + 1)) := by rw [renT_mk]; simp [okT]
    simp only [allV] at hv
    rw [e, Bool.and_eq_true, Bool.and_eq_true] at h
    rw [e2, Bool.and_eq_true, Bool.and_eq_true]
    exact ⟨⟨h.1.1, headB_ren f k m n xs v hv.1 h.1.2⟩, okL_ren f ih (d + 1) hv.2 h.2⟩
theorem formed_ren (f : Int → Int) {t : Ty} (hv : allV (fun v => InV (f v)) t) (h : formedB t = true) : formedB (renT f t) = true := by
  unfold formedB at h ⊢
  rw [Bool.and_eq_true] at h ⊢
  exact ⟨okT_ren f t 1 hv h.1, by rw [partsT_ren]; exact h.2⟩

/-- The variables of a type with other variables. -/
theorem contains_map {f : Int → Int} (hf : ∀ x y, f x = f y → x = y) (l : List Int) (v : Int) : (l.map f).contains (f v) = l.contains v := by
  rw [Bool.eq_iff_iff]
  simp only [List.contains_iff_mem, List.mem_map]
  exact ⟨fun ⟨x, hx, e⟩ => hf x v e ▸ hx, fun h => ⟨v, h, rfl⟩⟩
theorem varsL_ren {f : Int → Int} {xs : List Ty} (ih : ∀ a ∈ xs, ∀ l, varsT (renT f a) (l.map f) = (varsT a l).map f) : ∀ l, varsL (renL f xs) (l.map f) = (varsL xs l).map f := by
  induction xs with
  | nil => intro l; rw [renL, varsL_nil, varsL_nil]
  | cons a xs ih2 => intro l; rw [renL, varsL_cons, varsL_cons, ih a (by simp), ih2 fun b hb => ih b (by simp [hb])]
theorem varsT_ren {f : Int → Int} (hf : ∀ x y, f x = f y → x = y) (t : Ty) : ∀ l, varsT (renT f t) (l.map f) = (varsT t l).map f := by
  induction t using Ty.ind with
  | h k m n xs v ih =>
    intro l
    rw [renT_mk, varsT_mk, varsT_mk, ← varsL_ren ih]
    congr 1
    by_cases hk : k = 6
    · rw [if_pos hk, contains_map hf]
      by_cases hc : l.contains v = false
      · rw [if_pos ⟨hk, hc⟩, if_pos ⟨hk, hc⟩]; simp
      · rw [if_neg (fun h => hc h.2), if_neg (fun h => hc h.2)]
    · rw [if_neg (fun h => hk h.1), if_neg (fun h => hk h.1)]
theorem vars_ren {f : Int → Int} (hf : ∀ x y, f x = f y → x = y) (t : Ty) : varsT (renT f t) [] = (varsT t []).map f := by
  have := varsT_ren hf t []
  simpa using this

theorem renL_ren (f g : Int → Int) {xs : List Ty} (ih : ∀ a ∈ xs, renT g (renT f a) = renT (fun v => g (f v)) a) : renL g (renL f xs) = renL (fun v => g (f v)) xs := by
  induction xs with
  | nil => simp [renL]
  | cons a xs ih2 => simp only [renL]; rw [ih a (by simp), ih2 fun b hb => ih b (by simp [hb])]
theorem renT_ren (f g : Int → Int) (t : Ty) : renT g (renT f t) = renT (fun v => g (f v)) t := by
  induction t using Ty.ind with
  | h k m n xs v ih =>
    rw [renT_mk, renT_mk, renT_mk, renL_ren f g ih]
    by_cases hk : k = 6
    · simp [hk]
    · simp [hk]
theorem renL_congr {f g : Int → Int} {P : Int → Prop} (h : ∀ v, P v → f v = g v) {xs : List Ty} (ih : ∀ a ∈ xs, allV P a → renT f a = renT g a) : allVL P xs → renL f xs = renL g xs := by
  induction xs with
  | nil => intro _; simp [renL]
  | cons a xs ih2 =>
    intro hv
    simp only [allVL] at hv
    simp only [renL]
    rw [ih a (by simp) hv.1, ih2 (fun b hb => ih b (by simp [hb])) hv.2]
theorem renT_congr {f g : Int → Int} {P : Int → Prop} (h : ∀ v, P v → f v = g v) (t : Ty) : allV P t → renT f t = renT g t := by
  induction t using Ty.ind with
  | h k m n xs v ih =>
    intro hv
    simp only [allV] at hv
    rw [renT_mk, renT_mk, renL_congr h ih hv.2]
    by_cases hk : k = 6
    · rw [if_pos hk, if_pos hk, h v (hv.1 hk)]
    · rw [if_neg hk, if_neg hk]

/-- The normal form of a type. -/
def normT (t : Ty) : Ty := renT (fun v => Lib.idxOf (varsT t []) v) t
theorem sortI_map (a : Int) (l : List Int) : sortI (l.map (· + a)) = (sortI l).map (· + a) := by
  unfold sortI
  exact (List.map_mergeSort (fun x _ y _ => by simp)).symm
theorem varsV_add (a : Int) (t : Ty) : varsV (renT (· + a) t) = (varsV t).map (· + a) := by
  unfold varsV
  rw [vars_ren (fun x y h => by omega) t, sortI_map]
theorem mem_varsV {t : Ty} {v : Int} : v ∈ varsV t ↔ v ∈ varsT t [] := by
  unfold varsV sortI
  exact List.mem_mergeSort

theorem idxFrom_map {f : Int → Int} (hf : ∀ x y, f x = f y → x = y) (v : Int) : ∀ (l : List Int) (i : Nat), Lib.idxFrom (l.map f) (f v) i = Lib.idxFrom l v i
  | [], i => rfl
  | z :: l, i => by
    simp only [List.map_cons, Lib.idxFrom]
    by_cases h : z = v
    · rw [if_pos (congrArg f h), if_pos h]
    · rw [if_neg (fun e => h (hf _ _ e)), if_neg h, idxFrom_map hf v l (i + 1)]
theorem idxFrom_in (v : Int) : ∀ (l : List Int) (i : Nat), v ∈ l → (i : Int) ≤ Lib.idxFrom l v i ∧ Lib.idxFrom l v i < i + l.length
  | [], i, h => by simp at h
  | z :: l, i, h => by
    simp only [Lib.idxFrom]
    by_cases e : z = v
    · rw [if_pos e]; simp; omega
    · rw [if_neg e]
      have h2 : v ∈ l := by
        rcases List.mem_cons.1 h with h | h
        · exact absurd h.symm e
        · exact h
      have h3 := idxFrom_in v l (i + 1) h2
      simp only [List.length_cons]
      omega
/-- The normal form does not see other variables. -/
theorem normT_add (a : Int) (t : Ty) : normT (renT (· + a) t) = normT t := by
  unfold normT
  rw [renT_ren, vars_ren (fun x y h => by omega) t]
  congr 1
  funext v
  exact idxFrom_map (f := (· + a)) (fun x y h => by omega) v _ 0

end Go.Proofs.YtplnfepdikbpfaaGreatDoor

namespace Go.Proofs.YtplnfepdikbpfaaGreatDoor
set_option linter.unusedVariables false
set_option linter.unusedSimpArgs false

theorem okT_mk (k : Int) (m n : List UInt8) (xs : List Ty) (v d : Int) : okT (.mk k m n xs v) d = (decide (d ≤ 100) && headB (.mk k m n xs v) && okL xs (d + 1)) := by simp [okT]
theorem okL_iff {xs : List Ty} {d : Int} : okL xs d = true ↔ ∀ a ∈ xs, okT a d = true := by
  induction xs with
  | nil => simp [okL]
  | cons a xs ih => simp [okL, ih]
theorem headB_var {m n : List UInt8} {xs : List Ty} {v : Int} (h : headB (.mk 6 m n xs v) = true) : m = [] ∧ n = [] ∧ xs = [] ∧ 0 ≤ v ∧ v ≤ 1048576 := by
  have h2 := hdOk_of (kids := List.replicate xs.length 0) h (by simp)
  obtain ⟨a, b, c, d⟩ := hdOk_var h2 rfl
  refine ⟨a, b, ?_, d⟩
  have c := congrArg List.length c
  simp at c
  exact List.eq_nil_of_length_eq_zero (by simpa using c)
/-! All heads may be. -/
mutual
def hdAll : Ty → Bool
  | .mk k m n xs v => headB (.mk k m n xs v) && hdAllL xs
def hdAllL : List Ty → Bool
  | [] => true
  | a :: xs => hdAll a && hdAllL xs
end
theorem hdAllL_iff {xs : List Ty} : hdAllL xs = true ↔ ∀ a ∈ xs, hdAll a = true := by
  induction xs with
  | nil => simp [hdAllL]
  | cons a xs ih => simp [hdAllL, ih]
theorem hdAll_mk (k : Int) (m n : List UInt8) (xs : List Ty) (v : Int) : hdAll (.mk k m n xs v) = true ↔ headB (.mk k m n xs v) = true ∧ ∀ a ∈ xs, hdAll a = true := by rw [hdAll, Bool.and_eq_true, hdAllL_iff]
theorem dpL_le {xs : List Ty} {n : Nat} : dpL xs ≤ n ↔ ∀ a ∈ xs, dpT a ≤ n := by
  induction xs with
  | nil => simp [dpL]
  | cons a xs ih => simp only [dpL, Nat.max_le, ih, List.mem_cons, forall_eq_or_imp]
theorem okT_iff (t : Ty) : ∀ d : Int, okT t d = true ↔ hdAll t = true ∧ (dpT t : Int) + d ≤ 101 := by
  induction t using Ty.ind with
  | h k m n xs v ih =>
    intro d
    rw [okT_mk, Bool.and_eq_true, Bool.and_eq_true, decide_eq_true_eq, okL_iff, hdAll_mk]
    have ed : dpT (.mk k m n xs v) = 1 + dpL xs := by simp [dpT]
    rw [ed]
    constructor
    · rintro ⟨⟨h1, h2⟩, h3⟩
      refine ⟨⟨h2, fun a ha => ((ih a ha _).1 (h3 a ha)).1⟩, ?_⟩
      have : dpL xs ≤ (100 - d).toNat := dpL_le.2 fun a ha => by have := ((ih a ha _).1 (h3 a ha)).2; omega
      omega
    · rintro ⟨⟨h1, h2⟩, h3⟩
      refine ⟨⟨by omega, h1⟩, fun a ha => (ih a ha _).2 ⟨h2 a ha, ?_⟩⟩
      have : dpT a ≤ dpL xs := dpL_le.1 (Nat.le_refl _) a ha
      omega
theorem formed_iff (t : Ty) : formedB t = true ↔ hdAll t = true ∧ fitT t := by
  unfold formedB fitT
  rw [Bool.and_eq_true, decide_eq_true_eq, okT_iff]
  constructor
  · rintro ⟨⟨h1, h2⟩, h3⟩; exact ⟨h1, h3, by omega⟩
  · rintro ⟨h1, h2, h3⟩; exact ⟨⟨h1, by omega⟩, h2⟩
theorem cln_of_hd (t : Ty) : hdAll t = true → clnT t := by
  induction t using Ty.ind with
  | h k m n xs v ih =>
    intro h
    rw [hdAll_mk] at h
    rw [clnT_mk]
    refine ⟨fun e => ?_, fun a ha => ih a ha (h.2 a ha)⟩
    subst e
    obtain ⟨a, b, c, -⟩ := headB_var h.1
    exact ⟨a, b, c⟩
theorem formed_cln {t : Ty} (h : formedB t = true) : clnT t := cln_of_hd t ((formed_iff t).1 h).1
theorem formed_fit {t : Ty} (h : formedB t = true) : fitT t := ((formed_iff t).1 h).2
theorem formed_ok {t : Ty} (h : formedB t = true) : okT t 1 = true := by unfold formedB at h; rw [Bool.and_eq_true] at h; exact h.1
theorem hd_vTy {v : Int} (h0 : 0 ≤ v) (h1 : v ≤ 1048576) : hdAll (vTy v) = true := by
  rw [hdAll_mk, headB_hdN]
  exact ⟨by simp [hdN, h0, h1], fun a ha => by cases ha⟩
theorem ok_vTy {v : Int} (h0 : 0 ≤ v) (h1 : v ≤ 1048576) : okT (vTy v) 1 = true := (okT_iff _ _).2 ⟨hd_vTy h0 h1, by simp [dpT, dpL]⟩
theorem fit_vTy (v : Int) : fitT (vTy v) := by unfold fitT; simp [partsT, partsL, dpT, dpL]

/-- Is such a variable in the type? -/
def occ (u : Int) : Ty → Prop := fun t => ¬ allV (fun v => v ≠ u) t
theorem allV_mk (P : Int → Prop) (k : Int) (m n : List UInt8) (xs : List Ty) (v : Int) : allV P (.mk k m n xs v) ↔ (k = 6 → P v) ∧ ∀ a ∈ xs, allV P a := by
  rw [allV]
  have : allVL P xs ↔ ∀ a ∈ xs, allV P a := by
    induction xs with
    | nil => simp [allVL]
    | cons a xs ih => simp [allVL, ih]
  rw [this]
theorem allV_imp {P Q : Int → Prop} (h : ∀ v, P v → Q v) (t : Ty) : allV P t → allV Q t := by
  induction t using Ty.ind with
  | h k m n xs v ih =>
    rw [allV_mk, allV_mk]
    rintro ⟨h1, h2⟩
    exact ⟨fun e => h v (h1 e), fun a ha => ih a ha (h2 a ha)⟩
/-- Values hang on the type's variables alone. -/
theorem ev_agree (A : Alg) {τ τ' : Int → A.T} (t : Ty) (h : allV (fun v => τ v = τ' v) t) : ev A τ t = ev A τ' t := by
  induction t using Ty.ind with
  | h k m n xs v ih =>
    rw [allV_mk] at h
    rw [ev_mk, ev_mk]
    by_cases hk : k = 6
    · rw [if_pos hk, if_pos hk]; exact h.1 hk
    · rw [if_neg hk, if_neg hk]
      congr 1
      exact List.map_congr_left fun a ha => ih a ha (h.2 a ha)
theorem ev_vTy (t : Ty) (h : clnT t) : ev TyA vTy t = t := by
  induction t using Ty.ind with
  | h k m n xs v ih =>
    rw [clnT_mk] at h
    rw [ev_mk]
    by_cases hk : k = 6
    · rw [if_pos hk]
      obtain ⟨rfl, rfl, rfl⟩ := h.1 hk
      rw [hk]
    · rw [if_neg hk]
      show Ty.mk k m n _ v = _
      congr 1
      conv => rhs; rw [← List.map_id xs]
      exact List.map_congr_left fun a ha => ih a ha (h.2 a ha)
/-- A type that a substitution leaves as it is: its variables are left as they are. -/
theorem ev_fix {θ : Int → Ty} (t : Ty) (hc : clnT t) (h : ev TyA θ t = t) : allV (fun v => θ v = vTy v) t := by
  induction t using Ty.ind with
  | h k m n xs v ih =>
    rw [clnT_mk] at hc
    rw [allV_mk]
    rw [ev_mk] at h
    by_cases hk : k = 6
    · rw [if_pos hk] at h
      obtain ⟨rfl, rfl, rfl⟩ := hc.1 hk
      subst hk
      exact ⟨fun _ => h, fun a ha => by cases ha⟩
    · rw [if_neg hk] at h
      have h2 : Ty.mk k m n (xs.map (ev TyA θ)) v = .mk k m n xs v := h
      injection h2 with _ _ _ h3 _
      refine ⟨fun e => absurd e hk, fun a ha => ih a ha (hc.2 a ha) ?_⟩
      obtain ⟨i, hi, rfl⟩ := List.getElem_of_mem ha
      have e := congrArg (·[i]?) h3
      simpa [List.getElem?_map, List.getElem?_eq_getElem hi] using e
theorem bnd_iff {L : List (Int × Ty)} (t : Ty) (hc : clnT t) : bndT L t = false ↔ allV (fun v => hasB L v = false) t := by
  induction t using Ty.ind with
  | h k m n xs v ih =>
    rw [clnT_mk] at hc
    rw [bndT_mk, allV_mk]
    by_cases hk : k = 6
    · rw [if_pos hk]
      obtain ⟨rfl, rfl, rfl⟩ := hc.1 hk
      simp [hk]
    · rw [if_neg hk]
      have : ∀ ys : List Ty, bndL L ys = false ↔ ∀ a ∈ ys, bndT L a = false := fun ys => by
        induction ys with
        | nil => simp [bndL]
        | cons a ys ih2 => simp [bndL, ih2]
      rw [this]
      constructor
      · intro h; exact ⟨fun e => absurd e hk, fun a ha => (ih a ha (hc.2 a ha)).1 (h a ha)⟩
      · rintro ⟨-, h⟩ a ha; exact (ih a ha (hc.2 a ha)).2 (h a ha)
/-- The variables' list tells whether one has a pair. -/
theorem any_bnd {L : List (Int × Ty)} {t : Ty} (hc : clnT t) : (varsT t []).any (hasB L) = bndT L t := by
  have h1 : (varsT t []).any (hasB L) = false ↔ bndT L t = false := by
    rw [bnd_iff t hc, ← vars_all, List.any_eq_false]
    simp
  cases h2 : bndT L t with
  | false => exact h1.2 h2
  | true =>
    cases h3 : (varsT t []).any (hasB L) with
    | true => rfl
    | false => rw [h1.1 h3] at h2; cases h2

/-! ### Pairs as a substitution -/
def appB (L : List (Int × Ty)) (v : Int) : Ty := match L.find? (fun x => x.1 == v) with | some x => x.2 | none => vTy v
theorem appB_no {L : List (Int × Ty)} {v : Int} (h : hasB L v = false) : appB L v = vTy v := by
  unfold appB
  have : L.find? (fun x => x.1 == v) = none := by
    rw [List.find?_eq_none]
    intro x hx
    have := List.any_eq_false.1 h x hx
    simpa using this
  rw [this]
theorem appB_cases (L : List (Int × Ty)) (v : Int) : appB L v = vTy v ∨ (v, appB L v) ∈ L := by
  unfold appB
  cases h : L.find? (fun x => x.1 == v) with
  | none => exact .inl rfl
  | some x =>
    right
    have h1 := List.mem_of_find?_eq_some h
    have h2 := List.find?_some h
    simp only [beq_iff_eq] at h2
    rw [← h2]; exact h1
theorem rising_pairwise {L : List (Int × Ty)} (h : Rising L) : L.Pairwise fun a b => a.1 < b.1 := by
  rw [List.pairwise_iff_getElem]
  intro i j hi hj hij
  have := h i j hij hj
  simpa [keyB, List.getD_eq_getElem?_getD, List.getElem?_eq_getElem hi, List.getElem?_eq_getElem hj] using this
theorem rising_one {L : List (Int × Ty)} (h : L.Pairwise fun a b => a.1 < b.1) {x y : Int × Ty} (hx : x ∈ L) (hy : y ∈ L) (e : x.1 = y.1) : x = y := by
  induction L with
  | nil => cases hx
  | cons a L ih =>
    rw [List.pairwise_cons] at h
    rcases List.mem_cons.1 hx with rfl | hx2 <;> rcases List.mem_cons.1 hy with rfl | hy2
    · rfl
    · have := h.1 y hy2; omega
    · have := h.1 x hx2; omega
    · exact ih h.2 hx2 hy2
theorem appB_mem {L : List (Int × Ty)} (h : L.Pairwise fun a b => a.1 < b.1) {x : Int × Ty} (hx : x ∈ L) : appB L x.1 = x.2 := by
  rcases appB_cases L x.1 with e | e
  · have : hasB L x.1 = true := List.any_eq_true.2 ⟨x, hx, by simp⟩
    unfold appB at e ⊢
    cases hf : L.find? (fun y => y.1 == x.1) with
    | none =>
      rw [List.find?_eq_none] at hf
      exact absurd (by simp) (hf x hx)
    | some y =>
      have h1 := List.mem_of_find?_eq_some hf
      have h2 := List.find?_some hf
      simp only [beq_iff_eq] at h2
      rw [rising_one h h1 hx h2]
  · have := rising_one h e hx rfl
    rw [← this]
/-- What a solved substitution is, pair by pair. -/
structure Slv (L : List (Int × Ty)) : Prop where
  up : L.Pairwise fun a b => a.1 < b.1
  ok : ∀ x ∈ L, (0 ≤ x.1 ∧ x.1 ≤ 1048576) ∧ formedB x.2 = true
  no : ∀ x ∈ L, allV (fun v => hasB L v = false) x.2
  least : ∀ x ∈ L, ∀ u, x.2 = vTy u → u < x.1
theorem slv_iff (L : List (Int × Ty)) : solvedB L = true ↔ Slv L := by
  have at_ : ∀ i, (h : i < L.length) → keyB L i = L[i].1 ∧ typB L i = L[i].2 := fun i h => by
    simp [keyB, typB, List.getD_eq_getElem?_getD, List.getElem?_eq_getElem h]
  constructor
  · intro h
    obtain ⟨h1, h2, h3⟩ := solved_formed h
    refine ⟨rising_pairwise h1, fun x hx => ?_, fun x hx => ?_, fun x hx u hu => ?_⟩ <;> obtain ⟨i, hi, rfl⟩ := List.getElem_of_mem hx <;> obtain ⟨e1, e2⟩ := at_ i hi
    · have := h2 i hi; rw [e1, e2] at this; exact ⟨⟨this.2.1, this.2.2⟩, this.1⟩
    · have g2 := h2 i hi; have g3 := h3 i hi
      rw [e2] at g2 g3
      exact (bnd_iff _ (formed_cln g2.1)).1 g3.1
    · have g3 := h3 i hi
      rw [e1, e2, hu] at g3
      simp only [Ty.kind, Ty.var, true_and] at g3
      omega
  · intro h
    unfold solvedB
    rw [Bool.and_eq_true]
    constructor
    · refine List.all_eq_true.2 fun i hi => ?_
      have hi := List.mem_range.1 hi
      obtain ⟨e1, e2⟩ := at_ i hi
      obtain ⟨⟨g1, g2⟩, g3⟩ := h.ok _ (List.getElem_mem hi)
      unfold headS
      rw [e1, e2, g3, decide_eq_true g1, decide_eq_true g2]
      by_cases h0 : i = 0
      · rw [decide_eq_true h0]; rfl
      · obtain ⟨f1, -⟩ := at_ (i - 1) (by omega)
        rw [f1, decide_eq_true (List.pairwise_iff_getElem.1 h.up (i - 1) i (by omega) hi (by omega))]
        simp
    · refine List.all_eq_true.2 fun i hi => ?_
      have hi := List.mem_range.1 hi
      obtain ⟨e1, e2⟩ := at_ i hi
      have g3 := (h.ok _ (List.getElem_mem hi)).2
      unfold tailS
      rw [e1, e2, (bnd_iff _ (formed_cln g3)).2 (h.no _ (List.getElem_mem hi))]
      by_cases hk : L[i].2.kind = 6
      · have := h.least _ (List.getElem_mem hi) _ (cln_eq (formed_cln g3) hk)
        rw [decide_eq_false (by omega)]; simp
      · rw [show (L[i].2.kind == 6) = false by simpa using hk]; rfl
theorem Slv.fix {L : List (Int × Ty)} (h : Slv L) {x : Int × Ty} (hx : x ∈ L) : ev TyA (appB L) x.2 = x.2 := by
  rw [ev_agree TyA (τ' := vTy) x.2 (allV_imp (fun v hv => appB_no hv) _ (h.no x hx))]
  exact ev_vTy _ (formed_cln (h.ok x hx).2)
/-- A solved substitution is the most general one of what its pairs ask. -/
theorem Slv.mgu {L : List (Int × Ty)} (h : Slv L) : Mgu (EqL L) (appB L) := by
  refine ⟨fun x hx => ?_, fun A τ hs v => ?_, fun u v hv => ?_, fun v => ?_⟩
  · rw [h.fix hx]; exact appB_mem h.up hx
  · rcases appB_cases L v with e | e
    · rw [e, ev_var]
    · exact (hs _ e).symm
  · rcases appB_cases L v with e | e
    · rw [e] at hv; injection hv with _ _ _ _ e2; omega
    · have := h.least _ e u hv; simp only at this; omega
  · rcases appB_cases L v with e | e
    · rw [e]; exact cln_var v
    · exact formed_cln (h.ok _ e).2
theorem Slv.fits {L : List (Int × Ty)} (h : Slv L) : Fits (appB L) := fun v => by
  rcases appB_cases L v with e | e
  · rw [e]; exact fit_vTy v
  · exact formed_fit (h.ok _ e).2
theorem Slv.net {L : List (Int × Ty)} (h : Slv L) : NetOf (appB L) L := by
  refine ⟨h.up, fun x => ⟨fun hx => ⟨appB_mem h.up hx, fun e => ?_⟩, ?_⟩⟩
  · have := h.least x hx _ e; omega
  · rintro ⟨h1, h2⟩
    rcases appB_cases L x.1 with e | e
    · exact absurd (h1.symm.trans e) h2
    · rw [h1] at e; exact e
/-- .. and of nothing else. -/
theorem net_appB {θ : Int → Ty} {X : List (Int × Ty)} (h : NetOf θ X) : appB X = θ := by
  funext v
  by_cases hv : θ v = vTy v
  · rcases appB_cases X v with e | e
    · rw [e, hv]
    · have := (h.2 _).1 e
      exact this.1.symm
  · have := (h.2 (v, θ v)).2 ⟨rfl, hv⟩
    exact appB_mem h.1 this
/-- What a most general substitution is as pairs is solved, if it is small and its heads may be. -/
theorem slv_of {E : Asks} {θ : Int → Ty} {X : List (Int × Ty)} (hM : Mgu E θ) (hf : Fits θ) (hn : NetOf θ X) (hh : ∀ x ∈ X, (0 ≤ x.1 ∧ x.1 ≤ 1048576) ∧ hdAll x.2 = true) : Slv X := by
  refine ⟨hn.1, fun x hx => ⟨(hh x hx).1, ?_⟩, fun x hx => ?_, fun x hx u hu => ?_⟩
  · rw [formed_iff]
    refine ⟨(hh x hx).2, ?_⟩
    rw [← ((hn.2 x).1 hx).1]
    exact hf _
  · obtain ⟨h1, h2⟩ := (hn.2 x).1 hx
    have := ev_fix (θ := θ) x.2 (by rw [← h1]; exact hM.cln _) (by rw [← h1]; exact hM.fac TyA θ hM.sol x.1)
    refine allV_imp (fun v hv => ?_) _ this
    refine List.any_eq_false.2 fun y hy e => ?_
    simp only [beq_iff_eq] at e
    obtain ⟨h3, h4⟩ := (hn.2 y).1 hy
    rw [e, hv] at h3
    exact h4 (by rw [← h3, e])
  · obtain ⟨h1, h2⟩ := (hn.2 x).1 hx
    rw [hu] at h1
    have := hM.least u x.1 h1
    by_cases e : u = x.1
    · rw [hu, e] at h2; exact absurd rfl h2
    · omega

/-- The types of a Store's classes have heads that may be. -/
theorem sub_hd {s : Sto} (h : WS s) : ∀ i, i < s.n → ∀ t, Bd s i t → hdAll t = true := by
  have key : ∀ N i t, i < s.n → Bd s i t → partsT t ≤ N → hdAll t = true := by
    intro N
    induction N with
    | zero => intro i t _ _ h0; have := partsT_pos t; omega
    | succ N ih =>
      intro i t hi hb hN
      by_cases hso : s.solidAt (s.repAt i) < 0
      · obtain rfl := hb.one (bd_flex hso)
        obtain ⟨-, j, h1, h2, h3⟩ := h.least i hi hso
        obtain ⟨g1, g2⟩ := h.varIn h1 (h.flex j h1 (by rw [h2]; exact hso))
        rw [h3] at g1 g2
        exact hd_vTy g1 g2
      · have hl : solOf s i < s.n := Sto.solid_lt h.ok (Sto.rep_lt h.ok hi) hso
        obtain ⟨h1, rfl⟩ := bd_inv hso hb
        unfold mkOf at hN ⊢
        rw [hdAll_mk]
        refine ⟨?_, fun a ha => ?_⟩
        · have := h.hd _ hl
          unfold hdOk at this
          rw [headB_hdN] at this ⊢
          rw [List.length_replicate] at this
          rw [List.length_map]
          exact this
        · obtain ⟨k, hkk, rfl⟩ := List.mem_map.1 ha
          have hlt : partsT (bdT s k) < partsT (Ty.mk (s.ndAt (solOf s i)).kind (s.ndAt (solOf s i)).mod (s.ndAt (solOf s i)).name ((s.ndAt (solOf s i)).kids.map (bdT s)) (s.ndAt (solOf s i)).var) := partsT_kid ha
          exact ih k _ (Nat.lt_trans (h.ok.kids _ hl k hkk) hl) (bdT_bd (h1 k hkk)) (by omega)
  exact fun i hi t hb => key _ i t hi hb (Nat.le_refl _)
/-- The pairs of a Store: their variables and heads may be. -/
theorem binds_hd {s : Sto} (h : WS s) {X : List (Int × Ty)} (hb : BindsIs s X) : ∀ x ∈ X, (0 ≤ x.1 ∧ x.1 ≤ 1048576) ∧ hdAll x.2 = true := fun x hx => by
  obtain ⟨i, f, h1, h2, -⟩ := (hb.mem x).1 hx
  obtain ⟨g1, g2, g3⟩ := h.of _ i h1
  have := h.varIn g1 g2
  rw [g3] at this
  exact ⟨this, sub_hd h i g1 _ ⟨f, h2⟩⟩

end Go.Proofs.YtplnfepdikbpfaaGreatDoor

namespace Go.Proofs.YtplnfepdikbpfaaGreatDoor
set_option linter.unusedVariables false
set_option linter.unusedSimpArgs false

/-- A substitution makes the one type the other. -/
def Gen (a b : Ty) : Prop := ∃ θ : Int → Ty, ev TyA θ a = b
mutual
/-- What the one type's variables stand for, so that it is the other. -/
def genT : Ty → Ty → List (Int × Ty) → Option (List (Int × Ty))
  | .mk k m n xs v, b, s =>
    if k = 6 then (match s.find? (fun x => x.1 == v) with | some x => if sameT x.2 b = true then some s else none | none => some (s ++ [(v, b)]))
    else if (k == b.kind && m == b.mod && n == b.name && xs.length == b.args.length) = true then genL xs b.args s else none
def genL : List Ty → List Ty → List (Int × Ty) → Option (List (Int × Ty))
  | [], _, s => some s
  | _ :: _, [], s => none
  | a :: us, b :: vs, s => match genT a b s with | none => none | some s1 => genL us vs s1
end
def KeysU (s : List (Int × Ty)) : Prop := ∀ x ∈ s, ∀ y ∈ s, x.1 = y.1 → x = y
def GenSound (a : Ty) : Prop := ∀ b s s', hdAll a = true → hdAll b = true → KeysU s → genT a b s = some s' → KeysU s' ∧ (∀ x ∈ s, x ∈ s') ∧ ∀ θ : Int → Ty, (∀ x ∈ s', θ x.1 = x.2) → ev TyA θ a = b
theorem genL_sound {xs : List Ty} (ih : ∀ a ∈ xs, GenSound a) : ∀ (ys : List Ty) (s s' : List (Int × Ty)), xs.length = ys.length → (∀ a ∈ xs, hdAll a = true) → (∀ b ∈ ys, hdAll b = true) → KeysU s → genL xs ys s = some s' →
    KeysU s' ∧ (∀ x ∈ s, x ∈ s') ∧ ∀ θ : Int → Ty, (∀ x ∈ s', θ x.1 = x.2) → xs.map (ev TyA θ) = ys := by
  induction xs with
  | nil =>
    intro ys s s' hl _ _ hk h
    obtain rfl : ys = [] := List.eq_nil_of_length_eq_zero hl.symm
    rw [genL] at h
    obtain rfl := Option.some.inj h
    exact ⟨hk, fun x hx => hx, fun _ _ => rfl⟩
  | cons a xs ih2 =>
    intro ys s s' hl ha hb hk h
    cases ys with
    | nil => cases hl
    | cons b ys =>
      rw [genL] at h
      cases h1 : genT a b s with
      | none => rw [h1] at h; cases h
      | some s1 =>
        rw [h1] at h
        simp only at h
        obtain ⟨g1, g2, g3⟩ := ih a (by simp) b s s1 (ha a (by simp)) (hb b (by simp)) hk h1
        obtain ⟨f1, f2, f3⟩ := ih2 (fun c hc => ih c (by simp [hc])) ys s1 s' (by simpa using hl) (fun c hc => ha c (by simp [hc])) (fun c hc => hb c (by simp [hc])) g1 h
        refine ⟨f1, fun x hx => f2 x (g2 x hx), fun θ hθ => ?_⟩
        rw [List.map_cons, g3 θ (fun x hx => hθ x (f2 x hx)), f3 θ hθ]
theorem headB_zero {k : Int} {m n : List UInt8} {xs : List Ty} {v : Int} (h : headB (.mk k m n xs v) = true) (hk : k ≠ 6) : v = 0 := by
  rw [headB_hdN] at h
  unfold hdN at h
  simp only [Bool.and_eq_true, Bool.or_eq_true, beq_iff_eq] at h
  rcases h.2 with e | e
  · exact absurd e hk
  · exact e
theorem genT_sound (a : Ty) : GenSound a := by
  induction a using Ty.ind with
  | h k m n xs v ih =>
    intro b s s' ha hb hk h
    rw [genT] at h
    by_cases h6 : k = 6
    · rw [if_pos h6] at h
      cases hf : s.find? (fun x => x.1 == v) with
      | some x =>
        rw [hf] at h
        simp only at h
        have h1 := List.mem_of_find?_eq_some hf
        have h2 := List.find?_some hf
        simp only [beq_iff_eq] at h2
        split at h
        · rename_i e
          obtain rfl := Option.some.inj h
          rw [sameT_iff] at e
          refine ⟨hk, fun y hy => hy, fun θ hθ => ?_⟩
          rw [ev_mk, if_pos h6, ← h2, hθ x h1, e]
        · cases h
      | none =>
        rw [hf] at h
        simp only at h
        obtain rfl := Option.some.inj h
        rw [List.find?_eq_none] at hf
        have hne : ∀ x ∈ s, x.1 ≠ v := fun x hx => by simpa using hf x hx
        refine ⟨fun x hx y hy e => ?_, fun x hx => by simp [hx], fun θ hθ => ?_⟩
        · rcases List.mem_append.1 hx with hx | hx <;> rcases List.mem_append.1 hy with hy | hy
          · exact hk x hx y hy e
          · rw [List.mem_singleton.1 hy] at e ⊢; exact absurd e (hne x hx)
          · rw [List.mem_singleton.1 hx] at e ⊢; exact absurd e.symm (hne y hy)
          · rw [List.mem_singleton.1 hx, List.mem_singleton.1 hy]
        · rw [ev_mk, if_pos h6]
          exact hθ (v, b) (by simp)
    · rw [if_neg h6] at h
      split at h
      · rename_i hc
        obtain ⟨k', m', n', ys, v'⟩ := b
        simp only [Ty.kind, Ty.mod, Ty.name, Ty.args, Bool.and_eq_true, beq_iff_eq] at hc h
        obtain ⟨⟨⟨rfl, rfl⟩, rfl⟩, hl⟩ := hc
        rw [hdAll_mk] at ha hb
        obtain ⟨g1, g2, g3⟩ := genL_sound ih ys s s' hl ha.2 hb.2 hk h
        refine ⟨g1, g2, fun θ hθ => ?_⟩
        rw [ev_mk, if_neg h6, g3 θ hθ, headB_zero ha.1 h6, headB_zero hb.1 h6]
      · cases h
theorem genL_complete {xs : List Ty} (ih : ∀ a ∈ xs, ∀ (s : List (Int × Ty)) (θ : Int → Ty), (∀ x ∈ s, θ x.1 = x.2) → ∃ s', genT a (ev TyA θ a) s = some s' ∧ ∀ x ∈ s', θ x.1 = x.2) : ∀ (s : List (Int × Ty)) (θ : Int → Ty), (∀ x ∈ s, θ x.1 = x.2) → ∃ s', genL xs (xs.map (ev TyA θ)) s = some s' ∧ ∀ x ∈ s', θ x.1 = x.2 := by
  induction xs with
  | nil => intro s θ h; exact ⟨s, by rw [genL], h⟩
  | cons a xs ih2 =>
    intro s θ h
    obtain ⟨s1, h1, h2⟩ := ih a (by simp) s θ h
    obtain ⟨s', h3, h4⟩ := ih2 (fun c hc => ih c (by simp [hc])) s1 θ h2
    exact ⟨s', by rw [List.map_cons, genL, h1]; exact h3, h4⟩
theorem genT_complete (a : Ty) : ∀ (s : List (Int × Ty)) (θ : Int → Ty), (∀ x ∈ s, θ x.1 = x.2) → ∃ s', genT a (ev TyA θ a) s = some s' ∧ ∀ x ∈ s', θ x.1 = x.2 := by
  induction a using Ty.ind with
  | h k m n xs v ih =>
    intro s θ h
    rw [genT, ev_mk]
    by_cases h6 : k = 6
    · rw [if_pos h6, if_pos h6]
      cases hf : s.find? (fun x => x.1 == v) with
      | some x =>
        have h1 := List.mem_of_find?_eq_some hf
        have h2 := List.find?_some hf
        simp only [beq_iff_eq] at h2
        refine ⟨s, ?_, h⟩
        simp only
        rw [if_pos (by rw [sameT_iff, ← h2, h x h1])]
      | none =>
        refine ⟨s ++ [(v, θ v)], rfl, fun x hx => ?_⟩
        rcases List.mem_append.1 hx with hx | hx
        · exact h x hx
        · rw [List.mem_singleton.1 hx]
    · rw [if_neg h6, if_neg h6]
      obtain ⟨s', h1, h2⟩ := genL_complete ih s θ h
      refine ⟨s', ?_, h2⟩
      rw [if_pos (by simp [Ty.kind, Ty.mod, Ty.name, Ty.args])]
      exact h1
/-- Is the one type more general? -/
def genB (a b : Ty) : Bool := (genT a b []).isSome
theorem gen_iff {a b : Ty} (ha : hdAll a = true) (hb : hdAll b = true) : genB a b = true ↔ Gen a b := by
  unfold genB
  constructor
  · intro h
    obtain ⟨s', hs⟩ := Option.isSome_iff_exists.1 h
    obtain ⟨h1, -, h3⟩ := genT_sound a b [] s' ha hb (fun x hx => by cases hx) hs
    refine ⟨appB s', h3 _ fun x hx => ?_⟩
    unfold appB
    cases hf : s'.find? (fun y => y.1 == x.1) with
    | none => rw [List.find?_eq_none] at hf; exact absurd (by simp) (hf x hx)
    | some y =>
      have g1 := List.mem_of_find?_eq_some hf
      have g2 := List.find?_some hf
      simp only [beq_iff_eq] at g2
      rw [h1 y g1 x hx g2]
  · rintro ⟨θ, rfl⟩
    obtain ⟨s', hs, -⟩ := genT_complete a [] θ (fun x hx => by cases hx)
    rw [hs]; rfl
theorem Gen.refl {a : Ty} (h : clnT a) : Gen a a := ⟨vTy, ev_vTy a h⟩
theorem Gen.trans {a b c : Ty} (h : Gen a b) (k : Gen b c) : Gen a c := by
  obtain ⟨θ, rfl⟩ := h; obtain ⟨η, rfl⟩ := k
  exact ⟨_, (ev_ev TyA η θ a).symm⟩
theorem hd_ev {θ : Int → Ty} (a : Ty) (h : hdAll a = true) (hθ : allV (fun v => hdAll (θ v) = true) a) : hdAll (ev TyA θ a) = true := by
  induction a using Ty.ind with
  | h k m n xs v ih =>
    rw [hdAll_mk] at h
    rw [allV_mk] at hθ
    rw [ev_mk]
    by_cases hk : k = 6
    · rw [if_pos hk]; exact hθ.1 hk
    · rw [if_neg hk]
      show hdAll (.mk k m n (xs.map (ev TyA θ)) v) = true
      rw [hdAll_mk]
      refine ⟨?_, fun b hb => ?_⟩
      · have := h.1
        rw [headB_hdN] at this ⊢
        rw [List.length_map]; exact this
      · obtain ⟨a, ha, rfl⟩ := List.mem_map.1 hb
        exact ih a ha (h.2 a ha) (hθ.2 a ha)
theorem hd_app {L : List (Int × Ty)} (hL : Slv L) {a : Ty} (h : hdAll a = true) : hdAll (ev TyA (appB L) a) = true := by
  refine hd_ev a h ?_
  have hin : allV InV a := by
    have : ∀ t : Ty, hdAll t = true → allV InV t := fun t => by
      induction t using Ty.ind with
      | h k m n xs v ih =>
        intro h
        rw [hdAll_mk] at h
        rw [allV_mk]
        refine ⟨fun e => ?_, fun a ha => ih a ha (h.2 a ha)⟩
        subst e
        exact (headB_var h.1).2.2.2
    exact this a h
  refine allV_imp (fun v hv => ?_) a hin
  rcases appB_cases L v with e | e
  · rw [e]; exact hd_vTy hv.1 hv.2
  · exact ((formed_iff _).1 (hL.ok _ e).2).1

/-! ### Normal forms -/
theorem ren_ev (f : Int → Int) (t : Ty) (h : clnT t) : renT f t = ev TyA (fun v => vTy (f v)) t := by
  induction t using Ty.ind with
  | h k m n xs v ih =>
    rw [clnT_mk] at h
    rw [renT_mk, ev_mk, renL_map]
    by_cases hk : k = 6
    · obtain ⟨rfl, rfl, rfl⟩ := h.1 hk
      rw [if_pos hk, if_pos hk, hk]; rfl
    · rw [if_neg hk, if_neg hk]
      show Ty.mk k m n _ v = Ty.mk k m n _ v
      congr 1
      exact List.map_congr_left fun a ha => ih a ha (h.2 a ha)
theorem idx_get {l : List Int} {v : Int} (h : v ∈ l) : l.getD (Lib.idxOf l v).toNat 0 = v := by
  have key : ∀ (l : List Int) (i : Nat), v ∈ l → l.getD (Lib.idxFrom l v i - i).toNat 0 = v := by
    intro l
    induction l with
    | nil => intro i h; cases h
    | cons z l ih =>
      intro i h
      simp only [Lib.idxFrom]
      by_cases e : z = v
      · rw [if_pos e]; simp [e]
      · rw [if_neg e]
        have h2 : v ∈ l := by
          rcases List.mem_cons.1 h with h | h
          · exact absurd h.symm e
          · exact h
        have h3 := idxFrom_in v l (i + 1) h2
        have h4 := ih (i + 1) h2
        have : (Lib.idxFrom l v (i + 1) - (i : Int)).toNat = (Lib.idxFrom l v (i + 1) - ((i + 1 : Nat) : Int)).toNat + 1 := by omega
        rw [this]
        simpa using h4
  have := key l 0 h
  simpa [Lib.idxOf] using this
theorem vars_self (t : Ty) : allV (fun v => v ∈ varsT t []) t := (vars_all t).1 fun v hv => hv
theorem gen_norm {a : Ty} (h : clnT a) : Gen a (normT a) := ⟨_, (ren_ev _ a h).symm⟩
theorem norm_gen {a : Ty} (h : clnT a) : Gen (normT a) a := by
  refine ⟨fun i => vTy ((varsT a []).getD i.toNat 0), ?_⟩
  unfold normT
  rw [ren_ev _ a h, ev_ev]
  conv => rhs; rw [← ev_vTy a h]
  refine ev_agree TyA a (allV_imp (fun v hv => ?_) a (vars_self a))
  rw [ev_var, idx_get hv]
theorem contains_map_on {f : Int → Int} {S : Int → Prop} (hf : ∀ x y, S x → S y → f x = f y → x = y) (l : List Int) (hl : ∀ x ∈ l, S x) (v : Int) (hv : S v) : (l.map f).contains (f v) = l.contains v := by
  rw [Bool.eq_iff_iff]
  simp only [List.contains_iff_mem, List.mem_map]
  exact ⟨fun ⟨x, hx, e⟩ => hf x v (hl x hx) hv e ▸ hx, fun h => ⟨v, h, rfl⟩⟩
theorem varsL_in {S : Int → Prop} (xs : List Ty) : ∀ l : List Int, (∀ x ∈ l, S x) → (∀ a ∈ xs, allV S a) → ∀ x ∈ varsL xs l, S x := by
  induction xs with
  | nil => intro l hl _; rw [varsL_nil]; exact hl
  | cons a xs ih => intro l hl ha; rw [varsL_cons]; exact ih _ ((varsT_all a l).2 ⟨ha a (by simp), hl⟩) fun b hb => ha b (by simp [hb])
theorem varsL_ren_on {f : Int → Int} {S : Int → Prop} {xs : List Ty} (ih : ∀ a ∈ xs, ∀ l : List Int, (∀ x ∈ l, S x) → allV S a → varsT (renT f a) (l.map f) = (varsT a l).map f) : ∀ l : List Int, (∀ x ∈ l, S x) → (∀ a ∈ xs, allV S a) → varsL (renL f xs) (l.map f) = (varsL xs l).map f := by
  induction xs with
  | nil => intro l _ _; rw [renL, varsL_nil, varsL_nil]
  | cons a xs ih2 =>
    intro l hl ha
    rw [renL, varsL_cons, varsL_cons, ih a (by simp) l hl (ha a (by simp)), ih2 (fun b hb => ih b (by simp [hb])) _ ((varsT_all a l).2 ⟨ha a (by simp), hl⟩) fun b hb => ha b (by simp [hb])]
theorem varsT_ren_on {f : Int → Int} {S : Int → Prop} (hf : ∀ x y, S x → S y → f x = f y → x = y) (t : Ty) : ∀ l : List Int, (∀ x ∈ l, S x) → allV S t → varsT (renT f t) (l.map f) = (varsT t l).map f := by
  induction t using Ty.ind with
  | h k m n xs v ih =>
    intro l hl ht
    rw [allV_mk] at ht
    rw [renT_mk, varsT_mk, varsT_mk]
    have hl2 : ∀ x ∈ (if k = 6 ∧ l.contains v = false then l ++ [v] else l), S x := fun x hx => by
      split at hx
      · rename_i h
        rcases List.mem_append.1 hx with hx | hx
        · exact hl x hx
        · rw [List.mem_singleton.1 hx]; exact ht.1 h.1
      · exact hl x hx
    rw [← varsL_ren_on ih _ hl2 ht.2]
    congr 1
    by_cases hk : k = 6
    · rw [if_pos hk, contains_map_on hf l hl v (ht.1 hk)]
      by_cases hc : l.contains v = false
      · rw [if_pos ⟨hk, hc⟩, if_pos ⟨hk, hc⟩]; simp
      · rw [if_neg (fun h => hc h.2), if_neg (fun h => hc h.2)]
    · rw [if_neg (fun h => hk h.1), if_neg (fun h => hk h.1)]
theorem idxFrom_map_on {f : Int → Int} {S : Int → Prop} (hf : ∀ x y, S x → S y → f x = f y → x = y) (v : Int) (hv : S v) : ∀ (l : List Int) (i : Nat), (∀ x ∈ l, S x) → Lib.idxFrom (l.map f) (f v) i = Lib.idxFrom l v i
  | [], i, _ => rfl
  | z :: l, i, hl => by
    simp only [List.map_cons, Lib.idxFrom]
    by_cases h : z = v
    · rw [if_pos (congrArg f h), if_pos h]
    · rw [if_neg (fun e => h (hf _ _ (hl z (by simp)) hv e)), if_neg h, idxFrom_map_on hf v hv l (i + 1) fun x hx => hl x (by simp [hx])]
theorem norm_ren_on {f : Int → Int} (t : Ty) (hf : ∀ x y, x ∈ varsT t [] → y ∈ varsT t [] → f x = f y → x = y) : normT (renT f t) = normT t := by
  unfold normT
  have e := varsT_ren_on (S := fun v => v ∈ varsT t []) hf t [] (fun x hx => by cases hx) (vars_self t)
  simp only [List.map_nil] at e
  rw [e, renT_ren]
  exact renT_congr (P := fun v => v ∈ varsT t []) (fun v hv => idxFrom_map_on (S := fun v => v ∈ varsT t []) hf v hv _ 0 fun x hx => hx) t (vars_self t)
theorem ev_cln {θ : Int → Ty} (t : Ty) (hc : clnT t) (h : clnT (ev TyA θ t)) : allV (fun v => clnT (θ v)) t := by
  induction t using Ty.ind with
  | h k m n xs v ih =>
    rw [clnT_mk] at hc
    rw [allV_mk]
    rw [ev_mk] at h
    by_cases hk : k = 6
    · rw [if_pos hk] at h
      obtain ⟨rfl, rfl, rfl⟩ := hc.1 hk
      exact ⟨fun _ => h, fun a ha => by cases ha⟩
    · rw [if_neg hk] at h
      have h2 : clnT (.mk k m n (xs.map (ev TyA θ)) v) := h
      rw [clnT_mk] at h2
      exact ⟨fun e => absurd e hk, fun a ha => ih a ha (hc.2 a ha) (h2.2 _ (List.mem_map_of_mem ha))⟩
/-- Types that are more general than each other have one normal form. -/
theorem gen_both {a b : Ty} (ha : clnT a) (hb : clnT b) : (Gen a b ∧ Gen b a) ↔ normT a = normT b := by
  constructor
  · rintro ⟨⟨θ, rfl⟩, ⟨η, hη⟩⟩
    rw [ev_ev] at hη
    have h1 := ev_fix a ha hη
    have h2 := ev_cln a ha hb
    have h3 : allV (fun v => θ v = vTy (θ v).var ∧ η (θ v).var = vTy v) a := by
      have both : ∀ {P Q : Int → Prop} (t : Ty), allV P t → allV Q t → allV (fun v => P v ∧ Q v) t := fun t => by
        induction t using Ty.ind with
        | h k m n xs v ih =>
          intro g1 g2
          rw [allV_mk] at g1 g2 ⊢
          exact ⟨fun e => ⟨g1.1 e, g2.1 e⟩, fun c hc => ih c hc (g1.2 c hc) (g2.2 c hc)⟩
      refine allV_imp (fun v hv => ?_) a (both a h1 h2)
      obtain ⟨g1, g2⟩ := hv
      have hk : (θ v).kind = 6 := by
        by_cases hk : (θ v).kind = 6
        · exact hk
        · have := ev_kind (θ := η) hk
          rw [g1] at this
          exact absurd this.symm hk
      have e := cln_eq g2 hk
      refine ⟨e, ?_⟩
      rw [e, ev_var] at g1
      exact g1
    have e1 : ev TyA θ a = renT (fun v => (θ v).var) a := by
      rw [ren_ev _ a ha]
      exact ev_agree TyA a (allV_imp (fun v hv => hv.1) a h3)
    rw [e1]
    refine (norm_ren_on a fun x y hx hy e => ?_).symm
    have g := (vars_all a).2 h3
    have gx := (g x hx).2
    have gy := (g y hy).2
    rw [e, gy] at gx
    injection gx with _ _ _ _ gx
    exact gx.symm
  · intro h
    exact ⟨(gen_norm ha).trans (h ▸ norm_gen hb), (gen_norm hb).trans (h ▸ norm_gen ha)⟩

/-! ### What follows of what Unify answers -/
theorem eqU_self (a : Ty) (L : List (Int × Ty)) (A : Alg) (τ : Int → A.T) : EqU a a L A τ ↔ EqL L A τ := ⟨fun h => h.1, fun h => ⟨h, rfl⟩⟩
theorem eqU_comm (a b : Ty) (L : List (Int × Ty)) (A : Alg) (τ : Int → A.T) : EqU a b L A τ ↔ EqU b a L A τ := ⟨fun h => ⟨h.1, h.2.symm⟩, fun h => ⟨h.1, h.2.symm⟩⟩
theorem Slv.uans {L : List (Int × Ty)} (h : Slv L) : UAns (EqL L) 0 L := .inr (.inr (.inr ⟨rfl, _, h.mgu, h.fits, h.net⟩))
/-- Unify of a type and itself. -/
theorem uans_self {a : Ty} {L X : List (Int × Ty)} {e : Int} (hL : Slv L) (h : UAns (EqU a a L) e X) : e = 0 ∧ X = L := by
  have := hL.uans.one h fun A τ => (eqU_self a L A τ).symm
  exact ⟨this.1.symm, this.2.symm⟩
theorem uans_net {E : Asks} {X : List (Int × Ty)} (h : UAns E 0 X) : Mgu E (appB X) ∧ Fits (appB X) ∧ NetOf (appB X) X := by
  rcases h with ⟨h, -⟩ | ⟨h, -⟩ | ⟨h, -⟩ | ⟨-, θ, h1, h2, h3⟩
  · exact absurd h (by decide)
  · exact absurd h (by decide)
  · exact absurd h (by decide)
  · rw [net_appB h3]; exact ⟨h1, h2, h3⟩
/-- Unify again, with what it answered. -/
theorem uans_again {a b : Ty} {L Y Z : List (Int × Ty)} {g : Int} (hY : Slv Y) (h : UAns (EqU a b L) 0 Y) (k : UAns (EqU a b Y) g Z) : g = 0 ∧ Z = Y := by
  obtain ⟨h1, h2, h3⟩ := uans_net h
  have hE : ∀ (A : Alg) (τ : Int → A.T), EqL Y A τ ↔ EqU a b Y A τ := fun A τ => by
    refine ⟨fun hs => ⟨hs, ?_⟩, fun hs => hs.1⟩
    have hf := fun v => hY.mgu.fac A τ hs v
    have e := congrArg (ev A τ) h1.sol.2
    rw [ev_ev, ev_ev, ev_congr A a hf, ev_congr A b hf] at e
    exact e
  have := hY.uans.one k hE
  exact ⟨this.1.symm, this.2.symm⟩
theorem uans_most {a b : Ty} {L X : List (Int × Ty)} (h : UAns (EqU a b L) 0 X) : ev TyA (appB X) a = ev TyA (appB X) b ∧ ∀ x ∈ L, appB X x.1 = ev TyA (appB X) x.2 := by
  obtain ⟨h1, -, -⟩ := uans_net h
  exact ⟨h1.sol.2, fun x hx => h1.sol.1 x hx⟩
theorem uans_gen {a b : Ty} {X : List (Int × Ty)} (h : UAns (EqU a b []) 0 X) {θ : Int → Ty} (hθ : ev TyA θ a = ev TyA θ b) : Gen (ev TyA (appB X) a) (ev TyA θ a) := by
  obtain ⟨h1, -, -⟩ := uans_net h
  refine ⟨θ, ?_⟩
  rw [ev_ev]
  exact ev_congr TyA a fun v => h1.fac TyA θ ⟨fun x hx => (by cases hx), hθ⟩ v
theorem uans_no {a b : Ty} {e : Int} {X : List (Int × Ty)} (h : UAns (EqU a b []) e X) {θ : Int → Ty} (hθ : ev TyA θ a = ev TyA θ b) : e = 0 ∨ e = 7 := by
  have hs : EqU a b [] TyA θ := ⟨fun x hx => (by cases hx), hθ⟩
  rcases h with ⟨rfl, -, h⟩ | ⟨rfl, -, -, h⟩ | ⟨rfl, -⟩ | ⟨rfl, -⟩
  · exact absurd hs (h TyA θ)
  · exact absurd hs (h θ)
  · exact .inr rfl
  · exact .inl rfl
theorem uans_err {E : Asks} {e : Int} {X : List (Int × Ty)} (h : UAns E e X) (he : e ≠ 0) : X = [] := by
  rcases h with ⟨-, h, -⟩ | ⟨-, h, -⟩ | ⟨-, h, -⟩ | ⟨h, -⟩
  · exact h
  · exact h
  · exact h
  · exact absurd h he

end Go.Proofs.YtplnfepdikbpfaaGreatDoor
