/- Types as trees, and what the unify package's plain functions come to. No condition. The unify package's Store as plain functions: parts, classes, what is made the same. No program in sight. No condition. Small laws of the Store's plain functions: indices stay in range. No program in sight. No condition. The Store's sizes without a memory of what is known: where no class is in itself, size answers them, whatever is known. No program in sight. No condition. The Store's types and pairs, plain: what build answers does not hang on the fuel; the pairs of a Store, sorted. No program in sight. No condition. Cutting a type, plain. No program in sight. No condition. -/
import Derived.Test.YtplnfepdikbpfaaGreatDoorA
namespace Go.Proofs.YtplnfepdikbpfaaGreatDoor
set_option linter.unusedVariables false

/-- A type: Kind, Module, Name, Args, Var. -/
inductive Ty where
  | mk (kind : Int) (mod name : List UInt8) (args : List Ty) (var : Int)
instance : Inhabited Ty := ⟨.mk 0 [] [] [] 0⟩
namespace Ty
def kind : Ty → Int | mk k _ _ _ _ => k
def mod : Ty → List UInt8 | mk _ m _ _ _ => m
def name : Ty → List UInt8 | mk _ _ n _ _ => n
def args : Ty → List Ty | mk _ _ _ as _ => as
def var : Ty → Int | mk _ _ _ _ v => v
theorem eta (t : Ty) : Ty.mk t.kind t.mod t.name t.args t.var = t := by cases t; rfl

mutual
theorem ind {P : Ty → Prop} (h : ∀ k m n as v, (∀ t ∈ as, P t) → P (.mk k m n as v)) : (t : Ty) → P t
  | .mk k m n as v => h k m n as v (indL h as)
theorem indL {P : Ty → Prop} (h : ∀ k m n as v, (∀ t ∈ as, P t) → P (.mk k m n as v)) : (l : List Ty) → ∀ t ∈ l, P t
  | [], _, hm => nomatch hm
  | a :: as, t, hm => (List.mem_cons.1 hm).elim (fun e => e ▸ ind h a) (fun h1 => indL h as t h1)
end
end Ty

def tyAt (l : List Ty) (k : Nat) : Ty := l.getD k default
theorem tyAt_mem {l : List Ty} {k : Nat} (h : k < l.length) : tyAt l k ∈ l := by simp [tyAt, List.getD_eq_getElem?_getD, List.getElem?_eq_getElem h]
theorem tyAt_get {l : List Ty} {k : Nat} (h : k < l.length) : tyAt l k = l[k] := by simp [tyAt, List.getD_eq_getElem?_getD, List.getElem?_eq_getElem h]
theorem take_ty (l : List Ty) (k : Nat) (h : k < l.length) : l.take (k + 1) = l.take k ++ [tyAt l k] := by
  rw [List.take_succ_eq_append_getElem h, tyAt_get h]

/-! ### The same -/
mutual
def sameT : Ty → Ty → Bool
  | .mk k m n as v, .mk k' m' n' as' v' => k == k' && m == m' && n == n' && v == v' && sameL as as'
def sameL : List Ty → List Ty → Bool
  | [], [] => true
  | a :: as, b :: bs => sameT a b && sameL as bs
  | _, _ => false
end
theorem sameL_length {as bs : List Ty} (h : sameL as bs = true) : as.length = bs.length := by
  induction as generalizing bs with
  | nil => cases bs with
    | nil => rfl
    | cons b bs => simp [sameL] at h
  | cons a as ih => cases bs with
    | nil => simp [sameL] at h
    | cons b bs => simp only [sameL, Bool.and_eq_true] at h; simp [ih h.2]
theorem sameL_of_iff {as : List Ty} (h : ∀ t ∈ as, ∀ u, sameT t u = true ↔ t = u) : ∀ bs, sameL as bs = true ↔ as = bs := by
  induction as with
  | nil => intro bs; cases bs <;> simp [sameL]
  | cons a as ih =>
    intro bs
    cases bs with
    | nil => simp [sameL]
    | cons b bs =>
      simp only [sameL, Bool.and_eq_true, List.cons.injEq]
      rw [h a (by simp), ih (fun t ht => h t (by simp [ht]))]
theorem sameT_iff (a : Ty) : ∀ b, sameT a b = true ↔ a = b := by
  induction a using Ty.ind with
  | h k m n as v ih =>
    intro b
    obtain ⟨k', m', n', as', v'⟩ := b
    simp only [sameT, Bool.and_eq_true, beq_iff_eq, Ty.mk.injEq, sameL_of_iff ih]
    constructor
    · rintro ⟨⟨⟨⟨h1, h2⟩, h3⟩, h4⟩, h5⟩; exact ⟨h1, h2, h3, h5, h4⟩
    · rintro ⟨h1, h2, h3, h5, h4⟩; exact ⟨⟨⟨⟨h1, h2⟩, h3⟩, h4⟩, h5⟩
instance : DecidableEq Ty := fun a b => decidable_of_iff (sameT a b = true) (sameT_iff a b)
theorem sameT_eq (a b : Ty) : sameT a b = decide (a = b) := by
  rw [Bool.eq_iff_iff, sameT_iff]; simp
theorem sameL_eq (as bs : List Ty) : sameL as bs = decide (as = bs) := by
  rw [Bool.eq_iff_iff, sameL_of_iff (fun t _ => sameT_iff t)]; simp
theorem sameT_def (a b : Ty) : sameT a b = (a.kind == b.kind && a.mod == b.mod && a.name == b.name && a.var == b.var && sameL a.args b.args) := by
  cases a; cases b; rfl
theorem sameL_take {as bs : List Ty} {k : Nat} (h : k < as.length) (h' : k < bs.length) : sameL (as.take (k + 1)) (bs.take (k + 1)) = (sameL (as.take k) (bs.take k) && sameT (tyAt as k) (tyAt bs k)) := by
  rw [Bool.eq_iff_iff, Bool.and_eq_true, sameL_eq, sameL_eq, sameT_eq, take_ty as k h, take_ty bs k h']
  simp only [decide_eq_true_eq]
  constructor
  · intro e
    have := List.append_inj e (by simp; omega)
    exact ⟨this.1, by simpa using this.2⟩
  · rintro ⟨e1, e2⟩; rw [e1, e2]

/-! ### How many parts -/
mutual
def partsT : Ty → Nat
  | .mk _ _ _ as _ => 1 + partsL as
def partsL : List Ty → Nat
  | [] => 0
  | a :: as => partsT a + partsL as
end
theorem partsL_append (a b : List Ty) : partsL (a ++ b) = partsL a + partsL b := by
  induction a with
  | nil => simp [partsL]
  | cons x a ih => simp [partsL, ih]; omega
theorem partsT_pos (t : Ty) : 0 < partsT t := by cases t; simp [partsT]; omega
theorem partsT_def (t : Ty) : partsT t = 1 + partsL t.args := by cases t; rfl

/-! ### Formed -/
def nameB (s : List UInt8) (great : Bool) : Bool := isTokB ⟨3, s⟩ && (greatB ⟨3, s⟩ == great)
def headB (t : Ty) : Bool :=
  (if t.kind = 1 ∨ t.kind = 2 ∨ t.kind = 3 then decide (t.args.length = 0)
   else if t.kind = 4 then nameB t.mod false && nameB t.name true && decide (t.args.length ≤ 12)
   else if t.kind = 5 then decide (1 ≤ t.args.length) && decide (t.args.length ≤ 13)
   else if t.kind = 6 then decide (t.args.length = 0) && decide (0 ≤ t.var) && decide (t.var ≤ 1048576)
   else false) && (t.kind == 4 || (t.mod == [] && t.name == [])) && (t.kind == 6 || t.var == 0)
mutual
def formedP : Ty → Int → Int → Bool × Int
  | .mk k m n as v, d, left => if left - 1 < 0 ∨ 100 < d then (false, left - 1) else if headB (.mk k m n as v) then formedPL as (d + 1) (left - 1) else (false, left - 1)
def formedPL : List Ty → Int → Int → Bool × Int
  | [], _, left => (true, left)
  | a :: as, d, left => if (formedP a d left).1 then formedPL as d (formedP a d left).2 else (false, (formedP a d left).2)
end
mutual
def okT : Ty → Int → Bool
  | .mk k m n as v, d => decide (d ≤ 100) && headB (.mk k m n as v) && okL as (d + 1)
def okL : List Ty → Int → Bool
  | [], _ => true
  | a :: as, d => okT a d && okL as d
end
def formedB (t : Ty) : Bool := okT t 1 && decide (partsT t ≤ 4000)
theorem formedPL_of {as : List Ty} (ih : ∀ t ∈ as, ∀ d left, ((formedP t d left).1 = true ↔ okT t d = true ∧ (partsT t : Int) ≤ left) ∧ ((formedP t d left).1 = true → (formedP t d left).2 = left - partsT t)) :
    ∀ d left, ((formedPL as d left).1 = true ↔ okL as d = true ∧ ((partsL as : Int) ≤ left ∨ as = [])) ∧ ((formedPL as d left).1 = true → (formedPL as d left).2 = left - partsL as) := by
  induction as with
  | nil => intro d left; simp [formedPL, okL, partsL]
  | cons a as ih2 =>
    intro d left
    obtain ⟨h1, h2⟩ := ih a (by simp) d left
    have ih3 := ih2 (fun t ht => ih t (by simp [ht]))
    have ep : partsL (a :: as) = partsT a + partsL as := by simp [partsL]
    have eo : okL (a :: as) d = (okT a d && okL as d) := by simp [okL]
    have ef : formedPL (a :: as) d left = if (formedP a d left).1 then formedPL as d (formedP a d left).2 else (false, (formedP a d left).2) := by simp [formedPL]
    rw [ep, eo, ef, Bool.and_eq_true]
    by_cases hf : (formedP a d left).1 = true
    · have e := h2 hf
      rw [if_pos hf, e]
      obtain ⟨g1, g2⟩ := ih3 d (left - partsT a)
      obtain ⟨h3, h4⟩ := h1.1 hf
      refine ⟨?_, fun h => by rw [g2 h]; push_cast; omega⟩
      rw [g1]
      constructor
      · rintro ⟨k1, k2 | rfl⟩
        · exact ⟨⟨h3, k1⟩, .inl (by push_cast; omega)⟩
        · exact ⟨⟨h3, k1⟩, .inl (by simp [partsL]; exact h4)⟩
      · rintro ⟨⟨_, k1⟩, k2 | k2⟩
        · exact ⟨k1, .inl (by push_cast at k2; omega)⟩
        · exact absurd k2 (by simp)
    · rw [if_neg hf]
      refine ⟨?_, fun h => by cases h⟩
      constructor
      · intro h; cases h
      · rintro ⟨⟨k0, _⟩, k2 | k2⟩
        · exact absurd (h1.2 ⟨k0, by push_cast at k2; omega⟩) hf
        · exact absurd k2 (by simp)
theorem formedP_iff (t : Ty) : ∀ d left, ((formedP t d left).1 = true ↔ okT t d = true ∧ (partsT t : Int) ≤ left) ∧ ((formedP t d left).1 = true → (formedP t d left).2 = left - partsT t) := by
  induction t using Ty.ind with
  | h k m n as v ih =>
    intro d left
    obtain ⟨h1, h2⟩ := formedPL_of ih (d + 1) (left - 1)
    have ep : partsT (.mk k m n as v) = 1 + partsL as := by simp [partsT]
    have eo : okT (.mk k m n as v) d = (decide (d ≤ 100) && headB (.mk k m n as v) && okL as (d + 1)) := by simp [okT]
    have ef : formedP (.mk k m n as v) d left = if left - 1 < 0 ∨ 100 < d then (false, left - 1) else if headB (.mk k m n as v) then formedPL as (d + 1) (left - 1) else (false, left - 1) := by simp [formedP]
    rw [ep, eo, ef, Bool.and_eq_true, Bool.and_eq_true, decide_eq_true_eq]
    have hz : as = [] → partsL as = 0 := by rintro rfl; simp [partsL]
    by_cases hc : left - 1 < 0 ∨ 100 < d
    · rw [if_pos hc]
      refine ⟨⟨fun h => (by cases h), ?_⟩, fun h => by cases h⟩
      rintro ⟨⟨⟨k1, _⟩, _⟩, k2⟩
      push_cast at k2
      omega
    · rw [if_neg hc]
      by_cases hh : headB (.mk k m n as v) = true
      · rw [if_pos hh]
        refine ⟨?_, fun h => by rw [h2 h]; push_cast; omega⟩
        rw [h1]
        constructor
        · rintro ⟨k1, k2⟩
          refine ⟨⟨⟨by omega, hh⟩, k1⟩, ?_⟩
          rcases k2 with k2 | k2
          · push_cast; omega
          · rw [hz k2]; push_cast; omega
        · rintro ⟨⟨_, k1⟩, k2⟩
          exact ⟨k1, .inl (by push_cast at k2; omega)⟩
      · rw [if_neg hh]
        exact ⟨⟨fun h => (by cases h), fun h => absurd h.1.1.2 hh⟩, fun h => (by cases h)⟩
theorem formedB_eq (t : Ty) : formedB t = (formedP t 1 4000).1 := by
  rw [Bool.eq_iff_iff, (formedP_iff t 1 4000).1, formedB, Bool.and_eq_true, decide_eq_true_eq]
  constructor
  · rintro ⟨h1, h2⟩; exact ⟨h1, by omega⟩
  · rintro ⟨h1, h2⟩; exact ⟨h1, by omega⟩

end Go.Proofs.YtplnfepdikbpfaaGreatDoor

namespace Go.Proofs.YtplnfepdikbpfaaGreatDoor
set_option linter.unusedVariables false
set_option linter.unusedSimpArgs false

/-- A part: its head, and its parts. -/
structure Nd where
  kind : Int
  mod : List UInt8
  name : List UInt8
  var : Int
  kids : List Nat
instance : Inhabited Nd := ⟨⟨0, [], [], 0, []⟩⟩
def Nd.headB (a b : Nd) : Bool := a.kind == b.kind && a.mod == b.mod && a.name == b.name && a.var == b.var
/-- Parts; for each: the part that stands for its class, the class's least variable, a part of the class that is no variable; the variables' parts. -/
structure Sto where
  nodes : List Nd
  rep : List Nat
  least : List Int
  solid : List Int
  of : List (Int × Nat)
namespace Sto
def n (s : Sto) : Nat := s.nodes.length
def repAt (s : Sto) (i : Nat) : Nat := s.rep.getD i i
def leastAt (s : Sto) (i : Nat) : Int := s.least.getD i 0
def solidAt (s : Sto) (i : Nat) : Int := s.solid.getD i (-1)
def ndAt (s : Sto) (i : Nat) : Nd := s.nodes.getD i default
def ofAt (s : Sto) (v : Int) : Option Nat := (s.of.find? fun x => x.1 == v).map Prod.snd
def empty : Sto := ⟨[], [], [], [], []⟩
def push (s : Sto) (d : Nd) (l so : Int) : Sto := ⟨s.nodes ++ [d], s.rep ++ [s.n], s.least ++ [l], s.solid ++ [so], s.of⟩
def name (s : Sto) (v : Int) (i : Nat) : Sto := { s with of := s.of ++ [(v, i)] }
def merge (s : Sto) (a b : Nat) : Sto :=
  ⟨s.nodes, s.rep.map (fun r => if r = b then a else r),
   (if s.leastAt a < 0 ∨ (0 ≤ s.leastAt b ∧ s.leastAt b < s.leastAt a) then s.least.set a (s.leastAt b) else s.least),
   (if s.solidAt a < 0 then s.solid.set a (s.solidAt b) else s.solid), s.of⟩

/-- All indices are parts' indices. -/
structure Ok (s : Sto) : Prop where
  rep : s.rep.length = s.n
  least : s.least.length = s.n
  solid : s.solid.length = s.n
  repLt : ∀ i, i < s.n → s.repAt i < s.n ∧ s.repAt (s.repAt i) = s.repAt i
  solidLt : ∀ i, i < s.n → -1 ≤ s.solidAt i ∧ s.solidAt i < s.n
  kids : ∀ i, i < s.n → ∀ k ∈ (s.ndAt i).kids, k < i
  ofLt : ∀ x ∈ s.of, x.2 < s.n ∧ 0 ≤ x.1 ∧ x.1 ≤ 1048576
end Sto

mutual
/-- Add. -/
def addT : Ty → Sto → Nat × Sto
  | .mk k m nm as v, s =>
    match (if k = 6 then s.ofAt v else none) with
    | some i => (i, s)
    | none =>
      if k = 6 then ((addL as s).2.n, ((addL as s).2.name v (addL as s).2.n).push ⟨k, m, nm, v, (addL as s).1⟩ v (-1))
      else ((addL as s).2.n, (addL as s).2.push ⟨k, m, nm, v, (addL as s).1⟩ (-1) (addL as s).2.n)
def addL : List Ty → Sto → List Nat × Sto
  | [], s => ([], s)
  | a :: as, s => ((addT a s).1 :: (addL as (addT a s).2).1, (addL as (addT a s).2).2)
end
/-- Two parts that are the same head. -/
def clashB (l r : Nd) : Bool := !(l.headB r) || !(l.kids.length == r.kids.length)

/-- meet: false: a clash. -/
def meetF : Nat → List (Nat × Nat) → Sto → Option (Bool × Sto)
  | 0, _, _ => none
  | f + 1, work, s =>
    match work.getLast? with
    | none => some (true, s)
    | some p =>
      if s.repAt p.1 = s.repAt p.2 then meetF f work.dropLast s
      else if s.solidAt (s.repAt p.1) < 0 ∨ s.solidAt (s.repAt p.2) < 0 then meetF f work.dropLast (s.merge (s.repAt p.1) (s.repAt p.2))
      else if clashB (s.ndAt (s.solidAt (s.repAt p.1)).toNat) (s.ndAt (s.solidAt (s.repAt p.2)).toNat) = true then some (false, s.merge (s.repAt p.1) (s.repAt p.2))
      else meetF f (work.dropLast ++ (s.ndAt (s.solidAt (s.repAt p.1)).toNat).kids.zip (s.ndAt (s.solidAt (s.repAt p.2)).toNat).kids) (s.merge (s.repAt p.1) (s.repAt p.2))

/-- What is known of classes: parts and depth; (0, 0): being looked at. -/
abbrev Kn := List (Nat × Int × Int)
def knAt (K : Kn) (i : Nat) : Option (Int × Int) := (K.find? fun x => x.1 == i).map Prod.snd
mutual
/-- size: parts, depth (none: it is in itself), and what is known then. -/
def sizeF : Nat → Sto → Nat → Kn → Option (Option (Int × Int) × Kn)
  | 0, _, _, _ => none
  | f + 1, s, i, K =>
    match knAt K (s.repAt i) with
    | some k => some (if 0 < k.1 then some k else none, K)
    | none =>
      if s.solidAt (s.repAt i) < 0 then some (some (1, 1), K)
      else match sizeL f s (s.ndAt (s.solidAt (s.repAt i)).toNat).kids 1 0 ((s.repAt i, 0, 0) :: K) with
        | none => none
        | some (none, K') => some (none, K')
        | some (some (p, d), K') => some (some (p, d + 1), (s.repAt i, p, d + 1) :: K')
def sizeL : Nat → Sto → List Nat → Int → Int → Kn → Option (Option (Int × Int) × Kn)
  | 0, _, _, _, _, _ => none
  | f + 1, s, [], p, d, K => some (some (p, d), K)
  | f + 1, s, a :: as, p, d, K =>
    match sizeF f s a K with
    | none => none
    | some (none, K') => some (none, K')
    | some (some (q, e), K') => sizeL f s as (min (p + q) 4001) (max d e) K'
end

mutual
/-- build. -/
def buildF : Nat → Sto → Nat → Option Ty
  | 0, _, _ => none
  | f + 1, s, i =>
    if s.solidAt (s.repAt i) < 0 then some (.mk 6 [] [] [] (s.leastAt (s.repAt i)))
    else match buildL f s (s.ndAt (s.solidAt (s.repAt i)).toNat).kids with
      | none => none
      | some as => some (.mk (s.ndAt (s.solidAt (s.repAt i)).toNat).kind (s.ndAt (s.solidAt (s.repAt i)).toNat).mod (s.ndAt (s.solidAt (s.repAt i)).toNat).name as (s.ndAt (s.solidAt (s.repAt i)).toNat).var)
def buildL : Nat → Sto → List Nat → Option (List Ty)
  | 0, _, _ => none
  | f + 1, s, [] => some []
  | f + 1, s, a :: as => match buildF f s a, buildL f s as with
    | some t, some ts => some (t :: ts)
    | _, _ => none
end

end Go.Proofs.YtplnfepdikbpfaaGreatDoor

namespace Go.Proofs.YtplnfepdikbpfaaGreatDoor
set_option linter.unusedVariables false
set_option linter.unusedSimpArgs false

theorem getD_snoc {α : Type} (l : List α) (a d : α) (i : Nat) : (l ++ [a]).getD i d = if i < l.length then l.getD i d else if i = l.length then a else d := by
  simp only [List.getD_eq_getElem?_getD, List.getElem?_append]
  split
  · rfl
  · rename_i h
    by_cases e : i = l.length
    · subst e; simp
    · rw [if_neg e]
      have : i - l.length ≠ 0 := by omega
      obtain ⟨j, hj⟩ : ∃ j, i - l.length = j + 1 := ⟨i - l.length - 1, by omega⟩
      rw [hj]; simp
theorem getD_set {α : Type} (l : List α) (a d : α) (i j : Nat) : (l.set i a).getD j d = if i = j ∧ j < l.length then a else l.getD j d := by
  simp only [List.getD_eq_getElem?_getD, List.getElem?_set]
  by_cases e : i = j
  · subst e
    by_cases h : i < l.length
    · simp [h]
    · simp [h]
  · simp [e]
theorem getD_map {α β : Type} (l : List α) (f : α → β) (d : α) (e : β) (i : Nat) (h : i < l.length) : (l.map f).getD i e = f (l.getD i d) := by
  simp [List.getD_eq_getElem?_getD, List.getElem?_eq_getElem h]
theorem getD_ge {α : Type} (l : List α) (d : α) (i : Nat) (h : l.length ≤ i) : l.getD i d = d := by
  simp [List.getD_eq_getElem?_getD, List.getElem?_eq_none h]

namespace Sto
theorem n_push (s : Sto) (d : Nd) (l so : Int) : (s.push d l so).n = s.n + 1 := by simp [push, n]
theorem n_name (s : Sto) (v : Int) (i : Nat) : (s.name v i).n = s.n := rfl
theorem n_merge (s : Sto) (a b : Nat) : (s.merge a b).n = s.n := rfl
theorem ndAt_push (s : Sto) (d : Nd) (l so : Int) (i : Nat) (h : i ≤ s.n) : (s.push d l so).ndAt i = if i = s.n then d else s.ndAt i := by
  have e0 : (s.push d l so).ndAt i = if i < s.nodes.length then s.nodes.getD i default else if i = s.nodes.length then d else default := getD_snoc _ _ _ _
  rw [e0]
  have hn : s.n = s.nodes.length := rfl
  by_cases e : i = s.n
  · rw [if_neg (by omega), if_pos (by omega), if_pos e]
  · rw [if_pos (by omega), if_neg e]; rfl
theorem repAt_push {s : Sto} (hs : s.rep.length = s.n) (d : Nd) (l so : Int) (i : Nat) (h : i ≤ s.n) : (s.push d l so).repAt i = if i = s.n then s.n else s.repAt i := by
  have e0 : (s.push d l so).repAt i = if i < s.rep.length then s.rep.getD i i else if i = s.rep.length then s.n else i := getD_snoc _ _ _ _
  rw [e0, hs]
  by_cases e : i = s.n
  · rw [if_neg (by omega), if_pos e, if_pos e]
  · rw [if_pos (by omega), if_neg e]; rfl
theorem leastAt_push {s : Sto} (hs : s.least.length = s.n) (d : Nd) (l so : Int) (i : Nat) (h : i ≤ s.n) : (s.push d l so).leastAt i = if i = s.n then l else s.leastAt i := by
  have e0 : (s.push d l so).leastAt i = if i < s.least.length then s.least.getD i 0 else if i = s.least.length then l else 0 := getD_snoc _ _ _ _
  rw [e0, hs]
  by_cases e : i = s.n
  · rw [if_neg (by omega), if_pos e, if_pos e]
  · rw [if_pos (by omega), if_neg e]; rfl
theorem solidAt_push {s : Sto} (hs : s.solid.length = s.n) (d : Nd) (l so : Int) (i : Nat) (h : i ≤ s.n) : (s.push d l so).solidAt i = if i = s.n then so else s.solidAt i := by
  have e0 : (s.push d l so).solidAt i = if i < s.solid.length then s.solid.getD i (-1) else if i = s.solid.length then so else (-1) := getD_snoc _ _ _ _
  rw [e0, hs]
  by_cases e : i = s.n
  · rw [if_neg (by omega), if_pos e, if_pos e]
  · rw [if_pos (by omega), if_neg e]; rfl

theorem Ok.empty : Ok Sto.empty := ⟨rfl, rfl, rfl, fun i h => absurd h (by simp [Sto.empty, Sto.n]), fun i h => absurd h (by simp [Sto.empty, Sto.n]), fun i h => absurd h (by simp [Sto.empty, Sto.n]), fun x h => by simp [Sto.empty] at h⟩
theorem Ok.push {s : Sto} (h : Ok s) (d : Nd) (l so : Int) (hk : ∀ k ∈ d.kids, k < s.n) (hso : so = -1 ∨ so = s.n) : Ok (s.push d l so) := by
  have e := n_push s d l so
  refine ⟨by rw [e]; simp [Sto.push, h.rep], by rw [e]; simp [Sto.push, h.least], by rw [e]; simp [Sto.push, h.solid], fun i hi => ?_, fun i hi => ?_, fun i hi => ?_, fun x hx => ?_⟩
  · rw [e] at hi ⊢
    rw [repAt_push h.rep _ _ _ i (by omega)]
    by_cases ei : i = s.n
    · rw [if_pos ei, repAt_push h.rep _ _ _ _ (by omega), if_pos rfl]
      exact ⟨by omega, rfl⟩
    · rw [if_neg ei]
      obtain ⟨h1, h2⟩ := h.repLt i (by omega)
      rw [repAt_push h.rep _ _ _ _ (by omega), if_neg (by omega), h2]
      exact ⟨by omega, rfl⟩
  · rw [e] at hi ⊢
    rw [solidAt_push h.solid _ _ _ i (by omega)]
    by_cases ei : i = s.n
    · rw [if_pos ei]; rcases hso with rfl | rfl <;> omega
    · rw [if_neg ei]; have := h.solidLt i (by omega); omega
  · rw [e] at hi
    rw [ndAt_push _ _ _ _ _ (by omega)]
    by_cases ei : i = s.n
    · rw [if_pos ei, ei]; exact hk
    · rw [if_neg ei]; exact h.kids i (by omega)
  · have := h.ofLt x hx
    rw [e]; omega
theorem Ok.name {s : Sto} (h : Ok s) (v : Int) (i : Nat) (hi : i ≤ s.n) (hv : 0 ≤ v ∧ v ≤ 1048576) (d : Nd) (l so : Int) (hk : ∀ k ∈ d.kids, k < s.n) (hso : so = -1 ∨ so = s.n) : Ok ((s.name v i).push d l so) := by
  have h0 := h.push d l so hk hso
  refine ⟨h0.rep, h0.least, h0.solid, h0.repLt, h0.solidLt, h0.kids, fun x hx => ?_⟩
  rw [n_push, n_name]
  rcases List.mem_append.1 hx with hx | hx
  · have := h.ofLt x hx; omega
  · rw [List.mem_singleton.1 hx]; omega
theorem rep_lt {s : Sto} (h : Ok s) {i : Nat} (hi : i < s.n) : s.repAt i < s.n := (h.repLt i hi).1
theorem solid_lt {s : Sto} (h : Ok s) {i : Nat} (hi : i < s.n) (hs : ¬ s.solidAt i < 0) : (s.solidAt i).toNat < s.n := by have := h.solidLt i hi; omega
theorem repAt_merge {s : Sto} (h : Ok s) (a b i : Nat) (hi : i < s.n) : (s.merge a b).repAt i = if s.repAt i = b then a else s.repAt i := by
  exact getD_map s.rep _ i i i (by rw [h.rep]; exact hi)
theorem solidAt_merge {s : Sto} (h : Ok s) (a b i : Nat) (ha : a < s.n) : (s.merge a b).solidAt i = if i = a ∧ s.solidAt a < 0 then s.solidAt b else s.solidAt i := by
  have e0 : (s.merge a b).solidAt i = (if s.solidAt a < 0 then s.solid.set a (s.solidAt b) else s.solid).getD i (-1) := rfl
  rw [e0]
  by_cases h1 : s.solidAt a < 0
  · rw [if_pos h1, getD_set]
    by_cases e : i = a
    · rw [if_pos ⟨e.symm, by rw [h.solid]; omega⟩, if_pos ⟨e, h1⟩]
    · rw [if_neg (fun x => e x.1.symm), if_neg (fun x => e x.1)]; rfl
  · rw [if_neg h1, if_neg (fun x => h1 x.2)]; rfl
theorem leastAt_merge {s : Sto} (h : Ok s) (a b i : Nat) (ha : a < s.n) : (s.merge a b).leastAt i = if i = a ∧ (s.leastAt a < 0 ∨ (0 ≤ s.leastAt b ∧ s.leastAt b < s.leastAt a)) then s.leastAt b else s.leastAt i := by
  have e0 : (s.merge a b).leastAt i = (if s.leastAt a < 0 ∨ (0 ≤ s.leastAt b ∧ s.leastAt b < s.leastAt a) then s.least.set a (s.leastAt b) else s.least).getD i 0 := rfl
  rw [e0]
  by_cases h1 : s.leastAt a < 0 ∨ (0 ≤ s.leastAt b ∧ s.leastAt b < s.leastAt a)
  · rw [if_pos h1, getD_set]
    by_cases e : i = a
    · rw [if_pos ⟨e.symm, by rw [h.least]; omega⟩, if_pos ⟨e, h1⟩]
    · rw [if_neg (fun x => e x.1.symm), if_neg (fun x => e x.1)]; rfl
  · rw [if_neg h1, if_neg (fun x => h1 x.2)]; rfl
theorem Ok.merge {s : Sto} (h : Ok s) {a b : Nat} (ha : a < s.n) (hb : b < s.n) (hra : s.repAt a = a) (hrb : s.repAt b = b) (hab : a ≠ b) : Ok (s.merge a b) := by
  refine ⟨by rw [n_merge]; simp [Sto.merge, h.rep], ?_, ?_, fun i hi => ?_, fun i hi => ?_, h.kids, h.ofLt⟩
  · rw [n_merge]; simp only [Sto.merge]; split <;> simp [h.least]
  · rw [n_merge]; simp only [Sto.merge]; split <;> simp [h.solid]
  · rw [n_merge] at hi ⊢
    rw [repAt_merge h a b i hi]
    obtain ⟨h1, h2⟩ := h.repLt i hi
    by_cases e : s.repAt i = b
    · rw [if_pos e, repAt_merge h a b a ha, hra, if_neg hab]; exact ⟨ha, rfl⟩
    · rw [if_neg e, repAt_merge h a b _ h1, h2, if_neg e]; exact ⟨h1, rfl⟩
  · rw [n_merge] at hi ⊢
    rw [solidAt_merge h a b i ha]
    split
    · exact h.solidLt b hb
    · exact h.solidLt i hi
end Sto

theorem countP_flip (f g : Nat → Bool) (b n : Nat) (hb : b < n) (hf : f b = true) (hg : g b = false) (h : ∀ i, i < n → i ≠ b → g i = f i) : (List.range n).countP g + 1 = (List.range n).countP f := by
  induction n with
  | zero => omega
  | succ n ih =>
    rw [List.range_succ, List.countP_append, List.countP_append]
    by_cases e : b = n
    · subst e
      have : (List.range b).countP g = (List.range b).countP f := List.countP_congr fun i hi => by
        have := List.mem_range.1 hi
        rw [h i (by omega) (by omega)]
      rw [this]
      simp [hf, hg]
    · have := ih (by omega) (fun i hi hne => h i (by omega) hne)
      have e2 : List.countP g [n] = List.countP f [n] := by simp [h n (by omega) (Ne.symm e)]
      rw [e2]
      omega
theorem countP_one (f : Nat → Bool) (a n : Nat) (ha : a < n) (hf : f a = true) : 0 < (List.range n).countP f :=
  List.countP_pos_iff.2 ⟨a, List.mem_range.2 ha, hf⟩
namespace Sto
/-- How many classes there are. -/
def roots (s : Sto) : Nat := (List.range s.n).countP fun i => s.repAt i == i
theorem roots_merge {s : Sto} (h : Ok s) {a b : Nat} (ha : a < s.n) (hb : b < s.n) (hra : s.repAt a = a) (hrb : s.repAt b = b) (hab : a ≠ b) : (s.merge a b).roots + 1 = s.roots := by
  unfold roots
  rw [n_merge]
  refine countP_flip _ _ b s.n hb (by simp [hrb]) ?_ fun i hi hne => ?_
  · simp only [repAt_merge h a b b hb, hrb, if_true, beq_eq_false_iff_ne, ne_eq]; exact hab
  · simp only [repAt_merge h a b i hi]
    by_cases e : s.repAt i = b
    · rw [if_pos e, e]
      have h1 : ¬ a = i := by rintro rfl; exact hab (hra.symm.trans e)
      have h2 : ¬ b = i := Ne.symm hne
      rw [Bool.eq_iff_iff]; simp [h1, h2]
    · rw [if_neg e]
theorem roots_push {s : Sto} (h : Ok s) (d : Nd) (l so : Int) : (s.push d l so).roots = s.roots + 1 := by
  unfold roots
  rw [n_push, List.range_succ, List.countP_append]
  have e1 : List.countP (fun i => (s.push d l so).repAt i == i) [s.n] = 1 := by simp [repAt_push h.rep]
  rw [e1]
  congr 1
  refine List.countP_congr fun i hi => ?_
  have := List.mem_range.1 hi
  rw [repAt_push h.rep _ _ _ i (by omega), if_neg (by omega)]
theorem roots_pos {s : Sto} {a : Nat} (ha : a < s.n) (hra : s.repAt a = a) : 0 < s.roots := countP_one _ a s.n ha (by simp [hra])
end Sto

theorem addT_some {k : Int} {m nm : List UInt8} {as : List Ty} {v : Int} {s : Sto} {i : Nat} (hk : k = 6) (h : s.ofAt v = some i) : addT (.mk k m nm as v) s = (i, s) := by
  rw [addT, if_pos hk, h]
theorem addT_var {k : Int} {m nm : List UInt8} {as : List Ty} {v : Int} {s : Sto} (hk : k = 6) (h : s.ofAt v = none) : addT (.mk k m nm as v) s = ((addL as s).2.n, ((addL as s).2.name v (addL as s).2.n).push ⟨k, m, nm, v, (addL as s).1⟩ v (-1)) := by
  rw [addT, if_pos hk, h]; simp only; rw [if_pos hk]
theorem addT_made {k : Int} {m nm : List UInt8} {as : List Ty} {v : Int} {s : Sto} (hk : ¬ k = 6) : addT (.mk k m nm as v) s = ((addL as s).2.n, (addL as s).2.push ⟨k, m, nm, v, (addL as s).1⟩ (-1) (addL as s).2.n) := by
  rw [addT, if_neg hk]; simp only; rw [if_neg hk]
theorem addL_nil (s : Sto) : addL [] s = ([], s) := by rw [addL]
theorem addL_cons (a : Ty) (as : List Ty) (s : Sto) : addL (a :: as) s = ((addT a s).1 :: (addL as (addT a s).2).1, (addL as (addT a s).2).2) := by rw [addL]
theorem addL_length (as : List Ty) (s : Sto) : (addL as s).1.length = as.length := by
  induction as generalizing s with
  | nil => rw [addL]; rfl
  | cons a as ih => rw [addL]; simp [ih]
theorem addL_snoc (as : List Ty) (a : Ty) (s : Sto) : addL (as ++ [a]) s = ((addL as s).1 ++ [(addT a (addL as s).2).1], (addT a (addL as s).2).2) := by
  induction as generalizing s with
  | nil => rw [List.nil_append, addL_cons, addL_nil, addL_nil]; rfl
  | cons b as ih => rw [List.cons_append, addL_cons, addL_cons, ih]; rfl

theorem ofAt_mem {s : Sto} {v : Int} {i : Nat} (h : s.ofAt v = some i) : (v, i) ∈ s.of := by
  unfold Sto.ofAt at h
  obtain ⟨x, hx, rfl⟩ := Option.map_eq_some_iff.1 h
  have h1 := List.mem_of_find?_eq_some hx
  have h2 := List.find?_some hx
  simp only [beq_iff_eq] at h2
  rw [← h2]
  exact h1

/-- Add keeps the indices in range, and adds no more parts than the type has. -/
def AddsOk (t : Ty) : Prop := ∀ (s : Sto) (d : Int), s.Ok → okT t d = true → (addT t s).2.Ok ∧ (addT t s).1 < (addT t s).2.n ∧ s.n ≤ (addT t s).2.n ∧ (addT t s).2.n ≤ s.n + partsT t
theorem addL_ok {as : List Ty} (ih : ∀ t ∈ as, AddsOk t) : ∀ (s : Sto) (d : Int), s.Ok → okL as d = true → (addL as s).2.Ok ∧ (∀ k ∈ (addL as s).1, k < (addL as s).2.n) ∧ s.n ≤ (addL as s).2.n ∧ (addL as s).2.n ≤ s.n + partsL as := by
  induction as with
  | nil => intro s d hs _; rw [addL_nil]; exact ⟨hs, fun k hk => (by simp at hk), Nat.le_refl _, by simp⟩
  | cons a as ih2 =>
    intro s d hs ho
    simp only [okL, Bool.and_eq_true] at ho
    obtain ⟨h1, h2, h3, h4⟩ := ih a (by simp) s d hs ho.1
    obtain ⟨g1, g2, g3, g4⟩ := ih2 (fun t ht => ih t (by simp [ht])) (addT a s).2 d h1 ho.2
    rw [addL_cons]
    refine ⟨g1, fun k hk => ?_, Nat.le_trans h3 g3, ?_⟩
    · rcases List.mem_cons.1 hk with rfl | hk
      · exact Nat.lt_of_lt_of_le h2 g3
      · exact g2 k hk
    · have : partsL (a :: as) = partsT a + partsL as := by simp [partsL]
      rw [this]
      simp only
      omega
theorem addT_ok (t : Ty) : AddsOk t := by
  induction t using Ty.ind with
  | h k m nm as v ih =>
    intro s d hs ho
    have eo : okT (.mk k m nm as v) d = (decide (d ≤ 100) && headB (.mk k m nm as v) && okL as (d + 1)) := by simp [okT]
    rw [eo, Bool.and_eq_true, Bool.and_eq_true] at ho
    obtain ⟨g1, g2, g3, g4⟩ := addL_ok ih s (d + 1) hs ho.2
    have ep : partsT (.mk k m nm as v) = 1 + partsL as := by simp [partsT]
    rw [ep]
    by_cases hk : k = 6
    · have hv : 0 ≤ v ∧ v ≤ 1048576 := by
        have := ho.1.2
        subst hk
        have eh : headB (.mk 6 m nm as v) = ((decide (as.length = 0) && decide (0 ≤ v) && decide (v ≤ 1048576)) && ((6 : Int) == 4 || (m == [] && nm == [])) && ((6 : Int) == 6 || v == 0)) := rfl
        rw [eh] at this
        simp only [Bool.and_eq_true, decide_eq_true_eq] at this
        omega
      cases ho2 : s.ofAt v with
      | some i =>
        rw [addT_some hk ho2]
        exact ⟨hs, (hs.ofLt _ (ofAt_mem ho2)).1, Nat.le_refl _, by simp only; omega⟩
      | none =>
        rw [addT_var hk ho2]
        simp only
        rw [Sto.n_push, Sto.n_name]
        exact ⟨g1.name v _ (Nat.le_refl _) hv _ _ _ g2 (.inl rfl), by omega, by omega, by omega⟩
    · rw [addT_made hk]
      simp only
      rw [Sto.n_push]
      exact ⟨g1.push _ _ _ g2 (.inr rfl), by omega, by omega, by omega⟩

end Go.Proofs.YtplnfepdikbpfaaGreatDoor

namespace Go.Proofs.YtplnfepdikbpfaaGreatDoor
set_option linter.unusedVariables false
set_option linter.unusedSimpArgs false

mutual
/-- Parts and depth of a class's type, with fuel. -/
def szF : Nat → Sto → Nat → Option (Int × Int)
  | 0, _, _ => none
  | f + 1, s, i =>
    if s.solidAt (s.repAt i) < 0 then some (1, 1)
    else match szL f s (s.ndAt (s.solidAt (s.repAt i)).toNat).kids 1 0 with
      | none => none
      | some x => some (x.1, x.2 + 1)
def szL : Nat → Sto → List Nat → Int → Int → Option (Int × Int)
  | 0, _, _, _, _ => none
  | f + 1, s, [], p, d => some (p, d)
  | f + 1, s, a :: as, p, d =>
    match szF f s a with
    | none => none
    | some x => szL f s as (min (p + x.1) 4001) (max d x.2)
end

theorem szF_mono (s : Sto) : ∀ f, (∀ i x, szF f s i = some x → szF (f + 1) s i = some x) ∧ (∀ ks p d x, szL f s ks p d = some x → szL (f + 1) s ks p d = some x) := by
  intro f
  induction f with
  | zero => exact ⟨fun i x h => by simp [szF] at h, fun ks p d x h => by simp [szL] at h⟩
  | succ f ih =>
    constructor
    · intro i x h
      rw [szF] at h ⊢
      split
      · rename_i hs; rw [if_pos hs] at h; exact h
      · rename_i hs
        rw [if_neg hs] at h
        cases hL : szL f s (s.ndAt (s.solidAt (s.repAt i)).toNat).kids 1 0 with
        | none => rw [hL] at h; cases h
        | some y => rw [hL] at h; rw [ih.2 _ _ _ _ hL]; exact h
    · intro ks p d x h
      cases ks with
      | nil => rw [szL] at h ⊢; exact h
      | cons a ks =>
        rw [szL] at h ⊢
        cases hF : szF f s a with
        | none => rw [hF] at h; cases h
        | some y => rw [hF] at h; rw [ih.1 _ _ hF]; exact ih.2 _ _ _ _ h
theorem szF_le {s : Sto} {f g i : Nat} {x : Int × Int} (h : szF f s i = some x) (hg : f ≤ g) : szF g s i = some x := by
  induction hg with
  | refl => exact h
  | step _ ih => exact (szF_mono s _).1 _ _ ih
theorem szF_one {s : Sto} {f g i : Nat} {x y : Int × Int} (h : szF f s i = some x) (k : szF g s i = some y) : x = y := by
  have h1 := szF_le h (Nat.le_max_left f g)
  rw [szF_le k (Nat.le_max_right f g)] at h1
  exact (Option.some.inj h1).symm
theorem szF_pos (s : Sto) : ∀ f, (∀ i x, szF f s i = some x → 1 ≤ x.1) ∧ (∀ ks p d x, 1 ≤ p → szL f s ks p d = some x → 1 ≤ x.1) := by
  intro f
  induction f with
  | zero => exact ⟨fun i x h => by simp [szF] at h, fun ks p d x _ h => by simp [szL] at h⟩
  | succ f ih =>
    constructor
    · intro i x h
      rw [szF] at h
      split at h
      · obtain rfl := Option.some.inj h; exact Int.le_refl _
      · cases hL : szL f s (s.ndAt (s.solidAt (s.repAt i)).toNat).kids 1 0 with
        | none => rw [hL] at h; cases h
        | some y => rw [hL] at h; obtain rfl := Option.some.inj h; exact ih.2 _ 1 0 y (Int.le_refl _) hL
    · intro ks p d x hp h
      cases ks with
      | nil => rw [szL] at h; obtain rfl := Option.some.inj h; exact hp
      | cons a ks =>
        rw [szL] at h
        cases hF : szF f s a with
        | none => rw [hF] at h; cases h
        | some y =>
          rw [hF] at h
          have := ih.1 _ _ hF
          exact ih.2 _ _ _ _ (by omega) h
theorem szF_rep {s : Sto} (hs : s.Ok) {i : Nat} (hi : i < s.n) (f : Nat) : szF f s (s.repAt i) = szF f s i := by
  cases f with
  | zero => rfl
  | succ f => rw [szF, szF, (hs.repLt i hi).2]

theorem sizeF_mono (s : Sto) : ∀ f, (∀ i K x, sizeF f s i K = some x → sizeF (f + 1) s i K = some x) ∧ (∀ ks p d K x, sizeL f s ks p d K = some x → sizeL (f + 1) s ks p d K = some x) := by
  intro f
  induction f with
  | zero => exact ⟨fun i K x h => by simp [sizeF] at h, fun ks p d K x h => by simp [sizeL] at h⟩
  | succ f ih =>
    constructor
    · intro i K x h
      rw [sizeF] at h ⊢
      cases hk : knAt K (s.repAt i) with
      | some k => rw [hk] at h; exact h
      | none =>
        rw [hk] at h
        simp only at h ⊢
        split
        · rename_i hs; rw [if_pos hs] at h; exact h
        · rename_i hs
          rw [if_neg hs] at h
          cases hL : sizeL f s (s.ndAt (s.solidAt (s.repAt i)).toNat).kids 1 0 ((s.repAt i, 0, 0) :: K) with
          | none => rw [hL] at h; cases h
          | some y => rw [hL] at h; rw [ih.2 _ _ _ _ _ hL]; exact h
    · intro ks p d K x h
      cases ks with
      | nil => rw [sizeL] at h ⊢; exact h
      | cons a ks =>
        rw [sizeL] at h ⊢
        cases hF : sizeF f s a K with
        | none => rw [hF] at h; cases h
        | some y =>
          rw [hF] at h
          rw [ih.1 _ _ _ hF]
          obtain ⟨r, K'⟩ := y
          cases r with
          | none => exact h
          | some z => exact ih.2 _ _ _ _ _ h
theorem sizeF_le {s : Sto} {f g i : Nat} {K : Kn} {x : Option (Int × Int) × Kn} (h : sizeF f s i K = some x) (hg : f ≤ g) : sizeF g s i K = some x := by
  induction hg with
  | refl => exact h
  | step _ ih => exact (sizeF_mono s _).1 _ _ _ ih

/-- What is known is true, but for marks. -/
def KnM (s : Sto) (K : Kn) (M : Nat → Prop) : Prop := ∀ j x, knAt K j = some x → (∃ g, szF g s j = some x) ∨ (x = (0, 0) ∧ M j)
theorem knAt_put (u : Nat) (x : Int × Int) (K : Kn) (v : Nat) : knAt ((u, x) :: K) v = if v = u then some x else knAt K v := by
  unfold knAt
  by_cases e : v = u
  · subst e; simp
  · simp [e, Ne.symm e]
theorem KnM.nil (s : Sto) (M : Nat → Prop) : KnM s [] M := fun j x h => by simp [knAt] at h
theorem size_true {s : Sto} (hs : s.Ok) : ∀ f,
    (∀ i x K M, i < s.n → szF f s i = some x → (∀ j, M j → szF f s j = none) → KnM s K M → ∃ K', sizeF f s i K = some (some x, K') ∧ KnM s K' M) ∧
    (∀ ks p d x K M, (∀ k ∈ ks, k < s.n) → szL f s ks p d = some x → (∀ j, M j → szF f s j = none) → KnM s K M → ∃ K', sizeL f s ks p d K = some (some x, K') ∧ KnM s K' M) := by
  intro f
  induction f with
  | zero => exact ⟨fun i x K M _ h => by simp [szF] at h, fun ks p d x K M _ h => by simp [szL] at h⟩
  | succ f ih =>
    constructor
    · intro i x K M hi h hM hK
      have hM' : ∀ j, M j → szF f s j = none := fun j hj => by
        cases e : szF f s j with
        | none => rfl
        | some y => have := (szF_mono s f).1 _ _ e; rw [hM j hj] at this; cases this
      cases hlow : szF f s i with
      | some y =>
        obtain rfl := szF_one hlow h
        obtain ⟨K', h1, h2⟩ := ih.1 i y K M hi hlow hM' hK
        exact ⟨K', (sizeF_mono s f).1 _ _ _ h1, h2⟩
      | none =>
        have hr := Sto.rep_lt hs hi
        have hx1 := (szF_pos s (f + 1)).1 _ _ h
        rw [sizeF]
        cases hk : knAt K (s.repAt i) with
        | some k =>
          rcases hK _ _ hk with ⟨g, hg⟩ | ⟨rfl, hm⟩
          · rw [szF_rep hs hi] at hg
            obtain rfl := szF_one hg h
            exact ⟨K, by simp only; rw [if_pos (by omega)], hK⟩
          · have := hM _ hm
            rw [szF_rep hs hi, h] at this
            cases this
        | none =>
          simp only
          have h0 := h
          rw [szF] at h
          split
          · rename_i hso
            rw [if_pos hso] at h
            obtain rfl := Option.some.inj h
            exact ⟨K, rfl, hK⟩
          · rename_i hso
            rw [if_neg hso] at h
            cases hL : szL f s (s.ndAt (s.solidAt (s.repAt i)).toNat).kids 1 0 with
            | none => rw [hL] at h; cases h
            | some y =>
              rw [hL] at h
              obtain rfl := Option.some.inj h
              have hx := Sto.solid_lt hs hr hso
              have hkids : ∀ k ∈ (s.ndAt (s.solidAt (s.repAt i)).toNat).kids, k < s.n := fun k hk => by have := hs.kids _ hx k hk; omega
              obtain ⟨K', h1, h2⟩ := ih.2 _ 1 0 y ((s.repAt i, 0, 0) :: K) (fun j => M j ∨ j = s.repAt i) hkids hL (fun j hj => hj.elim (hM' j) (fun e => by rw [e, szF_rep hs hi]; exact hlow)) (fun j z hz => by
                rw [knAt_put] at hz
                split at hz
                · rename_i e; exact .inr ⟨(Option.some.inj hz).symm, .inr e⟩
                · exact (hK j z hz).imp id (fun e => ⟨e.1, .inl e.2⟩))
              rw [h1]
              refine ⟨(s.repAt i, y.1, y.2 + 1) :: K', rfl, fun j z hz => ?_⟩
              rw [knAt_put] at hz
              split at hz
              · rename_i e
                obtain rfl := Option.some.inj hz
                exact .inl ⟨f + 1, by rw [e, szF_rep hs hi]; exact h0⟩
              · rename_i e
                exact (h2 j z hz).imp id (fun e2 => ⟨e2.1, e2.2.resolve_right e⟩)
    · intro ks p d x K M hks h hM hK
      have hM' : ∀ j, M j → szF f s j = none := fun j hj => by
        cases e : szF f s j with
        | none => rfl
        | some y => have := (szF_mono s f).1 _ _ e; rw [hM j hj] at this; cases this
      cases ks with
      | nil => rw [szL] at h; obtain rfl := Option.some.inj h; exact ⟨K, by rw [sizeL], hK⟩
      | cons a ks =>
        rw [szL] at h
        cases hF : szF f s a with
        | none => rw [hF] at h; cases h
        | some y =>
          rw [hF] at h
          obtain ⟨K1, h1, h2⟩ := ih.1 a y K M (hks a (by simp)) hF hM' hK
          obtain ⟨K2, h3, h4⟩ := ih.2 ks _ _ x K1 M (fun k hk => hks k (by simp [hk])) h hM' h2
          exact ⟨K2, by rw [sizeL, h1]; exact h3, h4⟩
/-- .. with nothing being looked at. -/
theorem size_is {s : Sto} (hs : s.Ok) {i f : Nat} {x : Int × Int} (hi : i < s.n) (h : szF f s i = some x) {K : Kn} (hK : KnM s K fun _ => False) : ∃ K', sizeF f s i K = some (some x, K') ∧ KnM s K' fun _ => False :=
  (size_true hs f).1 i x K _ hi h (fun _ e => e.elim) hK

/-- All variables' classes have a size; all are small enough. -/
def AllSz (s : Sto) : Prop := ∀ v i, s.ofAt v = some i → ∃ g x, szF g s i = some x
def FitsB (s : Sto) : Prop := ∀ v i g x, s.ofAt v = some i → szF g s i = some x → x.1 ≤ 4000 ∧ x.2 ≤ 100
/-- What Unify answers behind meet. -/
inductive TailIs (s : Sto) (a : Nat) : Int → Prop
  | stop (g : Nat) (K : Kn) : sizeF g s a [] = some (none, K) → TailIs s a 13
  | fits (g : Nat) (x : Int × Int) : szF g s a = some x → AllSz s → FitsB s → TailIs s a 0
  | full (g : Nat) (x : Int × Int) : szF g s a = some x → AllSz s → ¬ FitsB s → TailIs s a 7
/-- What Unify answers: an error, or none and the Store. -/
def UnifyIs (s : Sto) (a b : Nat) (e : Int) (s' : Sto) : Prop :=
  ∃ f r, meetF f [(a, b)] s = some (r, s') ∧ ((r = false ∧ e = 10) ∨ (r = true ∧ s'.roots = s.roots ∧ e = 0) ∨ (r = true ∧ s'.roots ≠ s.roots ∧ TailIs s' a e))

/-- meet keeps the parts and the names. -/
theorem meetF_same : ∀ (f : Nat) (work : List (Nat × Nat)) (s : Sto) (r : Bool × Sto), s.Ok → (∀ x ∈ work, x.1 < s.n ∧ x.2 < s.n) → meetF f work s = some r → r.2.nodes = s.nodes ∧ r.2.of = s.of ∧ r.2.Ok ∧ r.2.roots ≤ s.roots := by
  intro f
  induction f with
  | zero => intro work s r _ _ h; simp [meetF] at h
  | succ f ih =>
    intro work s r hs hw h
    rw [meetF] at h
    cases hl : work.getLast? with
    | none => rw [hl] at h; obtain rfl := Option.some.inj h; exact ⟨rfl, rfl, hs, Nat.le_refl _⟩
    | some p =>
      rw [hl] at h
      simp only at h
      have hp := hw p (List.mem_of_getLast? hl)
      have hd : ∀ x ∈ work.dropLast, x.1 < s.n ∧ x.2 < s.n := fun x hx => hw x (List.dropLast_subset _ hx)
      have ha := Sto.rep_lt hs hp.1
      have hb := Sto.rep_lt hs hp.2
      have hra := (hs.repLt _ hp.1).2
      have hrb := (hs.repLt _ hp.2).2
      split at h
      · exact ih _ s r hs hd h
      · rename_i hne
        have hm := hs.merge ha hb hra hrb hne
        have hr := Sto.roots_merge hs ha hb hra hrb hne
        have lift : ∀ work', (∀ x ∈ work', x.1 < s.n ∧ x.2 < s.n) → meetF f work' (s.merge (s.repAt p.1) (s.repAt p.2)) = some r → r.2.nodes = s.nodes ∧ r.2.of = s.of ∧ r.2.Ok ∧ r.2.roots ≤ s.roots := fun work' hw' h' => by
          obtain ⟨h1, h2, h3, h4⟩ := ih work' _ r hm hw' h'
          exact ⟨h1, h2, h3, by omega⟩
        split at h
        · exact lift _ hd h
        · rename_i hso
          split at h
          · obtain rfl := Option.some.inj h; exact ⟨rfl, rfl, hm, by simp only; omega⟩
          · refine lift _ (fun x hx => ?_) h
            rcases List.mem_append.1 hx with hx | hx
            · exact hd x hx
            · have h1 := hs.kids _ (Sto.solid_lt hs ha (fun e => hso (.inl e))) x.1 (List.of_mem_zip hx).1
              have h2 := hs.kids _ (Sto.solid_lt hs hb (fun e => hso (.inr e))) x.2 (List.of_mem_zip hx).2
              have h3 := Sto.solid_lt hs ha (fun e => hso (.inl e))
              have h4 := Sto.solid_lt hs hb (fun e => hso (.inr e))
              omega

end Go.Proofs.YtplnfepdikbpfaaGreatDoor

namespace Go.Proofs.YtplnfepdikbpfaaGreatDoor
set_option linter.unusedVariables false
set_option linter.unusedSimpArgs false

theorem buildF_mono (s : Sto) : ∀ f, (∀ i t, buildF f s i = some t → buildF (f + 1) s i = some t) ∧ (∀ ks ts, buildL f s ks = some ts → buildL (f + 1) s ks = some ts) := by
  intro f
  induction f with
  | zero => exact ⟨fun i x h => by simp [buildF] at h, fun ks x h => by simp [buildL] at h⟩
  | succ f ih =>
    constructor
    · intro i x h
      rw [buildF] at h ⊢
      split
      · rename_i hs; rw [if_pos hs] at h; exact h
      · rename_i hs
        rw [if_neg hs] at h
        cases hL : buildL f s (s.ndAt (s.solidAt (s.repAt i)).toNat).kids with
        | none => rw [hL] at h; cases h
        | some y => rw [hL] at h; rw [ih.2 _ _ hL]; exact h
    · intro ks x h
      cases ks with
      | nil => rw [buildL] at h ⊢; exact h
      | cons a ks =>
        rw [buildL] at h ⊢
        cases hF : buildF f s a with
        | none => rw [hF] at h; cases h
        | some y =>
          cases hL : buildL f s ks with
          | none => rw [hF, hL] at h; cases h
          | some z => rw [hF, hL] at h; rw [ih.1 _ _ hF, ih.2 _ _ hL]; exact h
theorem buildF_le {s : Sto} {f g i : Nat} {t : Ty} (h : buildF f s i = some t) (hg : f ≤ g) : buildF g s i = some t := by
  induction hg with
  | refl => exact h
  | step _ ih => exact (buildF_mono s _).1 _ _ ih
theorem buildF_one {s : Sto} {f g i : Nat} {x y : Ty} (h : buildF f s i = some x) (k : buildF g s i = some y) : x = y := by
  have h1 := buildF_le h (Nat.le_max_left f g)
  rw [buildF_le k (Nat.le_max_right f g)] at h1
  exact (Option.some.inj h1).symm

/-- All variables' classes have a type. -/
def AllBd (s : Sto) : Prop := ∀ v i, s.ofAt v = some i → ∃ f t, buildF f s i = some t
/-- A pair of the Store: a variable that stands for something else. -/
def PairOf (s : Sto) (x : Int × Ty) : Prop := ∃ i f, s.ofAt x.1 = some i ∧ buildF f s i = some x.2 ∧ ¬ (x.2.kind = 6 ∧ x.2.var = x.1)
/-- All pairs of the Store, sorted. -/
structure BindsIs (s : Sto) (L : List (Int × Ty)) : Prop where
  sorted : L.Pairwise (fun a b => a.1 < b.1)
  mem : ∀ x, x ∈ L ↔ PairOf s x
theorem PairOf.one {s : Sto} {x y : Int × Ty} (hx : PairOf s x) (hy : PairOf s y) (h : x.1 = y.1) : x = y := by
  obtain ⟨i, f, h1, h2, -⟩ := hx
  obtain ⟨j, g, h3, h4, -⟩ := hy
  rw [h, h3] at h1
  obtain rfl := Option.some.inj h1
  exact Prod.ext h (buildF_one h2 h4)
/-- Sorted lists with the same members are one. -/
theorem sorted_one {α : Type} (key : α → Int) : ∀ {L M : List α}, L.Pairwise (fun a b => key a < key b) → M.Pairwise (fun a b => key a < key b) → (∀ x, x ∈ L ↔ x ∈ M) → L = M
  | [], [], _, _, _ => rfl
  | [], b :: M, _, _, h => absurd ((h b).2 (by simp)) (by simp)
  | a :: L, [], _, _, h => absurd ((h a).1 (by simp)) (by simp)
  | a :: L, b :: M, hL, hM, h => by
    rw [List.pairwise_cons] at hL hM
    have hab : a = b := by
      rcases List.mem_cons.1 ((h a).1 (by simp)) with e | e
      · exact e
      · rcases List.mem_cons.1 ((h b).2 (by simp)) with e2 | e2
        · exact e2.symm
        · have h1 := hM.1 a e; have h2 := hL.1 b e2; omega
    subst hab
    have : L = M := sorted_one key hL.2 hM.2 fun x => ⟨fun hx => by
        rcases List.mem_cons.1 ((h x).1 (by simp [hx])) with e | e
        · subst e; have := hL.1 x hx; omega
        · exact e, fun hx => by
        rcases List.mem_cons.1 ((h x).2 (by simp [hx])) with e | e
        · subst e; have := hM.1 x hx; omega
        · exact e⟩
    rw [this]

end Go.Proofs.YtplnfepdikbpfaaGreatDoor

namespace Go.Proofs.YtplnfepdikbpfaaGreatDoor
set_option linter.unusedVariables false
set_option linter.unusedSimpArgs false

mutual
/-- A copy of a type that is not large, and how many parts may still come. -/
def cutT : Ty → Int → Int → Ty × Int
  | .mk k m n xs v, left, d => (.mk k (m.take 200) (n.take 200) (cutL xs (left - 1) d).1 v, (cutL xs (left - 1) d).2)
def cutL : List Ty → Int → Int → List Ty × Int
  | [], r, d => ([], r)
  | a :: xs, r, d => if 0 < r ∧ d ≤ 102 then ((cutT a r (d + 1)).1 :: (cutL xs (cutT a r (d + 1)).2 d).1, (cutL xs (cutT a r (d + 1)).2 d).2) else ([], r)
end
theorem cutT_mk (k : Int) (m n : List UInt8) (xs : List Ty) (v left d : Int) : cutT (.mk k m n xs v) left d = (.mk k (m.take 200) (n.take 200) (cutL xs (left - 1) d).1 v, (cutL xs (left - 1) d).2) := by rw [cutT]
theorem cutL_nil (r d : Int) : cutL [] r d = ([], r) := by rw [cutL]
theorem cutL_go (a : Ty) (xs : List Ty) (r d : Int) (h : 0 < r ∧ d ≤ 102) : cutL (a :: xs) r d = ((cutT a r (d + 1)).1 :: (cutL xs (cutT a r (d + 1)).2 d).1, (cutL xs (cutT a r (d + 1)).2 d).2) := by rw [cutL, if_pos h]
theorem cutL_stop (xs : List Ty) (r d : Int) (h : ¬ (0 < r ∧ d ≤ 102)) : cutL xs r d = ([], r) := by
  cases xs with
  | nil => exact cutL_nil r d
  | cons a xs => rw [cutL, if_neg h]
def CutB (t : Ty) : Prop := ∀ left d : Int, 1 ≤ left → 0 ≤ (cutT t left d).2 ∧ (cutT t left d).2 ≤ left - 1
theorem cutL_b {xs : List Ty} (ih : ∀ a ∈ xs, CutB a) : ∀ r d : Int, 0 ≤ r → 0 ≤ (cutL xs r d).2 ∧ (cutL xs r d).2 + (cutL xs r d).1.length ≤ r := by
  induction xs with
  | nil => intro r d h; rw [cutL_nil]; simp [h]
  | cons a xs ih2 =>
    intro r d h
    by_cases hg : 0 < r ∧ d ≤ 102
    · rw [cutL_go _ _ _ _ hg]
      obtain ⟨h1, h2⟩ := ih a (by simp) r (d + 1) (by omega)
      obtain ⟨h3, h4⟩ := ih2 (fun b hb => ih b (by simp [hb])) (cutT a r (d + 1)).2 d h1
      simp only [List.length_cons]
      omega
    · rw [cutL_stop _ _ _ hg]; simp [h]
theorem cutT_b (t : Ty) : CutB t := by
  induction t using Ty.ind with
  | h k m n xs v ih =>
    intro left d h
    rw [cutT_mk]
    have := cutL_b ih (left - 1) d (by omega)
    simp only
    omega
theorem take_min200 (l : List UInt8) : l.take (min (l.length : Int) 200).toNat = l.take 200 := by
  by_cases h : l.length ≤ 200
  · rw [List.take_of_length_le (by omega), List.take_of_length_le h]
  · congr 1
    omega
/-- The step of the list. -/
theorem cutL_step {xs acc : List Ty} {t : Nat} {rest left d : Int} (ht : t < xs.length) (hg : 0 < rest ∧ d ≤ 102) (h : cutL xs left d = (acc ++ (cutL (xs.drop t) rest d).1, (cutL (xs.drop t) rest d).2)) :
    cutL xs left d = ((acc ++ [(cutT (tyAt xs t) rest (d + 1)).1]) ++ (cutL (xs.drop (t + 1)) (cutT (tyAt xs t) rest (d + 1)).2 d).1, (cutL (xs.drop (t + 1)) (cutT (tyAt xs t) rest (d + 1)).2 d).2) := by
  have e : xs.drop t = tyAt xs t :: xs.drop (t + 1) := by
    rw [List.drop_eq_getElem_cons ht]
    congr 1
    simp [tyAt, List.getD_eq_getElem?_getD, List.getElem?_eq_getElem ht]
  rw [h, e, cutL_go _ _ _ _ hg]
  simp

end Go.Proofs.YtplnfepdikbpfaaGreatDoor
