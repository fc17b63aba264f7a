/- Types interpreted in algebras whose heads tell themselves and their parts; the Store's parts as values; what a Store asks; what Add does. No program in sight. No condition. What meet does, plain: it always answers; without a clash the Store asks just what it asked and what was to be met; a clash: nothing satisfies that. No program in sight. No condition. The types of a Store's classes: there is one for each class just if finite types satisfy the Store; the substitution that they make is most general; trees satisfy each Store that meet has left; sizes. No program in sight. No condition. What the Store's Unify answers, plain: it always answers, and its answer hangs on what is asked alone. No program in sight. No condition. -/
import Derived.Test.YtplnfepdikbpfaaGreatDoorUA
namespace Go.Proofs.YtplnfepdikbpfaaGreatDoor
set_option linter.unusedVariables false
set_option linter.unusedSimpArgs false

/-- What types are interpreted in: a head and its parts can be told from what they make. -/
structure Alg where
  T : Type
  op : Int → List UInt8 → List UInt8 → Int → List T → T
  inj : ∀ {k m n v xs k' m' n' v' ys}, op k m n v xs = op k' m' n' v' ys → k = k' ∧ m = m' ∧ n = n' ∧ v = v' ∧ xs = ys

mutual
/-- A type's value, the variables' values given. -/
def ev (A : Alg) (τ : Int → A.T) : Ty → A.T
  | .mk k m n xs v => if k = 6 then τ v else A.op k m n v (evL A τ xs)
def evL (A : Alg) (τ : Int → A.T) : List Ty → List A.T
  | [] => []
  | a :: xs => ev A τ a :: evL A τ xs
end
theorem evL_map (A : Alg) (τ : Int → A.T) (xs : List Ty) : evL A τ xs = xs.map (ev A τ) := by
  induction xs with
  | nil => rfl
  | cons a xs ih => simp [evL, ih]
theorem ev_mk (A : Alg) (τ : Int → A.T) (k : Int) (m n : List UInt8) (xs : List Ty) (v : Int) : ev A τ (.mk k m n xs v) = if k = 6 then τ v else A.op k m n v (xs.map (ev A τ)) := by rw [ev, evL_map]
/-- A variable. -/
abbrev vTy (v : Int) : Ty := .mk 6 [] [] [] v
theorem ev_var (A : Alg) (τ : Int → A.T) (v : Int) : ev A τ (vTy v) = τ v := by rw [ev_mk, if_pos rfl]
/-- The types themselves. -/
abbrev TyA : Alg := ⟨Ty, fun k m n v xs => .mk k m n xs v, fun h => by injection h with h1 h2 h3 h4 h5; exact ⟨h1, h2, h3, h5, h4⟩⟩
/-- Substitution in an interpreted type. -/
theorem ev_ev (A : Alg) (τ : Int → A.T) (θ : Int → Ty) (t : Ty) : ev A τ (ev TyA θ t) = ev A (fun v => ev A τ (θ v)) t := by
  induction t using Ty.ind with
  | h k m n xs v ih =>
    rw [ev_mk TyA, ev_mk A]
    by_cases hk : k = 6
    · rw [if_pos hk, if_pos hk]
    · rw [if_neg hk, if_neg hk]
      show ev A τ (.mk k m n (xs.map (ev TyA θ)) v) = _
      rw [ev_mk, if_neg hk, List.map_map]
      congr 1
      exact List.map_congr_left fun a ha => ih a ha
theorem ev_congr (A : Alg) {τ τ' : Int → A.T} (t : Ty) (h : ∀ v, τ v = τ' v) : ev A τ t = ev A τ' t := by
  have : τ = τ' := funext h
  rw [this]

/-- The value of a part, with fuel. -/
def vF (A : Alg) (τ : Int → A.T) (L : List Nd) : Nat → Nat → A.T
  | 0, _ => τ 0
  | f + 1, i => if (L.getD i default).kind = 6 then τ (L.getD i default).var else A.op (L.getD i default).kind (L.getD i default).mod (L.getD i default).name (L.getD i default).var ((L.getD i default).kids.map (vF A τ L f))
def vN (A : Alg) (τ : Int → A.T) (L : List Nd) (i : Nat) : A.T := vF A τ L (i + 1) i
/-- Parts come behind their own parts. -/
def KidsLt (L : List Nd) : Prop := ∀ i, i < L.length → ∀ k ∈ (L.getD i default).kids, k < i
theorem vF_eq (A : Alg) (τ : Int → A.T) {L : List Nd} (hL : KidsLt L) : ∀ i f, i < L.length → i < f → vF A τ L f i = vN A τ L i := by
  intro i
  induction i using Nat.strongRecOn with
  | ind i ih =>
    intro f hi hf
    obtain ⟨f, rfl⟩ : ∃ g, f = g + 1 := ⟨f - 1, by omega⟩
    unfold vN
    rw [vF, vF]
    split
    · rfl
    · congr 1
      refine List.map_congr_left fun k hk => ?_
      have hki := hL i hi k hk
      rw [ih k hki f (by omega) (by omega), ih k hki i (by omega) (by omega)]
theorem vN_eq (A : Alg) (τ : Int → A.T) {L : List Nd} (hL : KidsLt L) {i : Nat} (hi : i < L.length) : vN A τ L i = if (L.getD i default).kind = 6 then τ (L.getD i default).var else A.op (L.getD i default).kind (L.getD i default).mod (L.getD i default).name (L.getD i default).var ((L.getD i default).kids.map (vN A τ L)) := by
  unfold vN
  rw [vF]
  split
  · rfl
  · congr 1
    exact List.map_congr_left fun k hk => vF_eq A τ hL k i (by have := hL i hi k hk; omega) (hL i hi k hk)
theorem vN_ext (A : Alg) (τ : Int → A.T) {L M : List Nd} (hL : KidsLt L) (hM : KidsLt M) (hl : L.length ≤ M.length) (h : ∀ i, i < L.length → M.getD i default = L.getD i default) : ∀ i, i < L.length → vN A τ M i = vN A τ L i := by
  intro i
  induction i using Nat.strongRecOn with
  | ind i ih =>
    intro hi
    rw [vN_eq A τ hM (by omega), vN_eq A τ hL hi, h i hi]
    split
    · rfl
    · congr 1
      exact List.map_congr_left fun k hk => ih k (hL i hi k hk) (by have := hL i hi k hk; omega)
theorem Sto.Ok.kidsLt {s : Sto} (h : s.Ok) : KidsLt s.nodes := h.kids

/-- Values that a Store asks: parts of one class have one value. -/
def satS (A : Alg) (τ : Int → A.T) (s : Sto) : Prop := ∀ i, i < s.n → vN A τ s.nodes i = vN A τ s.nodes (s.repAt i)
/-- A head that may be. -/
def hdOk (d : Nd) : Bool := headB (.mk d.kind d.mod d.name (List.replicate d.kids.length default) d.var)
def hdN (k : Int) (m n : List UInt8) (len : Nat) (v : Int) : Bool :=
  (if k = 1 ∨ k = 2 ∨ k = 3 then decide (len = 0)
   else if k = 4 then nameB m false && nameB n true && decide (len ≤ 12)
   else if k = 5 then decide (1 ≤ len) && decide (len ≤ 13)
   else if k = 6 then decide (len = 0) && decide (0 ≤ v) && decide (v ≤ 1048576)
   else false) && (k == 4 || (m == [] && n == [])) && (k == 6 || v == 0)
theorem headB_hdN (k : Int) (m n : List UInt8) (xs : List Ty) (v : Int) : headB (.mk k m n xs v) = hdN k m n xs.length v := rfl
theorem hdOk_of {k : Int} {m n : List UInt8} {xs : List Ty} {v : Int} {kids : List Nat} (h : headB (.mk k m n xs v) = true) (hl : kids.length = xs.length) : hdOk ⟨k, m, n, v, kids⟩ = true := by
  unfold hdOk
  rw [headB_hdN] at h ⊢
  rw [List.length_replicate]
  simp only
  rw [hl]
  exact h
/-- A Store in order. -/
structure WS (s : Sto) : Prop where
  ok : s.Ok
  var : ∀ i, i < s.n → (s.ndAt i).kind = 6 → s.ofAt (s.ndAt i).var = some i
  of : ∀ v i, s.ofAt v = some i → i < s.n ∧ (s.ndAt i).kind = 6 ∧ (s.ndAt i).var = v
  solid : ∀ r, r < s.n → s.repAt r = r → 0 ≤ s.solidAt r → s.repAt (s.solidAt r).toNat = r ∧ (s.ndAt (s.solidAt r).toNat).kind ≠ 6
  flex : ∀ i, i < s.n → s.solidAt (s.repAt i) < 0 → (s.ndAt i).kind = 6
  least : ∀ i, i < s.n → s.solidAt (s.repAt i) < 0 → s.leastAt (s.repAt i) ≤ (s.ndAt i).var ∧ ∃ j, j < s.n ∧ s.repAt j = s.repAt i ∧ (s.ndAt j).var = s.leastAt (s.repAt i)
  hd : ∀ i, i < s.n → hdOk (s.ndAt i) = true
theorem hdOk_var {d : Nd} (h : hdOk d = true) (hk : d.kind = 6) : d.mod = [] ∧ d.name = [] ∧ d.kids = [] ∧ 0 ≤ d.var ∧ d.var ≤ 1048576 := by
  obtain ⟨k, m, n, v, kids⟩ := d
  simp only at hk
  subst hk
  simp [hdOk, headB, Ty.kind, Ty.mod, Ty.name, Ty.args, Ty.var] at h
  exact ⟨h.2.1, h.2.2, h.1.1.1, of_decide_eq_true h.1.1.2, of_decide_eq_true h.1.2⟩
theorem WS.varIn {s : Sto} (h : WS s) {i : Nat} (hi : i < s.n) (hk : (s.ndAt i).kind = 6) : 0 ≤ (s.ndAt i).var ∧ (s.ndAt i).var ≤ 1048576 := (hdOk_var (h.hd i hi) hk).2.2.2
theorem WS.empty : WS Sto.empty := ⟨Sto.Ok.empty, fun i h => absurd h (by simp [Sto.empty, Sto.n]), fun v i h => by simp [Sto.ofAt, Sto.empty] at h, fun i h => absurd h (by simp [Sto.empty, Sto.n]), fun i h => absurd h (by simp [Sto.empty, Sto.n]), fun i h => absurd h (by simp [Sto.empty, Sto.n]), fun i h => absurd h (by simp [Sto.empty, Sto.n])⟩

/-- A relation that holds within classes and of what is waiting. -/
structure EqvOver (s : Sto) (work : List (Nat × Nat)) (E : Nat → Nat → Prop) : Prop where
  refl : ∀ i, E i i
  symm : ∀ i j, E i j → E j i
  trans : ∀ i j k, E i j → E j k → E i k
  cls : ∀ i j, i < s.n → j < s.n → s.repAt i = s.repAt j → E i j
  work : ∀ p ∈ work, E p.1 p.2
/-- The part that is no variable of a part's class. -/
def solOf (s : Sto) (i : Nat) : Nat := (s.solidAt (s.repAt i)).toNat
/-- Parts of one class that are no variables have one head, and parts that are the same, as soon as what is waiting is. -/
def Cl (s : Sto) (work : List (Nat × Nat)) : Prop := ∀ i, i < s.n → (s.ndAt i).kind ≠ 6 → (s.ndAt i).headB (s.ndAt (solOf s i)) = true ∧ (s.ndAt i).kids.length = (s.ndAt (solOf s i)).kids.length ∧
  ∀ E, EqvOver s work E → ∀ k, k < (s.ndAt i).kids.length → E ((s.ndAt i).kids.getD k 0) ((s.ndAt (solOf s i)).kids.getD k 0)
theorem Cl.empty : Cl Sto.empty [] := fun i h => absurd h (by simp [Sto.empty, Sto.n])
theorem headB_iff (a b : Nd) : a.headB b = true ↔ a.kind = b.kind ∧ a.mod = b.mod ∧ a.name = b.name ∧ a.var = b.var := by
  simp [Nd.headB, and_assoc]

/-- A Store to which parts have been added, each a class of its own. -/
structure Ext (s s' : Sto) : Prop where
  n : s.n ≤ s'.n
  nd : ∀ i, i < s.n → s'.ndAt i = s.ndAt i
  rep : ∀ i, i < s.n → s'.repAt i = s.repAt i
  solid : ∀ i, i < s.n → s'.solidAt i = s.solidAt i
  new : ∀ i, s.n ≤ i → i < s'.n → s'.repAt i = i ∧ ((s'.ndAt i).kind ≠ 6 → s'.solidAt i = i)
  of : ∀ v i, s.ofAt v = some i → s'.ofAt v = some i
theorem Ext.refl (s : Sto) : Ext s s := ⟨Nat.le_refl _, fun _ _ => rfl, fun _ _ => rfl, fun _ _ => rfl, fun i h1 h2 => by omega, fun _ _ h => h⟩
theorem Ext.trans {s t u : Sto} (h : Ext s t) (k : Ext t u) : Ext s u := by
  refine ⟨Nat.le_trans h.n k.n, fun i hi => (k.nd i (Nat.lt_of_lt_of_le hi h.n)).trans (h.nd i hi), fun i hi => (k.rep i (Nat.lt_of_lt_of_le hi h.n)).trans (h.rep i hi), fun i hi => (k.solid i (Nat.lt_of_lt_of_le hi h.n)).trans (h.solid i hi), fun i h1 h2 => ?_, fun v i hv => k.of v i (h.of v i hv)⟩
  by_cases hi : i < t.n
  · rw [k.rep i hi, k.nd i hi, k.solid i hi]
    exact h.new i h1 hi
  · exact k.new i (by omega) h2
theorem Ext.vN {s s' : Sto} (h : Ext s s') (h1 : s.Ok) (h2 : s'.Ok) (A : Alg) (τ : Int → A.T) (i : Nat) (hi : i < s.n) : vN A τ s'.nodes i = vN A τ s.nodes i :=
  vN_ext A τ h1.kidsLt h2.kidsLt h.n h.nd i hi
theorem Ext.sat {s s' : Sto} (h : Ext s s') (h1 : s.Ok) (h2 : s'.Ok) (A : Alg) (τ : Int → A.T) : satS A τ s' ↔ satS A τ s := by
  constructor
  · intro hs i hi
    have := hs i (Nat.lt_of_lt_of_le hi h.n)
    rw [h.rep i hi, h.vN h1 h2 A τ i hi, h.vN h1 h2 A τ _ (Sto.rep_lt h1 hi)] at this
    exact this
  · intro hs i hi
    by_cases hi2 : i < s.n
    · rw [h.rep i hi2, h.vN h1 h2 A τ i hi2, h.vN h1 h2 A τ _ (Sto.rep_lt h1 hi2)]
      exact hs i hi2
    · rw [(h.new i (by omega) hi).1]
theorem Ext.cl {s s' : Sto} (h : Ext s s') (h1 : WS s) (hc : Cl s []) : Cl s' [] := by
  intro i hi hk
  by_cases hi2 : i < s.n
  · rw [h.nd i hi2] at hk
    have hr := Sto.rep_lt h1.ok hi2
    have hs : ¬ s.solidAt (s.repAt i) < 0 := fun e => hk (h1.flex i hi2 e)
    have es : solOf s' i = solOf s i := by unfold solOf; rw [h.rep i hi2, h.solid _ hr]
    have hsl : solOf s i < s.n := Sto.solid_lt h1.ok hr hs
    rw [es, h.nd i hi2, h.nd _ hsl]
    obtain ⟨c1, c2, c3⟩ := hc i hi2 hk
    refine ⟨c1, c2, fun E hE k hk => c3 E ⟨hE.refl, hE.symm, hE.trans, fun a b ha hb hab => hE.cls a b (Nat.lt_of_lt_of_le ha h.n) (Nat.lt_of_lt_of_le hb h.n) (by rw [h.rep a ha, h.rep b hb, hab]), fun p hp => by cases hp⟩ k hk⟩
  · obtain ⟨e1, e2⟩ := h.new i (by omega) hi
    have es : solOf s' i = i := by unfold solOf; rw [e1, e2 hk]; simp
    rw [es]
    exact ⟨by rw [headB_iff]; exact ⟨rfl, rfl, rfl, rfl⟩, rfl, fun E hE k _ => hE.refl _⟩

theorem ofAt_nm (s : Sto) (v : Int) (i : Nat) (u : Int) : (s.name v i).ofAt u = match s.ofAt u with | some j => some j | none => if u = v then some i else none := by
  simp only [Sto.ofAt, Sto.name, List.find?_append]
  cases h : s.of.find? (fun x => x.1 == u) with
  | some x => simp
  | none =>
    by_cases e : u = v
    · subst e; simp
    · have : (v == u) = false := by simpa using fun h => e h.symm
      simp [List.find?_cons, this, e]

theorem ext_push (s : Sto) (h : WS s) (d : Nd) (l so : Int) (hd : d.kind ≠ 6 → so = s.n) : Ext s (s.push d l so) := by
  refine ⟨by rw [Sto.n_push]; omega, fun i hi => ?_, fun i hi => ?_, fun i hi => ?_, fun i h1 h2 => ?_, fun v i hv => hv⟩
  · rw [Sto.ndAt_push _ _ _ _ _ (by omega), if_neg (by omega)]
  · rw [Sto.repAt_push h.ok.rep _ _ _ _ (by omega), if_neg (by omega)]
  · rw [Sto.solidAt_push h.ok.solid _ _ _ _ (by omega), if_neg (by omega)]
  · rw [Sto.n_push] at h2
    obtain rfl : i = s.n := by omega
    rw [Sto.repAt_push h.ok.rep _ _ _ _ (by omega), if_pos rfl, Sto.ndAt_push _ _ _ _ _ (by omega), if_pos rfl, Sto.solidAt_push h.ok.solid _ _ _ _ (by omega), if_pos rfl]
    exact ⟨rfl, hd⟩
theorem ws_push {s : Sto} (h : WS s) (d : Nd) (hk : d.kind ≠ 6) (hkids : ∀ k ∈ d.kids, k < s.n) (hh : hdOk d = true) : WS (s.push d (-1) s.n) := by
  have hE := ext_push s h d (-1) s.n (fun _ => rfl)
  have hn := Sto.n_push s d (-1) s.n
  have new := hE.new s.n (Nat.le_refl _) (by omega)
  have nd' : (s.push d (-1) s.n).ndAt s.n = d := by rw [Sto.ndAt_push _ _ _ _ _ (by omega), if_pos rfl]
  have so' : (s.push d (-1) s.n).solidAt s.n = s.n := new.2 (by rw [nd']; exact hk)
  have le' : ∀ i, i < s.n → (s.push d (-1) s.n).leastAt i = s.leastAt i := fun i hi => by rw [Sto.leastAt_push h.ok.least _ _ _ _ (by omega), if_neg (by omega)]
  have cases_ : ∀ i, i < (s.push d (-1) s.n).n → i = s.n ∨ i < s.n := fun i hi => by omega
  refine ⟨h.ok.push d _ _ hkids (.inr rfl), fun i hi hk6 => ?_, fun v i hv => ?_, fun r hr hrr hso => ?_, fun i hi hso => ?_, fun i hi hso => ?_, fun i hi => ?_⟩
  · rcases cases_ i hi with rfl | hi
    · rw [nd'] at hk6; exact absurd hk6 hk
    · rw [hE.nd i hi] at hk6 ⊢; exact h.var i hi hk6
  · obtain ⟨h1, h2, h3⟩ := h.of v i hv
    rw [hE.nd i h1]; exact ⟨by omega, h2, h3⟩
  · rcases cases_ r hr with rfl | hr
    · rw [so', Int.toNat_natCast, nd']; exact ⟨new.1, hk⟩
    · rw [hE.rep r hr] at hrr
      rw [hE.solid r hr] at hso ⊢
      have hl : (s.solidAt r).toNat < s.n := Sto.solid_lt h.ok hr (by omega)
      rw [hE.rep _ hl, hE.nd _ hl]; exact h.solid r hr hrr hso
  · rcases cases_ i hi with rfl | hi
    · rw [new.1, so'] at hso; omega
    · have hr := Sto.rep_lt h.ok hi
      rw [hE.rep i hi, hE.solid _ hr] at hso
      rw [hE.nd i hi]; exact h.flex i hi hso
  · rcases cases_ i hi with rfl | hi
    · rw [new.1, so'] at hso; omega
    · have hr := Sto.rep_lt h.ok hi
      rw [hE.rep i hi, hE.solid _ hr] at hso
      rw [hE.nd i hi, hE.rep i hi, le' _ hr]
      obtain ⟨g1, j, g2, g3, g4⟩ := h.least i hi hso
      exact ⟨g1, j, by omega, by rw [hE.rep j g2]; exact g3, by rw [hE.nd j g2]; exact g4⟩
  · rcases cases_ i hi with rfl | hi
    · rw [nd']; exact hh
    · rw [hE.nd i hi]; exact h.hd i hi
theorem ws_name {s : Sto} (h : WS s) (d : Nd) (hk : d.kind = 6) (hno : s.ofAt d.var = none) (hh : hdOk d = true) : WS ((s.name d.var s.n).push d d.var (-1)) ∧ Ext s ((s.name d.var s.n).push d d.var (-1)) := by
  obtain ⟨hm1, hm2, hkids, hv0, hv1⟩ := hdOk_var hh hk
  have hE0 := ext_push s h d d.var (-1) (fun e => absurd hk e)
  have hn : ((s.name d.var s.n).push d d.var (-1)).n = s.n + 1 := Sto.n_push _ _ _ _
  have hof : ∀ u, ((s.name d.var s.n).push d d.var (-1)).ofAt u = match s.ofAt u with | some j => some j | none => if u = d.var then some s.n else none := fun u => ofAt_nm s d.var s.n u
  have hE : Ext s ((s.name d.var s.n).push d d.var (-1)) := ⟨by omega, hE0.nd, hE0.rep, hE0.solid, fun i h1 h2 => hE0.new i h1 (by rw [Sto.n_push]; omega), fun v i hv => by rw [hof, hv]⟩
  have new : ((s.name d.var s.n).push d d.var (-1)).repAt s.n = s.n := (hE.new s.n (Nat.le_refl _) (by omega)).1
  have nd' : ((s.name d.var s.n).push d d.var (-1)).ndAt s.n = d := by
    have := Sto.ndAt_push s d d.var (-1) s.n (by omega)
    rw [if_pos rfl] at this
    exact this
  have so' : ((s.name d.var s.n).push d d.var (-1)).solidAt s.n = -1 := by
    have := Sto.solidAt_push h.ok.solid d d.var (-1) s.n (by omega)
    rw [if_pos rfl] at this
    exact this
  have le' : ∀ i, i ≤ s.n → ((s.name d.var s.n).push d d.var (-1)).leastAt i = if i = s.n then d.var else s.leastAt i := fun i hi => Sto.leastAt_push h.ok.least d d.var (-1) i hi
  have cases_ : ∀ i, i < ((s.name d.var s.n).push d d.var (-1)).n → i = s.n ∨ i < s.n := fun i hi => by omega
  refine ⟨⟨h.ok.name _ _ (Nat.le_refl _) ⟨hv0, hv1⟩ d _ _ (by rw [hkids]; intro k hk; cases hk) (.inl rfl), fun i hi hk6 => ?_, fun v i hv => ?_, fun r hr hrr hso => ?_, fun i hi hso => ?_, fun i hi hso => ?_, fun i hi => ?_⟩, hE⟩
  · rcases cases_ i hi with rfl | hi
    · rw [nd', hof, hno, if_pos rfl]
    · rw [hE.nd i hi] at hk6 ⊢; exact hE.of _ _ (h.var i hi hk6)
  · rw [hof] at hv
    cases ho : s.ofAt v with
    | some j =>
      rw [ho] at hv
      obtain rfl := Option.some.inj hv
      obtain ⟨h1, h2, h3⟩ := h.of v j ho
      rw [hE.nd j h1]; exact ⟨by omega, h2, h3⟩
    | none =>
      rw [ho] at hv
      simp only at hv
      split at hv
      · rename_i e
        obtain rfl := Option.some.inj hv
        rw [nd']; exact ⟨by omega, hk, e.symm⟩
      · cases hv
  · rcases cases_ r hr with rfl | hr
    · rw [so'] at hso; omega
    · rw [hE.rep r hr] at hrr
      rw [hE.solid r hr] at hso ⊢
      have hl : (s.solidAt r).toNat < s.n := Sto.solid_lt h.ok hr (by omega)
      rw [hE.rep _ hl, hE.nd _ hl]; exact h.solid r hr hrr hso
  · rcases cases_ i hi with rfl | hi
    · rw [nd']; exact hk
    · have hr := Sto.rep_lt h.ok hi
      rw [hE.rep i hi, hE.solid _ hr] at hso
      rw [hE.nd i hi]; exact h.flex i hi hso
  · rcases cases_ i hi with rfl | hi
    · rw [new, nd', le' _ (Nat.le_refl _), if_pos rfl]
      exact ⟨Int.le_refl _, s.n, by omega, new, by rw [nd']⟩
    · have hr := Sto.rep_lt h.ok hi
      rw [hE.rep i hi, hE.solid _ hr] at hso
      rw [hE.nd i hi, hE.rep i hi, le' _ (by omega), if_neg (by omega)]
      obtain ⟨g1, j, g2, g3, g4⟩ := h.least i hi hso
      exact ⟨g1, j, by omega, by rw [hE.rep j g2]; exact g3, by rw [hE.nd j g2]; exact g4⟩
  · rcases cases_ i hi with rfl | hi
    · rw [nd']; exact hh
    · rw [hE.nd i hi]; exact h.hd i hi

/-- What Add leaves. -/
structure AddIs (t : Ty) (s : Sto) (i : Nat) (s' : Sto) : Prop where
  ws : WS s'
  ext : Ext s s'
  lt : i < s'.n
  val : ∀ (A : Alg) (τ : Int → A.T), vN A τ s'.nodes i = ev A τ t
  few : s'.n ≤ s.n + partsT t
structure AddsIs (xs : List Ty) (s : Sto) (ks : List Nat) (s' : Sto) : Prop where
  ws : WS s'
  ext : Ext s s'
  lt : ∀ k ∈ ks, k < s'.n
  len : ks.length = xs.length
  val : ∀ (A : Alg) (τ : Int → A.T), ks.map (vN A τ s'.nodes) = xs.map (ev A τ)
  few : s'.n ≤ s.n + partsL xs
def AddsWell (t : Ty) : Prop := ∀ (s : Sto) (d : Int), WS s → okT t d = true → AddIs t s (addT t s).1 (addT t s).2
theorem addL_is {xs : List Ty} (ih : ∀ t ∈ xs, AddsWell t) : ∀ (s : Sto) (d : Int), WS s → okL xs d = true → AddsIs xs s (addL xs s).1 (addL xs s).2 := by
  induction xs with
  | nil => intro s d h _; rw [addL_nil]; exact ⟨h, Ext.refl s, fun k hk => (by cases hk), rfl, fun _ _ => rfl, Nat.le_add_right _ _⟩
  | cons a xs ih2 =>
    intro s d h ho
    have e : okL (a :: xs) d = (okT a d && okL xs d) := by simp [okL]
    rw [e, Bool.and_eq_true] at ho
    have ha := ih a (by simp) s d h ho.1
    have hl := ih2 (fun t ht => ih t (by simp [ht])) _ d ha.ws ho.2
    rw [addL_cons]
    refine ⟨hl.ws, ha.ext.trans hl.ext, fun k hk => ?_, by simp [hl.len], fun A τ => ?_, ?_⟩
    · rcases List.mem_cons.1 hk with rfl | hk
      · exact Nat.lt_of_lt_of_le ha.lt hl.ext.n
      · exact hl.lt k hk
    · simp only [List.map_cons]
      rw [hl.val A τ, hl.ext.vN ha.ws.ok hl.ws.ok A τ _ ha.lt, ha.val A τ]
    · have := ha.few; have := hl.few
      simp only [partsL]
      omega
theorem addT_is (t : Ty) : AddsWell t := by
  induction t using Ty.ind with
  | h k m n xs v ih =>
    intro s d h ho
    have eo : okT (.mk k m n xs v) d = (decide (d ≤ 100) && headB (.mk k m n xs v) && okL xs (d + 1)) := by simp [okT]
    rw [eo, Bool.and_eq_true, Bool.and_eq_true] at ho
    have ep : partsT (.mk k m n xs v) = 1 + partsL xs := by simp [partsT]
    have hl := addL_is ih s (d + 1) h ho.2
    have hh := hdOk_of (kids := (addL xs s).1) ho.1.2 hl.len
    by_cases hk : k = 6
    · subst hk
      obtain ⟨-, -, hkn, -, -⟩ := hdOk_var hh rfl
      have hx : xs = [] := by
        have := hl.len
        simp only at hkn
        rw [hkn] at this
        exact List.eq_nil_of_length_eq_zero this.symm
      subst hx
      rw [addL_nil] at hh hl
      cases hof : s.ofAt v with
      | some i =>
        rw [addT_some rfl hof]
        obtain ⟨h1, h2, h3⟩ := h.of v i hof
        refine ⟨h, Ext.refl s, h1, fun A τ => ?_, by simp only; omega⟩
        rw [vN_eq A τ h.ok.kidsLt h1, ev_mk, if_pos rfl]
        have h2' : (s.nodes.getD i default).kind = 6 := h2
        have h3' : (s.nodes.getD i default).var = v := h3
        rw [if_pos h2', h3']
      | none =>
        rw [addT_var rfl (by exact hof), addL_nil]
        obtain ⟨hw, hE⟩ := ws_name h ⟨6, m, n, v, []⟩ rfl hof hh
        refine ⟨hw, hE, ?_, fun A τ => ?_, ?_⟩
        · rw [Sto.n_push, Sto.n_name]; exact Nat.lt_succ_self _
        · have hlt : s.n < ((s.name v s.n).push ⟨6, m, n, v, []⟩ v (-1)).n := by rw [Sto.n_push, Sto.n_name]; exact Nat.lt_succ_self _
          have e : ((s.name v s.n).push ⟨6, m, n, v, []⟩ v (-1)).nodes.getD s.n default = ⟨6, m, n, v, []⟩ := by
            have := Sto.ndAt_push s ⟨6, m, n, v, []⟩ v (-1) s.n (Nat.le_refl _)
            rw [if_pos rfl] at this
            exact this
          rw [vN_eq A τ hw.ok.kidsLt hlt, e, if_pos rfl, ev_mk, if_pos rfl]
        · rw [Sto.n_push, Sto.n_name]; simp only; omega
    · rw [addT_made hk]
      have hw := ws_push hl.ws ⟨k, m, n, v, (addL xs s).1⟩ hk hl.lt hh
      have hE := ext_push (addL xs s).2 hl.ws ⟨k, m, n, v, (addL xs s).1⟩ (-1) (addL xs s).2.n (fun _ => rfl)
      refine ⟨hw, hl.ext.trans hE, by rw [Sto.n_push]; exact Nat.lt_succ_self _, fun A τ => ?_, ?_⟩
      · have hlt : (addL xs s).2.n < ((addL xs s).2.push ⟨k, m, n, v, (addL xs s).1⟩ (-1) (addL xs s).2.n).n := by rw [Sto.n_push]; exact Nat.lt_succ_self _
        have e : ((addL xs s).2.push ⟨k, m, n, v, (addL xs s).1⟩ (-1) (addL xs s).2.n).nodes.getD (addL xs s).2.n default = ⟨k, m, n, v, (addL xs s).1⟩ := by
          have := Sto.ndAt_push (addL xs s).2 ⟨k, m, n, v, (addL xs s).1⟩ (-1) (addL xs s).2.n (addL xs s).2.n (Nat.le_refl _)
          rw [if_pos rfl] at this
          exact this
        rw [vN_eq A τ hw.ok.kidsLt hlt, e, if_neg hk, ev_mk, if_neg hk, ← hl.val A τ]
        congr 1
        exact List.map_congr_left fun j hj => hE.vN hl.ws.ok hw.ok A τ j (hl.lt j hj)
      · have := hl.few
        rw [Sto.n_push]
        omega

end Go.Proofs.YtplnfepdikbpfaaGreatDoor

namespace Go.Proofs.YtplnfepdikbpfaaGreatDoor
set_option linter.unusedVariables false
set_option linter.unusedSimpArgs false

theorem ws_merge {s : Sto} (h : WS s) {a b : Nat} (ha : a < s.n) (hb : b < s.n) (hra : s.repAt a = a) (hrb : s.repAt b = b) (hab : a ≠ b) : WS (s.merge a b) := by
  have rep' := fun i hi => Sto.repAt_merge h.ok a b i hi
  have sol' := fun i => Sto.solidAt_merge h.ok a b i ha
  have lea' := fun i => Sto.leastAt_merge h.ok a b i ha
  refine ⟨h.ok.merge ha hb hra hrb hab, h.var, h.of, fun r hr hrr hso => ?_, fun i hi hso => ?_, fun i hi hso => ?_, h.hd⟩
  · have hr : r < s.n := hr
    rw [rep' r hr] at hrr
    rw [sol'] at hso ⊢
    by_cases e : r = a
    · subst e
      by_cases h1 : s.solidAt r < 0
      · rw [if_pos ⟨rfl, h1⟩] at hso ⊢
        obtain ⟨g1, g2⟩ := h.solid b hb hrb hso
        have hl : (s.solidAt b).toNat < s.n := Sto.solid_lt h.ok hb (by omega)
        exact ⟨by rw [rep' _ hl, if_pos g1], g2⟩
      · rw [if_neg (fun x => h1 x.2)] at hso ⊢
        obtain ⟨g1, g2⟩ := h.solid r hr hra hso
        have hl : (s.solidAt r).toNat < s.n := Sto.solid_lt h.ok hr (by omega)
        exact ⟨by rw [rep' _ hl, g1, if_neg hab], g2⟩
    · rw [if_neg (fun x => e x.1)] at hso ⊢
      have hrb2 : s.repAt r ≠ b := fun x => by rw [if_pos x] at hrr; exact e hrr.symm
      rw [if_neg hrb2] at hrr
      obtain ⟨g1, g2⟩ := h.solid r hr hrr hso
      have hl : (s.solidAt r).toNat < s.n := Sto.solid_lt h.ok hr (by omega)
      rw [hrr] at hrb2
      exact ⟨by rw [rep' _ hl, g1, if_neg hrb2], g2⟩
  · have hi : i < s.n := hi
    refine h.flex i hi ?_
    rw [rep' i hi, sol'] at hso
    by_cases e : s.repAt i = b
    · rw [if_pos e] at hso
      rw [e]
      by_cases h1 : s.solidAt a < 0
      · rw [if_pos ⟨rfl, h1⟩] at hso; exact hso
      · rw [if_neg (fun x => h1 x.2)] at hso; omega
    · rw [if_neg e] at hso
      by_cases e2 : s.repAt i = a
      · rw [e2] at hso ⊢
        by_cases h1 : s.solidAt a < 0
        · exact h1
        · rw [if_neg (fun x => h1 x.2)] at hso; exact hso
      · rw [if_neg (fun x => e2 x.1)] at hso; exact hso
  · have hi : i < s.n := hi
    have e0 : (s.merge a b).ndAt i = s.ndAt i := rfl
    rw [rep' i hi] at hso ⊢
    rw [sol'] at hso
    by_cases hc : s.repAt i = a ∨ s.repAt i = b
    · have ec : (if s.repAt i = b then a else s.repAt i) = a := by
        rcases hc with e | e
        · rw [e]; split <;> rfl
        · rw [if_pos e]
      rw [ec] at hso ⊢
      have hso2 : s.solidAt a < 0 ∧ s.solidAt b < 0 := by
        by_cases h1 : s.solidAt a < 0
        · rw [if_pos ⟨rfl, h1⟩] at hso; exact ⟨h1, hso⟩
        · rw [if_neg (fun x => h1 x.2)] at hso; omega
      obtain ⟨ga, ja, la1, la2, la3⟩ := h.least a ha (by rw [hra]; exact hso2.1)
      obtain ⟨gb, jb, lb1, lb2, lb3⟩ := h.least b hb (by rw [hrb]; exact hso2.2)
      rw [hra] at ga la2 la3
      rw [hrb] at gb lb2 lb3
      have va := h.varIn la1 (h.flex ja la1 (by rw [la2]; exact hso2.1))
      have vb := h.varIn lb1 (h.flex jb lb1 (by rw [lb2]; exact hso2.2))
      rw [lea']
      have hle : s.leastAt (s.repAt i) ≤ (s.ndAt i).var := (h.least i hi (by rcases hc with e | e <;> rw [e]; exact hso2.1; exact hso2.2)).1
      rw [e0]
      by_cases h2 : s.leastAt a < 0 ∨ (0 ≤ s.leastAt b ∧ s.leastAt b < s.leastAt a)
      · rw [if_pos ⟨rfl, h2⟩]
        refine ⟨?_, jb, lb1, ?_, lb3⟩
        · rcases hc with e | e <;> rw [e] at hle <;> omega
        · rw [rep' jb lb1, if_pos lb2]
      · rw [if_neg (fun x => h2 x.2)]
        refine ⟨?_, ja, la1, ?_, la3⟩
        · rcases hc with e | e <;> rw [e] at hle <;> omega
        · rw [rep' ja la1, la2, if_neg hab]
    · have e1 : s.repAt i ≠ b := fun e => hc (.inr e)
      have e2 : s.repAt i ≠ a := fun e => hc (.inl e)
      rw [if_neg e1] at hso ⊢
      rw [if_neg (fun x => e2 x.1)] at hso
      rw [lea', if_neg (fun x => e2 x.1), e0]
      obtain ⟨g1, j, g2, g3, g4⟩ := h.least i hi hso
      exact ⟨g1, j, g2, by rw [rep' j g2, g3, if_neg e1], g4⟩

theorem sat_merge {s : Sto} (h : s.Ok) {a b : Nat} (ha : a < s.n) (hb : b < s.n) (hra : s.repAt a = a) (hrb : s.repAt b = b) (A : Alg) (τ : Int → A.T) : satS A τ (s.merge a b) ↔ satS A τ s ∧ vN A τ s.nodes a = vN A τ s.nodes b := by
  have rep' := fun i hi => Sto.repAt_merge h a b i hi
  constructor
  · intro hs
    have hb' := hs b hb
    rw [rep' b hb, if_pos hrb] at hb'
    refine ⟨fun i hi => ?_, hb'.symm⟩
    have hi' := hs i hi
    rw [rep' i hi] at hi'
    by_cases e : s.repAt i = b
    · rw [if_pos e] at hi'
      rw [e]
      exact hi'.trans hb'.symm
    · rw [if_neg e] at hi'; exact hi'
  · rintro ⟨hs, hab⟩ i hi
    have hi : i < s.n := hi
    show vN A τ s.nodes i = vN A τ s.nodes ((s.merge a b).repAt i)
    rw [rep' i hi]
    by_cases e : s.repAt i = b
    · rw [if_pos e, hab, ← e]; exact hs i hi
    · rw [if_neg e]; exact hs i hi

/-- The value of a part that is no variable. -/
theorem vN_op {s : Sto} (h : s.Ok) (A : Alg) (τ : Int → A.T) {i : Nat} (hi : i < s.n) (hk : (s.ndAt i).kind ≠ 6) : vN A τ s.nodes i = A.op (s.ndAt i).kind (s.ndAt i).mod (s.ndAt i).name (s.ndAt i).var ((s.ndAt i).kids.map (vN A τ s.nodes)) := by
  rw [vN_eq A τ h.kidsLt hi]
  exact if_neg hk
theorem vN_var {s : Sto} (h : s.Ok) (A : Alg) (τ : Int → A.T) {i : Nat} (hi : i < s.n) (hk : (s.ndAt i).kind = 6) : vN A τ s.nodes i = τ (s.ndAt i).var := by
  rw [vN_eq A τ h.kidsLt hi]
  exact if_pos hk
/-- Parts with one value: their heads, their parts' values. -/
theorem vN_inj {s : Sto} (h : s.Ok) (A : Alg) (τ : Int → A.T) {x y : Nat} (hx : x < s.n) (hy : y < s.n) (kx : (s.ndAt x).kind ≠ 6) (ky : (s.ndAt y).kind ≠ 6) (e : vN A τ s.nodes x = vN A τ s.nodes y) : (s.ndAt x).headB (s.ndAt y) = true ∧ (s.ndAt x).kids.map (vN A τ s.nodes) = (s.ndAt y).kids.map (vN A τ s.nodes) := by
  rw [vN_op h A τ hx kx, vN_op h A τ hy ky] at e
  obtain ⟨h1, h2, h3, h4, h5⟩ := A.inj e
  exact ⟨by rw [headB_iff]; exact ⟨h1, h2, h3, h4⟩, h5⟩

/-- What holds behind meet without a clash. -/
structure MeetOk (s s' : Sto) (work : List (Nat × Nat)) : Prop where
  ws : WS s'
  cl : Cl s' []
  nodes : s'.nodes = s.nodes
  of : s'.of = s.of
  sat : ∀ (A : Alg) (τ : Int → A.T), satS A τ s' ↔ satS A τ s ∧ ∀ p ∈ work, vN A τ s.nodes p.1 = vN A τ s.nodes p.2
  cls : ∀ i j, i < s.n → j < s.n → s.repAt i = s.repAt j → s'.repAt i = s'.repAt j
  met : ∀ p ∈ work, s'.repAt p.1 = s'.repAt p.2
  tch : ∀ P : Nat → Prop, (∀ i j, i < s.n → j < s.n → s'.repAt i = s'.repAt j → P i → P j) → (∀ i, i < s.n → (s.ndAt i).kind ≠ 6 → P i → ∀ k ∈ (s.ndAt i).kids, P k) → (∀ p ∈ work, P p.1) →
    ∀ i, i < s.n → P i ∨ (s'.repAt i = s.repAt i ∧ s'.solidAt (s'.repAt i) = s.solidAt (s.repAt i))
  roots : s'.roots = s.roots → s' = s
def MeetAns (s : Sto) (work : List (Nat × Nat)) : Prop := ∃ f r s', meetF f work s = some (r, s') ∧ ((r = true ∧ MeetOk s s' work) ∨
  (r = false ∧ ∀ (A : Alg) (τ : Int → A.T), ¬ (satS A τ s ∧ ∀ p ∈ work, vN A τ s.nodes p.1 = vN A τ s.nodes p.2)))

theorem cl_merge {s : Sto} (h : WS s) {wd work' : List (Nat × Nat)} {p : Nat × Nat} (hc : Cl s (wd ++ [p])) (hp : p.1 < s.n ∧ p.2 < s.n) (hne : s.repAt p.1 ≠ s.repAt p.2) (hsub : ∀ q ∈ wd, q ∈ work')
    (hz : ¬ s.solidAt (s.repAt p.1) < 0 → ¬ s.solidAt (s.repAt p.2) < 0 → (s.ndAt (solOf s p.1)).headB (s.ndAt (solOf s p.2)) = true ∧ (s.ndAt (solOf s p.1)).kids.length = (s.ndAt (solOf s p.2)).kids.length ∧
      ∀ k, k < (s.ndAt (solOf s p.1)).kids.length → ((s.ndAt (solOf s p.1)).kids.getD k 0, (s.ndAt (solOf s p.2)).kids.getD k 0) ∈ work') : Cl (s.merge (s.repAt p.1) (s.repAt p.2)) work' := by
  have ha := Sto.rep_lt h.ok hp.1
  have hb := Sto.rep_lt h.ok hp.2
  have hra := (h.ok.repLt _ hp.1).2
  have hrb := (h.ok.repLt _ hp.2).2
  have rep' := fun i hi => Sto.repAt_merge h.ok (s.repAt p.1) (s.repAt p.2) i hi
  have sol' := fun i => Sto.solidAt_merge h.ok (s.repAt p.1) (s.repAt p.2) i ha
  have over : ∀ E, EqvOver (s.merge (s.repAt p.1) (s.repAt p.2)) work' E → EqvOver s (wd ++ [p]) E := fun E hE => by
    refine ⟨hE.refl, hE.symm, hE.trans, fun i j hi hj hij => hE.cls i j hi hj (by rw [rep' i hi, rep' j hj, hij]), fun q hq => ?_⟩
    rcases List.mem_append.1 hq with hq | hq
    · exact hE.work q (hsub q hq)
    · rw [List.mem_singleton.1 hq]
      exact hE.cls _ _ hp.1 hp.2 (by rw [rep' _ hp.1, rep' _ hp.2, if_pos rfl, if_neg hne])
  intro i hi hk
  have hi : i < s.n := hi
  have hk : (s.ndAt i).kind ≠ 6 := hk
  obtain ⟨c1, c2, c3⟩ := hc i hi hk
  have hso : ¬ s.solidAt (s.repAt i) < 0 := fun e => hk (h.flex i hi e)
  show (s.ndAt i).headB (s.ndAt (solOf (s.merge (s.repAt p.1) (s.repAt p.2)) i)) = true ∧ (s.ndAt i).kids.length = (s.ndAt (solOf (s.merge (s.repAt p.1) (s.repAt p.2)) i)).kids.length ∧ ∀ E, EqvOver (s.merge (s.repAt p.1) (s.repAt p.2)) work' E → ∀ k, k < (s.ndAt i).kids.length → E ((s.ndAt i).kids.getD k 0) ((s.ndAt (solOf (s.merge (s.repAt p.1) (s.repAt p.2)) i)).kids.getD k 0)
  by_cases hbig : s.repAt i = s.repAt p.2 ∧ ¬ s.solidAt (s.repAt p.1) < 0
  · obtain ⟨e, h1⟩ := hbig
    have es : solOf (s.merge (s.repAt p.1) (s.repAt p.2)) i = solOf s p.1 := by unfold solOf; rw [rep' i hi, if_pos e, sol', if_neg (fun x => h1 x.2)]
    have ei : solOf s i = solOf s p.2 := by unfold solOf; rw [e]
    rw [e] at hso
    rw [ei] at c1 c2 c3
    rw [es]
    obtain ⟨z1, z2, z3⟩ := hz h1 hso
    rw [headB_iff] at c1 z1 ⊢
    refine ⟨⟨c1.1.trans z1.1.symm, c1.2.1.trans z1.2.1.symm, c1.2.2.1.trans z1.2.2.1.symm, c1.2.2.2.trans z1.2.2.2.symm⟩, c2.trans z2.symm, fun E hE k hkk => ?_⟩
    exact hE.trans _ _ _ (c3 E (over E hE) k hkk) (hE.symm _ _ (hE.work _ (z3 k (by omega))))
  · have es : solOf (s.merge (s.repAt p.1) (s.repAt p.2)) i = solOf s i := by
      unfold solOf
      rw [rep' i hi]
      by_cases e : s.repAt i = s.repAt p.2
      · have h1 : s.solidAt (s.repAt p.1) < 0 := by
          by_cases h1 : s.solidAt (s.repAt p.1) < 0
          · exact h1
          · exact absurd ⟨e, h1⟩ hbig
        rw [if_pos e, sol', if_pos ⟨rfl, h1⟩, e]
      · rw [if_neg e, sol']
        by_cases e2 : s.repAt i = s.repAt p.1
        · rw [e2] at hso ⊢
          rw [if_neg (fun x => hso x.2)]
        · rw [if_neg (fun x => e2 x.1)]
    rw [es]
    exact ⟨c1, c2, fun E hE k hkk => c3 E (over E hE) k hkk⟩

theorem zip_getD {a b : List Nat} (hl : a.length = b.length) {k : Nat} (hk : k < a.length) : (a.getD k 0, b.getD k 0) ∈ a.zip b := by
  have h2 : k < (a.zip b).length := by rw [List.length_zip]; omega
  have : (a.zip b)[k] = (a.getD k 0, b.getD k 0) := by
    simp [List.getElem_zip, List.getD_eq_getElem?_getD, List.getElem?_eq_getElem hk, List.getElem?_eq_getElem (show k < b.length by omega)]
  rw [← this]
  exact List.getElem_mem h2
theorem zip_val {α : Type} {f : Nat → α} : ∀ {a b : List Nat}, a.map f = b.map f → ∀ q ∈ a.zip b, f q.1 = f q.2
  | [], _, _, q, hq => by simp at hq
  | _ :: _, [], _, q, hq => by simp at hq
  | x :: a, y :: b, h, q, hq => by
    simp only [List.map_cons, List.cons.injEq] at h
    rcases List.mem_cons.1 hq with rfl | hq
    · exact h.1
    · exact zip_val h.2 q hq

/-- From behind the merge of what was waiting to ahead of it. -/
theorem meet_lift {s s' : Sto} (h : WS s) {wd work' : List (Nat × Nat)} {p : Nat × Nat} (hp : p.1 < s.n ∧ p.2 < s.n) (hne : s.repAt p.1 ≠ s.repAt p.2) (hsub : ∀ q ∈ wd, q ∈ work')
    (hnew : ∀ q ∈ work', q ∈ wd ∨ (¬ s.solidAt (s.repAt p.1) < 0 ∧ q.1 ∈ (s.ndAt (solOf s p.1)).kids))
    (hval : ∀ (A : Alg) (τ : Int → A.T), satS A τ s → vN A τ s.nodes p.1 = vN A τ s.nodes p.2 → ∀ q ∈ work', q ∈ wd ∨ vN A τ s.nodes q.1 = vN A τ s.nodes q.2)
    (hroots : s'.roots < s.roots) (hm : MeetOk (s.merge (s.repAt p.1) (s.repAt p.2)) s' work') : MeetOk s s' (wd ++ [p]) := by
  have ha := Sto.rep_lt h.ok hp.1
  have hb := Sto.rep_lt h.ok hp.2
  have hra := (h.ok.repLt _ hp.1).2
  have hrb := (h.ok.repLt _ hp.2).2
  have rep' := fun i hi => Sto.repAt_merge h.ok (s.repAt p.1) (s.repAt p.2) i hi
  have sol' := fun i => Sto.solidAt_merge h.ok (s.repAt p.1) (s.repAt p.2) i ha
  have cls : ∀ i j, i < s.n → j < s.n → s.repAt i = s.repAt j → s'.repAt i = s'.repAt j := fun i j hi hj hij => hm.cls i j hi hj (by rw [rep' i hi, rep' j hj, hij])
  have metp : s'.repAt p.1 = s'.repAt p.2 := hm.cls _ _ hp.1 hp.2 (by rw [rep' _ hp.1, rep' _ hp.2, if_pos rfl, if_neg hne])
  refine ⟨hm.ws, hm.cl, hm.nodes, hm.of, fun A τ => ?_, cls, fun q hq => ?_, fun P hP1 hP2 hP3 i hi => ?_, fun e => by omega⟩
  · have e1 : ∀ q : Nat × Nat, vN A τ (s.merge (s.repAt p.1) (s.repAt p.2)).nodes q.1 = vN A τ s.nodes q.1 := fun _ => rfl
    rw [hm.sat A τ, sat_merge h.ok ha hb hra hrb]
    constructor
    · rintro ⟨⟨h1, h2⟩, h3⟩
      refine ⟨h1, fun q hq => ?_⟩
      rcases List.mem_append.1 hq with hq | hq
      · exact h3 q (hsub q hq)
      · rw [List.mem_singleton.1 hq, h1 _ hp.1, h1 _ hp.2]; exact h2
    · rintro ⟨h1, h2⟩
      have hpp := h2 p (by simp)
      refine ⟨⟨h1, ?_⟩, fun q hq => ?_⟩
      · rw [← h1 _ hp.1, ← h1 _ hp.2]; exact hpp
      · rcases hval A τ h1 hpp q hq with h3 | h3
        · exact h2 q (by simp [h3])
        · exact h3
  · rcases List.mem_append.1 hq with hq | hq
    · exact hm.met q (hsub q hq)
    · rw [List.mem_singleton.1 hq]; exact metp
  · have Pp : P p.1 := hP3 p (by simp)
    have hq : ∀ q ∈ work', P q.1 := fun q hq => by
      rcases hnew q hq with h3 | ⟨h3, h4⟩
      · exact hP3 q (by simp [h3])
      · obtain ⟨g1, g2⟩ := h.solid _ ha hra (by omega)
        have hl : solOf s p.1 < s.n := Sto.solid_lt h.ok ha h3
        exact hP2 _ hl g2 (hP1 p.1 _ hp.1 hl (cls _ _ hp.1 hl g1.symm) Pp) _ h4
    rcases hm.tch P hP1 hP2 hq i hi with h3 | ⟨h3, h4⟩
    · exact .inl h3
    · by_cases e1 : s.repAt i = s.repAt p.1
      · exact .inl (hP1 p.1 i hp.1 hi (cls _ _ hp.1 hi e1.symm) Pp)
      · by_cases e2 : s.repAt i = s.repAt p.2
        · exact .inl (hP1 p.1 i hp.1 hi (metp.trans (cls _ _ hp.2 hi e2.symm)) Pp)
        · rw [rep' i hi, if_neg e2] at h3 h4
          rw [sol', if_neg (fun x => e1 x.1)] at h4
          exact .inr ⟨h3, h4⟩

theorem meet_total : ∀ (R L : Nat) (s : Sto) (work : List (Nat × Nat)), WS s → Cl s work → (∀ x ∈ work, x.1 < s.n ∧ x.2 < s.n) → s.roots = R → work.length ≤ L → MeetAns s work := by
  intro R
  induction R using Nat.strongRecOn with
  | ind R ihR =>
    intro L
    induction L with
    | zero =>
      intro s work h hc _ _ hL
      obtain rfl : work = [] := List.eq_nil_of_length_eq_zero (by omega)
      exact ⟨1, true, s, by rw [meetF]; rfl, .inl ⟨rfl, h, hc, rfl, rfl, fun A τ => by simp, fun _ _ _ _ e => e, fun p hp => (by cases hp), fun _ _ _ _ i _ => .inr ⟨rfl, rfl⟩, fun _ => rfl⟩⟩
    | succ L ihL =>
      intro s work h hc hw hR hL
      rcases List.eq_nil_or_concat work with rfl | ⟨wd, p, rfl⟩
      · exact ihL s [] h hc hw hR (Nat.zero_le _)
      · rw [List.concat_eq_append] at *
        have hp := hw p (by simp)
        have hwd : ∀ x ∈ wd, x.1 < s.n ∧ x.2 < s.n := fun x hx => hw x (by simp [hx])
        have hl : (wd ++ [p]).getLast? = some p := by simp
        have hdl : (wd ++ [p]).dropLast = wd := by simp
        have ha := Sto.rep_lt h.ok hp.1
        have hb := Sto.rep_lt h.ok hp.2
        have hra := (h.ok.repLt _ hp.1).2
        have hrb := (h.ok.repLt _ hp.2).2
        by_cases hne : s.repAt p.1 = s.repAt p.2
        · have hc2 : Cl s wd := fun i hi hk => by
            obtain ⟨c1, c2, c3⟩ := hc i hi hk
            refine ⟨c1, c2, fun E hE k hk => c3 E ⟨hE.refl, hE.symm, hE.trans, hE.cls, fun q hq => ?_⟩ k hk⟩
            rcases List.mem_append.1 hq with hq | hq
            · exact hE.work q hq
            · rw [List.mem_singleton.1 hq]; exact hE.cls _ _ hp.1 hp.2 hne
          obtain ⟨f, r, s', hf, hr⟩ := ihL s wd h hc2 hwd hR (by simp at hL; omega)
          have vp : ∀ (A : Alg) (τ : Int → A.T), satS A τ s → vN A τ s.nodes p.1 = vN A τ s.nodes p.2 := fun A τ hs => by rw [hs _ hp.1, hs _ hp.2, hne]
          refine ⟨f + 1, r, s', ?_, ?_⟩
          · rw [meetF, hl]; simp only; rw [if_pos hne, hdl]; exact hf
          · rcases hr with ⟨rfl, hm⟩ | ⟨rfl, hn⟩
            · refine .inl ⟨rfl, hm.ws, hm.cl, hm.nodes, hm.of, fun A τ => ?_, hm.cls, fun q hq => ?_, fun P h1 h2 h3 => hm.tch P h1 h2 fun q hq => h3 q (by simp [hq]), hm.roots⟩
              · rw [hm.sat]
                constructor
                · rintro ⟨h1, h2⟩
                  refine ⟨h1, fun q hq => ?_⟩
                  rcases List.mem_append.1 hq with hq | hq
                  · exact h2 q hq
                  · rw [List.mem_singleton.1 hq]; exact vp A τ h1
                · rintro ⟨h1, h2⟩
                  exact ⟨h1, fun q hq => h2 q (by simp [hq])⟩
              · rcases List.mem_append.1 hq with hq | hq
                · exact hm.met q hq
                · rw [List.mem_singleton.1 hq]; exact hm.cls _ _ hp.1 hp.2 hne
            · exact .inr ⟨rfl, fun A τ hs => hn A τ ⟨hs.1, fun q hq => hs.2 q (by simp [hq])⟩⟩
        · have hW1 := ws_merge h ha hb hra hrb hne
          have hR1 := Sto.roots_merge h.ok ha hb hra hrb hne
          have n1 : (s.merge (s.repAt p.1) (s.repAt p.2)).n = s.n := rfl
          by_cases hso : s.solidAt (s.repAt p.1) < 0 ∨ s.solidAt (s.repAt p.2) < 0
          · have hc1 : Cl (s.merge (s.repAt p.1) (s.repAt p.2)) wd := cl_merge h hc hp hne (fun q hq => hq) (fun h1 h2 => by rcases hso with e | e; exact absurd e h1; exact absurd e h2)
            obtain ⟨f, r, s', hf, hr⟩ := ihR _ (by omega) wd.length _ wd hW1 hc1 hwd rfl (Nat.le_refl _)
            have hroots : s'.roots < s.roots := by
              have := (meetF_same f wd _ (r, s') hW1.ok hwd hf).2.2.2
              simp only at this
              omega
            refine ⟨f + 1, r, s', ?_, ?_⟩
            · rw [meetF, hl]; simp only; rw [if_neg hne, if_pos hso, hdl]; exact hf
            · rcases hr with ⟨rfl, hm⟩ | ⟨rfl, hn⟩
              · exact .inl ⟨rfl, meet_lift h hp hne (fun q hq => hq) (fun q hq => .inl hq) (fun A τ _ _ q hq => .inl hq) hroots hm⟩
              · refine .inr ⟨rfl, fun A τ hs => hn A τ ⟨(sat_merge h.ok ha hb hra hrb A τ).2 ⟨hs.1, ?_⟩, fun q hq => hs.2 q (by simp [hq])⟩⟩
                rw [← hs.1 _ hp.1, ← hs.1 _ hp.2]
                exact hs.2 p (by simp)
          · have h1 : ¬ s.solidAt (s.repAt p.1) < 0 := fun e => hso (.inl e)
            have h2 : ¬ s.solidAt (s.repAt p.2) < 0 := fun e => hso (.inr e)
            obtain ⟨gx1, gx2⟩ := h.solid _ ha hra (by omega)
            obtain ⟨gy1, gy2⟩ := h.solid _ hb hrb (by omega)
            have hx : solOf s p.1 < s.n := Sto.solid_lt h.ok ha h1
            have hy : solOf s p.2 < s.n := Sto.solid_lt h.ok hb h2
            have hxy : ∀ (A : Alg) (τ : Int → A.T), satS A τ s → vN A τ s.nodes p.1 = vN A τ s.nodes p.2 → (s.ndAt (solOf s p.1)).headB (s.ndAt (solOf s p.2)) = true ∧ (s.ndAt (solOf s p.1)).kids.map (vN A τ s.nodes) = (s.ndAt (solOf s p.2)).kids.map (vN A τ s.nodes) := fun A τ hs hpp => by
              refine vN_inj h.ok A τ hx hy gx2 gy2 ?_
              rw [hs _ hx, hs _ hy]
              show vN A τ s.nodes (s.repAt (s.solidAt (s.repAt p.1)).toNat) = vN A τ s.nodes (s.repAt (s.solidAt (s.repAt p.2)).toNat)
              rw [gx1, gy1, ← hs _ hp.1, ← hs _ hp.2]
              exact hpp
            by_cases hcl : clashB (s.ndAt (solOf s p.1)) (s.ndAt (solOf s p.2)) = true
            · refine ⟨1, false, s.merge (s.repAt p.1) (s.repAt p.2), ?_, .inr ⟨rfl, fun A τ hs => ?_⟩⟩
              · rw [meetF, hl]; simp only; rw [if_neg hne, if_neg hso]
                unfold solOf at hcl
                rw [if_pos hcl]
              · obtain ⟨g1, g2⟩ := hxy A τ hs.1 (hs.2 p (by simp))
                have g3 := congrArg List.length g2
                rw [List.length_map, List.length_map] at g3
                unfold clashB at hcl
                rw [g1, g3] at hcl
                simp at hcl
            · have hcl2 : (s.ndAt (solOf s p.1)).headB (s.ndAt (solOf s p.2)) = true ∧ (s.ndAt (solOf s p.1)).kids.length = (s.ndAt (solOf s p.2)).kids.length := by
                unfold clashB at hcl
                simp only [Bool.or_eq_true, Bool.not_eq_true', beq_eq_false_iff_ne, not_or, Bool.not_eq_false, Decidable.not_not, ne_eq] at hcl
                exact hcl
              have hc1 : Cl (s.merge (s.repAt p.1) (s.repAt p.2)) (wd ++ (s.ndAt (solOf s p.1)).kids.zip (s.ndAt (solOf s p.2)).kids) := cl_merge h hc hp hne (fun q hq => by simp [hq]) (fun _ _ => ⟨hcl2.1, hcl2.2, fun k hk => List.mem_append.2 (.inr (zip_getD hcl2.2 hk))⟩)
              have hw1 : ∀ q ∈ wd ++ (s.ndAt (solOf s p.1)).kids.zip (s.ndAt (solOf s p.2)).kids, q.1 < s.n ∧ q.2 < s.n := fun q hq => by
                rcases List.mem_append.1 hq with hq | hq
                · exact hwd q hq
                · have k1 := h.ok.kids _ hx q.1 (List.of_mem_zip hq).1
                  have k2 := h.ok.kids _ hy q.2 (List.of_mem_zip hq).2
                  omega
              obtain ⟨f, r, s', hf, hr⟩ := ihR _ (by omega) _ _ _ hW1 hc1 hw1 rfl (Nat.le_refl _)
              have hroots : s'.roots < s.roots := by
                have := (meetF_same f _ _ (r, s') hW1.ok hw1 hf).2.2.2
                simp only at this
                omega
              have hval : ∀ (A : Alg) (τ : Int → A.T), satS A τ s → vN A τ s.nodes p.1 = vN A τ s.nodes p.2 → ∀ q ∈ wd ++ (s.ndAt (solOf s p.1)).kids.zip (s.ndAt (solOf s p.2)).kids, q ∈ wd ∨ vN A τ s.nodes q.1 = vN A τ s.nodes q.2 := fun A τ hs hpp q hq => by
                rcases List.mem_append.1 hq with hq | hq
                · exact .inl hq
                · exact .inr (zip_val (hxy A τ hs hpp).2 q hq)
              refine ⟨f + 1, r, s', ?_, ?_⟩
              · rw [meetF, hl]; simp only; rw [if_neg hne, if_neg hso]
                unfold solOf at hcl
                rw [if_neg hcl, hdl]
                exact hf
              · rcases hr with ⟨rfl, hm⟩ | ⟨rfl, hn⟩
                · refine .inl ⟨rfl, meet_lift h hp hne (fun q hq => by simp [hq]) (fun q hq => ?_) hval hroots hm⟩
                  rcases List.mem_append.1 hq with hq | hq
                  · exact .inl hq
                  · exact .inr ⟨h1, (List.of_mem_zip hq).1⟩
                · refine .inr ⟨rfl, fun A τ hs => hn A τ ⟨(sat_merge h.ok ha hb hra hrb A τ).2 ⟨hs.1, ?_⟩, fun q hq => ?_⟩⟩
                  · rw [← hs.1 _ hp.1, ← hs.1 _ hp.2]
                    exact hs.2 p (by simp)
                  · rcases hval A τ hs.1 (hs.2 p (by simp)) q hq with h3 | h3
                    · exact hs.2 q (by simp [h3])
                    · exact h3

end Go.Proofs.YtplnfepdikbpfaaGreatDoor

namespace Go.Proofs.YtplnfepdikbpfaaGreatDoor
set_option linter.unusedVariables false
set_option linter.unusedSimpArgs false

def Bd (s : Sto) (i : Nat) (t : Ty) : Prop := ∃ f, buildF f s i = some t
theorem Bd.one {s : Sto} {i : Nat} {t u : Ty} (h : Bd s i t) (k : Bd s i u) : t = u := by
  obtain ⟨f, h⟩ := h; obtain ⟨g, k⟩ := k; exact buildF_one h k
/-- A class has a type. -/
def Fin_ (s : Sto) (i : Nat) : Prop := ∃ t, Bd s i t
open Classical in
/-- A class's type. -/
noncomputable def bdT (s : Sto) (i : Nat) : Ty := if h : Fin_ s i then h.choose else default
theorem bdT_bd {s : Sto} {i : Nat} (h : Fin_ s i) : Bd s i (bdT s i) := by
  unfold bdT; rw [dif_pos h]; exact h.choose_spec
theorem bdT_eq {s : Sto} {i : Nat} {t : Ty} (h : Bd s i t) : bdT s i = t := (bdT_bd ⟨t, h⟩).one h
theorem buildL_le {s : Sto} {f g : Nat} {ks : List Nat} {ts : List Ty} (h : buildL f s ks = some ts) (hg : f ≤ g) : buildL g s ks = some ts := by
  induction hg with
  | refl => exact h
  | step _ ih => exact (buildF_mono s _).2 _ _ ih
theorem buildF_same {s : Sto} {i j : Nat} (h : s.repAt i = s.repAt j) (f : Nat) : buildF f s i = buildF f s j := by
  cases f with
  | zero => rw [buildF, buildF]
  | succ f => rw [buildF, buildF, h]
theorem bd_same {s : Sto} {i j : Nat} (h : s.repAt i = s.repAt j) {t : Ty} (hb : Bd s i t) : Bd s j t := by
  obtain ⟨f, hf⟩ := hb; exact ⟨f, by rw [← buildF_same h]; exact hf⟩
theorem fin_same {s : Sto} {i j : Nat} (h : s.repAt i = s.repAt j) (hb : Fin_ s i) : Fin_ s j := hb.imp fun t ht => bd_same h ht
theorem bdT_same {s : Sto} {i j : Nat} (h : s.repAt i = s.repAt j) : bdT s i = bdT s j := by
  by_cases hi : Fin_ s i
  · exact (bdT_eq (bd_same h.symm (bdT_bd (fin_same h hi))))
  · have hj : ¬ Fin_ s j := fun e => hi (fin_same h.symm e)
    unfold bdT; rw [dif_neg hi, dif_neg hj]
theorem buildL_of {s : Sto} {ks : List Nat} (h : ∀ k ∈ ks, Fin_ s k) : ∃ f, buildL f s ks = some (ks.map (bdT s)) := by
  induction ks with
  | nil => exact ⟨1, by rw [buildL]; rfl⟩
  | cons a ks ih =>
    obtain ⟨f, hf⟩ := bdT_bd (h a (by simp))
    obtain ⟨g, hg⟩ := ih fun k hk => h k (by simp [hk])
    refine ⟨max f g + 1, ?_⟩
    rw [buildL, buildF_le hf (Nat.le_max_left _ _), buildL_le hg (Nat.le_max_right _ _)]
    rfl
theorem buildL_inv {s : Sto} : ∀ {ks : List Nat} {f : Nat} {ts : List Ty}, buildL f s ks = some ts → (∀ k ∈ ks, Fin_ s k) ∧ ts = ks.map (bdT s)
  | ks, 0, ts, h => by rw [buildL] at h; cases h
  | [], f + 1, ts, h => by rw [buildL] at h; obtain rfl := Option.some.inj h; exact ⟨fun k hk => (by cases hk), rfl⟩
  | a :: ks, f + 1, ts, h => by
    rw [buildL] at h
    cases ha : buildF f s a with
    | none => rw [ha] at h; simp at h
    | some t =>
      cases hl : buildL f s ks with
      | none => rw [ha, hl] at h; simp at h
      | some us =>
        rw [ha, hl] at h
        simp only at h
        obtain rfl := Option.some.inj h
        obtain ⟨h1, h2⟩ := buildL_inv hl
        refine ⟨fun k hk => ?_, by rw [List.map_cons, bdT_eq ⟨f, ha⟩, h2]⟩
        rcases List.mem_cons.1 hk with rfl | hk
        · exact ⟨t, f, ha⟩
        · exact h1 k hk
/-- The type of a class without a part that is no variable. -/
theorem bd_flex {s : Sto} {i : Nat} (h : s.solidAt (s.repAt i) < 0) : Bd s i (vTy (s.leastAt (s.repAt i))) := ⟨1, by rw [buildF, if_pos h]⟩
/-- .. of a class with one. -/
def mkOf (s : Sto) (j : Nat) : List Ty → Ty := fun ts => .mk (s.ndAt j).kind (s.ndAt j).mod (s.ndAt j).name ts (s.ndAt j).var
theorem bd_solid {s : Sto} {i : Nat} (h : ¬ s.solidAt (s.repAt i) < 0) (hk : ∀ k ∈ (s.ndAt (solOf s i)).kids, Fin_ s k) : Bd s i (mkOf s (solOf s i) ((s.ndAt (solOf s i)).kids.map (bdT s))) := by
  obtain ⟨f, hf⟩ := buildL_of hk
  unfold solOf at hf
  refine ⟨f + 1, ?_⟩
  rw [buildF, if_neg h, hf]
  rfl
theorem bd_inv {s : Sto} {i : Nat} {t : Ty} (h : ¬ s.solidAt (s.repAt i) < 0) (hb : Bd s i t) : (∀ k ∈ (s.ndAt (solOf s i)).kids, Fin_ s k) ∧ t = mkOf s (solOf s i) ((s.ndAt (solOf s i)).kids.map (bdT s)) := by
  obtain ⟨f, hf⟩ := hb
  cases f with
  | zero => rw [buildF] at hf; cases hf
  | succ f =>
    rw [buildF, if_neg h] at hf
    cases hl : buildL f s (s.ndAt (s.solidAt (s.repAt i)).toNat).kids with
    | none => rw [hl] at hf; cases hf
    | some ts =>
      rw [hl] at hf
      simp only at hf
      obtain ⟨h1, h2⟩ := buildL_inv hl
      refine ⟨h1, ?_⟩
      rw [← Option.some.inj hf, h2]
      rfl

theorem partsL_kid {xs : List Ty} : ∀ a ∈ xs, partsT a ≤ partsL xs := by
  induction xs with
  | nil => intro a ha; cases ha
  | cons x xs ih =>
    intro a ha
    have e : partsL (x :: xs) = partsT x + partsL xs := by simp [partsL]
    rcases List.mem_cons.1 ha with rfl | ha
    · omega
    · have := ih a ha; omega
theorem partsT_kid {k : Int} {m n : List UInt8} {xs : List Ty} {v : Int} {a : Ty} (h : a ∈ xs) : partsT a < partsT (.mk k m n xs v) := by
  have := partsL_kid a h
  have e : partsT (.mk k m n xs v) = 1 + partsL xs := by simp [partsT]
  omega

/-- A part's class has the value of its part that is no variable. -/
theorem vN_sol {s : Sto} (h : WS s) {A : Alg} {τ : Int → A.T} (hs : satS A τ s) {i : Nat} (hi : i < s.n) (hso : ¬ s.solidAt (s.repAt i) < 0) : solOf s i < s.n ∧ (s.ndAt (solOf s i)).kind ≠ 6 ∧ vN A τ s.nodes i = vN A τ s.nodes (solOf s i) := by
  have hr := Sto.rep_lt h.ok hi
  obtain ⟨g1, g2⟩ := h.solid _ hr (h.ok.repLt _ hi).2 (by omega)
  have hl : solOf s i < s.n := Sto.solid_lt h.ok hr hso
  refine ⟨hl, g2, ?_⟩
  rw [hs i hi, hs _ hl]
  show _ = vN A τ s.nodes (s.repAt (s.solidAt (s.repAt i)).toNat)
  rw [g1]
/-- What finite types satisfy has a type for each class. -/
theorem fin_of_sat {s : Sto} (h : WS s) {τ : Int → Ty} (hs : satS TyA τ s) : ∀ i, i < s.n → Fin_ s i := by
  have key : ∀ N i, i < s.n → partsT (vN TyA τ s.nodes i) ≤ N → Fin_ s i := by
    intro N
    induction N with
    | zero => intro i _ h0; have := partsT_pos (vN TyA τ s.nodes i); omega
    | succ N ih =>
      intro i hi hN
      by_cases hso : s.solidAt (s.repAt i) < 0
      · exact ⟨_, bd_flex hso⟩
      · obtain ⟨hl, hk, hv⟩ := vN_sol h hs hi hso
        refine ⟨_, bd_solid hso fun k hkk => ih k (Nat.lt_trans (h.ok.kids _ hl k hkk) hl) ?_⟩
        rw [hv, vN_op h.ok TyA τ hl hk] at hN
        have : partsT (vN TyA τ s.nodes k) < partsT (Ty.mk (s.ndAt (solOf s i)).kind (s.ndAt (solOf s i)).mod (s.ndAt (solOf s i)).name ((s.ndAt (solOf s i)).kids.map (vN TyA τ s.nodes)) (s.ndAt (solOf s i)).var) := partsT_kid (List.mem_map_of_mem hkk)
        have e : partsT (Ty.mk (s.ndAt (solOf s i)).kind (s.ndAt (solOf s i)).mod (s.ndAt (solOf s i)).name ((s.ndAt (solOf s i)).kids.map (vN TyA τ s.nodes)) (s.ndAt (solOf s i)).var) ≤ N + 1 := hN
        omega
  exact fun i hi => key _ i hi (Nat.le_refl _)
/-- The types of classes under any values that satisfy the Store. -/
theorem fac_of {s : Sto} (h : WS s) {A : Alg} {τ : Int → A.T} (hs : satS A τ s) : ∀ i, i < s.n → ∀ t, Bd s i t → ev A τ t = vN A τ s.nodes i := by
  have key : ∀ N i t, i < s.n → Bd s i t → partsT t ≤ N → ev A τ t = vN A τ s.nodes i := by
    intro N
    induction N with
    | zero => intro i t _ _ h0; have := partsT_pos t; omega
    | succ N ih =>
      intro i t hi hb hN
      by_cases hso : s.solidAt (s.repAt i) < 0
      · obtain rfl := hb.one (bd_flex hso)
        obtain ⟨-, j, h1, h2, h3⟩ := h.least i hi hso
        rw [ev_var, hs i hi, ← h2, ← hs j h1, vN_var h.ok A τ h1 (h.flex j h1 (by rw [h2]; exact hso)), h3, h2]
      · obtain ⟨hl, hk, hv⟩ := vN_sol h hs hi hso
        obtain ⟨h1, rfl⟩ := bd_inv hso hb
        rw [hv, vN_op h.ok A τ hl hk]
        unfold mkOf at hN ⊢
        rw [ev_mk, if_neg hk, List.map_map]
        congr 1
        refine List.map_congr_left fun k hkk => ?_
        have hlt : partsT (bdT s k) < partsT (Ty.mk (s.ndAt (solOf s i)).kind (s.ndAt (solOf s i)).mod (s.ndAt (solOf s i)).name ((s.ndAt (solOf s i)).kids.map (bdT s)) (s.ndAt (solOf s i)).var) := partsT_kid (List.mem_map_of_mem hkk)
        exact ih k _ (Nat.lt_trans (h.ok.kids _ hl k hkk) hl) (bdT_bd (h1 k hkk)) (by omega)
  exact fun i hi t hb => key _ i t hi hb (Nat.le_refl _)

/-- The substitution of a Store. -/
noncomputable def subS (s : Sto) (v : Int) : Ty := match s.ofAt v with | some i => bdT s i | none => vTy v
theorem subS_some {s : Sto} {v : Int} {i : Nat} (h : s.ofAt v = some i) : subS s v = bdT s i := by unfold subS; rw [h]
theorem subS_none {s : Sto} {v : Int} (h : s.ofAt v = none) : subS s v = vTy v := by unfold subS; rw [h]
theorem cl_rep {s : Sto} (hc : Cl s []) {i : Nat} (hi : i < s.n) (hk : (s.ndAt i).kind ≠ 6) (k : Nat) (hk2 : k < (s.ndAt i).kids.length) : s.repAt ((s.ndAt i).kids.getD k 0) = s.repAt ((s.ndAt (solOf s i)).kids.getD k 0) :=
  (hc i hi hk).2.2 (fun x y => s.repAt x = s.repAt y) ⟨fun _ => rfl, fun _ _ e => e.symm, fun _ _ _ e f => e.trans f, fun _ _ _ _ e => e, fun p hp => by cases hp⟩ k hk2
theorem map_getD_eq {α : Type} {f g : Nat → α} {a b : List Nat} (hl : a.length = b.length) (h : ∀ k, k < a.length → f (a.getD k 0) = g (b.getD k 0)) : a.map f = b.map g := by
  apply List.ext_getElem (by simp [hl])
  intro k h1 h2
  have hk : k < a.length := by simpa using h1
  have := h k hk
  simpa [List.getD_eq_getElem?_getD, List.getElem?_eq_getElem hk, List.getElem?_eq_getElem (show k < b.length by omega)] using this
theorem sub_val {s : Sto} (h : WS s) (hc : Cl s []) (hF : ∀ i, i < s.n → Fin_ s i) : ∀ i, i < s.n → vN TyA (subS s) s.nodes i = bdT s i := by
  intro i
  induction i using Nat.strongRecOn with
  | ind i ih =>
    intro hi
    by_cases hk : (s.ndAt i).kind = 6
    · rw [vN_var h.ok TyA _ hi hk, subS_some (h.var i hi hk)]
    · have hso : ¬ s.solidAt (s.repAt i) < 0 := fun e => hk (h.flex i hi e)
      rw [vN_op h.ok TyA _ hi hk]
      obtain ⟨c1, c2, -⟩ := hc i hi hk
      rw [headB_iff] at c1
      obtain ⟨e1, e2, e3, e4⟩ := c1
      have hkid : (s.ndAt i).kids.map (vN TyA (subS s) s.nodes) = (s.ndAt (solOf s i)).kids.map (bdT s) := by
        refine map_getD_eq c2 fun k hkk => ?_
        have hm : (s.ndAt i).kids.getD k 0 ∈ (s.ndAt i).kids := by
          rw [List.getD_eq_getElem?_getD, List.getElem?_eq_getElem hkk]; exact List.getElem_mem hkk
        have hlt := h.ok.kids i hi _ hm
        rw [ih _ hlt (Nat.lt_trans hlt hi)]
        exact bdT_same (cl_rep hc hi hk k hkk)
      have hr := (bd_inv hso (bdT_bd (hF i hi))).2
      rw [hr, hkid, e1, e2, e3, e4]
      rfl
theorem sub_sat {s : Sto} (h : WS s) (hc : Cl s []) (hF : ∀ i, i < s.n → Fin_ s i) : satS TyA (subS s) s := by
  intro i hi
  rw [sub_val h hc hF i hi, sub_val h hc hF _ (Sto.rep_lt h.ok hi)]
  exact (bdT_same (h.ok.repLt i hi).2).symm

mutual
/-- Variables are nothing besides. -/
def clnT : Ty → Prop
  | .mk k m n xs v => (k = 6 → m = [] ∧ n = [] ∧ xs = []) ∧ clnL xs
def clnL : List Ty → Prop
  | [] => True
  | a :: xs => clnT a ∧ clnL xs
end
theorem clnL_iff {xs : List Ty} : clnL xs ↔ ∀ a ∈ xs, clnT a := by
  induction xs with
  | nil => simp [clnL]
  | cons a xs ih => simp [clnL, ih]
theorem clnT_mk (k : Int) (m n : List UInt8) (xs : List Ty) (v : Int) : clnT (.mk k m n xs v) ↔ (k = 6 → m = [] ∧ n = [] ∧ xs = []) ∧ ∀ a ∈ xs, clnT a := by rw [clnT, clnL_iff]
theorem cln_var (v : Int) : clnT (vTy v) := by rw [clnT_mk]; simp
theorem sub_cln {s : Sto} (h : WS s) : ∀ i, i < s.n → ∀ t, Bd s i t → clnT t := by
  have key : ∀ N i t, i < s.n → Bd s i t → partsT t ≤ N → clnT t := by
    intro N
    induction N with
    | zero => intro i t _ _ h0; have := partsT_pos t; omega
    | succ N ih =>
      intro i t hi hb hN
      by_cases hso : s.solidAt (s.repAt i) < 0
      · obtain rfl := hb.one (bd_flex hso); exact cln_var _
      · have hr := Sto.rep_lt h.ok hi
        obtain ⟨-, hk⟩ := h.solid _ hr (h.ok.repLt _ hi).2 (by omega)
        have hl : solOf s i < s.n := Sto.solid_lt h.ok hr hso
        obtain ⟨h1, rfl⟩ := bd_inv hso hb
        unfold mkOf at hN ⊢
        rw [clnT_mk]
        refine ⟨fun e => absurd e hk, fun a ha => ?_⟩
        obtain ⟨k, hkk, rfl⟩ := List.mem_map.1 ha
        have hlt : partsT (bdT s k) < partsT (Ty.mk (s.ndAt (solOf s i)).kind (s.ndAt (solOf s i)).mod (s.ndAt (solOf s i)).name ((s.ndAt (solOf s i)).kids.map (bdT s)) (s.ndAt (solOf s i)).var) := partsT_kid ha
        exact ih k _ (Nat.lt_trans (h.ok.kids _ hl k hkk) hl) (bdT_bd (h1 k hkk)) (by omega)
  exact fun i hi t hb => key _ i t hi hb (Nat.le_refl _)
theorem ev_kind {θ : Int → Ty} {t : Ty} (h : t.kind ≠ 6) : (ev TyA θ t).kind = t.kind := by
  obtain ⟨k, m, n, xs, v⟩ := t
  rw [ev_mk, if_neg (show ¬ k = 6 from h)]; rfl
theorem cln_eq {t : Ty} (h : clnT t) (hk : t.kind = 6) : t = vTy t.var := by
  obtain ⟨k, m, n, xs, v⟩ := t
  simp only [Ty.kind] at hk
  subst hk
  obtain ⟨h1, h2, h3⟩ := ((clnT_mk _ _ _ _ _).1 h).1 rfl
  subst h1 h2 h3
  rfl

/-- What is asked of variables' values, in any algebra. -/
abbrev Asks := (A : Alg) → (Int → A.T) → Prop
/-- The most general substitution that satisfies what is asked; the least variables stay. -/
structure Mgu (E : Asks) (θ : Int → Ty) : Prop where
  sol : E TyA θ
  fac : ∀ (A : Alg) (τ : Int → A.T), E A τ → ∀ v, ev A τ (θ v) = τ v
  least : ∀ u v, θ v = vTy u → u ≤ v
  cln : ∀ v, clnT (θ v)
theorem mgu_of {s : Sto} (h : WS s) (hc : Cl s []) (hF : ∀ i, i < s.n → Fin_ s i) : Mgu (fun A τ => satS A τ s) (subS s) := by
  refine ⟨sub_sat h hc hF, fun A τ hs v => ?_, fun u v hv => ?_, fun v => ?_⟩
  · cases ho : s.ofAt v with
    | none => rw [subS_none ho, ev_var]
    | some i =>
      obtain ⟨h1, h2, h3⟩ := h.of v i ho
      rw [subS_some ho, fac_of h hs i h1 _ (bdT_bd (hF i h1)), vN_var h.ok A τ h1 h2, h3]
  · cases ho : s.ofAt v with
    | none => rw [subS_none ho] at hv; injection hv with _ _ _ _ e; omega
    | some i =>
      obtain ⟨h1, h2, h3⟩ := h.of v i ho
      rw [subS_some ho] at hv
      have hb := bdT_bd (hF i h1)
      rw [hv] at hb
      by_cases hso : s.solidAt (s.repAt i) < 0
      · have e := hb.one (bd_flex hso)
        injection e with _ _ _ _ e
        have := (h.least i h1 hso).1
        omega
      · have hr := Sto.rep_lt h.ok h1
        obtain ⟨-, hk⟩ := h.solid _ hr (h.ok.repLt _ h1).2 (by omega)
        have e := (bd_inv hso hb).2
        unfold mkOf at e
        injection e with e
        exact absurd e.symm hk
  · cases ho : s.ofAt v with
    | none => rw [subS_none ho]; exact cln_var v
    | some i =>
      obtain ⟨h1, h2, h3⟩ := h.of v i ho
      rw [subS_some ho]
      exact sub_cln h i h1 _ (bdT_bd (hF i h1))
/-- There is but one. -/
theorem Mgu.one {E E' : Asks} {θ θ' : Int → Ty} (h : Mgu E θ) (h' : Mgu E' θ') (hE : ∀ τ, E TyA τ ↔ E' TyA τ) : θ = θ' := by
  have key : ∀ p : Ty, clnT p → clnT (ev TyA θ' p) → ev TyA θ (ev TyA θ' p) = p → p = ev TyA θ' p := by
    intro p
    induction p using Ty.ind with
    | h k m n xs v ih =>
      intro h1 h2 h3
      by_cases hk : k = 6
      · subst hk
        obtain ⟨rfl, rfl, rfl⟩ := ((clnT_mk _ _ _ _ _).1 h1).1 rfl
        rw [ev_var] at h2 h3 ⊢
        have hq : (θ' v).kind = 6 := by
          by_cases hq : (θ' v).kind = 6
          · exact hq
          · have := ev_kind (θ := θ) hq
            rw [h3] at this
            exact absurd this.symm hq
        have hw := cln_eq h2 hq
        obtain ⟨w, hw0⟩ : ∃ w, w = (θ' v).var := ⟨_, rfl⟩
        rw [← hw0] at hw
        rw [hw, ev_var] at h3
        have l1 := h.least v w h3
        have l2 := h'.least w v hw
        rw [hw, show w = v by omega]
      · rw [ev_mk, if_neg hk] at h2 h3 ⊢
        have h2' : clnT (.mk k m n (xs.map (ev TyA θ')) v) := h2
        have h3' : ev TyA θ (.mk k m n (xs.map (ev TyA θ')) v) = .mk k m n xs v := h3
        rw [ev_mk, if_neg hk, List.map_map] at h3'
        rw [clnT_mk] at h1 h2'
        have h4 : Ty.mk k m n (xs.map (ev TyA θ ∘ ev TyA θ')) v = .mk k m n xs v := h3'
        injection h4 with _ _ _ h4 _
        have : xs = xs.map (ev TyA θ') := by
          apply List.ext_getElem (by simp)
          intro i hi hi'
          have e := congrArg (·[i]?) h4
          simp only [List.getElem?_map, List.getElem?_eq_getElem hi, Option.map_some, Option.some.injEq, Function.comp] at e
          rw [List.getElem_map]
          exact ih _ (List.getElem_mem hi) (h1.2 _ (List.getElem_mem hi)) (h2'.2 _ (List.mem_map_of_mem (List.getElem_mem hi))) e
        show Ty.mk k m n xs v = Ty.mk k m n (xs.map (ev TyA θ')) v
        rw [← this]
  funext v
  have f1 := h.fac TyA θ' ((hE θ').2 h'.sol) v
  have f2 := h'.fac TyA θ ((hE θ).1 h.sol) v
  have := key (θ v) (h.cln v) (by rw [f1]; exact h'.cln v) (by rw [f1]; exact f2)
  rw [this, f1]

/-! ### Trees -/
/-- Trees: which head and how many parts there are behind each way. -/
abbrev Tree := List Nat → Option (Int × List UInt8 × List UInt8 × Int × Nat)
def trOp (k : Int) (m n : List UInt8) (v : Int) (xs : List Tree) : Tree
  | [] => some (k, m, n, v, xs.length)
  | j :: p => match xs[j]? with | some x => x p | none => none
theorem trOp_inj {k : Int} {m n : List UInt8} {v : Int} {xs : List Tree} {k' : Int} {m' n' : List UInt8} {v' : Int} {ys : List Tree} (h : trOp k m n v xs = trOp k' m' n' v' ys) : k = k' ∧ m = m' ∧ n = n' ∧ v = v' ∧ xs = ys := by
  have h0 := congrFun h []
  simp only [trOp, Option.some.injEq, Prod.mk.injEq] at h0
  obtain ⟨e1, e2, e3, e4, e5⟩ := h0
  refine ⟨e1, e2, e3, e4, List.ext_getElem e5 fun j h1 h2 => funext fun p => ?_⟩
  have := congrFun h (j :: p)
  simpa only [trOp, List.getElem?_eq_getElem h1, List.getElem?_eq_getElem h2] using this
abbrev TrA : Alg := ⟨Tree, trOp, trOp_inj⟩
/-- The tree of a class. -/
def trF (s : Sto) : List Nat → Nat → Option (Int × List UInt8 × List UInt8 × Int × Nat)
  | [], i => if s.solidAt (s.repAt i) < 0 then none else some ((s.ndAt (solOf s i)).kind, (s.ndAt (solOf s i)).mod, (s.ndAt (solOf s i)).name, (s.ndAt (solOf s i)).var, (s.ndAt (solOf s i)).kids.length)
  | j :: p, i => if s.solidAt (s.repAt i) < 0 then none else match (s.ndAt (solOf s i)).kids[j]? with | some c => trF s p c | none => none
theorem trF_same {s : Sto} {i j : Nat} (h : s.repAt i = s.repAt j) (p : List Nat) : trF s p i = trF s p j := by
  cases p with
  | nil => simp only [trF, solOf, h]
  | cons a p => simp only [trF, solOf, h]
def trV (s : Sto) (v : Int) : Tree := match s.ofAt v with | some i => fun p => trF s p i | none => fun _ => none
theorem tr_val {s : Sto} (h : WS s) (hc : Cl s []) : ∀ i, i < s.n → vN TrA (trV s) s.nodes i = fun p => trF s p i := by
  intro i
  induction i using Nat.strongRecOn with
  | ind i ih =>
    intro hi
    by_cases hk : (s.ndAt i).kind = 6
    · rw [vN_var h.ok TrA _ hi hk]; unfold trV; rw [h.var i hi hk]
    · have hso : ¬ s.solidAt (s.repAt i) < 0 := fun e => hk (h.flex i hi e)
      rw [vN_op h.ok TrA _ hi hk]
      obtain ⟨c1, c2, -⟩ := hc i hi hk
      rw [headB_iff] at c1
      obtain ⟨e1, e2, e3, e4⟩ := c1
      show trOp _ _ _ _ _ = _
      funext p
      cases p with
      | nil => simp only [trOp, trF, if_neg hso, e1, e2, e3, e4, c2, List.length_map]
      | cons j p =>
        simp only [trOp, trF, if_neg hso]
        by_cases hj : j < (s.ndAt i).kids.length
        · have hj2 : j < (s.ndAt (solOf s i)).kids.length := by omega
          have hm := List.getElem_mem hj
          have hlt := h.ok.kids i hi _ hm
          have e5 : ((s.ndAt i).kids.map (vN TrA (trV s) s.nodes))[j]? = some (vN TrA (trV s) s.nodes (s.ndAt i).kids[j]) := by rw [List.getElem?_map, List.getElem?_eq_getElem hj]; rfl
          rw [e5, List.getElem?_eq_getElem hj2]
          simp only
          rw [ih _ hlt (Nat.lt_trans hlt hi)]
          have := cl_rep hc hi hk j hj
          rw [List.getD_eq_getElem?_getD, List.getElem?_eq_getElem hj, List.getD_eq_getElem?_getD, List.getElem?_eq_getElem hj2] at this
          exact trF_same this p
        · have e5 : ((s.ndAt i).kids.map (vN TrA (trV s) s.nodes))[j]? = none := by rw [List.getElem?_map, List.getElem?_eq_none (by omega)]; rfl
          rw [e5, List.getElem?_eq_none (by omega)]
theorem tr_sat {s : Sto} (h : WS s) (hc : Cl s []) : satS TrA (trV s) s := by
  intro i hi
  rw [tr_val h hc i hi, tr_val h hc _ (Sto.rep_lt h.ok hi)]
  funext p
  exact (trF_same (h.ok.repLt i hi).2 p).symm

/-! ### Sizes -/
mutual
def dpT : Ty → Nat
  | .mk _ _ _ xs _ => 1 + dpL xs
def dpL : List Ty → Nat
  | [] => 0
  | a :: xs => max (dpT a) (dpL xs)
end
theorem szF_build (s : Sto) : ∀ f, (∀ i, szF f s i = (buildF f s i).map fun t => (min (partsT t : Int) 4001, (dpT t : Int))) ∧
    (∀ ks p d, 1 ≤ p → p ≤ 4001 → 0 ≤ d → szL f s ks p d = (buildL f s ks).map fun ts => (min (p + (partsL ts : Int)) 4001, max d (dpL ts : Int))) := by
  intro f
  induction f with
  | zero => exact ⟨fun i => by rw [szF, buildF]; rfl, fun ks p d _ _ _ => by rw [szL, buildL]; rfl⟩
  | succ f ih =>
    constructor
    · intro i
      rw [szF, buildF]
      by_cases hs : s.solidAt (s.repAt i) < 0
      · rw [if_pos hs, if_pos hs]
        simp [partsT, partsL, dpT, dpL]
        omega
      · rw [if_neg hs, if_neg hs, ih.2 _ 1 0 (by omega) (by omega) (by omega)]
        cases buildL f s (s.ndAt (s.solidAt (s.repAt i)).toNat).kids with
        | none => rfl
        | some ts =>
          simp only [Option.map_some, Option.some.injEq, Prod.mk.injEq, partsT, dpT]
          push_cast
          constructor
          · rfl
          · omega
    · intro ks p d hp hp2 hd
      cases ks with
      | nil =>
        rw [szL, buildL]
        simp only [Option.map_some, Option.some.injEq, Prod.mk.injEq, partsL, dpL]
        omega
      | cons a ks =>
        rw [szL, buildL, ih.1 a]
        cases buildF f s a with
        | none => rfl
        | some t =>
          simp only [Option.map_some]
          have h1 := partsT_pos t
          rw [ih.2 ks _ _ (by omega) (by omega) (by omega)]
          cases buildL f s ks with
          | none => rfl
          | some ts =>
            simp only [Option.map_some, Option.some.injEq, Prod.mk.injEq, partsL, dpL]
            push_cast
            omega
/-- Small enough. -/
def fitT (t : Ty) : Prop := partsT t ≤ 4000 ∧ dpT t ≤ 100
theorem sz_of_bd {s : Sto} {i : Nat} {t : Ty} (h : Bd s i t) : ∃ g, szF g s i = some (min (partsT t : Int) 4001, (dpT t : Int)) := by
  obtain ⟨f, hf⟩ := h; exact ⟨f, by rw [(szF_build s f).1, hf]; rfl⟩
theorem bd_of_sz {s : Sto} {i g : Nat} {x : Int × Int} (h : szF g s i = some x) : ∃ t, Bd s i t ∧ x = (min (partsT t : Int) 4001, (dpT t : Int)) := by
  rw [(szF_build s g).1] at h
  obtain ⟨t, ht, rfl⟩ := Option.map_eq_some_iff.1 h
  exact ⟨t, ⟨g, ht⟩, rfl⟩
theorem fits_iff {s : Sto} (h : WS s) (hF : ∀ i, i < s.n → Fin_ s i) : FitsB s ↔ ∀ v, fitT (subS s v) := by
  constructor
  · intro hf v
    cases ho : s.ofAt v with
    | none => rw [subS_none ho]; unfold fitT; simp [partsT, partsL, dpT, dpL]
    | some i =>
      obtain ⟨h1, -⟩ := h.of v i ho
      rw [subS_some ho]
      obtain ⟨g, hg⟩ := sz_of_bd (bdT_bd (hF i h1))
      have := hf v i g _ ho hg
      simp only at this
      unfold fitT
      omega
  · intro hf v i g x ho hg
    obtain ⟨t, ht, rfl⟩ := bd_of_sz hg
    have := hf v
    rw [subS_some ho, bdT_eq ht] at this
    unfold fitT at this
    simp only
    omega
theorem all_sz {s : Sto} (h : WS s) (hF : ∀ i, i < s.n → Fin_ s i) : AllSz s := fun v i ho => by
  obtain ⟨g, hg⟩ := sz_of_bd (bdT_bd (hF i (h.of v i ho).1)); exact ⟨g, _, hg⟩
theorem all_bd {s : Sto} (h : WS s) (hF : ∀ i, i < s.n → Fin_ s i) : AllBd s := fun v i ho => by
  obtain ⟨f, hf⟩ := bdT_bd (hF i (h.of v i ho).1); exact ⟨f, _, hf⟩

end Go.Proofs.YtplnfepdikbpfaaGreatDoor

namespace Go.Proofs.YtplnfepdikbpfaaGreatDoor
set_option linter.unusedVariables false
set_option linter.unusedSimpArgs false

/-! ### size always answers -/
def unkn (s : Sto) (K : Kn) : Nat := (List.range s.n).countP fun j => (knAt K j).isNone
theorem unkn_put {s : Sto} {K : Kn} {u : Nat} (x : Int × Int) (hu : u < s.n) (hk : knAt K u = none) : unkn s ((u, x) :: K) + 1 = unkn s K :=
  countP_flip _ _ u s.n hu (by simp [hk]) (by rw [knAt_put, if_pos rfl]; rfl) fun i _ hne => by rw [knAt_put, if_neg hne]
def KnLe (K K' : Kn) : Prop := ∀ j, (knAt K j).isSome = true → (knAt K' j).isSome = true
theorem KnLe.put (K : Kn) (u : Nat) (x : Int × Int) : KnLe K ((u, x) :: K) := fun j h => by rw [knAt_put]; split; rfl; exact h
theorem unkn_mono {s : Sto} {K K' : Kn} (h : KnLe K K') : unkn s K' ≤ unkn s K := by
  refine List.countP_mono_left fun j _ hj => ?_
  cases hk : knAt K j with
  | none => rfl
  | some x => have := h j (by rw [hk]; rfl); rw [Option.isNone_iff_eq_none] at hj; rw [hj] at this; cases this
theorem sizeL_le {s : Sto} {f g : Nat} {ks : List Nat} {p d : Int} {K : Kn} {x : Option (Int × Int) × Kn} (h : sizeL f s ks p d K = some x) (hg : f ≤ g) : sizeL g s ks p d K = some x := by
  induction hg with
  | refl => exact h
  | step _ ih => exact (sizeF_mono s _).2 _ _ _ _ _ ih
def SzNode (s : Sto) (U : Nat) : Prop := ∀ i K, i < s.n → unkn s K ≤ U → ∃ f r, sizeF f s i K = some r ∧ KnLe K r.2
theorem sizeL_total {s : Sto} {U : Nat} (hn : SzNode s U) : ∀ (ks : List Nat) (p d : Int) (K : Kn), (∀ k ∈ ks, k < s.n) → unkn s K ≤ U → ∃ f r, sizeL f s ks p d K = some r ∧ KnLe K r.2 := by
  intro ks
  induction ks with
  | nil => intro p d K _ _; exact ⟨1, (some (p, d), K), by rw [sizeL], fun j h => h⟩
  | cons a ks ih =>
    intro p d K hk hU
    obtain ⟨f, ⟨r, K1⟩, hf, h1⟩ := hn a K (hk a (by simp)) hU
    simp only at h1
    cases r with
    | none => exact ⟨f + 1, (none, K1), by rw [sizeL, hf], h1⟩
    | some y =>
      obtain ⟨g, r2, hg, h2⟩ := ih (min (p + y.1) 4001) (max d y.2) K1 (fun k hk' => hk k (by simp [hk'])) (Nat.le_trans (unkn_mono h1) hU)
      refine ⟨max f g + 1, r2, ?_, fun j hj => h2 j (h1 j hj)⟩
      rw [sizeL, sizeF_le hf (Nat.le_max_left _ _)]
      exact sizeL_le hg (Nat.le_max_right _ _)
theorem size_total {s : Sto} (h : s.Ok) : ∀ U, SzNode s U := by
  intro U
  induction U with
  | zero =>
    intro i K hi hU
    cases hk : knAt K (s.repAt i) with
    | some k => exact ⟨1, (if 0 < k.1 then some k else none, K), by rw [sizeF, hk], fun j h => h⟩
    | none =>
      have := unkn_put (s := s) (0, 0) (Sto.rep_lt h hi) hk
      omega
  | succ U ih =>
    intro i K hi hU
    cases hk : knAt K (s.repAt i) with
    | some k => exact ⟨1, (if 0 < k.1 then some k else none, K), by rw [sizeF, hk], fun j h => h⟩
    | none =>
      by_cases hs : s.solidAt (s.repAt i) < 0
      · exact ⟨1, (some (1, 1), K), by rw [sizeF, hk]; simp only; rw [if_pos hs], fun j h => h⟩
      · have hr := Sto.rep_lt h hi
        have hu := unkn_put (s := s) (0, 0) hr hk
        have hl : (s.solidAt (s.repAt i)).toNat < s.n := Sto.solid_lt h hr hs
        obtain ⟨f, ⟨r, K1⟩, hf, h1⟩ := sizeL_total ih (s.ndAt (s.solidAt (s.repAt i)).toNat).kids 1 0 ((s.repAt i, 0, 0) :: K) (fun k hk => Nat.lt_trans (h.kids _ hl k hk) hl) (by omega)
        simp only at h1
        cases r with
        | none => exact ⟨f + 1, (none, K1), by rw [sizeF, hk]; simp only; rw [if_neg hs, hf], fun j hj => h1 j (KnLe.put K _ _ j hj)⟩
        | some y => exact ⟨f + 1, (some (y.1, y.2 + 1), (s.repAt i, y.1, y.2 + 1) :: K1), by rw [sizeF, hk]; simp only; rw [if_neg hs, hf], fun j hj => KnLe.put K1 _ _ j (h1 j (KnLe.put K _ _ j hj))⟩
/-- What size answers is so. -/
theorem size_sound {s : Sto} (hs : s.Ok) : ∀ f,
    (∀ i K (M : Nat → Prop) x K', i < s.n → KnM s K M → sizeF f s i K = some (some x, K') → (∃ g, szF g s i = some x) ∧ KnM s K' M) ∧
    (∀ ks p d K (M : Nat → Prop) x K', (∀ k ∈ ks, k < s.n) → KnM s K M → sizeL f s ks p d K = some (some x, K') → (∃ g, szL g s ks p d = some x) ∧ KnM s K' M) := by
  intro f
  induction f with
  | zero => exact ⟨fun i K M x K' _ _ h => (by rw [sizeF] at h; cases h), fun ks p d K M x K' _ _ h => (by rw [sizeL] at h; cases h)⟩
  | succ f ih =>
    constructor
    · intro i K M x K' hi hK h
      rw [sizeF] at h
      cases hk : knAt K (s.repAt i) with
      | some k =>
        rw [hk] at h
        simp only [Option.some.injEq, Prod.mk.injEq] at h
        obtain ⟨h1, rfl⟩ := h
        split at h1
        · rename_i hp
          obtain rfl := Option.some.inj h1
          rcases hK _ _ hk with ⟨g, hg⟩ | ⟨e, -⟩
          · exact ⟨⟨g, by rw [← szF_rep hs hi]; exact hg⟩, hK⟩
          · rw [e] at hp; simp at hp
        · cases h1
      | none =>
        rw [hk] at h
        simp only at h
        by_cases hso : s.solidAt (s.repAt i) < 0
        · rw [if_pos hso] at h
          simp only [Option.some.injEq, Prod.mk.injEq] at h
          obtain ⟨rfl, rfl⟩ := h
          exact ⟨⟨1, by rw [szF, if_pos hso]⟩, hK⟩
        · rw [if_neg hso] at h
          have hr := Sto.rep_lt hs hi
          have hl : (s.solidAt (s.repAt i)).toNat < s.n := Sto.solid_lt hs hr hso
          cases hL : sizeL f s (s.ndAt (s.solidAt (s.repAt i)).toNat).kids 1 0 ((s.repAt i, 0, 0) :: K) with
          | none => rw [hL] at h; cases h
          | some r =>
            obtain ⟨r, K1⟩ := r
            rw [hL] at h
            cases r with
            | none => simp at h
            | some y =>
              obtain ⟨p, d⟩ := y
              simp only [Option.some.injEq, Prod.mk.injEq] at h
              obtain ⟨rfl, rfl⟩ := h
              have hK1 : KnM s ((s.repAt i, 0, 0) :: K) (fun j => M j ∨ j = s.repAt i) := fun j x hx => by
                rw [knAt_put] at hx
                split at hx
                · rename_i e; obtain rfl := Option.some.inj hx; exact .inr ⟨rfl, .inr e⟩
                · rcases hK j x hx with h1 | ⟨h1, h2⟩
                  · exact .inl h1
                  · exact .inr ⟨h1, .inl h2⟩
              obtain ⟨⟨g, hg⟩, hK2⟩ := ih.2 _ _ _ _ _ _ _ (fun k hk => Nat.lt_trans (hs.kids _ hl k hk) hl) hK1 hL
              have hz : szF (g + 1) s i = some (p, d + 1) := by rw [szF, if_neg hso, hg]
              refine ⟨⟨g + 1, hz⟩, fun j x hx => ?_⟩
              rw [knAt_put] at hx
              split at hx
              · rename_i e
                obtain rfl := Option.some.inj hx
                exact .inl ⟨g + 1, by rw [e, szF_rep hs hi]; exact hz⟩
              · rename_i e
                rcases hK2 j x hx with h1 | ⟨h1, h2 | h2⟩
                · exact .inl h1
                · exact .inr ⟨h1, h2⟩
                · exact absurd h2 e
    · intro ks p d K M x K' hks hK h
      cases ks with
      | nil =>
        rw [sizeL] at h
        simp only [Option.some.injEq, Prod.mk.injEq] at h
        obtain ⟨rfl, rfl⟩ := h
        exact ⟨⟨1, by rw [szL]⟩, hK⟩
      | cons a ks =>
        rw [sizeL] at h
        cases hF : sizeF f s a K with
        | none => rw [hF] at h; cases h
        | some r =>
          obtain ⟨r, K1⟩ := r
          rw [hF] at h
          cases r with
          | none => simp at h
          | some y =>
            simp only at h
            obtain ⟨⟨g, hg⟩, hK1⟩ := ih.1 a K M y K1 (hks a (by simp)) hK hF
            obtain ⟨⟨g2, hg2⟩, hK2⟩ := ih.2 ks _ _ K1 M x K' (fun k hk => hks k (by simp [hk])) hK1 h
            refine ⟨⟨max g g2 + 1, ?_⟩, hK2⟩
            rw [szL, szF_le hg (Nat.le_max_left _ _)]
            have := (szF_build s g2).2
            have mono : ∀ {g h : Nat} {ks : List Nat} {p d : Int} {x : Int × Int}, szL g s ks p d = some x → g ≤ h → szL h s ks p d = some x := by
              intro g h ks p d x hx hg
              induction hg with
              | refl => exact hx
              | step _ ih => exact (szF_mono s _).2 _ _ _ _ ih
            exact mono hg2 (Nat.le_max_right _ _)
/-- A class without a type: size says so. -/
theorem size_none {s : Sto} (h : s.Ok) {a : Nat} (ha : a < s.n) (hn : ¬ Fin_ s a) : ∃ g K, sizeF g s a [] = some (none, K) := by
  obtain ⟨f, ⟨r, K⟩, hf, -⟩ := size_total h (unkn s []) a [] ha (Nat.le_refl _)
  cases r with
  | none => exact ⟨f, K, hf⟩
  | some x =>
    obtain ⟨⟨g, hg⟩, -⟩ := (size_sound h f).1 a [] (fun _ => False) x K ha (KnM.nil s _) hf
    obtain ⟨t, ht, -⟩ := bd_of_sz hg
    exact absurd ⟨t, ht⟩ hn

/-- If what was met has a type then all classes have. -/
theorem fin_after {s s' : Sto} (h : WS s) (hF : ∀ i, i < s.n → Fin_ s i) {a b : Nat} (ha : a < s.n) (hm : MeetOk s s' [(a, b)]) (hfa : Fin_ s' a) : ∀ i, i < s.n → Fin_ s' i := by
  have hn : s'.n = s.n := by unfold Sto.n; rw [hm.nodes]
  have hnd : ∀ i, s'.ndAt i = s.ndAt i := fun i => by unfold Sto.ndAt; rw [hm.nodes]
  have tch := hm.tch (fun i => Fin_ s' i) (fun i j _ _ e hi => fin_same e hi) (fun i hi hk hf k hkk => by
    have hi' : i < s'.n := by omega
    have hk' : (s'.ndAt i).kind ≠ 6 := by rw [hnd]; exact hk
    have hso : ¬ s'.solidAt (s'.repAt i) < 0 := fun e => hk' (hm.ws.flex i hi' e)
    obtain ⟨t, ht⟩ := hf
    obtain ⟨h1, -⟩ := bd_inv hso ht
    obtain ⟨j, hj, rfl⟩ := List.getElem_of_mem hkk
    have hj' : j < (s'.ndAt i).kids.length := by rw [hnd]; exact hj
    have hc := cl_rep hm.cl hi' hk' j hj'
    have c2 := (hm.cl i hi' hk').2.1
    have e1 : (s'.ndAt i).kids.getD j 0 = (s.ndAt i).kids[j] := by rw [hnd, List.getD_eq_getElem?_getD, List.getElem?_eq_getElem hj]; rfl
    rw [e1] at hc
    refine fin_same hc.symm (h1 _ ?_)
    have hj2 : j < (s'.ndAt (solOf s' i)).kids.length := by omega
    rw [List.getD_eq_getElem?_getD, List.getElem?_eq_getElem hj2]
    exact List.getElem_mem hj2) (fun p hp => by rw [List.mem_singleton.1 hp]; exact hfa)
  have key : ∀ N i t, i < s.n → Bd s i t → partsT t ≤ N → Fin_ s' i := by
    intro N
    induction N with
    | zero => intro i t _ _ h0; have := partsT_pos t; omega
    | succ N ih =>
      intro i t hi hb hN
      rcases tch i hi with h1 | ⟨h3, h4⟩
      · exact h1
      · by_cases hso : s.solidAt (s.repAt i) < 0
        · exact ⟨_, bd_flex (by rw [h4]; exact hso)⟩
        · have es : solOf s' i = solOf s i := by unfold solOf; rw [h4]
          obtain ⟨h1, rfl⟩ := bd_inv hso hb
          have hl : solOf s i < s.n := Sto.solid_lt h.ok (Sto.rep_lt h.ok hi) hso
          refine ⟨_, bd_solid (by rw [h4]; exact hso) fun k hkk => ?_⟩
          rw [es, hnd] at hkk
          have hlt : partsT (bdT s k) < partsT (Ty.mk (s.ndAt (solOf s i)).kind (s.ndAt (solOf s i)).mod (s.ndAt (solOf s i)).name ((s.ndAt (solOf s i)).kids.map (bdT s)) (s.ndAt (solOf s i)).var) := partsT_kid (List.mem_map_of_mem hkk)
          unfold mkOf at hN
          exact ih k _ (Nat.lt_trans (h.ok.kids _ hl k hkk) hl) (bdT_bd (h1 k hkk)) (by omega)
  exact fun i hi => key _ i _ hi (bdT_bd (hF i hi)) (Nat.le_refl _)

/-! ### What Unify answers hangs on what is asked alone -/
/-- The pairs of a substitution: those that are not variables themselves, rising. -/
def NetOf (θ : Int → Ty) (X : List (Int × Ty)) : Prop := X.Pairwise (fun a b => a.1 < b.1) ∧ ∀ x, x ∈ X ↔ θ x.1 = x.2 ∧ x.2 ≠ vTy x.1
theorem NetOf.one {θ : Int → Ty} {X Y : List (Int × Ty)} (h : NetOf θ X) (k : NetOf θ Y) : X = Y :=
  sorted_one Prod.fst h.1 k.1 fun x => (h.2 x).trans (k.2 x).symm
theorem net_some (θ : Int → Ty) (vs : List Int) : ∃ X : List (Int × Ty), X.Pairwise (fun a b => a.1 < b.1) ∧ ∀ x, x ∈ X ↔ x.1 ∈ vs ∧ θ x.1 = x.2 ∧ x.2 ≠ vTy x.1 := by
  induction vs with
  | nil => exact ⟨[], List.Pairwise.nil, fun x => by simp⟩
  | cons v vs ih =>
    obtain ⟨X, h1, h2⟩ := ih
    by_cases hv : v ∈ vs ∨ θ v = vTy v
    · refine ⟨X, h1, fun x => ?_⟩
      rw [h2]
      constructor
      · rintro ⟨g1, g2⟩; exact ⟨by simp [g1], g2⟩
      · rintro ⟨g1, g2, g3⟩
        refine ⟨?_, g2, g3⟩
        rcases List.mem_cons.1 g1 with e | e
        · rcases hv with hv | hv
          · rw [e]; exact hv
          · rw [e] at g2 g3; exact absurd (g2.symm.trans hv) g3
        · exact e
    · have hv1 : v ∉ vs := fun e => hv (.inl e)
      have hv2 : θ v ≠ vTy v := fun e => hv (.inr e)
      have hne : ∀ x ∈ X, x.1 ≠ v := fun x hx e => hv1 (e ▸ ((h2 x).1 hx).1)
      refine ⟨X.filter (fun x => decide (x.1 < v)) ++ (v, θ v) :: X.filter (fun x => decide (v < x.1)), ?_, fun x => ?_⟩
      · rw [List.pairwise_append, List.pairwise_cons]
        refine ⟨h1.filter _, ⟨fun x hx => ?_, h1.filter _⟩, fun x hx y hy => ?_⟩
        · simpa using (List.mem_filter.1 hx).2
        · have hx2 : x.1 < v := by simpa using (List.mem_filter.1 hx).2
          rcases List.mem_cons.1 hy with rfl | hy
          · exact hx2
          · have hy2 : v < y.1 := by simpa using (List.mem_filter.1 hy).2
            omega
      · simp only [List.mem_append, List.mem_cons, List.mem_filter, decide_eq_true_eq]
        constructor
        · rintro (⟨g1, -⟩ | rfl | ⟨g1, -⟩)
          · obtain ⟨k1, k2⟩ := (h2 x).1 g1; exact ⟨.inr k1, k2⟩
          · exact ⟨.inl rfl, rfl, hv2⟩
          · obtain ⟨k1, k2⟩ := (h2 x).1 g1; exact ⟨.inr k1, k2⟩
        · rintro ⟨e | g1, g2, g3⟩
          · exact .inr (.inl (Prod.ext e (by rw [← g2, e])))
          · have hx := (h2 x).2 ⟨g1, g2, g3⟩
            have := hne x hx
            by_cases hlt : x.1 < v
            · exact .inl ⟨hx, hlt⟩
            · exact .inr (.inr ⟨hx, by omega⟩)
def Fits (θ : Int → Ty) : Prop := ∀ v, fitT (θ v)
/-- What Unify answers. -/
def UAns (E : Asks) (e : Int) (X : List (Int × Ty)) : Prop :=
  (e = 10 ∧ X = [] ∧ ∀ (A : Alg) (τ : Int → A.T), ¬ E A τ) ∨ (e = 13 ∧ X = [] ∧ (∃ (A : Alg) (τ : Int → A.T), E A τ) ∧ ∀ τ, ¬ E TyA τ) ∨
  (e = 7 ∧ X = [] ∧ ∃ θ, Mgu E θ ∧ ¬ Fits θ) ∨ (e = 0 ∧ ∃ θ, Mgu E θ ∧ Fits θ ∧ NetOf θ X)
theorem UAns.one {E E' : Asks} {e e' : Int} {X X' : List (Int × Ty)} (h : UAns E e X) (h' : UAns E' e' X') (hE : ∀ (A : Alg) (τ : Int → A.T), E A τ ↔ E' A τ) : e = e' ∧ X = X' := by
  rcases h with ⟨rfl, rfl, h⟩ | ⟨rfl, rfl, ⟨A, τ, h1⟩, h2⟩ | ⟨rfl, rfl, θ, h1, h2⟩ | ⟨rfl, θ, h1, h2, h3⟩ <;>
  rcases h' with ⟨rfl, rfl, k⟩ | ⟨rfl, rfl, ⟨B, σ, k1⟩, k2⟩ | ⟨rfl, rfl, η, k1, k2⟩ | ⟨rfl, η, k1, k2, k3⟩
  · exact ⟨rfl, rfl⟩
  · exact absurd ((hE B σ).2 k1) (h B σ)
  · exact absurd ((hE TyA η).2 k1.sol) (h TyA η)
  · exact absurd ((hE TyA η).2 k1.sol) (h TyA η)
  · exact absurd ((hE A τ).1 h1) (k A τ)
  · exact ⟨rfl, rfl⟩
  · exact absurd ((hE TyA η).2 k1.sol) (h2 η)
  · exact absurd ((hE TyA η).2 k1.sol) (h2 η)
  · exact absurd ((hE TyA θ).1 h1.sol) (k TyA θ)
  · exact absurd ((hE TyA θ).1 h1.sol) (k2 θ)
  · exact ⟨rfl, rfl⟩
  · rw [h1.one k1 (hE TyA)] at h2; exact absurd k2 h2
  · exact absurd ((hE TyA θ).1 h1.sol) (k TyA θ)
  · exact absurd ((hE TyA θ).1 h1.sol) (k2 θ)
  · rw [h1.one k1 (hE TyA)] at h2; exact absurd h2 k2
  · rw [h1.one k1 (hE TyA)] at h3; exact ⟨rfl, h3.one k3⟩

theorem pair_iff {s : Sto} (h : WS s) (hF : ∀ i, i < s.n → Fin_ s i) (x : Int × Ty) : PairOf s x ↔ subS s x.1 = x.2 ∧ x.2 ≠ vTy x.1 := by
  constructor
  · rintro ⟨i, f, h1, h2, h3⟩
    exact ⟨by rw [subS_some h1]; exact bdT_eq ⟨f, h2⟩, fun e => h3 (by rw [e]; exact ⟨rfl, rfl⟩)⟩
  · rintro ⟨h1, h2⟩
    cases ho : s.ofAt x.1 with
    | none => rw [subS_none ho] at h1; exact absurd h1.symm h2
    | some i =>
      rw [subS_some ho] at h1
      obtain ⟨hi, -⟩ := h.of _ i ho
      have hb := bdT_bd (hF i hi)
      rw [h1] at hb
      obtain ⟨f, hf⟩ := id hb
      exact ⟨i, f, ho, hf, fun e => h2 (by rw [cln_eq (sub_cln h i hi _ hb) e.1, e.2])⟩
theorem net_of {s : Sto} (h : WS s) (hF : ∀ i, i < s.n → Fin_ s i) : ∃ X, NetOf (subS s) X ∧ BindsIs s X := by
  obtain ⟨X, h1, h2⟩ := net_some (subS s) (s.of.map (·.1))
  have h3 : ∀ x, x ∈ X ↔ subS s x.1 = x.2 ∧ x.2 ≠ vTy x.1 := fun x => by
    rw [h2]
    constructor
    · rintro ⟨-, g⟩; exact g
    · rintro ⟨g1, g2⟩
      refine ⟨?_, g1, g2⟩
      cases ho : s.ofAt x.1 with
      | none => rw [subS_none ho] at g1; exact absurd g1.symm g2
      | some i => exact List.mem_map.2 ⟨(x.1, i), ofAt_mem ho, rfl⟩
  exact ⟨X, ⟨h1, h3⟩, h1, fun x => (h3 x).trans (pair_iff h hF x).symm⟩

theorem Mgu.congr {E E' : Asks} {θ : Int → Ty} (h : Mgu E θ) (hE : ∀ (A : Alg) (τ : Int → A.T), E A τ ↔ E' A τ) : Mgu E' θ :=
  ⟨(hE _ _).1 h.sol, fun A τ hs => h.fac A τ ((hE A τ).2 hs), h.least, h.cln⟩
theorem UAns.congr {E E' : Asks} {e : Int} {X : List (Int × Ty)} (h : UAns E e X) (hE : ∀ (A : Alg) (τ : Int → A.T), E A τ ↔ E' A τ) : UAns E' e X := by
  rcases h with ⟨rfl, rfl, h⟩ | ⟨rfl, rfl, ⟨A, τ, h1⟩, h2⟩ | ⟨rfl, rfl, θ, h1, h2⟩ | ⟨rfl, θ, h1, h2, h3⟩
  · exact .inl ⟨rfl, rfl, fun A τ k => h A τ ((hE A τ).2 k)⟩
  · exact .inr (.inl ⟨rfl, rfl, ⟨A, τ, (hE A τ).1 h1⟩, fun τ k => h2 τ ((hE _ τ).2 k)⟩)
  · exact .inr (.inr (.inl ⟨rfl, rfl, θ, h1.congr hE, h2⟩))
  · exact .inr (.inr (.inr ⟨rfl, θ, h1.congr hE, h2, h3⟩))

/-- Unify on a Store that finite types satisfy, all of them small enough. -/
theorem unify_ans {s : Sto} (h : WS s) (hc : Cl s []) (hS : ∃ τ, satS TyA τ s) (hfit : Fits (subS s)) {a b : Nat} (ha : a < s.n) (hb : b < s.n) :
    ∃ e s' X, UnifyIs s a b e s' ∧ s'.nodes = s.nodes ∧ UAns (fun A τ => satS A τ s ∧ vN A τ s.nodes a = vN A τ s.nodes b) e X ∧ ((e ≠ 0 ∧ X = []) ∨ (e = 0 ∧ AllBd s' ∧ BindsIs s' X ∧ WS s')) := by
  obtain ⟨τ0, hτ0⟩ := hS
  have hF := fin_of_sat h hτ0
  have hcw : Cl s [(a, b)] := fun i hi hk => by
    obtain ⟨c1, c2, c3⟩ := hc i hi hk
    exact ⟨c1, c2, fun E hE k hk => c3 E ⟨hE.refl, hE.symm, hE.trans, hE.cls, fun q hq => by cases hq⟩ k hk⟩
  obtain ⟨f, r, s', hf, hr⟩ := meet_total _ _ s [(a, b)] h hcw (fun x hx => by rw [List.mem_singleton.1 hx]; exact ⟨ha, hb⟩) rfl (Nat.le_refl _)
  rcases hr with ⟨rfl, hm⟩ | ⟨rfl, hn⟩
  · have hE : ∀ (A : Alg) (τ : Int → A.T), satS A τ s' ↔ satS A τ s ∧ vN A τ s.nodes a = vN A τ s.nodes b := fun A τ => by rw [hm.sat]; simp
    have hnn : s'.n = s.n := by unfold Sto.n; rw [hm.nodes]
    by_cases hfa : Fin_ s' a
    · have hF' : ∀ i, i < s'.n → Fin_ s' i := fun i hi => fin_after h hF ha hm hfa i (by omega)
      have hM := (mgu_of hm.ws hm.cl hF').congr hE
      obtain ⟨X, hX1, hX2⟩ := net_of hm.ws hF'
      by_cases hro : s'.roots = s.roots
      · obtain rfl := hm.roots hro
        exact ⟨0, s', X, ⟨f, true, hf, .inr (.inl ⟨rfl, rfl, rfl⟩)⟩, rfl, .inr (.inr (.inr ⟨rfl, _, hM, hfit, hX1⟩)), .inr ⟨rfl, all_bd h hF, hX2, h⟩⟩
      · obtain ⟨g, hg⟩ := sz_of_bd (bdT_bd hfa)
        by_cases hfb : FitsB s'
        · exact ⟨0, s', X, ⟨f, true, hf, .inr (.inr ⟨rfl, hro, .fits g _ hg (all_sz hm.ws hF') hfb⟩)⟩, hm.nodes, .inr (.inr (.inr ⟨rfl, _, hM, (fits_iff hm.ws hF').1 hfb, hX1⟩)), .inr ⟨rfl, all_bd hm.ws hF', hX2, hm.ws⟩⟩
        · exact ⟨7, s', [], ⟨f, true, hf, .inr (.inr ⟨rfl, hro, .full g _ hg (all_sz hm.ws hF') hfb⟩)⟩, hm.nodes, .inr (.inr (.inl ⟨rfl, rfl, _, hM, fun e => hfb ((fits_iff hm.ws hF').2 e)⟩)), .inl ⟨by decide, rfl⟩⟩
    · have hro : s'.roots ≠ s.roots := fun e => by
        obtain rfl := hm.roots e
        exact hfa (hF a ha)
      obtain ⟨g, K, hg⟩ := size_none hm.ws.ok (by omega : a < s'.n) hfa
      exact ⟨13, s', [], ⟨f, true, hf, .inr (.inr ⟨rfl, hro, .stop g K hg⟩)⟩, hm.nodes, .inr (.inl ⟨rfl, rfl, ⟨TrA, trV s', (hE _ _).1 (tr_sat hm.ws hm.cl)⟩, fun τ k => hfa (fin_of_sat hm.ws ((hE _ _).2 k) a (by omega))⟩), .inl ⟨by decide, rfl⟩⟩
  · refine ⟨10, s', [], ⟨f, false, hf, .inl ⟨rfl, rfl⟩⟩, ?_, .inl ⟨rfl, rfl, fun A τ k => hn A τ ⟨k.1, fun p hp => by rw [List.mem_singleton.1 hp]; exact k.2⟩⟩, .inl ⟨by decide, rfl⟩⟩
    exact (meetF_same f _ s (false, s') h.ok (fun x hx => by rw [List.mem_singleton.1 hx]; exact ⟨ha, hb⟩) hf).1

/-- What pairs ask. -/
def EqL (L : List (Int × Ty)) : Asks := fun A τ => ∀ x ∈ L, τ x.1 = ev A τ x.2
/-- What Unify asks. -/
def EqU (a b : Ty) (L : List (Int × Ty)) : Asks := fun A τ => EqL L A τ ∧ ev A τ a = ev A τ b
/-- A Store with pairs. -/
structure Loaded (L : List (Int × Ty)) (s : Sto) : Prop where
  ws : WS s
  cl : Cl s []
  sat : ∀ (A : Alg) (τ : Int → A.T), satS A τ s ↔ EqL L A τ
  few : s.n ≤ L.length + (L.map fun x => partsT x.2).sum
theorem Loaded.nil : Loaded [] Sto.empty := ⟨WS.empty, Cl.empty, fun A τ => ⟨fun _ x hx => (by cases hx), fun _ i hi => absurd hi (by simp [Sto.empty, Sto.n])⟩, by simp [Sto.empty, Sto.n]⟩
/-- Two types more. -/
theorem add_two {s : Sto} (h : WS s) (hc : Cl s []) {a b : Ty} {d d' : Int} (ha : okT a d = true) (hb : okT b d' = true) :
    WS (addT b (addT a s).2).2 ∧ Cl (addT b (addT a s).2).2 [] ∧ (addT a s).1 < (addT b (addT a s).2).2.n ∧ (addT b (addT a s).2).1 < (addT b (addT a s).2).2.n ∧
    (∀ (A : Alg) (τ : Int → A.T), satS A τ (addT b (addT a s).2).2 ↔ satS A τ s) ∧ (∀ (A : Alg) (τ : Int → A.T), vN A τ (addT b (addT a s).2).2.nodes (addT a s).1 = ev A τ a ∧ vN A τ (addT b (addT a s).2).2.nodes (addT b (addT a s).2).1 = ev A τ b) ∧
    (addT b (addT a s).2).2.n ≤ s.n + partsT a + partsT b ∧ (addT a s).2.n ≤ s.n + partsT a ∧ Ext s (addT b (addT a s).2).2 := by
  have h1 := addT_is a s d h ha
  have h2 := addT_is b _ d' h1.ws hb
  have hE := h1.ext.trans h2.ext
  refine ⟨h2.ws, hE.cl h hc, Nat.lt_of_lt_of_le h1.lt h2.ext.n, h2.lt, fun A τ => hE.sat h.ok h2.ws.ok A τ, fun A τ => ⟨?_, h2.val A τ⟩, ?_, h1.few, hE⟩
  · rw [h2.ext.vN h1.ws.ok h2.ws.ok A τ _ h1.lt, h1.val A τ]
  · have := h1.few; have := h2.few; omega
theorem Loaded.snoc {L : List (Int × Ty)} {s : Sto} (h : Loaded L s) {x : Int × Ty} (hx : okT (vTy x.1) 1 = true) (ht : okT x.2 1 = true) (hsol : ∃ τ, EqL (L ++ [x]) TyA τ) :
    ∃ f s', meetF f [((addT (vTy x.1) s).1, (addT x.2 (addT (vTy x.1) s).2).1)] (addT x.2 (addT (vTy x.1) s).2).2 = some (true, s') ∧ Loaded (L ++ [x]) s' := by
  obtain ⟨g1, g2, g3, g4, g5, g6, g7, -, -⟩ := add_two h.ws h.cl hx ht
  revert g1 g2 g3 g4 g5 g6 g7
  generalize (addT x.2 (addT (vTy x.1) s).2).2 = s2
  generalize (addT x.2 (addT (vTy x.1) s).2).1 = j
  generalize (addT (vTy x.1) s).1 = i
  intro g1 g2 g3 g4 g5 g6 g7
  have hcw : Cl s2 [(i, j)] := fun i hi hk => by
    obtain ⟨c1, c2, c3⟩ := g2 i hi hk
    exact ⟨c1, c2, fun E hE k hk => c3 E ⟨hE.refl, hE.symm, hE.trans, hE.cls, fun q hq => by cases hq⟩ k hk⟩
  have hE : ∀ (A : Alg) (τ : Int → A.T), (satS A τ s2 ∧ vN A τ s2.nodes i = vN A τ s2.nodes j) ↔ EqL (L ++ [x]) A τ := fun A τ => by
    rw [g5 A τ, h.sat A τ, (g6 A τ).1, (g6 A τ).2, ev_var]
    constructor
    · rintro ⟨k1, k2⟩ y hy
      rcases List.mem_append.1 hy with hy | hy
      · exact k1 y hy
      · rw [List.mem_singleton.1 hy]; exact k2
    · intro k
      exact ⟨fun y hy => k y (by simp [hy]), k x (by simp)⟩
  obtain ⟨f, r, s', hf, hr⟩ := meet_total _ _ s2 [(i, j)] g1 hcw (fun x hx => by rw [List.mem_singleton.1 hx]; exact ⟨g3, g4⟩) rfl (Nat.le_refl _)
  rcases hr with ⟨rfl, hm⟩ | ⟨rfl, hn⟩
  · refine ⟨f, s', hf, hm.ws, hm.cl, fun A τ => ?_, ?_⟩
    · rw [hm.sat, ← hE A τ]; simp
    · have hnn : s'.n = s2.n := by unfold Sto.n; rw [hm.nodes]
      have := h.few
      have e1 : partsT (vTy x.1) = 1 := by simp [partsT, partsL]
      rw [e1] at g7
      simp only [List.length_append, List.length_singleton, List.map_append, List.map_cons, List.map_nil, List.sum_append, List.sum_cons, List.sum_nil]
      omega
  · obtain ⟨τ, hτ⟩ := hsol
    obtain ⟨k1, k2⟩ := (hE TyA τ).2 hτ
    exact absurd ⟨k1, fun p hp => by rw [List.mem_singleton.1 hp]; exact k2⟩ (hn TyA τ)

end Go.Proofs.YtplnfepdikbpfaaGreatDoor
