/- Several types cut in one statement, whatever the order in which their variables are made; the law's cut and some. Condition: what is cut reads. How many pairs Unify's answer has; what cut pairs hold in all. -/
import Derived.Test.YtplnfepdikbpfaaGreatDoorWI
import Derived.Test.YtplnfepdikbpfaaGreatDoorST13
import Derived.Test.YtplnfepdikbpfaaGreatDoorBD
import Derived.Test.YtplnfepdikbpfaaGreatDoorST11
import Derived.Test.YtplnfepdikbpfaaGreatDoorUU
namespace Go.Proofs.YtplnfepdikbpfaaGreatDoor
open Go.RowKit
open Go.Proofs.YtplnfepdikbpfaaGreatDoorW.PrintLast
set_option linter.unusedVariables false
set_option linter.unusedSimpArgs false
attribute [local go_sem ↓] Go.wp_at_zero Go.wp_at_succ

/-- A type's value that leans on what 'ok' names. -/
def XT (t : Ty) (ok : Nat → Prop) (W : World) (v : Value) : Prop := ∃ A c, v = tyV t (.slice A t.args.length c) ∧ Ok1 t ∧ RdL ok W (.slice A t.args.length c) t.args
/-- .. and pairs. -/
def XB (L : List (Int × Ty)) (ok : Nat → Prop) (W : World) (v : Value) : Prop := RdB ok W v L
abbrev fresh (w w' : World) (b : Nat) : Prop := w.heap.size ≤ b ∧ b < w'.heap.size
theorem lcut_rd (t : Ty) (v : Value) (w : World) (hv : RdV w v t) : Calls Tryz.prog 14 #[v] w fun e w' => ∃ u, e = .returned u ∧ XT (cutA t) (fresh w w') w' u ∧ Below w.heap.size w w' :=
  (lcut_calls t v w hv).mono fun e w' ⟨A, c, he, ⟨h1, h2⟩, hb⟩ => ⟨_, he, ⟨A, c, rfl, h1, h2⟩, hb⟩
theorem cutBd_len : ∀ (L : List (Int × Ty)) (m : Nat) (left : Int), (cutBd L m left).length ≤ m
  | [], m, left => by rw [cutBd]; exact Nat.zero_le _
  | _ :: _, 0, left => by rw [cutBd]; exact Nat.le_refl _
  | x :: xs, m + 1, left => by
    rw [cutBd]
    split
    · have := cutBd_len xs m (cutT x.2 left 1).2; simp; omega
    · simp
/-- What CutBinds makes of pairs. -/
abbrev lB (L : List (Int × Ty)) : List (Int × Ty) := cutBd L 60 6000
theorem lB_few (L : List (Int × Ty)) : (lB L).length ≤ 60 := cutBd_len L 60 6000
theorem cutB_rd (L : List (Int × Ty)) (v : Value) (w : World) (hv : RdBw w v L) : Calls Tryz.prog 26 #[v, .int .i64 60, .int .i64 6000] w fun e w' => ∃ u, e = .returned u ∧ XB (lB L) (fresh w w') w' u ∧ Below w.heap.size w w' :=
  (RCutBinds_calls L v w 60 6000 hv (by omega) (by omega) (by omega)).mono fun e w' ⟨u, he, ho, hb⟩ => ⟨u, he, ho.read (by have := cutBd_len L 60 6000; omega) _ (fun b h1 h2 => ⟨h1, h2⟩) (fun b h => ho.lt b h), hb⟩
/-- The law's some. -/
def someB (L : List (Int × Ty)) : List (Int × Ty) := if solvedB (lB L) = true then lB L else []
theorem someB_slv (L : List (Int × Ty)) : Slv (someB L) := by
  unfold someB
  split
  · rename_i h; exact (slv_iff _).1 h
  · exact (slv_iff _).1 rfl
theorem someB_few (L : List (Int × Ty)) : (someB L).length ≤ 60 := by
  unfold someB
  split
  · exact lB_few L
  · simp
set_option maxRecDepth 100000 in
theorem some_rd (L : List (Int × Ty)) (v : Value) (w : World) (hv : RdBw w v L) : Calls Tryz.prog 27 #[v] w fun e w' => ∃ u, e = .returned u ∧ XB (someB L) (fresh w w') w' u ∧ Below w.heap.size w w' := by
  have hc := cutB_rd L v w hv
  obtain ⟨A, c, rfl, -, -⟩ := id hv
  have hl := lB_few L
  obtain ⟨l, hl0⟩ : ∃ l, l = lB L := ⟨_, rfl⟩
  obtain ⟨r, hr⟩ : ∃ r, r = someB L := ⟨_, rfl⟩
  have hr2 := hr
  rw [← hr]
  unfold someB at hr
  rw [← hl0] at hr hc hl
  have HR := Lib.hid hr
  clear hv hr hr2 hl0
  go_enter Tryz.func27, Tryz.ntmps27
  go_wp2_with fail
  refine hc.mono ?_
  rintro e w1 ⟨u, rfl, hu, hb⟩
  have hs := IsSolved_calls l u w1 (hu.turn (fun b h => h.2) (fun _ _ _ => rfl)) (by omega)
  rw [decide_eq_true (show l.length ≤ 20000 by omega), Bool.true_and] at hs
  obtain ⟨A1, c1, rfl, -, -⟩ := id hu
  have HU := Lib.hid hu; have HB := Lib.hid hb
  clear hu hb hc
  cases hsb : solvedB l with
  | true =>
    rw [hsb] at hs
    have HE := Lib.hid (show r = l by rw [HR.out, if_pos hsb])
    clear hsb
    go_wp2_with fail
    refine hs.mono ?_
    rintro e w2 ⟨rfl, hb2⟩
    have HFIN := Lib.hid (show XB r (fresh w w2) w2 (.slice A1 l.length c1) ∧ Below w.heap.size w w2 from ⟨by rw [HE.out]; exact HU.out.turn (fun b h => ⟨h.1, Nat.lt_of_lt_of_le h.2 hb2.size⟩) (fun b o h => hb2.cell (p := ⟨b, o, none⟩) h.2), HB.out.trans (hb2.mono HB.out.size)⟩)
    clear hb2 hs
    go_wp2
    go_ret
    exact ⟨_, rfl, HFIN.out⟩
  | false =>
    rw [hsb] at hs
    have HE := Lib.hid (show r = [] by rw [HR.out, hsb]; rfl)
    clear hsb
    go_wp2_with fail
    refine hs.mono ?_
    rintro e w2 ⟨rfl, hb2⟩
    have HFIN := Lib.hid (show XB r (fresh w w2) w2 (.slice none 0 0) ∧ Below w.heap.size w w2 from ⟨by rw [HE.out]; exact RdB.nil _ _, HB.out.trans (hb2.mono HB.out.size)⟩)
    clear hb2 hs
    go_wp2
    go_ret
    exact ⟨_, rfl, HFIN.out⟩

/-! ### A statement's variables: made in any order -/
abbrev zC : Array Value := #[.int .i64 0, .string ⟨#[]⟩, .string ⟨#[]⟩, .slice none 0 0, .int .i64 0]
def PZ (B0 : Nat) (W : World) (v : Value) : Prop := ∃ q, v = .pointer (some ⟨q, 0, none⟩) ∧ B0 ≤ q ∧ W.heap[q]? = some (.cells zC 24 (0, 0))
theorem PZ.below {B0 : Nat} {W W' : World} {v : Value} (h : PZ B0 W v) (hb : Below W.heap.size W W') : PZ B0 W' v := by
  obtain ⟨q, h1, h2, h3⟩ := h; exact ⟨q, h1, h2, (hb.block q (lt_of_block h3)).trans h3⟩
def Mono (X : (Nat → Prop) → World → Value → Prop) : Prop := ∀ ok W W' v, X ok W v → (∀ b o, ok b → W'.cell? ⟨b, o, none⟩ = W.cell? ⟨b, o, none⟩) → X ok W' v
theorem mono_ty (t : Ty) : Mono (XT t) := fun _ _ _ _ ⟨A, c, h1, h2, h3⟩ hc => ⟨A, c, h1, h2, h3.turn (fun _ h => h) hc⟩
theorem mono_bd (L : List (Int × Ty)) : Mono (XB L) := fun _ _ _ _ h hc => h.turn (fun _ h => h) hc
/-- What has been reckoned, and which variables have been made. -/
structure LS (w1 : World) (vs : List (Value × ((Nat → Prop) → World → Value → Prop))) (ps : List Value) (W : World) : Prop where
  b : Below w1.heap.size w1 W
  v : ∀ x ∈ vs, Mono x.2 ∧ ∃ ok, x.2 ok W x.1 ∧ (∀ b, ok b → b < W.heap.size) ∧ ∀ u ∈ ps, ∀ q, u = .pointer (some ⟨q, 0, none⟩) → ¬ ok q
  p : ∀ u ∈ ps, PZ w1.heap.size W u
  d : ps.Pairwise (· ≠ ·)
theorem LS.nil (w1 : World) : LS w1 [] [] w1.drew := ⟨belD _ _, fun x h => (by cases h), fun u h => (by cases h), List.Pairwise.nil⟩
theorem LS.bel {w1 W W' : World} {vs : List (Value × ((Nat → Prop) → World → Value → Prop))} {ps : List Value} (h : LS w1 vs ps W) (hb : Below W.heap.size W W') : LS w1 vs ps W' := by
  refine ⟨h.b.trans (hb.mono h.b.size), fun x hx => ?_, fun u hu => (h.p u hu).below hb, h.d⟩
  obtain ⟨h1, ok, h2, h3, h4⟩ := h.v x hx
  exact ⟨h1, ok, h1 _ _ _ _ h2 (fun b o hk => hb.cell (p := ⟨b, o, none⟩) (h3 b hk)), fun b hk => Nat.lt_of_lt_of_le (h3 b hk) hb.size, h4⟩
theorem LS.call {w1 W W' : World} {vs : List (Value × ((Nat → Prop) → World → Value → Prop))} {ps : List Value} (h : LS w1 vs ps W) (hb : Below W.heap.size W W') {X : (Nat → Prop) → World → Value → Prop} (hm : Mono X) {u : Value} (hu : X (fresh W W') W' u) : LS w1 (vs ++ [(u, X)]) ps W' := by
  have h2 := h.bel hb
  refine ⟨h2.b, fun x hx => ?_, h2.p, h2.d⟩
  rcases List.mem_append.1 hx with hx | hx
  · exact h2.v x hx
  · rw [List.mem_singleton.1 hx]
    refine ⟨hm, _, hu, fun b hb => hb.2, fun u hu q e hq => ?_⟩
    obtain ⟨r, h3, -, h4⟩ := h.p u hu
    rw [h3] at e
    injection e with e
    have e2 := Option.some.inj e
    injection e2 with e3
    have := lt_of_block h4
    have := hq.1
    omega
theorem LS.make {w1 W : World} {vs : List (Value × ((Nat → Prop) → World → Value → Prop))} (l r : List Value) (h : LS w1 vs (l ++ r) W) : LS w1 vs (l ++ .pointer (some ⟨W.heap.size, 0, none⟩) :: r) (W.alloc (.cells zC 24)) := by
  have h2 := h.bel (bel_alloc (Below.refl _ _) (.cells zC 24))
  have hne : ∀ u ∈ l ++ r, u ≠ .pointer (some ⟨W.heap.size, 0, none⟩) := fun u hu e => by
    obtain ⟨q, h3, -, h4⟩ := h.p u hu
    rw [h3] at e
    injection e with e
    have e2 := Option.some.inj e
    injection e2 with e3
    have := lt_of_block h4
    omega
  refine ⟨h2.b, fun x hx => ?_, fun u hu => ?_, ?_⟩
  · obtain ⟨h3, ok, h4, h5, h6⟩ := h.v x hx
    obtain ⟨-, -⟩ := h2.v x hx
    refine ⟨h3, ok, h3 _ _ _ _ h4 (fun b o hk => (bel_alloc (Below.refl W.heap.size W) (.cells zC 24)).cell (p := ⟨b, o, none⟩) (h5 b hk)), fun b hk => by have := h5 b hk; simp; omega, fun u hu q e hk => ?_⟩
    rcases List.mem_append.1 hu with hu | hu
    · exact h6 u (by simp [hu]) q e hk
    · rcases List.mem_cons.1 hu with rfl | hu
      · injection e with e
        have e2 := Option.some.inj e
        injection e2 with e3
        have := h5 q hk
        omega
      · exact h6 u (by simp [hu]) q e hk
  · rcases List.mem_append.1 hu with hu | hu
    · exact h2.p u (by simp [hu])
    · rcases List.mem_cons.1 hu with rfl | hu
      · exact ⟨W.heap.size, rfl, h.b.size, (MapKept.heap_alloc W _).1⟩
      · exact h2.p u (by simp [hu])
  · have hd := h.d
    rw [List.pairwise_append] at hd ⊢
    refine ⟨hd.1, ?_, fun u hu v hv => ?_⟩
    · rw [List.pairwise_cons]
      exact ⟨fun v hv e => hne v (by simp [hv]) e.symm, hd.2.1⟩
    · rcases List.mem_cons.1 hv with rfl | hv
      · exact hne u (by simp [hu])
      · exact hd.2.2 u hu v hv
/-- A value behind stores into the variables. -/
theorem LS.get {w1 W W' : World} {vs : List (Value × ((Nat → Prop) → World → Value → Prop))} {ps : List Value} (h : LS w1 vs ps W) {X : (Nat → Prop) → World → Value → Prop} {u : Value} (hx : (u, X) ∈ vs)
    (hs : W.heap.size ≤ W'.heap.size) (hW : ∀ b, b < W.heap.size → (∀ u ∈ ps, ∀ q, u = .pointer (some ⟨q, 0, none⟩) → b ≠ q) → W'.heap[b]? = W.heap[b]?) : ∃ ok, X ok W' u ∧ ∀ b, ok b → b < W'.heap.size := by
  obtain ⟨h1, ok, h2, h3, h4⟩ := h.v _ hx
  exact ⟨ok, h1 _ _ _ _ h2 (fun b o hk => World.cell?_of_block (hW b (h3 b hk) (fun u hu q e e2 => h4 u hu q e (e2 ▸ hk)))), fun b hk => Nat.lt_of_lt_of_le (h3 b hk) hs⟩
theorem XT.rdv {t : Ty} {ok : Nat → Prop} {W : World} {v : Value} (h : XT t ok W v) (hk : ∀ b, ok b → b < W.heap.size) : RdV W v t := by
  obtain ⟨A, c, h1, h2, h3⟩ := h
  exact ⟨h2, A, c, h1, h3.turn hk (fun _ _ _ => rfl)⟩
theorem XB.rdb {L : List (Int × Ty)} {ok : Nat → Prop} {W : World} {v : Value} (h : XB L ok W v) (hk : ∀ b, ok b → b < W.heap.size) : RdBw W v L := h.turn hk (fun _ _ _ => rfl)
/-- The rest of a region under a name. -/
theorem wp_abs {P : Program} {md : Region.Mode} {ops : Array Oper} {Q : Exit → Act → World → Prop} {S : World → Prop} {ds : List Nat} {n : Nat} {l : Array Bool} {a : Act} {w : World}
    (h : ∀ G : Nat → Array Bool → Act → World → Prop, (∀ n l a w, wpAnyLast P md ops Q S ds n l a w → G n l a w) → (∀ n l a w, G n l a w → wpAnyLast P md ops Q S ds n l a w) → G n l a w) : wpAnyLast P md ops Q S ds n l a w :=
  h _ (fun _ _ _ _ h => h) (fun _ _ _ _ h => h)
/-- A type's box, filled. -/
abbrev fil (W : World) (q : Nat) (t : Ty) (A : Option Addr) (c : Nat) : World := p5w W q (.int .i64 t.kind) (.string (S t.mod)) (.string (S t.name)) (.slice A t.args.length c) (.int .i64 t.var)
abbrev tyC (t : Ty) (A : Option Addr) (c : Nat) : Array Value := #[.int .i64 t.kind, .string (S t.mod), .string (S t.name), .slice A t.args.length c, .int .i64 t.var]
theorem fil_same {W : World} {q : Nat} {t : Ty} {A : Option Addr} {c : Nat} (h : W.heap[q]? = some (.cells zC 24 (0, 0))) : (fil W q t A c).heap[q]? = some (.cells (tyC t A c) 24 (0, 0)) := p5w_blk h
theorem fil_other {W : World} {q r : Nat} {t : Ty} {A : Option Addr} {c : Nat} (hr : r < W.heap.size) (h : r ≠ q) : (fil W q t A c).heap[r]? = W.heap[r]? := (p5w_gb W q _ _ _ _ _).block r hr (fun e => h (Option.some.inj e))
theorem fil_bel {B : Nat} {w W : World} {q : Nat} {t : Ty} {A : Option Addr} {c : Nat} (h : Below B w W) (hB : B ≤ w.heap.size) (hq : B ≤ q) : Below B w (fil W q t A c) := by
  have hg := p5w_gb W q (.int .i64 t.kind) (.string (S t.mod)) (.string (S t.name)) (.slice A t.args.length c) (.int .i64 t.var)
  exact h.trans ((Tn.gb (O := fun k => k = q) hg fun k e => .inl (Option.some.inj e).symm).below (Nat.le_trans hB h.size) fun k e => by subst e; exact hq)

end Go.Proofs.YtplnfepdikbpfaaGreatDoor

namespace Go.Proofs.YtplnfepdikbpfaaGreatDoor
open Go.RowKit

theorem cutL_p {xs : List Ty} (ih : ∀ a ∈ xs, ∀ left d : Int, 1 ≤ left → (cutT a left d).2 + partsT (cutT a left d).1 ≤ left) : ∀ r d : Int, 0 ≤ r → (cutL xs r d).2 + partsL (cutL xs r d).1 ≤ r := by
  induction xs with
  | nil => intro r d h; rw [cutL_nil]; simp [partsL]
  | cons a xs ih2 =>
    intro r d h
    by_cases hg : 0 < r ∧ d ≤ 102
    · rw [cutL_go _ _ _ _ hg]
      have h1 := ih a (by simp) r (d + 1) (by omega)
      have h0 := (cutT_b a r (d + 1) (by omega)).1
      have h3 := ih2 (fun b hb => ih b (by simp [hb])) (cutT a r (d + 1)).2 d h0
      simp only [partsL]
      omega
    · rw [cutL_stop _ _ _ hg]; simp [partsL]
theorem cutT_p (t : Ty) : ∀ left d : Int, 1 ≤ left → (cutT t left d).2 + partsT (cutT t left d).1 ≤ left := by
  induction t using Ty.ind with
  | h k m n xs v ih =>
    intro left d h
    rw [cutT_mk]
    have := cutL_p ih (left - 1) d (by omega)
    simp only [partsT]
    omega
theorem cutBd_p : ∀ (L : List (Int × Ty)) (m : Nat) (left : Int), 0 ≤ left → (((cutBd L m left).map fun x => partsT x.2).sum : Int) ≤ left
  | [], m, left, h => by rw [cutBd]; simpa using h
  | _ :: _, 0, left, h => by rw [cutBd]; simpa using h
  | x :: xs, m + 1, left, h => by
    rw [cutBd]
    split
    · have h1 := cutT_p x.2 left 1 (by omega)
      have h2 := cutBd_p xs m (cutT x.2 left 1).2 (cutT_b x.2 left 1 (by omega)).1
      simp only [List.map_cons, List.sum_cons, Int.natCast_add]
      omega
    · simpa using h
/-- What pairs hold in all. -/
def wgtB (L : List (Int × Ty)) : Nat := (L.map fun x => 1 + partsT x.2).sum
theorem wgt_le (L : List (Int × Ty)) : wgtB L = L.length + (L.map fun x => partsT x.2).sum := by
  unfold wgtB
  induction L with
  | nil => rfl
  | cons x L ih => simp only [List.map_cons, List.sum_cons, List.length_cons]; omega
theorem lB_wgt (L : List (Int × Ty)) : wgtB (lB L) ≤ 6060 := by
  rw [wgt_le]
  have h1 := lB_few L
  have h2 : (((lB L).map fun x => partsT x.2).sum : Int) ≤ 6000 := cutBd_p L 60 6000 (by omega)
  have : ((lB L).map fun x => partsT x.2).sum ≤ 6000 := by omega
  omega
theorem someB_wgt (L : List (Int × Ty)) : wgtB (someB L) ≤ 6060 := by
  unfold someB
  split
  · exact lB_wgt L
  · exact Nat.zero_le _

/-- A variable that nothing speaks of stays. -/
theorem mgu_off {a b : Ty} {L : List (Int × Ty)} {θ : Int → Ty} (h : Mgu (EqU a b L) θ) {v : Int} (ha : allV (fun u => u ≠ v) a) (hb : allV (fun u => u ≠ v) b) (hL : ∀ x ∈ L, x.1 ≠ v ∧ allV (fun u => u ≠ v) x.2) : θ v = vTy v := by
  have hE : ∀ t : Ty, ev TyA (fun u => if u = v then t else θ u) (θ v) = t := fun t => by
    have e : ∀ s : Ty, allV (fun u => u ≠ v) s → ev TyA (fun u => if u = v then t else θ u) s = ev TyA θ s := fun s hs => ev_agree TyA s (allV_imp (fun u hu => if_neg hu) s hs)
    have hs : EqU a b L TyA (fun u => if u = v then t else θ u) := ⟨fun x hx => by
      rw [e _ (hL x hx).2]
      exact (if_neg (hL x hx).1).trans (h.sol.1 x hx), by rw [e _ ha, e _ hb]; exact h.sol.2⟩
    exact (h.fac TyA _ hs v).trans (if_pos rfl)
  have hk : (θ v).kind = 6 := by
    by_cases hk : (θ v).kind = 6
    · exact hk
    · have h1 := ev_kind (θ := fun u => if u = v then vTy v else θ u) hk
      rw [hE (vTy v)] at h1
      exact h1.symm
  have hw := cln_eq (h.cln v) hk
  obtain ⟨w, hw0⟩ : ∃ w, w = (θ v).var := ⟨_, rfl⟩
  rw [← hw0] at hw
  by_cases e : w = v
  · rw [hw, e]
  · have h1 : (if w = v then vTy v else θ w) = vTy v := (ev_var TyA (fun u => if u = v then vTy v else θ u) w).symm.trans (hw ▸ hE (vTy v))
    have h2 : (if w = v then vTy (v + 1) else θ w) = vTy (v + 1) := (ev_var TyA (fun u => if u = v then vTy (v + 1) else θ u) w).symm.trans (hw ▸ hE (vTy (v + 1)))
    rw [if_neg e] at h1 h2
    rw [h1] at h2
    injection h2 with _ _ _ _ h
    omega
theorem few_of {l : List Int} : ∀ {m : List Int}, l.Pairwise (· < ·) → (∀ x ∈ l, x ∈ m) → l.length ≤ m.length := by
  induction l with
  | nil => intro m _ _; exact Nat.zero_le _
  | cons a l ih =>
    intro m h hs
    have ha := hs a (by simp)
    obtain ⟨h1, h2⟩ := List.pairwise_cons.1 h
    have h3 := ih (m := m.erase a) h2 (fun x hx => (List.mem_erase_of_ne (by have := h1 x hx; omega)).2 (hs x (by simp [hx])))
    rw [List.length_erase_of_mem ha] at h3
    have := List.length_pos_of_mem ha
    simp only [List.length_cons]
    omega
theorem flat_len (L : List (Int × Ty)) : (L.flatMap fun x => x.1 :: varsT x.2 []).length ≤ wgtB L := by
  unfold wgtB
  induction L with
  | nil => exact Nat.zero_le _
  | cons x L ih =>
    have := (varsT_len x.2 []).2
    simp only [List.flatMap_cons, List.length_append, List.length_cons, List.map_cons, List.sum_cons, List.length_nil] at this ⊢
    omega
theorem uans_few {a b : Ty} {L X : List (Int × Ty)} (h : UAns (EqU a b L) 0 X) : X.length ≤ partsT a + partsT b + wgtB L := by
  obtain ⟨h1, -, h3⟩ := uans_net h
  have hk : (X.map Prod.fst).Pairwise (· < ·) := List.pairwise_map.2 h3.1
  have hs : ∀ v ∈ X.map Prod.fst, v ∈ varsT a [] ++ varsT b [] ++ L.flatMap fun x => x.1 :: varsT x.2 [] := fun v hv => by
    obtain ⟨x, hx, rfl⟩ := List.mem_map.1 hv
    by_cases hm : x.1 ∈ varsT a [] ++ varsT b [] ++ L.flatMap fun x => x.1 :: varsT x.2 []
    · exact hm
    · exfalso
      simp only [List.mem_append, not_or, List.mem_flatMap, not_exists, not_and, List.mem_cons] at hm
      obtain ⟨⟨ha, hb⟩, hL⟩ := hm
      have := mgu_off h1 (v := x.1) ((vars_all a).1 fun u hu e => ha (e ▸ hu)) ((vars_all b).1 fun u hu e => hb (e ▸ hu)) (fun y hy => ⟨fun e => (hL y hy).1 e.symm, (vars_all y.2).1 fun u hu e => (hL y hy).2 (e ▸ hu)⟩)
      obtain ⟨h4, h5⟩ := (h3.2 x).1 hx
      rw [this] at h4
      exact h5 h4.symm
  have := few_of hk hs
  have h4 := flat_len L
  have h5 := (varsT_len a []).2
  have h6 := (varsT_len b []).2
  simp only [List.length_map, List.length_append, List.length_nil] at this h5 h6
  omega
/-- Unify's answer when what is given is well formed. -/
theorem unans_ok {a b : Ty} {L X : List (Int × Ty)} {e : Int} (ha : formedB a = true) (hb : formedB b = true) (hl : L.length ≤ 20000) (hL : Slv L) (h : UnAns a b L e X) : UAns (EqU a b L) e X ∧ ∀ x ∈ X, (0 ≤ x.1 ∧ x.1 ≤ 1048576) ∧ hdAll x.2 = true := by
  rcases h with ⟨h, -, -⟩ | ⟨-, h, k⟩
  · exact absurd ⟨ha, hb, hl, (slv_iff _).2 hL⟩ h
  · exact ⟨h, k⟩
/-- The pairs of a good answer: solved, and few. -/
theorem uans_slv {a b : Ty} {L X : List (Int × Ty)} (ha : formedB a = true) (hb : formedB b = true) (hw : wgtB L ≤ 6060) (h : UAns (EqU a b L) 0 X) (hh : ∀ x ∈ X, (0 ≤ x.1 ∧ x.1 ≤ 1048576) ∧ hdAll x.2 = true) : Slv X ∧ X.length ≤ 20000 := by
  obtain ⟨h1, h2, h3⟩ := uans_net h
  refine ⟨slv_of h1 h2 h3 hh, ?_⟩
  have := uans_few h
  have h4 := (formed_fit ha).1
  have h5 := (formed_fit hb).1
  omega
theorem uans_e {E : Asks} {e : Int} {X : List (Int × Ty)} (h : UAns E e X) : e = 10 ∨ e = 13 ∨ e = 7 ∨ e = 0 := by
  rcases h with ⟨h, -⟩ | ⟨h, -⟩ | ⟨h, -⟩ | ⟨h, -⟩ <;> simp [h]

theorem sameBd_self (L : List (Int × Ty)) : sameBd L L = true := by
  induction L with
  | nil => rfl
  | cons x L ih => rw [sameBd, ih, sameT_eq]; simp
theorem upost_few {w w' : World} {e : Int} {X : List (Int × Ty)} {en : Ending} (h : UPost w e X en w') : ∃ v, en = .returned (.tuple #[v, .int .i64 e]) ∧ RdBw w' v X ∧ Below w.heap.size w w' := by
  obtain ⟨v, h1, h2, h3⟩ := h
  exact ⟨v, h1, h2.turn (fun b h => h.2) (fun _ _ _ => rfl), h3⟩

end Go.Proofs.YtplnfepdikbpfaaGreatDoor
