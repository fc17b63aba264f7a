/- The walk of law14's UnifyNew: it is true. Condition: the scheme's type reads; first is a uint16; the world's tables. -/
import Derived.Test.YtplnfepdikbpfaaGreatDoorVO
import Derived.Test.YtplnfepdikbpfaaGreatDoorST13
import Derived.Test.YtplnfepdikbpfaaGreatDoorST14
namespace Go.Proofs.YtplnfepdikbpfaaGreatDoor
open Go.RowKit
open Go.Proofs.YtplnfepdikbpfaaGreatDoorW.PrintLast
set_option linter.unusedVariables false
set_option linter.unusedSimpArgs false
attribute [local go_sem ↓] Go.wp_at_zero Go.wp_at_succ

theorem same_self (a : Ty) : sameT a a = true := by rw [sameT_eq]; simp
theorem rdv_of {ok : Nat → Prop} {w : World} {t : Ty} {A : Option Addr} {c : Nat} (h : Ok1 t ∧ RdL ok w (.slice A t.args.length c) t.args) (hk : ∀ b, ok b → b < w.heap.size) : RdV w (.agg #[.int .i64 t.kind, .string (S t.mod), .string (S t.name), .slice A t.args.length c, .int .i64 t.var]) t := ⟨h.1, A, c, rfl, h.2.weak hk⟩
theorem OwnI.called {w W : World} {base : Nat} {v : Value} {l : List Int} (h : OwnI w base v l) (hb : Below w.heap.size w W) : OwnI W base v l := row_turn h (Tn.bel hb (fun _ => False)) (fun _ _ e => e)
theorem wrap_few (n : Int) (h : -9223372036854775808 ≤ n ∧ n ≤ 9223372036854775807) : IntKind.i64.wrap n = n := by
  have h64 : (2 : Int) ^ 64 = 18446744073709551616 := by decide
  have h63 : (2 : Int) ^ (64 - 1) = 9223372036854775808 := by decide
  simp only [IntKind.wrap, IntKind.bits, IntKind.signed, Bool.true_and, decide_eq_true_eq, h64, h63]
  split <;> omega

/-- What an instance without an error tells. -/
theorem inst_ok {n : Int} {t : Ty} {f : Int} (h : instE n t f = 0) : formedB t = true ∧ (∀ v ∈ varsT t [], v < n) ∧ (∀ v ∈ varsT t [], InV v ∧ InV (v + f)) := by
  unfold instE at h
  cases hg : (formedB t && decide (0 ≤ n) && !((varsT t []).any fun v => decide (v ≥ n))) with
  | false => rw [hg, if_pos rfl] at h; exact absurd h (by decide)
  | true =>
    rw [hg, if_neg (by decide)] at h
    simp only [Bool.and_eq_true, decide_eq_true_eq, Bool.not_eq_true'] at hg
    obtain ⟨⟨h1, h2⟩, h3⟩ := hg
    by_cases h4 : f < 0
    · rw [if_pos h4] at h; exact absurd h (by decide)
    · rw [if_neg h4] at h
      cases h5 : ((varsT t []).any fun v => decide (f > 1048576 - v)) with
      | true => rw [h5, if_pos rfl] at h; exact absurd h (by decide)
      | false =>
        refine ⟨h1, fun v hv => ?_, fun v hv => ?_⟩
        · have := List.any_eq_false.1 h3 v hv
          simp at this
          omega
        · have h6 := (vars_all t).2 (formed_all h1) v hv
          have h7 := List.any_eq_false.1 h5 v hv
          simp at h7
          obtain ⟨h8, h9⟩ := h6
          exact ⟨⟨h8, h9⟩, by omega, by omega⟩
theorem inst_formed {n : Int} {t : Ty} {f : Int} (h : instE n t f = 0) : formedB (renT (· + f) t) = true :=
  formed_ren _ ((vars_all t).1 fun v hv => ((inst_ok h).2.2 v hv).2) (inst_ok h).1

set_option maxRecDepth 100000 in
set_option maxHeartbeats 32000000 in
theorem UnifyNew_calls (n : Int) (t : Ty) (first : Int) (A : Option Addr) (c : Nat) (w : World) (h1 : Ok1 t) (hr : Rd w (.slice A t.args.length c) t.args) (hf0 : 0 ≤ first) (hf1 : first < 65536) (he : EnvB w.heap.size w) :
    Calls Tryz.prog 13 #[.agg #[.int .i64 n, .int .i64 t.kind, .string (S t.mod), .string (S t.name), .slice A t.args.length c, .int .i64 t.var], .int .u16 first] w fun e w' => e = .returned (.bool true) ∧ Below w.heap.size w w' := by
  have HE := Lib.hid (show ∀ X, Below w.heap.size w X → TabW X ∧ EnvB X.heap.size X from fun X h => ⟨(he X h).1, fun W hW => he W (bel_t h hW (Nat.le_refl _))⟩)
  obtain ⟨w1, hw1⟩ : ∃ w1, w1 = w.alloc (.cells #[.int .i64 n, .int .i64 t.kind, .string (S t.mod), .string (S t.name), .slice A t.args.length c, .int .i64 t.var] 57) := ⟨_, rfl⟩
  obtain ⟨q2, hq2⟩ : ∃ q, q = w.heap.size := ⟨_, rfl⟩
  have B1 := Lib.hid (show Below w.heap.size w w1 by rw [hw1]; exact bel_a _ _)
  have blk2 := Lib.hid (show w1.heap[q2]? = some (.cells #[.int .i64 n, .int .i64 t.kind, .string (S t.mod), .string (S t.name), .slice A t.args.length c, .int .i64 t.var] 57 (0, 0)) by rw [hw1, hq2]; exact (MapKept.heap_alloc w _).1)
  have K1 := Lib.hid (show ∀ X, Below w1.heap.size w1 X → X.cell? ⟨q2, 0, none⟩ = some (.int .i64 n) ∧ X.cell? ⟨q2, 1, none⟩ = some (.int .i64 t.kind) ∧ X.cell? ⟨q2, 2, none⟩ = some (.string (S t.mod)) ∧ X.cell? ⟨q2, 3, none⟩ = some (.string (S t.name)) ∧ X.cell? ⟨q2, 4, none⟩ = some (.slice A t.args.length c) ∧ X.cell? ⟨q2, 5, none⟩ = some (.int .i64 t.var) from fun X hb => by
    obtain ⟨a0, a1, a2, a3, a4, a5, -⟩ := six_cells6 blk2.out
    have la := lt_of_block blk2.out
    have ca : ∀ o, X.cell? ⟨q2, o, none⟩ = w1.cell? ⟨q2, o, none⟩ := fun o => hb.cell (p := ⟨q2, o, none⟩) la
    exact ⟨(ca 0).trans a0, (ca 1).trans a1, (ca 2).trans a2, (ca 3).trans a3, (ca 4).trans a4, (ca 5).trans a5⟩)
  obtain ⟨a, ha⟩ : ∃ a, a = cutA t := ⟨_, rfl⟩
  have hlc := lcut_calls t _ w1.drew (RdV.below ⟨h1, A, c, rfl, hr⟩ (bel_t B1.out (belD _ _) (Nat.le_refl _)))
  have hlc2 := lcut_calls t _ ((w1.alloc (.cells #[.int .i64 0, .int .i64 0, .string ⟨#[]⟩, .string ⟨#[]⟩, .slice none 0 0, .int .i64 0] 57)).drew) (RdV.below ⟨h1, A, c, rfl, hr⟩ (bel_t B1.out (bel_t (bel_a _ _) (belD _ _) (Nat.le_refl _)) (Nat.le_refl _)))
  rw [← ha] at hlc hlc2
  unfold tyV at hlc hlc2
  have e64 := wrap_few first (by omega)
  clear h1 hr he ha
  go_enter Tryz.func13, Tryz.ntmps13
  go_wp2_with fail
  rw [← hw1, ← hq2]
  clear hw1 hq2
  refine start_ (n := 8) (S := fun w' => w'.cell? ⟨q2, 0, none⟩ = some (.int .i64 n) ∧ w'.cell? ⟨q2, 1, none⟩ = some (.int .i64 t.kind) ∧ w'.cell? ⟨q2, 2, none⟩ = some (.string (S t.mod)) ∧ w'.cell? ⟨q2, 3, none⟩ = some (.string (S t.name)) ∧ w'.cell? ⟨q2, 4, none⟩ = some (.slice A t.args.length c) ∧ w'.cell? ⟨q2, 5, none⟩ = some (.int .i64 t.var)) (ds := [7]) #[false, false, false, false, false, false, false, false] (by kernel_rfl) rfl rfl ⟨(K1.out _ (belD _ _)).1, (K1.out _ (belD _ _)).2.1, (K1.out _ (belD _ _)).2.2.1, (K1.out _ (belD _ _)).2.2.2.1, (K1.out _ (belD _ _)).2.2.2.2.1, (K1.out _ (belD _ _)).2.2.2.2.2⟩ (fun hHeld => ?_)
  refine pure_ (i := 0) (N := some 17) (v := ?_) (a' := ?_) #[true, false, false, false, false, false, false, false] rfl rfl (by kernel_rfl) (fun _ _ _ h => h) (Or.inl ⟨by rfl, ?_⟩) ?_ ?_
  rotate_left
  · intro w'
    go_simp
    with_reducible rfl
  rotate_left
  · simp only [Act.put, List.setIfInBounds_toArray, List.set_cons_zero, List.set_cons_succ, i64_w, i32_w]
    rfl
  refine pure_ (i := 2) (N := some 19) (v := ?_) (a' := ?_) #[true, false, true, false, false, false, false, false] rfl rfl (by kernel_rfl) (fun _ _ _ h => h) (Or.inl ⟨by rfl, ?_⟩) ?_ ?_
  rotate_left
  · intro w'
    go_simp
    with_reducible rfl
  rotate_left
  · simp only [Act.put, List.setIfInBounds_toArray, List.set_cons_zero, List.set_cons_succ, i64_w, i32_w]
    rfl
  refine take_ (i := 1) (N := some 18) (v := ?_) (a' := ?_) #[true, true, true, false, false, false, false, false] rfl rfl (by kernel_rfl) (fun _ _ _ h => h) (Or.inl ⟨by rfl, ?_⟩) hHeld ?_ ?_
  rotate_left
  · rintro w' ⟨s0, s1, s2, s3, s4, s5⟩
    go_simp
    with_reducible rfl
  rotate_left
  · simp only [Act.put, List.setIfInBounds_toArray, List.set_cons_zero, List.set_cons_succ, i64_w, i32_w]
    rfl
  refine take_ (i := 3) (N := some 20) (v := ?_) (a' := ?_) #[true, true, true, true, false, false, false, false] rfl rfl (by kernel_rfl) (fun _ _ _ h => h) (Or.inl ⟨by rfl, ?_⟩) hHeld ?_ ?_
  rotate_left
  · rintro w' ⟨s0, s1, s2, s3, s4, s5⟩
    go_simp
    with_reducible rfl
  rotate_left
  · simp only [Act.put, List.setIfInBounds_toArray, List.set_cons_zero, List.set_cons_succ, i64_w, i32_w]
    rfl
  refine join_ (σ := (Option Addr × Nat) × Nat) 1 #[true, true, true, true, true, true, true, false] (fun s => [(21, Value.agg #[.int .i64 a.kind, .string (S a.mod), .string (S a.name), .slice s.1.1 a.args.length s.1.2, .int .i64 a.var]), (22, Value.agg #[.int .i64 n, .int .i64 a.kind, .string (S a.mod), .string (S a.name), .slice s.1.1 a.args.length s.1.2, .int .i64 a.var]), (5, Value.pointer (some ⟨s.2, 0, none⟩))]) (fun s w' => Below w1.heap.size w1 w' ∧ w1.heap.size ≤ s.2 ∧ w'.heap[s.2]? = some (.cells #[.int .i64 0, .int .i64 0, .string ⟨#[]⟩, .string ⟨#[]⟩, .slice none 0 0, .int .i64 0] 57 (0, 0)) ∧ Ok1 a ∧ RdP s.2 w' (.slice s.1.1 a.args.length s.1.2) a.args) ?_ ?_
  rotate_left
  · intro hCont
    refine two_ (i := 4) (j := 6) (Ni := some 21) (Nj := some 5) #[true, true, true, true, true, false, false, false] #[true, true, true, true, false, false, true, false] rfl rfl rfl rfl (by kernel_rfl) (by decide) (by decide) (fun K hK => ?_) (fun K hK => ?_)
    · skip
      refine goes_ Tryz.func14 (by kernel_rfl) rfl #[.agg #[.int .i64 t.kind, .string (S t.mod), .string (S t.name), .slice A t.args.length c, .int .i64 t.var]] (by rfl) rfl rfl (by simp only [List.map_toArray, List.map_cons, List.map_nil]; rfl) ?_
      with_reducible refine (hlc).mono ?_
      rintro e u1 ⟨A2, c2, rfl, hrd, hb⟩
      refine ⟨_, rfl, ?_⟩
      unfold tyV
      have C1 := Lib.hid (show Below w1.heap.size w1 u1 from bel_t (belD _ _) hb (Nat.le_refl _))
      have HRD := Lib.hid hrd
      have BB := Lib.hid hb
      clear hb hrd
      refine hK.out _ _ ⟨(K1.out _ C1.out).1, (K1.out _ C1.out).2.1, (K1.out _ C1.out).2.2.1, (K1.out _ C1.out).2.2.2.1, (K1.out _ C1.out).2.2.2.2.1, (K1.out _ C1.out).2.2.2.2.2⟩ (fun hHeld => ?_)
      clear hK K
      refine norm_ (a' := ?_) ?_ ?_
      rotate_left
      · show Act.put _ (some 21) _ = _
        simp only [Act.put, List.setIfInBounds_toArray, List.set_cons_zero, List.set_cons_succ, i64_w, i32_w]
        rfl
      refine pure_ (i := 5) (N := some 22) (v := ?_) (a' := ?_) #[true, true, true, true, true, true, false, false] rfl rfl (by kernel_rfl) (fun _ _ _ h => h) (Or.inl ⟨by rfl, ?_⟩) ?_ ?_
      rotate_left
      · intro w'
        go_simp
        with_reducible rfl
      rotate_left
      · simp only [Act.put, List.setIfInBounds_toArray, List.set_cons_zero, List.set_cons_succ, i64_w, i32_w]
        rfl
      refine one_ (i := 6) (N := some 5) #[true, true, true, true, true, true, true, false] rfl rfl (by kernel_rfl) (by decide) (fun K hK => ?_)
      refine value_ (w1 := ?_) (v := ?_) (by rfl) rfl ?_ ?_
      rotate_left 2
      · go_simp
        constructor
        · rfl
        · rfl
      refine hK.out _ _ ⟨(K1.out _ (bel_t C1.out (bel_a _ _) (Nat.le_refl _))).1, (K1.out _ (bel_t C1.out (bel_a _ _) (Nat.le_refl _))).2.1, (K1.out _ (bel_t C1.out (bel_a _ _) (Nat.le_refl _))).2.2.1, (K1.out _ (bel_t C1.out (bel_a _ _) (Nat.le_refl _))).2.2.2.1, (K1.out _ (bel_t C1.out (bel_a _ _) (Nat.le_refl _))).2.2.2.2.1, (K1.out _ (bel_t C1.out (bel_a _ _) (Nat.le_refl _))).2.2.2.2.2⟩ (fun hHeld => ?_)
      clear hK K
      refine norm_ (a' := ?_) ?_ ?_
      rotate_left
      · show Act.put _ (some 5) _ = _
        simp only [Act.put, List.setIfInBounds_toArray, List.set_cons_zero, List.set_cons_succ, i64_w, i32_w]
        rfl
      exact norm_ (by simp only [putAll, Act.put, List.setIfInBounds_toArray, List.set_cons_zero, List.set_cons_succ]) (hCont ((A2, c2), u1.heap.size) _ ⟨bel_t C1.out (bel_a _ _) (Nat.le_refl _), C1.out.size, (MapKept.heap_alloc u1 _).1, HRD.out.1, HRD.out.2.turn (fun b h => ⟨by have := h.2; simp; omega, by have := h.2; omega⟩) (fun b o h => (bel_a u1 _).cell (p := ⟨b, o, none⟩) h.2)⟩)
    · skip
      refine value_ (w1 := ?_) (v := ?_) (by rfl) rfl ?_ ?_
      rotate_left 2
      · go_simp
        constructor
        · rfl
        · rfl
      refine hK.out _ _ ⟨(K1.out _ (bel_t (bel_a _ _) (belD _ _) (Nat.le_refl _))).1, (K1.out _ (bel_t (bel_a _ _) (belD _ _) (Nat.le_refl _))).2.1, (K1.out _ (bel_t (bel_a _ _) (belD _ _) (Nat.le_refl _))).2.2.1, (K1.out _ (bel_t (bel_a _ _) (belD _ _) (Nat.le_refl _))).2.2.2.1, (K1.out _ (bel_t (bel_a _ _) (belD _ _) (Nat.le_refl _))).2.2.2.2.1, (K1.out _ (bel_t (bel_a _ _) (belD _ _) (Nat.le_refl _))).2.2.2.2.2⟩ (fun hHeld => ?_)
      clear hK K
      refine norm_ (a' := ?_) ?_ ?_
      rotate_left
      · show Act.put _ (some 5) _ = _
        simp only [Act.put, List.setIfInBounds_toArray, List.set_cons_zero, List.set_cons_succ, i64_w, i32_w]
        rfl
      refine one_ (i := 4) (N := some 21) #[true, true, true, true, true, false, true, false] rfl rfl (by kernel_rfl) (by decide) (fun K hK => ?_)
      refine goes_ Tryz.func14 (by kernel_rfl) rfl #[.agg #[.int .i64 t.kind, .string (S t.mod), .string (S t.name), .slice A t.args.length c, .int .i64 t.var]] (by rfl) rfl rfl (by simp only [List.map_toArray, List.map_cons, List.map_nil]; rfl) ?_
      with_reducible refine (hlc2).mono ?_
      rintro e u1 ⟨A2, c2, rfl, hrd, hb⟩
      refine ⟨_, rfl, ?_⟩
      unfold tyV
      have C1 := Lib.hid (show Below w1.heap.size w1 u1 from bel_t (bel_t (bel_a _ _) (belD _ _) (Nat.le_refl _)) hb (Nat.le_refl _))
      have HRD := Lib.hid hrd
      have BB := Lib.hid hb
      clear hb hrd
      refine hK.out _ _ ⟨(K1.out _ C1.out).1, (K1.out _ C1.out).2.1, (K1.out _ C1.out).2.2.1, (K1.out _ C1.out).2.2.2.1, (K1.out _ C1.out).2.2.2.2.1, (K1.out _ C1.out).2.2.2.2.2⟩ (fun hHeld => ?_)
      clear hK K
      refine norm_ (a' := ?_) ?_ ?_
      rotate_left
      · show Act.put _ (some 21) _ = _
        simp only [Act.put, List.setIfInBounds_toArray, List.set_cons_zero, List.set_cons_succ, i64_w, i32_w]
        rfl
      refine pure_ (i := 5) (N := some 22) (v := ?_) (a' := ?_) #[true, true, true, true, true, true, true, false] rfl rfl (by kernel_rfl) (fun _ _ _ h => h) (Or.inl ⟨by rfl, ?_⟩) ?_ ?_
      rotate_left
      · intro w'
        go_simp
        with_reducible rfl
      rotate_left
      · simp only [Act.put, List.setIfInBounds_toArray, List.set_cons_zero, List.set_cons_succ, i64_w, i32_w]
        rfl
      exact norm_ (by simp only [putAll, Act.put, List.setIfInBounds_toArray, List.set_cons_zero, List.set_cons_succ]) (hCont ((A2, c2), w1.heap.size) _ ⟨C1.out, Nat.le_refl _, (BB.out.block w1.heap.size (by simp [drew_size])).trans (MapKept.heap_alloc w1 _).1, HRD.out.1, HRD.out.2.turn (fun b h => ⟨h.2, by have := h.1; simp [drew_size] at this; omega⟩) (fun b o h => rfl)⟩)
  rintro ⟨⟨A2, c2⟩, q5⟩ u3 ⟨hF1, hF2, hF3, hF4⟩
  dsimp only at hF2 hF3 hF4
  have C3 := Lib.hid hF1; have HL5 := Lib.hid hF2; have HZ := Lib.hid hF3; have HRA := Lib.hid hF4
  obtain ⟨z0, z1, z2, z3, z4, z5, zf⟩ := six_cells6 hF3
  have hHeld := K1.out u3 hF1
  clear hF1 hF2 hF3 hF4
  refine norm_ (a' := ?_) ?_ ?_
  rotate_left
  · simp only [putAll, Act.put, List.setIfInBounds_toArray, List.set_cons_zero, List.set_cons_succ]
    rfl
  refine last_ (i := 7) (N := none) #[true, true, true, true, true, true, true, true] rfl rfl (by kernel_rfl) (by decide) (fun K hK => ?_)
  refine skip_ (w1 := ?_) (by rfl) rfl ?_ ?_
  rotate_left
  · go_simp
    rfl
  change K _ (put6 u3 q5 (.int .i64 n) (.int .i64 a.kind) (.string (S a.mod)) (.string (S a.name)) (.slice A2 a.args.length c2) (.int .i64 a.var))
  obtain ⟨w3, hw3⟩ : ∃ w3, w3 = (put6 u3 q5 (.int .i64 n) (.int .i64 a.kind) (.string (S a.mod)) (.string (S a.name)) (.slice A2 a.args.length c2) (.int .i64 a.var)) := ⟨_, rfl⟩
  rw [← hw3]
  refine hK.out _ _ ?_
  clear hK K
  refine done_ (by kernel_rfl) ?_
  clear hlc hlc2
  have B3 := Lib.hid (show Below w.heap.size w w3 by rw [hw3]; exact bel_t B1.out (bel6 C3.out HL5.out _ _ _ _ _ _) (Nat.le_refl _))
  have blk5 := Lib.hid (show w3.heap[q5]? = some (.cells #[.int .i64 n, .int .i64 a.kind, .string (S a.mod), .string (S a.name), .slice A2 a.args.length c2, .int .i64 a.var] 57 (0, 0)) by rw [hw3]; exact put6_blk HZ.out)
  have HOA := Lib.hid HRA.out.1
  have HRDA := Lib.hid (show Rd w3 (.slice A2 a.args.length c2) a.args by rw [hw3]; exact (HRA.out.2.grown (put6_gb _ _ _ _ _ _ _ _)).weak (fun b h => h.1))
  have HRA := Lib.hid (show RdV w3 (.agg #[.int .i64 a.kind, .string (S a.mod), .string (S a.name), .slice A2 a.args.length c2, .int .i64 a.var]) a from ⟨HOA.out, A2, c2, rfl, HRDA.out⟩)
  have K5 := Lib.hid (show ∀ X, Below w3.heap.size w3 X → X.heap[q5]? = some (.cells #[.int .i64 n, .int .i64 a.kind, .string (S a.mod), .string (S a.name), .slice A2 a.args.length c2, .int .i64 a.var] 57 (0, 0)) from fun X h => (h.block q5 (lt_of_block blk5.out)).trans blk5.out)
  have hic := Instance_calls n a first A2 c2 w3 HOA.out HRDA.out
  clear hw3
  obtain ⟨b0, b1, b2, b3, b4, b5, bf⟩ := six_cells6 blk5.out
  go_wp2_with fail
  refine hic.mono ?_
  rintro e x1 ⟨hb1, hcase⟩
  have X1 := Lib.hid (show Below w.heap.size w x1 from bel_t B3.out hb1 (Nat.le_refl _))
  have Y1 := Lib.hid hb1
  clear hb1 hic b0 b1 b2 b3 b4 b5 bf
  rcases hcase with ⟨hE, AX, cX, rfl, hok, hrd⟩ | ⟨hE, rfl⟩
  · obtain ⟨x, hx⟩ : ∃ x, x = renT (· + first) a := ⟨_, rfl⟩
    obtain ⟨M, hM⟩ : ∃ M, M = varsV a := ⟨_, rfl⟩
    obtain ⟨N, hN⟩ : ∃ N, N = M.length := ⟨_, rfl⟩
    have HFA := Lib.hid (inst_ok hE).1
    have HFX := Lib.hid (show formedB x = true by rw [hx]; exact inst_formed hE)
    have HVX := Lib.hid (show varsV x = M.map (· + first) by rw [hx, hM]; exact varsV_add first a)
    have HNX := Lib.hid (show normT x = normT a by rw [hx]; exact normT_add first a)
    have HVA := Lib.hid (show ∀ v ∈ M, v < n ∧ InV v from fun v hv => by
      rw [hM] at hv
      exact ⟨(inst_ok hE).2.1 v (mem_varsV.1 hv), ((inst_ok hE).2.2 v (mem_varsV.1 hv)).1⟩)
    rw [← hx] at hok hrd ⊢
    have HM := Lib.hid hM; have HN := Lib.hid hN
    have HNF := Lib.hid (show N ≤ 1000000 by
      have h1 := (varsT_len a []).2
      have h2 := formed_few HFA.out
      have h3 : N = (varsT a []).length := by rw [hN, hM]; unfold varsV sortI; simp
      simp at h1
      omega)
    have HRX := Lib.hid (show RdV x1 (.agg #[.int .i64 x.kind, .string (S x.mod), .string (S x.name), .slice AX x.args.length cX, .int .i64 x.var]) x from ⟨hok, AX, cX, rfl, hrd.weak (fun b h => h.2)⟩)
    clear hE hx hM hN hok hrd
    unfold tyV
    obtain ⟨x2, hx2⟩ : ∃ x2, x2 = x1.alloc (.cells #[.int .i64 x.kind, .string (S x.mod), .string (S x.name), .slice AX x.args.length cX, .int .i64 x.var] 24) := ⟨_, rfl⟩
    obtain ⟨q6, hq6⟩ : ∃ q, q = x1.heap.size := ⟨_, rfl⟩
    have Z2 := Lib.hid (show Below x1.heap.size x1 x2 by rw [hx2]; exact bel_a _ _)
    have X2 := Lib.hid (show Below w.heap.size w x2 from bel_t X1.out Z2.out (Nat.le_refl _))
    have Y2 := Lib.hid (show Below w3.heap.size w3 x2 from bel_t Y1.out Z2.out (Nat.le_refl _))
    have blk6 := Lib.hid (show x2.heap[q6]? = some (.cells #[.int .i64 x.kind, .string (S x.mod), .string (S x.name), .slice AX x.args.length cX, .int .i64 x.var] 24 (0, 0)) by rw [hx2, hq6]; exact (MapKept.heap_alloc x1 _).1)
    have K6 := Lib.hid (show ∀ X, Below x2.heap.size x2 X → X.heap[q6]? = some (.cells #[.int .i64 x.kind, .string (S x.mod), .string (S x.name), .slice AX x.args.length cX, .int .i64 x.var] 24 (0, 0)) from fun X h => (h.block q6 (lt_of_block blk6.out)).trans blk6.out)
    have HRX := Lib.hid (HRX.out.below Z2.out)
    have hvc := Vars_calls x _ x2 HRX.out
    go_wp2_with fail
    rw [← hx2, ← hq6]
    clear hx2 hq6
    refine hvc.mono ?_
    intro e x3 hva
    rcases hva with ⟨-, A8, c8, rfl, hown, hb⟩ | ⟨hf, -⟩
    rotate_left
    · rw [HFX.out] at hf; cases hf
    have HC8 := Lib.hid (show ∀ X, Below x3.heap.size x3 X → ∀ k, k < N → ∃ b, A8 = some ⟨b, 0, none⟩ ∧ X.cell? ⟨b, k, none⟩ = some (.int .i64 (M.getD k 0 + first)) from fun X hX k hk => by
      have hkM : k < M.length := by have := HN.out; omega
      obtain ⟨b, h1, h2⟩ := own_at (hown.called hX) k (by rw [HVX.out, List.length_map]; exact hkM)
      refine ⟨b, h1, ?_⟩
      rw [h2, HVX.out]
      simp [List.getD_eq_getElem?_getD, List.getElem?_eq_getElem hkM])
    have hl8 : (varsV x).length = N := by rw [HVX.out, List.length_map]; exact HN.out.symm
    rw [hl8]
    have X3 := Lib.hid (show Below w.heap.size w x3 from bel_t X2.out hb (Nat.le_refl _))
    have Y3 := Lib.hid (show Below w3.heap.size w3 x3 from bel_t Y2.out hb (Nat.le_refl _))
    have Z3 := Lib.hid (show Below x2.heap.size x2 x3 from hb)
    clear hvc hown hb hl8
    obtain ⟨b0, b1, b2, b3, b4, b5, bf⟩ := six_cells6 (K5.out x3 Y3.out)
    have hvc := Vars_calls a _ x3 (HRA.out.below Y3.out)
    go_wp2_with fail
    refine hvc.mono ?_
    intro e x4 hva
    rcases hva with ⟨-, A10, c10, rfl, hown, hb⟩ | ⟨hf, -⟩
    rotate_left
    · rw [HFA.out] at hf; cases hf
    have HC10 := Lib.hid (show ∀ X, Below x4.heap.size x4 X → ∀ k, k < N → ∃ b, A10 = some ⟨b, 0, none⟩ ∧ X.cell? ⟨b, k, none⟩ = some (.int .i64 (M.getD k 0)) from fun X hX k hk => by
      have hkM : k < M.length := by have := HN.out; omega
      obtain ⟨b, h1, h2⟩ := own_at (hown.called hX) k (by rw [← HM.out]; exact hkM)
      exact ⟨b, h1, by rw [h2, ← HM.out]⟩)
    have hl8 : (varsV a).length = N := by rw [← HM.out]; exact HN.out.symm
    rw [hl8]
    have X4 := Lib.hid (show Below w.heap.size w x4 from bel_t X3.out hb (Nat.le_refl _))
    have Y4 := Lib.hid (show Below w3.heap.size w3 x4 from bel_t Y3.out hb (Nat.le_refl _))
    have Z4 := Lib.hid (show Below x2.heap.size x2 x4 from bel_t Z3.out hb (Nat.le_refl _))
    have V4 := Lib.hid (show Below x3.heap.size x3 x4 from hb)
    clear hvc hown hb hl8 b0 b1 b2 b3 b4 b5 bf
    obtain ⟨b0, b1, b2, b3, b4, bf⟩ := five_cells (K6.out x4 Z4.out)
    have hnc := Normal_calls x _ x4 (HRX.out.below Z4.out)
    go_wp2_with fail
    refine hnc.mono ?_
    rintro e x5 ⟨hb, hcase⟩
    rcases hcase with ⟨-, AP, cP, rfl, hok, hrd⟩ | ⟨hf, -⟩
    rotate_left
    · rw [HFX.out] at hf; cases hf
    obtain ⟨p, hp⟩ : ∃ p, p = normT a := ⟨_, rfl⟩
    rw [HNX.out, ← hp] at hok hrd ⊢
    have HRP := Lib.hid (show RdV x5 (.agg #[.int .i64 p.kind, .string (S p.mod), .string (S p.name), .slice AP p.args.length cP, .int .i64 p.var]) p from ⟨hok, AP, cP, rfl, hrd.weak (fun b h => h.2)⟩)
    have X5 := Lib.hid (show Below w.heap.size w x5 from bel_t X4.out hb (Nat.le_refl _))
    have Y5 := Lib.hid (show Below w3.heap.size w3 x5 from bel_t Y4.out hb (Nat.le_refl _))
    have V5 := Lib.hid (show Below x3.heap.size x3 x5 from bel_t V4.out hb (Nat.le_refl _))
    have U5 := Lib.hid (show Below x4.heap.size x4 x5 from hb)
    have HP := Lib.hid hp
    clear hnc hok hrd hb hp b0 b1 b2 b3 b4 bf
    unfold tyV
    obtain ⟨x6, hx6⟩ : ∃ x6, x6 = x5.alloc (.cells #[.int .i64 p.kind, .string (S p.mod), .string (S p.name), .slice AP p.args.length cP, .int .i64 p.var] 24) := ⟨_, rfl⟩
    obtain ⟨q12, hq12⟩ : ∃ q, q = x5.heap.size := ⟨_, rfl⟩
    have T6 := Lib.hid (show Below x5.heap.size x5 x6 by rw [hx6]; exact bel_a _ _)
    have X6 := Lib.hid (show Below w.heap.size w x6 from bel_t X5.out T6.out (Nat.le_refl _))
    have Y6 := Lib.hid (show Below w3.heap.size w3 x6 from bel_t Y5.out T6.out (Nat.le_refl _))
    have V6 := Lib.hid (show Below x3.heap.size x3 x6 from bel_t V5.out T6.out (Nat.le_refl _))
    have U6 := Lib.hid (show Below x4.heap.size x4 x6 from bel_t U5.out T6.out (Nat.le_refl _))
    have blk12 := Lib.hid (show x6.heap[q12]? = some (.cells #[.int .i64 p.kind, .string (S p.mod), .string (S p.name), .slice AP p.args.length cP, .int .i64 p.var] 24 (0, 0)) by rw [hx6, hq12]; exact (MapKept.heap_alloc x5 _).1)
    have HRP := Lib.hid (HRP.out.below T6.out)
    have hnc := Normal_calls a _ x6 (HRA.out.below Y6.out)
    obtain ⟨b0, b1, b2, b3, b4, b5, bf⟩ := six_cells6 (K5.out x5 Y5.out)
    have lq5 : q5 < x5.heap.size := lt_of_block (K5.out x5 Y5.out)
    go_wp2_with fail
    rw [← hx6, ← hq12]
    clear hx6 hq12 b0 b1 b2 b3 b4 b5 bf lq5
    refine hnc.mono ?_
    rintro e x7 ⟨hb, hcase⟩
    rcases hcase with ⟨-, AR, cR, rfl, hok, hrd⟩ | ⟨hf, -⟩
    rotate_left
    · rw [HFA.out] at hf; cases hf
    rw [← HP.out] at hok hrd ⊢
    have HRR := Lib.hid (show RdV x7 (.agg #[.int .i64 p.kind, .string (S p.mod), .string (S p.name), .slice AR p.args.length cR, .int .i64 p.var]) p from ⟨hok, AR, cR, rfl, hrd.weak (fun b h => h.2)⟩)
    have HRP := Lib.hid (HRP.out.below hb)
    have X7 := Lib.hid (show Below w.heap.size w x7 from bel_t X6.out hb (Nat.le_refl _))
    have Y7 := Lib.hid (show Below w3.heap.size w3 x7 from bel_t Y6.out hb (Nat.le_refl _))
    have V7 := Lib.hid (show Below x3.heap.size x3 x7 from bel_t V6.out hb (Nat.le_refl _))
    have U7 := Lib.hid (show Below x4.heap.size x4 x7 from bel_t U6.out hb (Nat.le_refl _))
    have blk127 := Lib.hid ((hb.block q12 (lt_of_block blk12.out)).trans blk12.out)
    clear hnc hok hrd hb
    unfold tyV
    obtain ⟨x8, hx8⟩ : ∃ x8, x8 = x7.alloc (.cells #[.int .i64 p.kind, .string (S p.mod), .string (S p.name), .slice AR p.args.length cR, .int .i64 p.var] 24) := ⟨_, rfl⟩
    have T8 := Lib.hid (show Below x7.heap.size x7 x8 by rw [hx8]; exact bel_a _ _)
    have hsc := Same_calls p p _ _ x8 (HRP.out.below T8.out) (HRR.out.below T8.out)
    rw [same_self] at hsc
    obtain ⟨b0, b1, b2, b3, b4, bf⟩ := five_cells blk127.out
    have lq12 : q12 < x7.heap.size := lt_of_block blk127.out
    go_wp2_with fail
    rw [← hx8]
    clear hx8 b0 b1 b2 b3 b4 bf lq12
    refine hsc.mono ?_
    rintro e x9 ⟨rfl, hb⟩
    have T9 := Lib.hid (show Below x7.heap.size x7 x9 from bel_t T8.out hb (Nat.le_refl _))
    have X9 := Lib.hid (show Below w.heap.size w x9 from bel_t X7.out T9.out (Nat.le_refl _))
    have Y9 := Lib.hid (show Below w3.heap.size w3 x9 from bel_t Y7.out T9.out (Nat.le_refl _))
    have V9 := Lib.hid (show Below x3.heap.size x3 x9 from bel_t V7.out T9.out (Nat.le_refl _))
    have U9 := Lib.hid (show Below x4.heap.size x4 x9 from bel_t U7.out T9.out (Nat.le_refl _))
    clear hb hsc
    have hnf := HNF.out
    go_wp2_with fail
    go_loopw [16] (fun i wr => ∃ (k : Nat), k ≤ N ∧ i = .int .i64 k ∧ Hid (Below x9.heap.size x9 wr)) (fun i _ => N - (intOf i).toNat)
    case atStart => exact ⟨0, Nat.zero_le _, rfl, Lib.hid (Below.refl _ _)⟩
    case round =>
      obtain ⟨k, hk, rfl, HB⟩ := hrel
      by_cases hlt : k < N
      · have B14 := Lib.hid (show Below x9.heap.size x9 wr.drew from bel_t HB.out (belD _ _) (Nat.le_refl _))
        obtain ⟨b8, rfl, g0⟩ := HC8.out wr.drew (bel_t V9.out B14.out (Nat.le_refl _)) k hlt
        obtain ⟨b10, rfl, g1⟩ := HC10.out wr.drew (bel_t U9.out B14.out (Nat.le_refl _)) k hlt
        obtain ⟨g2, -⟩ := six_cells6 (K5.out wr.drew (bel_t Y9.out B14.out (Nat.le_refl _)))
        have hz := HVA.out (M.getD k 0) (by have := HN.out; simp [List.getD_eq_getElem?_getD, List.getElem?_eq_getElem (show k < M.length by omega)])
        obtain ⟨z, hzz⟩ : ∃ z, z = M.getD k 0 := ⟨_, rfl⟩
        rw [← hzz] at g0 g1 hz
        obtain ⟨hz1, hz2, hz3⟩ := hz
        have e65 := wrap_few (z + first) (by omega)
        have d0 : ((z + first) != (z + first)) = false := by simp
        have d1 : decide (z ≥ n) = false := decide_eq_false (by omega)
        have i0 : (0 : Int) ≤ (k : Int) := by omega
        have i1 : (k : Int) < (N : Int) := by omega
        have t1 : decide ((k : Int) < (N : Int)) = true := decide_eq_true i1
        clear hzz
        go_wp2_with fail
        refine start_ (n := 21) (S := fun w' => w'.cell? ⟨b8, k, none⟩ = some (.int .i64 (z + first)) ∧ w'.cell? ⟨b10, k, none⟩ = some (.int .i64 z) ∧ w'.cell? ⟨q5, 0, none⟩ = some (.int .i64 n)) (ds := []) #[false, false, false, false, false, false, false, false, false, false, false, false, false, false, false, false, false, false, false, false, false] (by kernel_rfl) rfl rfl ⟨g0, g1, g2⟩ (fun hHeld => ?_)
        refine pure_ (i := 0) (N := some 88) (v := ?_) (a' := ?_) #[true, false, false, false, false, false, false, false, false, false, false, false, false, false, false, false, false, false, false, false, false] rfl rfl (by kernel_rfl) (fun _ _ _ h => h) (Or.inl ⟨by rfl, ?_⟩) ?_ ?_
        rotate_left
        · intro w'
          go_simp
          with_reducible rfl
        rotate_left
        · simp only [Act.put, List.setIfInBounds_toArray, List.set_cons_zero, List.set_cons_succ, i64_w, i32_w]
          rfl
        refine pure_ (i := 1) (N := some 89) (v := ?_) (a' := ?_) #[true, true, false, false, false, false, false, false, false, false, false, false, false, false, false, false, false, false, false, false, false] rfl rfl (by kernel_rfl) (fun _ _ _ h => h) (Or.inl ⟨by rfl, ?_⟩) ?_ ?_
        rotate_left
        · intro w'
          go_simp
          with_reducible rfl
        rotate_left
        · simp only [Act.put, List.setIfInBounds_toArray, List.set_cons_zero, List.set_cons_succ, i64_w, i32_w]
          rfl
        refine pure_ (i := 2) (N := some 90) (v := ?_) (a' := ?_) #[true, true, true, false, false, false, false, false, false, false, false, false, false, false, false, false, false, false, false, false, false] rfl rfl (by kernel_rfl) (fun _ _ _ h => h) (Or.inl ⟨by rfl, ?_⟩) ?_ ?_
        rotate_left
        · intro w'
          go_simp
          with_reducible rfl
        rotate_left
        · simp only [Act.put, List.setIfInBounds_toArray, List.set_cons_zero, List.set_cons_succ, i64_w, i32_w]
          rfl
        refine pure_ (i := 4) (N := some 92) (v := ?_) (a' := ?_) #[true, true, true, false, true, false, false, false, false, false, false, false, false, false, false, false, false, false, false, false, false] rfl rfl (by kernel_rfl) (fun _ _ _ h => h) (Or.inl ⟨by rfl, ?_⟩) ?_ ?_
        rotate_left
        · intro w'
          go_simp
          with_reducible rfl
        rotate_left
        · simp only [Act.put, List.setIfInBounds_toArray, List.set_cons_zero, List.set_cons_succ, i64_w, i32_w]
          rfl
        refine pure_ (i := 5) (N := some 93) (v := ?_) (a' := ?_) #[true, true, true, false, true, true, false, false, false, false, false, false, false, false, false, false, false, false, false, false, false] rfl rfl (by kernel_rfl) (fun _ _ _ h => h) (Or.inl ⟨by rfl, ?_⟩) ?_ ?_
        rotate_left
        · intro w'
          go_simp
          with_reducible rfl
        rotate_left
        · simp only [Act.put, List.setIfInBounds_toArray, List.set_cons_zero, List.set_cons_succ, i64_w, i32_w]
          rfl
        refine pure_ (i := 6) (N := some 94) (v := ?_) (a' := ?_) #[true, true, true, false, true, true, true, false, false, false, false, false, false, false, false, false, false, false, false, false, false] rfl rfl (by kernel_rfl) (fun _ _ _ h => h) (Or.inl ⟨by rfl, ?_⟩) ?_ ?_
        rotate_left
        · intro w'
          go_simp
          with_reducible rfl
        rotate_left
        · simp only [Act.put, List.setIfInBounds_toArray, List.set_cons_zero, List.set_cons_succ, i64_w, i32_w]
          rfl
        refine pure_ (i := 8) (N := some 96) (v := ?_) (a' := ?_) #[true, true, true, false, true, true, true, false, true, false, false, false, false, false, false, false, false, false, false, false, false] rfl rfl (by kernel_rfl) (fun _ _ _ h => h) (Or.inl ⟨by rfl, ?_⟩) ?_ ?_
        rotate_left
        · intro w'
          go_simp
          with_reducible rfl
        rotate_left
        · simp only [Act.put, List.setIfInBounds_toArray, List.set_cons_zero, List.set_cons_succ, i64_w, i32_w]
          rfl
        refine pure_ (i := 9) (N := some 97) (v := ?_) (a' := ?_) #[true, true, true, false, true, true, true, false, true, true, false, false, false, false, false, false, false, false, false, false, false] rfl rfl (by kernel_rfl) (fun _ _ _ h => h) (Or.inl ⟨by rfl, ?_⟩) ?_ ?_
        rotate_left
        · intro w'
          go_simp
          with_reducible rfl
        rotate_left
        · simp only [Act.put, List.setIfInBounds_toArray, List.set_cons_zero, List.set_cons_succ, i64_w, i32_w]
          rfl
        refine take_ (i := 3) (N := some 91) (v := ?_) (a' := ?_) #[true, true, true, true, true, true, true, false, true, true, false, false, false, false, false, false, false, false, false, false, false] rfl rfl (by kernel_rfl) (fun _ _ _ h => h) (Or.inl ⟨by rfl, ?_⟩) hHeld ?_ ?_
        rotate_left
        · rintro w' ⟨s0, s1, s2⟩
          go_simp
          with_reducible rfl
        rotate_left
        · simp only [Act.put, List.setIfInBounds_toArray, List.set_cons_zero, List.set_cons_succ, i64_w, i32_w]
          rfl
        refine take_ (i := 7) (N := some 95) (v := ?_) (a' := ?_) #[true, true, true, true, true, true, true, true, true, true, false, false, false, false, false, false, false, false, false, false, false] rfl rfl (by kernel_rfl) (fun _ _ _ h => h) (Or.inl ⟨by rfl, ?_⟩) hHeld ?_ ?_
        rotate_left
        · rintro w' ⟨s0, s1, s2⟩
          go_simp
          with_reducible rfl
        rotate_left
        · simp only [Act.put, List.setIfInBounds_toArray, List.set_cons_zero, List.set_cons_succ, i64_w, i32_w]
          rfl
        refine pure_ (i := 10) (N := some 98) (v := ?_) (a' := ?_) #[true, true, true, true, true, true, true, true, true, true, true, false, false, false, false, false, false, false, false, false, false] rfl rfl (by kernel_rfl) (fun _ _ _ h => h) (Or.inl ⟨by rfl, ?_⟩) ?_ ?_
        rotate_left
        · intro w'
          go_simp
          with_reducible rfl
        rotate_left
        · simp only [Act.put, List.setIfInBounds_toArray, List.set_cons_zero, List.set_cons_succ, i64_w, i32_w]
          rfl
        refine pure_ (i := 11) (N := some 99) (v := ?_) (a' := ?_) #[true, true, true, true, true, true, true, true, true, true, true, true, false, false, false, false, false, false, false, false, false] rfl rfl (by kernel_rfl) (fun _ _ _ h => h) (Or.inl ⟨by rfl, ?_⟩) ?_ ?_
        rotate_left
        · intro w'
          go_simp
          with_reducible rfl
        rotate_left
        · simp only [Act.put, List.setIfInBounds_toArray, List.set_cons_zero, List.set_cons_succ, i64_w, i32_w]
          rfl
        refine pure_ (i := 12) (N := some 100) (v := ?_) (a' := ?_) #[true, true, true, true, true, true, true, true, true, true, true, true, true, false, false, false, false, false, false, false, false] rfl rfl (by kernel_rfl) (fun _ _ _ h => h) (Or.inl ⟨by rfl, ?_⟩) ?_ ?_
        rotate_left
        · intro w'
          go_simp
          with_reducible rfl
        rotate_left
        · simp only [Act.put, List.setIfInBounds_toArray, List.set_cons_zero, List.set_cons_succ, i64_w, i32_w]
          rfl
        refine pure_ (i := 13) (N := some 101) (v := ?_) (a' := ?_) #[true, true, true, true, true, true, true, true, true, true, true, true, true, true, false, false, false, false, false, false, false] rfl rfl (by kernel_rfl) (fun _ _ _ h => h) (Or.inl ⟨by rfl, ?_⟩) ?_ ?_
        rotate_left
        · intro w'
          go_simp
          with_reducible rfl
        rotate_left
        · simp only [Act.put, List.setIfInBounds_toArray, List.set_cons_zero, List.set_cons_succ, i64_w, i32_w]
          rfl
        refine pure_ (i := 14) (N := some 102) (v := ?_) (a' := ?_) #[true, true, true, true, true, true, true, true, true, true, true, true, true, true, true, false, false, false, false, false, false] rfl rfl (by kernel_rfl) (fun _ _ _ h => h) (Or.inl ⟨by rfl, ?_⟩) ?_ ?_
        rotate_left
        · intro w'
          go_simp
          with_reducible rfl
        rotate_left
        · simp only [Act.put, List.setIfInBounds_toArray, List.set_cons_zero, List.set_cons_succ, i64_w, i32_w]
          rfl
        refine pure_ (i := 15) (N := some 103) (v := ?_) (a' := ?_) #[true, true, true, true, true, true, true, true, true, true, true, true, true, true, true, true, false, false, false, false, false] rfl rfl (by kernel_rfl) (fun _ _ _ h => h) (Or.inl ⟨by rfl, ?_⟩) ?_ ?_
        rotate_left
        · intro w'
          go_simp
          with_reducible rfl
        rotate_left
        · simp only [Act.put, List.setIfInBounds_toArray, List.set_cons_zero, List.set_cons_succ, i64_w, i32_w]
          rfl
        refine pure_ (i := 17) (N := some 105) (v := ?_) (a' := ?_) #[true, true, true, true, true, true, true, true, true, true, true, true, true, true, true, true, false, true, false, false, false] rfl rfl (by kernel_rfl) (fun _ _ _ h => h) (Or.inl ⟨by rfl, ?_⟩) ?_ ?_
        rotate_left
        · intro w'
          go_simp
          with_reducible rfl
        rotate_left
        · simp only [Act.put, List.setIfInBounds_toArray, List.set_cons_zero, List.set_cons_succ, i64_w, i32_w]
          rfl
        refine take_ (i := 16) (N := some 104) (v := ?_) (a' := ?_) #[true, true, true, true, true, true, true, true, true, true, true, true, true, true, true, true, true, true, false, false, false] rfl rfl (by kernel_rfl) (fun _ _ _ h => h) (Or.inl ⟨by rfl, ?_⟩) hHeld ?_ ?_
        rotate_left
        · rintro w' ⟨s0, s1, s2⟩
          go_simp
          with_reducible rfl
        rotate_left
        · simp only [Act.put, List.setIfInBounds_toArray, List.set_cons_zero, List.set_cons_succ, i64_w, i32_w]
          rfl
        refine take_ (i := 18) (N := some 106) (v := ?_) (a' := ?_) #[true, true, true, true, true, true, true, true, true, true, true, true, true, true, true, true, true, true, true, false, false] rfl rfl (by kernel_rfl) (fun _ _ _ h => h) (Or.inl ⟨by rfl, ?_⟩) hHeld ?_ ?_
        rotate_left
        · rintro w' ⟨s0, s1, s2⟩
          go_simp
          with_reducible rfl
        rotate_left
        · simp only [Act.put, List.setIfInBounds_toArray, List.set_cons_zero, List.set_cons_succ, i64_w, i32_w]
          rfl
        refine pure_ (i := 19) (N := some 107) (v := ?_) (a' := ?_) #[true, true, true, true, true, true, true, true, true, true, true, true, true, true, true, true, true, true, true, true, false] rfl rfl (by kernel_rfl) (fun _ _ _ h => h) (Or.inl ⟨by rfl, ?_⟩) ?_ ?_
        rotate_left
        · intro w'
          go_simp
          with_reducible rfl
        rotate_left
        · simp only [Act.put, List.setIfInBounds_toArray, List.set_cons_zero, List.set_cons_succ, i64_w, i32_w]
          rfl
        refine pure_ (i := 20) (N := some 108) (v := ?_) (a' := ?_) #[true, true, true, true, true, true, true, true, true, true, true, true, true, true, true, true, true, true, true, true, true] rfl rfl (by kernel_rfl) (fun _ _ _ h => h) (Or.inl ⟨by rfl, ?_⟩) ?_ ?_
        rotate_left
        · intro w'
          go_simp
          with_reducible rfl
        rotate_left
        · simp only [Act.put, List.setIfInBounds_toArray, List.set_cons_zero, List.set_cons_succ, i64_w, i32_w]
          rfl
        refine done_ (by kernel_rfl) ?_
        clear g0 g1 g2
        go_wp2
        go_roundw
        case rel => exact ⟨k + 1, by omega, by go_num, B14⟩
        case measure => simp [intOf]; omega
      · have hkk : k = N := by omega
        have t1 : decide ((N : Int) < (N : Int)) = false := decide_eq_false (by omega)
        subst hkk
        have XW := Lib.hid (show Below w.heap.size w wr from bel_t X9.out HB.out (Nat.le_refl _))
        clear hlt
        go_wp2_with fail
        refine (alive_calls wr (fun W hW => (HE.out W (bel_t XW.out hW (Nat.le_refl _))).2 W (Below.refl _ _))).mono ?_
        rintro e x10 ⟨rfl, hb⟩
        have XE := Lib.hid (show Below w.heap.size w x10 from bel_t XW.out hb (Nat.le_refl _))
        clear hb
        go_wp2
        go_ret
        exact ⟨rfl, XE.out⟩
  · obtain ⟨E, hEE⟩ : ∃ E, E = instE n a first := ⟨_, rfl⟩
    rw [← hEE] at hE ⊢
    have d0 : (E != 0) = true := by simpa using hE
    have d1 : (E == 0) = false := by simpa using hE
    obtain ⟨x2, hx2⟩ : ∃ x2, x2 = x1.alloc (.cells #[.int .i64 0, .string ⟨#[]⟩, .string ⟨#[]⟩, .slice none 0 0, .int .i64 0] 24) := ⟨_, rfl⟩
    have X2 := Lib.hid (show Below w.heap.size w x2 by rw [hx2]; exact bel_t X1.out (bel_a _ _) (Nat.le_refl _))
    have HX2 := Lib.hid hx2
    clear hEE hE hx2
    go_wp2_with fail
    rw [← HX2.out]
    refine (alive_calls x2 (fun W hW => (HE.out W (bel_t X2.out hW (Nat.le_refl _))).2 W (Below.refl _ _))).mono ?_
    rintro e x3 ⟨rfl, hb⟩
    have X3 := Lib.hid (show Below w.heap.size w x3 from bel_t X2.out hb (Nat.le_refl _))
    clear hb
    go_wp2
    go_ret
    exact ⟨rfl, X3.out⟩

end Go.Proofs.YtplnfepdikbpfaaGreatDoor

