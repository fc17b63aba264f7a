/- The walks of NewStore, and of IsSolved and Unify at no pairs. Condition: the types read. -/
import Derived.Test.YtplnfepdikbpfaaGreatDoorPW
import Derived.Test.YtplnfepdikbpfaaGreatDoorST10
namespace Go.Proofs.YtplnfepdikbpfaaGreatDoor
open Go.RowKit
open Go.Proofs.YtplnfepdikbpfaaGreatDoorW.PrintLast
set_option linter.unusedVariables false
set_option linter.unusedSimpArgs false
attribute [local go_sem ↓] Go.wp_at_zero Go.wp_at_succ

def Rows.empty0 (m : Nat) : Rows := ⟨.slice .none 0 0, .slice .none 0 0, .slice .none 0 0, .slice .none 0 0, .slice .none 0 0, m, 0, 0, 0, 0, 0, [], [], [], [], [], 0, .map []⟩
theorem sto_empty (w : World) : StoAt ((w.alloc (.map #[] 0)).alloc (.cells #[.slice .none 0 0, .slice .none 0 0, .slice .none 0 0, .slice .none 0 0, .map (some w.heap.size), .slice .none 0 0] 126)) w.heap.size (w.heap.size + 1) (fun _ => False) (Rows.empty0 w.heap.size) Sto.empty := by
  have hb := (MapKept.heap_alloc (w.alloc (.map #[] 0)) (.cells #[.slice .none 0 0, .slice .none 0 0, .slice .none 0 0, .slice .none 0 0, .map (some w.heap.size), .slice .none 0 0] 126)).1
  rw [World.size_alloc] at hb
  refine ⟨⟨hb, ⟨rfl, .inl ⟨rfl, rfl⟩⟩, ⟨rfl, .inl ⟨rfl, rfl⟩⟩, ⟨rfl, .inl ⟨rfl, rfl⟩⟩, ⟨rfl, .inl ⟨rfl, rfl⟩⟩, ⟨rfl, .inl ⟨rfl, rfl⟩⟩, (World.ownsMap_made _ _ _ _).alloc _, Nat.le_succ _, Nat.le_refl _, ⟨?_, fun k e => ?_, fun k e => ?_, fun k e => ?_, fun k e => ?_, fun k e => ?_⟩⟩, ⟨rfl, rfl, rfl, rfl⟩, ⟨[], rfl, rfl, fun x hx => absurd hx (by simp)⟩, ⟨[], rfl, Fst.empty⟩, rfl, rfl, ⟨Maps.isMap_empty, fun v => ⟨rfl, fun i h => ?_⟩⟩, Nat.le_refl _, ⟨[], rfl, rfl, rfl, fun x hx => absurd hx (by simp)⟩, Sto.Ok.empty, by simp [Sto.empty, Sto.n], fun i h => absurd h (by simp [Sto.empty, Sto.n]), fun b h => h.elim⟩
  · show w.heap.size + 1 ≠ w.heap.size; omega
  · cases e
  · cases e
  · cases e
  · cases e
  · cases e
  · simp [Sto.ofAt, Sto.empty] at h
theorem NewStore_calls (w : World) : Calls Tryz.prog 47 #[] w fun e w' => e = .returned (.pointer (some ⟨w.heap.size + 1, 0, .none⟩)) ∧ StoAt w' w.heap.size (w.heap.size + 1) (fun _ => False) (Rows.empty0 w.heap.size) Sto.empty ∧ Below w.heap.size w w' := by
  have hmm := @run_makeMap Tryz.prog
  go_enter Tryz.func47, Tryz.ntmps47
  go_wp2_with fail
  go_ret
  exact ⟨rfl, sto_empty w, bel_alloc (bel_alloc (Below.refl _ _) _) _⟩

theorem IsSolved_nil (w : World) : Calls Tryz.prog 33 #[.slice .none 0 0] w fun e w' => e = .returned (.bool true) ∧ Below w.heap.size w w' := by
  have hmm := @run_makeMap Tryz.prog
  go_enter Tryz.func33, Tryz.ntmps33
  go_wp2_with fail
  go_loopw [14] (fun v wr => v = .int .i64 0 ∧ Below w.heap.size w wr) (fun _ _ => 0)
  case atStart => exact ⟨rfl, bel_alloc (bel_alloc (Below.refl _ _) _) _⟩
  case round =>
    obtain ⟨rfl, hk⟩ := hrel
    go_wp2_with fail
    go_loopw [68] (fun v wi => v = .int .i64 0 ∧ Below w.heap.size w wi) (fun _ _ => 0)
    case atStart => exact ⟨rfl, hk⟩
    case round =>
      obtain ⟨rfl, hk2⟩ := hrel
      go_wp2
      go_ret
      exact ⟨rfl, hk2⟩

/-- What Unify answers for two types, where nothing holds yet. -/
def UIs (a b : Ty) (e : Int) (L : List (Int × Ty)) : Prop :=
  (¬ (formedB a = true ∧ formedB b = true) ∧ e = 4 ∧ L = []) ∨ (formedB a = true ∧ formedB b = true ∧ ∃ s', UnifyIs (addT b (addT a Sto.empty).2).2 (addT a Sto.empty).1 (addT b (addT a Sto.empty).2).1 e s' ∧ ((e ≠ 0 ∧ L = []) ∨ (e = 0 ∧ AllBd s' ∧ BindsIs s' L)))
def UPost (w : World) (e : Int) (L : List (Int × Ty)) (en : Ending) (w' : World) : Prop :=
  ∃ v, en = .returned (.tuple #[v, .int .i64 e]) ∧ RdB (fun b => w.heap.size ≤ b ∧ b < w'.heap.size) w' v L ∧ Below w.heap.size w w'

theorem Add_at (t : Ty) (w : World) (base p : Nat) (ok : Nat → Prop) (R : Rows) (s : Sto) (d : Int) (val : Value) (h : StoAt w base p ok R s) (hv : ValT (fun b => b < base) w val t) (ho : okT t d = true) (hf : s.n + partsT t ≤ 1000000000) :
    Calls Tryz.prog 49 #[.pointer (some ⟨p, 0, .none⟩), val] w (AddPost w base p ok R t s) := Add_calls t w base p ok R s d val h hv ho hf
theorem belD (B : Nat) (w : World) : Below B w w.drew := ⟨rfl, rfl, rfl, Nat.le_refl _, fun _ _ => rfl⟩
theorem bel_then' {B : Nat} {w W X : World} (h : Below B w W) (k : Below B W X) : Below B w X := h.trans k
set_option maxRecDepth 100000 in
set_option maxHeartbeats 32000000 in
theorem Unify_nil (a b : Ty) (va vb : Value) (w : World) (hva : RdV w va a) (hvb : RdV w vb b) (e : Int) (L : List (Int × Ty)) (hU : UIs a b e L) :
    Calls Tryz.prog 16 #[va, vb, .slice .none 0 0] w (UPost w e L) := by
  obtain ⟨ha1, A, c, rfl, hra⟩ := hva
  obtain ⟨hb1, B, d, rfl, hrb⟩ := hvb
  unfold tyV
  obtain ⟨w2, hw2⟩ : ∃ w2, w2 = (w.alloc (.cells #[.int .i64 a.kind, .string (S a.mod), .string (S a.name), .slice A a.args.length c, .int .i64 a.var] 24)).alloc (.cells #[.int .i64 b.kind, .string (S b.mod), .string (S b.name), .slice B b.args.length d, .int .i64 b.var] 24) := ⟨_, rfl⟩
  have B2 := Lib.hid (show Below w.heap.size w w2 by rw [hw2]; exact bel_alloc (bel_alloc (Below.refl _ _) _) _)
  have HSZ2 := Lib.hid (show w2.heap.size = w.heap.size + 2 by rw [hw2]; simp)
  have blkA := Lib.hid (show w2.heap[w.heap.size]? = some (.cells #[.int .i64 a.kind, .string (S a.mod), .string (S a.name), .slice A a.args.length c, .int .i64 a.var] 24 (0, 0)) by
    rw [hw2]; exact ((gb_alloc _ _ .none).block w.heap.size (by simp) (by simp)).trans (MapKept.heap_alloc w _).1)
  have blkB := Lib.hid (show w2.heap[w.heap.size + 1]? = some (.cells #[.int .i64 b.kind, .string (S b.mod), .string (S b.name), .slice B b.args.length d, .int .i64 b.var] 24 (0, 0)) by
    have h := (MapKept.heap_alloc (w.alloc (.cells #[.int .i64 a.kind, .string (S a.mod), .string (S a.name), .slice A a.args.length c, .int .i64 a.var] 24)) (.cells #[.int .i64 b.kind, .string (S b.mod), .string (S b.name), .slice B b.args.length d, .int .i64 b.var] 24)).1
    rw [World.size_alloc] at h
    rw [hw2]; exact h)
  have HRA := Lib.hid (show ∀ X, Below w.heap.size w X → RdV X (.agg #[.int .i64 a.kind, .string (S a.mod), .string (S a.name), .slice A a.args.length c, .int .i64 a.var]) a from fun X h => RdV.below ⟨ha1, A, c, rfl, hra⟩ h)
  have HRB := Lib.hid (show ∀ X, Below w.heap.size w X → RdV X (.agg #[.int .i64 b.kind, .string (S b.mod), .string (S b.name), .slice B b.args.length d, .int .i64 b.var]) b from fun X h => RdV.below ⟨hb1, B, d, rfl, hrb⟩ h)
  have HU := Lib.hid hU
  have H1 := Lib.hid (And.intro ha1 hb1); have HR1 := Lib.hid (And.intro hra hrb)
  clear hU ha1 hb1 hra hrb
  obtain ⟨q1, hq1⟩ : ∃ q1, q1 = w.heap.size := ⟨_, rfl⟩
  obtain ⟨q2, hq2⟩ : ∃ q2, q2 = w.heap.size + 1 := ⟨_, rfl⟩
  rw [← hq1] at blkA
  rw [← hq2] at blkB
  have K2 := Lib.hid (show ∀ X, Below w2.heap.size w2 X → X.cell? ⟨q1, 0, none⟩ = some (.int .i64 a.kind) ∧ X.cell? ⟨q1, 1, none⟩ = some (.string (S a.mod)) ∧ X.cell? ⟨q1, 2, none⟩ = some (.string (S a.name)) ∧ X.cell? ⟨q1, 3, none⟩ = some (.slice A a.args.length c) ∧ X.cell? ⟨q1, 4, none⟩ = some (.int .i64 a.var) ∧ X.cell? ⟨q2, 0, none⟩ = some (.int .i64 b.kind) ∧ X.cell? ⟨q2, 1, none⟩ = some (.string (S b.mod)) ∧ X.cell? ⟨q2, 2, none⟩ = some (.string (S b.name)) ∧ X.cell? ⟨q2, 3, none⟩ = some (.slice B b.args.length d) ∧ X.cell? ⟨q2, 4, none⟩ = some (.int .i64 b.var) from fun X hb => by
    obtain ⟨a0, a1, a2, a3, a4, -⟩ := five_cells blkA.out
    obtain ⟨b0, b1, b2, b3, b4, -⟩ := five_cells blkB.out
    have la := lt_of_block blkA.out
    have lb := lt_of_block blkB.out
    have ca : ∀ o, X.cell? ⟨q1, o, .none⟩ = w2.cell? ⟨q1, o, .none⟩ := fun o => hb.cell (p := ⟨q1, o, .none⟩) la
    have cb : ∀ o, X.cell? ⟨q2, o, .none⟩ = w2.cell? ⟨q2, o, .none⟩ := fun o => hb.cell (p := ⟨q2, o, .none⟩) lb
    exact ⟨(ca 0).trans a0, (ca 1).trans a1, (ca 2).trans a2, (ca 3).trans a3, (ca 4).trans a4, (cb 0).trans b0, (cb 1).trans b1, (cb 2).trans b2, (cb 3).trans b3, (cb 4).trans b4⟩)
  obtain ⟨fA0, fA1, fA2, fA3, fA4, fB0, fB1, fB2, fB3, fB4⟩ := K2.out w2 (Below.refl _ _)
  go_enter Tryz.func16, Tryz.ntmps16
  go_wp2_with fail
  rw [← hw2, ← hq2, ← hq1]
  have HW2 := Lib.hid hw2; have HQ1 := Lib.hid hq1; have HQ2 := Lib.hid hq2
  clear hw2 hq1 hq2
  refine (IsFormed_calls a _ w2 (HRA.out w2 B2.out)).mono ?_
  rintro e3 w3 ⟨rfl, hb3⟩
  have B3 := Lib.hid (show Below w.heap.size w w3 from B2.out.trans (hb3.mono B2.out.size))
  have C3 := Lib.hid hb3
  clear hb3 fA0 fA1 fA2 fA3 fA4 fB0 fB1 fB2 fB3 fB4
  obtain ⟨-, -, -, -, -, fB0, fB1, fB2, fB3, fB4⟩ := K2.out w3 C3.out
  cases hfa : formedB a with
  | false =>
    have hel : e = 4 ∧ L = [] := by
      rcases HU.out with ⟨-, h⟩ | ⟨h, -⟩
      · exact h
      · rw [hfa] at h; cases h
    obtain ⟨rfl, rfl⟩ := hel
    have HFA := Lib.hid hfa; clear hfa
    go_wp2
    go_ret2
    exact ⟨_, rfl, RdB.nil _ _, B3.out⟩
  | true =>
    have HFA := Lib.hid hfa; clear hfa
    go_wp2_with fail
    refine (IsFormed_calls b _ w3 (HRB.out w3 B3.out)).mono ?_
    rintro e4 w4 ⟨rfl, hb4⟩
    have B4 := Lib.hid (show Below w.heap.size w w4 from B3.out.trans (hb4.mono B3.out.size))
    have C4 := Lib.hid (show Below w2.heap.size w2 w4 from C3.out.trans (hb4.mono C3.out.size))
    clear hb4 fB0 fB1 fB2 fB3 fB4
    cases hfb : formedB b with
    | false =>
      have hel : e = 4 ∧ L = [] := by
        rcases HU.out with ⟨-, h⟩ | ⟨-, h, -⟩
        · exact h
        · rw [hfb] at h; cases h
      obtain ⟨rfl, rfl⟩ := hel
      have HFB := Lib.hid hfb; clear hfb
      go_wp2
      go_ret2
      exact ⟨_, rfl, RdB.nil _ _, B4.out⟩
    | true =>
      have HFB := Lib.hid hfb; clear hfb
      have hui : ∃ s', UnifyIs (addT b (addT a Sto.empty).2).2 (addT a Sto.empty).1 (addT b (addT a Sto.empty).2).1 e s' ∧ ((e ≠ 0 ∧ L = []) ∨ (e = 0 ∧ AllBd s' ∧ BindsIs s' L)) := by
        rcases HU.out with ⟨h, -⟩ | ⟨-, -, h⟩
        · exact absurd ⟨HFA.out, HFB.out⟩ h
        · exact h
      obtain ⟨s', hui, hel⟩ := hui
      have HUI := Lib.hid hui; have HEL := Lib.hid hel
      clear hui hel
      go_wp2_with fail
      refine (IsSolved_nil w4).mono ?_
      rintro e5 w5 ⟨rfl, hb5⟩
      have B5 := Lib.hid (show Below w.heap.size w w5 from B4.out.trans (hb5.mono B4.out.size))
      have C5 := Lib.hid (show Below w2.heap.size w2 w5 from C4.out.trans (hb5.mono C4.out.size))
      clear hb5
      go_wp2_with fail
      refine (NewStore_calls w5).mono ?_
      rintro e6 w6 ⟨rfl, hS6, hb6⟩
      have B6 := Lib.hid (show Below w.heap.size w w6 from B5.out.trans (hb6.mono B5.out.size))
      have C6 := Lib.hid (show Below w2.heap.size w2 w6 from C5.out.trans (hb6.mono C5.out.size))
      obtain ⟨BS, hBS⟩ : ∃ BS, BS = w5.heap.size := ⟨_, rfl⟩
      obtain ⟨p, hp⟩ : ∃ p, p = w5.heap.size + 1 := ⟨_, rfl⟩
      have HBS := Lib.hid (show BS ≤ w6.heap.size by rw [hBS]; exact hb6.size)
      have HBW := Lib.hid (show w2.heap.size ≤ BS by rw [hBS]; exact C5.out.size)
      have HWB := Lib.hid (show w.heap.size ≤ BS by rw [hBS]; exact B5.out.size)
      rw [← hp, ← hBS] at hS6
      rw [← hp]
      have HS6 := Lib.hid hS6
      have hfa := HFA.out; have hfb := HFB.out
      simp only [formedB, Bool.and_eq_true, decide_eq_true_eq] at hfa hfb
      obtain ⟨k1, k2, k3, k4⟩ := addT_ok a Sto.empty 1 Sto.Ok.empty hfa.1
      obtain ⟨k5, k6, k7, k8⟩ := addT_ok b (addT a Sto.empty).2 1 k1 hfb.1
      have e0 : Sto.empty.n = 0 := rfl
      have HLA := Lib.hid (show (addT a Sto.empty).1 < (addT b (addT a Sto.empty).2).2.n by omega)
      have HLB := Lib.hid k6
      have HOB := Lib.hid hfb.1
      have HFW := Lib.hid (show (addT a Sto.empty).2.n + partsT b ≤ 1000000000 by omega)
      have HVB := Lib.hid (show ∀ X, Below BS w6 X → ValT (fun z => z < BS) X (.agg #[.int .i64 b.kind, .string (S b.mod), .string (S b.name), .slice B b.args.length d, .int .i64 b.var]) b from fun X h => ⟨H1.out.2, B, d, rfl, HR1.out.2.turn (fun z hz => Nat.lt_of_lt_of_le hz HWB.out) (fun z o hz => (B6.out.trans (h.mono HWB.out)).cell (p := ⟨z, o, .none⟩) hz)⟩)
      have hva : ValT (fun z => z < BS) w6.drew (.agg #[.int .i64 a.kind, .string (S a.mod), .string (S a.name), .slice A a.args.length c, .int .i64 a.var]) a := ⟨H1.out.1, A, c, rfl, HR1.out.1.turn (fun z hz => Nat.lt_of_lt_of_le hz HWB.out) (fun z o hz => B6.out.cell (p := ⟨z, o, .none⟩) hz)⟩
      have HADA := Lib.hid (Add_calls a w6.drew BS p _ _ _ 1 _ (hS6.bel (bel_drew (Below.refl _ _))) hva hfa.1 (by omega))
      have K9 := Lib.hid (show ∀ X, Below BS w6 X → X.cell? ⟨q1, 0, none⟩ = some (.int .i64 a.kind) ∧ X.cell? ⟨q1, 1, none⟩ = some (.string (S a.mod)) ∧ X.cell? ⟨q1, 2, none⟩ = some (.string (S a.name)) ∧ X.cell? ⟨q1, 3, none⟩ = some (.slice A a.args.length c) ∧ X.cell? ⟨q1, 4, none⟩ = some (.int .i64 a.var) ∧ X.cell? ⟨q2, 0, none⟩ = some (.int .i64 b.kind) ∧ X.cell? ⟨q2, 1, none⟩ = some (.string (S b.mod)) ∧ X.cell? ⟨q2, 2, none⟩ = some (.string (S b.name)) ∧ X.cell? ⟨q2, 3, none⟩ = some (.slice B b.args.length d) ∧ X.cell? ⟨q2, 4, none⟩ = some (.int .i64 b.var) from fun X h => K2.out X (C6.out.trans (h.mono HBW.out)))
      have hHeld0 := K9.out w6 (Below.refl _ _)
      clear hS6 hb6 hBS hp hfa hfb k1 k2 k3 k4 k5 k6 k7 k8 e0 hva
      go_wp2_with fail
      go_loopw [28] (fun v wr => v = .int .i64 0 ∧ wr = w6) (fun _ _ => 0)
      case atStart => exact ⟨rfl, rfl⟩
      case round =>
        obtain ⟨rfl, hwr⟩ := hrel
        have hwr2 := hwr.symm
        subst hwr2
        clear hwr
        go_wp2_with fail
        refine start_ (n := 9) (S := fun w' => w'.cell? ⟨q1, 0, none⟩ = some (.int .i64 a.kind) ∧ w'.cell? ⟨q1, 1, none⟩ = some (.string (S a.mod)) ∧ w'.cell? ⟨q1, 2, none⟩ = some (.string (S a.name)) ∧ w'.cell? ⟨q1, 3, none⟩ = some (.slice A a.args.length c) ∧ w'.cell? ⟨q1, 4, none⟩ = some (.int .i64 a.var) ∧ w'.cell? ⟨q2, 0, none⟩ = some (.int .i64 b.kind) ∧ w'.cell? ⟨q2, 1, none⟩ = some (.string (S b.mod)) ∧ w'.cell? ⟨q2, 2, none⟩ = some (.string (S b.name)) ∧ w'.cell? ⟨q2, 3, none⟩ = some (.slice B b.args.length d) ∧ w'.cell? ⟨q2, 4, none⟩ = some (.int .i64 b.var)) (ds := []) (bs 9 0) (by kernel_rfl) rfl rfl ⟨(K9.out _ (belD _ _)).1, (K9.out _ (belD _ _)).2.1, (K9.out _ (belD _ _)).2.2.1, (K9.out _ (belD _ _)).2.2.2.1, (K9.out _ (belD _ _)).2.2.2.2.1, (K9.out _ (belD _ _)).2.2.2.2.2.1, (K9.out _ (belD _ _)).2.2.2.2.2.2.1, (K9.out _ (belD _ _)).2.2.2.2.2.2.2.1, (K9.out _ (belD _ _)).2.2.2.2.2.2.2.2.1, (K9.out _ (belD _ _)).2.2.2.2.2.2.2.2.2⟩ (fun hHeld => ?_)
        refine pu 0 44 (bs 9 1) ?_
        refine pu 1 45 (bs 9 3) ?_
        refine pu 4 48 (bs 9 19) ?_
        refine tk 2 46 (bs 9 23) hHeld ?_
        refine tk 5 49 (bs 9 55) hHeld ?_
        refine one_ (i := 3) (N := some 47) (bs 9 63) rfl rfl (by kernel_rfl) (by decide) (fun K hK => ?_)
        refine goes_ Tryz.func49 (by kernel_rfl) rfl #[.pointer (some ⟨p, 0, none⟩), .agg #[.int .i64 a.kind, .string (S a.mod), .string (S a.name), .slice A a.args.length c, .int .i64 a.var]] (by rfl) rfl rfl (by simp only [List.map_toArray, List.map_cons, List.map_nil]; rfl) ?_
        with_reducible refine (HADA.out).mono ?_
        rintro e w7 ⟨rfl, R7, hS7, hT7, hG7⟩
        refine ⟨_, rfl, ?_⟩
        have B7 := Lib.hid (show Below BS w6 w7 from bel_then' (belD _ _) (hT7.below HBS.out (fun k hk => (HS6.out.lt k hk).1)))
        have HS7 := Lib.hid hS7; have HT7 := Lib.hid hT7; have HG7 := Lib.hid hG7
        clear hS7 hT7 hG7
        refine hK.out _ _ ⟨(K9.out _ B7.out).1, (K9.out _ B7.out).2.1, (K9.out _ B7.out).2.2.1, (K9.out _ B7.out).2.2.2.1, (K9.out _ B7.out).2.2.2.2.1, (K9.out _ B7.out).2.2.2.2.2.1, (K9.out _ B7.out).2.2.2.2.2.2.1, (K9.out _ B7.out).2.2.2.2.2.2.2.1, (K9.out _ B7.out).2.2.2.2.2.2.2.2.1, (K9.out _ B7.out).2.2.2.2.2.2.2.2.2⟩ (fun hHeld => ?_)
        clear hK K
        refine norm_ (a' := ?_) ?_ ?_
        rotate_left
        · show Act.put _ (some 47) _ = _; simp only [Act.put, List.setIfInBounds_toArray, List.set_cons_zero, List.set_cons_succ, i64_w, i32_w]; rfl
        refine one_ (i := 6) (N := some 50) (bs 9 127) rfl rfl (by kernel_rfl) (by decide) (fun K hK => ?_)
        refine goes_ Tryz.func49 (by kernel_rfl) rfl #[.pointer (some ⟨p, 0, none⟩), .agg #[.int .i64 b.kind, .string (S b.mod), .string (S b.name), .slice B b.args.length d, .int .i64 b.var]] (by rfl) rfl rfl (by simp only [List.map_toArray, List.map_cons, List.map_nil]; rfl) ?_
        with_reducible refine (Add_at b w7 BS p _ R7 _ 1 _ HS7.out (HVB.out w7 B7.out) HOB.out HFW.out).mono ?_
        rintro e w8 ⟨rfl, R8, hS8, hT8, hG8⟩
        refine ⟨_, rfl, ?_⟩
        have B8 := Lib.hid (show Below BS w6 w8 from bel_then' B7.out (hT8.below (Nat.le_trans HBS.out B7.out.size) (fun k hk => (HS7.out.lt k hk).1)))
        have HS8 := Lib.hid hS8; have HT8 := Lib.hid hT8; have HG8 := Lib.hid hG8
        clear hS8 hT8 hG8
        refine hK.out _ _ ⟨(K9.out _ B8.out).1, (K9.out _ B8.out).2.1, (K9.out _ B8.out).2.2.1, (K9.out _ B8.out).2.2.2.1, (K9.out _ B8.out).2.2.2.2.1, (K9.out _ B8.out).2.2.2.2.2.1, (K9.out _ B8.out).2.2.2.2.2.2.1, (K9.out _ B8.out).2.2.2.2.2.2.2.1, (K9.out _ B8.out).2.2.2.2.2.2.2.2.1, (K9.out _ B8.out).2.2.2.2.2.2.2.2.2⟩ (fun hHeld => ?_)
        clear hK K
        refine norm_ (a' := ?_) ?_ ?_
        rotate_left
        · show Act.put _ (some 50) _ = _; simp only [Act.put, List.setIfInBounds_toArray, List.set_cons_zero, List.set_cons_succ, i64_w, i32_w]; rfl
        refine one_ (i := 7) (N := some 51) (bs 9 255) rfl rfl (by kernel_rfl) (by decide) (fun K hK => ?_)
        refine goes_ Tryz.func50 (by kernel_rfl) rfl #[.pointer (some ⟨p, 0, none⟩), .int .i64 ((addT a Sto.empty).1 : Int), .int .i64 ((addT b (addT a Sto.empty).2).1 : Int)] (by rfl) rfl rfl (by simp only [List.map_toArray, List.map_cons, List.map_nil]; rfl) ?_
        with_reducible refine (SUnify_calls w8 BS p _ R8 _ HS8.out _ _ HLA.out HLB.out e s' HUI.out).mono ?_
        rintro e9 w9 ⟨rfl, hT9, hR9⟩
        refine ⟨_, rfl, ?_⟩
        have B9 := Lib.hid (show Below BS w6 w9 from bel_then' B8.out (hT9.below (Nat.le_trans HBS.out B8.out.size) (fun k hk => (HS8.out.lt k hk).1)))
        have HR9 := Lib.hid hR9
        clear hR9 hT9
        refine hK.out _ _ ⟨(K9.out _ B9.out).1, (K9.out _ B9.out).2.1, (K9.out _ B9.out).2.2.1, (K9.out _ B9.out).2.2.2.1, (K9.out _ B9.out).2.2.2.2.1, (K9.out _ B9.out).2.2.2.2.2.1, (K9.out _ B9.out).2.2.2.2.2.2.1, (K9.out _ B9.out).2.2.2.2.2.2.2.1, (K9.out _ B9.out).2.2.2.2.2.2.2.2.1, (K9.out _ B9.out).2.2.2.2.2.2.2.2.2⟩ (fun hHeld => ?_)
        clear hK K
        refine norm_ (a' := ?_) ?_ ?_
        rotate_left
        · show Act.put _ (some 51) _ = _; simp only [Act.put, List.setIfInBounds_toArray, List.set_cons_zero, List.set_cons_succ, i64_w, i32_w]; rfl
        refine pu 8 11 (bs 9 511) ?_
        refine done_ (by kernel_rfl) ?_
        have HB9 := Lib.hid (show Below w.heap.size w w9 from B6.out.trans (B9.out.mono HWB.out))
        clear HADA K9 hHeld hHeld0 HVB
        by_cases he : e = 0
        · subst he
          obtain ⟨R9, hS9, -⟩ := HR9.out rfl
          obtain ⟨hab, hbi⟩ : AllBd s' ∧ BindsIs s' L := by
            rcases HEL.out with ⟨h, -⟩ | ⟨-, h⟩
            · exact absurd rfl h
            · exact h
          have hbc := binds_calls w9 BS p _ R9 s' hS9 hab L hbi
          have HS9 := Lib.hid hS9; have HBI := Lib.hid hbi
          clear hS9 hab hbi
          go_wp2_with fail
          refine hbc.mono ?_
          rintro e10 w10 ⟨v, rfl, hown, hlen, hb10⟩
          have HOWN := Lib.hid hown; have HB10 := Lib.hid (show Below w.heap.size w w10 from HB9.out.trans (hb10.mono HB9.out.size))
          clear hown hb10 hbc
          go_wp2
          go_ret2
          have hb9 := HB9.out.size
          exact ⟨v, rfl, HOWN.out.read (by omega) _ (fun z h1 h2 => ⟨by omega, h2⟩) (fun z h => by have := HOWN.out.lt z h; exact ⟨by omega, this.2⟩), HB10.out⟩
        · have hL : L = [] := by
            rcases HEL.out with ⟨-, h⟩ | ⟨h, -⟩
            · exact h
            · exact absurd h he
          subst hL
          have q1 : (e != 0) = true := by simp [he]
          clear he
          go_wp2
          go_ret2
          exact ⟨_, rfl, RdB.nil _ _, HB9.out⟩

end Go.Proofs.YtplnfepdikbpfaaGreatDoor
