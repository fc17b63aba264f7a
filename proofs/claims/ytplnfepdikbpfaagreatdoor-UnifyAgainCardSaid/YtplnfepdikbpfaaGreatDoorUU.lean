/- The walk of the program's Unify, with any pairs. Condition: the types and the pairs read; at most 1000000 pairs. -/
import Derived.Test.YtplnfepdikbpfaaGreatDoorPW
import Derived.Test.YtplnfepdikbpfaaGreatDoorWI
import Derived.Test.YtplnfepdikbpfaaGreatDoorST11
namespace Go.Proofs.YtplnfepdikbpfaaGreatDoor
open Go.RowKit
open Go.Proofs.YtplnfepdikbpfaaGreatDoorW.PrintLast
set_option linter.unusedVariables false
set_option linter.unusedSimpArgs false
attribute [local go_sem ↓] Go.wp_at_zero Go.wp_at_succ

/-- Unify's arguments may be. -/
def UOk (a b : Ty) (L : List (Int × Ty)) : Prop := formedB a = true ∧ formedB b = true ∧ L.length ≤ 20000 ∧ solvedB L = true
/-- What Unify answers. -/
def UnAns (a b : Ty) (L : List (Int × Ty)) (e : Int) (X : List (Int × Ty)) : Prop :=
  (¬ UOk a b L ∧ e = 4 ∧ X = []) ∨ (UOk a b L ∧ UAns (EqU a b L) e X ∧ ∀ x ∈ X, (0 ≤ x.1 ∧ x.1 ≤ 1048576) ∧ hdAll x.2 = true)
def UnPost (w : World) (a b : Ty) (L : List (Int × Ty)) (en : Ending) (w' : World) : Prop := ∃ e X, UnAns a b L e X ∧ UPost w e X en w'

set_option maxRecDepth 100000 in
set_option maxHeartbeats 64000000 in
theorem Unify_calls (a b : Ty) (L : List (Int × Ty)) (va vb sv : Value) (w : World) (hva : RdV w va a) (hvb : RdV w vb b) (hsv : RdBw w sv L) (hl : L.length ≤ 1000000) :
    Calls Tryz.prog 16 #[va, vb, sv] w (UnPost w a b L) := by
  obtain ⟨ha1, A, c, rfl, hra⟩ := hva
  obtain ⟨hb1, B, d, rfl, hrb⟩ := hvb
  obtain ⟨SA, sc, rfl, hll, -⟩ := id hsv
  unfold tyV
  have HV := Lib.hid hsv
  clear hsv
  obtain ⟨w2, hw2⟩ : ∃ w2, w2 = (w.alloc (.cells #[.int .i64 a.kind, .string (S a.mod), .string (S a.name), .slice A a.args.length c, .int .i64 a.var] 24)).alloc (.cells #[.int .i64 b.kind, .string (S b.mod), .string (S b.name), .slice B b.args.length d, .int .i64 b.var] 24) := ⟨_, rfl⟩
  have B2 := Lib.hid (show Below w.heap.size w w2 by rw [hw2]; exact bel_alloc (bel_alloc (Below.refl _ _) _) _)
  have HSZ2 := Lib.hid (show w2.heap.size = w.heap.size + 2 by rw [hw2]; simp)
  have blkA := Lib.hid (show w2.heap[w.heap.size]? = some (.cells #[.int .i64 a.kind, .string (S a.mod), .string (S a.name), .slice A a.args.length c, .int .i64 a.var] 24 (0, 0)) by
    rw [hw2]; exact ((gb_alloc _ _ .none).block w.heap.size (by simp) (by simp)).trans (MapKept.heap_alloc w _).1)
  have blkB := Lib.hid (show w2.heap[w.heap.size + 1]? = some (.cells #[.int .i64 b.kind, .string (S b.mod), .string (S b.name), .slice B b.args.length d, .int .i64 b.var] 24 (0, 0)) by
    have h := (MapKept.heap_alloc (w.alloc (.cells #[.int .i64 a.kind, .string (S a.mod), .string (S a.name), .slice A a.args.length c, .int .i64 a.var] 24)) (.cells #[.int .i64 b.kind, .string (S b.mod), .string (S b.name), .slice B b.args.length d, .int .i64 b.var] 24)).1
    rw [World.size_alloc] at h
    rw [hw2]; exact h)
  have HRA := Lib.hid (show ∀ X, Below w.heap.size w X → RdV X (.agg #[.int .i64 a.kind, .string (S a.mod), .string (S a.name), .slice A a.args.length c, .int .i64 a.var]) a from fun X h => RdV.below ⟨ha1, A, c, rfl, hra⟩ h)
  have HRB := Lib.hid (show ∀ X, Below w.heap.size w X → RdV X (.agg #[.int .i64 b.kind, .string (S b.mod), .string (S b.name), .slice B b.args.length d, .int .i64 b.var]) b from fun X h => RdV.below ⟨hb1, B, d, rfl, hrb⟩ h)
  have H1 := Lib.hid (And.intro ha1 hb1); have HR1 := Lib.hid (And.intro hra hrb)
  clear ha1 hb1 hra hrb
  obtain ⟨q1, hq1⟩ : ∃ q1, q1 = w.heap.size := ⟨_, rfl⟩
  obtain ⟨q2, hq2⟩ : ∃ q2, q2 = w.heap.size + 1 := ⟨_, rfl⟩
  rw [← hq1] at blkA
  rw [← hq2] at blkB
  have K2 := Lib.hid (show ∀ X, Below w2.heap.size w2 X → X.cell? ⟨q1, 0, none⟩ = some (.int .i64 a.kind) ∧ X.cell? ⟨q1, 1, none⟩ = some (.string (S a.mod)) ∧ X.cell? ⟨q1, 2, none⟩ = some (.string (S a.name)) ∧ X.cell? ⟨q1, 3, none⟩ = some (.slice A a.args.length c) ∧ X.cell? ⟨q1, 4, none⟩ = some (.int .i64 a.var) ∧ X.cell? ⟨q2, 0, none⟩ = some (.int .i64 b.kind) ∧ X.cell? ⟨q2, 1, none⟩ = some (.string (S b.mod)) ∧ X.cell? ⟨q2, 2, none⟩ = some (.string (S b.name)) ∧ X.cell? ⟨q2, 3, none⟩ = some (.slice B b.args.length d) ∧ X.cell? ⟨q2, 4, none⟩ = some (.int .i64 b.var) from fun X hb => by
    obtain ⟨a0, a1, a2, a3, a4, -⟩ := five_cells blkA.out
    obtain ⟨b0, b1, b2, b3, b4, -⟩ := five_cells blkB.out
    have la := lt_of_block blkA.out
    have lb := lt_of_block blkB.out
    have ca : ∀ o, X.cell? ⟨q1, o, .none⟩ = w2.cell? ⟨q1, o, .none⟩ := fun o => hb.cell (p := ⟨q1, o, .none⟩) la
    have cb : ∀ o, X.cell? ⟨q2, o, .none⟩ = w2.cell? ⟨q2, o, .none⟩ := fun o => hb.cell (p := ⟨q2, o, .none⟩) lb
    exact ⟨(ca 0).trans a0, (ca 1).trans a1, (ca 2).trans a2, (ca 3).trans a3, (ca 4).trans a4, (cb 0).trans b0, (cb 1).trans b1, (cb 2).trans b2, (cb 3).trans b3, (cb 4).trans b4⟩)
  obtain ⟨fA0, fA1, fA2, fA3, fA4, fB0, fB1, fB2, fB3, fB4⟩ := K2.out w2 (Below.refl _ _)
  go_enter Tryz.func16, Tryz.ntmps16
  go_wp2_with fail
  rw [← hw2, ← hq2, ← hq1]
  clear hw2 hq1 hq2
  refine (IsFormed_calls a _ w2 (HRA.out w2 B2.out)).mono ?_
  rintro e3 w3 ⟨rfl, hb3⟩
  have B3 := Lib.hid (show Below w.heap.size w w3 from B2.out.trans (hb3.mono B2.out.size))
  have C3 := Lib.hid hb3
  clear hb3 fA0 fA1 fA2 fA3 fA4 fB0 fB1 fB2 fB3 fB4
  obtain ⟨-, -, -, -, -, fB0, fB1, fB2, fB3, fB4⟩ := K2.out w3 C3.out
  cases hfa : formedB a with
  | false =>
    have HNO := Lib.hid (show UnAns a b L 4 [] from .inl ⟨fun h => (by have h1 := h.1; rw [hfa] at h1; cases h1), rfl, rfl⟩)
    clear hfa
    go_wp2
    go_ret2
    exact ⟨4, [], HNO.out, _, rfl, RdB.nil _ _, B3.out⟩
  | true =>
    have HFA := Lib.hid hfa; clear hfa
    go_wp2_with fail
    refine (IsFormed_calls b _ w3 (HRB.out w3 B3.out)).mono ?_
    rintro e4 w4 ⟨rfl, hb4⟩
    have B4 := Lib.hid (show Below w.heap.size w w4 from B3.out.trans (hb4.mono B3.out.size))
    have C4 := Lib.hid (show Below w2.heap.size w2 w4 from C3.out.trans (hb4.mono C3.out.size))
    clear hb4 fB0 fB1 fB2 fB3 fB4
    cases hfb : formedB b with
    | false =>
      have HNO := Lib.hid (show UnAns a b L 4 [] from .inl ⟨fun h => (by have h1 := h.2.1; rw [hfb] at h1; cases h1), rfl, rfl⟩)
      clear hfb
      go_wp2
      go_ret2
      exact ⟨4, [], HNO.out, _, rfl, RdB.nil _ _, B4.out⟩
    | true =>
      have HFB := Lib.hid hfb; clear hfb
      have hisc := IsSolved_calls L _ w4 (HV.out.below B4.out) hl
      obtain ⟨r, hr⟩ : ∃ r, r = (decide (L.length ≤ 20000) && solvedB L) := ⟨_, rfl⟩
      rw [← hr] at hisc
      have HR := Lib.hid hr
      clear hr
      go_wp2_with fail
      refine hisc.mono ?_
      rintro e5 w5 ⟨rfl, hb5⟩
      have B5 := Lib.hid (show Below w.heap.size w w5 from B4.out.trans (hb5.mono B4.out.size))
      have C5 := Lib.hid (show Below w2.heap.size w2 w5 from C4.out.trans (hb5.mono C4.out.size))
      clear hb5 hisc
      cases r with
      | false =>
        have HNO := Lib.hid (show UnAns a b L 4 [] from .inl ⟨fun h => (by have h0 := HR.out; have h1 := h.2.2.2; have h2 := h.2.2.1; rw [h1, decide_eq_true h2] at h0; cases h0), rfl, rfl⟩)
        go_wp2
        go_ret2
        exact ⟨4, [], HNO.out, _, rfl, RdB.nil _ _, B5.out⟩
      | true =>
        have hr := HR.out.symm
        rw [Bool.and_eq_true, decide_eq_true_eq] at hr
        have HBIG := Lib.hid hr.1
        have HSB := Lib.hid hr.2
        have HSL := Lib.hid ((slv_iff L).1 hr.2)
        clear hr
        go_wp2_with fail
        refine (NewStore_calls w5).mono ?_
        rintro e6 w6 ⟨rfl, hS6, hb6⟩
        have B6 := Lib.hid (show Below w.heap.size w w6 from B5.out.trans (hb6.mono B5.out.size))
        have C6 := Lib.hid (show Below w2.heap.size w2 w6 from C5.out.trans (hb6.mono C5.out.size))
        obtain ⟨BS, hBS⟩ : ∃ BS, BS = w5.heap.size := ⟨_, rfl⟩
        obtain ⟨p, hp⟩ : ∃ p, p = w5.heap.size + 1 := ⟨_, rfl⟩
        have HBS := Lib.hid (show BS ≤ w6.heap.size by rw [hBS]; exact hb6.size)
        have HBW := Lib.hid (show w2.heap.size ≤ BS by rw [hBS]; exact C5.out.size)
        have HWB := Lib.hid (show w.heap.size ≤ BS by rw [hBS]; exact B5.out.size)
        rw [← hp, ← hBS] at hS6
        rw [← hp]
        have HS6 := Lib.hid hS6
        clear hS6 hb6 hBS hp
        go_wp2_with fail
        go_loopw [28] (fun iv wr => ∃ (k : Nat) (ok : Nat → Prop) (R : Rows) (s : Sto), k ≤ L.length ∧ iv = .int .i64 (k : Int) ∧ Hid (StoAt wr BS p ok R s) ∧ Hid (Loaded (L.take k) s) ∧ Hid (Below BS w6 wr)) (fun iv _ => L.length - (intOf iv).toNat)
        case atStart => exact ⟨0, _, _, _, Nat.zero_le _, rfl, HS6, Lib.hid Loaded.nil, Lib.hid (Below.refl _ _)⟩
        case round =>
          obtain ⟨k, ok, R, s, hk, rfl, hS, hL, hB⟩ := hrel
          by_cases hlt : k < L.length
          · obtain ⟨b, off, rfl, hp⟩ := pair_in HV.out (by omega)
            have HBW := Lib.hid (show Below w.heap.size w wr from B6.out.trans (hB.out.mono HWB.out))
            obtain ⟨A2, c2, ho1, hcs⟩ := hp k hlt
            obtain ⟨g0, g1, g2, g3, g4, g5, gv⟩ := hcs wr HBW.out
            have hmem : (keyB L k, typB L k) ∈ L := by
              have e : (keyB L k, typB L k) = L[k] := by simp [keyB, typB, List.getD_eq_getElem?_getD, List.getElem?_eq_getElem hlt]
              rw [e]; exact List.getElem_mem hlt
            have htk : L.take (k + 1) = L.take k ++ [(keyB L k, typB L k)] := by
              have e : (keyB L k, typB L k) = L[k] := by simp [keyB, typB, List.getD_eq_getElem?_getD, List.getElem?_eq_getElem hlt]
              rw [List.take_succ_eq_append_getElem hlt, e]
            obtain ⟨⟨hv0, hv1⟩, hfo⟩ := HSL.out.ok _ hmem
            simp only at hv0 hv1 hfo
            have HFEW := Lib.hid (show s.n ≤ 4001 * k from by
              have h1 := hL.out.few
              have h2 : ∀ M : List (Int × Ty), (∀ x ∈ M, formedB x.2 = true) → (M.map fun x => partsT x.2).sum ≤ 4000 * M.length := fun M => by
                induction M with
                | nil => intro _; simp
                | cons x M ih =>
                  intro h
                  have := ih fun y hy => h y (by simp [hy])
                  have := formed_few (h x (by simp))
                  simp only [List.map_cons, List.sum_cons, List.length_cons]
                  omega
              have h3 := h2 (L.take k) fun x hx => (HSL.out.ok x (List.mem_of_mem_take hx)).2
              rw [List.length_take, Nat.min_eq_left hk] at h1 h3
              omega)
            obtain ⟨n0, hn0⟩ : ∃ z, z = keyB L k := ⟨_, rfl⟩
            obtain ⟨t, ht⟩ : ∃ t, t = typB L k := ⟨_, rfl⟩
            rw [← hn0, ← ht] at hmem htk
            rw [← hn0] at g0 hv0 hv1
            rw [← ht] at g1 g2 g3 g4 g5 gv ho1 hfo
            have hot := formed_ok hfo
            have hov := ok_vTy hv0 hv1
            obtain ⟨mf, s3, hmf, hld⟩ := hL.out.snoc (x := (n0, t)) hov hot ⟨appB L, fun y hy => HSL.out.mgu.sol y (by
              rcases List.mem_append.1 hy with hy | hy
              · exact List.mem_of_mem_take hy
              · rw [List.mem_singleton.1 hy]; exact hmem)⟩
            simp only at hmf hld
            obtain ⟨-, -, hl1, hl2, -, -, hf2, hf1, -⟩ := add_two hL.out.ws hL.out.cl hov hot
            have HMF := Lib.hid hmf; have HLD := Lib.hid (htk ▸ hld); have HLT1 := Lib.hid hl1; have HLT2 := Lib.hid hl2; have HOT := Lib.hid hot
            have hpt := formed_few hfo
            have ep1 : partsT (vTy n0) = 1 := by simp [partsT, partsL]
            have HFT := Lib.hid (show (addT (vTy n0) s).2.n + partsT t ≤ 1000000000 by have := HFEW.out; have := HBIG.out; omega)
            have i0 : (0 : Int) ≤ (k : Int) := by omega
            have i1 : (k : Int) < (L.length : Int) := by omega
            have HKL := Lib.hid hlt
            obtain ⟨w7, hw7⟩ : ∃ w7, w7 = wr.alloc (.cells #[.int .i64 n0, .int .i64 t.kind, .string (S t.mod), .string (S t.name), .slice A2 t.args.length c2, .int .i64 t.var] 52) := ⟨_, rfl⟩
            obtain ⟨q10, hq10⟩ : ∃ q, q = wr.heap.size := ⟨_, rfl⟩
            have C7 := Lib.hid (show Below wr.heap.size wr w7 by rw [hw7]; exact bel_alloc (Below.refl _ _) _)
            have HS7 := Lib.hid (hS.out.bel C7.out)
            have HBR := Lib.hid (show BS ≤ wr.heap.size from Nat.le_trans HBS.out hB.out.size)
            have HBS7 := Lib.hid (show BS ≤ w7.heap.size from Nat.le_trans HBR.out C7.out.size)
            have BK := Lib.hid (show w7.heap[q10]? = some (.cells #[.int .i64 n0, .int .i64 t.kind, .string (S t.mod), .string (S t.name), .slice A2 t.args.length c2, .int .i64 t.var] 52 (0, 0)) by rw [hw7, hq10]; exact (MapKept.heap_alloc wr _).1)
            have HQ10 := Lib.hid (show q10 < w7.heap.size from lt_of_block BK.out)
            have HNQ := Lib.hid (show ¬ R.own p q10 from fun e => by have := (hS.out.lt q10 e).2; omega)
            have KB := Lib.hid (show ∀ X : World, (∀ o, X.cell? ⟨q10, o, none⟩ = w7.cell? ⟨q10, o, none⟩) → X.cell? ⟨q10, 0, none⟩ = some (.int .i64 n0) ∧ X.cell? ⟨q10, 1, none⟩ = some (.int .i64 t.kind) ∧ X.cell? ⟨q10, 2, none⟩ = some (.string (S t.mod)) ∧ X.cell? ⟨q10, 3, none⟩ = some (.string (S t.name)) ∧ X.cell? ⟨q10, 4, none⟩ = some (.slice A2 t.args.length c2) ∧ X.cell? ⟨q10, 5, none⟩ = some (.int .i64 t.var) from fun X hX => by
              obtain ⟨z0, z1, z2, z3, z4, z5, -⟩ := six_cells6 BK.out
              exact ⟨(hX 0).trans z0, (hX 1).trans z1, (hX 2).trans z2, (hX 3).trans z3, (hX 4).trans z4, (hX 5).trans z5⟩)
            have HVT := Lib.hid (show ∀ X, Below BS w7 X → ValT (fun b => b < BS) X (.agg #[.int .i64 t.kind, .string (S t.mod), .string (S t.name), .slice A2 t.args.length c2, .int .i64 t.var]) t from fun X hX => ⟨ho1, A2, c2, rfl, gv.turn (fun b h => Nat.lt_of_lt_of_le h HWB.out) (fun b o h => (hX.cell (p := ⟨b, o, none⟩) (Nat.lt_of_lt_of_le h HWB.out)).trans (C7.out.cell (p := ⟨b, o, none⟩) (Nat.lt_of_lt_of_le (Nat.lt_of_lt_of_le h HWB.out) HBR.out)))⟩)
            have HAD1 := Lib.hid (Add_at (vTy n0) w7.drew BS p ok R s 1 (.agg #[.int .i64 6, .string ⟨#[]⟩, .string ⟨#[]⟩, .slice none 0 0, .int .i64 n0]) (HS7.out.bel (belD _ _)) ⟨by unfold Ok1; simp [Ty.mod, Ty.name], none, 0, rfl, RdL_nil _ _⟩ hov (by rw [ep1]; have := HFEW.out; have := HBIG.out; omega))
            have HBW7 := Lib.hid (show Below BS w6 w7 from hB.out.trans (C7.out.mono HBR.out))
            have hHeld0 := KB.out w7 (fun _ => rfl)
            clear hp hcs ho1 gv hmem htk hv0 hv1 hfo hn0 ht hot hov hmf hld hl1 hl2 hf1 hf2 hpt ep1 hlt hS hB hL
            go_wp2_with fail
            rw [← hw7, ← hq10]
            clear hw7 hq10 g0 g1 g2 g3 g4 g5
            refine start_ (n := 11) (S := fun w' => w'.cell? ⟨q10, 0, none⟩ = some (.int .i64 n0) ∧ w'.cell? ⟨q10, 1, none⟩ = some (.int .i64 t.kind) ∧ w'.cell? ⟨q10, 2, none⟩ = some (.string (S t.mod)) ∧ w'.cell? ⟨q10, 3, none⟩ = some (.string (S t.name)) ∧ w'.cell? ⟨q10, 4, none⟩ = some (.slice A2 t.args.length c2) ∧ w'.cell? ⟨q10, 5, none⟩ = some (.int .i64 t.var)) (ds := [10]) (bs 11 0) (by kernel_rfl) rfl rfl ⟨(KB.out w7.drew (fun _ => rfl)).1, (KB.out w7.drew (fun _ => rfl)).2.1, (KB.out w7.drew (fun _ => rfl)).2.2.1, (KB.out w7.drew (fun _ => rfl)).2.2.2.1, (KB.out w7.drew (fun _ => rfl)).2.2.2.2.1, (KB.out w7.drew (fun _ => rfl)).2.2.2.2.2⟩ (fun hHeld => ?_)
            refine pu 0 32 (bs 11 1) ?_
            refine pu 1 33 (bs 11 3) ?_
            refine pu 2 34 (bs 11 7) ?_
            refine pu 6 38 (bs 11 71) ?_
            refine pu 7 39 (bs 11 199) ?_
            refine tk 3 35 (bs 11 207) hHeld ?_
            refine pu 4 36 (bs 11 223) ?_
            refine tk 8 40 (bs 11 479) hHeld ?_
            refine one_ (i := 5) (N := some 37) (bs 11 511) rfl rfl (by kernel_rfl) (by decide) (fun K hK => ?_)
            refine goes_ Tryz.func49 (by kernel_rfl) rfl #[.pointer (some ⟨p, 0, none⟩), .agg #[.int .i64 6, .string ⟨#[]⟩, .string ⟨#[]⟩, .slice none 0 0, .int .i64 n0]] (by rfl) rfl rfl (by simp only [List.map_toArray, List.map_cons, List.map_nil]; rfl) ?_
            with_reducible refine (HAD1.out).mono ?_
            rintro e w8 ⟨rfl, R8, hS8, hT8, hG8⟩
            refine ⟨_, rfl, ?_⟩
            have T8 := Lib.hid (show Tn (R.own p) w7 w8 from (Tn.bel (belD _ _) _).trans hT8)
            have N8 := Lib.hid (show ¬ R8.own p q10 from fun e => by rcases hG8 q10 e with e | e; exact HNQ.out e; exact absurd HQ10.out (by have e : w7.heap.size ≤ q10 := e; omega))
            have HS8 := Lib.hid hS8
            have HB8 := Lib.hid (show Below BS w7 w8 from T8.out.below HBS7.out (fun k hk => (HS7.out.lt k hk).1))
            clear hS8 hT8 hG8
            have KT8 := KB.out w8 (T8.out.cell HQ10.out HNQ.out)
            refine hK.out _ _ ⟨KT8.1, KT8.2.1, KT8.2.2.1, KT8.2.2.2.1, KT8.2.2.2.2.1, KT8.2.2.2.2.2⟩ (fun hHeld => ?_)
            clear hK K
            refine norm_ (a' := ?_) ?_ ?_
            rotate_left
            · show Act.put _ (some 37) _ = _; simp only [Act.put, List.setIfInBounds_toArray, List.set_cons_zero, List.set_cons_succ, i64_w, i32_w]; rfl
            refine one_ (i := 9) (N := some 41) (bs 11 1023) rfl rfl (by kernel_rfl) (by decide) (fun K hK => ?_)
            refine goes_ Tryz.func49 (by kernel_rfl) rfl #[.pointer (some ⟨p, 0, none⟩), .agg #[.int .i64 t.kind, .string (S t.mod), .string (S t.name), .slice A2 t.args.length c2, .int .i64 t.var]] (by rfl) rfl rfl (by simp only [List.map_toArray, List.map_cons, List.map_nil]; rfl) ?_
            with_reducible refine (Add_at t w8 BS p _ R8 _ 1 _ HS8.out (HVT.out w8 HB8.out) HOT.out HFT.out).mono ?_
            rintro e w9 ⟨rfl, R9, hS9, hT9, hG9⟩
            refine ⟨_, rfl, ?_⟩
            have T9 := Lib.hid (show Tn (R8.own p) w8 w9 from hT9)
            have N9 := Lib.hid (show ¬ R9.own p q10 from fun e => by rcases hG9 q10 e with e | e; exact N8.out e; exact absurd HQ10.out (by have := HB8.out.size; have := T8.out.size; omega))
            have HS9 := Lib.hid hS9
            have HB9 := Lib.hid (show Below BS w7 w9 from HB8.out.trans (T9.out.below (Nat.le_trans HBS7.out HB8.out.size) (fun k hk => (HS8.out.lt k hk).1)))
            clear hS9 hT9 hG9
            have KT9 := KB.out w9 (fun o => (T9.out.cell (Nat.lt_of_lt_of_le HQ10.out T8.out.size) N8.out o).trans (T8.out.cell HQ10.out HNQ.out o))
            refine hK.out _ _ ⟨KT9.1, KT9.2.1, KT9.2.2.1, KT9.2.2.2.1, KT9.2.2.2.2.1, KT9.2.2.2.2.2⟩ (fun hHeld => ?_)
            clear hK K
            refine norm_ (a' := ?_) ?_ ?_
            rotate_left
            · show Act.put _ (some 41) _ = _; simp only [Act.put, List.setIfInBounds_toArray, List.set_cons_zero, List.set_cons_succ, i64_w, i32_w]; rfl
            refine last_ (i := 10) (N := some 42) (bs 11 2047) rfl rfl (by kernel_rfl) (by decide) (fun K hK => ?_)
            refine goes_ Tryz.func48 (by kernel_rfl) rfl #[.pointer (some ⟨p, 0, none⟩), .int .i64 ((addT (vTy n0) s).1 : Int), .int .i64 ((addT t (addT (vTy n0) s).2).1 : Int)] (by rfl) rfl rfl (by simp only [List.map_toArray, List.map_cons, List.map_nil]; rfl) ?_
            with_reducible refine (meet_calls w9 BS p _ R9 _ HS9.out _ _ HLT1.out HLT2.out mf (true, s3) HMF.out).mono ?_
            rintro e w10 ⟨rfl, R10, hS10, hT10, hG10⟩
            refine ⟨_, rfl, ?_⟩
            have HS10 := Lib.hid hS10
            have HB10 := Lib.hid (show Below BS w7 w10 from HB9.out.trans (hT10.below (Nat.le_trans HBS7.out HB9.out.size) (fun k hk => (HS9.out.lt k hk).1)))
            clear hS10 hT10 hG10
            refine hK.out _ _ ?_
            clear hK K
            refine norm_ (a' := ?_) ?_ ?_
            rotate_left
            · show Act.put _ (some 42) _ = _; simp only [Act.put, List.setIfInBounds_toArray, List.set_cons_zero, List.set_cons_succ, i64_w, i32_w]; rfl
            refine done_ (by kernel_rfl) ?_
            have HBN := Lib.hid (show Below BS w6 w10 from HBW7.out.trans (HB10.out))
            clear HAD1 KB hHeld hHeld0 HVT HMF
            (try clear KT8 KT9)
            go_wp2
            go_roundw
            case rel => exact ⟨k + 1, _, R10, s3, HKL.out, by go_num, HS10, HLD, HBN⟩
            case measure => simp [intOf]; have := HKL.out; omega
          · obtain rfl : k = L.length := by omega
            have lt1 : ¬ ((L.length : Int) < (L.length : Int)) := by omega
            have HLL := Lib.hid (show Loaded L s by have h := hL.out; rw [List.take_length] at h; exact h)
            clear hlt hk hL
            have HS := hS; have HB := hB
            clear hS hB
            obtain ⟨g1, g2, g3, g4, g5, g6, g7, g8, -⟩ := add_two HLL.out.ws HLL.out.cl (formed_ok HFA.out) (formed_ok HFB.out)
            have hsn : s.n ≤ 100000000 := by
              have h1 := HLL.out.few
              have h2 : ∀ M : List (Int × Ty), (∀ x ∈ M, formedB x.2 = true) → (M.map fun x => partsT x.2).sum ≤ 4000 * M.length := fun M => by
                induction M with
                | nil => intro _; simp
                | cons x M ih =>
                  intro h
                  have := ih fun y hy => h y (by simp [hy])
                  have := formed_few (h x (by simp))
                  simp only [List.map_cons, List.sum_cons, List.length_cons]
                  omega
              have h3 := h2 L fun x hx => (HSL.out.ok x hx).2
              have := HBIG.out
              omega
            have hτ : satS TyA (appB L) (addT b (addT a s).2).2 := (g5 _ _).2 ((HLL.out.sat _ _).2 HSL.out.mgu.sol)
            have hsub : subS (addT b (addT a s).2).2 = appB L := (mgu_of g1 g2 (fin_of_sat g1 hτ)).one HSL.out.mgu fun τ => (g5 TyA τ).trans (HLL.out.sat TyA τ)
            obtain ⟨e, s', X, hui, -, hua, hel⟩ := unify_ans g1 g2 ⟨_, hτ⟩ (by rw [hsub]; exact HSL.out.fits) g3 g4
            have hua2 := hua.congr (E' := EqU a b L) fun A τ => by rw [g5 A τ, HLL.out.sat A τ, (g6 A τ).1, (g6 A τ).2]; exact Iff.rfl
            have HUA := Lib.hid (show UnAns a b L e X from .inr ⟨⟨HFA.out, HFB.out, HBIG.out, HSB.out⟩, hua2, fun x hx => by
              rcases hel with ⟨-, h⟩ | ⟨-, -, h, hw⟩
              · rw [h] at hx; cases hx
              · exact binds_hd hw h x hx⟩)
            have HUI := Lib.hid hui; have HEL := Lib.hid hel
            have hpa := formed_few HFA.out
            have hpb := formed_few HFB.out
            have HLA := Lib.hid g3; have HLB := Lib.hid g4
            have HFW := Lib.hid (show (addT a s).2.n + partsT b ≤ 1000000000 by omega)
            have HWR := Lib.hid (show BS ≤ wr.heap.size from Nat.le_trans HBS.out HB.out.size)
            have HVB := Lib.hid (show ∀ X, Below BS wr X → ValT (fun z => z < BS) X (.agg #[.int .i64 b.kind, .string (S b.mod), .string (S b.name), .slice B b.args.length d, .int .i64 b.var]) b from fun X h => ⟨H1.out.2, B, d, rfl, HR1.out.2.turn (fun z hz => Nat.lt_of_lt_of_le hz HWB.out) (fun z o hz => (B6.out.trans ((HB.out.trans h).mono HWB.out)).cell (p := ⟨z, o, .none⟩) hz)⟩)
            have hva : ValT (fun z => z < BS) wr.drew (.agg #[.int .i64 a.kind, .string (S a.mod), .string (S a.name), .slice A a.args.length c, .int .i64 a.var]) a := ⟨H1.out.1, A, c, rfl, HR1.out.1.turn (fun z hz => Nat.lt_of_lt_of_le hz HWB.out) (fun z o hz => (B6.out.trans (HB.out.mono HWB.out)).cell (p := ⟨z, o, .none⟩) hz)⟩
            have HADA := Lib.hid (Add_at a wr.drew BS p _ _ _ 1 _ (HS.out.bel (belD _ _)) hva (formed_ok HFA.out) (by omega))
            have K9 := Lib.hid (show ∀ X, Below BS wr X → X.cell? ⟨q1, 0, none⟩ = some (.int .i64 a.kind) ∧ X.cell? ⟨q1, 1, none⟩ = some (.string (S a.mod)) ∧ X.cell? ⟨q1, 2, none⟩ = some (.string (S a.name)) ∧ X.cell? ⟨q1, 3, none⟩ = some (.slice A a.args.length c) ∧ X.cell? ⟨q1, 4, none⟩ = some (.int .i64 a.var) ∧ X.cell? ⟨q2, 0, none⟩ = some (.int .i64 b.kind) ∧ X.cell? ⟨q2, 1, none⟩ = some (.string (S b.mod)) ∧ X.cell? ⟨q2, 2, none⟩ = some (.string (S b.name)) ∧ X.cell? ⟨q2, 3, none⟩ = some (.slice B b.args.length d) ∧ X.cell? ⟨q2, 4, none⟩ = some (.int .i64 b.var) from fun X h => K2.out X (C6.out.trans ((HB.out.trans h).mono HBW.out)))
            have HOB := Lib.hid (formed_ok HFB.out)
            have hHeld0 := K9.out wr (Below.refl _ _)
            clear hva g1 g2 g3 g4 g5 g6 g7 g8 hsn hτ hsub hua hua2 hui hel hpa hpb
            go_wp2_with fail
            refine start_ (n := 9) (S := fun w' => w'.cell? ⟨q1, 0, none⟩ = some (.int .i64 a.kind) ∧ w'.cell? ⟨q1, 1, none⟩ = some (.string (S a.mod)) ∧ w'.cell? ⟨q1, 2, none⟩ = some (.string (S a.name)) ∧ w'.cell? ⟨q1, 3, none⟩ = some (.slice A a.args.length c) ∧ w'.cell? ⟨q1, 4, none⟩ = some (.int .i64 a.var) ∧ w'.cell? ⟨q2, 0, none⟩ = some (.int .i64 b.kind) ∧ w'.cell? ⟨q2, 1, none⟩ = some (.string (S b.mod)) ∧ w'.cell? ⟨q2, 2, none⟩ = some (.string (S b.name)) ∧ w'.cell? ⟨q2, 3, none⟩ = some (.slice B b.args.length d) ∧ w'.cell? ⟨q2, 4, none⟩ = some (.int .i64 b.var)) (ds := []) (bs 9 0) (by kernel_rfl) rfl rfl ⟨(K9.out _ (belD _ _)).1, (K9.out _ (belD _ _)).2.1, (K9.out _ (belD _ _)).2.2.1, (K9.out _ (belD _ _)).2.2.2.1, (K9.out _ (belD _ _)).2.2.2.2.1, (K9.out _ (belD _ _)).2.2.2.2.2.1, (K9.out _ (belD _ _)).2.2.2.2.2.2.1, (K9.out _ (belD _ _)).2.2.2.2.2.2.2.1, (K9.out _ (belD _ _)).2.2.2.2.2.2.2.2.1, (K9.out _ (belD _ _)).2.2.2.2.2.2.2.2.2⟩ (fun hHeld => ?_)
            refine pu 0 44 (bs 9 1) ?_
            refine pu 1 45 (bs 9 3) ?_
            refine pu 4 48 (bs 9 19) ?_
            refine tk 2 46 (bs 9 23) hHeld ?_
            refine tk 5 49 (bs 9 55) hHeld ?_
            refine one_ (i := 3) (N := some 47) (bs 9 63) rfl rfl (by kernel_rfl) (by decide) (fun K hK => ?_)
            refine goes_ Tryz.func49 (by kernel_rfl) rfl #[.pointer (some ⟨p, 0, none⟩), .agg #[.int .i64 a.kind, .string (S a.mod), .string (S a.name), .slice A a.args.length c, .int .i64 a.var]] (by rfl) rfl rfl (by simp only [List.map_toArray, List.map_cons, List.map_nil]; rfl) ?_
            with_reducible refine (HADA.out).mono ?_
            rintro e7 w7 ⟨rfl, R7, hS7, hT7, hG7⟩
            refine ⟨_, rfl, ?_⟩
            have B7 := Lib.hid (show Below BS wr w7 from bel_then' (belD _ _) (hT7.below HWR.out (fun k hk => (HS.out.lt k hk).1)))
            have HS7 := Lib.hid hS7; have HT7 := Lib.hid hT7; have HG7 := Lib.hid hG7
            clear hS7 hT7 hG7
            refine hK.out _ _ ⟨(K9.out _ B7.out).1, (K9.out _ B7.out).2.1, (K9.out _ B7.out).2.2.1, (K9.out _ B7.out).2.2.2.1, (K9.out _ B7.out).2.2.2.2.1, (K9.out _ B7.out).2.2.2.2.2.1, (K9.out _ B7.out).2.2.2.2.2.2.1, (K9.out _ B7.out).2.2.2.2.2.2.2.1, (K9.out _ B7.out).2.2.2.2.2.2.2.2.1, (K9.out _ B7.out).2.2.2.2.2.2.2.2.2⟩ (fun hHeld => ?_)
            clear hK K
            refine norm_ (a' := ?_) ?_ ?_
            rotate_left
            · show Act.put _ (some 47) _ = _; simp only [Act.put, List.setIfInBounds_toArray, List.set_cons_zero, List.set_cons_succ, i64_w, i32_w]; rfl
            refine one_ (i := 6) (N := some 50) (bs 9 127) rfl rfl (by kernel_rfl) (by decide) (fun K hK => ?_)
            refine goes_ Tryz.func49 (by kernel_rfl) rfl #[.pointer (some ⟨p, 0, none⟩), .agg #[.int .i64 b.kind, .string (S b.mod), .string (S b.name), .slice B b.args.length d, .int .i64 b.var]] (by rfl) rfl rfl (by simp only [List.map_toArray, List.map_cons, List.map_nil]; rfl) ?_
            with_reducible refine (Add_at b w7 BS p _ R7 _ 1 _ HS7.out (HVB.out w7 B7.out) HOB.out HFW.out).mono ?_
            rintro e8 w8 ⟨rfl, R8, hS8, hT8, hG8⟩
            refine ⟨_, rfl, ?_⟩
            have B8 := Lib.hid (show Below BS wr w8 from bel_then' B7.out (hT8.below (Nat.le_trans HWR.out B7.out.size) (fun k hk => (HS7.out.lt k hk).1)))
            have HS8 := Lib.hid hS8; have HT8 := Lib.hid hT8; have HG8 := Lib.hid hG8
            clear hS8 hT8 hG8
            refine hK.out _ _ ⟨(K9.out _ B8.out).1, (K9.out _ B8.out).2.1, (K9.out _ B8.out).2.2.1, (K9.out _ B8.out).2.2.2.1, (K9.out _ B8.out).2.2.2.2.1, (K9.out _ B8.out).2.2.2.2.2.1, (K9.out _ B8.out).2.2.2.2.2.2.1, (K9.out _ B8.out).2.2.2.2.2.2.2.1, (K9.out _ B8.out).2.2.2.2.2.2.2.2.1, (K9.out _ B8.out).2.2.2.2.2.2.2.2.2⟩ (fun hHeld => ?_)
            clear hK K
            refine norm_ (a' := ?_) ?_ ?_
            rotate_left
            · show Act.put _ (some 50) _ = _; simp only [Act.put, List.setIfInBounds_toArray, List.set_cons_zero, List.set_cons_succ, i64_w, i32_w]; rfl
            refine one_ (i := 7) (N := some 51) (bs 9 255) rfl rfl (by kernel_rfl) (by decide) (fun K hK => ?_)
            refine goes_ Tryz.func50 (by kernel_rfl) rfl #[.pointer (some ⟨p, 0, none⟩), .int .i64 ((addT a s).1 : Int), .int .i64 ((addT b (addT a s).2).1 : Int)] (by rfl) rfl rfl (by simp only [List.map_toArray, List.map_cons, List.map_nil]; rfl) ?_
            with_reducible refine (SUnify_calls w8 BS p _ R8 _ HS8.out _ _ HLA.out HLB.out e s' HUI.out).mono ?_
            rintro e9 w9 ⟨rfl, hT9, hR9⟩
            refine ⟨_, rfl, ?_⟩
            have B9 := Lib.hid (show Below BS wr w9 from bel_then' B8.out (hT9.below (Nat.le_trans HWR.out B8.out.size) (fun k hk => (HS8.out.lt k hk).1)))
            have HR9 := Lib.hid hR9
            clear hR9 hT9
            refine hK.out _ _ ⟨(K9.out _ B9.out).1, (K9.out _ B9.out).2.1, (K9.out _ B9.out).2.2.1, (K9.out _ B9.out).2.2.2.1, (K9.out _ B9.out).2.2.2.2.1, (K9.out _ B9.out).2.2.2.2.2.1, (K9.out _ B9.out).2.2.2.2.2.2.1, (K9.out _ B9.out).2.2.2.2.2.2.2.1, (K9.out _ B9.out).2.2.2.2.2.2.2.2.1, (K9.out _ B9.out).2.2.2.2.2.2.2.2.2⟩ (fun hHeld => ?_)
            clear hK K
            refine norm_ (a' := ?_) ?_ ?_
            rotate_left
            · show Act.put _ (some 51) _ = _; simp only [Act.put, List.setIfInBounds_toArray, List.set_cons_zero, List.set_cons_succ, i64_w, i32_w]; rfl
            refine pu 8 11 (bs 9 511) ?_
            refine done_ (by kernel_rfl) ?_
            have HB9 := Lib.hid (show Below w.heap.size w w9 from B6.out.trans ((HB.out.trans B9.out).mono HWB.out))
            clear HADA K9 hHeld hHeld0 HVB
            by_cases he : e = 0
            · subst he
              obtain ⟨R9, hS9, -⟩ := HR9.out rfl
              obtain ⟨hab, hbi⟩ : AllBd s' ∧ BindsIs s' X := by
                rcases HEL.out with ⟨h, -⟩ | ⟨-, h1, h2, -⟩
                · exact absurd rfl h
                · exact ⟨h1, h2⟩
              have hbc := binds_calls w9 BS p _ R9 s' hS9 hab X hbi
              clear hS9 hab hbi
              go_wp2_with fail
              refine hbc.mono ?_
              rintro e10 w10 ⟨v, rfl, hown, hlen, hb10⟩
              have HOWN := Lib.hid hown; have HB10 := Lib.hid (show Below w.heap.size w w10 from HB9.out.trans (hb10.mono HB9.out.size))
              clear hown hb10 hbc
              go_wp2
              go_ret2
              have hb9 := HB9.out.size
              exact ⟨0, X, HUA.out, v, rfl, HOWN.out.read (by omega) _ (fun z h1 h2 => ⟨by omega, h2⟩) (fun z h => by have := HOWN.out.lt z h; exact ⟨by omega, this.2⟩), HB10.out⟩
            · have hL : X = [] := by
                rcases HEL.out with ⟨-, h⟩ | ⟨h, -⟩
                · exact h
                · exact absurd h he
              subst hL
              have q1 : (e != 0) = true := by simp [he]
              clear he
              go_wp2
              go_ret2
              exact ⟨e, [], HUA.out, _, rfl, RdB.nil _ _, HB9.out⟩

end Go.Proofs.YtplnfepdikbpfaaGreatDoor
