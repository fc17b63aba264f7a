/- The walk of the Store's meet. Condition: the Store lies in memory; meet's plain function answers. -/
import Derived.Test.YtplnfepdikbpfaaGreatDoorPW
import Derived.Test.YtplnfepdikbpfaaGreatDoorST4a
namespace Go.Proofs.YtplnfepdikbpfaaGreatDoor
open Go.RowKit
open Go.Proofs.YtplnfepdikbpfaaGreatDoorW.PrintLast
set_option linter.unusedVariables false
set_option linter.unusedSimpArgs false
attribute [local go_sem ↓] Go.wp_at_zero Go.wp_at_succ

def MeetPost (w : World) (base p : Nat) (ok : Nat → Prop) (R : Rows) (r : Bool × Sto) (e : Ending) (w' : World) : Prop :=
  e = .returned (.bool r.1) ∧ ∃ R', StoAt w' base p ok R' r.2 ∧ Tn (R.own p) w w' ∧ ∀ k, R'.own p k → R.own p k ∨ w.heap.size ≤ k
/-- What holds at the head of meet's loop. -/
structure MeetAt (w : World) (base p : Nat) (ok : Nat → Prop) (R : Rows) (s : Sto) (r : Bool × Sto) (v : Value) (wr : World) (k : Nat) (work : List (Nat × Nat)) (sj : Sto) (Rj : Rows) : Prop where
  st : StoAt wr base p ok Rj sj
  tn : Tn (R.own p) w wr
  gr : ∀ z, Rj.own p z → R.own p z ∨ w.heap.size ≤ z
  row : wr.ownsRow w.heap.size 127 2 v work.length (workCells work)
  ap : ∀ z, v.ownBlock = some z → ¬ Rj.own p z
  idx : ∀ x ∈ work, x.1 < sj.n ∧ x.2 < sj.n
  few : work.length + 1000 * sj.roots ≤ 1000 * s.roots + 1
  n : sj.n = s.n
  f : meetF k work sj = some r
def MeetRel (w : World) (base p : Nat) (ok : Nat → Prop) (R : Rows) (s : Sto) (r : Bool × Sto) (v : Value) (wr : World) (k : Nat) : Prop := ∃ work sj Rj, MeetAt w base p ok R s r v wr k work sj Rj

set_option maxRecDepth 100000 in
set_option maxHeartbeats 64000000 in
theorem meet_calls (w : World) (base p : Nat) (ok : Nat → Prop) (R : Rows) (s : Sto) (h : StoAt w base p ok R s) (a b : Nat) (ha : a < s.n) (hb : b < s.n) (f : Nat) (r : Bool × Sto) (hf : meetF f [(a, b)] s = some r) :
    Calls Tryz.prog 48 #[.pointer (some ⟨p, 0, none⟩), .int .i64 (a : Int), .int .i64 (b : Int)] w (MeetPost w base p ok R r) := by
  obtain ⟨fu, hfu⟩ := fuel_of
  have hp := h.rows.plt
  have hfew := h.few
  have hroots : s.roots ≤ s.n := by
    have := List.countP_le_length (p := fun i => s.repAt i == i) (l := List.range s.n)
    rw [List.length_range] at this
    exact this
  have H := Lib.hid h; have HF := Lib.hid hf; have HFU := Lib.hid hfu
  clear h hf hfu
  obtain ⟨inf2, jnf2, hzz⟩ := Option.map_eq_some_iff.1 info2
  simp only [Prod.mk.injEq] at hzz
  obtain ⟨z20, z21, z22⟩ := hzz
  go_enter Tryz.func48, Tryz.ntmps48
  go_wp2_with fail
  go_loopw [7] (fun v wr => ∃ k, MeetRel w base p ok R s r v wr k) (fun v wr => fu (MeetRel w base p ok R s r v wr))
  case atStart =>
    refine ⟨f, [(a, b)], s, R, H.out.alloc _, Tn.alloc _ _ _, fun z e => .inl e, ?_, ?_, fun x hx => by rw [List.mem_singleton.1 hx]; exact ⟨ha, hb⟩, by simp; omega, rfl, HF.out⟩
    · refine ⟨rfl, .inr ⟨w.heap.size, 1, #[.int .i64 (a : Int), .int .i64 (b : Int)], rfl, Nat.le_refl _, (MapKept.heap_alloc w _).1, Nat.le_refl _, by unfold maxLen; omega, rfl, rfl⟩⟩
    · intro z e
      have : z = w.heap.size := (Option.some.inj e).symm
      subst this
      exact fresh_of H.out.rows (Nat.le_refl _)
  case round =>
    obtain ⟨work, sj, Rj, hM⟩ := (HFU.out _ hrel).1
    obtain ⟨k0, hk0⟩ : ∃ k0, k0 = fu (MeetRel w base p ok R s r u7 wr) := ⟨_, rfl⟩
    rw [← hk0] at hM
    have HM := Lib.hid hM; have HK0 := Lib.hid hk0
    clear hrel hM hk0
    obtain ⟨k, rfl⟩ : ∃ k, k0 = k + 1 := by
      cases k0 with
      | zero => have := HM.out.f; rw [meetF_zero] at this; cases this
      | succ k => exact ⟨k, rfl⟩
    have hszr := HM.out.tn.size
    have HME := Lib.hid (show ∀ v' W, MeetRel w base p ok R s r v' W k → fu (MeetRel w base p ok R s r v' W) < fu (MeetRel w base p ok R s r u7 wr) from fun v' W hR => by have h1 := (HFU.out _ ⟨k, hR⟩).2 k hR; have h2 := HK0.out; omega)
    rcases List.eq_nil_or_concat work with hw0 | ⟨wk, x, hwk⟩
    · subst hw0
      obtain ⟨A, c, hv, -, -⟩ := row_shape HM.out.row
      have hv : u7 = .slice A 0 c := hv
      subst hv
      go_wp2_with fail
      go_ret
      have e1 := HM.out.f
      rw [meetF_nil] at e1
      have e2 := Option.some.inj e1
      subst e2
      exact ⟨rfl, Rj, HM.out.st, HM.out.tn, HM.out.gr⟩
    · rw [List.concat_eq_append] at hwk
      subst hwk
      obtain ⟨N, hN⟩ : ∃ N, N = (wk ++ [x]).length := ⟨_, rfl⟩
      have hNm : N = wk.length + 1 := by rw [hN]; simp
      have hrow := HM.out.row
      rw [← hN] at hrow
      obtain ⟨g, c, hv, hc, hbg, hg, hcell, -⟩ := row_cells hrow (by omega)
      subst hv
      have hx := HM.out.idx x (by simp)
      have HX := Lib.hid (show x.1 < sj.n ∧ x.2 < sj.n from hx)
      have hwl := workCells_length wk
      have d0 : wr.cell? ⟨g, wk.length * 2, none⟩ = some (.int .i64 (x.1 : Int)) := hcell _ _ (by rw [workCells_append, List.getElem?_append_right (by omega), hwl]; simp [workCells])
      have d1 : wr.cell? ⟨g, wk.length * 2 + 1, none⟩ = some (.int .i64 (x.2 : Int)) := hcell _ _ (by rw [workCells_append, List.getElem?_append_right (by omega), hwl]; simp [workCells])
      have hfw := HM.out.few
      have n1 : (N : Int) - 1 = (wk.length : Int) := by omega
      have n0 : (0 : Int) < (N : Int) := by omega
      have n2 : (0 : Int) ≤ (wk.length : Int) := by omega
      have n3 : (wk.length : Int) < (N : Int) := by omega
      have n4 : (wk.length : Int) ≤ (c : Int) := by omega
      have n5 : N ≤ 2000000000000 := by rw [hN]; omega
      have HROW := Lib.hid hrow
      have HNM := Lib.hid hNm; have HN := Lib.hid hN
      clear hrow hN hNm hx hwl hcell hfw
      obtain ⟨m, hm⟩ : ∃ m, m = wk.length := ⟨_, rfl⟩
      rw [← hm] at d0 d1 n1 n2 n3 n4
      have HMM := Lib.hid hm; clear hm
      go_wp2_with fail
      obtain ⟨w2, hw2⟩ : ∃ w2, w2 = wr.alloc (.cells #[.int .i64 (x.1 : Int), .int .i64 (x.2 : Int)] 127) := ⟨_, rfl⟩
      rw [← hw2]
      have B2 := Lib.hid (show Below wr.heap.size wr w2 by rw [hw2]; exact bel_alloc (Below.refl _ _) _)
      have K5 := Lib.hid (show w2.drew.cell? ⟨wr.heap.size, 0, none⟩ = some (.int .i64 (x.1 : Int)) ∧ w2.drew.cell? ⟨wr.heap.size, 1, none⟩ = some (.int .i64 (x.2 : Int)) by rw [hw2]; exact ⟨by simp, by simp⟩)
      have HS2 := Lib.hid (show StoAt w2.drew base p ok Rj sj from (HM.out.st.bel B2.out).bel (bel_drew (Below.refl _ _)))
      have HSZ2 : w2.heap.size = wr.heap.size + 1 := by rw [hw2]; simp
      clear hw2 d0 d1
      have x10 : (0 : Int) ≤ (x.1 : Int) := by omega
      have x20 : (0 : Int) ≤ (x.2 : Int) := by omega
      refine start_ (n := 10) (S := fun w' => w'.cell? ⟨wr.heap.size, 0, none⟩ = some (.int .i64 (x.1 : Int)) ∧ w'.cell? ⟨wr.heap.size, 1, none⟩ = some (.int .i64 (x.2 : Int))) (ds := []) (bs 10 0) (by kernel_rfl) rfl rfl ⟨K5.out.1, K5.out.2⟩ (fun hHeld => ?_)
      refine pu 0 34 (bs 10 1) ?_
      refine pu 1 35 (bs 10 3) ?_
      refine pu 4 38 (bs 10 19) ?_
      refine pu 5 39 (bs 10 51) ?_
      refine tk 2 36 (bs 10 55) hHeld ?_
      refine tk 6 40 (bs 10 119) hHeld ?_
      refine one_ (i := 3) (N := some 37) (bs 10 127) rfl rfl (by kernel_rfl) (by decide) (fun K hK => ?_)
      refine goes_ Tryz.func85 (by kernel_rfl) rfl #[.pointer (some ⟨p, 0, none⟩), .int .i64 (x.1 : Int)] (by rfl) rfl rfl (by simp only [List.map_toArray, List.map_cons, List.map_nil]; rfl) ?_
      with_reducible refine (top_calls w2.drew base p ok Rj sj HS2.out x.1 HX.out.1).mono ?_
      rintro e w3 ⟨rfl, rfl⟩
      refine ⟨_, rfl, ?_⟩
      refine hK.out _ _ ⟨K5.out.1, K5.out.2⟩ (fun hHeld => ?_)
      clear hK K
      refine norm_ (a' := ?_) ?_ ?_
      rotate_left
      · show Act.put _ (some 37) _ = _; simp only [Act.put, List.setIfInBounds_toArray, List.set_cons_zero, List.set_cons_succ, i64_w, i32_w]; rfl
      refine one_ (i := 7) (N := some 41) (bs 10 255) rfl rfl (by kernel_rfl) (by decide) (fun K hK => ?_)
      refine goes_ Tryz.func85 (by kernel_rfl) rfl #[.pointer (some ⟨p, 0, none⟩), .int .i64 (x.2 : Int)] (by rfl) rfl rfl (by simp only [List.map_toArray, List.map_cons, List.map_nil]; rfl) ?_
      with_reducible refine (top_calls w2.drew base p ok Rj sj HS2.out x.2 HX.out.2).mono ?_
      rintro e w3 ⟨rfl, rfl⟩
      refine ⟨_, rfl, ?_⟩
      refine hK.out _ _ ⟨K5.out.1, K5.out.2⟩ (fun hHeld => ?_)
      clear hK K
      refine norm_ (a' := ?_) ?_ ?_
      rotate_left
      · show Act.put _ (some 41) _ = _; simp only [Act.put, List.setIfInBounds_toArray, List.set_cons_zero, List.set_cons_succ, i64_w, i32_w]; rfl
      refine pu 8 9 (bs 10 511) ?_
      refine pu 9 10 (bs 10 1023) ?_
      refine done_ (by kernel_rfl) ?_
      obtain ⟨w3, hw3⟩ : ∃ w3, w3 = w2.drew := ⟨_, rfl⟩
      rw [← hw3] at HS2 ⊢
      have B3 := Lib.hid (show Below wr.heap.size wr w3 by rw [hw3]; exact bel_drew B2.out)
      have hsz3 : w3.heap.size = wr.heap.size + 1 := by rw [hw3]; exact HSZ2
      clear hw3
      have ha1 := Sto.rep_lt HM.out.st.sok HX.out.1
      have hb1 := Sto.rep_lt HM.out.st.sok HX.out.2
      have hra := (HM.out.st.sok.repLt _ HX.out.1).2
      have hrb := (HM.out.st.sok.repLt _ HX.out.2).2
      obtain ⟨ra, hra1⟩ : ∃ ra, ra = sj.repAt x.1 := ⟨_, rfl⟩
      obtain ⟨rb, hrb1⟩ : ∃ rb, rb = sj.repAt x.2 := ⟨_, rfl⟩
      rw [← hra1] at ha1 hra
      rw [← hrb1] at hb1 hrb
      rw [← hra1, ← hrb1]
      have hstep := HM.out.f
      rw [meetF_snoc, ← hra1, ← hrb1] at hstep
      have HST := Lib.hid hstep; have HRA := Lib.hid hra; have HRB := Lib.hid hrb
      clear hstep hra hrb hra1 hrb1 x10 x20
      -- the row, cut
      have hcutr : w3.ownsRow w.heap.size 127 2 (.slice (some ⟨g, 0, none⟩) m c) m (workCells wk) := by
        have h1 : wr.ownsRow w.heap.size 127 2 (.slice (some ⟨g, 0, none⟩) N c) N (workCells wk ++ workCells [x]) := by rw [← workCells_append]; exact HROW.out
        have h2 := row_cut m h1 (by rw [workCells_length, HMM.out]) (by have := HNM.out; have := HMM.out; omega) (by have := HNM.out; omega)
        exact row_turn h2 (Tn.bel B3.out (fun _ => False)) (fun z _ => id)
      have HCUT := Lib.hid hcutr; clear hcutr
      have GAP := Lib.hid (show ¬ Rj.own p g from HM.out.ap g rfl)
      by_cases hab : ra = rb
      · subst hab
        have hst := HST.out
        rw [if_pos rfl] at hst
        have HST2 := Lib.hid hst; clear hst
        have hR : MeetRel w base p ok R s r (.slice (some ⟨g, 0, none⟩) m c) w3 k := by
          refine ⟨wk, sj, Rj, HS2.out, HM.out.tn.trans (Tn.bel B3.out _), HM.out.gr, by rw [← HMM.out]; exact HCUT.out, HM.out.ap, fun y hy => HM.out.idx y (by simp [hy]), ?_, HM.out.n, HST2.out⟩
          have := HM.out.few
          simp at this; omega
        have HR := Lib.hid hR; clear hR
        go_wp2
        go_roundw
        case rel => exact ⟨k, HR.out⟩
        case measure => exact HME.out _ _ HR.out
      · have hab' : ((ra : Int) == (rb : Int)) = false := by rw [beq_eq_false_iff_ne]; omega
        have hst := HST.out
        rw [if_neg hab] at hst
        have hrs3 := HS2.out.rows.rs
        rw [HS2.out.solid, HS2.out.n.2.2.2] at hrs3
        obtain ⟨gs, cs, es, -, -, -, hso, -⟩ := ints_cells hrs3 ha1
        have p3 := HS2.out.rows.cells.2.2.2.1
        rw [es] at p3
        obtain ⟨sa, hsa⟩ : ∃ sa, sa = sj.solidAt ra := ⟨_, rfl⟩
        obtain ⟨sb, hsb⟩ : ∃ sb, sb = sj.solidAt rb := ⟨_, rfl⟩
        have ca : w3.cell? ⟨gs, ra, none⟩ = some (.int .i64 sa) := by rw [hsa]; exact hso ra (-1) ha1
        have cb : w3.cell? ⟨gs, rb, none⟩ = some (.int .i64 sb) := by rw [hsb]; exact hso rb (-1) hb1
        have la := HM.out.st.sok.solidLt ra ha1
        have lb := HM.out.st.sok.solidLt rb hb1
        have hfj := HM.out.st.few
        rw [← hsa, ← hsb] at hst
        rw [← hsa] at la
        rw [← hsb] at lb
        have HST2 := Lib.hid hst; have HSA := Lib.hid hsa; have HSB := Lib.hid hsb; have HAB := Lib.hid hab
        clear hst hrs3 hso es hsa hsb hab
        have i0 : (0 : Int) ≤ (ra : Int) := by omega
        have i1 : (ra : Int) < (sj.n : Int) := by omega
        have i2 : (0 : Int) ≤ (rb : Int) := by omega
        have i3 : (rb : Int) < (sj.n : Int) := by omega
        go_wp2_with fail
        go_quiet (fail)
        obtain ⟨w4, hw4⟩ : ∃ w4, w4 = w3.drewN nq := ⟨_, rfl⟩
        rw [← hw4]
        have B34 := Lib.hid (show Below w3.heap.size w3 w4 by rw [hw4]; exact bel_drewN (Below.refl _ _) _)
        clear hw4 ca cb p3
        go_wp2_with fail
        refine (merge_calls w4 base p ok Rj sj (HS2.out.bel B34.out) ra rb ha1 hb1 HRA.out HRB.out HAB.out).mono ?_
        rintro e w5 ⟨rfl, R5, hS5, hT5, hO5⟩
        have HS5 := Lib.hid hS5
        have B4 := Lib.hid (bel_then B3.out B34.out)
        have hsz4 : wr.heap.size + 1 ≤ w4.heap.size := by have := B34.out.size; omega
        have T5 := Lib.hid (show Tn (R.own p) w w5 from (HM.out.tn.trans (Tn.bel B4.out _)).then hT5 (fun z e => HM.out.gr z e))
        have G5 := Lib.hid (show ∀ z, R5.own p z → R.own p z ∨ w.heap.size ≤ z from fun z e => (hO5 z e).elim (HM.out.gr z) (fun h => .inr (by omega)))
        have HCUT5 := Lib.hid (show w5.ownsRow w.heap.size 127 2 (.slice (some ⟨g, 0, none⟩) m c) m (workCells wk) from
          row_turn (row_turn HCUT.out (Tn.bel B34.out (fun _ => False)) (fun z _ => id)) hT5 (fun z e => (Option.some.inj e) ▸ GAP.out))
        have GAP5 := Lib.hid (show ¬ R5.own p g from fun e => (hO5 g e).elim GAP.out (fun h => by omega))
        have hroot := Sto.roots_merge HM.out.st.sok ha1 hb1 HRA.out HRB.out HAB.out
        have HRT := Lib.hid hroot
        have hsz5 := hT5.size
        clear hS5 hT5 hO5 hroot HCUT HS2
        have hcon : (sa < 0 ∨ sb < 0) → MeetRel w base p ok R s r (.slice (some ⟨g, 0, none⟩) m c) w5 k := fun hc => by
          have hst := HST2.out
          rw [if_pos hc] at hst
          refine ⟨wk, sj.merge ra rb, R5, HS5.out, T5.out, G5.out, by rw [← HMM.out]; exact HCUT5.out, fun z e => (Option.some.inj e) ▸ GAP5.out, fun y hy => HM.out.idx y (by simp [hy]), ?_, HM.out.n, hst⟩
          have := HM.out.few
          have := HRT.out
          simp at *; omega
        have HCON := Lib.hid hcon; clear hcon
        have key : sa < 0 ∨ ((0 ≤ sa ∧ sb < 0) ∨ (0 ≤ sa ∧ 0 ≤ sb)) := by omega
        rcases key with c1 | c1 | c1
        · have q1 : decide (sa < 0) = true := decide_eq_true c1
          have HR := Lib.hid (HCON.out (.inl c1))
          go_wp2
          go_roundw
          case rel => exact ⟨k, HR.out⟩
          case measure => exact HME.out _ _ HR.out
        · have q1 : decide (sa < 0) = false := decide_eq_false (by omega)
          have q2 : decide (sb < 0) = true := decide_eq_true c1.2
          have HR := Lib.hid (HCON.out (.inr c1.2))
          go_wp2
          go_roundw
          case rel => exact ⟨k, HR.out⟩
          case measure => exact HME.out _ _ HR.out
        · have q1 : decide (sa < 0) = false := decide_eq_false (by omega)
          have q2 : decide (sb < 0) = false := decide_eq_false (by omega)
          obtain ⟨xa, hxa⟩ : ∃ xa : Nat, sa = (xa : Int) := ⟨sa.toNat, by omega⟩
          obtain ⟨xb, hxb⟩ : ∃ xb : Nat, sb = (xb : Int) := ⟨sb.toNat, by omega⟩
          subst hxa hxb
          have hxa : xa < sj.n := by omega
          have hxb : xb < sj.n := by omega
          obtain ⟨gn, cn, en, hcn, hgn, hnode⟩ := HS5.out.node (show 0 < sj.n by omega)
          obtain ⟨A1, c1', e10, e11, e12, e13, e14, e15, l1, l1', hk1⟩ := hnode xa hxa
          obtain ⟨A2, c2', e20, e21, e22, e23, e24, e25, l2, l2', hk2⟩ := hnode xb hxb
          obtain ⟨c1, hc1e⟩ : ∃ c1, c1 = c1' := ⟨_, rfl⟩
          obtain ⟨c2, hc2e⟩ : ∃ c2, c2 = c2' := ⟨_, rfl⟩
          rw [← hc1e] at e15 hk1
          rw [← hc2e] at e25 hk2
          have p50 := HS5.out.rows.cells.1
          rw [en] at p50
          have hp5 := HS5.out.rows.plt
          have K10 := Lib.hid (show ∀ X, Below w5.heap.size w5 X → X.cell? ⟨p, 0, none⟩ = some (.slice (some ⟨gn, 0, none⟩) sj.n cn) ∧ X.cell? ⟨gn, xa * 6, none⟩ = some (.int .i64 (sj.ndAt xa).kind) ∧ X.cell? ⟨gn, xa * 6 + 1, none⟩ = some (.string (S (sj.ndAt xa).mod)) ∧ X.cell? ⟨gn, xa * 6 + 2, none⟩ = some (.string (S (sj.ndAt xa).name)) ∧ X.cell? ⟨gn, xa * 6 + 3, none⟩ = some (.slice none 0 0) ∧ X.cell? ⟨gn, xa * 6 + 4, none⟩ = some (.int .i64 (sj.ndAt xa).var) ∧ X.cell? ⟨gn, xa * 6 + 5, none⟩ = some (.slice A1 (sj.ndAt xa).kids.length c1) ∧ X.cell? ⟨gn, xb * 6, none⟩ = some (.int .i64 (sj.ndAt xb).kind) ∧ X.cell? ⟨gn, xb * 6 + 1, none⟩ = some (.string (S (sj.ndAt xb).mod)) ∧ X.cell? ⟨gn, xb * 6 + 2, none⟩ = some (.string (S (sj.ndAt xb).name)) ∧ X.cell? ⟨gn, xb * 6 + 3, none⟩ = some (.slice none 0 0) ∧ X.cell? ⟨gn, xb * 6 + 4, none⟩ = some (.int .i64 (sj.ndAt xb).var) ∧ X.cell? ⟨gn, xb * 6 + 5, none⟩ = some (.slice A2 (sj.ndAt xb).kids.length c2) from fun X hb => by
            have hcc : ∀ o, X.cell? ⟨gn, o, none⟩ = w5.cell? ⟨gn, o, none⟩ := fun o => hb.cell (p := ⟨gn, o, none⟩) hgn
            exact ⟨(hb.cell (p := ⟨p, 0, none⟩) hp5).trans p50, (hcc _).trans e10, (hcc _).trans e11, (hcc _).trans e12, (hcc _).trans e13, (hcc _).trans e14, (hcc _).trans e15, (hcc _).trans e20, (hcc _).trans e21, (hcc _).trans e22, (hcc _).trans e23, (hcc _).trans e24, (hcc _).trans e25⟩)
          have HK1 := Lib.hid hk1; have HK2 := Lib.hid hk2
          have HL := Lib.hid (And.intro l1 (And.intro l1' (And.intro l2 l2')))
          have j0 : (0 : Int) ≤ (xa : Int) := by omega
          have j1 : (xa : Int) < (sj.n : Int) := by omega
          have j2 : (0 : Int) ≤ (xb : Int) := by omega
          have j3 : (xb : Int) < (sj.n : Int) := by omega
          clear hnode e10 e11 e12 e13 e14 e15 e20 e21 e22 e23 e24 e25 l1 l1' l2 l2' hk1 hk2 en p50 hc1e hc2e
          go_wp2_with fail
          refine start_ (n := 18) (S := fun w' => w'.cell? ⟨p, 0, none⟩ = some (.slice (some ⟨gn, 0, none⟩) sj.n cn) ∧ w'.cell? ⟨gn, xa * 6, none⟩ = some (.int .i64 (sj.ndAt xa).kind) ∧ w'.cell? ⟨gn, xa * 6 + 1, none⟩ = some (.string (S (sj.ndAt xa).mod)) ∧ w'.cell? ⟨gn, xa * 6 + 2, none⟩ = some (.string (S (sj.ndAt xa).name)) ∧ w'.cell? ⟨gn, xa * 6 + 3, none⟩ = some (.slice none 0 0) ∧ w'.cell? ⟨gn, xa * 6 + 4, none⟩ = some (.int .i64 (sj.ndAt xa).var) ∧ w'.cell? ⟨gn, xa * 6 + 5, none⟩ = some (.slice A1 (sj.ndAt xa).kids.length c1) ∧ w'.cell? ⟨gn, xb * 6, none⟩ = some (.int .i64 (sj.ndAt xb).kind) ∧ w'.cell? ⟨gn, xb * 6 + 1, none⟩ = some (.string (S (sj.ndAt xb).mod)) ∧ w'.cell? ⟨gn, xb * 6 + 2, none⟩ = some (.string (S (sj.ndAt xb).name)) ∧ w'.cell? ⟨gn, xb * 6 + 3, none⟩ = some (.slice none 0 0) ∧ w'.cell? ⟨gn, xb * 6 + 4, none⟩ = some (.int .i64 (sj.ndAt xb).var) ∧ w'.cell? ⟨gn, xb * 6 + 5, none⟩ = some (.slice A2 (sj.ndAt xb).kids.length c2)) (ds := []) (bs 18 0) (by kernel_rfl) rfl rfl ⟨(K10.out _ (bel_drew (Below.refl w5.heap.size w5))).1, (K10.out _ (bel_drew (Below.refl w5.heap.size w5))).2.1, (K10.out _ (bel_drew (Below.refl w5.heap.size w5))).2.2.1, (K10.out _ (bel_drew (Below.refl w5.heap.size w5))).2.2.2.1, (K10.out _ (bel_drew (Below.refl w5.heap.size w5))).2.2.2.2.1, (K10.out _ (bel_drew (Below.refl w5.heap.size w5))).2.2.2.2.2.1, (K10.out _ (bel_drew (Below.refl w5.heap.size w5))).2.2.2.2.2.2.1, (K10.out _ (bel_drew (Below.refl w5.heap.size w5))).2.2.2.2.2.2.2.1, (K10.out _ (bel_drew (Below.refl w5.heap.size w5))).2.2.2.2.2.2.2.2.1, (K10.out _ (bel_drew (Below.refl w5.heap.size w5))).2.2.2.2.2.2.2.2.2.1, (K10.out _ (bel_drew (Below.refl w5.heap.size w5))).2.2.2.2.2.2.2.2.2.2.1, (K10.out _ (bel_drew (Below.refl w5.heap.size w5))).2.2.2.2.2.2.2.2.2.2.2.1, (K10.out _ (bel_drew (Below.refl w5.heap.size w5))).2.2.2.2.2.2.2.2.2.2.2.2⟩ (fun hHeld => ?_)
          refine pu 0 69 (bs 18 1) ?_
          refine pu 1 70 (bs 18 3) ?_
          refine pu 2 71 (bs 18 7) ?_
          refine pu 4 73 (bs 18 23) ?_
          refine pu 7 76 (bs 18 151) ?_
          refine pu 8 77 (bs 18 407) ?_
          refine pu 9 78 (bs 18 919) ?_
          refine pu 11 80 (bs 18 2967) ?_
          refine tk 3 72 (bs 18 2975) hHeld ?_
          refine pu 5 74 (bs 18 3007) ?_
          refine tk 6 75 (bs 18 3071) hHeld ?_
          refine tk 10 79 (bs 18 4095) hHeld ?_
          refine pu 12 81 (bs 18 8191) ?_
          refine tk 13 82 (bs 18 16383) hHeld ?_
          refine join_ (σ := Nat × Nat) 2 (bs 18 65535) (fun s => [(13, Value.pointer (some ⟨s.1, 0, none⟩)), (14, Value.pointer (some ⟨s.2, 0, none⟩))]) (fun s w' => TwoNew w5 #[.int .i64 0, .string ⟨#[]⟩, .string ⟨#[]⟩, .slice none 0 0, .int .i64 0, .slice none 0 0] #[.int .i64 0, .string ⟨#[]⟩, .string ⟨#[]⟩, .slice none 0 0, .int .i64 0, .slice none 0 0] 130 s w') ?_ ?_
          rotate_left
          · intro hCont
            refine two_ (i := 14) (j := 15) (Ni := some 13) (Nj := some 14) (bs 18 32767) (bs 18 49151) rfl rfl rfl rfl (by kernel_rfl) (by decide) (by decide) (fun K hK => ?_) (fun K hK => ?_)
            · skip
              refine value_ (w1 := ?_) (v := ?_) (by rfl) rfl ?_ ?_
              rotate_left 2
              · go_simp
                constructor
                · rfl
                · rfl
              refine hK.out _ _ ⟨(K10.out _ (bel_alloc (bel_drew (Below.refl w5.heap.size w5)) _)).1, (K10.out _ (bel_alloc (bel_drew (Below.refl w5.heap.size w5)) _)).2.1, (K10.out _ (bel_alloc (bel_drew (Below.refl w5.heap.size w5)) _)).2.2.1, (K10.out _ (bel_alloc (bel_drew (Below.refl w5.heap.size w5)) _)).2.2.2.1, (K10.out _ (bel_alloc (bel_drew (Below.refl w5.heap.size w5)) _)).2.2.2.2.1, (K10.out _ (bel_alloc (bel_drew (Below.refl w5.heap.size w5)) _)).2.2.2.2.2.1, (K10.out _ (bel_alloc (bel_drew (Below.refl w5.heap.size w5)) _)).2.2.2.2.2.2.1, (K10.out _ (bel_alloc (bel_drew (Below.refl w5.heap.size w5)) _)).2.2.2.2.2.2.2.1, (K10.out _ (bel_alloc (bel_drew (Below.refl w5.heap.size w5)) _)).2.2.2.2.2.2.2.2.1, (K10.out _ (bel_alloc (bel_drew (Below.refl w5.heap.size w5)) _)).2.2.2.2.2.2.2.2.2.1, (K10.out _ (bel_alloc (bel_drew (Below.refl w5.heap.size w5)) _)).2.2.2.2.2.2.2.2.2.2.1, (K10.out _ (bel_alloc (bel_drew (Below.refl w5.heap.size w5)) _)).2.2.2.2.2.2.2.2.2.2.2.1, (K10.out _ (bel_alloc (bel_drew (Below.refl w5.heap.size w5)) _)).2.2.2.2.2.2.2.2.2.2.2.2⟩ (fun hHeld => ?_)
              clear hK K
              refine norm_ (a' := ?_) ?_ ?_
              rotate_left
              · show Act.put _ (some 13) _ = _; simp only [Act.put, List.setIfInBounds_toArray, List.set_cons_zero, List.set_cons_succ, i64_w, i32_w]; rfl
              refine one_ (i := 15) (N := some 14) (bs 18 65535) rfl rfl (by kernel_rfl) (by decide) (fun K hK => ?_)
              refine value_ (w1 := ?_) (v := ?_) (by rfl) rfl ?_ ?_
              rotate_left 2
              · go_simp
                constructor
                · rfl
                · rfl
              refine hK.out _ _ ⟨(K10.out _ (bel_alloc (bel_alloc (bel_drew (Below.refl w5.heap.size w5)) _) _)).1, (K10.out _ (bel_alloc (bel_alloc (bel_drew (Below.refl w5.heap.size w5)) _) _)).2.1, (K10.out _ (bel_alloc (bel_alloc (bel_drew (Below.refl w5.heap.size w5)) _) _)).2.2.1, (K10.out _ (bel_alloc (bel_alloc (bel_drew (Below.refl w5.heap.size w5)) _) _)).2.2.2.1, (K10.out _ (bel_alloc (bel_alloc (bel_drew (Below.refl w5.heap.size w5)) _) _)).2.2.2.2.1, (K10.out _ (bel_alloc (bel_alloc (bel_drew (Below.refl w5.heap.size w5)) _) _)).2.2.2.2.2.1, (K10.out _ (bel_alloc (bel_alloc (bel_drew (Below.refl w5.heap.size w5)) _) _)).2.2.2.2.2.2.1, (K10.out _ (bel_alloc (bel_alloc (bel_drew (Below.refl w5.heap.size w5)) _) _)).2.2.2.2.2.2.2.1, (K10.out _ (bel_alloc (bel_alloc (bel_drew (Below.refl w5.heap.size w5)) _) _)).2.2.2.2.2.2.2.2.1, (K10.out _ (bel_alloc (bel_alloc (bel_drew (Below.refl w5.heap.size w5)) _) _)).2.2.2.2.2.2.2.2.2.1, (K10.out _ (bel_alloc (bel_alloc (bel_drew (Below.refl w5.heap.size w5)) _) _)).2.2.2.2.2.2.2.2.2.2.1, (K10.out _ (bel_alloc (bel_alloc (bel_drew (Below.refl w5.heap.size w5)) _) _)).2.2.2.2.2.2.2.2.2.2.2.1, (K10.out _ (bel_alloc (bel_alloc (bel_drew (Below.refl w5.heap.size w5)) _) _)).2.2.2.2.2.2.2.2.2.2.2.2⟩ (fun hHeld => ?_)
              clear hK K
              refine norm_ (a' := ?_) ?_ ?_
              rotate_left
              · show Act.put _ (some 14) _ = _; simp only [Act.put, List.setIfInBounds_toArray, List.set_cons_zero, List.set_cons_succ, i64_w, i32_w]; rfl
              exact norm_ (by simp only [putAll, Act.put, List.setIfInBounds_toArray, List.set_cons_zero, List.set_cons_succ]) (hCont (w5.heap.size, w5.heap.size + 1) _ (TwoNew.ab w5 _ _ _))
            · skip
              refine value_ (w1 := ?_) (v := ?_) (by rfl) rfl ?_ ?_
              rotate_left 2
              · go_simp
                constructor
                · rfl
                · rfl
              refine hK.out _ _ ⟨(K10.out _ (bel_alloc (bel_drew (Below.refl w5.heap.size w5)) _)).1, (K10.out _ (bel_alloc (bel_drew (Below.refl w5.heap.size w5)) _)).2.1, (K10.out _ (bel_alloc (bel_drew (Below.refl w5.heap.size w5)) _)).2.2.1, (K10.out _ (bel_alloc (bel_drew (Below.refl w5.heap.size w5)) _)).2.2.2.1, (K10.out _ (bel_alloc (bel_drew (Below.refl w5.heap.size w5)) _)).2.2.2.2.1, (K10.out _ (bel_alloc (bel_drew (Below.refl w5.heap.size w5)) _)).2.2.2.2.2.1, (K10.out _ (bel_alloc (bel_drew (Below.refl w5.heap.size w5)) _)).2.2.2.2.2.2.1, (K10.out _ (bel_alloc (bel_drew (Below.refl w5.heap.size w5)) _)).2.2.2.2.2.2.2.1, (K10.out _ (bel_alloc (bel_drew (Below.refl w5.heap.size w5)) _)).2.2.2.2.2.2.2.2.1, (K10.out _ (bel_alloc (bel_drew (Below.refl w5.heap.size w5)) _)).2.2.2.2.2.2.2.2.2.1, (K10.out _ (bel_alloc (bel_drew (Below.refl w5.heap.size w5)) _)).2.2.2.2.2.2.2.2.2.2.1, (K10.out _ (bel_alloc (bel_drew (Below.refl w5.heap.size w5)) _)).2.2.2.2.2.2.2.2.2.2.2.1, (K10.out _ (bel_alloc (bel_drew (Below.refl w5.heap.size w5)) _)).2.2.2.2.2.2.2.2.2.2.2.2⟩ (fun hHeld => ?_)
              clear hK K
              refine norm_ (a' := ?_) ?_ ?_
              rotate_left
              · show Act.put _ (some 14) _ = _; simp only [Act.put, List.setIfInBounds_toArray, List.set_cons_zero, List.set_cons_succ, i64_w, i32_w]; rfl
              refine one_ (i := 14) (N := some 13) (bs 18 65535) rfl rfl (by kernel_rfl) (by decide) (fun K hK => ?_)
              refine value_ (w1 := ?_) (v := ?_) (by rfl) rfl ?_ ?_
              rotate_left 2
              · go_simp
                constructor
                · rfl
                · rfl
              refine hK.out _ _ ⟨(K10.out _ (bel_alloc (bel_alloc (bel_drew (Below.refl w5.heap.size w5)) _) _)).1, (K10.out _ (bel_alloc (bel_alloc (bel_drew (Below.refl w5.heap.size w5)) _) _)).2.1, (K10.out _ (bel_alloc (bel_alloc (bel_drew (Below.refl w5.heap.size w5)) _) _)).2.2.1, (K10.out _ (bel_alloc (bel_alloc (bel_drew (Below.refl w5.heap.size w5)) _) _)).2.2.2.1, (K10.out _ (bel_alloc (bel_alloc (bel_drew (Below.refl w5.heap.size w5)) _) _)).2.2.2.2.1, (K10.out _ (bel_alloc (bel_alloc (bel_drew (Below.refl w5.heap.size w5)) _) _)).2.2.2.2.2.1, (K10.out _ (bel_alloc (bel_alloc (bel_drew (Below.refl w5.heap.size w5)) _) _)).2.2.2.2.2.2.1, (K10.out _ (bel_alloc (bel_alloc (bel_drew (Below.refl w5.heap.size w5)) _) _)).2.2.2.2.2.2.2.1, (K10.out _ (bel_alloc (bel_alloc (bel_drew (Below.refl w5.heap.size w5)) _) _)).2.2.2.2.2.2.2.2.1, (K10.out _ (bel_alloc (bel_alloc (bel_drew (Below.refl w5.heap.size w5)) _) _)).2.2.2.2.2.2.2.2.2.1, (K10.out _ (bel_alloc (bel_alloc (bel_drew (Below.refl w5.heap.size w5)) _) _)).2.2.2.2.2.2.2.2.2.2.1, (K10.out _ (bel_alloc (bel_alloc (bel_drew (Below.refl w5.heap.size w5)) _) _)).2.2.2.2.2.2.2.2.2.2.2.1, (K10.out _ (bel_alloc (bel_alloc (bel_drew (Below.refl w5.heap.size w5)) _) _)).2.2.2.2.2.2.2.2.2.2.2.2⟩ (fun hHeld => ?_)
              clear hK K
              refine norm_ (a' := ?_) ?_ ?_
              rotate_left
              · show Act.put _ (some 13) _ = _; simp only [Act.put, List.setIfInBounds_toArray, List.set_cons_zero, List.set_cons_succ, i64_w, i32_w]; rfl
              exact norm_ (by simp only [putAll, Act.put, List.setIfInBounds_toArray, List.set_cons_zero, List.set_cons_succ]) (hCont (w5.heap.size + 1, w5.heap.size) _ (TwoNew.ba w5 _ _ _))
          rintro ⟨n1, n2⟩ w6 hF6
          have hHeld := K10.out w6 hF6.b
          have ln1 := lt_of_block hF6.h1
          have ln2 := lt_of_block hF6.h2
          refine norm_ (a' := ?_) ?_ ?_
          rotate_left
          · simp only [putAll, Act.put, List.setIfInBounds_toArray, List.set_cons_zero, List.set_cons_succ]
            rfl
          refine one_ (i := 16) (N := none) (bs 18 131071) rfl rfl (by kernel_rfl) (by decide) (fun K hK => ?_)
          refine step_store6 (by rfl) (by rfl) (.tmp 13) (.tmp 75) (by rfl) n1 _ _ _ _ _ _ (sj.ndAt xa).kind (S (sj.ndAt xa).mod) (S (sj.ndAt xa).name) (.slice none 0 0) (sj.ndAt xa).var A1 (sj.ndAt xa).kids.length c1 rfl rfl rfl rfl rfl rfl (by rfl) (by rfl) hF6.h1 ?_
          change K _ (put6 w6 n1 (.int .i64 (sj.ndAt xa).kind) (.string (S (sj.ndAt xa).mod)) (.string (S (sj.ndAt xa).name)) (.slice none 0 0) (.int .i64 (sj.ndAt xa).var) (.slice A1 (sj.ndAt xa).kids.length c1))
          obtain ⟨w7, hw7⟩ : ∃ w7, w7 = put6 w6 n1 (.int .i64 (sj.ndAt xa).kind) (.string (S (sj.ndAt xa).mod)) (.string (S (sj.ndAt xa).name)) (.slice none 0 0) (.int .i64 (sj.ndAt xa).var) (.slice A1 (sj.ndAt xa).kids.length c1) := ⟨_, rfl⟩
          rw [← hw7]
          have B7 := Lib.hid (show Below w5.heap.size w5 w7 by rw [hw7]; exact bel6 hF6.b hF6.l1 _ _ _ _ _ _)
          have blk7a := Lib.hid (show w7.heap[n1]? = some (.cells #[.int .i64 (sj.ndAt xa).kind, .string (S (sj.ndAt xa).mod), .string (S (sj.ndAt xa).name), .slice none 0 0, .int .i64 (sj.ndAt xa).var, .slice A1 (sj.ndAt xa).kids.length c1] 130 (0, 0)) by rw [hw7]; exact put6_blk hF6.h1)
          have blk7b := Lib.hid (show w7.heap[n2]? = some (.cells #[.int .i64 0, .string ⟨#[]⟩, .string ⟨#[]⟩, .slice none 0 0, .int .i64 0, .slice none 0 0] 130 (0, 0)) by rw [hw7]; exact ((put6_gb w6 n1 _ _ _ _ _ _).block n2 ln2 (fun e => hF6.ne (Option.some.inj e).symm)).trans hF6.h2)
          have LN1 := Lib.hid (show n1 < w7.heap.size by have := (put6_gb w6 n1 (.int .i64 (sj.ndAt xa).kind) (.string (S (sj.ndAt xa).mod)) (.string (S (sj.ndAt xa).name)) (.slice none 0 0) (.int .i64 (sj.ndAt xa).var) (.slice A1 (sj.ndAt xa).kids.length c1)).size; rw [hw7]; omega)
          clear hw7
          refine hK.out _ _ ⟨(K10.out w7 B7.out).1, (K10.out w7 B7.out).2.1, (K10.out w7 B7.out).2.2.1, (K10.out w7 B7.out).2.2.2.1, (K10.out w7 B7.out).2.2.2.2.1, (K10.out w7 B7.out).2.2.2.2.2.1, (K10.out w7 B7.out).2.2.2.2.2.2.1, (K10.out w7 B7.out).2.2.2.2.2.2.2.1, (K10.out w7 B7.out).2.2.2.2.2.2.2.2.1, (K10.out w7 B7.out).2.2.2.2.2.2.2.2.2.1, (K10.out w7 B7.out).2.2.2.2.2.2.2.2.2.2.1, (K10.out w7 B7.out).2.2.2.2.2.2.2.2.2.2.2.1, (K10.out w7 B7.out).2.2.2.2.2.2.2.2.2.2.2.2⟩ (fun hHeld => ?_)
          clear hK K
          refine one_ (i := 17) (N := none) (bs 18 262143) rfl rfl (by kernel_rfl) (by decide) (fun K hK => ?_)
          refine step_store6 (by rfl) (by rfl) (.tmp 14) (.tmp 82) (by rfl) n2 _ _ _ _ _ _ (sj.ndAt xb).kind (S (sj.ndAt xb).mod) (S (sj.ndAt xb).name) (.slice none 0 0) (sj.ndAt xb).var A2 (sj.ndAt xb).kids.length c2 rfl rfl rfl rfl rfl rfl (by rfl) (by rfl) blk7b.out ?_
          change K _ (put6 w7 n2 (.int .i64 (sj.ndAt xb).kind) (.string (S (sj.ndAt xb).mod)) (.string (S (sj.ndAt xb).name)) (.slice none 0 0) (.int .i64 (sj.ndAt xb).var) (.slice A2 (sj.ndAt xb).kids.length c2))
          obtain ⟨w8, hw8⟩ : ∃ w8, w8 = put6 w7 n2 (.int .i64 (sj.ndAt xb).kind) (.string (S (sj.ndAt xb).mod)) (.string (S (sj.ndAt xb).name)) (.slice none 0 0) (.int .i64 (sj.ndAt xb).var) (.slice A2 (sj.ndAt xb).kids.length c2) := ⟨_, rfl⟩
          rw [← hw8]
          have B8 := Lib.hid (show Below w5.heap.size w5 w8 by rw [hw8]; exact bel6 B7.out hF6.l2 _ _ _ _ _ _)
          have blk8b := Lib.hid (show w8.heap[n2]? = some (.cells #[.int .i64 (sj.ndAt xb).kind, .string (S (sj.ndAt xb).mod), .string (S (sj.ndAt xb).name), .slice none 0 0, .int .i64 (sj.ndAt xb).var, .slice A2 (sj.ndAt xb).kids.length c2] 130 (0, 0)) by rw [hw8]; exact put6_blk blk7b.out)
          have blk8a := Lib.hid (show w8.heap[n1]? = some (.cells #[.int .i64 (sj.ndAt xa).kind, .string (S (sj.ndAt xa).mod), .string (S (sj.ndAt xa).name), .slice none 0 0, .int .i64 (sj.ndAt xa).var, .slice A1 (sj.ndAt xa).kids.length c1] 130 (0, 0)) by rw [hw8]; exact ((put6_gb w7 n2 _ _ _ _ _ _).block n1 LN1.out (fun e => hF6.ne (Option.some.inj e))).trans blk7a.out)
          clear hw8
          refine hK.out _ _ ⟨(K10.out w8 B8.out).1, (K10.out w8 B8.out).2.1, (K10.out w8 B8.out).2.2.1, (K10.out w8 B8.out).2.2.2.1, (K10.out w8 B8.out).2.2.2.2.1, (K10.out w8 B8.out).2.2.2.2.2.1, (K10.out w8 B8.out).2.2.2.2.2.2.1, (K10.out w8 B8.out).2.2.2.2.2.2.2.1, (K10.out w8 B8.out).2.2.2.2.2.2.2.2.1, (K10.out w8 B8.out).2.2.2.2.2.2.2.2.2.1, (K10.out w8 B8.out).2.2.2.2.2.2.2.2.2.2.1, (K10.out w8 B8.out).2.2.2.2.2.2.2.2.2.2.2.1, (K10.out w8 B8.out).2.2.2.2.2.2.2.2.2.2.2.2⟩ (fun hHeld => ?_)
          clear hK K
          refine done_ (by kernel_rfl) ?_
          obtain ⟨la0, la1, la2, la3, la4, la5, laf⟩ := six_cells blk8a.out
          obtain ⟨lb0, lb1, lb2, lb3, lb4, lb5, lbf⟩ := six_cells blk8b.out
          have ln1 := lt_of_block blk8a.out
          have ln2 := lt_of_block blk8b.out
          have HN12 := Lib.hid (show w5.heap.size ≤ n1 ∧ w5.heap.size ≤ n2 from ⟨hF6.l1, hF6.l2⟩)
          clear hF6 hHeld B7 blk7a blk7b LN1 K10
          have rva : RdV w8 (.agg #[.int .i64 (sj.ndAt xa).kind, .string (S (sj.ndAt xa).mod), .string (S (sj.ndAt xa).name), .slice none 0 0, .int .i64 (sj.ndAt xa).var]) (.mk (sj.ndAt xa).kind (sj.ndAt xa).mod (sj.ndAt xa).name [] (sj.ndAt xa).var) := ⟨⟨HL.out.1, HL.out.2.1⟩, none, 0, rfl, RdL_nil _ _⟩
          have rvb : RdV w8 (.agg #[.int .i64 (sj.ndAt xb).kind, .string (S (sj.ndAt xb).mod), .string (S (sj.ndAt xb).name), .slice none 0 0, .int .i64 (sj.ndAt xb).var]) (.mk (sj.ndAt xb).kind (sj.ndAt xb).mod (sj.ndAt xb).name [] (sj.ndAt xb).var) := ⟨⟨HL.out.2.2.1, HL.out.2.2.2⟩, none, 0, rfl, RdL_nil _ _⟩
          have hsame : sameT (.mk (sj.ndAt xa).kind (sj.ndAt xa).mod (sj.ndAt xa).name [] (sj.ndAt xa).var) (.mk (sj.ndAt xb).kind (sj.ndAt xb).mod (sj.ndAt xb).name [] (sj.ndAt xb).var) = (sj.ndAt xa).headB (sj.ndAt xb) := by simp [sameT, sameL, Nd.headB]
          have HRVA := Lib.hid rva; have HRVB := Lib.hid rvb; have HSAME := Lib.hid hsame
          have hst := HST2.out
          rw [if_neg (show ¬ ((xa : Int) < 0 ∨ (xb : Int) < 0) by omega), Int.toNat_natCast, Int.toNat_natCast] at hst
          have HST3 := Lib.hid hst
          have hclash : clashB (sj.ndAt xa) (sj.ndAt xb) = true → ∀ W, Below w5.heap.size w5 W → MeetPost w base p ok R r (.returned (.bool false)) W := fun hc W hb => by
            have hst := HST3.out
            rw [if_pos hc] at hst
            have := Option.some.inj hst
            subst this
            exact ⟨rfl, R5, HS5.out.bel hb, T5.out.trans (Tn.bel hb _), G5.out⟩
          have HCL := Lib.hid hclash
          clear rva rvb hsame hst hclash
          go_wp2_with fail
          refine (Same_calls _ _ _ _ w8 HRVA.out HRVB.out).mono ?_
          rw [HSAME.out]
          rintro e w9 ⟨rfl, hb9⟩
          have hB9 : Below w5.heap.size w5 w9 := B8.out.trans (hb9.mono B8.out.size)
          have HB9 := Lib.hid hB9
          have cc9 : ∀ q o, q < w8.heap.size → w9.cell? ⟨q, o, none⟩ = w8.cell? ⟨q, o, none⟩ := fun q o hq => hb9.cell (p := ⟨q, o, none⟩) hq
          have y1 := (cc9 n1 5 ln1).trans la5
          have y2 := (cc9 n2 5 ln2).trans lb5
          have hsz9 := hb9.size
          clear cc9 la0 la1 la2 la3 la4 la5 laf lb0 lb1 lb2 lb3 lb4 lb5 lbf hB9 hb9
          cases hh : (sj.ndAt xa).headB (sj.ndAt xb) with
          | false =>
            have HC := Lib.hid (HCL.out (by unfold clashB; rw [hh]; rfl) w9 HB9.out)
            clear hh
            go_wp2
            go_ret
            exact HC.out
          | true =>
            by_cases hlen : (sj.ndAt xa).kids.length = (sj.ndAt xb).kids.length
            · have hcf : clashB (sj.ndAt xa) (sj.ndAt xb) = false := by unfold clashB; rw [hh, hlen]; simp
              have hst := HST3.out
              rw [if_neg (by rw [hcf]; simp)] at hst
              have HST4 := Lib.hid hst
              obtain ⟨KA, hKA⟩ : ∃ KA, KA = (sj.ndAt xa).kids := ⟨_, rfl⟩
              obtain ⟨KB, hKB⟩ : ∃ KB, KB = (sj.ndAt xb).kids := ⟨_, rfl⟩
              obtain ⟨len, hle⟩ : ∃ len, len = KA.length := ⟨_, rfl⟩
              have hle2 : KB.length = len := by rw [hle, hKA, hKB]; exact hlen.symm
              rw [← hKA, ← hle] at y1
              rw [← hKB, hle2] at y2
              have hk1 : RdN (fun b => ok b ∧ ¬ R5.own p b) w5 (.slice A1 (sj.ndAt xa).kids.length c1) (sj.ndAt xa).kids := HK1.out
              have hk2 : RdN (fun b => ok b ∧ ¬ R5.own p b) w5 (.slice A2 (sj.ndAt xb).kids.length c2) (sj.ndAt xb).kids := HK2.out
              rw [← hKA, ← hle] at hk1
              rw [← hKB, hle2] at hk2
              rw [← hKA, ← hKB] at hst
              have HST5 := Lib.hid hst
              have hkla : ∀ z ∈ KA, z < xa := by rw [hKA]; exact HM.out.st.sok.kids xa hxa
              have hklb : ∀ z ∈ KB, z < xb := by rw [hKB]; exact HM.out.st.sok.kids xb hxb
              have hl1000 : len ≤ 1000 := by obtain ⟨_, _, _, _, h3, _⟩ := hk1; omega
              have HKA := Lib.hid hk1; have HKB := Lib.hid hk2; have HLA := Lib.hid hkla; have HLB := Lib.hid hklb; have HLE := Lib.hid (And.intro hle hle2)
              have HXX := Lib.hid (And.intro hKA hKB)
              have gsz : g < w.heap.size + 0 ∨ True := .inr trivial
              have hgl := (row_lt HCUT5.out g rfl)
              have hg9 : g < w9.heap.size := by have := HB9.out.size; omega
              have hgn : g ≠ n1 ∧ g ≠ n2 := by have := HN12.out; have := HCUT5.out.lt g rfl; omega
              have HGN := Lib.hid hgn
              have hn19 : n1 < w9.heap.size := by omega
              have hn29 : n2 < w9.heap.size := by omega
              have hle0 : ((len : Int) != (len : Int)) = false := by simp
              have hmf : m + len ≤ 3000000000000 := by have := HNM.out; have := HMM.out; omega
              clear hst hk1 hk2 hkla hklb hle hle2 hKA hKB hcf hh hlen hgn gsz HK1 HK2
              go_wp2_with fail
              go_loopw [7, 101] (fun v i wi => ∃ t : Nat, t ≤ len ∧ i = .int .i64 t ∧ Hid (wi.ownsRow w.heap.size 127 2 v (m + t) (workCells (wk ++ (KA.zip KB).take t))) ∧ Hid (Tn (fun z => z = g) w9 wi) ∧ Hid (∀ z, v.ownBlock = some z → z = g ∨ w9.heap.size ≤ z)) (fun _ i _ => len - (intOf i).toNat)
              case atStart =>
                refine ⟨0, Nat.zero_le _, rfl, Lib.hid ?_, Lib.hid (Tn.refl _ _), Lib.hid (fun z e => .inl (Option.some.inj e).symm)⟩
                rw [List.take_zero, List.append_nil]
                exact row_turn HCUT5.out (Tn.bel HB9.out (fun _ => False)) (fun z _ => id)
              case round =>
                obtain ⟨t, ht, rfl, HRI, HTI, HOI⟩ := hrel
                have hszi := HTI.out.size
                by_cases hlt : t < len
                · obtain ⟨A1', c1'', he1, -, -, hr1⟩ := HKA.out
                  obtain ⟨A2', c2'', he2, -, -, hr2⟩ := HKB.out
                  have hKAl : KA.length = len := HLE.out.1.symm
                  have hKBl : KB.length = len := HLE.out.2
                  obtain ⟨kb1, ko1, hA1, hok1, hc1⟩ := hr1 (by intro e; rw [e] at hKAl; simp at hKAl; omega)
                  obtain ⟨kb2, ko2, hA2, hok2, hc2⟩ := hr2 (by intro e; rw [e] at hKBl; simp at hKBl; omega)
                  injection he1 with he1 _ _
                  injection he2 with he2 _ _
                  rw [hA1] at he1
                  rw [hA2] at he2
                  subst he1 he2
                  obtain ⟨k1, hk1⟩ : ∃ k1, k1 = KA[t]'(by omega) := ⟨_, rfl⟩
                  obtain ⟨k2, hk2⟩ : ∃ k2, k2 = KB[t]'(by omega) := ⟨_, rfl⟩
                  have f1 := hc1 t k1 (by rw [hk1]; exact List.getElem?_eq_getElem _)
                  have f2 := hc2 t k2 (by rw [hk2]; exact List.getElem?_eq_getElem _)
                  have hkl1 := H.out.okl kb1 hok1.1
                  have hkl2 := H.out.okl kb2 hok2.1
                  have h59 := HB9.out.size
                  have h5w := T5.out.size
                  have K16 := Lib.hid (show ∀ X, Tn (fun z => u7.ownBlock = some z) wr X → X.cell? ⟨n1, 5, none⟩ = some (.slice (some ⟨kb1, ko1, none⟩) len c1) ∧ X.cell? ⟨kb1, ko1 + t, none⟩ = some (.int .i64 (k1 : Int)) ∧ X.cell? ⟨n2, 5, none⟩ = some (.slice (some ⟨kb2, ko2, none⟩) len c2) ∧ X.cell? ⟨kb2, ko2 + t, none⟩ = some (.int .i64 (k2 : Int)) from fun X hT => by
                    have nn : ∀ q, q < w9.heap.size → q ≠ g → ¬ u7.ownBlock = some q := fun q h1 h2 e => (HOI.out q e).elim h2 (fun h => by omega)
                    have go : ∀ q o, q < w9.heap.size → q ≠ g → X.cell? ⟨q, o, none⟩ = w9.cell? ⟨q, o, none⟩ := fun q o h1 h2 => (hT.cell (by omega) (nn q h1 h2) o).trans (HTI.out.cell h1 h2 o)
                    have h9 : ∀ q o, q < w5.heap.size → w9.cell? ⟨q, o, none⟩ = w5.cell? ⟨q, o, none⟩ := fun q o hq => HB9.out.cell (p := ⟨q, o, none⟩) hq
                    exact ⟨(go n1 5 hn19 (Ne.symm HGN.out.1)).trans y1, (go kb1 _ (by omega) (by omega)).trans ((h9 kb1 _ (by omega)).trans f1), (go n2 5 hn29 (Ne.symm HGN.out.2)).trans y2, (go kb2 _ (by omega) (by omega)).trans ((h9 kb2 _ (by omega)).trans f2)⟩)
                  have HQI := Lib.hid (show m + t + 1 ≤ maxLen ∧ (m + t + 1) * 16 ≤ 140737488355328 ∧ w.heap.size ≤ (wr.drew.alloc (.cells #[.int .i64 (k1 : Int), .int .i64 (k2 : Int)] 127)).heap.size from ⟨by unfold maxLen; omega, by omega, by simp [drew_size]; omega⟩)
                  have hzip : (KA.zip KB).take (t + 1) = (KA.zip KB).take t ++ [(k1, k2)] := by
                    rw [List.take_succ_eq_append_getElem (by rw [List.length_zip]; omega), List.getElem_zip, hk1, hk2]
                  have HZ := Lib.hid hzip
                  have t0 : (0 : Int) ≤ (t : Int) := by omega
                  have t1 : (t : Int) < (len : Int) := by omega
                  clear hr1 hr2 hA1 hA2 hok1 hok2 hc1 hc2 hk1 hk2 f1 f2 hzip hKAl hKBl hkl1 hkl2 y1 y2
                  have HRW := Lib.hid HRI.out
                  go_wp2_with fail
                  refine start_ (n := 15) (S := fun w' => w'.cell? ⟨n1, 5, none⟩ = some (.slice (some ⟨kb1, ko1, none⟩) len c1) ∧ w'.cell? ⟨kb1, ko1 + t, none⟩ = some (.int .i64 (k1 : Int)) ∧ w'.cell? ⟨n2, 5, none⟩ = some (.slice (some ⟨kb2, ko2, none⟩) len c2) ∧ w'.cell? ⟨kb2, ko2 + t, none⟩ = some (.int .i64 (k2 : Int))) (ds := []) (bs 15 0) (by kernel_rfl) rfl rfl ⟨(K16.out _ (Tn.bel (bel_drew (Below.refl wr.heap.size wr)) (fun z => u7.ownBlock = some z))).1, (K16.out _ (Tn.bel (bel_drew (Below.refl wr.heap.size wr)) (fun z => u7.ownBlock = some z))).2.1, (K16.out _ (Tn.bel (bel_drew (Below.refl wr.heap.size wr)) (fun z => u7.ownBlock = some z))).2.2.1, (K16.out _ (Tn.bel (bel_drew (Below.refl wr.heap.size wr)) (fun z => u7.ownBlock = some z))).2.2.2⟩ (fun hHeld => ?_)
                  refine pu 0 104 (bs 15 1) ?_
                  refine pu 1 105 (bs 15 3) ?_
                  refine pu 3 107 (bs 15 11) ?_
                  refine pu 6 110 (bs 15 75) ?_
                  refine pu 8 112 (bs 15 331) ?_
                  refine tk 2 106 (bs 15 335) hHeld ?_
                  refine pu 4 108 (bs 15 351) ?_
                  refine tk 5 109 (bs 15 383) hHeld ?_
                  refine tk 7 111 (bs 15 511) hHeld ?_
                  refine pu 9 113 (bs 15 1023) ?_
                  refine tk 10 114 (bs 15 2047) hHeld ?_
                  refine pu 11 115 (bs 15 4095) ?_
                  refine one_ (i := 12) (N := some 116) (bs 15 8191) rfl rfl (by kernel_rfl) (by decide) (fun K hK => ?_)
                  refine value_ (w1 := ?_) (v := ?_) (by rfl) rfl ?_ ?_
                  rotate_left 2
                  · go_simp
                    constructor
                    · rfl
                    · rfl
                  refine hK.out _ _ ⟨(K16.out _ ((Tn.bel (bel_drew (Below.refl wr.heap.size wr)) (fun z => u7.ownBlock = some z)).trans (Tn.alloc _ _ _))).1, (K16.out _ ((Tn.bel (bel_drew (Below.refl wr.heap.size wr)) (fun z => u7.ownBlock = some z)).trans (Tn.alloc _ _ _))).2.1, (K16.out _ ((Tn.bel (bel_drew (Below.refl wr.heap.size wr)) (fun z => u7.ownBlock = some z)).trans (Tn.alloc _ _ _))).2.2.1, (K16.out _ ((Tn.bel (bel_drew (Below.refl wr.heap.size wr)) (fun z => u7.ownBlock = some z)).trans (Tn.alloc _ _ _))).2.2.2⟩ (fun hHeld => ?_)
                  clear hK K
                  refine norm_ (a' := ?_) ?_ ?_
                  rotate_left
                  · show Act.put _ (some 116) _ = _; simp only [Act.put, List.setIfInBounds_toArray, List.set_cons_zero, List.set_cons_succ, i64_w, i32_w]; rfl
                  refine one_ (i := 13) (N := some 117) (bs 15 16383) rfl rfl (by kernel_rfl) (by decide) (fun K hK => ?_)
                  refine step_append_at _ (by rfl) (.tmp 104) (.tmp 116) 128 (by rfl) w.heap.size 127 inf2 _ 2 16 Tryz.underlying128 jnf2 z20 z21 z22 rfl (by decide) u7 (m + t) (workCells (wk ++ (KA.zip KB).take t)) (by rfl) (World.ownsRow.drew (World.ownsRow.alloc HRI.out _)) ⟨wr.heap.size, 0, none⟩ 1 1 [.int .i64 (k1 : Int), .int .i64 (k2 : Int)] (by rfl) rfl (fun j u hj => by rcases j with _ | _ | j <;> simp at hj <;> subst hj <;> simp [Addr.add]) (by intro u hu; simp at hu; rcases hu with rfl | rfl <;> rfl) HQI.out.1 HQI.out.2.1 HQI.out.2.2 ?_
                  intro v9 w10 hown10 hg10 hat10
                  have TI := Lib.hid (((Tn.bel (bel_drew (Below.refl wr.heap.size wr)) (fun z => u7.ownBlock = some z)).trans (Tn.alloc _ _ _)).trans (Tn.gb (O := fun z => u7.ownBlock = some z) hg10 (fun z e => .inl e)))
                  refine hK.out _ _ ⟨(K16.out _ TI.out).1, (K16.out _ TI.out).2.1, (K16.out _ TI.out).2.2.1, (K16.out _ TI.out).2.2.2⟩ (fun hHeld => ?_)
                  clear hK K
                  refine norm_ (a' := ?_) ?_ ?_
                  rotate_left
                  · show Act.put _ (some 117) _ = _; simp only [Act.put, List.setIfInBounds_toArray, List.set_cons_zero, List.set_cons_succ, i64_w, i32_w]; rfl
                  refine pu 14 7 (bs 15 32767) ?_
                  refine done_ (by kernel_rfl) ?_
                  have hg11 : Tn (fun z => z = g) w9 w10 := HTI.out.then TI.out (fun z e => (HOI.out z e).imp id (fun h => h))
                  have hat11 : ∀ z, v9.ownBlock = some z → z = g ∨ w9.heap.size ≤ z := fun z e => by
                    rcases hat10 with e2 | e2
                    · exact HOI.out z (e2 ▸ e)
                    · rw [e2] at e; have := Option.some.inj e; simp [drew_size] at this; exact .inr (by omega)
                  have hown11 : w10.ownsRow w.heap.size 127 2 v9 (m + (t + 1)) (workCells (wk ++ (KA.zip KB).take (t + 1))) := by
                    rw [HZ.out, ← List.append_assoc, workCells_append]
                    exact hown10
                  have HG11 := Lib.hid hg11; have HAT11 := Lib.hid hat11; have HOWN11 := Lib.hid hown11
                  clear hg11 hat11 hown11 hown10 hg10 hat10 TI hHeld K16 HRW
                  go_wp2
                  go_roundw
                  case rel => exact ⟨t + 1, by omega, by go_num, HOWN11, HG11, HAT11⟩
                  case measure => simp [intOf]; omega
                · obtain rfl : len = t := by omega
                  have hR : MeetRel w base p ok R s r u7 wr k := by
                    have hzl : (KA.zip KB).length = len := by rw [List.length_zip]; have := HLE.out; omega
                    have hrow := HRI.out
                    rw [List.take_of_length_le (by omega)] at hrow
                    have hs9 : StoAt w9 base p ok R5 (sj.merge ra rb) := HS5.out.bel HB9.out
                    refine ⟨wk ++ KA.zip KB, sj.merge ra rb, R5, hs9.turn HTI.out (fun z e hz => ?_), ?_, G5.out, ?_, fun z e e2 => ?_, fun y hy => ?_, ?_, HM.out.n, HST5.out⟩
                    · subst e
                      exact ⟨fun h => by have := H.out.okl _ h; have := HCUT5.out.lt _ rfl; omega, GAP5.out⟩
                    · exact (T5.out.trans (Tn.bel HB9.out _)).then HTI.out (fun z e => .inr (by have := HCUT5.out.lt g rfl; omega))
                    · rw [List.length_append, hzl, ← HMM.out]; exact hrow
                    · rcases HOI.out z e with h1 | h1
                      · exact GAP5.out (h1 ▸ e2)
                      · have := (hs9.lt z e2).2; omega
                    · rcases List.mem_append.1 hy with hy | hy
                      · exact HM.out.idx y (by simp [hy])
                      · have h1 := HLA.out y.1 (List.of_mem_zip hy).1
                        have h2 := HLB.out y.2 (List.of_mem_zip hy).2
                        rw [Sto.n_merge]
                        omega
                    · have h1 := HM.out.few
                      have h2 := HRT.out
                      simp only [List.length_append, List.length_cons, List.length_nil, hzl] at h1 ⊢
                      omega
                  have HR := Lib.hid hR; clear hR
                  have lt1 : ¬ ((len : Int) < (len : Int)) := by omega
                  go_wp2
                  go_roundw
                  case rel => exact ⟨k, HR.out⟩
                  case measure => exact HME.out _ _ HR.out
            · have HC := Lib.hid (HCL.out (by unfold clashB; rw [hh]; simp [hlen]) w9 HB9.out)
              have hne : (((sj.ndAt xa).kids.length : Int) != ((sj.ndAt xb).kids.length : Int)) = true := by rw [bne_iff_ne]; omega
              clear hh hlen
              go_wp2
              go_ret
              exact HC.out

end Go.Proofs.YtplnfepdikbpfaaGreatDoor
