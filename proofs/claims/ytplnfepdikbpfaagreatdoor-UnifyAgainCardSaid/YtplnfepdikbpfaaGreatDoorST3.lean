/- The walk of the Store's Add. Conditions: the Store lies in memory; the type is formed, and reads below the Store. -/
import Derived.Test.YtplnfepdikbpfaaGreatDoorPW
import Derived.Test.YtplnfepdikbpfaaGreatDoorST3a
namespace Go.Proofs.YtplnfepdikbpfaaGreatDoor
open Go.RowKit
open Go.Maps (Keyed)
open Go.Proofs.YtplnfepdikbpfaaGreatDoorW.PrintLast
set_option linter.unusedVariables false
set_option linter.unusedSimpArgs false
attribute [local go_sem ↓] Go.wp_at_zero Go.wp_at_succ

theorem infoN : (Tryz.prog.info? 130).map (fun i => (i.zero, i.size, i.bytes)) = some (some (.agg #[.int .i64 0, .string ⟨#[]⟩, .string ⟨#[]⟩, .slice none 0 0, .int .i64 0, .slice none 0 0]), 6, 96) := by kernel_rfl

def AddPost (w : World) (base p : Nat) (ok : Nat → Prop) (R : Rows) (t : Ty) (s : Sto) (e : Ending) (w' : World) : Prop :=
  e = .returned (.int .i64 ((addT t s).1 : Int)) ∧ ∃ R', StoAt w' base p (fun b => ok b ∨ (w.heap.size ≤ b ∧ b < w'.heap.size)) R' (addT t s).2 ∧ Tn (R.own p) w w' ∧ ∀ k, R'.own p k → R.own p k ∨ w.heap.size ≤ k

theorem fresh_of {w : World} {base p : Nat} {R : Rows} (h : RowsAt w base p R) {q : Nat} (hq : w.heap.size ≤ q) : ¬ R.own p q := fun e => by have := (h.lt q e).2; omega

set_option maxRecDepth 100000 in
set_option maxHeartbeats 16000000 in
theorem add_var (w : World) (base p : Nat) (ok : Nat → Prop) (R : Rows) (s : Sto) (h : StoAt w base p ok R s) (m nm : List UInt8) (v : Int) (hm : m.length ≤ 281474976710656) (hnm : nm.length ≤ 281474976710656) (hv0 : 0 ≤ v) (hv1 : v ≤ 1048576) (hof : s.ofAt v = none) (hfew : s.n + 1 ≤ 1000000000) (A0 : Option Addr) (c0 : Nat) :
    Calls Tryz.prog 49 #[.pointer (some ⟨p, 0, none⟩), .agg #[.int .i64 6, .string (S m), .string (S nm), .slice A0 0 c0, .int .i64 v]] w (AddPost w base p ok R (.mk 6 m nm [] v) s) := by
  obtain ⟨c, hlook, -⟩ := h.rows.look h.of v (by omega) (by omega)
  rw [hof] at hlook
  have hrow0 := h.rows.alloc (.cells #[.int .i64 6, .string (S m), .string (S nm), .slice A0 0 c0, .int .i64 v] 24)
  have S2 := Lib.hid (show (w.alloc (.cells #[.int .i64 6, .string (S m), .string (S nm), .slice A0 0 c0, .int .i64 v] 24)).drew.cell? ⟨p, 4, none⟩ = some (.map (some R.m)) ∧ (w.alloc (.cells #[.int .i64 6, .string (S m), .string (S nm), .slice A0 0 c0, .int .i64 v] 24)).drew.cell? ⟨w.heap.size, 4, none⟩ = some (.int .i64 v) ∧ (Instr.lookup 79 (.map (some R.m)) (.int .i64 v) true).run Tryz.prog (w.alloc (.cells #[.int .i64 6, .string (S m), .string (S nm), .slice A0 0 c0, .int .i64 v] 24)).drew = .ok (.tuple #[.int .i64 c, .bool false]) (w.alloc (.cells #[.int .i64 6, .string (S m), .string (S nm), .slice A0 0 c0, .int .i64 v] 24)).drew from
    ⟨hrow0.drew.cells.2.2.2.2.1, by simp, by simpa using hlook _ hrow0.drew⟩)
  have H := Lib.hid h
  have hp := h.rows.plt
  clear h hlook hrow0
  go_enter Tryz.func49, Tryz.ntmps49
  go_wp2_with fail
  refine start_ (n := 12) (S := fun w' => w'.cell? ⟨p, 4, none⟩ = some (.map (some R.m)) ∧ w'.cell? ⟨w.heap.size, 4, none⟩ = some (.int .i64 v) ∧ (Instr.lookup 79 (.map (some R.m)) (.int .i64 v) true).run Tryz.prog w' = .ok (.tuple #[.int .i64 c, .bool false]) w') (ds := []) (bs 12 0) (by kernel_rfl) rfl rfl ⟨S2.out.1, S2.out.2.1, S2.out.2.2⟩ (fun hHeld => ?_)
  refine pu 0 17 (bs 12 1) ?_
  refine pu 1 18 (bs 12 3) ?_
  refine pu 2 19 (bs 12 7) ?_
  refine pu 4 21 (bs 12 23) ?_
  refine tk 3 20 (bs 12 31) hHeld ?_
  refine tk 5 22 (bs 12 63) hHeld ?_
  refine tk 6 23 (bs 12 127) hHeld ?_
  refine pu 7 16 (bs 12 255) ?_
  refine pu 8 24 (bs 12 511) ?_
  refine pu 9 25 (bs 12 1023) ?_
  refine pu 10 5 (bs 12 2047) ?_
  refine pu 11 6 (bs 12 4095) ?_
  refine done_ (by kernel_rfl) ?_
  obtain ⟨w5, hw5⟩ : ∃ w5, w5 = (w.alloc (.cells #[.int .i64 6, .string (S m), .string (S nm), .slice A0 0 c0, .int .i64 v] 24)).drew := ⟨_, rfl⟩
  rw [← hw5]
  have HR5 := Lib.hid (show RowsAt w5 base p R by rw [hw5]; exact (H.out.rows.alloc _).drew)
  have T5 := Lib.hid (show Below w.heap.size w w5 by rw [hw5]; exact bel_drew (bel_alloc (Below.refl _ _) _))
  have q0 : w5.cell? ⟨w.heap.size, 0, none⟩ = some (.int .i64 6) := by rw [hw5]; simp
  have q1 : w5.cell? ⟨w.heap.size, 1, none⟩ = some (.string (S m)) := by rw [hw5]; simp
  have q2 : w5.cell? ⟨w.heap.size, 2, none⟩ = some (.string (S nm)) := by rw [hw5]; simp
  have q3 : w5.cell? ⟨w.heap.size, 3, none⟩ = some (.slice A0 0 c0) := by rw [hw5]; simp
  have q4 : w5.cell? ⟨w.heap.size, 4, none⟩ = some (.int .i64 v) := by rw [hw5]; simp
  have qf : ∀ o, w5.frozen? ⟨w.heap.size, o, none⟩ = false := fun o => by rw [hw5]; simp
  have lq : w.heap.size < w5.heap.size := by rw [hw5]; simp [drew_size]
  obtain ⟨An, cn0, en, -, -⟩ := row_shape H.out.rows.rn
  have p0 : w5.cell? ⟨p, 0, none⟩ = some (.slice An s.n cn0) := by rw [HR5.out.cells.1, en, H.out.n.1]
  have p4 : w5.cell? ⟨p, 4, none⟩ = some (.map (some R.m)) := HR5.out.cells.2.2.2.2.1
  have nqo := Lib.hid (fresh_of H.out.rows (Nat.le_refl w.heap.size))
  clear hw5 en
  have hkey := Maps.keyOf_int_mk (P := Tryz.prog) Tryz.underlying3 (wf_i64 (v := v) (by omega) (by omega))
  have hval := plainElem_int (H := Unit) (P := Tryz.prog) Tryz.underlying3 (wf_i64 (v := (s.n : Int)) (by omega) (by omega))
  have hown5 : w5.drew.ownsMap Tryz.prog 3 (plainElem Tryz.prog 3) R.m R.mm R.D := HR5.out.rm.drew
  have hml : R.mm < maxLen := by have := H.out.mm; unfold maxLen; omega
  have K6 := Lib.hid (show ∀ w6, w5.drew.grownBy w6 (some R.m) → (w6.cell? ⟨w.heap.size, 0, none⟩ = some (.int .i64 6) ∧ w6.cell? ⟨w.heap.size, 1, none⟩ = some (.string (S m)) ∧ w6.cell? ⟨w.heap.size, 2, none⟩ = some (.string (S nm)) ∧ w6.cell? ⟨w.heap.size, 3, none⟩ = some (.slice A0 0 c0) ∧ w6.cell? ⟨w.heap.size, 4, none⟩ = some (.int .i64 v)) ∧ ∀ o, w6.frozen? ⟨w.heap.size, o, none⟩ = false from fun w6 hg => by
    have hb := hg.block w.heap.size lq (fun e => nqo.out (.inr (.inl (Option.some.inj e))))
    have hc : ∀ o, w6.cell? ⟨w.heap.size, o, none⟩ = w5.cell? ⟨w.heap.size, o, none⟩ := fun o => World.cell?_of_block hb
    exact ⟨⟨(hc 0).trans q0, (hc 1).trans q1, (hc 2).trans q2, (hc 3).trans q3, (hc 4).trans q4⟩, fun o => (World.frozen?_of_block hb).trans (qf o)⟩)
  have HKEY := Lib.hid hkey; have HVAL := Lib.hid hval; have HOWN5 := Lib.hid hown5; have HML := Lib.hid hml; have HOF := Lib.hid hof
  clear hkey hval hown5 hml hof
  go_wp2_with fail
  go_loop [7, 31] (fun a i => a = .slice none 0 0 ∧ i = .int .i64 0) (fun _ _ => 0)
  case atStart => exact ⟨rfl, rfl⟩
  case round =>
    obtain ⟨rfl, rfl⟩ := hrel
    go_wp2_with fail
    go_still_tail 7, (by kernel_rfl)
    change wpList _ _ _ _ _ (World.drew _)
    go_wp2_with (at_mapUpdate; refine wpList_mapUpdate_own _ rfl _ _ _ 79 rfl 3 3 intKeys Tryz.underlying79 _ R.m R.mm R.D rfl HOWN5.out HML.out _ _ _ rfl rfl HKEY.out _ [] HVAL.out ?_; intro w6 hown6 hg6; obtain ⟨⟨r0, r1, r2, r3, r4⟩, rf⟩ := K6.out w6 hg6; have HOWN6 := Lib.hid hown6; have HG6 := Lib.hid hg6; clear hown6 hg6 q0 q1 q2 q3 q4 qf p0 p4)
    obtain ⟨w7, hw7⟩ : ∃ w7, w7 = w6.setCell ⟨w.heap.size, 3, none⟩ (.slice none 0 0) := ⟨_, rfl⟩
    rw [← hw7]
    obtain ⟨R1, hR1e⟩ : ∃ R1 : Rows, R1 = { R with mm := R.mm + 1, D := R.D.put (.int .i64 v) (.lit (.int .i64 (s.n : Int))) } := ⟨_, rfl⟩
    have hP := HR5.out.drew.putM _ _ HG6.out HOWN6.out
    rw [← hR1e] at hP
    obtain ⟨hR6, hT6, hO6⟩ := hP
    have NQ1 : ¬ R1.own p w.heap.size := fun e => by
      rcases hO6 _ e with e | e
      · exact nqo.out e
      · have : w5.drew.heap.size = w5.heap.size := rfl
        omega
    have TQ : Tn (fun z => z = w.heap.size) w6 w7 := by rw [hw7]; exact Tn.set _ _ _ _ (.inl rfl)
    have HR1 := Lib.hid (hR6.turn TQ (fun z e e2 => NQ1 (e2 ▸ e)))
    have HNQ := Lib.hid NQ1
    have sz6 : w5.heap.size ≤ w6.heap.size := HG6.out.size
    have LQ := Lib.hid (show w.heap.size < w7.heap.size by have := TQ.size; omega)
    have T7 := Lib.hid (show Tn (fun z => R.own p z ∨ z = w.heap.size) w w7 from ((Tn.bel T5.out _).trans ((Tn.bel (bel_drew (Below.refl _ _)) _).trans (hT6.mono fun z e => .inl (.inl e)))).trans (TQ.mono fun z e => .inl (.inr e)))
    have QC := Lib.hid (show w7.cell? ⟨w.heap.size, 0, none⟩ = some (.int .i64 6) ∧ w7.cell? ⟨w.heap.size, 1, none⟩ = some (.string (S m)) ∧ w7.cell? ⟨w.heap.size, 2, none⟩ = some (.string (S nm)) ∧ w7.cell? ⟨w.heap.size, 3, none⟩ = some (.slice none 0 0) ∧ w7.cell? ⟨w.heap.size, 4, none⟩ = some (.int .i64 v) by
      have ot : ∀ i, i ≠ 3 → w7.cell? ⟨w.heap.size, i, none⟩ = w6.cell? ⟨w.heap.size, i, none⟩ := fun i hi => by rw [hw7]; exact World.cell?_setCell_other _ _ _ _ (by intro e; simp only [Addr.mk.injEq] at e; exact hi e.2.1.symm)
      exact ⟨(ot 0 (by omega)).trans r0, (ot 1 (by omega)).trans r1, (ot 2 (by omega)).trans r2, by rw [hw7]; exact World.cell?_setCell_same _ _ _ r3, (ot 4 (by omega)).trans r4⟩)
    have HE1 := Lib.hid hR1e; have HO6 := Lib.hid hO6; have HT6 := Lib.hid hT6
    obtain ⟨N, hN⟩ : ∃ N, N = s.n := ⟨_, rfl⟩
    rw [← hN]
    have HN := Lib.hid hN
    have hnn := H.out.n
    have HQ1_17 := Lib.hid (show R1.nn + 1 ≤ maxLen by rw [HE1.out]; show R.nn + 1 ≤ _; unfold maxLen; omega)
    have HQ2_17 := Lib.hid (show (R1.nn + 1) * 96 ≤ 140737488355328 by rw [HE1.out]; show (R.nn + 1) * _ ≤ _; omega)
    have HQ1b_17 := Lib.hid (show R1.nu + 1 ≤ maxLen by rw [HE1.out]; show R.nu + 1 ≤ _; unfold maxLen; omega)
    have HQ2b_17 := Lib.hid (show (R1.nu + 1) * 8 ≤ 140737488355328 by rw [HE1.out]; show (R.nu + 1) * _ ≤ _; omega)
    have HQL := Lib.hid (show R1.nl + 1 ≤ maxLen ∧ (R1.nl + 1) * 8 ≤ 140737488355328 ∧ R1.ns + 1 ≤ maxLen ∧ (R1.ns + 1) * 8 ≤ 140737488355328 by rw [HE1.out]; show R.nl + 1 ≤ _ ∧ (R.nl + 1) * _ ≤ _ ∧ R.ns + 1 ≤ _ ∧ (R.ns + 1) * _ ≤ _; unfold maxLen; omega)
    have HFIN := Lib.hid (show ∀ (w15 : World) (R3 : Rows), RowsAt w15 base p R3 → Tn (R1.own p) w7 w15 → (∀ z, R3.own p z → R1.own p z ∨ w7.heap.size ≤ z) →
        R3.cn = R1.cn ++ [.int .i64 6, .string (S m), .string (S nm), .slice none 0 0, .int .i64 v, .slice none 0 0] → R3.nn = R1.nn + 1 → R3.cu = R1.cu ++ [.int .i64 (N : Int)] → R3.nu = R1.nu + 1 → R3.cl = R1.cl ++ [.int .i64 v] → R3.nl = R1.nl + 1 → R3.cs = R1.cs ++ [.int .i64 (-1)] → R3.ns = R1.ns + 1 → R3.ct = R1.ct → R3.nt = R1.nt → R3.mm = R1.mm → R3.D = R1.D →
        AddPost w base p ok R (.mk 6 m nm [] v) s (.returned (.int .i64 (N : Int))) w15 from by
      intro w15 R3 hR3 hT3 hO3 e1 e2 e3 e4 e5 e6 e7 e8 e9 e10 e11 e12
      have ea : addT (.mk 6 m nm [] v) s = _ := addT_var rfl HOF.out
      rw [addL_nil] at ea
      simp only at ea
      have o1 : ∀ z, R1.own p z → R.own p z := fun z e => by rw [HE1.out] at e; exact e
      have hT : Tn (R.own p) w w15 := (T7.out.mono (fun z e => e.elim .inl (fun e => .inr (by omega)))).then hT3 (fun z e => .inl (o1 z e))
      have hO : ∀ z, R3.own p z → R.own p z ∨ w.heap.size ≤ z := fun z e => (hO3 z e).elim (fun e => .inl (o1 z e)) (fun h => .inr (by have := T7.out.size; omega))
      have hnn := H.out.n
      have hs' : StoAt w15 base p (fun b => ok b ∨ (w.heap.size ≤ b ∧ b < w15.heap.size)) R3 ((s.name v s.n).push ⟨6, m, nm, v, []⟩ v (-1)) := by
        refine H.out.pushed (fun b hb => .inl hb) (fun b hb => hb.elim (fun hb => Nat.lt_of_lt_of_le (H.out.okl b hb) hT.size) (fun hb => hb.2)) hR3 hT hO ⟨6, m, nm, v, []⟩ v (-1) none 0 rfl rfl rfl rfl (H.out.sok.name v s.n (Nat.le_refl _) ⟨hv0, hv1⟩ _ _ _ (fun z hz => by cases hz) (.inl rfl)) (by omega) hfew ?_ ?_ hm hnm (RdN.nil _ _) ?_ ?_ ?_ ?_ ?_ ?_
        · rw [e2, e4, e6, e8, HE1.out]; show R.nn + 1 = _ ∧ R.nu + 1 = _ ∧ R.nl + 1 = _ ∧ R.ns + 1 = _; omega
        · rw [e1, HE1.out]; rfl
        · rw [e3, HE1.out, HN.out]
        · rw [e5, HE1.out]
        · rw [e7, HE1.out]
        · rw [e12, HE1.out]; exact H.out.of.name v s.n HOF.out
        · rw [e11, HE1.out]; have := H.out.mm; show R.mm + 1 ≤ _; omega
        · rw [e9, e10, HE1.out]; exact ⟨rfl, rfl⟩
      exact ⟨by rw [ea, HN.out], R3, by rw [ea]; exact hs', hT, hO⟩)
    obtain ⟨i0, ii, hzz⟩ := Option.map_eq_some_iff.1 infoI
    simp only [Prod.mk.injEq] at hzz
    obtain ⟨iz0, iz1, iz2⟩ := hzz
    obtain ⟨n0, ni, hzz⟩ := Option.map_eq_some_iff.1 infoN
    simp only [Prod.mk.injEq] at hzz
    obtain ⟨nz0, nz1, nz2⟩ := hzz
    clear hw7 hR1e hR6 hT6 hO6 NQ1 TQ r0 r1 r2 r3 r4 rf sz6 hN hnn lq
    have KS17 := Lib.hid (show ∀ X, Tn (fun z => R1.vn.ownBlock = some z ∨ R1.vu.ownBlock = some z) w7 X → (X.cell? ⟨p, 0, none⟩ = some R1.vn ∧ X.cell? ⟨p, 1, none⟩ = some R1.vu ∧ X.cell? ⟨w.heap.size, 0, none⟩ = some (.int .i64 6) ∧ X.cell? ⟨w.heap.size, 1, none⟩ = some (.string (S m)) ∧ X.cell? ⟨w.heap.size, 2, none⟩ = some (.string (S nm)) ∧ X.cell? ⟨w.heap.size, 3, none⟩ = some (.slice none 0 0) ∧ X.cell? ⟨w.heap.size, 4, none⟩ = some (.int .i64 v)) ∧ (∀ o, X.frozen? ⟨p, o, none⟩ = false) from fun X hT => by
      have np : ¬ (R1.vn.ownBlock = some p ∨ R1.vu.ownBlock = some p) := fun e => e.elim (fun e => (HR1.out.ap.n p e).1 rfl) (fun e => (HR1.out.ap.u p e).1 rfl)
      have nq : ¬ (R1.vn.ownBlock = some w.heap.size ∨ R1.vu.ownBlock = some w.heap.size) := fun e => HNQ.out (e.elim (fun e => .inr (.inr (.inl e))) (fun e => .inr (.inr (.inr (.inl e)))))
      have hc := HR1.out.cells
      have lp := HR1.out.plt
      refine ⟨⟨(hT.cell lp np 0).trans hc.1, (hT.cell lp np 1).trans hc.2.1, (hT.cell LQ.out nq 0).trans QC.out.1, (hT.cell LQ.out nq 1).trans QC.out.2.1, (hT.cell LQ.out nq 2).trans QC.out.2.2.1, (hT.cell LQ.out nq 3).trans QC.out.2.2.2.1, (hT.cell LQ.out nq 4).trans QC.out.2.2.2.2⟩, fun o => (hT.frozen lp np o).trans (hc.2.2.2.2.2.2 o)⟩)
    have NU17 := Lib.hid (show ∀ z, R1.vn.ownBlock = some z → z < w7.heap.size from fun z e => (HR1.out.rn.lt z e).2)
    have NV17 := Lib.hid (show ∀ z, R1.vu.ownBlock = some z → ¬ R1.vn.ownBlock = some z from fun z e e2 => (HR1.out.ap.n z e2).2.2.1 e)
    have BB17 := Lib.hid (show base ≤ w7.heap.size from by have := HR1.out.plt; have := HR1.out.bp; omega)
    have HRW17 := Lib.hid HR1.out.rn
    go_wp2_with fail
    refine start_ (n := 24) (S := fun w' => w'.cell? ⟨p, 0, none⟩ = some R1.vn ∧ w'.cell? ⟨p, 1, none⟩ = some R1.vu ∧ w'.cell? ⟨w.heap.size, 0, none⟩ = some (.int .i64 6) ∧ w'.cell? ⟨w.heap.size, 1, none⟩ = some (.string (S m)) ∧ w'.cell? ⟨w.heap.size, 2, none⟩ = some (.string (S nm)) ∧ w'.cell? ⟨w.heap.size, 3, none⟩ = some (.slice none 0 0) ∧ w'.cell? ⟨w.heap.size, 4, none⟩ = some (.int .i64 v)) (ds := [20, 23]) (bs 24 0) (by kernel_rfl) rfl rfl ⟨(KS17.out _ (Tn.bel (bel_drew (Below.refl w7.heap.size w7)) _)).1.1, (KS17.out _ (Tn.bel (bel_drew (Below.refl w7.heap.size w7)) _)).1.2.1, (KS17.out _ (Tn.bel (bel_drew (Below.refl w7.heap.size w7)) _)).1.2.2.1, (KS17.out _ (Tn.bel (bel_drew (Below.refl w7.heap.size w7)) _)).1.2.2.2.1, (KS17.out _ (Tn.bel (bel_drew (Below.refl w7.heap.size w7)) _)).1.2.2.2.2.1, (KS17.out _ (Tn.bel (bel_drew (Below.refl w7.heap.size w7)) _)).1.2.2.2.2.2.1, (KS17.out _ (Tn.bel (bel_drew (Below.refl w7.heap.size w7)) _)).1.2.2.2.2.2.2⟩ (fun hHeld => ?_)
    refine pu 0 61 (bs 24 1) ?_
    refine pu 1 62 (bs 24 3) ?_
    refine pu 2 63 (bs 24 7) ?_
    refine pu 3 64 (bs 24 15) ?_
    refine pu 4 65 (bs 24 31) ?_
    refine pu 7 68 (bs 24 159) ?_
    refine pu 11 72 (bs 24 2207) ?_
    refine pu 12 73 (bs 24 6303) ?_
    refine pu 13 74 (bs 24 14495) ?_
    refine pu 15 76 (bs 24 47263) ?_
    refine tk 5 66 (bs 24 47295) hHeld ?_
    refine tk 6 67 (bs 24 47359) hHeld ?_
    refine pu 8 69 (bs 24 47615) ?_
    refine tk 14 75 (bs 24 63999) hHeld ?_
    refine join_ (σ := Value × Nat × Nat) 7 (bs 24 131071) (fun s => [(70, Value.slice (some ⟨s.2.1, 0, none⟩) 1 1), (71, s.1), (77, Value.slice (some ⟨s.2.2, 0, none⟩) 1 1)]) (fun s w' => FA w7 base 130 6 R1.vn (R1.nn + 1) (R1.cn ++ [.int .i64 6, .string (S m), .string (S nm), .slice none 0 0, .int .i64 v, .slice none 0 0]) (.int .i64 (N : Int)) s w') ?_ ?_
    rotate_left
    · intro hCont
      refine two_ (i := 9) (j := 16) (Ni := some 70) (Nj := some 77) (bs 24 64511) (bs 24 129535) rfl rfl rfl rfl (by kernel_rfl) (by decide) (by decide) (fun K hK => ?_) (fun K hK => ?_)
      · skip
        refine value_ (w1 := ?_) (v := ?_) (by rfl) rfl ?_ ?_
        rotate_left 2
        · go_simp
          constructor
          · rfl
          · rfl
        refine hK.out _ _ ⟨(KS17.out _ ((Tn.bel (bel_drew (Below.refl w7.heap.size w7)) _).trans (Tn.alloc _ _ _))).1.1, (KS17.out _ ((Tn.bel (bel_drew (Below.refl w7.heap.size w7)) _).trans (Tn.alloc _ _ _))).1.2.1, (KS17.out _ ((Tn.bel (bel_drew (Below.refl w7.heap.size w7)) _).trans (Tn.alloc _ _ _))).1.2.2.1, (KS17.out _ ((Tn.bel (bel_drew (Below.refl w7.heap.size w7)) _).trans (Tn.alloc _ _ _))).1.2.2.2.1, (KS17.out _ ((Tn.bel (bel_drew (Below.refl w7.heap.size w7)) _).trans (Tn.alloc _ _ _))).1.2.2.2.2.1, (KS17.out _ ((Tn.bel (bel_drew (Below.refl w7.heap.size w7)) _).trans (Tn.alloc _ _ _))).1.2.2.2.2.2.1, (KS17.out _ ((Tn.bel (bel_drew (Below.refl w7.heap.size w7)) _).trans (Tn.alloc _ _ _))).1.2.2.2.2.2.2⟩ (fun hHeld => ?_)
        clear hK K
        refine norm_ (a' := ?_) ?_ ?_
        rotate_left
        · show Act.put _ (some 70) _ = _; simp only [Act.put, List.setIfInBounds_toArray, List.set_cons_zero, List.set_cons_succ, i64_w, i32_w]; rfl
        refine two_ (i := 10) (j := 16) (Ni := some 71) (Nj := some 77) (bs 24 65535) (bs 24 130047) rfl rfl rfl rfl (by kernel_rfl) (by decide) (by decide) (fun K hK => ?_) (fun K hK => ?_)
        · skip
          refine step_append_at _ (by rfl) (.tmp 66) (.tmp 70) 123 (by rfl) base 130 n0 _ 6 96 Tryz.underlying123 ni nz0 nz1 nz2 rfl (by decide) R1.vn R1.nn R1.cn (by rfl) (World.ownsRow.alloc HRW17.out _) ⟨w7.heap.size, 0, none⟩ 1 1 [.int .i64 6, .string (S m), .string (S nm), .slice none 0 0, .int .i64 v, .slice none 0 0] (by rfl) rfl (fun j u hj => by rcases j with _ | _ | _ | _ | _ | _ | j <;> simp at hj <;> subst hj <;> simp [Addr.add]) (by intro u hu; simp at hu; rcases hu with rfl | rfl | rfl | rfl | rfl | rfl <;> rfl) HQ1_17.out HQ2_17.out (Nat.le_trans BB17.out (show Tn (fun _ => False) w7 _ from ((Tn.bel (bel_drew (Below.refl w7.heap.size w7)) _).trans (Tn.alloc _ _ _))).size) ?_
          intro v8 w8 hown8 hg8 hat8
          have TX17 := Lib.hid ((((Tn.bel (bel_drew (Below.refl w7.heap.size w7)) _).trans (Tn.alloc _ _ _))).trans (Tn.gb (O := fun z => R1.vn.ownBlock = some z ∨ R1.vu.ownBlock = some z) hg8 (fun z e => .inl (.inl e))))
          refine hK.out _ _ ⟨(KS17.out _ TX17.out).1.1, (KS17.out _ TX17.out).1.2.1, (KS17.out _ TX17.out).1.2.2.1, (KS17.out _ TX17.out).1.2.2.2.1, (KS17.out _ TX17.out).1.2.2.2.2.1, (KS17.out _ TX17.out).1.2.2.2.2.2.1, (KS17.out _ TX17.out).1.2.2.2.2.2.2⟩ (fun hHeld => ?_)
          clear hK K
          refine norm_ (a' := ?_) ?_ ?_
          rotate_left
          · show Act.put _ (some 71) _ = _; simp only [Act.put, List.setIfInBounds_toArray, List.set_cons_zero, List.set_cons_succ, i64_w, i32_w]; rfl
          refine one_ (i := 16) (N := some 77) (bs 24 131071) rfl rfl (by kernel_rfl) (by decide) (fun K hK => ?_)
          refine value_ (w1 := ?_) (v := ?_) (by rfl) rfl ?_ ?_
          rotate_left 2
          · go_simp
            constructor
            · rfl
            · rfl
          refine hK.out _ _ ⟨(KS17.out _ ((TX17.out).trans (Tn.alloc _ _ _))).1.1, (KS17.out _ ((TX17.out).trans (Tn.alloc _ _ _))).1.2.1, (KS17.out _ ((TX17.out).trans (Tn.alloc _ _ _))).1.2.2.1, (KS17.out _ ((TX17.out).trans (Tn.alloc _ _ _))).1.2.2.2.1, (KS17.out _ ((TX17.out).trans (Tn.alloc _ _ _))).1.2.2.2.2.1, (KS17.out _ ((TX17.out).trans (Tn.alloc _ _ _))).1.2.2.2.2.2.1, (KS17.out _ ((TX17.out).trans (Tn.alloc _ _ _))).1.2.2.2.2.2.2⟩ (fun hHeld => ?_)
          clear hK K
          refine norm_ (a' := ?_) ?_ ?_
          rotate_left
          · show Act.put _ (some 77) _ = _; simp only [Act.put, List.setIfInBounds_toArray, List.set_cons_zero, List.set_cons_succ, i64_w, i32_w]; rfl
          exact norm_ (by simp only [putAll, Act.put, List.setIfInBounds_toArray, List.set_cons_zero, List.set_cons_succ]) (hCont (v8, w7.heap.size, w8.heap.size) _ (FA.one NU17.out hown8 hg8 hat8 _))
        · skip
          refine value_ (w1 := ?_) (v := ?_) (by rfl) rfl ?_ ?_
          rotate_left 2
          · go_simp
            constructor
            · rfl
            · rfl
          refine hK.out _ _ ⟨(KS17.out _ (((Tn.bel (bel_drew (Below.refl w7.heap.size w7)) _).trans (Tn.alloc _ _ _)).trans (Tn.alloc _ _ _))).1.1, (KS17.out _ (((Tn.bel (bel_drew (Below.refl w7.heap.size w7)) _).trans (Tn.alloc _ _ _)).trans (Tn.alloc _ _ _))).1.2.1, (KS17.out _ (((Tn.bel (bel_drew (Below.refl w7.heap.size w7)) _).trans (Tn.alloc _ _ _)).trans (Tn.alloc _ _ _))).1.2.2.1, (KS17.out _ (((Tn.bel (bel_drew (Below.refl w7.heap.size w7)) _).trans (Tn.alloc _ _ _)).trans (Tn.alloc _ _ _))).1.2.2.2.1, (KS17.out _ (((Tn.bel (bel_drew (Below.refl w7.heap.size w7)) _).trans (Tn.alloc _ _ _)).trans (Tn.alloc _ _ _))).1.2.2.2.2.1, (KS17.out _ (((Tn.bel (bel_drew (Below.refl w7.heap.size w7)) _).trans (Tn.alloc _ _ _)).trans (Tn.alloc _ _ _))).1.2.2.2.2.2.1, (KS17.out _ (((Tn.bel (bel_drew (Below.refl w7.heap.size w7)) _).trans (Tn.alloc _ _ _)).trans (Tn.alloc _ _ _))).1.2.2.2.2.2.2⟩ (fun hHeld => ?_)
          clear hK K
          refine norm_ (a' := ?_) ?_ ?_
          rotate_left
          · show Act.put _ (some 77) _ = _; simp only [Act.put, List.setIfInBounds_toArray, List.set_cons_zero, List.set_cons_succ, i64_w, i32_w]; rfl
          refine one_ (i := 10) (N := some 71) (bs 24 131071) rfl rfl (by kernel_rfl) (by decide) (fun K hK => ?_)
          refine step_append_at _ (by rfl) (.tmp 66) (.tmp 70) 123 (by rfl) base 130 n0 _ 6 96 Tryz.underlying123 ni nz0 nz1 nz2 rfl (by decide) R1.vn R1.nn R1.cn (by rfl) (World.ownsRow.alloc (World.ownsRow.alloc HRW17.out _) _) ⟨w7.heap.size, 0, none⟩ 1 1 [.int .i64 6, .string (S m), .string (S nm), .slice none 0 0, .int .i64 v, .slice none 0 0] (by rfl) rfl (fun j u hj => by rcases j with _ | _ | _ | _ | _ | _ | j <;> simp at hj <;> subst hj <;> simp [Addr.add]) (by intro u hu; simp at hu; rcases hu with rfl | rfl | rfl | rfl | rfl | rfl <;> rfl) HQ1_17.out HQ2_17.out (Nat.le_trans BB17.out (show Tn (fun _ => False) w7 _ from (((Tn.bel (bel_drew (Below.refl w7.heap.size w7)) _).trans (Tn.alloc _ _ _)).trans (Tn.alloc _ _ _))).size) ?_
          intro v8 w8 hown8 hg8 hat8
          have TX17 := Lib.hid (((((Tn.bel (bel_drew (Below.refl w7.heap.size w7)) _).trans (Tn.alloc _ _ _)).trans (Tn.alloc _ _ _))).trans (Tn.gb (O := fun z => R1.vn.ownBlock = some z ∨ R1.vu.ownBlock = some z) hg8 (fun z e => .inl (.inl e))))
          refine hK.out _ _ ⟨(KS17.out _ TX17.out).1.1, (KS17.out _ TX17.out).1.2.1, (KS17.out _ TX17.out).1.2.2.1, (KS17.out _ TX17.out).1.2.2.2.1, (KS17.out _ TX17.out).1.2.2.2.2.1, (KS17.out _ TX17.out).1.2.2.2.2.2.1, (KS17.out _ TX17.out).1.2.2.2.2.2.2⟩ (fun hHeld => ?_)
          clear hK K
          refine norm_ (a' := ?_) ?_ ?_
          rotate_left
          · show Act.put _ (some 71) _ = _; simp only [Act.put, List.setIfInBounds_toArray, List.set_cons_zero, List.set_cons_succ, i64_w, i32_w]; rfl
          exact norm_ (by simp only [putAll, Act.put, List.setIfInBounds_toArray, List.set_cons_zero, List.set_cons_succ]) (hCont (v8, w7.heap.size, w7.heap.size + 1) _ (FA.two NU17.out hown8 hg8 hat8 _))
      · skip
        refine value_ (w1 := ?_) (v := ?_) (by rfl) rfl ?_ ?_
        rotate_left 2
        · go_simp
          constructor
          · rfl
          · rfl
        refine hK.out _ _ ⟨(KS17.out _ ((Tn.bel (bel_drew (Below.refl w7.heap.size w7)) _).trans (Tn.alloc _ _ _))).1.1, (KS17.out _ ((Tn.bel (bel_drew (Below.refl w7.heap.size w7)) _).trans (Tn.alloc _ _ _))).1.2.1, (KS17.out _ ((Tn.bel (bel_drew (Below.refl w7.heap.size w7)) _).trans (Tn.alloc _ _ _))).1.2.2.1, (KS17.out _ ((Tn.bel (bel_drew (Below.refl w7.heap.size w7)) _).trans (Tn.alloc _ _ _))).1.2.2.2.1, (KS17.out _ ((Tn.bel (bel_drew (Below.refl w7.heap.size w7)) _).trans (Tn.alloc _ _ _))).1.2.2.2.2.1, (KS17.out _ ((Tn.bel (bel_drew (Below.refl w7.heap.size w7)) _).trans (Tn.alloc _ _ _))).1.2.2.2.2.2.1, (KS17.out _ ((Tn.bel (bel_drew (Below.refl w7.heap.size w7)) _).trans (Tn.alloc _ _ _))).1.2.2.2.2.2.2⟩ (fun hHeld => ?_)
        clear hK K
        refine norm_ (a' := ?_) ?_ ?_
        rotate_left
        · show Act.put _ (some 77) _ = _; simp only [Act.put, List.setIfInBounds_toArray, List.set_cons_zero, List.set_cons_succ, i64_w, i32_w]; rfl
        refine one_ (i := 9) (N := some 70) (bs 24 130047) rfl rfl (by kernel_rfl) (by decide) (fun K hK => ?_)
        refine value_ (w1 := ?_) (v := ?_) (by rfl) rfl ?_ ?_
        rotate_left 2
        · go_simp
          constructor
          · rfl
          · rfl
        refine hK.out _ _ ⟨(KS17.out _ (((Tn.bel (bel_drew (Below.refl w7.heap.size w7)) _).trans (Tn.alloc _ _ _)).trans (Tn.alloc _ _ _))).1.1, (KS17.out _ (((Tn.bel (bel_drew (Below.refl w7.heap.size w7)) _).trans (Tn.alloc _ _ _)).trans (Tn.alloc _ _ _))).1.2.1, (KS17.out _ (((Tn.bel (bel_drew (Below.refl w7.heap.size w7)) _).trans (Tn.alloc _ _ _)).trans (Tn.alloc _ _ _))).1.2.2.1, (KS17.out _ (((Tn.bel (bel_drew (Below.refl w7.heap.size w7)) _).trans (Tn.alloc _ _ _)).trans (Tn.alloc _ _ _))).1.2.2.2.1, (KS17.out _ (((Tn.bel (bel_drew (Below.refl w7.heap.size w7)) _).trans (Tn.alloc _ _ _)).trans (Tn.alloc _ _ _))).1.2.2.2.2.1, (KS17.out _ (((Tn.bel (bel_drew (Below.refl w7.heap.size w7)) _).trans (Tn.alloc _ _ _)).trans (Tn.alloc _ _ _))).1.2.2.2.2.2.1, (KS17.out _ (((Tn.bel (bel_drew (Below.refl w7.heap.size w7)) _).trans (Tn.alloc _ _ _)).trans (Tn.alloc _ _ _))).1.2.2.2.2.2.2⟩ (fun hHeld => ?_)
        clear hK K
        refine norm_ (a' := ?_) ?_ ?_
        rotate_left
        · show Act.put _ (some 70) _ = _; simp only [Act.put, List.setIfInBounds_toArray, List.set_cons_zero, List.set_cons_succ, i64_w, i32_w]; rfl
        refine one_ (i := 10) (N := some 71) (bs 24 131071) rfl rfl (by kernel_rfl) (by decide) (fun K hK => ?_)
        refine step_append_at _ (by rfl) (.tmp 66) (.tmp 70) 123 (by rfl) base 130 n0 _ 6 96 Tryz.underlying123 ni nz0 nz1 nz2 rfl (by decide) R1.vn R1.nn R1.cn (by rfl) (World.ownsRow.alloc (World.ownsRow.alloc HRW17.out _) _) ⟨(w7.heap.size + 1), 0, none⟩ 1 1 [.int .i64 6, .string (S m), .string (S nm), .slice none 0 0, .int .i64 v, .slice none 0 0] (by rfl) rfl (fun j u hj => by rcases j with _ | _ | _ | _ | _ | _ | j <;> simp at hj <;> subst hj <;> simp [Addr.add]) (by intro u hu; simp at hu; rcases hu with rfl | rfl | rfl | rfl | rfl | rfl <;> rfl) HQ1_17.out HQ2_17.out (Nat.le_trans BB17.out (show Tn (fun _ => False) w7 _ from (((Tn.bel (bel_drew (Below.refl w7.heap.size w7)) _).trans (Tn.alloc _ _ _)).trans (Tn.alloc _ _ _))).size) ?_
        intro v8 w8 hown8 hg8 hat8
        have TX17 := Lib.hid (((((Tn.bel (bel_drew (Below.refl w7.heap.size w7)) _).trans (Tn.alloc _ _ _)).trans (Tn.alloc _ _ _))).trans (Tn.gb (O := fun z => R1.vn.ownBlock = some z ∨ R1.vu.ownBlock = some z) hg8 (fun z e => .inl (.inl e))))
        refine hK.out _ _ ⟨(KS17.out _ TX17.out).1.1, (KS17.out _ TX17.out).1.2.1, (KS17.out _ TX17.out).1.2.2.1, (KS17.out _ TX17.out).1.2.2.2.1, (KS17.out _ TX17.out).1.2.2.2.2.1, (KS17.out _ TX17.out).1.2.2.2.2.2.1, (KS17.out _ TX17.out).1.2.2.2.2.2.2⟩ (fun hHeld => ?_)
        clear hK K
        refine norm_ (a' := ?_) ?_ ?_
        rotate_left
        · show Act.put _ (some 71) _ = _; simp only [Act.put, List.setIfInBounds_toArray, List.set_cons_zero, List.set_cons_succ, i64_w, i32_w]; rfl
        exact norm_ (by simp only [putAll, Act.put, List.setIfInBounds_toArray, List.set_cons_zero, List.set_cons_succ]) (hCont (v8, w7.heap.size + 1, w7.heap.size) _ (FA.three NU17.out hown8 hg8 hat8 _))
    rintro ⟨v8, mA, mB⟩ w9 hF9
    obtain ⟨A8, c8, hv8, -, -⟩ := row_shape hF9.own
    have hv8 : v8 = .slice A8 (R1.nn + 1) c8 := hv8
    subst hv8
    have hHeld := (KS17.out w9 (hF9.tn.mono (fun z e => .inl (.inl e)))).1
    refine norm_ (a' := ?_) ?_ ?_
    rotate_left
    · simp only [putAll, Act.put, List.setIfInBounds_toArray, List.set_cons_zero, List.set_cons_succ]
      rfl
    refine one_ (i := 17) (N := some 78) (bs 24 262143) rfl rfl (by kernel_rfl) (by decide) (fun K hK => ?_)
    refine step_append_at w9 (by rfl) (.tmp 75) (.tmp 77) 62 (by rfl) base 3 i0 _ 1 8 Tryz.underlying62 ii iz0 iz1 iz2 rfl (by decide) R1.vu R1.nu R1.cu (by rfl) (row_turn HR1.out.ru hF9.tn NV17.out) ⟨mB, 0, none⟩ 1 1 [.int .i64 (N : Int)] (by rfl) rfl (news_one hF9.blk) (by intro u hu; simp at hu; subst hu; rfl) HQ1b_17.out HQ2b_17.out (Nat.le_trans BB17.out hF9.tn.size) ?_
    intro v10 w10 hown10 hg10 hat10
    obtain ⟨A10, c10, hv10, -, -⟩ := row_shape hown10
    subst hv10
    have T10 := Lib.hid ((hF9.tn.mono (fun z e => .inl (.inl e))).trans (Tn.gb (O := fun z => R1.vn.ownBlock = some z ∨ R1.vu.ownBlock = some z) hg10 (fun z e => .inl (.inr e))))
    have c0w := (KS17.out w10 T10.out).1.1
    have c1w := (KS17.out w10 T10.out).1.2.1
    have f0w := (KS17.out w10 T10.out).2 0
    have f1w := (KS17.out w10 T10.out).2 1
    refine hK.out _ _ ⟨(KS17.out _ T10.out).1.1, (KS17.out _ T10.out).1.2.1, (KS17.out _ T10.out).1.2.2.1, (KS17.out _ T10.out).1.2.2.2.1, (KS17.out _ T10.out).1.2.2.2.2.1, (KS17.out _ T10.out).1.2.2.2.2.2.1, (KS17.out _ T10.out).1.2.2.2.2.2.2⟩ (fun hHeld => ?_)
    clear hK K
    refine norm_ (a' := ?_) ?_ ?_
    rotate_left
    · show Act.put _ (some 78) _ = _; simp only [Act.put, List.setIfInBounds_toArray, List.set_cons_zero, List.set_cons_succ, i64_w, i32_w]; rfl
    refine pu 18 79 (bs 24 524287) ?_
    refine pu 19 80 (bs 24 1048575) ?_
    refine last_ (i := 20) (N := none) (bs 24 2097151) rfl rfl (by kernel_rfl) (by decide) (fun K hK => ?_)
    refine skip_ (w1 := ?_) (by rfl) rfl ?_ ?_
    rotate_left
    · go_simp
      rfl
    refine hK.out _ _ ?_
    clear hK K
    refine pu 21 81 (bs 24 4194303) ?_
    refine pu 22 82 (bs 24 8388607) ?_
    refine last_ (i := 23) (N := none) (bs 24 16777215) rfl rfl (by kernel_rfl) (by decide) (fun K hK => ?_)
    refine skip_ (w1 := ?_) (by rfl) rfl ?_ ?_
    rotate_left
    · go_simp
      rfl
    refine hK.out _ _ ?_
    clear hK K
    refine done_ (by kernel_rfl) ?_
    obtain ⟨w11, hw11⟩ : ∃ w11, w11 = (w10.setCell ⟨p, 0, none⟩ (.slice A8 (R1.nn + 1) c8)).setCell ⟨p, 1, none⟩ (.slice A10 (R1.nu + 1) c10) := ⟨_, rfl⟩
    have hP := HR1.out.pairNU hF9 hown10 hg10 hat10
    rw [← hw11] at hP ⊢
    obtain ⟨hR2, hT2, hO2⟩ := hP
    obtain ⟨R2, hR2e⟩ : ∃ R2 : Rows, R2 = { R1 with vn := .slice A8 (R1.nn + 1) c8, nn := R1.nn + 1, cn := R1.cn ++ [.int .i64 6, .string (S m), .string (S nm), .slice none 0 0, .int .i64 v, .slice none 0 0], vu := .slice A10 (R1.nu + 1) c10, nu := R1.nu + 1, cu := R1.cu ++ [.int .i64 (N : Int)] } := ⟨_, rfl⟩
    rw [← hR2e] at hR2 hO2
    have HR2 := Lib.hid hR2; have HT2 := Lib.hid hT2; have HO2 := Lib.hid hO2; have HE2 := Lib.hid hR2e
    have HQ1_18 := Lib.hid (show R2.nl + 1 ≤ maxLen by rw [HE2.out]; exact HQL.out.1)
    have HQ2_18 := Lib.hid (show (R2.nl + 1) * 8 ≤ 140737488355328 by rw [HE2.out]; exact HQL.out.2.1)
    have HQ1b_18 := Lib.hid (show R2.ns + 1 ≤ maxLen by rw [HE2.out]; exact HQL.out.2.2.1)
    have HQ2b_18 := Lib.hid (show (R2.ns + 1) * 8 ≤ 140737488355328 by rw [HE2.out]; exact HQL.out.2.2.2)
    clear hw11 hR2 hT2 hO2 hR2e hF9 hown10 hg10 hat10 hHeld T10 c0w c1w f0w f1w KS17 HRW17 NU17 NV17 BB17
    have KS18 := Lib.hid (show ∀ X, Tn (fun z => R2.vl.ownBlock = some z ∨ R2.vs.ownBlock = some z) w11 X → (X.cell? ⟨p, 2, none⟩ = some R2.vl ∧ X.cell? ⟨p, 3, none⟩ = some R2.vs) ∧ (∀ o, X.frozen? ⟨p, o, none⟩ = false) from fun X hT => by
      have np : ¬ (R2.vl.ownBlock = some p ∨ R2.vs.ownBlock = some p) := fun e => e.elim (fun e => (HR2.out.ap.l p e).1 rfl) (fun e => (HR2.out.ap.s p e).1 rfl)
      have hc := HR2.out.cells
      have lp := HR2.out.plt
      refine ⟨⟨(hT.cell lp np 2).trans hc.2.2.1, (hT.cell lp np 3).trans hc.2.2.2.1⟩, fun o => (hT.frozen lp np o).trans (hc.2.2.2.2.2.2 o)⟩)
    have NU18 := Lib.hid (show ∀ z, R2.vl.ownBlock = some z → z < w11.heap.size from fun z e => (HR2.out.rl.lt z e).2)
    have NV18 := Lib.hid (show ∀ z, R2.vs.ownBlock = some z → ¬ R2.vl.ownBlock = some z from fun z e e2 => (HR2.out.ap.l z e2).2.2.1 e)
    have BB18 := Lib.hid (show base ≤ w11.heap.size from by have := HR2.out.plt; have := HR2.out.bp; omega)
    have HRW18 := Lib.hid HR2.out.rl
    go_wp2_with fail
    refine start_ (n := 22) (S := fun w' => w'.cell? ⟨p, 2, none⟩ = some R2.vl ∧ w'.cell? ⟨p, 3, none⟩ = some R2.vs) (ds := [18, 21]) (bs 22 0) (by kernel_rfl) rfl rfl ⟨(KS18.out _ (Tn.bel (bel_drew (Below.refl w11.heap.size w11)) _)).1.1, (KS18.out _ (Tn.bel (bel_drew (Below.refl w11.heap.size w11)) _)).1.2⟩ (fun hHeld => ?_)
    refine pu 0 83 (bs 22 1) ?_
    refine pu 1 84 (bs 22 3) ?_
    refine pu 2 85 (bs 22 7) ?_
    refine pu 3 86 (bs 22 15) ?_
    refine pu 4 87 (bs 22 31) ?_
    refine pu 6 89 (bs 22 95) ?_
    refine pu 9 92 (bs 22 607) ?_
    refine pu 10 93 (bs 22 1631) ?_
    refine pu 11 94 (bs 22 3679) ?_
    refine pu 13 96 (bs 22 11871) ?_
    refine tk 5 88 (bs 22 11903) hHeld ?_
    refine tk 12 95 (bs 22 15999) hHeld ?_
    refine join_ (σ := Value × Nat × Nat) 7 (bs 22 32767) (fun s => [(90, Value.slice (some ⟨s.2.1, 0, none⟩) 1 1), (91, s.1), (97, Value.slice (some ⟨s.2.2, 0, none⟩) 1 1)]) (fun s w' => FA w11 base 3 1 R2.vl (R2.nl + 1) (R2.cl ++ [.int .i64 v]) (.int .i64 (-1)) s w') ?_ ?_
    rotate_left
    · intro hCont
      refine two_ (i := 7) (j := 14) (Ni := some 90) (Nj := some 97) (bs 22 16127) (bs 22 32383) rfl rfl rfl rfl (by kernel_rfl) (by decide) (by decide) (fun K hK => ?_) (fun K hK => ?_)
      · skip
        refine value_ (w1 := ?_) (v := ?_) (by rfl) rfl ?_ ?_
        rotate_left 2
        · go_simp
          constructor
          · rfl
          · rfl
        refine hK.out _ _ ⟨(KS18.out _ ((Tn.bel (bel_drew (Below.refl w11.heap.size w11)) _).trans (Tn.alloc _ _ _))).1.1, (KS18.out _ ((Tn.bel (bel_drew (Below.refl w11.heap.size w11)) _).trans (Tn.alloc _ _ _))).1.2⟩ (fun hHeld => ?_)
        clear hK K
        refine norm_ (a' := ?_) ?_ ?_
        rotate_left
        · show Act.put _ (some 90) _ = _; simp only [Act.put, List.setIfInBounds_toArray, List.set_cons_zero, List.set_cons_succ, i64_w, i32_w]; rfl
        refine two_ (i := 8) (j := 14) (Ni := some 91) (Nj := some 97) (bs 22 16383) (bs 22 32511) rfl rfl rfl rfl (by kernel_rfl) (by decide) (by decide) (fun K hK => ?_) (fun K hK => ?_)
        · skip
          refine step_append_at _ (by rfl) (.tmp 88) (.tmp 90) 62 (by rfl) base 3 i0 _ 1 8 Tryz.underlying62 ii iz0 iz1 iz2 rfl (by decide) R2.vl R2.nl R2.cl (by rfl) (World.ownsRow.alloc HRW18.out _) ⟨w11.heap.size, 0, none⟩ 1 1 [.int .i64 v] (by rfl) rfl (fun j u hj => by rcases j with _ | j <;> simp at hj <;> subst hj <;> simp [Addr.add]) (by intro u hu; simp at hu; rcases hu with rfl <;> rfl) HQ1_18.out HQ2_18.out (Nat.le_trans BB18.out (show Tn (fun _ => False) w11 _ from ((Tn.bel (bel_drew (Below.refl w11.heap.size w11)) _).trans (Tn.alloc _ _ _))).size) ?_
          intro v12 w12 hown8 hg8 hat8
          have TX18 := Lib.hid ((((Tn.bel (bel_drew (Below.refl w11.heap.size w11)) _).trans (Tn.alloc _ _ _))).trans (Tn.gb (O := fun z => R2.vl.ownBlock = some z ∨ R2.vs.ownBlock = some z) hg8 (fun z e => .inl (.inl e))))
          refine hK.out _ _ ⟨(KS18.out _ TX18.out).1.1, (KS18.out _ TX18.out).1.2⟩ (fun hHeld => ?_)
          clear hK K
          refine norm_ (a' := ?_) ?_ ?_
          rotate_left
          · show Act.put _ (some 91) _ = _; simp only [Act.put, List.setIfInBounds_toArray, List.set_cons_zero, List.set_cons_succ, i64_w, i32_w]; rfl
          refine one_ (i := 14) (N := some 97) (bs 22 32767) rfl rfl (by kernel_rfl) (by decide) (fun K hK => ?_)
          refine value_ (w1 := ?_) (v := ?_) (by rfl) rfl ?_ ?_
          rotate_left 2
          · go_simp
            constructor
            · rfl
            · rfl
          refine hK.out _ _ ⟨(KS18.out _ ((TX18.out).trans (Tn.alloc _ _ _))).1.1, (KS18.out _ ((TX18.out).trans (Tn.alloc _ _ _))).1.2⟩ (fun hHeld => ?_)
          clear hK K
          refine norm_ (a' := ?_) ?_ ?_
          rotate_left
          · show Act.put _ (some 97) _ = _; simp only [Act.put, List.setIfInBounds_toArray, List.set_cons_zero, List.set_cons_succ, i64_w, i32_w]; rfl
          exact norm_ (by simp only [putAll, Act.put, List.setIfInBounds_toArray, List.set_cons_zero, List.set_cons_succ]) (hCont (v12, w11.heap.size, w12.heap.size) _ (FA.one NU18.out hown8 hg8 hat8 _))
        · skip
          refine value_ (w1 := ?_) (v := ?_) (by rfl) rfl ?_ ?_
          rotate_left 2
          · go_simp
            constructor
            · rfl
            · rfl
          refine hK.out _ _ ⟨(KS18.out _ (((Tn.bel (bel_drew (Below.refl w11.heap.size w11)) _).trans (Tn.alloc _ _ _)).trans (Tn.alloc _ _ _))).1.1, (KS18.out _ (((Tn.bel (bel_drew (Below.refl w11.heap.size w11)) _).trans (Tn.alloc _ _ _)).trans (Tn.alloc _ _ _))).1.2⟩ (fun hHeld => ?_)
          clear hK K
          refine norm_ (a' := ?_) ?_ ?_
          rotate_left
          · show Act.put _ (some 97) _ = _; simp only [Act.put, List.setIfInBounds_toArray, List.set_cons_zero, List.set_cons_succ, i64_w, i32_w]; rfl
          refine one_ (i := 8) (N := some 91) (bs 22 32767) rfl rfl (by kernel_rfl) (by decide) (fun K hK => ?_)
          refine step_append_at _ (by rfl) (.tmp 88) (.tmp 90) 62 (by rfl) base 3 i0 _ 1 8 Tryz.underlying62 ii iz0 iz1 iz2 rfl (by decide) R2.vl R2.nl R2.cl (by rfl) (World.ownsRow.alloc (World.ownsRow.alloc HRW18.out _) _) ⟨w11.heap.size, 0, none⟩ 1 1 [.int .i64 v] (by rfl) rfl (fun j u hj => by rcases j with _ | j <;> simp at hj <;> subst hj <;> simp [Addr.add]) (by intro u hu; simp at hu; rcases hu with rfl <;> rfl) HQ1_18.out HQ2_18.out (Nat.le_trans BB18.out (show Tn (fun _ => False) w11 _ from (((Tn.bel (bel_drew (Below.refl w11.heap.size w11)) _).trans (Tn.alloc _ _ _)).trans (Tn.alloc _ _ _))).size) ?_
          intro v12 w12 hown8 hg8 hat8
          have TX18 := Lib.hid (((((Tn.bel (bel_drew (Below.refl w11.heap.size w11)) _).trans (Tn.alloc _ _ _)).trans (Tn.alloc _ _ _))).trans (Tn.gb (O := fun z => R2.vl.ownBlock = some z ∨ R2.vs.ownBlock = some z) hg8 (fun z e => .inl (.inl e))))
          refine hK.out _ _ ⟨(KS18.out _ TX18.out).1.1, (KS18.out _ TX18.out).1.2⟩ (fun hHeld => ?_)
          clear hK K
          refine norm_ (a' := ?_) ?_ ?_
          rotate_left
          · show Act.put _ (some 91) _ = _; simp only [Act.put, List.setIfInBounds_toArray, List.set_cons_zero, List.set_cons_succ, i64_w, i32_w]; rfl
          exact norm_ (by simp only [putAll, Act.put, List.setIfInBounds_toArray, List.set_cons_zero, List.set_cons_succ]) (hCont (v12, w11.heap.size, w11.heap.size + 1) _ (FA.two NU18.out hown8 hg8 hat8 _))
      · skip
        refine value_ (w1 := ?_) (v := ?_) (by rfl) rfl ?_ ?_
        rotate_left 2
        · go_simp
          constructor
          · rfl
          · rfl
        refine hK.out _ _ ⟨(KS18.out _ ((Tn.bel (bel_drew (Below.refl w11.heap.size w11)) _).trans (Tn.alloc _ _ _))).1.1, (KS18.out _ ((Tn.bel (bel_drew (Below.refl w11.heap.size w11)) _).trans (Tn.alloc _ _ _))).1.2⟩ (fun hHeld => ?_)
        clear hK K
        refine norm_ (a' := ?_) ?_ ?_
        rotate_left
        · show Act.put _ (some 97) _ = _; simp only [Act.put, List.setIfInBounds_toArray, List.set_cons_zero, List.set_cons_succ, i64_w, i32_w]; rfl
        refine one_ (i := 7) (N := some 90) (bs 22 32511) rfl rfl (by kernel_rfl) (by decide) (fun K hK => ?_)
        refine value_ (w1 := ?_) (v := ?_) (by rfl) rfl ?_ ?_
        rotate_left 2
        · go_simp
          constructor
          · rfl
          · rfl
        refine hK.out _ _ ⟨(KS18.out _ (((Tn.bel (bel_drew (Below.refl w11.heap.size w11)) _).trans (Tn.alloc _ _ _)).trans (Tn.alloc _ _ _))).1.1, (KS18.out _ (((Tn.bel (bel_drew (Below.refl w11.heap.size w11)) _).trans (Tn.alloc _ _ _)).trans (Tn.alloc _ _ _))).1.2⟩ (fun hHeld => ?_)
        clear hK K
        refine norm_ (a' := ?_) ?_ ?_
        rotate_left
        · show Act.put _ (some 90) _ = _; simp only [Act.put, List.setIfInBounds_toArray, List.set_cons_zero, List.set_cons_succ, i64_w, i32_w]; rfl
        refine one_ (i := 8) (N := some 91) (bs 22 32767) rfl rfl (by kernel_rfl) (by decide) (fun K hK => ?_)
        refine step_append_at _ (by rfl) (.tmp 88) (.tmp 90) 62 (by rfl) base 3 i0 _ 1 8 Tryz.underlying62 ii iz0 iz1 iz2 rfl (by decide) R2.vl R2.nl R2.cl (by rfl) (World.ownsRow.alloc (World.ownsRow.alloc HRW18.out _) _) ⟨(w11.heap.size + 1), 0, none⟩ 1 1 [.int .i64 v] (by rfl) rfl (fun j u hj => by rcases j with _ | j <;> simp at hj <;> subst hj <;> simp [Addr.add]) (by intro u hu; simp at hu; rcases hu with rfl <;> rfl) HQ1_18.out HQ2_18.out (Nat.le_trans BB18.out (show Tn (fun _ => False) w11 _ from (((Tn.bel (bel_drew (Below.refl w11.heap.size w11)) _).trans (Tn.alloc _ _ _)).trans (Tn.alloc _ _ _))).size) ?_
        intro v12 w12 hown8 hg8 hat8
        have TX18 := Lib.hid (((((Tn.bel (bel_drew (Below.refl w11.heap.size w11)) _).trans (Tn.alloc _ _ _)).trans (Tn.alloc _ _ _))).trans (Tn.gb (O := fun z => R2.vl.ownBlock = some z ∨ R2.vs.ownBlock = some z) hg8 (fun z e => .inl (.inl e))))
        refine hK.out _ _ ⟨(KS18.out _ TX18.out).1.1, (KS18.out _ TX18.out).1.2⟩ (fun hHeld => ?_)
        clear hK K
        refine norm_ (a' := ?_) ?_ ?_
        rotate_left
        · show Act.put _ (some 91) _ = _; simp only [Act.put, List.setIfInBounds_toArray, List.set_cons_zero, List.set_cons_succ, i64_w, i32_w]; rfl
        exact norm_ (by simp only [putAll, Act.put, List.setIfInBounds_toArray, List.set_cons_zero, List.set_cons_succ]) (hCont (v12, w11.heap.size + 1, w11.heap.size) _ (FA.three NU18.out hown8 hg8 hat8 _))
    rintro ⟨v12, mA, mB⟩ w13 hF9
    obtain ⟨A12, c12, hv12, -, -⟩ := row_shape hF9.own
    have hv12 : v12 = .slice A12 (R2.nl + 1) c12 := hv12
    subst hv12
    have hHeld := (KS18.out w13 (hF9.tn.mono (fun z e => .inl (.inl e)))).1
    refine norm_ (a' := ?_) ?_ ?_
    rotate_left
    · simp only [putAll, Act.put, List.setIfInBounds_toArray, List.set_cons_zero, List.set_cons_succ]
      rfl
    refine one_ (i := 15) (N := some 98) (bs 22 65535) rfl rfl (by kernel_rfl) (by decide) (fun K hK => ?_)
    refine step_append_at w13 (by rfl) (.tmp 95) (.tmp 97) 62 (by rfl) base 3 i0 _ 1 8 Tryz.underlying62 ii iz0 iz1 iz2 rfl (by decide) R2.vs R2.ns R2.cs (by rfl) (row_turn HR2.out.rs hF9.tn NV18.out) ⟨mB, 0, none⟩ 1 1 [.int .i64 (-1)] (by rfl) rfl (news_one hF9.blk) (by intro u hu; simp at hu; subst hu; rfl) HQ1b_18.out HQ2b_18.out (Nat.le_trans BB18.out hF9.tn.size) ?_
    intro v14 w14 hown10 hg10 hat10
    obtain ⟨A14, c14, hv14, -, -⟩ := row_shape hown10
    subst hv14
    have T10 := Lib.hid ((hF9.tn.mono (fun z e => .inl (.inl e))).trans (Tn.gb (O := fun z => R2.vl.ownBlock = some z ∨ R2.vs.ownBlock = some z) hg10 (fun z e => .inl (.inr e))))
    have c0w := (KS18.out w14 T10.out).1.1
    have c1w := (KS18.out w14 T10.out).1.2
    have f0w := (KS18.out w14 T10.out).2 2
    have f1w := (KS18.out w14 T10.out).2 3
    refine hK.out _ _ ⟨(KS18.out _ T10.out).1.1, (KS18.out _ T10.out).1.2⟩ (fun hHeld => ?_)
    clear hK K
    refine norm_ (a' := ?_) ?_ ?_
    rotate_left
    · show Act.put _ (some 98) _ = _; simp only [Act.put, List.setIfInBounds_toArray, List.set_cons_zero, List.set_cons_succ, i64_w, i32_w]; rfl
    refine pu 16 99 (bs 22 131071) ?_
    refine pu 17 100 (bs 22 262143) ?_
    refine last_ (i := 18) (N := none) (bs 22 524287) rfl rfl (by kernel_rfl) (by decide) (fun K hK => ?_)
    refine skip_ (w1 := ?_) (by rfl) rfl ?_ ?_
    rotate_left
    · go_simp
      rfl
    refine hK.out _ _ ?_
    clear hK K
    refine pu 19 101 (bs 22 1048575) ?_
    refine pu 20 102 (bs 22 2097151) ?_
    refine last_ (i := 21) (N := none) (bs 22 4194303) rfl rfl (by kernel_rfl) (by decide) (fun K hK => ?_)
    refine skip_ (w1 := ?_) (by rfl) rfl ?_ ?_
    rotate_left
    · go_simp
      rfl
    refine hK.out _ _ ?_
    clear hK K
    refine done_ (by kernel_rfl) ?_
    obtain ⟨w15, hw15⟩ : ∃ w15, w15 = (w14.setCell ⟨p, 2, none⟩ (.slice A12 (R2.nl + 1) c12)).setCell ⟨p, 3, none⟩ (.slice A14 (R2.ns + 1) c14) := ⟨_, rfl⟩
    have hP := HR2.out.pairLS hF9 hown10 hg10 hat10
    rw [← hw15] at hP ⊢
    obtain ⟨hR3, hT3, hO3⟩ := hP
    have HFX := Lib.hid (HFIN.out w15 _ hR3 (HT2.out.then hT3 HO2.out) (fun z e => (hO3 z e).elim (HO2.out z) (fun h => .inr (by have := HT2.out.size; omega))) (by rw [HE2.out]) (by rw [HE2.out]) (by rw [HE2.out]) (by rw [HE2.out]) (by rw [HE2.out]) (by rw [HE2.out]) (by rw [HE2.out]) (by rw [HE2.out]) (by rw [HE2.out]) (by rw [HE2.out]) (by rw [HE2.out]) (by rw [HE2.out]))
    clear hw15 hR3 hT3 hO3 hF9 hown10 hg10 hat10 hHeld T10 c0w c1w f0w f1w KS18 HRW18 NU18 NV18 BB18
    go_wp2
    go_ret
    exact HFX.out

end Go.Proofs.YtplnfepdikbpfaaGreatDoor
