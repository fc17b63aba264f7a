/- The walk of the Store's merge. Condition: the Store lies in memory; two classes. -/
import Derived.Test.YtplnfepdikbpfaaGreatDoorPW
import Derived.Test.YtplnfepdikbpfaaGreatDoorST0
import Derived.StillTailTactics
namespace Go.Proofs.YtplnfepdikbpfaaGreatDoor
open Go.RowKit
open Go.Maps (Keyed)
open Go.Proofs.YtplnfepdikbpfaaGreatDoorW.PrintLast
set_option linter.unusedVariables false
set_option linter.unusedSimpArgs false
attribute [local go_sem ↓] Go.wp_at_zero Go.wp_at_succ

theorem infoJ : (Tryz.prog.info? 160).map (fun i => (i.zero, i.size, i.bytes)) = some (some (.agg #[.int .i64 0, .int .i64 0, .int .i64 0, .int .i64 0]), 4, 32) := by kernel_rfl
theorem infoI : (Tryz.prog.info? 3).map (fun i => (i.zero, i.size, i.bytes)) = some (some (.int .i64 0), 1, 8) := by kernel_rfl

/-- A row of ints: its cells. -/
theorem ints_cells {w : World} {base : Nat} {v : Value} {n : Nat} {l : List Int} (h : w.ownsRow base 3 1 v n (l.map (Value.int .i64))) {i : Nat} (hi : i < n) : ∃ g c, v = .slice (some ⟨g, 0, none⟩) n c ∧ n ≤ c ∧ base ≤ g ∧ g < w.heap.size ∧ (∀ j d, j < n → w.cell? ⟨g, j, none⟩ = some (.int .i64 (l.getD j d))) ∧ (∀ o, w.frozen? ⟨g, o, none⟩ = false) := by
  have hl : l.length = n := by simpa using row_len h
  obtain ⟨g, c, e, hc, hb, hg, hcell, hf⟩ := row_cells h (by omega)
  refine ⟨g, c, e, hc, hb, hg, fun j d hj => hcell j _ ?_, hf⟩
  have : j < l.length := by omega
  simp [List.getD_eq_getElem?_getD, List.getElem?_eq_getElem this]

/-- merge's step on the trail: what is known of the rows then. -/
def MergePost (w : World) (base p : Nat) (ok : Nat → Prop) (R : Rows) (s : Sto) (e : Ending) (w' : World) : Prop :=
  e = .returned (.tuple #[]) ∧ ∃ R', StoAt w' base p ok R' s ∧ Tn (R.own p) w w' ∧ ∀ k, R'.own p k → R.own p k ∨ w.heap.size ≤ k

set_option maxRecDepth 100000 in
set_option maxHeartbeats 8000000 in
theorem merge_calls (w : World) (base p : Nat) (ok : Nat → Prop) (R : Rows) (s : Sto) (h : StoAt w base p ok R s) (a b : Nat) (ha : a < s.n) (hb : b < s.n) (hra : s.repAt a = a) (hrb : s.repAt b = b) (hab : a ≠ b) :
    Calls Tryz.prog 86 #[.pointer (some ⟨p, 0, none⟩), .int .i64 (a : Int), .int .i64 (b : Int)] w (MergePost w base p ok R (s.merge a b)) := by
  have hrl := h.rows.rl
  rw [h.least, h.n.2.2.1] at hrl
  have hrs := h.rows.rs
  rw [h.solid, h.n.2.2.2] at hrs
  obtain ⟨gl, cl, el, hcl, hbl, hgl, hl, hfl⟩ := ints_cells hrl ha
  obtain ⟨gs, cs, es, hcs, hbs, hgs, hso, hfs⟩ := ints_cells hrs ha
  obtain ⟨c0, c1, c2, c3, c4, c5, cf⟩ := h.rows.cells
  rw [el] at c2
  rw [es] at c3
  obtain ⟨tr, ht1, ht2, ht3, ht4⟩ := h.tr
  have hrp := Sto.roots_pos ha hra
  have hfew := h.few
  obtain ⟨i0, hi, hzz⟩ := Option.map_eq_some_iff.1 infoJ
  simp only [Prod.mk.injEq] at hzz
  obtain ⟨hz0, hz1, hz2⟩ := hzz
  have la := hl a 0 ha
  have sa := hso a (-1) ha
  obtain ⟨xl, hxl⟩ : ∃ xl, xl = s.leastAt a := ⟨_, rfl⟩
  obtain ⟨xs, hxs⟩ : ∃ xs, xs = s.solidAt a := ⟨_, rfl⟩
  have la' : w.cell? ⟨gl, a, none⟩ = some (.int .i64 xl) := by rw [hxl]; exact la
  have sa' : w.cell? ⟨gs, a, none⟩ = some (.int .i64 xs) := by rw [hxs]; exact sa
  have c5' : w.cell? ⟨p, 5, none⟩ = some R.vt := c5
  have KS := Lib.hid (show ∀ X, Tn (fun k => R.vt.ownBlock = some k) w X → (X.cell? ⟨p, 5, none⟩ = some R.vt ∧ X.cell? ⟨p, 2, none⟩ = some (.slice (some ⟨gl, 0, none⟩) s.n cl) ∧ X.cell? ⟨gl, a, none⟩ = some (.int .i64 xl) ∧ X.cell? ⟨p, 3, none⟩ = some (.slice (some ⟨gs, 0, none⟩) s.n cs) ∧ X.cell? ⟨gs, a, none⟩ = some (.int .i64 xs)) ∧ X.frozen? ⟨p, 5, none⟩ = false from fun X hT => by
    have np : ¬ R.vt.ownBlock = some p := fun e => (h.rows.ap.t p e).1 rfl
    have nl : ¬ R.vt.ownBlock = some gl := (h.rows.ap.l gl (by rw [el]; rfl)).2.2.2
    have ns : ¬ R.vt.ownBlock = some gs := (h.rows.ap.s gs (by rw [es]; rfl)).2.2
    have lp := h.rows.plt
    exact ⟨⟨(hT.cell lp np 5).trans c5, (hT.cell lp np 2).trans c2, (hT.cell hgl nl a).trans la', (hT.cell lp np 3).trans c3, (hT.cell hgs ns a).trans sa'⟩, (hT.frozen lp np 5).trans (cf 5)⟩)
  have TD := Lib.hid (show Tn (fun k => R.vt.ownBlock = some k) w w.drew from Tn.bel (bel_drew (Below.refl _ _)) _)
  have HRT := Lib.hid h.rows.rt
  have H := Lib.hid h
  have hp := h.rows.plt
  have a0 : (0 : Int) ≤ (a : Int) := by omega
  have a1 : (a : Int) < (s.n : Int) := by omega
  have hq1 : R.nt + 1 ≤ maxLen := by unfold maxLen; omega
  have hq2 : (R.nt + 1) * 32 ≤ 140737488355328 := by omega
  have hq3 : base ≤ (w.drew.alloc (.cells #[.int .i64 (b : Int), .int .i64 (a : Int), .int .i64 xl, .int .i64 xs] 160)).heap.size := Nat.le_trans (show base ≤ w.heap.size from by have := h.rows.bp; omega) (bel_alloc (bel_drew (Below.refl w.heap.size w)) _).size
  have HQ1 := Lib.hid hq1; have HQ2 := Lib.hid hq2; have HQ3 := Lib.hid hq3
  have HTR := Lib.hid (And.intro ht1 (And.intro ht2 (And.intro ht3 ht4)))
  clear hq1 hq2 hq3 ht1 ht2 ht3 ht4
  clear h c0 c1 c2 c3 c4 c5 c5' cf la sa la' sa' hl hso hfl hfs hrl hrs hxl hxs
  go_enter Tryz.func86, Tryz.ntmps86
  go_wp2_with fail
  refine start_ (n := 27) (S := fun w' => w'.cell? ⟨p, 5, none⟩ = some R.vt ∧ w'.cell? ⟨p, 2, none⟩ = some (.slice (some ⟨gl, 0, none⟩) s.n cl) ∧ w'.cell? ⟨gl, a, none⟩ = some (.int .i64 xl) ∧ w'.cell? ⟨p, 3, none⟩ = some (.slice (some ⟨gs, 0, none⟩) s.n cs) ∧ w'.cell? ⟨gs, a, none⟩ = some (.int .i64 xs)) (ds := [26]) (bs 27 0) (by kernel_rfl) rfl rfl ⟨(KS.out _ TD.out).1.1, (KS.out _ TD.out).1.2.1, (KS.out _ TD.out).1.2.2.1, (KS.out _ TD.out).1.2.2.2.1, (KS.out _ TD.out).1.2.2.2.2⟩ (fun hHeld => ?_)
  refine pu 0 6 (bs 27 1) ?_
  refine pu 1 7 (bs 27 3) ?_
  refine pu 2 8 (bs 27 7) ?_
  refine pu 3 9 (bs 27 15) ?_
  refine pu 5 11 (bs 27 47) ?_
  refine pu 6 12 (bs 27 111) ?_
  refine pu 7 13 (bs 27 239) ?_
  refine pu 8 14 (bs 27 495) ?_
  refine pu 9 15 (bs 27 1007) ?_
  refine pu 11 17 (bs 27 3055) ?_
  refine pu 14 20 (bs 27 19439) ?_
  refine pu 15 21 (bs 27 52207) ?_
  refine pu 16 22 (bs 27 117743) ?_
  refine pu 18 24 (bs 27 379887) ?_
  refine tk 4 10 (bs 27 379903) hHeld ?_
  refine tk 10 16 (bs 27 380927) hHeld ?_
  refine pu 12 18 (bs 27 385023) ?_
  refine tk 13 19 (bs 27 393215) hHeld ?_
  refine tk 17 23 (bs 27 524287) hHeld ?_
  refine pu 19 25 (bs 27 1048575) ?_
  refine tk 20 26 (bs 27 2097151) hHeld ?_
  refine pu 21 27 (bs 27 4194303) ?_
  refine one_ (i := 22) (N := some 28) (bs 27 8388607) rfl rfl (by kernel_rfl) (by decide) (fun K hK => ?_)
  refine value_ (w1 := ?_) (v := ?_) (by rfl) rfl ?_ ?_
  rotate_left 2
  · go_simp
    constructor
    · rfl
    · rfl
  refine hK.out _ _ ⟨(KS.out _ (TD.out.trans (Tn.alloc _ _ _))).1.1, (KS.out _ (TD.out.trans (Tn.alloc _ _ _))).1.2.1, (KS.out _ (TD.out.trans (Tn.alloc _ _ _))).1.2.2.1, (KS.out _ (TD.out.trans (Tn.alloc _ _ _))).1.2.2.2.1, (KS.out _ (TD.out.trans (Tn.alloc _ _ _))).1.2.2.2.2⟩ (fun hHeld => ?_)
  clear hK K
  refine norm_ (a' := ?_) ?_ ?_
  rotate_left
  · show Act.put _ (some 28) _ = _; simp only [Act.put, nA, nB, nC, i64_w, i32_w]; rfl
  refine one_ (i := 23) (N := some 29) (bs 27 16777215) rfl rfl (by kernel_rfl) (by decide) (fun K hK => ?_)
  refine step_append_at _ (by rfl) (.tmp 10) (.tmp 28) 124 (by rfl) base 160 i0 _ 4 32 Tryz.underlying124 hi hz0 hz1 hz2 rfl (by decide) R.vt R.nt R.ct (by rfl) (HRT.out.alloc _) ⟨w.heap.size, 0, none⟩ 1 1 [.int .i64 (b : Int), .int .i64 (a : Int), .int .i64 xl, .int .i64 xs] (by rfl) rfl (fun j u hj => by rcases j with _ | _ | _ | _ | j <;> simp at hj <;> subst hj <;> simp [Addr.add]) (by intro u hu; simp at hu; rcases hu with rfl | rfl | rfl | rfl <;> rfl) HQ1.out HQ2.out HQ3.out ?_
  intro v1 w1 hown1 hg1 hat1
  have T1 := Lib.hid ((TD.out.trans (Tn.alloc _ _ _)).trans (Tn.gb hg1 (fun k e => .inl e)))
  obtain ⟨A1, cc1, rfl, hcc1, hA1⟩ := row_shape hown1
  have c5w := (KS.out _ T1.out).1.1
  have f5w := (KS.out _ T1.out).2
  refine hK.out _ _ ⟨(KS.out _ T1.out).1.1, (KS.out _ T1.out).1.2.1, (KS.out _ T1.out).1.2.2.1, (KS.out _ T1.out).1.2.2.2.1, (KS.out _ T1.out).1.2.2.2.2⟩ (fun hHeld => ?_)
  clear hK K
  refine norm_ (a' := ?_) ?_ ?_
  rotate_left
  · show Act.put _ (some 29) _ = _; simp only [Act.put, nA, nB, nC, i64_w, i32_w]; rfl
  refine pu 24 30 (bs 27 33554431) ?_
  refine pu 25 31 (bs 27 67108863) ?_
  refine last_ (i := 26) (N := none) (bs 27 134217727) rfl rfl (by kernel_rfl) (by decide) (fun K hK => ?_)
  refine skip_ (w1 := ?_) (by rfl) rfl ?_ ?_
  rotate_left
  · go_simp
    rfl
  refine hK.out _ _ ?_
  clear hK K
  refine done_ (by kernel_rfl) ?_
  obtain ⟨w2, hw2⟩ : ∃ w2, w2 = w1.setCell ⟨p, 5, none⟩ (.slice A1 (R.nt + 1) cc1) := ⟨_, rfl⟩
  rw [← hw2]
  have hP := H.out.rows.putT _ _ _ hown1 (gb_trans (gb_below (bel_alloc (bel_drew (Below.refl w.heap.size w)) _) _) hg1) (hat1.imp id fun e => ⟨_, (bel_alloc (bel_drew (Below.refl w.heap.size w)) _).size, e⟩) hw2
  obtain ⟨hR1, hT1, hO1⟩ := hP
  have HT1 := Lib.hid hT1; have HO1 := Lib.hid hO1
  have hup := H.out.up
  obtain ⟨up, hcu, hF⟩ := hup
  have hru := hR1.ru
  rw [show ({ R with vt := Value.slice A1 (R.nt + 1) cc1, nt := R.nt + 1, ct := R.ct ++ [.int .i64 (b : Int), .int .i64 (a : Int), .int .i64 xl, .int .i64 xs] } : Rows).nu = s.n from H.out.n.2.1] at hru
  obtain ⟨gu, cu, eu, hcu1, hbu, hgu, hcellu, hfu⟩ := row_cells hru (by omega)
  have eu : R.vu = .slice (some ⟨gu, 0, none⟩) s.n cu := eu
  have hlu : up.length = s.n := hF.1
  have cub : w2.cell? ⟨gu, b, none⟩ = some (.int .i64 ((up.getD b 0 : Nat) : Int)) := hcellu b _ (by
    show R.cu[b]? = _
    rw [hcu]
    have : b < up.length := by omega
    simp [List.getD_eq_getElem?_getD, List.getElem?_eq_getElem this])
  have fub := hfu b
  have c1 := hR1.cells.2.1
  have c1 : w2.cell? ⟨p, 1, none⟩ = some (.slice (some ⟨gu, 0, none⟩) s.n cu) := by rw [← eu]; exact c1
  have hR2 := hR1.setU (g := gu) (by show R.vu.ownBlock = _; rw [eu]; rfl) b (.int .i64 (a : Int)) (by show b < R.cu.length; rw [hcu]; simp; omega)
  have HR2 := Lib.hid hR2
  have HT2 := Lib.hid (hT1.trans ((Tn.set (O := fun k => k = gu) w2 gu b (.int .i64 (a : Int)) (.inl rfl)).mono fun k e => .inl (by show R.own p k; exact .inr (.inr (.inr (.inl (by rw [eu, e]; rfl)))))))
  have HF := Lib.hid hF; have HCU := Lib.hid hcu
  clear hR1 hT1 hO1 hru hcellu hfu hw2 hown1 hg1 hat1 hcc1 hA1 c5w f5w hR2 hF hcu T1 HRT TD KS
  have b0 : (0 : Int) ≤ (b : Int) := by omega
  have b1 : (b : Int) < (s.n : Int) := by omega
  go_wp2_with fail
  obtain ⟨w3, hw3⟩ : ∃ w3, w3 = w2.setCell ⟨gu, b, none⟩ (.int .i64 (a : Int)) := ⟨_, rfl⟩
  rw [← hw3] at HR2 HT2 ⊢
  clear hw3
  obtain ⟨R2, hR2e⟩ : ∃ R2 : Rows, R2 = { R with vt := Value.slice A1 (R.nt + 1) cc1, nt := R.nt + 1, ct := R.ct ++ [.int .i64 (b : Int), .int .i64 (a : Int), .int .i64 xl, .int .i64 xs], cu := R.cu.set b (.int .i64 (a : Int)) } := ⟨_, rfl⟩
  have hR2 : RowsAt w3 base p R2 := by rw [hR2e]; exact HR2.out
  have rl2 := hR2.rl
  have rs2 := hR2.rs
  rw [show R2.cl = s.least.map (Value.int .i64) from by rw [hR2e]; exact H.out.least, show R2.nl = s.n from by rw [hR2e]; exact H.out.n.2.2.1] at rl2
  rw [show R2.cs = s.solid.map (Value.int .i64) from by rw [hR2e]; exact H.out.solid, show R2.ns = s.n from by rw [hR2e]; exact H.out.n.2.2.2] at rs2
  obtain ⟨ql, dl, vl2, hdl, -, hql, cell2, fl2⟩ := ints_cells rl2 ha
  obtain ⟨qs, ds, vs2, hds, -, hqs, cels2, fs2⟩ := ints_cells rs2 ha
  obtain ⟨-, -, d2, d3, -, -, -⟩ := hR2.cells
  rw [vl2] at d2
  rw [vs2] at d3
  have la : w3.cell? ⟨ql, a, none⟩ = some (.int .i64 (s.leastAt a)) := cell2 a 0 ha
  have lb : w3.cell? ⟨ql, b, none⟩ = some (.int .i64 (s.leastAt b)) := cell2 b 0 hb
  have fl := fl2 a
  have HCS := Lib.hid cels2; have HFS := Lib.hid fs2
  have HR2' := Lib.hid hR2; have HE2 := Lib.hid hR2e; have HVL := Lib.hid vl2; have HVS := Lib.hid vs2
  have HRL2 := Lib.hid rl2; have HRS2 := Lib.hid rs2
  have sa : w3.cell? ⟨qs, a, none⟩ = some (.int .i64 (s.solidAt a)) := cels2 a (-1) ha
  have sb : w3.cell? ⟨qs, b, none⟩ = some (.int .i64 (s.solidAt b)) := cels2 b (-1) hb
  have fs := fs2 a
  have npl : p ≠ ql := Ne.symm (hR2.ap.l ql (by rw [vl2]; rfl)).1
  have nlp : ql ≠ p := Ne.symm npl
  have nsl : qs ≠ ql := fun e => (hR2.ap.l ql (by rw [vl2]; rfl)).2.2.1 (by rw [vs2, e]; rfl)
  have nls : ql ≠ qs := Ne.symm nsl
  clear hR2 hR2e rl2 rs2 vl2 vs2 cell2 cels2 fl2 fs2 c1 cub fub eu HR2
  have hval := H.out.vals
  have va := hval a ha
  have vb := hval b hb
  obtain ⟨yl, hyl⟩ : ∃ yl, yl = s.leastAt b := ⟨_, rfl⟩
  obtain ⟨zl, hzl⟩ : ∃ zl, zl = s.leastAt a := ⟨_, rfl⟩
  rw [← hyl] at lb vb
  rw [← hzl] at la va
  obtain ⟨ys, hys⟩ : ∃ ys, ys = s.solidAt b := ⟨_, rfl⟩
  obtain ⟨zs, hzs⟩ : ∃ zs, zs = s.solidAt a := ⟨_, rfl⟩
  rw [← hys] at sb
  rw [← hzs] at sa
  have HYL := Lib.hid hyl; have HZL := Lib.hid hzl; have HYS := Lib.hid hys; have HZS := Lib.hid hzs
  clear hval hyl hzl hys hzs
  have hmid : ∀ (W : World) (CL : List Value), Tn (fun k => k = ql) w3 W → RowsAt W base p { R2 with cl := CL } → Tn (R.own p) w W := fun W CL hT hR => by
    refine HT2.out.trans (hT.mono fun k e => .inl ?_)
    have e2 : R.vl = R2.vl := by rw [HE2.out]
    have e3 : R2.vl.ownBlock = some ql := by rw [HVL.out]; rfl
    exact .inr (.inr (.inr (.inr (.inl (by rw [e2, e3, e])))))
  have HM := Lib.hid hmid; clear hmid
  have key : (zl < 0 ∨ (0 ≤ zl ∧ 0 ≤ yl ∧ yl < zl)) ∨ ((0 ≤ zl ∧ yl < 0) ∨ (0 ≤ zl ∧ 0 ≤ yl ∧ zl ≤ yl)) := by omega
  have hfin : ∀ (W : World) (CL CS : List Value), CL = (s.merge a b).least.map (Value.int .i64) → CS = (s.merge a b).solid.map (Value.int .i64) → RowsAt W base p { R2 with cl := CL, cs := CS } → Tn (R.own p) w W → MergePost w base p ok R (s.merge a b) (.returned (.tuple #[])) W := by
    rintro W CL CS rfl rfl hR hT
    obtain ⟨ht1, ht2, ht3, ht4⟩ := HTR.out
    refine ⟨rfl, _, ⟨hR, ?_, ?_, ⟨up.set b a, ?_, HF.out.merge H.out.sok ha hb hra hrb hab⟩, rfl, rfl, ?_, ?_, ⟨tr ++ [(b, a, xl, xs)], ?_, ?_, ?_, ?_⟩, H.out.sok.merge ha hb hra hrb hab, ?_, ?_, fun b hb => Nat.lt_of_lt_of_le (H.out.okl b hb) hT.size⟩, hT, ?_⟩
    · have := H.out.n; rw [HE2.out]; exact this
    · obtain ⟨L, h1, h2, h3⟩ := H.out.nd
      refine ⟨L, h1, by rw [HE2.out]; exact h2, fun x hx => ⟨(h3 x hx).1, (h3 x hx).2.1, (h3 x hx).2.2.turn (fun k hk => ⟨hk.1, fun e => ?_⟩) fun k o hk => hT.cell (H.out.okl k hk.1) hk.2 o⟩⟩
      have e2 : Rows.own R2 p k := e
      rw [HE2.out] at e2
      rcases HO1.out k e2 with e3 | e3
      · exact hk.2 e3
      · have := H.out.okl k hk.1; omega
    · rw [HE2.out, show R.cu = up.map (fun (i : Nat) => Value.int .i64 (i : Int)) from HCU.out]
      simp [List.map_set]
    · have := H.out.of; rw [HE2.out]; exact this
    · have := H.out.mm; rw [HE2.out]; exact this
    · rw [HE2.out, jnCells_append]; simp only [ht1]; rfl
    · rw [HE2.out]; simp [ht2]
    · have e := Sto.roots_merge H.out.sok ha hb hra hrb hab
      rw [HE2.out, Sto.n_merge]
      show R.nt + 1 + _ = _
      omega
    · intro x hx
      rw [Sto.n_merge]
      rcases List.mem_append.1 hx with hx | hx
      · exact ht4 x hx
      · rw [List.mem_singleton.1 hx]; exact ⟨hb, ha⟩
    · exact H.out.few
    · intro i hi
      rw [Sto.leastAt_merge H.out.sok a b i ha]
      split
      · exact H.out.vals b hb
      · exact H.out.vals i hi
    · intro k e
      have e2 : Rows.own R2 p k := e
      rw [HE2.out] at e2
      exact HO1.out k e2
  have HFIN := Lib.hid hfin; clear hfin
  have yes : ∀ (W : World), Tn (fun k => k = ql) w3 W → RowsAt W base p R2 → (zl < 0 ∨ (0 ≤ zl ∧ 0 ≤ yl ∧ yl < zl)) → ∃ CL, CL = (s.merge a b).least.map (Value.int .i64) ∧ RowsAt (W.setCell ⟨ql, a, none⟩ (.int .i64 yl)) base p { R2 with cl := CL } ∧ Tn (R.own p) w (W.setCell ⟨ql, a, none⟩ (.int .i64 yl)) := fun W hT hR hc => by
    have h1 := hR.setL (g := ql) (by rw [HVL.out]; rfl) a (.int .i64 yl) (by rw [HE2.out]; show a < R.cl.length; rw [H.out.least, List.length_map, H.out.sok.least]; exact ha)
    refine ⟨_, ?_, h1, HM.out _ _ (hT.trans (Tn.set _ _ _ _ (.inl rfl))) h1⟩
    rw [HE2.out]
    show R.cl.set a _ = _
    rw [H.out.least, Sto.merge]
    simp only
    rw [if_pos (by rw [← HYL.out, ← HZL.out]; omega), List.map_set, HYL.out]
  have no : ∀ (W : World), Tn (fun k => k = ql) w3 W → RowsAt W base p R2 → ¬ (zl < 0 ∨ (0 ≤ yl ∧ yl < zl)) → ∃ CL, CL = (s.merge a b).least.map (Value.int .i64) ∧ RowsAt W base p { R2 with cl := CL } ∧ Tn (R.own p) w W := fun W hT hR hc => by
    refine ⟨R2.cl, ?_, hR, HM.out _ R2.cl hT hR⟩
    rw [HE2.out]
    show R.cl = _
    rw [H.out.least, Sto.merge]
    simp only
    rw [if_neg (by rw [← HYL.out, ← HZL.out]; exact hc)]
  have HYES := Lib.hid yes; have HNO := Lib.hid no; clear yes no
  have hpl : p < w3.heap.size := HR2'.out.plt
  have K3 : ∀ X, Below w3.heap.size w3 X → (X.cell? ⟨p, 2, none⟩ = some (.slice (some ⟨ql, 0, none⟩) s.n dl) ∧ X.cell? ⟨ql, a, none⟩ = some (.int .i64 zl) ∧ X.cell? ⟨ql, b, none⟩ = some (.int .i64 yl) ∧ X.frozen? ⟨ql, a, none⟩ = false) ∧
      (X.cell? ⟨p, 3, none⟩ = some (.slice (some ⟨qs, 0, none⟩) s.n ds) ∧ X.cell? ⟨qs, a, none⟩ = some (.int .i64 zs) ∧ X.cell? ⟨qs, b, none⟩ = some (.int .i64 ys) ∧ X.frozen? ⟨qs, a, none⟩ = false) := fun X hb =>
    ⟨⟨(hb.cell (p := ⟨p, 2, none⟩) hpl).trans d2, (hb.cell (p := ⟨ql, a, none⟩) hql).trans la, (hb.cell (p := ⟨ql, b, none⟩) hql).trans lb, (hb.frozen (p := ⟨ql, a, none⟩) hql).trans fl⟩,
      (hb.cell (p := ⟨p, 3, none⟩) hpl).trans d3, (hb.cell (p := ⟨qs, a, none⟩) hqs).trans sa, (hb.cell (p := ⟨qs, b, none⟩) hqs).trans sb, (hb.frozen (p := ⟨qs, a, none⟩) hqs).trans fs⟩
  have HK3 := Lib.hid K3; clear K3
  have K5 : ∀ X v, Below w3.heap.size w3 X → ((X.setCell ⟨ql, a, none⟩ v).drew.cell? ⟨p, 3, none⟩ = some (.slice (some ⟨qs, 0, none⟩) s.n ds) ∧ (X.setCell ⟨ql, a, none⟩ v).drew.cell? ⟨qs, a, none⟩ = some (.int .i64 zs) ∧ (X.setCell ⟨ql, a, none⟩ v).drew.cell? ⟨qs, b, none⟩ = some (.int .i64 ys) ∧ (X.setCell ⟨ql, a, none⟩ v).drew.frozen? ⟨qs, a, none⟩ = false) := fun X v hb => by
    obtain ⟨-, h1, h2, h3, h4⟩ := HK3.out X hb
    have ot : ∀ q o, q ≠ ql → (X.setCell ⟨ql, a, none⟩ v).drew.cell? ⟨q, o, none⟩ = X.cell? ⟨q, o, none⟩ := fun q o hq => World.cell?_setCell_other _ _ _ _ (by intro e; simp only [Addr.mk.injEq] at e; exact hq e.1.symm)
    exact ⟨(ot p 3 npl).trans h1, (ot qs a nsl).trans h2, (ot qs b nsl).trans h3, (World.frozen?_setCell ..).trans h4⟩
  have HK5 := Lib.hid K5; clear K5
  have S1 : ∀ X CL, CL = (s.merge a b).least.map (Value.int .i64) → RowsAt X base p { R2 with cl := CL } → Tn (R.own p) w X → zs < 0 → MergePost w base p ok R (s.merge a b) (.returned (.tuple #[])) (X.setCell ⟨qs, a, none⟩ (.int .i64 ys)).drew := fun X CL hCL hR hT hz => by
    have h1 := (hR.setS (g := qs) (by show R2.vs.ownBlock = _; rw [HVS.out]; rfl) a (.int .i64 ys) (by rw [HE2.out]; show a < R.cs.length; rw [H.out.solid, List.length_map, H.out.sok.solid]; exact ha)).drew
    refine HFIN.out _ CL _ hCL ?_ h1 ((hT.trans (Tn.set _ _ _ _ (.inl ?_))).drew)
    · rw [HE2.out]
      show R.cs.set a _ = _
      rw [H.out.solid, Sto.merge]
      simp only
      rw [if_pos (by rw [← HZS.out]; exact hz), List.map_set, HYS.out]
    · have e2 : R.vs = R2.vs := by rw [HE2.out]
      exact .inr (.inr (.inr (.inr (.inr (.inl (by rw [e2, HVS.out]; rfl))))))
  have S0 : ∀ X CL, CL = (s.merge a b).least.map (Value.int .i64) → RowsAt X base p { R2 with cl := CL } → Tn (R.own p) w X → 0 ≤ zs → MergePost w base p ok R (s.merge a b) (.returned (.tuple #[])) X := fun X CL hCL hR hT hz => by
    refine HFIN.out _ CL R2.cs hCL ?_ hR hT
    rw [HE2.out]
    show R.cs = _
    rw [H.out.solid, Sto.merge]
    simp only
    rw [if_neg (by rw [← HZS.out]; omega)]
  have HS1 := Lib.hid S1; have HS0 := Lib.hid S0; clear S1 S0
  have s1 : decide (zs < 0) = true ∨ decide (zs < 0) = false := by cases decide (zs < 0) <;> simp
  rcases key with (c | c) | (c | c)
  · have q1 : decide (zl < 0) = true := decide_eq_true c
    have HC := Lib.hid (show zl < 0 ∨ (0 ≤ zl ∧ 0 ≤ yl ∧ yl < zl) from .inl c)
    clear c
    go_quiet (fail)
    obtain ⟨w4, hw4⟩ : ∃ w4, w4 = w3.drewN nq := ⟨_, rfl⟩
    rw [← hw4]
    have B4 := Lib.hid (show Below w3.heap.size w3 w4 by rw [hw4]; exact bel_drewN (Below.refl _ _) _)
    obtain ⟨⟨d2', la', lb', fl'⟩, ⟨d3', sa', sb', fs'⟩⟩ := HK3.out w4 B4.out
    clear hw4 d2 la lb fl d3 sa sb fs
    go_wp2_with fail
    go_still_tail 12, (by kernel_rfl)
    change wpList _ _ _ _ _ (World.drew _)
    rcases s1 with s1 | s1
    · go_wp2_with fail
      obtain ⟨w5, hw5⟩ : ∃ w5, w5 = (w4.setCell ⟨ql, a, none⟩ (.int .i64 yl)).drew := ⟨_, rfl⟩
      rw [← hw5]
      have K5 := HK5.out w4 (.int .i64 yl) B4.out
      obtain ⟨CL, hCL, hR5, hT5⟩ := HYES.out w4 (Tn.bel B4.out _) (HR2'.out.bel B4.out) HC.out
      have hR5' : RowsAt w5 base p { R2 with cl := CL } := by rw [hw5]; exact hR5.drew
      have hT5' : Tn (R.own p) w w5 := by rw [hw5]; exact hT5.drew
      rw [← hw5] at K5
      obtain ⟨e3, ea, eb, ef⟩ := K5
      have H5 := Lib.hid (And.intro hCL (And.intro hR5' hT5'))
      clear hCL hR5 hT5 hR5' hT5' hw5 d2' la' lb' fl' d3' sa' sb' fs'
      go_still_tail 12, (by kernel_rfl)
      change wpList _ _ _ _ _ (World.drew _)
      go_wp2
      go_end0
      exact HS1.out _ _ H5.out.1 H5.out.2.1 H5.out.2.2 (of_decide_eq_true s1)
    · go_wp2
      go_end0
      obtain ⟨CL, hCL, hR5, hT5⟩ := HYES.out w4 (Tn.bel B4.out _) (HR2'.out.bel B4.out) HC.out
      exact HS0.out _ _ hCL hR5.drew hT5.drew (by have := of_decide_eq_false s1; omega)
  · have q1 : decide (zl < 0) = false := decide_eq_false (by omega)
    have q2 : decide (yl ≥ 0) = true := decide_eq_true c.2.1
    have q3 : decide (yl < zl) = true := decide_eq_true c.2.2
    have HC := Lib.hid (show zl < 0 ∨ (0 ≤ zl ∧ 0 ≤ yl ∧ yl < zl) from .inr c)
    clear c
    go_quiet (fail)
    obtain ⟨w4, hw4⟩ : ∃ w4, w4 = w3.drewN nq := ⟨_, rfl⟩
    rw [← hw4]
    have B4 := Lib.hid (show Below w3.heap.size w3 w4 by rw [hw4]; exact bel_drewN (Below.refl _ _) _)
    obtain ⟨⟨d2', la', lb', fl'⟩, ⟨d3', sa', sb', fs'⟩⟩ := HK3.out w4 B4.out
    clear hw4 d2 la lb fl d3 sa sb fs
    go_wp2_with fail
    go_still_tail 12, (by kernel_rfl)
    change wpList _ _ _ _ _ (World.drew _)
    rcases s1 with s1 | s1
    · go_wp2_with fail
      obtain ⟨w5, hw5⟩ : ∃ w5, w5 = (w4.setCell ⟨ql, a, none⟩ (.int .i64 yl)).drew := ⟨_, rfl⟩
      rw [← hw5]
      have K5 := HK5.out w4 (.int .i64 yl) B4.out
      obtain ⟨CL, hCL, hR5, hT5⟩ := HYES.out w4 (Tn.bel B4.out _) (HR2'.out.bel B4.out) HC.out
      have hR5' : RowsAt w5 base p { R2 with cl := CL } := by rw [hw5]; exact hR5.drew
      have hT5' : Tn (R.own p) w w5 := by rw [hw5]; exact hT5.drew
      rw [← hw5] at K5
      obtain ⟨e3, ea, eb, ef⟩ := K5
      have H5 := Lib.hid (And.intro hCL (And.intro hR5' hT5'))
      clear hCL hR5 hT5 hR5' hT5' hw5 d2' la' lb' fl' d3' sa' sb' fs'
      go_still_tail 12, (by kernel_rfl)
      change wpList _ _ _ _ _ (World.drew _)
      go_wp2
      go_end0
      exact HS1.out _ _ H5.out.1 H5.out.2.1 H5.out.2.2 (of_decide_eq_true s1)
    · go_wp2
      go_end0
      obtain ⟨CL, hCL, hR5, hT5⟩ := HYES.out w4 (Tn.bel B4.out _) (HR2'.out.bel B4.out) HC.out
      exact HS0.out _ _ hCL hR5.drew hT5.drew (by have := of_decide_eq_false s1; omega)
  · have q1 : decide (zl < 0) = false := decide_eq_false (by omega)
    have q2 : decide (yl ≥ 0) = false := decide_eq_false (by omega)
    have HC := Lib.hid (show ¬ (zl < 0 ∨ (0 ≤ yl ∧ yl < zl)) by omega)
    clear c
    go_quiet (fail)
    obtain ⟨w4, hw4⟩ : ∃ w4, w4 = w3.drewN nq := ⟨_, rfl⟩
    rw [← hw4]
    have B4 := Lib.hid (show Below w3.heap.size w3 w4 by rw [hw4]; exact bel_drewN (Below.refl _ _) _)
    obtain ⟨⟨d2', la', lb', fl'⟩, ⟨d3', sa', sb', fs'⟩⟩ := HK3.out w4 B4.out
    clear hw4 d2 la lb fl d3 sa sb fs
    rcases s1 with s1 | s1
    · go_wp2_with fail
      go_still_tail 12, (by kernel_rfl)
      change wpList _ _ _ _ _ (World.drew _)
      go_wp2
      go_end0
      obtain ⟨CL, hCL, hR5, hT5⟩ := HNO.out w4 (Tn.bel B4.out _) (HR2'.out.bel B4.out) HC.out
      exact HS1.out _ _ hCL hR5 hT5 (of_decide_eq_true s1)
    · go_wp2
      go_end0
      obtain ⟨CL, hCL, hR5, hT5⟩ := HNO.out w4 (Tn.bel B4.out _) (HR2'.out.bel B4.out) HC.out
      exact HS0.out _ _ hCL hR5 hT5 (by have := of_decide_eq_false s1; omega)
  · have q1 : decide (zl < 0) = false := decide_eq_false (by omega)
    have q2 : decide (yl ≥ 0) = true := decide_eq_true c.2.1
    have q3 : decide (yl < zl) = false := decide_eq_false (by omega)
    have HC := Lib.hid (show ¬ (zl < 0 ∨ (0 ≤ yl ∧ yl < zl)) by omega)
    clear c
    go_quiet (fail)
    obtain ⟨w4, hw4⟩ : ∃ w4, w4 = w3.drewN nq := ⟨_, rfl⟩
    rw [← hw4]
    have B4 := Lib.hid (show Below w3.heap.size w3 w4 by rw [hw4]; exact bel_drewN (Below.refl _ _) _)
    obtain ⟨⟨d2', la', lb', fl'⟩, ⟨d3', sa', sb', fs'⟩⟩ := HK3.out w4 B4.out
    clear hw4 d2 la lb fl d3 sa sb fs
    rcases s1 with s1 | s1
    · go_wp2_with fail
      go_still_tail 12, (by kernel_rfl)
      change wpList _ _ _ _ _ (World.drew _)
      go_wp2
      go_end0
      obtain ⟨CL, hCL, hR5, hT5⟩ := HNO.out w4 (Tn.bel B4.out _) (HR2'.out.bel B4.out) HC.out
      exact HS1.out _ _ hCL hR5 hT5 (of_decide_eq_true s1)
    · go_wp2
      go_end0
      obtain ⟨CL, hCL, hR5, hT5⟩ := HNO.out w4 (Tn.bel B4.out _) (HR2'.out.bel B4.out) HC.out
      exact HS0.out _ _ hCL hR5 hT5 (by have := of_decide_eq_false s1; omega)

end Go.Proofs.YtplnfepdikbpfaaGreatDoor
