/- The walks of the reader's read at a function's type. Condition: the reader is a block of its own; read's contract one level deeper. -/
import Derived.Test.YtplnfepdikbpfaaGreatDoorUJ
import Derived.Test.YtplnfepdikbpfaaGreatDoorUF
namespace Go.Proofs.YtplnfepdikbpfaaGreatDoor
open Go.RowKit
set_option linter.unusedVariables false
set_option linter.unusedSimpArgs false
attribute [local go_sem ↓] Go.wp_at_zero Go.wp_at_succ

/-- A type is appended to a slice of types of the call's own, at a step of a region that draws. -/
theorem step_ty {ops : Array Oper} {o : Oper} {a : Act} {K : Act → World → Prop} {Q : Exit → Act → World → Prop} {E : Prop} {W : World} (ok : Nat → Prop) (base : Nat) (hgd : o.guard = none) (s x : Operand)
    (ho : o.op = .call { callee := .builtin .append, args := #[s, x], argTypes := #[22, 22] })
    (v : Value) (ts : List Ty) (t : Ty) (A : Option Addr) (c : Nat) (hs : a.eval s = v) (n : Nat) (hx : a.eval x = .slice (some ⟨n, 0, none⟩) 1 1) (hn : n = W.heap.size)
    (HO : OwnTy ok W base v ts) (HT : Ok1 t ∧ RdL (fun b => ok b ∧ b < W.heap.size ∧ v.ownBlock ≠ some b) W (.slice A t.args.length c) t.args) (hbase : base ≤ W.heap.size) (hl : ts.length ≤ 1000000)
    (h : ∀ v1 w1, OwnTy ok w1 base v1 (ts ++ [t]) → W.grownBy w1 v.ownBlock → (v1.ownBlock = v.ownBlock ∨ ∃ g, W.heap.size ≤ g ∧ v1.ownBlock = some g) → K (a.put o.dst v1) w1) :
    if Region.wanted o (yielded ops a.tmps) = true then Oper.wp Tryz.prog o a (W.alloc (.cells #[.int .i64 t.kind, .string (S t.mod), .string (S t.name), .slice A t.args.length c, .int .i64 t.var] 24)) K Q else E := by
  subst hn
  obtain ⟨i0, hi, hzz⟩ := Option.map_eq_some_iff.1 infoTy
  simp only [Prod.mk.injEq] at hzz
  obtain ⟨hz0, hz1, hz2⟩ := hzz
  obtain ⟨L, hL, h1, h2⟩ := HO
  have hLl : L.length = ts.length := by rw [← hL]; simp
  refine step_append_at (W.alloc (.cells #[.int .i64 t.kind, .string (S t.mod), .string (S t.name), .slice A t.args.length c, .int .i64 t.var] 24)) hgd s x 22 ho base 24 i0 _ 5 72 Tryz.underlying22 hi hz0 hz1 hz2 rfl (by decide) v L.length (tyCells L) hs (World.ownsRow.alloc h1 _) ⟨W.heap.size, 0, none⟩ 1 1 [.int .i64 t.kind, .string (S t.mod), .string (S t.name), .slice A t.args.length c, .int .i64 t.var] hx rfl
    (fun j u hj => by rcases j with _ | _ | _ | _ | _ | j <;> simp at hj <;> subst hj <;> simp [Addr.add]) (by intro u hu; simp at hu; rcases hu with rfl | rfl | rfl | rfl | rfl <;> rfl) (by simp only [maxLen]; omega) (by omega) (by simp; omega) ?_
  intro v1 w1 hown hg hat
  have hgW : W.grownBy w1 v.ownBlock := gb_trans (gb_alloc W _ _) hg
  have hnew : ∀ b, b < W.heap.size → v.ownBlock ≠ some b → v1.ownBlock ≠ some b := by
    intro b hb hne
    rcases hat with e | e
    · rw [e]; exact hne
    · rw [e]; intro e2; simp at e2; omega
  refine h v1 w1 ⟨L ++ [(t, A, c)], by simp [hL], ?_, ?_⟩ hgW ?_
  · rw [tyCells_append, List.length_append]
    exact hown
  · intro y hy
    rcases List.mem_append.1 hy with hy | hy
    · obtain ⟨g1, g2⟩ := h2 y hy
      exact ⟨g1, g2.turn (fun b hb => ⟨hb.1, Nat.lt_of_lt_of_le hb.2.1 hgW.size, hnew b hb.2.1 hb.2.2⟩) fun b o hb => World.cell?_of_block (hgW.block b hb.2.1 (Ne.symm hb.2.2))⟩
    · obtain rfl := List.mem_singleton.1 hy
      exact ⟨HT.1, HT.2.turn (fun b hb => ⟨hb.1, Nat.lt_of_lt_of_le hb.2.1 hgW.size, hnew b hb.2.1 hb.2.2⟩) fun b o hb => World.cell?_of_block (hgW.block b hb.2.1 (Ne.symm hb.2.2))⟩
  · rcases hat with e | e
    · exact .inl e
    · exact .inr ⟨_, by simp, e⟩

/-- What the region's loads read: block q holds a function's type, x the reader's pointer. -/
def FnCells (q x p : Nat) (A : Option Addr) (n c : Nat) (W : World) : Prop :=
  W.cell? ⟨q, 3, none⟩ = some (.slice A n c) ∧ W.cell? ⟨x, 0, none⟩ = some (.pointer (some ⟨p, 0, none⟩))
/-- The value of a cell. -/
def cellD (W : World) (q o : Nat) : Value := (W.cell? ⟨q, o, none⟩).getD undef
theorem cellD_of {W : World} {q o : Nat} {v : Value} (h : W.cell? ⟨q, o, none⟩ = some v) : W.cell? ⟨q, o, none⟩ = some (cellD W q o) := by unfold cellD; rw [h]; rfl
theorem cellD_eq {W : World} {q o : Nat} {v : Value} (h : W.cell? ⟨q, o, none⟩ = some v) : cellD W q o = v := by unfold cellD; rw [h]; rfl
/-- .. said of a world in which the first cell may have been written. -/
def FnS (q x p : Nat) (W : World) : Prop := W.cell? ⟨q, 3, none⟩ = some (cellD W q 3) ∧ W.cell? ⟨x, 0, none⟩ = some (.pointer (some ⟨p, 0, none⟩))
theorem FnCells.s {q x p : Nat} {A : Option Addr} {n c : Nat} {W : World} (h : FnCells q x p A n c W) : FnS q x p W := ⟨cellD_of h.1, h.2⟩
theorem FnCells.set {q x p : Nat} {A : Option Addr} {n c : Nat} {W : World} (h : FnCells q x p A n c W) (hne : x ≠ q) (v : Value) : FnS q x p (W.setCell ⟨q, 3, none⟩ v) :=
  ⟨cellD_of (World.cell?_setCell_same _ _ _ h.1), (World.cell?_setCell_other _ _ _ _ (by intro e; simp only [Addr.mk.injEq] at e; exact hne e.1.symm)).trans h.2⟩

set_option maxRecDepth 100000 in
set_option maxHeartbeats 16000000 in
theorem read_fn0 (d : Int) (ih : ReadAt (d + 1)) (p B : Nat) (s : List UInt8) (w : World) (hr : RdrAt w p s false d) (hs : s.length ≤ 20000) (he : EnvB B w) (hBp : B ≤ p) (h0 : 0 ≤ d) (h1 : d + 1 ≤ 100) (n1 : skipB s [40] = true) (n2 : skipB (skipL s [40]) [41] = true) :
    Calls Tryz.prog 61 #[.pointer (some ⟨p, 0, none⟩)] w (ReadPost w p d s false) := by
  have HR := Lib.hid hr
  have pl := hr.lt
  have pl1 : p < w.heap.size + 1 := by omega
  have c1 := hr.c1
  have c2 := hr.c2
  have f2 := hr.free 2
  clear hr
  have hmf : ∀ (fn : Fn) (first cap : Array Value) (w : World), (Instr.makeFunc fn first cap).run Tryz.prog w = .ok (.func fn first cap) w := fun _ _ _ _ => rfl
  have k1 : decide (d + 1 > 100) = false := decide_eq_false (by omega)
  have hpw : B ≤ w.heap.size := by omega
  have N1 := Lib.hid n1; have N2 := Lib.hid n2; have HE := Lib.hid he
  clear n1 n2 he
  go_enter_defers Tryz.func61, Tryz.ntmps61
  go_wp2_with fail
  have I0 := Lib.hid (InRead.first (s := s) (b := false) (d := d) HR.out)
  refine (skip_calls p s [40] false (d + 1) _ I0.out.r).mono ?_
  rintro e w1 ⟨rfl, hr1, hg1⟩
  rw [N1.out]
  have hl1 := skipL_le s [40]
  obtain ⟨u, hu⟩ : ∃ u, u = skipL s [40] := ⟨_, rfl⟩
  rw [← hu] at hr1 hl1
  have HU := Lib.hid hu; clear hu
  have I1 := Lib.hid (I0.out.next pl hr1 hg1)
  clear hr1 hg1 I0 c1 c2 f2
  have x1 := I1.out.x
  have z1 := I1.out.z
  have z10 : w.heap.size < w1.heap.size := by omega
  go_wp2_with fail
  have hal := Lib.hid (gb_alloc w1 (.cells #[.int .i64 5, .string ⟨#[]⟩, .string ⟨#[]⟩, .slice none 0 0, .int .i64 0] 24) (some p))
  have I1a := Lib.hid (I1.out.next pl (I1.out.r.called (bel_alloc (Below.refl _ _) _)) hal.out)
  refine (skip_calls p u [41] false (d + 1) _ I1a.out.r).mono ?_
  rintro e w2 ⟨rfl, hr2, hg2⟩
  have N2u : skipB u [41] = true := by rw [HU.out]; exact N2.out
  rw [N2u]
  clear N2u
  have I2 := Lib.hid (I1a.out.next pl hr2 hg2)
  have z2 : w1.heap.size < w2.heap.size := by have := hg2.size; simp at this; omega
  have hq : ∀ o, w2.cell? ⟨w1.heap.size, o, none⟩ = (w1.alloc (.cells #[.int .i64 5, .string ⟨#[]⟩, .string ⟨#[]⟩, .slice none 0 0, .int .i64 0] 24)).cell? ⟨w1.heap.size, o, none⟩ := fun o => gb_cell hg2 (by simp) (by omega)
  have q0 := hq 0
  have q1 := hq 1
  have q2 := hq 2
  have q3 := hq 3
  have q4 := hq 4
  have qf : ∀ o, w2.frozen? ⟨w1.heap.size, o, none⟩ = false := fun o => (World.frozen?_of_block (hg2.block _ (by simp) (by simp; omega))).trans (by simp)
  simp at q0 q1 q2 q3 q4
  have hl2 := skipL_le u [41]
  have x2 := I2.out.x
  clear hr2 hg2 I1a hal hq I1 x1 z10
  have HO := Lib.hid (OwnTy.nil (fun b => w2.heap.size ≤ b) w2 w2.heap.size)
  have hll : (skipL u [41]).length ≤ 20000 := by omega
  go_wp2_with fail
  refine (must_calls p (skipL u [41]) [32, 45, 62, 32] false (d + 1) w2 I2.out.r).mono ?_
  rintro e w5 ⟨rfl, hr5, hg5⟩
  rw [Bool.false_or] at hr5
  have I5 := Lib.hid (I2.out.next pl hr5 hg5)
  have z5 : w2.heap.size ≤ w5.heap.size := hg5.size
  have hO5 := Lib.hid (HO.out.grown hg5 (fun k e => ⟨by have := Option.some.inj e; omega, fun e2 => by simp [Value.ownBlock] at e2⟩))
  have k5 : ∀ o, w5.cell? ⟨w1.heap.size, o, none⟩ = w2.cell? ⟨w1.heap.size, o, none⟩ := fun o => gb_cell hg5 z2 (by omega)
  have kf5 : ∀ o, w5.frozen? ⟨w1.heap.size, o, none⟩ = false := fun o => (World.frozen?_of_block (hg5.block _ z2 (by simp; omega))).trans (qf o)
  have p0 := (k5 0).trans q0
  have p1 := (k5 1).trans q1
  have p2 := (k5 2).trans q2
  have p3 := (k5 3).trans q3
  have p4 := (k5 4).trans q4
  clear q0 q1 q2 q3 q4 qf k5 hr5 hg5 I2 x2 HO
  have hlen : ([] : List Ty).length ≤ 20001 := by simp
  have hl5 := skipL_le (skipL u [41]) [32, 45, 62, 32]
  have HFX := Lib.hid (show ∀ g t s' b', readF g (skipL (skipL u [41]) [32, 45, 62, 32]) (!skipB (skipL u [41]) [32, 45, 62, 32]) (d + 1) = some (t, s', b') → ∃ f, readF f s false d = some (.mk 5 [] [] ([] ++ [t]) 0, s', b') from fun g t s' b' hg => ⟨g + 1, by
    rw [readF, if_neg (by simp; omega), if_pos N1.out, if_pos N2.out, ← HU.out, hg]; rfl⟩)
  obtain ⟨s5, hs5⟩ : ∃ s5, s5 = skipL (skipL u [41]) [32, 45, 62, 32] := ⟨_, rfl⟩
  obtain ⟨b5, hb5⟩ : ∃ b5, b5 = (!skipB (skipL u [41]) [32, 45, 62, 32]) := ⟨_, rfl⟩
  rw [← hs5] at I5 hl5 HFX
  rw [← hb5] at I5 HFX
  clear hs5 hb5
  have x5 := I5.out.x
  have z50 := I5.out.z
  have S5 := Lib.hid (show FnCells w1.heap.size w.heap.size p none 0 0 w5.drew from ⟨p3, x5⟩)
  have KC := Lib.hid (show ∀ X, Tn (fun k => k = p ∨ w2.heap.size ≤ k) w5 X → FnCells w1.heap.size w.heap.size p none 0 0 X ∧ X.frozen? ⟨w1.heap.size, 3, none⟩ = false from fun X hT =>
    ⟨⟨(hT.cell (by omega) (by omega) 3).trans p3, (hT.cell (by omega) (by omega) 0).trans x5⟩, (hT.frozen (by omega) (by omega) 3).trans (kf5 3)⟩)
  have KQ := Lib.hid (show ∀ X, Tn (fun k => k = p ∨ w2.heap.size ≤ k) w5 X → X.cell? ⟨w1.heap.size, 0, none⟩ = some (.int .i64 5) ∧ X.cell? ⟨w1.heap.size, 1, none⟩ = some (.string ⟨#[]⟩) ∧ X.cell? ⟨w1.heap.size, 2, none⟩ = some (.string ⟨#[]⟩) ∧ X.cell? ⟨w1.heap.size, 4, none⟩ = some (.int .i64 0) from fun X hT =>
    ⟨(hT.cell (by omega) (by omega) 0).trans p0, (hT.cell (by omega) (by omega) 1).trans p1, (hT.cell (by omega) (by omega) 2).trans p2, (hT.cell (by omega) (by omega) 4).trans p4⟩)
  have hEB := Lib.hid (HE.out.next (gb_bel I5.out.g hpw hBp))
  have hB5 : B ≤ w5.heap.size := by omega
  have hs5 : s5.length ≤ 20000 := by omega
  have OL := Lib.hid hO5.out.lt
  have hl6 : ([] : List Ty).length ≤ 1000000 := by omega
  have hED := Lib.hid (hEB.out.next ((bel_drew (Below.refl _ _)).mono hB5))
  have HRD5 := Lib.hid (show RdrAt w5.drew p s5 b5 (d + 1) from I5.out.r)
  have ARM6 := Lib.hid (show ∀ (w6 : World) (s6 : List UInt8) (b6 : Bool) (t : Ty) (A6 : Option Addr) (c6 : Nat), RdrAt w6 p s6 b6 (d + 1) → w5.drew.grownBy w6 (some p) → RdL (fun b => w5.drew.heap.size ≤ b ∧ b < w6.heap.size) w6 (.slice A6 t.args.length c6) t.args → Ok1 t →
      FnCells w1.heap.size w.heap.size p none 0 0 w6 ∧
      (∀ o, FnCells w1.heap.size w.heap.size p none 0 0 (w6.alloc o)) ∧
      Tn (fun k => k = p ∨ w2.heap.size ≤ k) w5 w6 ∧ OwnTy (fun b => w2.heap.size ≤ b) w6 w2.heap.size (.slice none 0 0) ([] : List Ty) ∧
      (Ok1 t ∧ RdL (fun b => w2.heap.size ≤ b ∧ b < w6.heap.size ∧ (Value.slice none 0 0).ownBlock ≠ some b) w6 (.slice A6 t.args.length c6) t.args) ∧ InRead w p s6 b6 d w6 ∧ w2.heap.size ≤ w6.heap.size from by
    intro w6 s6 b6 t A6 c6 hr6 hg6 hrd6 hok6
    have T6 : Tn (fun k => k = p ∨ w2.heap.size ≤ k) w5 w6 := (Tn.bel (bel_drew (Below.refl _ _)) _).trans (Tn.gb hg6 (fun k e => .inl (.inl (Option.some.inj e).symm)))
    have hz6 := T6.size
    have G6 := gb_trans (gb_below (bel_drew (Below.refl w5.heap.size w5)) (some p)) hg6
    refine ⟨(KC.out w6 T6).1, fun o => (KC.out (w6.alloc o) (T6.trans (Tn.alloc _ _ _))).1, T6, hO5.out.grown G6 (fun k e => ⟨by have := Option.some.inj e; omega, fun e2 => by have := Option.some.inj e; have := OL.out _ e2; omega⟩), ⟨hok6, hrd6.weak (fun b hb => ?_)⟩, I5.out.next pl hr6 G6, by omega⟩
    have h1 : w5.heap.size ≤ b := hb.1
    exact ⟨by omega, hb.2, fun e2 => by have := OL.out _ e2; omega⟩)
  have ARM8 := Lib.hid (show ∀ (w6 : World) (s6 : List UInt8) (b6 : Bool) (w8 : World), Tn (fun k => k = p ∨ w2.heap.size ≤ k) w5 w6 → InRead w p s6 b6 d w6 → w6.grownBy w8 (Value.slice none 0 0).ownBlock →
      Tn (fun k => k = p ∨ w2.heap.size ≤ k) w5 w8 ∧ FnCells w1.heap.size w.heap.size p none 0 0 w8 ∧ InRead w p s6 b6 d w8 ∧ w8.frozen? ⟨w1.heap.size, 3, none⟩ = false from by
    intro w6 s6 b6 w8 T6 I6 hg8
    have T8 : Tn (fun k => k = p ∨ w2.heap.size ≤ k) w5 w8 := T6.trans (Tn.gb hg8 (fun k e => .inl (.inr (OL.out k e).1)))
    exact ⟨T8, (KC.out w8 T8).1, I6.own pl hg8 (fun k e => by have := OL.out k e; omega), (KC.out w8 T8).2⟩)
  clear p0 p1 p2 p4 kf5
  have z15 : w1.heap.size < w5.heap.size := by omega
  have z05 : w.heap.size < w5.heap.size := by omega
  go_wp2_with fail
  refine wp_region_noPanic ?_
  go_region_law
    (first
      | (refine step_ty (fun b => w2.heap.size ≤ b) w2.heap.size (by rfl) (.tmp 43) (.tmp 46) (by rfl) (.slice none 0 0) ([] : List Ty) t A6 c6 (by rfl) w6.heap.size (by rfl) (by rfl) hO6.out hT6.out hz6 hl6 ?_; intro v1 w8 hown8 hg8 hat8; obtain ⟨A8, c8, hv8, hc8⟩ := hown8.length; have hv9 := hv8.trans (congrArg (fun z => Value.slice A8 z c8) (show (([] : List Ty) ++ [t]).length = 1 from (List.length_append ..))); subst hv9; clear hv8; obtain ⟨T8q, S8q, I8q, q8⟩ := ARM8.out w6 s6 b6 w8 T6.out I6.out hg8; have T8 := Lib.hid T8q; have p38 := S8q.1; have S8 := Lib.hid S8q; have I8 := Lib.hid I8q; have hz8 := hg8.size; have hO8 := Lib.hid hown8; clear T8q S8q I8q hown8 hg8 hat8 s60 s61)
      | (go_simp; go_at_call 61; refine (ih p B s5 b5 w5.drew HRD5.out hs5 hED.out hBp).mono ?_; rintro e w6 ⟨g, t, s6, b6, va, hF6, rfl, ⟨hok6, A6, c6, rfl, hrd6⟩, hr6, hg6⟩; have A66 := ARM6.out w6 s6 b6 t A6 c6 hr6 hg6 hrd6 hok6; obtain ⟨⟨s60, s61⟩, -, T6q, hO6q, hT6q, I6q, hz6⟩ := A66; have z16 := Nat.lt_of_lt_of_le z15 T6q.size; have z06 := Nat.lt_of_lt_of_le z05 T6q.size; have T6 := Lib.hid T6q; have hO6 := Lib.hid hO6q; have hT6 := Lib.hid hT6q; have I6 := Lib.hid I6q; have HF6 := Lib.hid hF6; clear T6q hO6q hT6q I6q hF6 hr6 hg6 hrd6 hok6; unfold tyV)
      | fail)
  all_goals
    refine NoPanic.normal ?_
    have y0 := I8.out.c0
    have y1 := I8.out.c1
    have y2 := I8.out.c2
    have y3 := I8.out.c3
    have y4 := I8.out.c4
    have yf := I8.out.f
    have z8 := I8.out.z
    have p3 := S8.out.1
    obtain ⟨p0, p1, p2, p4⟩ := KQ.out w8 T8.out
    have z18 : w1.heap.size < w8.heap.size := by omega
    have zne : w1.heap.size ≠ w.heap.size + 1 := by omega
    have I9 := Lib.hid (I8.out.own pl (gb_set w8 w1.heap.size 3 (.slice A8 1 c8)) (fun k e => by have := Option.some.inj e; omega))
    have hlt : (([] : List Ty) ++ [t]).length ≤ 30000 := by rw [List.length_append]; simp only [List.length_cons, List.length_nil] at hlen ⊢; omega
    have hRd : RdL (fun b => w2.heap.size ≤ b ∧ b < w8.heap.size) w8 (.slice A8 1 c8) (([] : List Ty) ++ [t]) := hO8.out.read (by omega) _ (fun b h1 h2 => ⟨h1, h2⟩) (fun b hb => hO8.out.lt b hb)
    have HRD := Lib.hid (show RdL (fun b => w.heap.size + 1 < b ∧ b < (w8.setCell ⟨w1.heap.size, 3, none⟩ (.slice A8 1 c8)).heap.size) (w8.setCell ⟨w1.heap.size, 3, none⟩ (.slice A8 1 c8)) (.slice A8 1 c8) (([] : List Ty) ++ [t]) from
        hRd.turn (fun b h => ⟨by omega, by simpa using h.2⟩) fun b o h => World.cell?_setCell_other _ _ _ _ (by intro e; simp only [Addr.mk.injEq] at e; omega))
    clear I8 S5 S8 KC KQ T6 T8 hO6 hT6 I6 hO8 hRd hO5 OL I5 hEB HE hED ARM6 ARM8 HRD5
    have HLT := Lib.hid hlt; have HLN := Lib.hid hlen; clear hlt hlen
    go_wp2_with fail
    obtain ⟨f0, hf0⟩ := HFX.out _ _ _ _ HF6.out
    exact read_ends2 _ w p pl s s6 false b6 d h0 (by omega) (.mk 5 [] [] (([] : List Ty) ++ [t]) 0) ⟨by simp [Ty.mod], by simp [Ty.name]⟩ A8 c8 1 (List.length_append ..) _ I9.out HRD.out (by simp) (by simp) f0 hf0

set_option maxRecDepth 100000 in
set_option maxHeartbeats 16000000 in
theorem read_fn1 (d : Int) (ih : ReadAt (d + 1)) (p B : Nat) (s : List UInt8) (w : World) (hr : RdrAt w p s false d) (hs : s.length ≤ 20000) (he : EnvB B w) (hBp : B ≤ p) (h0 : 0 ≤ d) (h1 : d + 1 ≤ 100) (n1 : skipB s [40] = true) (n2 : skipB (skipL s [40]) [41] = false) :
    Calls Tryz.prog 61 #[.pointer (some ⟨p, 0, none⟩)] w (ReadPost w p d s false) := by
  have HR := Lib.hid hr
  have pl := hr.lt
  have pl1 : p < w.heap.size + 1 := by omega
  have c1 := hr.c1
  have c2 := hr.c2
  have f2 := hr.free 2
  clear hr
  have hmf : ∀ (fn : Fn) (first cap : Array Value) (w : World), (Instr.makeFunc fn first cap).run Tryz.prog w = .ok (.func fn first cap) w := fun _ _ _ _ => rfl
  have k1 : decide (d + 1 > 100) = false := decide_eq_false (by omega)
  have hpw : B ≤ w.heap.size := by omega
  have N1 := Lib.hid n1; have N2 := Lib.hid n2; have HE := Lib.hid he
  clear n1 n2 he
  go_enter_defers Tryz.func61, Tryz.ntmps61
  go_wp2_with fail
  have I0 := Lib.hid (InRead.first (s := s) (b := false) (d := d) HR.out)
  refine (skip_calls p s [40] false (d + 1) _ I0.out.r).mono ?_
  rintro e w1 ⟨rfl, hr1, hg1⟩
  rw [N1.out]
  have hl1 := skipL_le s [40]
  obtain ⟨u, hu⟩ : ∃ u, u = skipL s [40] := ⟨_, rfl⟩
  rw [← hu] at hr1 hl1
  have HU := Lib.hid hu; clear hu
  have I1 := Lib.hid (I0.out.next pl hr1 hg1)
  clear hr1 hg1 I0 c1 c2 f2
  have x1 := I1.out.x
  have z1 := I1.out.z
  have z10 : w.heap.size < w1.heap.size := by omega
  go_wp2_with fail
  have hal := Lib.hid (gb_alloc w1 (.cells #[.int .i64 5, .string ⟨#[]⟩, .string ⟨#[]⟩, .slice none 0 0, .int .i64 0] 24) (some p))
  have I1a := Lib.hid (I1.out.next pl (I1.out.r.called (bel_alloc (Below.refl _ _) _)) hal.out)
  refine (skip_calls p u [41] false (d + 1) _ I1a.out.r).mono ?_
  rintro e w2 ⟨rfl, hr2, hg2⟩
  have N2u : skipB u [41] = false := by rw [HU.out]; exact N2.out
  rw [N2u]
  clear N2u
  have I2 := Lib.hid (I1a.out.next pl hr2 hg2)
  have z2 : w1.heap.size < w2.heap.size := by have := hg2.size; simp at this; omega
  have hq : ∀ o, w2.cell? ⟨w1.heap.size, o, none⟩ = (w1.alloc (.cells #[.int .i64 5, .string ⟨#[]⟩, .string ⟨#[]⟩, .slice none 0 0, .int .i64 0] 24)).cell? ⟨w1.heap.size, o, none⟩ := fun o => gb_cell hg2 (by simp) (by omega)
  have q0 := hq 0
  have q1 := hq 1
  have q2 := hq 2
  have q3 := hq 3
  have q4 := hq 4
  have qf : ∀ o, w2.frozen? ⟨w1.heap.size, o, none⟩ = false := fun o => (World.frozen?_of_block (hg2.block _ (by simp) (by simp; omega))).trans (by simp)
  simp at q0 q1 q2 q3 q4
  have hl2 := skipL_le u [41]
  have x2 := I2.out.x
  clear hr2 hg2 I1a hal hq I1 x1 z10
  rw [skip_no (HU.out ▸ N2.out)] at I2
  go_wp2_with fail
  refine (list_calls (d + 1) ih p B [41] u (by simp) false w2 I2.out.r (by omega) (HE.out.next (gb_bel I2.out.g hpw hBp)) hBp).mono ?_
  rintro e w3 ⟨f, ts, s3, b3, v, hL, rfl, hown, hlen, hr3, hg3⟩
  obtain ⟨A, c, rfl, hc⟩ := hown.length
  have I3 := Lib.hid (I2.out.next pl hr3 hg3)
  have z3 := hg3.size
  have k3 : ∀ o, w3.cell? ⟨w1.heap.size, o, none⟩ = w2.cell? ⟨w1.heap.size, o, none⟩ := fun o => gb_cell hg3 z2 (by omega)
  have pf : ∀ o, w3.frozen? ⟨w1.heap.size, o, none⟩ = false := fun o => (World.frozen?_of_block (hg3.block _ z2 (by simp; omega))).trans (qf o)
  have r0 := (k3 0).trans q0
  have r1 := (k3 1).trans q1
  have r2 := (k3 2).trans q2
  have r3 := (k3 3).trans q3
  have r4 := (k3 4).trans q4
  have hown1 := Lib.hid hown.lt
  have I4 := Lib.hid (I3.out.own pl (gb_set w3 w1.heap.size 3 (.slice A ts.length c)) (fun k e => by have := Option.some.inj e; omega))
  have hO4 := Lib.hid (hown.grown (gb_set w3 w1.heap.size 3 (.slice A ts.length c)) (fun k e => ⟨by have := Option.some.inj e; omega, fun e2 => by have := Option.some.inj e; have := hown1.out _ e2; omega⟩))
  have HL := Lib.hid hL
  have hl3 := (read_takes f).2 _ _ _ _ _ _ _ _ hL
  have x3 := I3.out.x
  clear hL hown hr3 hg3 k3 q0 q1 q2 q3 q4 qf I2 x2 I3
  go_wp2_with fail
  refine (must_calls p s3 [32, 45, 62, 32] b3 (d + 1) _ I4.out.r).mono ?_
  rintro e w5 ⟨rfl, hr5, hg5⟩
  have I5 := Lib.hid (I4.out.next pl hr5 hg5)
  have z5 : w2.heap.size ≤ w5.heap.size := by have := hg5.size; simp at this; omega
  have hO5 := Lib.hid (hO4.out.grown hg5 (fun k e => ⟨by have := Option.some.inj e; omega, fun e2 => by have := Option.some.inj e; have := hown1.out _ e2; omega⟩))
  have k5 : ∀ o, w5.cell? ⟨w1.heap.size, o, none⟩ = (w3.setCell ⟨w1.heap.size, 3, none⟩ (.slice A ts.length c)).cell? ⟨w1.heap.size, o, none⟩ := fun o => gb_cell hg5 (by simp; omega) (by omega)
  have kf5 : ∀ o, w5.frozen? ⟨w1.heap.size, o, none⟩ = false := fun o => (World.frozen?_of_block (hg5.block _ (by simp; omega) (by simp; omega))).trans (by simpa using pf o)
  have oth : ∀ i, i ≠ 3 → (w3.setCell ⟨w1.heap.size, 3, none⟩ (.slice A ts.length c)).cell? ⟨w1.heap.size, i, none⟩ = w3.cell? ⟨w1.heap.size, i, none⟩ := fun i hi => World.cell?_setCell_other _ _ _ _ (by intro e; simp only [Addr.mk.injEq] at e; exact hi e.2.1.symm)
  have p0 := ((k5 0).trans (oth 0 (by omega))).trans r0
  have p1 := ((k5 1).trans (oth 1 (by omega))).trans r1
  have p2 := ((k5 2).trans (oth 2 (by omega))).trans r2
  have p3 := (k5 3).trans (World.cell?_setCell_same _ _ _ r3)
  have p4 := ((k5 4).trans (oth 4 (by omega))).trans r4
  clear r0 r1 r2 r3 r4 pf k5 oth hr5 hg5 I4 x3 hO4 hown1
  have hl5 := skipL_le s3 [32, 45, 62, 32]
  have HFX := Lib.hid (show ∀ g t s' b', readF g (skipL s3 [32, 45, 62, 32]) (b3 || !skipB s3 [32, 45, 62, 32]) (d + 1) = some (t, s', b') → ∃ f, readF f s false d = some (.mk 5 [] [] (ts ++ [t]) 0, s', b') from fun g t s' b' hg => ⟨max f g + 1, by
    rw [readF, if_neg (by simp; omega), if_pos N1.out, if_neg (by rw [N2.out]; simp), ← HU.out, listF_le (Nat.le_max_left f g) HL.out]
    simp only
    rw [readF_le (Nat.le_max_right f g) hg]; rfl⟩)
  obtain ⟨s5, hs5⟩ : ∃ s5, s5 = skipL s3 [32, 45, 62, 32] := ⟨_, rfl⟩
  obtain ⟨b5, hb5⟩ : ∃ b5, b5 = (b3 || !skipB s3 [32, 45, 62, 32]) := ⟨_, rfl⟩
  rw [← hs5] at I5 hl5 HFX
  rw [← hb5] at I5 HFX
  clear hs5 hb5
  have x5 := I5.out.x
  have z50 := I5.out.z
  have S5 := Lib.hid (show FnCells w1.heap.size w.heap.size p A ts.length c w5.drew from ⟨p3, x5⟩)
  have KC := Lib.hid (show ∀ X, Tn (fun k => k = p ∨ w2.heap.size ≤ k) w5 X → FnCells w1.heap.size w.heap.size p A ts.length c X ∧ X.frozen? ⟨w1.heap.size, 3, none⟩ = false from fun X hT =>
    ⟨⟨(hT.cell (by omega) (by omega) 3).trans p3, (hT.cell (by omega) (by omega) 0).trans x5⟩, (hT.frozen (by omega) (by omega) 3).trans (kf5 3)⟩)
  have KQ := Lib.hid (show ∀ X, Tn (fun k => k = p ∨ w2.heap.size ≤ k) w5 X → X.cell? ⟨w1.heap.size, 0, none⟩ = some (.int .i64 5) ∧ X.cell? ⟨w1.heap.size, 1, none⟩ = some (.string ⟨#[]⟩) ∧ X.cell? ⟨w1.heap.size, 2, none⟩ = some (.string ⟨#[]⟩) ∧ X.cell? ⟨w1.heap.size, 4, none⟩ = some (.int .i64 0) from fun X hT =>
    ⟨(hT.cell (by omega) (by omega) 0).trans p0, (hT.cell (by omega) (by omega) 1).trans p1, (hT.cell (by omega) (by omega) 2).trans p2, (hT.cell (by omega) (by omega) 4).trans p4⟩)
  have hEB := Lib.hid (HE.out.next (gb_bel I5.out.g hpw hBp))
  have hB5 : B ≤ w5.heap.size := by omega
  have hs5 : s5.length ≤ 20000 := by omega
  have OL := Lib.hid hO5.out.lt
  have hl6 : ts.length ≤ 1000000 := by omega
  have hED := Lib.hid (hEB.out.next ((bel_drew (Below.refl _ _)).mono hB5))
  have HRD5 := Lib.hid (show RdrAt w5.drew p s5 b5 (d + 1) from I5.out.r)
  have ARM6 := Lib.hid (show ∀ (w6 : World) (s6 : List UInt8) (b6 : Bool) (t : Ty) (A6 : Option Addr) (c6 : Nat), RdrAt w6 p s6 b6 (d + 1) → w5.drew.grownBy w6 (some p) → RdL (fun b => w5.drew.heap.size ≤ b ∧ b < w6.heap.size) w6 (.slice A6 t.args.length c6) t.args → Ok1 t →
      FnCells w1.heap.size w.heap.size p A ts.length c w6 ∧
      (∀ o, FnCells w1.heap.size w.heap.size p A ts.length c (w6.alloc o)) ∧
      Tn (fun k => k = p ∨ w2.heap.size ≤ k) w5 w6 ∧ OwnTy (fun b => w2.heap.size ≤ b) w6 w2.heap.size (.slice A ts.length c) ts ∧
      (Ok1 t ∧ RdL (fun b => w2.heap.size ≤ b ∧ b < w6.heap.size ∧ (Value.slice A ts.length c).ownBlock ≠ some b) w6 (.slice A6 t.args.length c6) t.args) ∧ InRead w p s6 b6 d w6 ∧ w2.heap.size ≤ w6.heap.size from by
    intro w6 s6 b6 t A6 c6 hr6 hg6 hrd6 hok6
    have T6 : Tn (fun k => k = p ∨ w2.heap.size ≤ k) w5 w6 := (Tn.bel (bel_drew (Below.refl _ _)) _).trans (Tn.gb hg6 (fun k e => .inl (.inl (Option.some.inj e).symm)))
    have hz6 := T6.size
    have G6 := gb_trans (gb_below (bel_drew (Below.refl w5.heap.size w5)) (some p)) hg6
    refine ⟨(KC.out w6 T6).1, fun o => (KC.out (w6.alloc o) (T6.trans (Tn.alloc _ _ _))).1, T6, hO5.out.grown G6 (fun k e => ⟨by have := Option.some.inj e; omega, fun e2 => by have := Option.some.inj e; have := OL.out _ e2; omega⟩), ⟨hok6, hrd6.weak (fun b hb => ?_)⟩, I5.out.next pl hr6 G6, by omega⟩
    have h1 : w5.heap.size ≤ b := hb.1
    exact ⟨by omega, hb.2, fun e2 => by have := OL.out _ e2; omega⟩)
  have ARM8 := Lib.hid (show ∀ (w6 : World) (s6 : List UInt8) (b6 : Bool) (w8 : World), Tn (fun k => k = p ∨ w2.heap.size ≤ k) w5 w6 → InRead w p s6 b6 d w6 → w6.grownBy w8 (Value.slice A ts.length c).ownBlock →
      Tn (fun k => k = p ∨ w2.heap.size ≤ k) w5 w8 ∧ FnCells w1.heap.size w.heap.size p A ts.length c w8 ∧ InRead w p s6 b6 d w8 ∧ w8.frozen? ⟨w1.heap.size, 3, none⟩ = false from by
    intro w6 s6 b6 w8 T6 I6 hg8
    have T8 : Tn (fun k => k = p ∨ w2.heap.size ≤ k) w5 w8 := T6.trans (Tn.gb hg8 (fun k e => .inl (.inr (OL.out k e).1)))
    exact ⟨T8, (KC.out w8 T8).1, I6.own pl hg8 (fun k e => by have := OL.out k e; omega), (KC.out w8 T8).2⟩)
  clear p0 p1 p2 p4 kf5
  have z15 : w1.heap.size < w5.heap.size := by omega
  have z05 : w.heap.size < w5.heap.size := by omega
  go_wp2_with fail
  refine wp_region_noPanic ?_
  go_region_law
    (first
      | (refine step_ty (fun b => w2.heap.size ≤ b) w2.heap.size (by rfl) (.tmp 43) (.tmp 46) (by rfl) (.slice A ts.length c) ts t A6 c6 (by rfl) w6.heap.size (by rfl) (by rfl) hO6.out hT6.out hz6 hl6 ?_; intro v1 w8 hown8 hg8 hat8; obtain ⟨A8, c8, hv8, hc8⟩ := hown8.length; have hv9 := hv8.trans (congrArg (fun z => Value.slice A8 z c8) (show (ts ++ [t]).length = (ts.length + 1) from (List.length_append ..))); subst hv9; clear hv8; obtain ⟨T8q, S8q, I8q, q8⟩ := ARM8.out w6 s6 b6 w8 T6.out I6.out hg8; have T8 := Lib.hid T8q; have p38 := S8q.1; have S8 := Lib.hid S8q; have I8 := Lib.hid I8q; have hz8 := hg8.size; have hO8 := Lib.hid hown8; clear T8q S8q I8q hown8 hg8 hat8 s60 s61)
      | (go_simp; go_at_call 61; refine (ih p B s5 b5 w5.drew HRD5.out hs5 hED.out hBp).mono ?_; rintro e w6 ⟨g, t, s6, b6, va, hF6, rfl, ⟨hok6, A6, c6, rfl, hrd6⟩, hr6, hg6⟩; have A66 := ARM6.out w6 s6 b6 t A6 c6 hr6 hg6 hrd6 hok6; obtain ⟨⟨s60, s61⟩, -, T6q, hO6q, hT6q, I6q, hz6⟩ := A66; have z16 := Nat.lt_of_lt_of_le z15 T6q.size; have z06 := Nat.lt_of_lt_of_le z05 T6q.size; have T6 := Lib.hid T6q; have hO6 := Lib.hid hO6q; have hT6 := Lib.hid hT6q; have I6 := Lib.hid I6q; have HF6 := Lib.hid hF6; clear T6q hO6q hT6q I6q hF6 hr6 hg6 hrd6 hok6; unfold tyV)
      | fail)
  all_goals
    refine NoPanic.normal ?_
    have y0 := I8.out.c0
    have y1 := I8.out.c1
    have y2 := I8.out.c2
    have y3 := I8.out.c3
    have y4 := I8.out.c4
    have yf := I8.out.f
    have z8 := I8.out.z
    have p3 := S8.out.1
    obtain ⟨p0, p1, p2, p4⟩ := KQ.out w8 T8.out
    have z18 : w1.heap.size < w8.heap.size := by omega
    have zne : w1.heap.size ≠ w.heap.size + 1 := by omega
    have I9 := Lib.hid (I8.out.own pl (gb_set w8 w1.heap.size 3 (.slice A8 (ts.length + 1) c8)) (fun k e => by have := Option.some.inj e; omega))
    have hlt : (ts ++ [t]).length ≤ 30000 := by rw [List.length_append]; simp only [List.length_cons, List.length_nil] at hlen ⊢; omega
    have hRd : RdL (fun b => w2.heap.size ≤ b ∧ b < w8.heap.size) w8 (.slice A8 (ts.length + 1) c8) (ts ++ [t]) := hO8.out.read (by omega) _ (fun b h1 h2 => ⟨h1, h2⟩) (fun b hb => hO8.out.lt b hb)
    have HRD := Lib.hid (show RdL (fun b => w.heap.size + 1 < b ∧ b < (w8.setCell ⟨w1.heap.size, 3, none⟩ (.slice A8 (ts.length + 1) c8)).heap.size) (w8.setCell ⟨w1.heap.size, 3, none⟩ (.slice A8 (ts.length + 1) c8)) (.slice A8 (ts.length + 1) c8) (ts ++ [t]) from
        hRd.turn (fun b h => ⟨by omega, by simpa using h.2⟩) fun b o h => World.cell?_setCell_other _ _ _ _ (by intro e; simp only [Addr.mk.injEq] at e; omega))
    clear I8 S5 S8 KC KQ T6 T8 hO6 hT6 I6 hO8 hRd hO5 OL I5 hEB HE hED ARM6 ARM8 HRD5
    have HLT := Lib.hid hlt; have HLN := Lib.hid hlen; clear hlt hlen
    go_wp2_with fail
    obtain ⟨f0, hf0⟩ := HFX.out _ _ _ _ HF6.out
    exact read_ends2 _ w p pl s s6 false b6 d h0 (by omega) (.mk 5 [] [] (ts ++ [t]) 0) ⟨by simp [Ty.mod], by simp [Ty.name]⟩ A8 c8 (ts.length + 1) (List.length_append ..) _ I9.out HRD.out (by simp) (by simp) f0 hf0

end Go.Proofs.YtplnfepdikbpfaaGreatDoor
