/- The walk of the reader's read at a name with a point. Condition: the reader is a block of its own; read's contract one level deeper. -/
import Derived.Test.YtplnfepdikbpfaaGreatDoorUS
namespace Go.Proofs.YtplnfepdikbpfaaGreatDoor
open Go.RowKit
set_option linter.unusedVariables false
set_option linter.unusedSimpArgs false

/-- The same body's world, another block behind the result's turned. -/
theorem InRead.own {w : World} {p : Nat} {s : List UInt8} {b : Bool} {d : Int} {W X : World} (h : InRead w p s b d W) (hp : p < w.heap.size) {r : Option Nat} (hg : W.grownBy X r) (hr : ∀ k, r = some k → w.heap.size + 1 < k) : InRead w p s b d X := by
  have hz := h.z
  have kk : ∀ k, k ≤ w.heap.size + 1 → r ≠ some k := fun k hk e => by have := hr k e; omega
  have k0 : ∀ o, X.cell? ⟨w.heap.size, o, none⟩ = W.cell? ⟨w.heap.size, o, none⟩ := fun o => World.cell?_of_block (hg.block _ (by show w.heap.size < _; omega) (Ne.symm (kk _ (by show w.heap.size ≤ _; omega))))
  have k1 : ∀ o, X.cell? ⟨w.heap.size + 1, o, none⟩ = W.cell? ⟨w.heap.size + 1, o, none⟩ := fun o => World.cell?_of_block (hg.block _ (by show w.heap.size + 1 < _; omega) (Ne.symm (kk _ (by show w.heap.size + 1 ≤ _; omega))))
  exact ⟨h.r.grown hg (kk p (by omega)), (k0 0).trans h.x, (k1 0).trans h.c0, (k1 1).trans h.c1, (k1 2).trans h.c2, (k1 3).trans h.c3, (k1 4).trans h.c4, fun o => (World.frozen?_of_block (hg.block (w.heap.size + 1) hz (Ne.symm (kk _ (by omega))))).trans (h.f o), Nat.lt_of_lt_of_le hz hg.size, gb_own h.g hg (fun k e => by have := hr k e; omega)⟩

/-- The end of read at a type with Args. -/
theorem read_ends2 (tmps : Array Value) (w : World) (p : Nat) (hp : p < w.heap.size) (s s' : List UInt8) (b b' : Bool) (d : Int) (h0 : 0 ≤ d) (h1 : d ≤ 900) (t : Ty) (hOk : Ok1 t) (A : Option Addr) (c n : Nat) (hn : t.args.length = n) (W : World) (hI : InRead w p s' b' d W)
    (hT : RdL (fun b => w.heap.size + 1 < b ∧ b < W.heap.size) W (.slice A n c) t.args)
    (hsz : 2 < tmps.size) (ht : tmps[2]? = some (.pointer (some ⟨w.heap.size + 1, 0, none⟩))) (f : Nat) (hF : readF f s b d = some (t, s', b')) :
    bodyPostD Tryz.prog Tryz.f61 (ReadPost w p d s b) Exit.ret { tmps := tmps, defers := [{ target := Target.fn (Fn.func 94) #[.pointer (some ⟨w.heap.size, 0, none⟩)], args := #[] }] } (put5 W (w.heap.size + 1) (.int .i64 t.kind) (.string (S t.mod)) (.string (S t.name)) (.slice A n c) (.int .i64 t.var)) := by
  subst hn
  have hz := hI.z
  have hP := put5_cells (a := .int .i64 t.kind) (b := .string (S t.mod)) (c := .string (S t.name)) (d := .slice A t.args.length c) (e := .int .i64 t.var) hI.c0 hI.c1 hI.c2 hI.c3 hI.c4
  have hg := put5_gb W (w.heap.size + 1) (.int .i64 t.kind) (.string (S t.mod)) (.string (S t.name)) (.slice A t.args.length c) (.int .i64 t.var)
  obtain ⟨Y, hY⟩ : ∃ Y, Y = put5 W (w.heap.size + 1) (.int .i64 t.kind) (.string (S t.mod)) (.string (S t.name)) (.slice A t.args.length c) (.int .i64 t.var) := ⟨_, rfl⟩
  rw [← hY] at hP hg ⊢
  have hYz : W.heap.size ≤ Y.heap.size := hg.size
  have hrY : RdrAt Y p s' b' (d + 1) := hI.r.grown hg (by simp; omega)
  have xx : Y.cell? ⟨w.heap.size, 0, none⟩ = some (.pointer (some ⟨p, 0, none⟩)) := (gb_cell hg (by omega) (by omega)).trans hI.x
  have hG : w.grownBy Y (some p) := gb_own hI.g hg (fun k e => by have := Option.some.inj e; omega)
  refine read_door tmps _ w.heap.size (w.heap.size + 1) p s' b' d t A c Y hsz ht hrY h0 h1 xx hP.1 hP.2.1 hP.2.2.1 hP.2.2.2.1 hP.2.2.2.2 (by omega) ?_
  refine ⟨f, t, s', b', _, hF, rfl, ⟨hOk, A, c, rfl, ?_⟩, hrY.set2 d, gb_trans hG (gb_set _ _ _ _)⟩
  have hT2 : RdL (fun b => w.heap.size + 1 < b ∧ b < W.heap.size) Y (.slice A t.args.length c) t.args := hT.turn (fun b h => h) fun b o h => World.cell?_of_block (hg.block b h.2 (by simp; omega))
  exact hT2.turn (fun b h => ⟨by omega, by simp; omega⟩) fun b o h => World.cell?_setCell_other _ _ _ _ (by intro e; simp only [Addr.mk.injEq] at e; omega)

set_option maxRecDepth 100000 in
set_option maxHeartbeats 8000000 in
theorem read_made (d : Int) (ih : ReadAt (d + 1)) (p B : Nat) (s : List UInt8) (w : World) (hr : RdrAt w p s false d) (hs : s.length ≤ 20000) (he : EnvB B w) (hBp : B ≤ p) (h0 : 0 ≤ d) (h1 : d + 1 ≤ 100) (n1 : skipB s [40] = false) (n2 : skipB (s.drop (wordN s)) [46] = true) :
    Calls Tryz.prog 61 #[.pointer (some ⟨p, 0, none⟩)] w (ReadPost w p d s false) := by
  have HR := Lib.hid hr
  have pl := hr.lt
  have pl1 : p < w.heap.size + 1 := by omega
  have c1 := hr.c1
  have c2 := hr.c2
  have f2 := hr.free 2
  clear hr
  have hmf : ∀ (fn : Fn) (first cap : Array Value) (w : World), (Instr.makeFunc fn first cap).run Tryz.prog w = .ok (.func fn first cap) w := fun _ _ _ _ => rfl
  have k1 : decide (d + 1 > 100) = false := decide_eq_false (by omega)
  have N1 := Lib.hid n1; have N2 := Lib.hid n2; have HE := Lib.hid he
  clear n1 n2 he
  go_enter_defers Tryz.func61, Tryz.ntmps61
  go_wp2_with fail
  have I0 := Lib.hid (InRead.first (s := s) (b := false) (d := d) HR.out)
  refine (skip_calls p s [40] false (d + 1) _ I0.out.r).mono ?_
  rintro e w1 ⟨rfl, hr1, hg1⟩
  rw [skip_no N1.out] at hr1
  rw [N1.out]
  have I1 := Lib.hid (I0.out.next pl hr1 hg1)
  clear hr1 hg1 I0 c1 c2 f2
  have x1 := I1.out.x
  go_wp2_with fail
  refine (word_calls p s false (d + 1) w1 I1.out.r (by omega)).mono ?_
  rintro e w2 ⟨rfl, hr2, hg2⟩
  have I2 := Lib.hid (I1.out.next pl hr2 hg2)
  clear hr2 hg2 I1 x1
  have x2 := I2.out.x
  go_wp2_with fail
  refine (skip_calls p _ [46] false (d + 1) w2 I2.out.r).mono ?_
  rintro e w3 ⟨rfl, hr3, hg3⟩
  rw [N2.out]
  have I3 := Lib.hid (I2.out.next pl hr3 hg3)
  clear hr3 hg3 I2 x2
  have x3 := I3.out.x
  have l3 := skipL_le (s.drop (wordN s)) [46]
  rw [List.length_drop] at l3
  have hl3 : (skipL (s.drop (wordN s)) [46]).length ≤ 20000 := by omega
  clear l3
  obtain ⟨wd, hwd⟩ : ∃ wd, wd = s.take (wordN s) := ⟨_, rfl⟩
  obtain ⟨u, hu⟩ : ∃ u, u = skipL (s.drop (wordN s)) [46] := ⟨_, rfl⟩
  rw [← hu] at hl3 I3
  rw [← hwd]
  have HWD := Lib.hid hwd; have HU := Lib.hid hu; clear hwd hu
  go_wp2_with fail
  refine (word_calls p u false (d + 1) w3 I3.out.r (by omega)).mono ?_
  rintro e w4 ⟨rfl, hr4, hg4⟩
  have I4 := Lib.hid (I3.out.next pl hr4 hg4)
  clear hr4 hg4 I3 x3
  have x4 := I4.out.x
  have z4 := I4.out.z
  have z40 : w.heap.size < w4.heap.size := by omega
  obtain ⟨nm, hnm⟩ : ∃ nm, nm = u.take (wordN u) := ⟨_, rfl⟩
  obtain ⟨y, hy⟩ : ∃ y, y = u.drop (wordN u) := ⟨_, rfl⟩
  have hyl : y.length ≤ 20000 := by rw [hy, List.length_drop]; omega
  have hwl : wd.length ≤ 20000 := by rw [HWD.out, List.length_take]; omega
  have hnl : nm.length ≤ 20000 := by rw [hnm, List.length_take]; omega
  rw [← hy] at I4
  rw [← hnm]
  have HNM := Lib.hid hnm; have HY := Lib.hid hy; clear hnm hy
  go_wp2_with fail
  have hal := Lib.hid (gb_alloc w4 (.cells #[.int .i64 4, .string (S wd), .string (S nm), .slice none 0 0, .int .i64 0] 24) (some p))
  have I4a := Lib.hid (I4.out.next pl (I4.out.r.called (bel_alloc (Below.refl _ _) _)) hal.out)
  refine (skip_calls p y [91] false (d + 1) _ I4a.out.r).mono ?_
  rintro e w5 ⟨rfl, hr5, hg5⟩
  have I5 := Lib.hid (I4a.out.next pl hr5 hg5)
  have z5 : w4.heap.size < w5.heap.size := by have := hg5.size; simp at this; omega
  have hq : ∀ o, w5.cell? ⟨w4.heap.size, o, none⟩ = (w4.alloc (.cells #[.int .i64 4, .string (S wd), .string (S nm), .slice none 0 0, .int .i64 0] 24)).cell? ⟨w4.heap.size, o, none⟩ := fun o => gb_cell hg5 (by simp) (by omega)
  have q0 := hq 0
  have q1 := hq 1
  have q2 := hq 2
  have q3 := hq 3
  have q4 := hq 4
  have qf : ∀ o, w5.frozen? ⟨w4.heap.size, o, none⟩ = false := fun o => (World.frozen?_of_block (hg5.block _ (by simp) (by simp; omega))).trans (by simp)
  simp at q0 q1 q2 q3 q4
  have f5 := I5.out.f
  have y0 := I5.out.c0
  have y1 := I5.out.c1
  have y2 := I5.out.c2
  have y3 := I5.out.c3
  have y4 := I5.out.c4
  have z50 := I5.out.z
  have x5 := I5.out.x
  clear hr5 hg5 I4a hal hq I4 x4 z40
  have HF0 := Lib.hid (show ∀ f, readF (f + 1) s false d = if skipB y [91] = true then (match listF f [93] (skipL y [91]) false (d + 1) [] with
      | none => none
      | some (args, s2, b2) => some (.mk 4 wd nm args 0, s2, b2)) else some (.mk 4 wd nm [] 0, y, false) from fun f => by
    rw [readF, if_neg (by simp; omega), if_neg (by rw [N1.out]; simp), if_pos N2.out, ← HU.out, ← HY.out, ← HWD.out, ← HNM.out]; rfl)
  cases hsk : skipB y [91] with
  | false =>
    have HSK := Lib.hid hsk; clear hsk
    have I5' := I5.out
    rw [skip_no HSK.out] at I5'
    have I6 := Lib.hid I5'
    clear I5' I5
    go_wp2
    exact read_ends2 _ w p pl s y false false d h0 (by omega) (.mk 4 wd nm [] 0) ⟨by simp [Ty.mod]; omega, by simp [Ty.name]; omega⟩ none 0 0 rfl w5 I6.out (RdL_nil _ _) (by simp) (by simp) 1 (by rw [HF0.out 0, if_neg (by rw [HSK.out]; simp)])
  | true =>
    have HSK := Lib.hid hsk; clear hsk
    go_wp2_with fail
    have hpw : B ≤ w.heap.size := by omega
    refine (list_calls (d + 1) ih p B [93] (skipL y [91]) (by simp) false w5 I5.out.r (by have := skipL_le y [91]; omega) (HE.out.next (gb_bel I5.out.g hpw hBp)) hBp).mono ?_
    rintro e w6 ⟨f, ts, s', b', v, hL, rfl, hown, hlen, hr6, hg6⟩
    obtain ⟨A, c, rfl, hc⟩ := hown.length
    have I6 := Lib.hid (I5.out.next pl hr6 hg6)
    have z6 := hg6.size
    have k6 : ∀ o, w6.cell? ⟨w4.heap.size, o, none⟩ = w5.cell? ⟨w4.heap.size, o, none⟩ := fun o => gb_cell hg6 z5 (by omega)
    have p0 := (k6 0).trans q0
    have p1 := (k6 1).trans q1
    have p2 := (k6 2).trans q2
    have p3 := (k6 3).trans q3
    have p4 := (k6 4).trans q4
    have pf : ∀ o, w6.frozen? ⟨w4.heap.size, o, none⟩ = false := fun o => (World.frozen?_of_block (hg6.block _ z5 (by simp; omega))).trans (qf o)
    have hRd : RdL (fun b => w5.heap.size ≤ b ∧ b < w6.heap.size) w6 (.slice A ts.length c) ts := hown.read (by omega) _ (fun b h1 h2 => ⟨h1, h2⟩) (fun b hb => hown.lt b hb)
    have I7 := Lib.hid (I6.out.own pl (gb_set w6 w4.heap.size 3 (.slice A ts.length c)) (fun k e => by have := Option.some.inj e; omega))
    have HRD := Lib.hid (show RdL (fun b => w.heap.size + 1 < b ∧ b < (w6.setCell ⟨w4.heap.size, 3, none⟩ (.slice A ts.length c)).heap.size) (w6.setCell ⟨w4.heap.size, 3, none⟩ (.slice A ts.length c)) (.slice A ts.length c) ts from
      hRd.turn (fun b h => ⟨by omega, by simpa using h.2⟩) fun b o h => World.cell?_setCell_other _ _ _ _ (by intro e; simp only [Addr.mk.injEq] at e; omega))
    have g5 := I6.out.f
    have y0' := I6.out.c0
    have y1' := I6.out.c1
    have y2' := I6.out.c2
    have y3' := I6.out.c3
    have y4' := I6.out.c4
    have z60 := I6.out.z
    have z64 : w4.heap.size < w6.heap.size := by omega
    have zne : w4.heap.size ≠ w.heap.size + 1 := by omega
    have HL := Lib.hid hL
    clear hL hown hr6 hg6 k6 hRd q0 q1 q2 q3 q4 qf f5 y0 y1 y2 y3 y4 z50 x5 I5 I6
    go_wp2
    exact read_ends2 _ w p pl s s' false b' d h0 (by omega) (.mk 4 wd nm ts 0) ⟨by simp [Ty.mod]; omega, by simp [Ty.name]; omega⟩ A c ts.length rfl _ I7.out HRD.out (by simp) (by simp) (f + 1) (by rw [HF0.out f, if_pos HSK.out, HL.out])

end Go.Proofs.YtplnfepdikbpfaaGreatDoor
