/- The walk of the reader's read at a word alone. Condition: the reader is a block of its own. -/
import Derived.Test.YtplnfepdikbpfaaGreatDoorUR
import Derived.Outline
namespace Go.Proofs.YtplnfepdikbpfaaGreatDoor
open Go.RowKit
set_option linter.unusedVariables false
set_option linter.unusedSimpArgs false

@[go_sem] theorem at_head (a : UInt8) (l : List UInt8) : at_ (a :: l) 0 = a := rfl

theorem skip_no {s t : List UInt8} (h : skipB s t = false) : skipL s t = s := by
  unfold skipB at h; unfold skipL Lib.trimPrefix; rw [h]; rfl

def kindW (w : List UInt8) : Int := if w = [73, 110, 116] then 0 else if w = [66, 111, 111, 108] then 1 else if w = [84, 101, 120, 116] then 2 else -1
theorem idx3 (w : List UInt8) : Lib.idxOfS ([S [73, 110, 116], S [66, 111, 111, 108], S [84, 101, 120, 116]].take 3) (S w) = kindW w := by
  have e : ∀ a : List UInt8, (S a = S w) = (w = a) := fun a => propext ⟨fun h => (S_inj h).symm, fun h => by rw [h]⟩
  simp only [Lib.idxOfS, List.take, Lib.idxFromS, e, kindW]
  rfl
theorem kindW_leaf (w : List UInt8) : (kindW w = 0 ∧ leafR w = (.mk 1 [] [] [] 0, false)) ∨ (kindW w = 1 ∧ leafR w = (.mk 2 [] [] [] 0, false)) ∨ (kindW w = 2 ∧ leafR w = (.mk 3 [] [] [] 0, false)) ∨ (kindW w = -1 ∧ leafR w = (.mk 6 [] [] [] (numV w), decide (letterL (numV w) ≠ w))) := by
  unfold kindW leafR
  by_cases h1 : w = [73, 110, 116]
  · simp [h1]
  · by_cases h2 : w = [66, 111, 111, 108]
    · simp [h2]
    · by_cases h3 : w = [84, 101, 120, 116]
      · simp [h3]
      · simp [h1, h2, h3]

/-- The world in which read's body goes on, and what is known there. -/
structure InRead (w : World) (p : Nat) (s : List UInt8) (b : Bool) (d : Int) (W : World) : Prop where
  r : RdrAt W p s b (d + 1)
  x : W.cell? ⟨w.heap.size, 0, none⟩ = some (.pointer (some ⟨p, 0, none⟩))
  c0 : W.cell? ⟨w.heap.size + 1, 0, none⟩ = some (.int .i64 0)
  c1 : W.cell? ⟨w.heap.size + 1, 1, none⟩ = some (.string ⟨#[]⟩)
  c2 : W.cell? ⟨w.heap.size + 1, 2, none⟩ = some (.string ⟨#[]⟩)
  c3 : W.cell? ⟨w.heap.size + 1, 3, none⟩ = some (.slice none 0 0)
  c4 : W.cell? ⟨w.heap.size + 1, 4, none⟩ = some (.int .i64 0)
  f : ∀ o, W.frozen? ⟨w.heap.size + 1, o, none⟩ = false
  z : w.heap.size + 1 < W.heap.size
  g : w.grownBy W (some p)
theorem InRead.next {w : World} {p : Nat} {s s' : List UInt8} {b b' : Bool} {d : Int} {W X : World} (h : InRead w p s b d W) (hp : p < w.heap.size) (hr : RdrAt X p s' b' (d + 1)) (hg : W.grownBy X (some p)) : InRead w p s' b' d X := by
  have hz := h.z
  have k0 : ∀ o, X.cell? ⟨w.heap.size, o, none⟩ = W.cell? ⟨w.heap.size, o, none⟩ := fun o => gb_cell hg (by omega) (by omega)
  have k1 : ∀ o, X.cell? ⟨w.heap.size + 1, o, none⟩ = W.cell? ⟨w.heap.size + 1, o, none⟩ := fun o => gb_cell hg (by omega) (by omega)
  exact ⟨hr, (k0 0).trans h.x, (k1 0).trans h.c0, (k1 1).trans h.c1, (k1 2).trans h.c2, (k1 3).trans h.c3, (k1 4).trans h.c4, fun o => (World.frozen?_of_block (hg.block (w.heap.size + 1) hz (by simp; omega))).trans (h.f o), Nat.lt_of_lt_of_le hz hg.size, gb_trans h.g hg⟩
theorem InRead.first {w : World} {p : Nat} {s : List UInt8} {b : Bool} {d : Int} (hr : RdrAt w p s b d) :
    InRead w p s b d (((w.setCell ⟨p, 2, none⟩ (.int .i64 (d + 1))).alloc (.cells #[.pointer (some ⟨p, 0, none⟩)] 90)).alloc (.cells #[.int .i64 0, .string ⟨#[]⟩, .string ⟨#[]⟩, .slice none 0 0, .int .i64 0] 24)) := by
  have hpl := hr.lt
  refine ⟨(hr.set2 (d + 1)).called (bel_alloc (bel_alloc (Below.refl _ _) _) _), by go_simp, by go_simp, by go_simp, by go_simp, by go_simp, by go_simp, fun o => by go_simp, by simp, gb_trans (gb_set _ _ _ _) (gb_below (bel_alloc (bel_alloc (Below.refl _ _) _) _) _)⟩

theorem RdrAt.other {w : World} {p : Nat} {s : List UInt8} {bad : Bool} {deep : Int} (h : RdrAt w p s bad deep) (r o : Nat) (v : Value) (hr : r ≠ p) : RdrAt (w.setCell ⟨r, o, none⟩ v) p s bad deep :=
  h.grown (gb_set w r o v) (by simpa using hr)

/-- The five cells of block r, written. -/
abbrev put5 (W : World) (r : Nat) (a b c d e : Value) : World := ((((W.setCell ⟨r, 0, none⟩ a).setCell ⟨r, 1, none⟩ b).setCell ⟨r, 2, none⟩ c).setCell ⟨r, 3, none⟩ d).setCell ⟨r, 4, none⟩ e
theorem put5_gb (W : World) (r : Nat) (a b c d e : Value) : W.grownBy (put5 W r a b c d e) (some r) :=
  gb_trans (gb_trans (gb_trans (gb_trans (gb_set _ _ _ _) (gb_set _ _ _ _)) (gb_set _ _ _ _)) (gb_set _ _ _ _)) (gb_set _ _ _ _)
theorem put5_cells {W : World} {r : Nat} {a b c d e a' b' c' d' e' : Value} (h0 : W.cell? ⟨r, 0, none⟩ = some a') (h1 : W.cell? ⟨r, 1, none⟩ = some b') (h2 : W.cell? ⟨r, 2, none⟩ = some c') (h3 : W.cell? ⟨r, 3, none⟩ = some d') (h4 : W.cell? ⟨r, 4, none⟩ = some e') :
    (put5 W r a b c d e).cell? ⟨r, 0, none⟩ = some a ∧ (put5 W r a b c d e).cell? ⟨r, 1, none⟩ = some b ∧ (put5 W r a b c d e).cell? ⟨r, 2, none⟩ = some c ∧ (put5 W r a b c d e).cell? ⟨r, 3, none⟩ = some d ∧ (put5 W r a b c d e).cell? ⟨r, 4, none⟩ = some e := by
  have ne : ∀ i j : Nat, i ≠ j → (⟨r, i, none⟩ : Addr) ≠ ⟨r, j, none⟩ := fun i j h e => by simp only [Addr.mk.injEq] at e; exact h e.2.1
  have ot : ∀ (X : World) (i j : Nat) (v u : Value), i ≠ j → X.cell? ⟨r, j, none⟩ = some u → (X.setCell ⟨r, i, none⟩ v).cell? ⟨r, j, none⟩ = some u := fun X i j v u h hu => (World.cell?_setCell_other _ _ _ _ (ne i j h)).trans hu
  have sm : ∀ (X : World) (i : Nat) (v u : Value), X.cell? ⟨r, i, none⟩ = some u → (X.setCell ⟨r, i, none⟩ v).cell? ⟨r, i, none⟩ = some v := fun X i v u hu => World.cell?_setCell_same _ _ _ hu
  refine ⟨?_, ?_, ?_, ?_, ?_⟩
  · exact ot _ 4 0 _ _ (by omega) (ot _ 3 0 _ _ (by omega) (ot _ 2 0 _ _ (by omega) (ot _ 1 0 _ _ (by omega) (sm _ 0 _ _ h0))))
  · exact ot _ 4 1 _ _ (by omega) (ot _ 3 1 _ _ (by omega) (ot _ 2 1 _ _ (by omega) (sm _ 1 _ _ (ot _ 0 1 _ _ (by omega) h1))))
  · exact ot _ 4 2 _ _ (by omega) (ot _ 3 2 _ _ (by omega) (sm _ 2 _ _ (ot _ 1 2 _ _ (by omega) (ot _ 0 2 _ _ (by omega) h2))))
  · exact ot _ 4 3 _ _ (by omega) (sm _ 3 _ _ (ot _ 2 3 _ _ (by omega) (ot _ 1 3 _ _ (by omega) (ot _ 0 3 _ _ (by omega) h3))))
  · exact sm _ 4 _ _ (ot _ 3 4 _ _ (by omega) (ot _ 2 4 _ _ (by omega) (ot _ 1 4 _ _ (by omega) (ot _ 0 4 _ _ (by omega) h4))))

theorem readF_leaf {s : List UInt8} {d : Int} (h1 : d + 1 ≤ 100) (n1 : skipB s [40] = false) (n2 : skipB (s.drop (wordN s)) [46] = false) : readF 1 s false d = some ((leafR (s.take (wordN s))).1, s.drop (wordN s), (leafR (s.take (wordN s))).2) := by
  rw [readF, if_neg (by simp; omega), if_neg (by rw [n1]; simp), if_neg (by rw [n2]; simp)]

/-- The end of read: the result is stored, something is made, and read goes through the door. -/
theorem read_ends (tmps : Array Value) (w : World) (p : Nat) (hp : p < w.heap.size) (s s' : List UInt8) (b b' : Bool) (d : Int) (h0 : 0 ≤ d) (h1 : d ≤ 900) (t : Ty) (ht0 : t.args = []) (hOk : Ok1 t) (W X : World) (hI : InRead w p s' b' d W)
    (hX : Below (put5 W (w.heap.size + 1) (.int .i64 t.kind) (.string (S t.mod)) (.string (S t.name)) (.slice none 0 0) (.int .i64 t.var)).heap.size (put5 W (w.heap.size + 1) (.int .i64 t.kind) (.string (S t.mod)) (.string (S t.name)) (.slice none 0 0) (.int .i64 t.var)) X)
    (hsz : 2 < tmps.size) (ht : tmps[2]? = some (.pointer (some ⟨w.heap.size + 1, 0, none⟩))) (f : Nat) (hF : readF f s b d = some (t, s', b')) :
    bodyPostD Tryz.prog Tryz.f61 (ReadPost w p d s b) Exit.ret { tmps := tmps, defers := [{ target := Target.fn (Fn.func 94) #[.pointer (some ⟨w.heap.size, 0, none⟩)], args := #[] }] } X := by
  have hz := hI.z
  have hP := put5_cells (a := .int .i64 t.kind) (b := .string (S t.mod)) (c := .string (S t.name)) (d := .slice none 0 0) (e := .int .i64 t.var) hI.c0 hI.c1 hI.c2 hI.c3 hI.c4
  have hg := put5_gb W (w.heap.size + 1) (.int .i64 t.kind) (.string (S t.mod)) (.string (S t.name)) (.slice none 0 0) (.int .i64 t.var)
  obtain ⟨Y, hY⟩ : ∃ Y, Y = put5 W (w.heap.size + 1) (.int .i64 t.kind) (.string (S t.mod)) (.string (S t.name)) (.slice none 0 0) (.int .i64 t.var) := ⟨_, rfl⟩
  rw [← hY] at hP hg hX
  have hYz : W.heap.size ≤ Y.heap.size := hg.size
  have hX' : Below Y.heap.size Y X := hX
  have hrY : RdrAt Y p s' b' (d + 1) := hI.r.grown hg (by simp; omega)
  have cx : ∀ o, X.cell? ⟨w.heap.size + 1, o, none⟩ = Y.cell? ⟨w.heap.size + 1, o, none⟩ := fun o => hX'.cell (p := ⟨w.heap.size + 1, o, none⟩) (by show w.heap.size + 1 < _; omega)
  have xx : X.cell? ⟨w.heap.size, 0, none⟩ = some (.pointer (some ⟨p, 0, none⟩)) := (hX'.cell (p := ⟨w.heap.size, 0, none⟩) (by show w.heap.size < _; omega)).trans ((gb_cell hg (by omega) (by omega)).trans hI.x)
  have hRX := hrY.called hX'
  have hG : w.grownBy X (some p) := gb_trans (gb_own hI.g hg (fun k e => by have := Option.some.inj e; omega)) (gb_below hX' _)
  refine read_door tmps _ w.heap.size (w.heap.size + 1) p s' b' d t none 0 X hsz ht hRX h0 h1 xx ((cx 0).trans hP.1) ((cx 1).trans hP.2.1) ((cx 2).trans hP.2.2.1) ?_ ((cx 4).trans hP.2.2.2.2) (by omega) ?_
  · rw [ht0]; exact (cx 3).trans hP.2.2.2.1
  · exact ⟨f, t, s', b', _, hF, rfl, ⟨hOk, none, 0, rfl, by rw [ht0]; exact RdL_nil _ _⟩, hRX.set2 d, gb_trans hG (gb_set _ _ _ _)⟩

set_option maxRecDepth 100000 in
set_option maxHeartbeats 8000000 in
theorem read_leaf (d : Int) (p B : Nat) (s : List UInt8) (w : World) (hr : RdrAt w p s false d) (hs : s.length ≤ 20000) (he : EnvB B w) (hBp : B ≤ p) (h0 : 0 ≤ d) (h1 : d + 1 ≤ 100) (n1 : skipB s [40] = false) (n2 : skipB (s.drop (wordN s)) [46] = false) :
    Calls Tryz.prog 61 #[.pointer (some ⟨p, 0, none⟩)] w (ReadPost w p d s false) := by
  have HR := Lib.hid hr
  have pl := hr.lt
  have pl1 : p < w.heap.size + 1 := by omega
  have c1 := hr.c1
  have c2 := hr.c2
  have f2 := hr.free 2
  clear hr
  have hmf : ∀ (fn : Fn) (first cap : Array Value) (w : World), (Instr.makeFunc fn first cap).run Tryz.prog w = .ok (.func fn first cap) w := fun _ _ _ _ => rfl
  have k1 : decide (d + 1 > 100) = false := decide_eq_false (by omega)
  have N1 := Lib.hid n1; have N2 := Lib.hid n2; have HE := Lib.hid he
  clear n1 n2 he
  go_enter_defers Tryz.func61, Tryz.ntmps61
  go_wp2_with fail
  have I0 := Lib.hid (InRead.first (s := s) (b := false) (d := d) HR.out)
  refine (skip_calls p s [40] false (d + 1) _ I0.out.r).mono ?_
  rintro e w1 ⟨rfl, hr1, hg1⟩
  rw [skip_no N1.out] at hr1
  rw [N1.out]
  have I1 := Lib.hid (I0.out.next pl hr1 hg1)
  clear hr1 hg1 I0 c1 c2 f2
  have x1 := I1.out.x
  go_wp2_with fail
  refine (word_calls p s false (d + 1) w1 I1.out.r (by omega)).mono ?_
  rintro e w2 ⟨rfl, hr2, hg2⟩
  have I2 := Lib.hid (I1.out.next pl hr2 hg2)
  clear hr2 hg2 I1 x1
  have x2 := I2.out.x
  go_wp2_with fail
  refine (skip_calls p _ [46] false (d + 1) w2 I2.out.r).mono ?_
  rintro e w3 ⟨rfl, hr3, hg3⟩
  rw [skip_no N2.out] at hr3
  rw [N2.out]
  have I3 := Lib.hid (I2.out.next pl hr3 hg3)
  clear hr3 hg3 I2 x2
  have x3 := I3.out.x
  obtain ⟨wd, hwd⟩ : ∃ wd, wd = s.take (wordN s) := ⟨_, rfl⟩
  rw [← hwd]
  have HWD := Lib.hid hwd; clear hwd
  go_wp2_with fail
  refine (Tryz.slices_Index_string w3.heap.size 0 3 3 [S [73, 110, 116], S [66, 111, 111, 108], S [84, 101, 120, 116]] (S wd) _ (by simp) (by omega) (fun j hj => by
    rcases j with _ | _ | _ | j
    · go_simp; rfl
    · go_simp; rfl
    · go_simp; rfl
    · simp at hj; omega)).mono ?_
  rintro e w4 ⟨rfl, rfl⟩
  rw [idx3]
  have f3 := I3.out.f
  have y0 := I3.out.c0
  have y1 := I3.out.c1
  have y2 := I3.out.c2
  have y3 := I3.out.c3
  have y4 := I3.out.c4
  have z3 := I3.out.z
  have z4 : w.heap.size + 1 < w3.heap.size + 1 := by omega
  have key := kindW_leaf wd
  rcases key with ⟨hk, hl⟩ | ⟨hk, hl⟩ | ⟨hk, hl⟩ | ⟨hk, hl⟩
  · rw [hk]
    have HL := Lib.hid hl; clear hk hl
    go_wp2
    exact read_ends _ w p pl s _ false false d h0 (by omega) (.mk 1 [] [] [] 0) rfl ⟨by simp [Ty.mod], by simp [Ty.name]⟩ w3 _ I3.out (bel_alloc (Below.refl _ _) _) (by simp) (by simp) 1 (by rw [readF_leaf h1 N1.out N2.out, ← HWD.out, HL.out])
  · rw [hk]
    have HL := Lib.hid hl; clear hk hl
    go_wp2
    exact read_ends _ w p pl s _ false false d h0 (by omega) (.mk 2 [] [] [] 0) rfl ⟨by simp [Ty.mod], by simp [Ty.name]⟩ w3 _ I3.out (bel_alloc (Below.refl _ _) _) (by simp) (by simp) 1 (by rw [readF_leaf h1 N1.out N2.out, ← HWD.out, HL.out])
  · rw [hk]
    have HL := Lib.hid hl; clear hk hl
    go_wp2
    exact read_ends _ w p pl s _ false false d h0 (by omega) (.mk 3 [] [] [] 0) rfl ⟨by simp [Ty.mod], by simp [Ty.name]⟩ w3 _ I3.out (bel_alloc (Below.refl _ _) _) (by simp) (by simp) 1 (by rw [readF_leaf h1 N1.out N2.out, ← HWD.out, HL.out])
  · rw [hk]
    have HL := Lib.hid hl; clear hk hl
    have hpw : B ≤ w.heap.size := by omega
    have hnv := numV_le wd
    have fin : ∀ (e : Ending) (X : World), True := fun _ _ => trivial
    rcases wd with _ | ⟨c, r⟩
    · go_wp2_with fail
      have hq : numV [] = 0 := by simp [numV]
      have HQ := Lib.hid hq; clear hq hnv
      refine (letter_calls 0 _ (by omega) (by omega) (HE.out _ ((gb_bel I3.out.g hpw hBp).trans ((bel_alloc (Below.refl _ _) _ : Below w3.heap.size w3 (w3.alloc (.cells #[.string ⟨#[73, 110, 116]⟩, .string ⟨#[66, 111, 111, 108]⟩, .string ⟨#[84, 101, 120, 116]⟩] 9))).mono (by have := I3.out.g.size; omega)))).1).mono ?_
      rintro e w5 ⟨rfl, hb5⟩
      have hb35 := bel_then (bel_alloc (Below.refl _ _) _ : Below w3.heap.size w3 (w3.alloc (.cells #[.string ⟨#[73, 110, 116]⟩, .string ⟨#[66, 111, 111, 108]⟩, .string ⟨#[84, 101, 120, 116]⟩] 9))) hb5
      have I5 := Lib.hid (I3.out.next pl (I3.out.r.called hb35) (gb_below hb35 _))
      clear hb35 hb5 f3 y0 y1 y2 y3 y4 z3 z4 x3
      have x5 := I5.out.x
      have f5 := I5.out.f
      have y0 := I5.out.c0
      have y1 := I5.out.c1
      have y2 := I5.out.c2
      have y3 := I5.out.c3
      have y4 := I5.out.c4
      have z5 := I5.out.z
      have r1 := I5.out.r.c1
      have r2 := I5.out.r.free 1
      go_wp2_with fail
      all_goals first
        | (have hne : ¬ letterL (0) = [] := by (first | assumption | (intro hh; simp_all; done))
           exact read_ends _ w p pl s _ false true d h0 (by omega) (.mk 6 [] [] [] (0)) rfl ⟨by simp [Ty.mod], by simp [Ty.name]⟩ (w5.setCell ⟨p, 1, none⟩ (.bool true)) _ (I5.out.next pl (I5.out.r.set1 true) (gb_set _ _ _ _)) (Below.refl _ _) (by simp) (by simp) 1 (by rw [readF_leaf h1 N1.out N2.out, ← HWD.out, HL.out, HQ.out, decide_eq_true hne]))
        | (have hne : letterL (0) = [] := by assumption
           exact read_ends _ w p pl s _ false false d h0 (by omega) (.mk 6 [] [] [] (0)) rfl ⟨by simp [Ty.mod], by simp [Ty.name]⟩ w5 _ I5.out (Below.refl _ _) (by simp) (by simp) 1 (by rw [readF_leaf h1 N1.out N2.out, ← HWD.out, HL.out, HQ.out, decide_eq_false (by simpa using hne)]))
    · by_cases hc : 97 ≤ (c.toNat : Int) ∧ (c.toNat : Int) ≤ 122
      · obtain ⟨k97, k122⟩ := hc
        have wq : IntKind.u8.wrap ((c.toNat : Int) - 97) = (c.toNat : Int) - 97 := by simp only [IntKind.wrap, IntKind.bits, IntKind.signed, Bool.false_and, Bool.false_eq_true, if_false]; omega
        have v0 : (0 : Int) ≤ (c.toNat : Int) - 97 := by omega
        rcases r with _ | ⟨c2, r⟩
        · go_wp2_with fail
          have hq : numV ([c]) = (c.toNat : Int) - 97 := by simp only [numV]; rw [if_pos ⟨k97, k122⟩]; simp
          have HQ := Lib.hid hq; clear hq hnv
          refine (letter_calls ((c.toNat : Int) - 97) _ (by omega) (by omega) (HE.out _ ((gb_bel I3.out.g hpw hBp).trans ((bel_alloc (Below.refl _ _) _ : Below w3.heap.size w3 (w3.alloc (.cells #[.string ⟨#[73, 110, 116]⟩, .string ⟨#[66, 111, 111, 108]⟩, .string ⟨#[84, 101, 120, 116]⟩] 9))).mono (by have := I3.out.g.size; omega)))).1).mono ?_
          rintro e w5 ⟨rfl, hb5⟩
          have hb35 := bel_then (bel_alloc (Below.refl _ _) _ : Below w3.heap.size w3 (w3.alloc (.cells #[.string ⟨#[73, 110, 116]⟩, .string ⟨#[66, 111, 111, 108]⟩, .string ⟨#[84, 101, 120, 116]⟩] 9))) hb5
          have I5 := Lib.hid (I3.out.next pl (I3.out.r.called hb35) (gb_below hb35 _))
          clear hb35 hb5 f3 y0 y1 y2 y3 y4 z3 z4 x3
          have x5 := I5.out.x
          have f5 := I5.out.f
          have y0 := I5.out.c0
          have y1 := I5.out.c1
          have y2 := I5.out.c2
          have y3 := I5.out.c3
          have y4 := I5.out.c4
          have z5 := I5.out.z
          have r1 := I5.out.r.c1
          have r2 := I5.out.r.free 1
          obtain ⟨lt, hlt⟩ : ∃ lt, lt = letterL ((c.toNat : Int) - 97) := ⟨_, rfl⟩
          rw [← hlt]
          have HLT := Lib.hid hlt; clear hlt
          go_wp2_with fail
          all_goals first
            | (have hb : (!lt == [c]) = true := by with_reducible assumption
               have hne : ¬ letterL ((c.toNat : Int) - 97) = [c] := by rw [← HLT.out]; simpa using hb
               exact read_ends _ w p pl s _ false true d h0 (by omega) (.mk 6 [] [] [] ((c.toNat : Int) - 97)) rfl ⟨by simp [Ty.mod], by simp [Ty.name]⟩ (w5.setCell ⟨p, 1, none⟩ (.bool true)) _ (I5.out.next pl (I5.out.r.set1 true) (gb_set _ _ _ _)) (Below.refl _ _) (by simp) (by simp) 1 (by rw [readF_leaf h1 N1.out N2.out, ← HWD.out, HL.out, HQ.out, decide_eq_true hne]))
            | (have hb : (!lt == [c]) = false := by with_reducible assumption
               have hne : letterL ((c.toNat : Int) - 97) = [c] := by rw [← HLT.out]; simpa using hb
               exact read_ends _ w p pl s _ false false d h0 (by omega) (.mk 6 [] [] [] ((c.toNat : Int) - 97)) rfl ⟨by simp [Ty.mod], by simp [Ty.name]⟩ w5 _ I5.out (Below.refl _ _) (by simp) (by simp) 1 (by rw [readF_leaf h1 N1.out N2.out, ← HWD.out, HL.out, HQ.out, decide_eq_false (by simpa using hne)]))
        · have hlen : (c2 :: r).length ≤ 281474976710656 := by have := congrArg List.length HWD.out; rw [List.length_take] at this; simp only [List.length_cons] at this ⊢; omega
          go_wp2_with fail
          refine (Atoi_calls (c2 :: r) _ hlen (HE.out _ ((gb_bel I3.out.g hpw hBp).trans ((bel_alloc (Below.refl _ _) _ : Below w3.heap.size w3 (w3.alloc (.cells #[.string ⟨#[73, 110, 116]⟩, .string ⟨#[66, 111, 111, 108]⟩, .string ⟨#[84, 101, 120, 116]⟩] 9))).mono (by have := I3.out.g.size; omega))))).mono ?_
          rintro e w4 ⟨hcase, hb4⟩
          rcases hcase with ⟨n, hn, rfl⟩ | ⟨hn, n, t4, v4, rfl⟩
          · by_cases hr : 0 ≤ n ∧ n ≤ 1048576
            · obtain ⟨n0, n1⟩ := hr
              have HN := Lib.hid hn; clear hn
              go_wp2_with fail
              have hq : numV (c :: c2 :: r) = 26 * n + ((c.toNat : Int) - 97) := by simp only [numV]; rw [if_pos ⟨k97, k122⟩, if_neg (by simp), HN.out]; simp only; rw [if_pos ⟨n0, n1⟩]
              have HQ := Lib.hid hq; clear hq hnv
              refine (letter_calls (26 * n + ((c.toNat : Int) - 97)) _ (by omega) (by omega) (HE.out _ ((gb_bel I3.out.g hpw hBp).trans ((bel_then (bel_alloc (Below.refl _ _) _ : Below w3.heap.size w3 (w3.alloc (.cells #[.string ⟨#[73, 110, 116]⟩, .string ⟨#[66, 111, 111, 108]⟩, .string ⟨#[84, 101, 120, 116]⟩] 9))) hb4).mono (by have := I3.out.g.size; omega)))).1).mono ?_
              rintro e w5 ⟨rfl, hb5⟩
              have hb35 := bel_then (bel_then (bel_alloc (Below.refl _ _) _ : Below w3.heap.size w3 (w3.alloc (.cells #[.string ⟨#[73, 110, 116]⟩, .string ⟨#[66, 111, 111, 108]⟩, .string ⟨#[84, 101, 120, 116]⟩] 9))) hb4) hb5
              have I5 := Lib.hid (I3.out.next pl (I3.out.r.called hb35) (gb_below hb35 _))
              clear hb35 hb5 f3 y0 y1 y2 y3 y4 z3 z4 x3
              have x5 := I5.out.x
              have f5 := I5.out.f
              have y0 := I5.out.c0
              have y1 := I5.out.c1
              have y2 := I5.out.c2
              have y3 := I5.out.c3
              have y4 := I5.out.c4
              have z5 := I5.out.z
              have r1 := I5.out.r.c1
              have r2 := I5.out.r.free 1
              obtain ⟨lt, hlt⟩ : ∃ lt, lt = letterL (26 * n + ((c.toNat : Int) - 97)) := ⟨_, rfl⟩
              rw [← hlt]
              have HLT := Lib.hid hlt; clear hlt
              go_wp2_with fail
              all_goals first
                | (have hb : (!lt == c :: c2 :: r) = true := by with_reducible assumption
                   have hne : ¬ letterL (26 * n + ((c.toNat : Int) - 97)) = c :: c2 :: r := by rw [← HLT.out]; simpa using hb
                   exact read_ends _ w p pl s _ false true d h0 (by omega) (.mk 6 [] [] [] (26 * n + ((c.toNat : Int) - 97))) rfl ⟨by simp [Ty.mod], by simp [Ty.name]⟩ (w5.setCell ⟨p, 1, none⟩ (.bool true)) _ (I5.out.next pl (I5.out.r.set1 true) (gb_set _ _ _ _)) (Below.refl _ _) (by simp) (by simp) 1 (by rw [readF_leaf h1 N1.out N2.out, ← HWD.out, HL.out, HQ.out, decide_eq_true hne]))
                | (have hb : (!lt == c :: c2 :: r) = false := by with_reducible assumption
                   have hne : letterL (26 * n + ((c.toNat : Int) - 97)) = c :: c2 :: r := by rw [← HLT.out]; simpa using hb
                   exact read_ends _ w p pl s _ false false d h0 (by omega) (.mk 6 [] [] [] (26 * n + ((c.toNat : Int) - 97))) rfl ⟨by simp [Ty.mod], by simp [Ty.name]⟩ w5 _ I5.out (Below.refl _ _) (by simp) (by simp) 1 (by rw [readF_leaf h1 N1.out N2.out, ← HWD.out, HL.out, HQ.out, decide_eq_false (by simpa using hne)]))
            · have hrr : n < 0 ∨ (0 ≤ n ∧ 1048576 < n) := by omega
              have HN := Lib.hid hn; have HRR := Lib.hid hr; clear hn hr
              rcases hrr with n0 | ⟨n0, n1⟩
              · go_wp2_with fail
                have hq : numV (c :: c2 :: r) = 0 := by simp only [numV]; rw [if_pos ⟨k97, k122⟩, if_neg (by simp), HN.out]; simp only; rw [if_neg HRR.out]
                have HQ := Lib.hid hq; clear hq hnv
                refine (letter_calls (0) _ (by omega) (by omega) (HE.out _ ((gb_bel I3.out.g hpw hBp).trans ((bel_then (bel_alloc (Below.refl _ _) _ : Below w3.heap.size w3 (w3.alloc (.cells #[.string ⟨#[73, 110, 116]⟩, .string ⟨#[66, 111, 111, 108]⟩, .string ⟨#[84, 101, 120, 116]⟩] 9))) hb4).mono (by have := I3.out.g.size; omega)))).1).mono ?_
                rintro e w5 ⟨rfl, hb5⟩
                have hb35 := bel_then (bel_then (bel_alloc (Below.refl _ _) _ : Below w3.heap.size w3 (w3.alloc (.cells #[.string ⟨#[73, 110, 116]⟩, .string ⟨#[66, 111, 111, 108]⟩, .string ⟨#[84, 101, 120, 116]⟩] 9))) hb4) hb5
                have I5 := Lib.hid (I3.out.next pl (I3.out.r.called hb35) (gb_below hb35 _))
                clear hb35 hb5 f3 y0 y1 y2 y3 y4 z3 z4 x3
                have x5 := I5.out.x
                have f5 := I5.out.f
                have y0 := I5.out.c0
                have y1 := I5.out.c1
                have y2 := I5.out.c2
                have y3 := I5.out.c3
                have y4 := I5.out.c4
                have z5 := I5.out.z
                have r1 := I5.out.r.c1
                have r2 := I5.out.r.free 1
                obtain ⟨lt, hlt⟩ : ∃ lt, lt = letterL (0) := ⟨_, rfl⟩
                rw [← hlt]
                have HLT := Lib.hid hlt; clear hlt
                go_wp2_with fail
                all_goals first
                  | (have hb : (!lt == c :: c2 :: r) = true := by with_reducible assumption
                     have hne : ¬ letterL (0) = c :: c2 :: r := by rw [← HLT.out]; simpa using hb
                     exact read_ends _ w p pl s _ false true d h0 (by omega) (.mk 6 [] [] [] (0)) rfl ⟨by simp [Ty.mod], by simp [Ty.name]⟩ (w5.setCell ⟨p, 1, none⟩ (.bool true)) _ (I5.out.next pl (I5.out.r.set1 true) (gb_set _ _ _ _)) (Below.refl _ _) (by simp) (by simp) 1 (by rw [readF_leaf h1 N1.out N2.out, ← HWD.out, HL.out, HQ.out, decide_eq_true hne]))
                  | (have hb : (!lt == c :: c2 :: r) = false := by with_reducible assumption
                     have hne : letterL (0) = c :: c2 :: r := by rw [← HLT.out]; simpa using hb
                     exact read_ends _ w p pl s _ false false d h0 (by omega) (.mk 6 [] [] [] (0)) rfl ⟨by simp [Ty.mod], by simp [Ty.name]⟩ w5 _ I5.out (Below.refl _ _) (by simp) (by simp) 1 (by rw [readF_leaf h1 N1.out N2.out, ← HWD.out, HL.out, HQ.out, decide_eq_false (by simpa using hne)]))
              · go_wp2_with fail
                have hq : numV (c :: c2 :: r) = 0 := by simp only [numV]; rw [if_pos ⟨k97, k122⟩, if_neg (by simp), HN.out]; simp only; rw [if_neg HRR.out]
                have HQ := Lib.hid hq; clear hq hnv
                refine (letter_calls (0) _ (by omega) (by omega) (HE.out _ ((gb_bel I3.out.g hpw hBp).trans ((bel_then (bel_alloc (Below.refl _ _) _ : Below w3.heap.size w3 (w3.alloc (.cells #[.string ⟨#[73, 110, 116]⟩, .string ⟨#[66, 111, 111, 108]⟩, .string ⟨#[84, 101, 120, 116]⟩] 9))) hb4).mono (by have := I3.out.g.size; omega)))).1).mono ?_
                rintro e w5 ⟨rfl, hb5⟩
                have hb35 := bel_then (bel_then (bel_alloc (Below.refl _ _) _ : Below w3.heap.size w3 (w3.alloc (.cells #[.string ⟨#[73, 110, 116]⟩, .string ⟨#[66, 111, 111, 108]⟩, .string ⟨#[84, 101, 120, 116]⟩] 9))) hb4) hb5
                have I5 := Lib.hid (I3.out.next pl (I3.out.r.called hb35) (gb_below hb35 _))
                clear hb35 hb5 f3 y0 y1 y2 y3 y4 z3 z4 x3
                have x5 := I5.out.x
                have f5 := I5.out.f
                have y0 := I5.out.c0
                have y1 := I5.out.c1
                have y2 := I5.out.c2
                have y3 := I5.out.c3
                have y4 := I5.out.c4
                have z5 := I5.out.z
                have r1 := I5.out.r.c1
                have r2 := I5.out.r.free 1
                obtain ⟨lt, hlt⟩ : ∃ lt, lt = letterL (0) := ⟨_, rfl⟩
                rw [← hlt]
                have HLT := Lib.hid hlt; clear hlt
                go_wp2_with fail
                all_goals first
                  | (have hb : (!lt == c :: c2 :: r) = true := by with_reducible assumption
                     have hne : ¬ letterL (0) = c :: c2 :: r := by rw [← HLT.out]; simpa using hb
                     exact read_ends _ w p pl s _ false true d h0 (by omega) (.mk 6 [] [] [] (0)) rfl ⟨by simp [Ty.mod], by simp [Ty.name]⟩ (w5.setCell ⟨p, 1, none⟩ (.bool true)) _ (I5.out.next pl (I5.out.r.set1 true) (gb_set _ _ _ _)) (Below.refl _ _) (by simp) (by simp) 1 (by rw [readF_leaf h1 N1.out N2.out, ← HWD.out, HL.out, HQ.out, decide_eq_true hne]))
                  | (have hb : (!lt == c :: c2 :: r) = false := by with_reducible assumption
                     have hne : letterL (0) = c :: c2 :: r := by rw [← HLT.out]; simpa using hb
                     exact read_ends _ w p pl s _ false false d h0 (by omega) (.mk 6 [] [] [] (0)) rfl ⟨by simp [Ty.mod], by simp [Ty.name]⟩ w5 _ I5.out (Below.refl _ _) (by simp) (by simp) 1 (by rw [readF_leaf h1 N1.out N2.out, ← HWD.out, HL.out, HQ.out, decide_eq_false (by simpa using hne)]))
          · have HN := Lib.hid hn; clear hn
            go_wp2_with fail
            have hq : numV (c :: c2 :: r) = 0 := by simp only [numV]; rw [if_pos ⟨k97, k122⟩, if_neg (by simp)]; split; exact (HN.out _ (by assumption)).elim; rfl
            have HQ := Lib.hid hq; clear hq hnv
            refine (letter_calls (0) _ (by omega) (by omega) (HE.out _ ((gb_bel I3.out.g hpw hBp).trans ((bel_then (bel_alloc (Below.refl _ _) _ : Below w3.heap.size w3 (w3.alloc (.cells #[.string ⟨#[73, 110, 116]⟩, .string ⟨#[66, 111, 111, 108]⟩, .string ⟨#[84, 101, 120, 116]⟩] 9))) hb4).mono (by have := I3.out.g.size; omega)))).1).mono ?_
            rintro e w5 ⟨rfl, hb5⟩
            have hb35 := bel_then (bel_then (bel_alloc (Below.refl _ _) _ : Below w3.heap.size w3 (w3.alloc (.cells #[.string ⟨#[73, 110, 116]⟩, .string ⟨#[66, 111, 111, 108]⟩, .string ⟨#[84, 101, 120, 116]⟩] 9))) hb4) hb5
            have I5 := Lib.hid (I3.out.next pl (I3.out.r.called hb35) (gb_below hb35 _))
            clear hb35 hb5 f3 y0 y1 y2 y3 y4 z3 z4 x3
            have x5 := I5.out.x
            have f5 := I5.out.f
            have y0 := I5.out.c0
            have y1 := I5.out.c1
            have y2 := I5.out.c2
            have y3 := I5.out.c3
            have y4 := I5.out.c4
            have z5 := I5.out.z
            have r1 := I5.out.r.c1
            have r2 := I5.out.r.free 1
            obtain ⟨lt, hlt⟩ : ∃ lt, lt = letterL (0) := ⟨_, rfl⟩
            rw [← hlt]
            have HLT := Lib.hid hlt; clear hlt
            go_wp2_with fail
            all_goals first
              | (have hb : (!lt == c :: c2 :: r) = true := by with_reducible assumption
                 have hne : ¬ letterL (0) = c :: c2 :: r := by rw [← HLT.out]; simpa using hb
                 exact read_ends _ w p pl s _ false true d h0 (by omega) (.mk 6 [] [] [] (0)) rfl ⟨by simp [Ty.mod], by simp [Ty.name]⟩ (w5.setCell ⟨p, 1, none⟩ (.bool true)) _ (I5.out.next pl (I5.out.r.set1 true) (gb_set _ _ _ _)) (Below.refl _ _) (by simp) (by simp) 1 (by rw [readF_leaf h1 N1.out N2.out, ← HWD.out, HL.out, HQ.out, decide_eq_true hne]))
              | (have hb : (!lt == c :: c2 :: r) = false := by with_reducible assumption
                 have hne : letterL (0) = c :: c2 :: r := by rw [← HLT.out]; simpa using hb
                 exact read_ends _ w p pl s _ false false d h0 (by omega) (.mk 6 [] [] [] (0)) rfl ⟨by simp [Ty.mod], by simp [Ty.name]⟩ w5 _ I5.out (Below.refl _ _) (by simp) (by simp) 1 (by rw [readF_leaf h1 N1.out N2.out, ← HWD.out, HL.out, HQ.out, decide_eq_false (by simpa using hne)]))
      · have hcc : (c.toNat : Int) < 97 ∨ (97 ≤ (c.toNat : Int) ∧ 122 < (c.toNat : Int)) := by omega
        have HC := Lib.hid hc; clear hc
        rcases hcc with k97 | ⟨k97, k122⟩
        · go_wp2_with fail
          have hq : numV (c :: r) = 0 := by simp only [numV]; rw [if_neg HC.out]
          have HQ := Lib.hid hq; clear hq hnv
          refine (letter_calls (0) _ (by omega) (by omega) (HE.out _ ((gb_bel I3.out.g hpw hBp).trans ((bel_alloc (Below.refl _ _) _ : Below w3.heap.size w3 (w3.alloc (.cells #[.string ⟨#[73, 110, 116]⟩, .string ⟨#[66, 111, 111, 108]⟩, .string ⟨#[84, 101, 120, 116]⟩] 9))).mono (by have := I3.out.g.size; omega)))).1).mono ?_
          rintro e w5 ⟨rfl, hb5⟩
          have hb35 := bel_then (bel_alloc (Below.refl _ _) _ : Below w3.heap.size w3 (w3.alloc (.cells #[.string ⟨#[73, 110, 116]⟩, .string ⟨#[66, 111, 111, 108]⟩, .string ⟨#[84, 101, 120, 116]⟩] 9))) hb5
          have I5 := Lib.hid (I3.out.next pl (I3.out.r.called hb35) (gb_below hb35 _))
          clear hb35 hb5 f3 y0 y1 y2 y3 y4 z3 z4 x3
          have x5 := I5.out.x
          have f5 := I5.out.f
          have y0 := I5.out.c0
          have y1 := I5.out.c1
          have y2 := I5.out.c2
          have y3 := I5.out.c3
          have y4 := I5.out.c4
          have z5 := I5.out.z
          have r1 := I5.out.r.c1
          have r2 := I5.out.r.free 1
          obtain ⟨lt, hlt⟩ : ∃ lt, lt = letterL (0) := ⟨_, rfl⟩
          rw [← hlt]
          have HLT := Lib.hid hlt; clear hlt
          go_wp2_with fail
          all_goals first
            | (have hb : (!lt == c :: r) = true := by with_reducible assumption
               have hne : ¬ letterL (0) = c :: r := by rw [← HLT.out]; simpa using hb
               exact read_ends _ w p pl s _ false true d h0 (by omega) (.mk 6 [] [] [] (0)) rfl ⟨by simp [Ty.mod], by simp [Ty.name]⟩ (w5.setCell ⟨p, 1, none⟩ (.bool true)) _ (I5.out.next pl (I5.out.r.set1 true) (gb_set _ _ _ _)) (Below.refl _ _) (by simp) (by simp) 1 (by rw [readF_leaf h1 N1.out N2.out, ← HWD.out, HL.out, HQ.out, decide_eq_true hne]))
            | (have hb : (!lt == c :: r) = false := by with_reducible assumption
               have hne : letterL (0) = c :: r := by rw [← HLT.out]; simpa using hb
               exact read_ends _ w p pl s _ false false d h0 (by omega) (.mk 6 [] [] [] (0)) rfl ⟨by simp [Ty.mod], by simp [Ty.name]⟩ w5 _ I5.out (Below.refl _ _) (by simp) (by simp) 1 (by rw [readF_leaf h1 N1.out N2.out, ← HWD.out, HL.out, HQ.out, decide_eq_false (by simpa using hne)]))
        · go_wp2_with fail
          have hq : numV (c :: r) = 0 := by simp only [numV]; rw [if_neg HC.out]
          have HQ := Lib.hid hq; clear hq hnv
          refine (letter_calls (0) _ (by omega) (by omega) (HE.out _ ((gb_bel I3.out.g hpw hBp).trans ((bel_alloc (Below.refl _ _) _ : Below w3.heap.size w3 (w3.alloc (.cells #[.string ⟨#[73, 110, 116]⟩, .string ⟨#[66, 111, 111, 108]⟩, .string ⟨#[84, 101, 120, 116]⟩] 9))).mono (by have := I3.out.g.size; omega)))).1).mono ?_
          rintro e w5 ⟨rfl, hb5⟩
          have hb35 := bel_then (bel_alloc (Below.refl _ _) _ : Below w3.heap.size w3 (w3.alloc (.cells #[.string ⟨#[73, 110, 116]⟩, .string ⟨#[66, 111, 111, 108]⟩, .string ⟨#[84, 101, 120, 116]⟩] 9))) hb5
          have I5 := Lib.hid (I3.out.next pl (I3.out.r.called hb35) (gb_below hb35 _))
          clear hb35 hb5 f3 y0 y1 y2 y3 y4 z3 z4 x3
          have x5 := I5.out.x
          have f5 := I5.out.f
          have y0 := I5.out.c0
          have y1 := I5.out.c1
          have y2 := I5.out.c2
          have y3 := I5.out.c3
          have y4 := I5.out.c4
          have z5 := I5.out.z
          have r1 := I5.out.r.c1
          have r2 := I5.out.r.free 1
          obtain ⟨lt, hlt⟩ : ∃ lt, lt = letterL (0) := ⟨_, rfl⟩
          rw [← hlt]
          have HLT := Lib.hid hlt; clear hlt
          go_wp2_with fail
          all_goals first
            | (have hb : (!lt == c :: r) = true := by with_reducible assumption
               have hne : ¬ letterL (0) = c :: r := by rw [← HLT.out]; simpa using hb
               exact read_ends _ w p pl s _ false true d h0 (by omega) (.mk 6 [] [] [] (0)) rfl ⟨by simp [Ty.mod], by simp [Ty.name]⟩ (w5.setCell ⟨p, 1, none⟩ (.bool true)) _ (I5.out.next pl (I5.out.r.set1 true) (gb_set _ _ _ _)) (Below.refl _ _) (by simp) (by simp) 1 (by rw [readF_leaf h1 N1.out N2.out, ← HWD.out, HL.out, HQ.out, decide_eq_true hne]))
            | (have hb : (!lt == c :: r) = false := by with_reducible assumption
               have hne : letterL (0) = c :: r := by rw [← HLT.out]; simpa using hb
               exact read_ends _ w p pl s _ false false d h0 (by omega) (.mk 6 [] [] [] (0)) rfl ⟨by simp [Ty.mod], by simp [Ty.name]⟩ w5 _ I5.out (Below.refl _ _) (by simp) (by simp) 1 (by rw [readF_leaf h1 N1.out N2.out, ← HWD.out, HL.out, HQ.out, decide_eq_false (by simpa using hne)]))

end Go.Proofs.YtplnfepdikbpfaaGreatDoor
