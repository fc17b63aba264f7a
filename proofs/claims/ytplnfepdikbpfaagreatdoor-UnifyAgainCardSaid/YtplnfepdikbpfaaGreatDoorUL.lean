/- The walk of the reader's list, of read's contract at one depth. Condition: the reader is a block of its own. -/
import Derived.Test.YtplnfepdikbpfaaGreatDoorUP
import Derived.Test.YtplnfepdikbpfaaGreatDoorUO
import Derived.Outline
namespace Go.Proofs.YtplnfepdikbpfaaGreatDoor
open Go.RowKit
set_option linter.unusedVariables false
set_option linter.unusedSimpArgs false

/-- The library's variables that the reader leans on, whatever is written from block B on. -/
def EnvW (w : World) : Prop := TabW w ∧ (∃ t p, w.cell? ⟨0, 0, none⟩ = some (.iface t p)) ∧ (∃ t p, w.cell? ⟨1, 0, none⟩ = some (.iface t p))
def EnvB (B : Nat) (w : World) : Prop := ∀ W, Below B w W → EnvW W
theorem EnvB.next {B : Nat} {w W : World} (h : EnvB B w) (hb : Below B w W) : EnvB B W := fun X hX => h X (hb.trans hX)

/-- What read leaves. -/
def ReadPost (w : World) (p : Nat) (d : Int) (s : List UInt8) (bad : Bool) (e : Ending) (w' : World) : Prop :=
  ∃ f t s' b' v, readF f s bad d = some (t, s', b') ∧ e = .returned v ∧ ValT (fun b => w.heap.size ≤ b ∧ b < w'.heap.size) w' v t ∧ RdrAt w' p s' b' d ∧ w.grownBy w' (some p)
def ReadAt (d : Int) : Prop := ∀ (p B : Nat) (s : List UInt8) (bad : Bool) (w : World), RdrAt w p s bad d → s.length ≤ 20000 → EnvB B w → B ≤ p →
  Calls Tryz.prog 61 #[.pointer (some ⟨p, 0, none⟩)] w (ReadPost w p d s bad)
def ListPost (w : World) (p : Nat) (d : Int) (fin s : List UInt8) (bad : Bool) (e : Ending) (w' : World) : Prop :=
  ∃ f ts s' b' v, listF f fin s bad d [] = some (ts, s', b') ∧ e = .returned v ∧ OwnTy (fun b => w.heap.size ≤ b) w' w.heap.size v ts ∧ ts.length ≤ 20001 ∧ RdrAt w' p s' b' d ∧ w.grownBy w' (some p)

theorem RdrAt.grown {w W : World} {p : Nat} {s : List UInt8} {bad : Bool} {deep : Int} {r : Option Nat} (h : RdrAt w p s bad deep) (hg : w.grownBy W r) (hr : r ≠ some p) : RdrAt W p s bad deep := by
  unfold RdrAt at h ⊢; rw [hg.block p (lt_of_block h) (Ne.symm hr)]; exact h
theorem gb_own {w W X : World} {p : Nat} {r : Option Nat} (h : w.grownBy W (some p)) (hg : W.grownBy X r) (hr : ∀ k, r = some k → w.heap.size ≤ k) : w.grownBy X (some p) :=
  ⟨hg.os.trans h.os, hg.tape.trans h.tape, hg.output.trans h.output, Nat.le_trans h.size hg.size, fun k hk hn =>
    (hg.block k (Nat.lt_of_lt_of_le hk h.size) (fun e => by have := hr k e.symm; omega)).trans (h.block k hk hn)⟩

def rdrMeas (w : World) (p : Nat) : Nat :=
  match w.cell? ⟨p, 0, none⟩, w.cell? ⟨p, 1, none⟩ with
  | some (.string s), some (.bool false) => s.size + 1
  | _, _ => 0
theorem rdrMeas_true {w : World} {p : Nat} {s : List UInt8} {d : Int} (h : RdrAt w p s true d) : rdrMeas w p = 0 := by unfold rdrMeas; rw [h.c0, h.c1]
theorem rdrMeas_false {w : World} {p : Nat} {s : List UInt8} {d : Int} (h : RdrAt w p s false d) : rdrMeas w p = s.length + 1 := by unfold rdrMeas; rw [h.c0, h.c1]; simp [S_size]
theorem rdrMeas_le {w : World} {p : Nat} {s : List UInt8} {b : Bool} {d : Int} (h : RdrAt w p s b d) : rdrMeas w p ≤ s.length + 1 := by
  cases b with
  | true => rw [rdrMeas_true h]; omega
  | false => rw [rdrMeas_false h]; exact Nat.le_refl _

set_option maxHeartbeats 4000000 in
theorem list_calls (d : Int) (ih : ReadAt d) (p B : Nat) (fin s : List UInt8) (hfin : fin ≠ []) (bad : Bool) (w : World) (hr : RdrAt w p s bad d) (hs : s.length ≤ 20000) (he : EnvB B w) (hBp : B ≤ p) :
    Calls Tryz.prog 96 #[.pointer (some ⟨p, 0, none⟩), .string (S fin)] w (ListPost w p d fin s bad) := by
  have hpl := hr.lt
  have HR := Lib.hid hr; have HE := Lib.hid he
  clear hr he
  go_enter Tryz.func96, Tryz.ntmps96
  go_wp2
  go_loopw [5] (fun v wr => ∃ (s2 : List UInt8) (b2 : Bool) (acc : List Ty), Hid (OwnTy (fun b => w.heap.size ≤ b) wr w.heap.size v acc) ∧ Hid (RdrAt wr p s2 b2 d) ∧ Hid (w.grownBy wr (some p)) ∧ Hid (s2.length ≤ s.length ∧ acc.length ≤ s.length + 1 ∧ (b2 = false → acc.length + s2.length ≤ s.length)) ∧ Hid (∀ f r, listF f fin s2 b2 d acc = some r → ∃ f', listF f' fin s bad d [] = some r)) (fun _ wr => rdrMeas wr p)
  case atStart => exact ⟨s, bad, [], Lib.hid (OwnTy.nil _ _ _), HR, Lib.hid (gb_refl _ _), Lib.hid (by simp), Lib.hid (fun f r h => ⟨f, h⟩)⟩
  case round =>
    obtain ⟨s2, b2, acc, hO, hR, hG, hL, hF⟩ := hrel
    have c1 := hR.out.c1
    cases b2 with
    | true =>
      go_wp2
      go_ret
      obtain ⟨f', hf'⟩ := hF.out 1 (acc, s2, true) (by simp [listF])
      exact ⟨f', acc, s2, true, _, hf', rfl, hO.out, by have := hL.out; omega, hR.out, hG.out⟩
    | false =>
      go_wp2_with fail
      have hpw : B ≤ w.heap.size := by omega
      have hB1 := Lib.hid (gb_bel hG.out hpw hBp)
      refine (ih p B s2 false wr hR.out (by have := hL.out; omega) (HE.out.next hB1.out) hBp).mono ?_
      rintro e w1 ⟨f, t, s3, b3, va, hF1, rfl, hval, hr1, hg1⟩
      obtain ⟨h1, A, c, rfl, hrd⟩ := hval
      have hwr := hG.out.size
      have hwr1 := hg1.size
      have hown : ∀ k, u5.ownBlock = some k → w.heap.size ≤ k ∧ k < wr.heap.size := hO.out.lt
      have hO1 := Lib.hid (hO.out.grown hg1 (fun k e => by
        obtain rfl := Option.some.inj e
        exact ⟨by omega, fun e2 => by have := hown _ e2; omega⟩))
      have hT := Lib.hid (show Ok1 t ∧ RdL (fun b => w.heap.size ≤ b ∧ b < w1.heap.size ∧ u5.ownBlock ≠ some b) w1 (.slice A t.args.length c) t.args from
        ⟨h1, hrd.weak (fun b hb => ⟨by omega, hb.2, fun e2 => by have := hown _ e2; omega⟩)⟩)
      have hnp : u5.ownBlock ≠ some p := fun e2 => by have := hown _ e2; omega
      have HF1 := Lib.hid hF1
      have htk := (read_takes f).1 _ _ _ _ _ _ hF1
      have HTK := Lib.hid htk
      have hR1 := Lib.hid hr1
      have hG1 := Lib.hid (gb_trans hG.out hg1)
      have hacc : acc.length ≤ 1000000 := by have := hL.out; omega
      have hw1 : w.heap.size ≤ w1.heap.size := by omega
      have hWN := Lib.hid hown
      have HNP := Lib.hid hnp
      clear hrd hr1 hg1 h1 hF1 htk hnp hown c1
      unfold tyV
      go_wp2_with (at_builtin; refine ty_append (fun b => w.heap.size ≤ b) w.heap.size rfl (.tmp 11) (.tmp 14) rfl u5 acc t A c rfl w1.heap.size rfl rfl hO1.out hT.out hw1 hacc ?_; intro v1 w2 hown2 hg2 hat2)
      have hR2 := Lib.hid (hR1.out.grown hg2 HNP.out)
      have hG2 := Lib.hid (gb_own hG1.out hg2 (fun k e => (hWN.out k e).1))
      have hw2 := hG2.out.size
      have hO2 := Lib.hid hown2
      have hz12 := hg2.size
      have hnp2 : v1.ownBlock ≠ some p := by
        rcases hat2 with e | ⟨g, hg, e⟩
        · rw [e]; exact HNP.out
        · rw [e]; intro e2; have := Option.some.inj e2; omega
      have HNP2 := Lib.hid hnp2
      clear hown2 hg2 hat2 hnp2
      refine (skip_calls p s3 fin b3 d w2 hR2.out).mono ?_
      rintro e w3 ⟨rfl, hr3, hg3⟩
      have hR3 := Lib.hid hr3
      have hG3 := Lib.hid (gb_trans hG2.out hg3)
      have hO3 := Lib.hid (hO2.out.grown hg3 (fun k e => by
        obtain rfl := Option.some.inj e
        exact ⟨by omega, HNP2.out⟩))
      clear hr3 hg3
      have hstep : listF (f + 1) fin s2 false d acc = if skipB s3 fin = true then some (acc ++ [t], skipL s3 fin, b3) else listF f fin (skipL s3 [44, 32]) (b3 || !skipB s3 [44, 32]) d (acc ++ [t]) := by
        rw [listF, if_neg (by simp), HF1.out]
      have HS := Lib.hid hstep; clear hstep
      cases hsk : skipB s3 fin with
      | true =>
        have HSK := Lib.hid hsk; clear hsk
        go_wp2
        go_ret
        obtain ⟨f', hf'⟩ := hF.out (f + 1) (acc ++ [t], skipL s3 fin, b3) (by rw [HS.out, if_pos HSK.out])
        exact ⟨f', _, _, _, _, hf', rfl, hO3.out, by have := hL.out.2.2 (by simp); simp; omega, hR3.out, hG3.out⟩
      | false =>
        have e3 : skipL s3 fin = s3 := by
          unfold skipB at hsk
          unfold skipL Lib.trimPrefix
          rw [hsk]; rfl
        have HSK := Lib.hid hsk; clear hsk
        rw [e3] at hR3
        clear e3
        go_wp2_with fail
        refine (must_calls p s3 [44, 32] b3 d w3 hR3.out).mono ?_
        rintro e w4 ⟨rfl, hr4, hg4⟩
        have hR4 := Lib.hid hr4
        have hG4 := Lib.hid (gb_trans hG3.out hg4)
        have hO4 := Lib.hid (hO3.out.grown hg4 (fun k e => by
          obtain rfl := Option.some.inj e
          exact ⟨by omega, HNP2.out⟩))
        clear hr4 hg4
        have hl4 := skipL_le s3 [44, 32]
        have htk := HTK.out
        have hm1 := rdrMeas_false hR.out
        have hm2 := rdrMeas_le hR4.out
        have hm3 : (b3 || !skipB s3 [44, 32]) = true → rdrMeas w4 p = 0 := fun e => rdrMeas_true (by have := hR4.out; rwa [e] at this)
        have hLL := Lib.hid (show (skipL s3 [44, 32]).length ≤ s.length ∧ (acc ++ [t]).length ≤ s.length + 1 ∧ ((b3 || !skipB s3 [44, 32]) = false → (acc ++ [t]).length + (skipL s3 [44, 32]).length ≤ s.length) from by
          have := hL.out
          have h3 := this.2.2 (by simp)
          refine ⟨by omega, by simp; omega, fun hb => ?_⟩
          have hb3 : b3 = false := by cases b3 <;> simp at hb ⊢
          have := htk.2 hb3
          simp; omega)
        have hFF := Lib.hid (show ∀ g r, listF g fin (skipL s3 [44, 32]) (b3 || !skipB s3 [44, 32]) d (acc ++ [t]) = some r → ∃ f', listF f' fin s bad d [] = some r from fun g r hgr => by
          refine hF.out (max f g + 1) r ?_
          rw [listF, if_neg (by simp), readF_le (Nat.le_max_left f g) HF1.out]
          simp only
          rw [if_neg (by rw [HSK.out]; simp)]
          exact listF_le (Nat.le_max_right f g) hgr)
        have hlt : rdrMeas w4 p < rdrMeas wr p := by
          rw [hm1]
          cases hb : (b3 || !skipB s3 [44, 32]) with
          | true => rw [hm3 hb]; omega
          | false =>
            have hb3 : b3 = false := by cases b3 <;> simp at hb ⊢
            have := htk.2 hb3
            omega
        have HLT := Lib.hid hlt
        clear hl4 htk hm1 hm2 hm3 hlt
        go_wp2
        go_roundw
        case rel => exact ⟨_, _, _, hO4, hR4, hG4, hLL, hFF⟩
        case measure => exact HLT.out

end Go.Proofs.YtplnfepdikbpfaaGreatDoor
