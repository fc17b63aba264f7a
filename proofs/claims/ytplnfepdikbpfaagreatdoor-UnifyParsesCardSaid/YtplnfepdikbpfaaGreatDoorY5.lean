/- The walk of the reference reader's list, of read's contract at one depth. Condition: the reader is a block of its own; at most 20000 bytes. -/
import Derived.Test.YtplnfepdikbpfaaGreatDoorY4
namespace Go.Proofs.YtplnfepdikbpfaaGreatDoor
open Go.RowKit
set_option linter.unusedVariables false
set_option linter.unusedSimpArgs false
attribute [local go_sem ↓] Go.wp_at_zero Go.wp_at_succ

/-- How many parts are counted at most. -/
theorem rread_bound (f : Nat) : (∀ s p bad (d : Int) t s' p' b, d ≤ 101 → rreadF f s p bad d = some (t, s', p', b) → (p' : Int) ≤ max (p : Int) 4000 + 1 + (101 - d)) ∧
    (∀ fin s p bad (d : Int) acc l s' p' b, d ≤ 101 → rlistF f fin s p bad d acc = some (l, s', p', b) → (p' : Int) ≤ max (p : Int) 4000 + 1 + (101 - d)) := by
  induction f with
  | zero => exact ⟨fun s p bad d t s' p' b _ h => (by simp [rreadF] at h), fun fin s p bad d acc l s' p' b _ h => (by simp [rlistF] at h)⟩
  | succ f ih =>
    obtain ⟨ihr, ihl⟩ := ih
    constructor
    · intro s p bad d t s' p' b hd h
      unfold rreadF at h
      by_cases h1 : bad = true ∨ 100 < d ∨ 4000 < p + 1
      · rw [if_pos h1] at h
        simp only [Option.some.injEq, Prod.mk.injEq] at h
        obtain ⟨rfl, -, rfl, rfl⟩ := h
        omega
      · rw [if_neg h1] at h
        obtain ⟨-, hd2, hp⟩ := by simpa [not_or] using h1
        by_cases h2 : skipB s [40] = true
        · rw [if_pos h2] at h
          cases hl : rlistF f [41, 32, 45, 62, 32] (skipL s [40]) (p + 1) false (d + 1) [] with
          | none => rw [hl] at h; cases h
          | some x =>
            obtain ⟨args, s2, p2, b2⟩ := x
            rw [hl] at h
            obtain ⟨t', hr, rfl⟩ := rarrow_some h
            have g1 := ihl _ _ _ _ _ _ _ _ _ _ (by omega) hl
            have g3 := ((rread_parts f).2 _ _ _ _ _ _ _ _ _ _ hl).2
            have g2 := ihr _ _ _ _ _ _ _ _ (by omega) hr
            cases b2 with
            | false =>
              have := g3 rfl (by omega)
              omega
            | true =>
              cases f with
              | zero => simp [rreadF] at hr
              | succ f =>
                rw [rreadF, if_pos (.inl rfl)] at hr
                simp only [Option.some.injEq, Prod.mk.injEq] at hr
                obtain ⟨-, -, rfl, -⟩ := hr
                omega
        · rw [if_neg h2] at h
          by_cases h3 : skipB (s.drop (wordN s)) [46] = true
          · rw [if_pos h3] at h
            by_cases h4 : skipB ((skipL (s.drop (wordN s)) [46]).drop (wordN (skipL (s.drop (wordN s)) [46]))) [91] = true
            · rw [if_pos h4] at h
              generalize hq : rlistF f [93] (skipL ((skipL (s.drop (wordN s)) [46]).drop (wordN (skipL (s.drop (wordN s)) [46]))) [91]) (p + 1) false (d + 1) [] = q at h
              cases q with
              | none => cases h
              | some x =>
                obtain ⟨args, s2, p2, b2⟩ := x
                simp only [Option.some.injEq, Prod.mk.injEq] at h
                obtain ⟨rfl, -, rfl, rfl⟩ := h
                have g1 := ihl _ _ _ _ _ _ _ _ _ _ (by omega) hq
                omega
            · rw [if_neg h4] at h
              simp only [Option.some.injEq, Prod.mk.injEq] at h
              obtain ⟨rfl, -, rfl, rfl⟩ := h
              omega
          · rw [if_neg h3] at h
            simp only [Option.some.injEq, Prod.mk.injEq] at h
            obtain ⟨rfl, -, rfl, rfl⟩ := h
            omega
    · intro fin s p bad d acc l s' p' b hd h
      unfold rlistF at h
      by_cases h1 : bad = true ∨ skipB s fin = true
      · rw [if_pos h1] at h
        simp only [Option.some.injEq, Prod.mk.injEq] at h
        obtain ⟨rfl, -, rfl, -⟩ := h
        omega
      · rw [if_neg h1] at h
        generalize hr : rreadF f (if acc.length = 0 then s else skipL s [44, 32]) p (if acc.length = 0 then false else !skipB s [44, 32]) d = q at h
        cases q with
        | none => cases h
        | some x =>
          obtain ⟨t, s1, p1, b1⟩ := x
          simp only at h
          have g1 := ihr _ _ _ _ _ _ _ _ hd hr
          have g2 := ihl _ _ _ _ _ _ _ _ _ _ hd h
          cases b1 with
          | false =>
            have := ((rread_parts f).1 _ _ _ _ _ _ _ _ hr).2 rfl
            omega
          | true =>
            cases f with
            | zero => simp [rlistF] at h
            | succ f =>
              rw [rlistF, if_pos (.inl rfl)] at h
              simp only [Option.some.injEq, Prod.mk.injEq] at h
              obtain ⟨-, -, rfl, -⟩ := h
              exact g1

/-- What read leaves. -/
def RReadPost (w : World) (r : Nat) (L : List UInt8) (k p : Nat) (bad : Bool) (d : Int) (e : Ending) (w' : World) : Prop :=
  ∃ f t p' b' k' v, rreadF f (L.drop k) p bad d = some (t, L.drop k', p', b') ∧ e = .returned v ∧ ValT (fun b => w.heap.size ≤ b ∧ b < w'.heap.size) w' v t ∧ k' ≤ L.length ∧ RRdr w' r L k' p' b' ∧ w.grownBy w' (some r)
def RReadAt (d : Int) : Prop := ∀ (r k p : Nat) (L : List UInt8) (bad : Bool) (w : World), RRdr w r L k p bad → k ≤ L.length → L.length ≤ 20000 → p ≤ 5000 →
  Calls Tryz.prog 62 #[.pointer (some ⟨r, 0, none⟩), .int .i64 d] w (RReadPost w r L k p bad d)
def RListPost (w : World) (r : Nat) (L : List UInt8) (k p : Nat) (bad : Bool) (d : Int) (fin : List UInt8) (e : Ending) (w' : World) : Prop :=
  ∃ f ts p' b' k' v, rlistF f fin (L.drop k) p bad d [] = some (ts, L.drop k', p', b') ∧ e = .returned v ∧ OwnTy (fun b => w.heap.size ≤ b) w' w.heap.size v ts ∧ ts.length ≤ 5000 ∧ k' ≤ L.length ∧ RRdr w' r L k' p' b' ∧ w.grownBy w' (some r)

def rdrM (w : World) (r : Nat) : Nat :=
  match w.cell? ⟨r, 2, none⟩, w.cell? ⟨r, 3, none⟩ with
  | some (.int _ p), some (.bool false) => 4002 - p.toNat
  | _, _ => 0
theorem rdrM_true {w : World} {r : Nat} {L : List UInt8} {k p : Nat} (h : RRdr w r L k p true) : rdrM w r = 0 := by unfold rdrM; rw [h.cells.2.2.1, h.cells.2.2.2.1]
theorem rdrM_false {w : World} {r : Nat} {L : List UInt8} {k p : Nat} (h : RRdr w r L k p false) : rdrM w r = 4002 - p := by unfold rdrM; rw [h.cells.2.2.1, h.cells.2.2.2.1]; simp

/-- What holds at the head of list's loop. -/
structure RListIn (w : World) (r : Nat) (L : List UInt8) (k p : Nat) (bad : Bool) (d : Int) (fin : List UInt8) (wr : World) (v : Value) (kc pc : Nat) (b2 : Bool) (acc : List Ty) : Prop where
  own : OwnTy (fun b => w.heap.size ≤ b) wr w.heap.size v acc
  rdr : RRdr wr r L kc pc b2
  kl : kc ≤ L.length
  gb : w.grownBy wr (some r)
  few : pc ≤ 4600 ∧ (b2 = false → pc ≤ 4000) ∧ acc.length ≤ pc
  eq : ∀ f x, rlistF f fin (L.drop kc) pc b2 d acc = some x → ∃ f', rlistF f' fin (L.drop k) p bad d [] = some x

set_option maxRecDepth 100000 in
set_option maxHeartbeats 8000000 in
theorem rlist_calls (d : Int) (hd1 : 1 ≤ d) (hd2 : d ≤ 101) (ih : RReadAt d) (r k p : Nat) (L fin : List UInt8) (hfin : fin.length ≤ 100) (bad : Bool) (w : World) (h : RRdr w r L k p bad) (hk : k ≤ L.length) (hL : L.length ≤ 20000) (hp : p ≤ 4000) :
    Calls Tryz.prog 104 #[.pointer (some ⟨r, 0, none⟩), .string (S fin), .int .i64 d] w (RListPost w r L k p bad d fin) := by
  have hpl := h.cells.2.2.2.2.2
  have HR := Lib.hid h
  clear h
  go_enter Tryz.func104, Tryz.ntmps104
  go_wp2_with fail
  go_loopw [7] (fun v wr => ∃ (kc pc : Nat) (b2 : Bool) (acc : List Ty), Hid (RListIn w r L k p bad d fin wr v kc pc b2 acc)) (fun _ wr => rdrM wr r)
  case atStart => exact ⟨k, p, bad, [], Lib.hid ⟨OwnTy.nil _ _ _, HR.out, hk, gb_refl _ _, ⟨by omega, fun _ => hp, Nat.zero_le _⟩, fun f x h => ⟨f, h⟩⟩⟩
  case round =>
    obtain ⟨kc, pc, b2, acc, hI⟩ := hrel
    obtain ⟨A0, c0, hv, hcap⟩ := hI.out.own.length
    subst hv
    have c3 := hI.out.rdr.cells.2.2.2.1
    have hkc := hI.out.kl
    cases b2 with
    | true =>
      have hsc := rskip_calls L kc pc r true fin wr hI.out.rdr hkc hL hfin
      go_wp2_with fail
      refine hsc.mono ?_
      rintro e w2 ⟨rfl, k', hk1, hk2, hr2, hg2⟩
      have HP := Lib.hid (show RListPost w r L k p bad d fin (.returned (.slice A0 acc.length c0)) w2 from by
        obtain ⟨f', hf'⟩ := hI.out.eq 1 (acc, L.drop k', pc, true) (by rw [rlistF, if_pos (.inl rfl), hk1]; simp)
        refine ⟨f', acc, pc, true, k', _, hf', rfl, hI.out.own.grown hg2 (fun z e => ?_), by have := hI.out.few; omega, hk2, by simpa using hr2, gb_trans hI.out.gb hg2⟩
        obtain rfl := Option.some.inj e
        exact ⟨by omega, fun e2 => by have := (hI.out.own.lt _ e2).1; omega⟩)
      clear hsc hk1 hk2 hr2 hg2 c3
      go_wp2
      go_ret
      exact HP.out
    | false =>
      have hic := ris_calls L kc pc r false fin wr hI.out.rdr hkc hL hfin
      go_wp2_with fail
      refine hic.mono ?_
      rintro e w1 ⟨rfl, hb1⟩
      have HR1 := Lib.hid (hI.out.rdr.called hb1)
      have HO1 := Lib.hid (hI.out.own.called hb1)
      have HG1 := Lib.hid (gb_trans hI.out.gb (gb_below hb1 (some r)))
      clear hic hb1 c3
      cases hs : skipB (L.drop kc) fin with
      | true =>
        have HS := Lib.hid hs
        clear hs
        have hsc := rskip_calls L kc pc r false fin w1 HR1.out hkc hL hfin
        go_wp2_with fail
        refine hsc.mono ?_
        rintro e w2 ⟨rfl, k', hk1, hk2, hr2, hg2⟩
        have HP := Lib.hid (show RListPost w r L k p bad d fin (.returned (.slice A0 acc.length c0)) w2 from by
          obtain ⟨f', hf'⟩ := hI.out.eq 1 (acc, L.drop k', pc, false) (by rw [rlistF, if_pos (.inr HS.out), hk1, HS.out]; rfl)
          refine ⟨f', acc, pc, false, k', _, hf', rfl, HO1.out.grown hg2 (fun z e => ?_), by have := hI.out.few; omega, hk2, by have h := hr2; rw [HS.out] at h; exact h, gb_trans HG1.out hg2⟩
          obtain rfl := Option.some.inj e
          exact ⟨by omega, fun e2 => by have := (HO1.out.lt _ e2).1; omega⟩)
        clear hsc hk1 hk2 hr2 hg2
        go_wp2
        go_ret
        exact HP.out
      | false =>
        have HS := Lib.hid hs
        clear hs
        by_cases ha : acc.length = 0
        · have t1 : ¬ ((0 : Int) < (acc.length : Int)) := by omega
          have hcall := ih r kc pc L false w1 HR1.out hkc hL (by have := hI.out.few; omega)
          have HA := Lib.hid (show ∀ (f : Nat), rreadF f (if acc.length = 0 then L.drop kc else skipL (L.drop kc) [44, 32]) pc (if acc.length = 0 then false else !skipB (L.drop kc) [44, 32]) d = rreadF f (L.drop kc) pc false d from fun f => by rw [if_pos ha, if_pos ha])
          clear ha
          go_wp2_with fail
          refine hcall.mono ?_
          rintro e w2 ⟨f, t, p1, b1, k1, va, hF, rfl, hval, hk1, hr2, hg2⟩
          have HF := Lib.hid (show rreadF f (if acc.length = 0 then L.drop kc else skipL (L.drop kc) [44, 32]) pc (if acc.length = 0 then false else !skipB (L.drop kc) [44, 32]) d = some (t, L.drop k1, p1, b1) by rw [HA.out, hF])
          clear hcall hF HA
          obtain ⟨h1, A, c, rfl, hrd⟩ := hval
          have hw1 : w.heap.size ≤ w1.heap.size := HG1.out.size
          have hw12 := hg2.size
          have hown := HO1.out.lt
          have HO2 := Lib.hid (HO1.out.grown hg2 (fun z e => by
            obtain rfl := Option.some.inj e
            exact ⟨by omega, fun e2 => by have := (HO1.out.lt _ e2).1; omega⟩))
          have HT := Lib.hid (show Ok1 t ∧ RdL (fun b => w.heap.size ≤ b ∧ b < w2.heap.size ∧ (Value.slice A0 acc.length c0).ownBlock ≠ some b) w2 (.slice A t.args.length c) t.args from
            ⟨h1, hrd.weak (fun b hb => ⟨by omega, hb.2, fun e2 => by have := (hown _ e2).2; omega⟩)⟩)
          have HNP := Lib.hid (show (Value.slice A0 acc.length c0).ownBlock ≠ some r from fun e2 => by have := (hown _ e2).1; omega)
          have HWN := Lib.hid hown
          have HR2 := Lib.hid hr2
          have HG2 := Lib.hid (gb_trans HG1.out hg2)
          have hacc : acc.length ≤ 1000000 := by have := hI.out.few; omega
          have hw2 : w.heap.size ≤ w2.heap.size := by omega
          have HK1 := Lib.hid hk1
          have hpp := (rread_parts f).1 _ _ _ _ _ _ _ _ HF.out
          have hpb := (rread_bound f).1 _ _ _ _ _ _ _ _ hd2 HF.out
          have hpt : 1 ≤ partsT t := by obtain ⟨k0, m0, n0, xs0, v0⟩ := t; simp only [partsT]; omega
          have HPP := Lib.hid (show pc + 1 ≤ p1 ∧ p1 ≤ 4600 ∧ (b1 = false → p1 ≤ 4000) from ⟨by omega, by have h1 := hI.out.few.2.1 rfl; omega, hpp.2⟩)
          clear hrd hr2 hg2 h1 hown hk1 hpp hpb hpt hw12
          unfold tyV
          go_wp2_with (at_builtin; refine ty_append (fun b => w.heap.size ≤ b) w.heap.size rfl (.tmp 24) (.tmp 28) rfl _ acc t A c rfl w2.heap.size rfl rfl HO2.out HT.out hw2 hacc ?_; intro v1 w3 hown2 hgr2 hat2)
          have hz12 := hgr2.size
          have HI3 := Lib.hid (show RListIn w r L k p bad d fin w3 v1 k1 p1 b1 (acc ++ [t]) from by
            refine ⟨hown2, HR2.out.grown hgr2 HNP.out, HK1.out, gb_own HG2.out hgr2 (fun z e => (HWN.out z e).1), ⟨HPP.out.2.1, HPP.out.2.2, by have := hI.out.few; have := HPP.out; simp; omega⟩, fun g x hx => hI.out.eq (max f g + 1) x ?_⟩
            rw [rlistF, if_neg (by rw [HS.out]; simp), rreadF_le (Nat.le_max_left f g) HF.out]
            exact rlistF_le (Nat.le_max_right f g) hx)
          have HLT := Lib.hid (show rdrM w3 r < rdrM wr r from by
            rw [rdrM_false hI.out.rdr]
            have hp1 := HPP.out
            have hp2 := hI.out.few.2.1 rfl
            have hr3 := HI3.out.rdr
            cases b1 with
            | true => rw [rdrM_true hr3]; omega
            | false => rw [rdrM_false hr3]; omega)
          clear hown2 hgr2 hat2 hz12
          go_wp2
          go_roundw
          case rel => exact ⟨_, _, _, _, HI3⟩
          case measure => exact HLT.out
        · have t1 : (0 : Int) < (acc.length : Int) := by omega
          have hsc := rskip_calls L kc pc r false [44, 32] w1 HR1.out hkc hL (by simp)
          have HA := Lib.hid ha
          clear ha
          go_wp2_with fail
          refine hsc.mono ?_
          rintro e w1b ⟨rfl, k3, hk3, hk4, hr3, hg3⟩
          have HO1 := Lib.hid (HO1.out.grown hg3 (fun z e => by
            obtain rfl := Option.some.inj e
            exact ⟨by omega, fun e2 => by have := (HO1.out.lt _ e2).1; omega⟩))
          have HG1 := Lib.hid (gb_trans HG1.out hg3)
          have hcall := ih r k3 pc L _ w1b hr3 hk4 hL (by have := hI.out.few; omega)
          have HA2 := Lib.hid (show ∀ (f : Nat), rreadF f (if acc.length = 0 then L.drop kc else skipL (L.drop kc) [44, 32]) pc (if acc.length = 0 then false else !skipB (L.drop kc) [44, 32]) d = rreadF f (L.drop k3) pc (false || !skipB (L.drop kc) [44, 32]) d from fun f => by rw [if_neg HA.out, if_neg HA.out, hk3, Bool.false_or])
          clear hsc hr3 hg3 hk3
          go_wp2_with fail
          refine hcall.mono ?_
          rintro e w2 ⟨f, t, p1, b1, k1, va, hF, rfl, hval, hk1, hr2, hg2⟩
          have HF := Lib.hid (show rreadF f (if acc.length = 0 then L.drop kc else skipL (L.drop kc) [44, 32]) pc (if acc.length = 0 then false else !skipB (L.drop kc) [44, 32]) d = some (t, L.drop k1, p1, b1) by rw [HA2.out, hF])
          clear hcall hF HA HA2
          obtain ⟨h1, A, c, rfl, hrd⟩ := hval
          have hw1 : w.heap.size ≤ w1b.heap.size := HG1.out.size
          have hw12 := hg2.size
          have hown := HO1.out.lt
          have HO2 := Lib.hid (HO1.out.grown hg2 (fun z e => by
            obtain rfl := Option.some.inj e
            exact ⟨by omega, fun e2 => by have := (HO1.out.lt _ e2).1; omega⟩))
          have HT := Lib.hid (show Ok1 t ∧ RdL (fun b => w.heap.size ≤ b ∧ b < w2.heap.size ∧ (Value.slice A0 acc.length c0).ownBlock ≠ some b) w2 (.slice A t.args.length c) t.args from
            ⟨h1, hrd.weak (fun b hb => ⟨by omega, hb.2, fun e2 => by have := (hown _ e2).2; omega⟩)⟩)
          have HNP := Lib.hid (show (Value.slice A0 acc.length c0).ownBlock ≠ some r from fun e2 => by have := (hown _ e2).1; omega)
          have HWN := Lib.hid hown
          have HR2 := Lib.hid hr2
          have HG2 := Lib.hid (gb_trans HG1.out hg2)
          have hacc : acc.length ≤ 1000000 := by have := hI.out.few; omega
          have hw2 : w.heap.size ≤ w2.heap.size := by omega
          have HK1 := Lib.hid hk1
          have hpp := (rread_parts f).1 _ _ _ _ _ _ _ _ HF.out
          have hpb := (rread_bound f).1 _ _ _ _ _ _ _ _ hd2 HF.out
          have hpt : 1 ≤ partsT t := by obtain ⟨k0, m0, n0, xs0, v0⟩ := t; simp only [partsT]; omega
          have HPP := Lib.hid (show pc + 1 ≤ p1 ∧ p1 ≤ 4600 ∧ (b1 = false → p1 ≤ 4000) from ⟨by omega, by have h1 := hI.out.few.2.1 rfl; omega, hpp.2⟩)
          clear hrd hr2 hg2 h1 hown hk1 hpp hpb hpt hw12
          unfold tyV
          go_wp2_with (at_builtin; refine ty_append (fun b => w.heap.size ≤ b) w.heap.size rfl (.tmp 24) (.tmp 28) rfl _ acc t A c rfl w2.heap.size rfl rfl HO2.out HT.out hw2 hacc ?_; intro v1 w3 hown2 hgr2 hat2)
          have hz12 := hgr2.size
          have HI3 := Lib.hid (show RListIn w r L k p bad d fin w3 v1 k1 p1 b1 (acc ++ [t]) from by
            refine ⟨hown2, HR2.out.grown hgr2 HNP.out, HK1.out, gb_own HG2.out hgr2 (fun z e => (HWN.out z e).1), ⟨HPP.out.2.1, HPP.out.2.2, by have := hI.out.few; have := HPP.out; simp; omega⟩, fun g x hx => hI.out.eq (max f g + 1) x ?_⟩
            rw [rlistF, if_neg (by rw [HS.out]; simp), rreadF_le (Nat.le_max_left f g) HF.out]
            exact rlistF_le (Nat.le_max_right f g) hx)
          have HLT := Lib.hid (show rdrM w3 r < rdrM wr r from by
            rw [rdrM_false hI.out.rdr]
            have hp1 := HPP.out
            have hp2 := hI.out.few.2.1 rfl
            have hr3 := HI3.out.rdr
            cases b1 with
            | true => rw [rdrM_true hr3]; omega
            | false => rw [rdrM_false hr3]; omega)
          clear hown2 hgr2 hat2 hz12
          go_wp2
          go_roundw
          case rel => exact ⟨_, _, _, _, HI3⟩
          case measure => exact HLT.out

end Go.Proofs.YtplnfepdikbpfaaGreatDoor
