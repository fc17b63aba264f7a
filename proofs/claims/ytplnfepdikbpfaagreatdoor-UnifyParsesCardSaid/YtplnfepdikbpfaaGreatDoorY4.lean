/- The walks of the reference's reader: skip, is, word, list, read, and of Parse. Condition: the reader is a block of its own; at most 20000 bytes; the world's tables. -/
import Derived.Test.YtplnfepdikbpfaaGreatDoorY2
import Derived.Lib.QuietBelow
namespace Go.Proofs.YtplnfepdikbpfaaGreatDoor
open Go.RowKit
open Go.Proofs.YtplnfepdikbpfaaGreatDoorW.PrintLast
set_option linter.unusedVariables false
set_option linter.unusedSimpArgs false
attribute [local go_sem ↓] Go.wp_at_zero Go.wp_at_succ

/-- The reader in memory. -/
def RRdr (w : World) (r : Nat) (L : List UInt8) (k p : Nat) (bad : Bool) : Prop := w.heap[r]? = some (.cells #[.string (S L), .int .i64 (k : Int), .int .i64 (p : Int), .bool bad] 96 (0, 0))
theorem RRdr.cells {w : World} {r : Nat} {L : List UInt8} {k p : Nat} {bad : Bool} (h : RRdr w r L k p bad) : w.cell? ⟨r, 0, none⟩ = some (.string (S L)) ∧ w.cell? ⟨r, 1, none⟩ = some (.int .i64 (k : Int)) ∧ w.cell? ⟨r, 2, none⟩ = some (.int .i64 (p : Int)) ∧ w.cell? ⟨r, 3, none⟩ = some (.bool bad) ∧ (∀ o, w.frozen? ⟨r, o, none⟩ = false) ∧ r < w.heap.size := by
  unfold RRdr at h
  refine ⟨?_, ?_, ?_, ?_, fun o => ?_, lt_of_block h⟩ <;> simp [World.cell?, World.frozen?, h]
theorem RRdr.setAt {w : World} {r : Nat} {L : List UInt8} {k p : Nat} {bad : Bool} (h : RRdr w r L k p bad) (k' : Nat) : RRdr (w.setCell ⟨r, 1, none⟩ (.int .i64 (k' : Int))) r L k' p bad := by
  unfold RRdr at h ⊢; simp [World.setCell, Array.getElem?_modify, h]
theorem RRdr.setParts {w : World} {r : Nat} {L : List UInt8} {k p : Nat} {bad : Bool} (h : RRdr w r L k p bad) (p' : Nat) : RRdr (w.setCell ⟨r, 2, none⟩ (.int .i64 (p' : Int))) r L k p' bad := by
  unfold RRdr at h ⊢; simp [World.setCell, Array.getElem?_modify, h]
theorem RRdr.setBad {w : World} {r : Nat} {L : List UInt8} {k p : Nat} {bad : Bool} (h : RRdr w r L k p bad) (b : Bool) : RRdr (w.setCell ⟨r, 3, none⟩ (.bool b)) r L k p b := by
  unfold RRdr at h ⊢; simp [World.setCell, Array.getElem?_modify, h]
theorem RRdr.drew {w : World} {r : Nat} {L : List UInt8} {k p : Nat} {bad : Bool} (h : RRdr w r L k p bad) : RRdr w.drew r L k p bad := h
theorem RRdr.grown {w W : World} {r : Nat} {L : List UInt8} {k p : Nat} {bad : Bool} {x : Option Nat} (h : RRdr w r L k p bad) (hg : w.grownBy W x) (hr : x ≠ some r) : RRdr W r L k p bad := by
  unfold RRdr at h ⊢; rw [hg.block r (lt_of_block h) (Ne.symm hr)]; exact h
theorem gb_drew (w : World) (x : Option Nat) : w.grownBy w.drew x := ⟨rfl, rfl, rfl, Nat.le_refl _, fun _ _ _ => rfl⟩

theorem skipB_take (s t : List UInt8) : skipB s t = (s.take t.length == t) := by
  unfold skipB Lib.hasPrefix
  rw [Bool.eq_iff_iff, List.isPrefixOf_iff_prefix, List.prefix_iff_eq_take, beq_iff_eq]
  exact ⟨fun h => h.symm, fun h => h.symm⟩
theorem skipB_short {s t : List UInt8} (h : s.length < t.length) : skipB s t = false := by
  rw [skipB_take]
  have : s.take t.length ≠ t := fun e => by have := congrArg List.length e; rw [List.length_take] at this; omega
  simpa using this
theorem skipL_no {s t : List UInt8} (h : skipB s t = false) : skipL s t = s := by
  unfold skipB at h; unfold skipL Lib.trimPrefix; rw [h]; rfl
theorem skipL_yes {s t : List UInt8} (h : skipB s t = true) : skipL s t = s.drop t.length := by
  unfold skipB at h; unfold skipL Lib.trimPrefix; rw [if_pos h]
theorem cut_take (L : List UInt8) (k n : Nat) : (L.take (k + n)).drop k = (L.drop k).take n := by rw [List.drop_take, Nat.add_sub_cancel_left]

/-- Where the reader is behind a text that must be next. -/
def SkipPost (w : World) (r : Nat) (L : List UInt8) (k p : Nat) (bad : Bool) (t : List UInt8) (e : Ending) (w' : World) : Prop :=
  e = .returned (.tuple #[]) ∧ ∃ k', L.drop k' = skipL (L.drop k) t ∧ k' ≤ L.length ∧ RRdr w' r L k' p (bad || !skipB (L.drop k) t) ∧ w.grownBy w' (some r)

set_option maxRecDepth 100000 in
set_option maxHeartbeats 4000000 in
theorem ris_calls (L : List UInt8) (k p r : Nat) (bad : Bool) (t : List UInt8) (w : World) (h : RRdr w r L k p bad) (hk : k ≤ L.length) (hL : L.length ≤ 20000) (ht : t.length ≤ 100) :
    Calls Tryz.prog 102 #[.pointer (some ⟨r, 0, none⟩), .string (S t)] w fun e w' => e = .returned (.bool (skipB (L.drop k) t)) ∧ Below w.heap.size w w' := by
  obtain ⟨c0, c1, c2, c3, cf, hr⟩ := h.cells
  have r0 := cell_regrown c0
  have r1 := cell_regrown c1
  have i0 : (0 : Int) ≤ (k : Int) := by omega
  by_cases h1 : k + t.length ≤ L.length
  · have t1 : decide ((L.length : Int) - (k : Int) ≥ (t.length : Int)) = true := decide_eq_true (by omega)
    have i1 : (k : Int) ≤ (k : Int) + (t.length : Int) := by omega
    have i2 : (k : Int) + (t.length : Int) ≤ (L.length : Int) := by omega
    have e1 : ((k : Int) + (t.length : Int)).toNat = k + t.length := by omega
    have hc : (((L.take (k + t.length)).drop k) == t) = skipB (L.drop k) t := by rw [cut_take, skipB_take]
    clear h
    go_enter Tryz.func102, Tryz.ntmps102
    go_wp2_with fail
    refine wp_region_quiet_below (by first | assumption | kernel_rfl) (by kernel_rfl) ?_
    repeat (go_big_quiet_step (fail))
    refine wpQuiet_nil ?_
    intro _ hw'
    obtain ⟨⟨dq, osq⟩, hw''⟩ := hw'
    subst hw''
    have hb := below_regrown w dq osq
    go_wp2
    go_ret
    exact ⟨rfl, hb⟩
  · have t1 : decide ((L.length : Int) - (k : Int) ≥ (t.length : Int)) = false := decide_eq_false (by omega)
    have hc : skipB (L.drop k) t = false := skipB_short (by rw [List.length_drop]; omega)
    rw [hc]
    clear h hc
    go_enter Tryz.func102, Tryz.ntmps102
    go_wp2_with fail
    refine wp_region_quiet_below (by first | assumption | kernel_rfl) (by kernel_rfl) ?_
    repeat (go_big_quiet_step (fail))
    refine wpQuiet_nil ?_
    intro _ hw'
    obtain ⟨⟨dq, osq⟩, hw''⟩ := hw'
    subst hw''
    have hb := below_regrown w dq osq
    go_wp2
    go_ret
    exact ⟨rfl, hb⟩
theorem RRdr.called {w W : World} {r : Nat} {L : List UInt8} {k p : Nat} {bad : Bool} (h : RRdr w r L k p bad) (hb : Below w.heap.size w W) : RRdr W r L k p bad := by
  unfold RRdr at h ⊢; rw [hb.block r (lt_of_block h)]; exact h

set_option maxRecDepth 100000 in
set_option maxHeartbeats 4000000 in
theorem rskip_calls (L : List UInt8) (k p r : Nat) (bad : Bool) (t : List UInt8) (w : World) (h : RRdr w r L k p bad) (hk : k ≤ L.length) (hL : L.length ≤ 20000) (ht : t.length ≤ 100) :
    Calls Tryz.prog 103 #[.pointer (some ⟨r, 0, none⟩), .string (S t)] w (SkipPost w r L k p bad t) := by
  obtain ⟨c0, c1, c2, c3, cf, hr⟩ := h.cells
  have r0 := cell_regrown c0
  have r1 := cell_regrown c1
  have i0 : (0 : Int) ≤ (k : Int) := by omega
  have HR := Lib.hid h
  clear c0 c1 c2 c3 cf h
  by_cases h1 : k + t.length ≤ L.length
  · have t1 : decide ((L.length : Int) - (k : Int) < (t.length : Int)) = false := decide_eq_false (by omega)
    have i1 : (k : Int) ≤ (k : Int) + (t.length : Int) := by omega
    have i2 : (k : Int) + (t.length : Int) ≤ (L.length : Int) := by omega
    have e1 : ((k : Int) + (t.length : Int)).toNat = k + t.length := by omega
    have hcc : (((L.take (k + t.length)).drop k) == t) = skipB (L.drop k) t := by rw [cut_take, skipB_take]
    cases hs : skipB (L.drop k) t with
    | true =>
      have hc : (((L.take (k + t.length)).drop k) == t) = true := by rw [hcc, hs]
      have hc2 : (((L.take (k + t.length)).drop k) != t) = false := by rw [bne, hc]; rfl
      have HS := Lib.hid hs
      clear hs hcc
      go_enter Tryz.func103, Tryz.ntmps103
      go_wp2_with fail
      refine wp_region_quiet_below (by first | assumption | kernel_rfl) (by kernel_rfl) ?_
      repeat (go_big_quiet_step (fail))
      refine wpQuiet_nil ?_
      intro _ hw'
      obtain ⟨⟨dq, osq⟩, hw''⟩ := hw'
      subst hw''
      obtain ⟨wq, hwq⟩ : ∃ wq, wq = Sort.grow (redrawn w dq) osq := ⟨_, rfl⟩
      have HB := Lib.hid (show Below w.heap.size w wq by rw [hwq]; exact below_regrown w dq osq)
      have HQ := Lib.hid (HR.out.called HB.out)
      obtain ⟨c0, c1, c2, c3, cf, hr2⟩ := HQ.out.cells
      rw [← hwq]
      clear hwq r0 r1 hr
      go_wp2
      go_end0
      refine ⟨rfl, k + t.length, by rw [skipL_yes HS.out, List.drop_drop], h1, ?_, gb_trans (gb_below HB.out _) (gb_set _ _ _ _)⟩
      rw [HS.out, Bool.not_true, Bool.or_false]
      exact HQ.out.setAt (k + t.length)
    | false =>
      have hc : (((L.take (k + t.length)).drop k) == t) = false := by rw [hcc, hs]
      have hc2 : (((L.take (k + t.length)).drop k) != t) = true := by rw [bne, hc]; rfl
      have HS := Lib.hid hs
      clear hs hcc
      go_enter Tryz.func103, Tryz.ntmps103
      go_wp2_with fail
      refine wp_region_quiet_below (by first | assumption | kernel_rfl) (by kernel_rfl) ?_
      repeat (go_big_quiet_step (fail))
      refine wpQuiet_nil ?_
      intro _ hw'
      obtain ⟨⟨dq, osq⟩, hw''⟩ := hw'
      subst hw''
      obtain ⟨wq, hwq⟩ : ∃ wq, wq = Sort.grow (redrawn w dq) osq := ⟨_, rfl⟩
      have HB := Lib.hid (show Below w.heap.size w wq by rw [hwq]; exact below_regrown w dq osq)
      have HQ := Lib.hid (HR.out.called HB.out)
      obtain ⟨c0, c1, c2, c3, cf, hr2⟩ := HQ.out.cells
      rw [← hwq]
      clear hwq r0 r1 hr
      go_wp2
      (try simp only [Exit.inBlock, Exit.then]); refine bodyPost_ret (results_none rfl _ _ _) rfl ?_
      refine ⟨rfl, k, (skipL_no HS.out).symm, hk, ?_, gb_trans (gb_below HB.out _) (gb_set _ _ _ _)⟩
      rw [HS.out, Bool.not_false, Bool.or_true]
      exact HQ.out.setBad true
  · have t1 : decide ((L.length : Int) - (k : Int) < (t.length : Int)) = true := decide_eq_true (by omega)
    have HS := Lib.hid (show skipB (L.drop k) t = false from skipB_short (by rw [List.length_drop]; omega))
    go_enter Tryz.func103, Tryz.ntmps103
    go_wp2_with fail
    refine wp_region_quiet_below (by first | assumption | kernel_rfl) (by kernel_rfl) ?_
    repeat (go_big_quiet_step (fail))
    refine wpQuiet_nil ?_
    intro _ hw'
    obtain ⟨⟨dq, osq⟩, hw''⟩ := hw'
    subst hw''
    obtain ⟨wq, hwq⟩ : ∃ wq, wq = Sort.grow (redrawn w dq) osq := ⟨_, rfl⟩
    have HB := Lib.hid (show Below w.heap.size w wq by rw [hwq]; exact below_regrown w dq osq)
    have HQ := Lib.hid (HR.out.called HB.out)
    obtain ⟨c0, c1, c2, c3, cf, hr2⟩ := HQ.out.cells
    rw [← hwq]
    clear hwq r0 r1 hr
    go_wp2
    (try simp only [Exit.inBlock, Exit.then]); refine bodyPost_ret (results_none rfl _ _ _) rfl ?_
    refine ⟨rfl, k, (skipL_no HS.out).symm, hk, ?_, gb_trans (gb_below HB.out _) (gb_set _ _ _ _)⟩
    rw [HS.out, Bool.not_false, Bool.or_true]
    exact HQ.out.setBad true

/-- What word leaves. -/
def WordPost (w : World) (r : Nat) (L : List UInt8) (k p : Nat) (bad : Bool) (e : Ending) (w' : World) : Prop :=
  e = .returned (.string (S ((L.drop k).take (wordN (L.drop k))))) ∧ RRdr w' r L (k + wordN (L.drop k)) p bad ∧ w.grownBy w' (some r)
theorem at_dropj (l : List UInt8) (k j : Nat) : at_ (l.drop k) j = at_ l (k + j) := by simp [at_, List.getElem?_drop]
def posM (n : Nat) (w : World) (r : Nat) : Nat :=
  match w.cell? ⟨r, 1, none⟩ with
  | some (.int _ z) => n - z.toNat
  | _ => 0
theorem posM_eq {n : Nat} {w : World} {r : Nat} {L : List UInt8} {k p : Nat} {bad : Bool} (h : RRdr w r L k p bad) : posM n w r = n - k := by unfold posM; rw [h.cells.2.1]; simp

set_option maxRecDepth 100000 in
set_option maxHeartbeats 8000000 in
theorem rword_calls (L : List UInt8) (k p r : Nat) (bad : Bool) (w : World) (h : RRdr w r L k p bad) (hk : k ≤ L.length) (hL : L.length ≤ 20000) :
    Calls Tryz.prog 105 #[.pointer (some ⟨r, 0, none⟩)] w (WordPost w r L k p bad) := by
  obtain ⟨c0, c1, c2, c3, cf, hr⟩ := h.cells
  have HR := Lib.hid h
  clear h
  go_enter Tryz.func105, Tryz.ntmps105
  go_wp2_with fail
  clear c0 c1 c2 c3 cf hr
  go_loopw [] (fun wr => ∃ j : Nat, k + j ≤ L.length ∧ Hid (∀ i, i < j → isAlnum (at_ (L.drop k) i) = true) ∧ Hid (RRdr wr r L (k + j) p bad) ∧ Hid (w.grownBy wr (some r))) (fun wr => posM L.length wr r)
  case atStart => exact ⟨0, hk, Lib.hid (fun i hi => absurd hi (by omega)), HR, Lib.hid (gb_refl _ _)⟩
  case round =>
    obtain ⟨j, hj, hA, hR, hG⟩ := hrel
    obtain ⟨kk, hkk⟩ : ∃ kk, kk = k + j := ⟨_, rfl⟩
    rw [← hkk] at hR hj
    obtain ⟨c0, c1, c2, c3, cf, hr⟩ := hR.out.cells
    have r0 := cell_regrown c0
    have r1 := cell_regrown c1
    have i0 : (0 : Int) ≤ (kk : Int) := by omega
    have ik : (0 : Int) ≤ (k : Int) := by omega
    have i4 : (k : Int) ≤ (kk : Int) := by omega
    have HKK := Lib.hid hkk
    have hm := posM_eq (n := L.length) hR.out
    have HM := Lib.hid hm
    clear hkk c0 c1 c2 c3 cf hm
    have hend : (kk < L.length → isAlnum (at_ L kk) = false) → wordN (L.drop k) = j := fun hn => runN_of isAlnum (L.drop k) j (by rw [List.length_drop]; have := HKK.out; omega) hA.out (by
      by_cases hx : kk < L.length
      · exact .inr (by rw [at_dropj, ← HKK.out]; exact hn hx)
      · exact .inl (by rw [List.length_drop]; have := HKK.out; omega))
    have HEND := Lib.hid hend
    clear hend
    by_cases hlt : kk < L.length
    · have t1 : decide ((kk : Int) < (L.length : Int)) = true := decide_eq_true (by omega)
      have i1 : (kk : Int) < (L.length : Int) := by omega
      have cL : ∀ d os, Calls Tryz.prog 126 #[.int .u8 (at_ L kk).toNat] (Sort.grow (redrawn wr d) os) fun e w'' => e = .returned (.bool (isLetter (at_ L kk))) ∧ ∃ p : Regrown, w'' = Sort.grow (redrawn wr p.d) p.os := fun d os => (RLetter_calls (at_ L kk) _).mono fun e w' h => ⟨h.1, ⟨d, os⟩, h.2.symm⟩
      have cD : ∀ d os, Calls Tryz.prog 127 #[.int .u8 (at_ L kk).toNat] (Sort.grow (redrawn wr d) os) fun e w'' => e = .returned (.bool (isDigit (at_ L kk))) ∧ ∃ p : Regrown, w'' = Sort.grow (redrawn wr p.d) p.os := fun d os => (RDigit_calls (at_ L kk) _).mono fun e w' h => ⟨h.1, ⟨d, os⟩, h.2.symm⟩
      have hal : isAlnum (at_ L kk) = (isLetter (at_ L kk) || isDigit (at_ L kk)) := rfl
      have HAL := Lib.hid hal
      clear hal
      cases hx : isLetter (at_ L kk) with
      | true =>
        rw [hx] at cL
        have HX := Lib.hid (show isAlnum (at_ L kk) = true by rw [HAL.out, hx]; rfl)
        clear hx
        go_wp2_with fail
        refine wp_region_quiet_below (by first | assumption | kernel_rfl) (by kernel_rfl) ?_
        repeat (go_big_quiet_step (first | (go_at_call 126; exact cL _ _) | (go_at_call 127; exact cD _ _)))
        refine wpQuiet_nil ?_
        intro _ hw'
        obtain ⟨⟨dq, osq⟩, hw''⟩ := hw'
        subst hw''
        obtain ⟨wq, hwq⟩ : ∃ wq, wq = Sort.grow (redrawn wr dq) osq := ⟨_, rfl⟩
        have HB := Lib.hid (show Below wr.heap.size wr wq by rw [hwq]; exact below_regrown wr dq osq)
        have HQ := Lib.hid (hR.out.called HB.out)
        have HGQ := Lib.hid (gb_trans hG.out (gb_below HB.out (some r)))
        obtain ⟨c0, c1, c2, c3, cf, hr2⟩ := HQ.out.cells
        rw [← hwq]
        clear hwq r0 r1 hr
        clear cL cD
        go_wp2
        go_roundw
        case rel => exact ⟨j + 1, by have := HKK.out; omega, Lib.hid (fun i hi => if h : i = j then by rw [h, at_dropj, ← HKK.out]; exact HX.out else hA.out i (by omega)), Lib.hid (by have h := HQ.out.setAt (kk + 1); rw [show k + (j + 1) = kk + 1 by have := HKK.out; omega]; exact h), Lib.hid (gb_trans HGQ.out (gb_set _ _ _ _))⟩
        case measure =>
          have h1 := posM_eq (n := L.length) (HQ.out.setAt (kk + 1))
          have h2 := HM.out
          have h3 : posM L.length (wq.setCell ⟨r, 1, none⟩ (.int .i64 ((kk : Int) + 1))) r = L.length - (kk + 1) := h1
          show posM _ _ _ < posM _ _ _
          omega
      | false =>
        rw [hx] at cL
        cases hy : isDigit (at_ L kk) with
        | true =>
          rw [hy] at cD
          have HX := Lib.hid (show isAlnum (at_ L kk) = true by rw [HAL.out, hx, hy]; rfl)
          clear hx hy
          go_wp2_with fail
          refine wp_region_quiet_below (by first | assumption | kernel_rfl) (by kernel_rfl) ?_
          repeat (go_big_quiet_step (first | (go_at_call 126; exact cL _ _) | (go_at_call 127; exact cD _ _)))
          refine wpQuiet_nil ?_
          intro _ hw'
          obtain ⟨⟨dq, osq⟩, hw''⟩ := hw'
          subst hw''
          obtain ⟨wq, hwq⟩ : ∃ wq, wq = Sort.grow (redrawn wr dq) osq := ⟨_, rfl⟩
          have HB := Lib.hid (show Below wr.heap.size wr wq by rw [hwq]; exact below_regrown wr dq osq)
          have HQ := Lib.hid (hR.out.called HB.out)
          have HGQ := Lib.hid (gb_trans hG.out (gb_below HB.out (some r)))
          obtain ⟨c0, c1, c2, c3, cf, hr2⟩ := HQ.out.cells
          rw [← hwq]
          clear hwq r0 r1 hr
          clear cL cD
          go_wp2
          go_roundw
          case rel => exact ⟨j + 1, by have := HKK.out; omega, Lib.hid (fun i hi => if h : i = j then by rw [h, at_dropj, ← HKK.out]; exact HX.out else hA.out i (by omega)), Lib.hid (by have h := HQ.out.setAt (kk + 1); rw [show k + (j + 1) = kk + 1 by have := HKK.out; omega]; exact h), Lib.hid (gb_trans HGQ.out (gb_set _ _ _ _))⟩
          case measure =>
            have h1 := posM_eq (n := L.length) (HQ.out.setAt (kk + 1))
            have h2 := HM.out
            have h3 : posM L.length (wq.setCell ⟨r, 1, none⟩ (.int .i64 ((kk : Int) + 1))) r = L.length - (kk + 1) := h1
            show posM _ _ _ < posM _ _ _
            omega
        | false =>
          rw [hy] at cD
          have HW := Lib.hid (show wordN (L.drop k) = j from HEND.out (fun _ => by rw [HAL.out, hx, hy]; rfl))
          clear hx hy
          go_wp2_with fail
          refine wp_region_quiet_below (by first | assumption | kernel_rfl) (by kernel_rfl) ?_
          repeat (go_big_quiet_step (first | (go_at_call 126; exact cL _ _) | (go_at_call 127; exact cD _ _)))
          refine wpQuiet_nil ?_
          intro _ hw'
          obtain ⟨⟨dq, osq⟩, hw''⟩ := hw'
          subst hw''
          obtain ⟨wq, hwq⟩ : ∃ wq, wq = Sort.grow (redrawn wr dq) osq := ⟨_, rfl⟩
          have HB := Lib.hid (show Below wr.heap.size wr wq by rw [hwq]; exact below_regrown wr dq osq)
          have HQ := Lib.hid (hR.out.called HB.out)
          have HGQ := Lib.hid (gb_trans hG.out (gb_below HB.out (some r)))
          obtain ⟨c0, c1, c2, c3, cf, hr2⟩ := HQ.out.cells
          rw [← hwq]
          clear hwq r0 r1 hr
          clear cL cD
          go_wp2_with fail
          have r0 := cell_regrown c0
          have r1 := cell_regrown c1
          have lq1 : (kk : Int) ≤ (L.length : Int) := by omega
          clear c0 c1 c2 c3 cf
          refine wp_region_quiet_below (by first | assumption | kernel_rfl) (by kernel_rfl) ?_
          repeat (go_big_quiet_step (fail))
          refine wpQuiet_nil ?_
          intro _ hw'
          obtain ⟨⟨dq, osq⟩, hw''⟩ := hw'
          subst hw''
          have HB2 := Lib.hid (below_regrown wq dq osq)
          have HP := Lib.hid (show WordPost w r L k p bad (.returned (.string (S ((L.take kk).drop k)))) (Sort.grow (redrawn wq dq) osq) from ⟨by rw [HW.out, HKK.out, cut_take], by rw [HW.out, ← HKK.out]; exact HQ.out.called HB2.out, gb_trans HGQ.out (gb_below HB2.out _)⟩)
          clear r0 r1
          go_wp2
          go_ret
          exact HP.out
    · have t1 : decide ((kk : Int) < (L.length : Int)) = false := decide_eq_false (by omega)
      have HW := Lib.hid (show wordN (L.drop k) = j from HEND.out (fun h => absurd h hlt))
      go_wp2_with fail
      refine wp_region_quiet_below (by first | assumption | kernel_rfl) (by kernel_rfl) ?_
      repeat (go_big_quiet_step (fail))
      refine wpQuiet_nil ?_
      intro _ hw'
      obtain ⟨⟨dq, osq⟩, hw''⟩ := hw'
      subst hw''
      obtain ⟨wq, hwq⟩ : ∃ wq, wq = Sort.grow (redrawn wr dq) osq := ⟨_, rfl⟩
      have HB := Lib.hid (show Below wr.heap.size wr wq by rw [hwq]; exact below_regrown wr dq osq)
      have HQ := Lib.hid (hR.out.called HB.out)
      have HGQ := Lib.hid (gb_trans hG.out (gb_below HB.out (some r)))
      obtain ⟨c0, c1, c2, c3, cf, hr2⟩ := HQ.out.cells
      rw [← hwq]
      clear hwq r0 r1 hr
      go_wp2_with fail
      have r0 := cell_regrown c0
      have r1 := cell_regrown c1
      have lq1 : (kk : Int) ≤ (L.length : Int) := by omega
      clear c0 c1 c2 c3 cf
      refine wp_region_quiet_below (by first | assumption | kernel_rfl) (by kernel_rfl) ?_
      repeat (go_big_quiet_step (fail))
      refine wpQuiet_nil ?_
      intro _ hw'
      obtain ⟨⟨dq, osq⟩, hw''⟩ := hw'
      subst hw''
      have HB2 := Lib.hid (below_regrown wq dq osq)
      have HP := Lib.hid (show WordPost w r L k p bad (.returned (.string (S ((L.take kk).drop k)))) (Sort.grow (redrawn wq dq) osq) from ⟨by rw [HW.out, HKK.out, cut_take], by rw [HW.out, ← HKK.out]; exact HQ.out.called HB2.out, gb_trans HGQ.out (gb_below HB2.out _)⟩)
      clear r0 r1
      go_wp2
      go_ret
      exact HP.out

end Go.Proofs.YtplnfepdikbpfaaGreatDoor
