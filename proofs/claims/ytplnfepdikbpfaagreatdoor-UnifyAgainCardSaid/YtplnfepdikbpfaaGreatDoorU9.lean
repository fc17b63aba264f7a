/- The walk of unify.Text. Conditions: the type reads; the library's table of powers of ten is as its text has it. The walks of the unify package's reader: skip, must, word. Condition: the reader is a block of its own. -/
import Derived.Test.YtplnfepdikbpfaaGreatDoorU8
import Derived.Deep.Light
namespace Go.Proofs.YtplnfepdikbpfaaGreatDoor
open Go.RowKit
set_option linter.unusedVariables false
set_option linter.unusedSimpArgs false

theorem nameB_le {s : List UInt8} {g : Bool} (h : nameB s g = true) : s.length ≤ 20000 := by
  rcases Nat.lt_or_ge 20000 s.length with h' | h'
  · rw [nameB_long h'] at h; cases h
  · exact h'
theorem joinC_len {xs : List Ty} (h : ∀ t ∈ xs, (textT t).length + 10 ≤ partsT t * 50000) : (joinC (textsT xs)).length ≤ partsL xs * 50000 := by
  induction xs with
  | nil => simp [textsT, joinC]
  | cons a xs ih =>
    have h1 := h a (by simp)
    have h2 := ih (fun t ht => h t (by simp [ht]))
    cases xs with
    | nil => simp [textsT, joinC, partsL]; omega
    | cons y ys =>
      simp only [textsT, joinC, partsL, List.length_append, List.length_cons, List.length_nil] at h2 ⊢
      omega
theorem joinC_last (l : List (List UInt8)) : (joinC l.dropLast).length + (l.getLastD []).length ≤ (joinC l).length := by
  rcases List.eq_nil_or_concat l with rfl | ⟨m, a, rfl⟩
  · simp [joinC]
  · rw [List.concat_eq_append, List.dropLast_concat, joinC_snoc]
    simp only [List.getLastD_concat]
    split
    · rename_i e; rw [e]; simp [joinC]
    · simp only [List.length_append]; omega
theorem okT_text (t : Ty) : ∀ d, okT t d = true → wrB t = true ∧ (textT t).length + 10 ≤ partsT t * 50000 := by
  induction t using Ty.ind with
  | h k m n xs v ih =>
    intro d h
    have eo : okT (.mk k m n xs v) d = (decide (d ≤ 100) && headB (.mk k m n xs v) && okL xs (d + 1)) := by simp [okT]
    rw [eo, Bool.and_eq_true, Bool.and_eq_true] at h
    obtain ⟨⟨hd, hh⟩, hL⟩ := h
    have hmem : ∀ t ∈ xs, okT t (d + 1) = true := by
      clear ih hh eo
      induction xs with
      | nil => intro t ht; cases ht
      | cons a xs ih =>
        simp only [okL, Bool.and_eq_true] at hL
        intro t ht
        rcases List.mem_cons.1 ht with rfl | ht
        · exact hL.1
        · exact ih hL.2 t ht
    have hw : wrL xs = true := by
      clear hh hL eo
      induction xs with
      | nil => rfl
      | cons a xs ih2 =>
        simp only [wrL, Bool.and_eq_true]
        exact ⟨(ih a (by simp) _ (hmem a (by simp))).1, ih2 (fun t ht => ih t (by simp [ht])) (fun t ht => hmem t (by simp [ht]))⟩
    have hj := joinC_len (xs := xs) (fun t ht => (ih t ht _ (hmem t ht)).2)
    have ep : partsT (.mk k m n xs v) = 1 + partsL xs := by simp [partsT]
    have eh : headB (.mk k m n xs v) = ((if k = 1 ∨ k = 2 ∨ k = 3 then decide (xs.length = 0)
        else if k = 4 then nameB m false && nameB n true && decide (xs.length ≤ 12)
        else if k = 5 then decide (1 ≤ xs.length) && decide (xs.length ≤ 13)
        else if k = 6 then decide (xs.length = 0) && decide (0 ≤ v) && decide (v ≤ 1048576)
        else false) && (k == 4 || (m == [] && n == [])) && (k == 6 || v == 0)) := rfl
    rw [eh] at hh
    clear eh
    by_cases e1 : k = 1 ∨ k = 2 ∨ k = 3
    · have : (textT (.mk k m n xs v)).length ≤ 4 := by rcases e1 with rfl | rfl | rfl <;> simp [textT]
      exact ⟨by simp [wrB, hw]; omega, by rw [ep]; omega⟩
    · rw [if_neg e1] at hh
      by_cases e4 : k = 4
      · subst e4
        simp only [if_true, Bool.and_eq_true] at hh
        have l1 := nameB_le hh.1.1.1.1
        have l2 := nameB_le hh.1.1.1.2
        refine ⟨by simp [wrB, hw], ?_⟩
        rw [ep]
        simp only [textT]
        simp only [show ¬ (4 : Int) = 1 by omega, show ¬ (4 : Int) = 2 by omega, show ¬ (4 : Int) = 3 by omega, show ¬ (4 : Int) = 6 by omega, show ¬ (4 : Int) = 5 by omega, if_false]
        split <;> simp only [List.length_append, List.length_cons, List.length_nil] <;> omega
      · rw [if_neg e4] at hh
        by_cases e5 : k = 5
        · subst e5
          simp only [if_true, Bool.and_eq_true, decide_eq_true_eq] at hh
          refine ⟨by simp [wrB, hw]; omega, ?_⟩
          rw [ep]
          have := joinC_last (textsT xs)
          simp only [textT]
          simp only [show ¬ (5 : Int) = 1 by omega, show ¬ (5 : Int) = 2 by omega, show ¬ (5 : Int) = 3 by omega, show ¬ (5 : Int) = 6 by omega, if_false, if_true, List.length_append, List.length_cons, List.length_nil]
          omega
        · rw [if_neg e5] at hh
          by_cases e6 : k = 6
          · subst e6
            simp only [if_true, Bool.and_eq_true, decide_eq_true_eq] at hh
            have := letterL_length v hh.1.1.1.2 (by have := hh.1.1.2; omega)
            refine ⟨by simp [wrB, hw]; omega, ?_⟩
            rw [ep]
            simp only [textT]
            simp only [show ¬ (6 : Int) = 1 by omega, show ¬ (6 : Int) = 2 by omega, show ¬ (6 : Int) = 3 by omega, if_false, if_true]
            omega
          · rw [if_neg e6] at hh
            simp at hh

theorem formed_text {t : Ty} (h : formedB t = true) : wrB t = true ∧ (textT t).length ≤ 200000000 := by
  rw [formedB, Bool.and_eq_true, decide_eq_true_eq] at h
  obtain ⟨h1, h2⟩ := okT_text t 1 h.1
  exact ⟨h1, by have := h.2; omega⟩

def utxt (t : Ty) : List UInt8 := if formedB t then textT t else []
def uerr (t : Ty) : Int := if formedB t then 0 else 4

set_option maxHeartbeats 4000000 in
theorem Text_calls' (t : Ty) (v : Value) (w : World) (hv : RdV w v t) (ht : TabW w) :
    Calls Tryz.prog 29 #[v] w fun e w' => e = .returned (.tuple #[.string (S (utxt t)), .int .i64 (uerr t)]) ∧ Below w.heap.size w w' := by
  obtain ⟨h1, A, c, rfl, hr⟩ := id hv
  have HV := Lib.hid hr; have HT := Lib.hid ht
  clear hr hv ht
  unfold utxt uerr tyV
  cases hf : formedB t with
  | false =>
    simp only [Bool.false_eq_true, if_false]
    go_enter Tryz.func29, Tryz.ntmps29
    go_wp2_with fail
    have hal := bel_alloc (Below.refl w.heap.size w) (.cells #[.int .i64 t.kind, .string (S t.mod), .string (S t.name), .slice A t.args.length c, .int .i64 t.var] 24)
    refine (IsFormed_calls t _ _ ⟨h1, A, c, rfl, HV.out.below hal⟩).mono ?_
    rw [hf]
    rintro e w1 ⟨rfl, hb1⟩
    go_wp2
    go_ret2
    exact ⟨rfl, bel_then hal hb1⟩
  | true =>
    simp only [if_true]
    obtain ⟨hw, hl⟩ := formed_text hf
    have HW := Lib.hid hw; clear hw
    go_enter Tryz.func29, Tryz.ntmps29
    go_wp2_with fail
    have hal := bel_alloc (Below.refl w.heap.size w) (.cells #[.int .i64 t.kind, .string (S t.mod), .string (S t.name), .slice A t.args.length c, .int .i64 t.var] 24)
    refine (IsFormed_calls t _ _ ⟨h1, A, c, rfl, HV.out.below hal⟩).mono ?_
    rw [hf]
    rintro e w1 ⟨rfl, hb1⟩
    obtain ⟨hc, hff⟩ := bcell hb1
    have hz : w.heap.size < w1.heap.size := by have := hb1.size; simp at this; omega
    have hB1 := Lib.hid (bel_then hal hb1)
    clear hb1
    go_wp2_with fail
    have hfr := BuildL.fresh w1
    have hal2 := bel_alloc (Below.refl w1.heap.size w1) (.cells #[.pointer none, .slice none 0 0] 103)
    refine (write_calls t w1.heap.size w1.heap.size [] _ _ ⟨h1, A, c, rfl, (HV.out.below hB1.out).turn (fun _ h => h) (fun b o h => hal2.cell (p := ⟨b, o, none⟩) h)⟩ HW.out hfr (by simp) (fun W hW => (HT.out.called hB1.out).called ((hal2.trans hW))) (by simp; omega)).mono ?_
    rintro e w2 ⟨rfl, hl2, hb2, hk2⟩
    have HL := Lib.hid hl2
    have hB2 := Lib.hid (hal2.trans hb2)
    clear hl2 hk2 hfr hc hff
    have hs2 := hB2.out.size
    go_wp2_with fail
    refine (builder_String w1.heap.size w1.heap.size _ w2 HL.out hs2).mono ?_
    rintro e w3 ⟨rfl, hb3⟩
    go_wp2
    go_ret2
    exact ⟨by simp, bel_then hB1.out (hB2.out.trans hb3)⟩

end Go.Proofs.YtplnfepdikbpfaaGreatDoor

namespace Go.Proofs.YtplnfepdikbpfaaGreatDoor
open Go.RowKit
set_option linter.unusedVariables false
set_option linter.unusedSimpArgs false

/-- Block p is a reader: what is left, whether it is bad, how deep it is. -/
def RdrAt (w : World) (p : Nat) (s : List UInt8) (bad : Bool) (deep : Int) : Prop := w.heap[p]? = some (.cells #[.string (S s), .bool bad, .int .i64 deep] 92 (0, 0))
theorem RdrAt.lt {w : World} {p : Nat} {s : List UInt8} {bad : Bool} {deep : Int} (h : RdrAt w p s bad deep) : p < w.heap.size := lt_of_block h
theorem RdrAt.c0 {w : World} {p : Nat} {s : List UInt8} {bad : Bool} {deep : Int} (h : RdrAt w p s bad deep) : w.cell? ⟨p, 0, none⟩ = some (.string (S s)) := by unfold RdrAt at h; simp [World.cell?, h]
theorem RdrAt.c1 {w : World} {p : Nat} {s : List UInt8} {bad : Bool} {deep : Int} (h : RdrAt w p s bad deep) : w.cell? ⟨p, 1, none⟩ = some (.bool bad) := by unfold RdrAt at h; simp [World.cell?, h]
theorem RdrAt.c2 {w : World} {p : Nat} {s : List UInt8} {bad : Bool} {deep : Int} (h : RdrAt w p s bad deep) : w.cell? ⟨p, 2, none⟩ = some (.int .i64 deep) := by unfold RdrAt at h; simp [World.cell?, h]
theorem RdrAt.free {w : World} {p : Nat} {s : List UInt8} {bad : Bool} {deep : Int} (h : RdrAt w p s bad deep) (o : Nat) : w.frozen? ⟨p, o, none⟩ = false := by unfold RdrAt at h; simp [World.frozen?, h]
theorem RdrAt.set0 {w : World} {p : Nat} {s : List UInt8} {bad : Bool} {deep : Int} (h : RdrAt w p s bad deep) (t : List UInt8) : RdrAt (w.setCell ⟨p, 0, none⟩ (.string (S t))) p t bad deep := by
  unfold RdrAt at h ⊢; simp [World.setCell, Array.getElem?_modify, h]
theorem RdrAt.set1 {w : World} {p : Nat} {s : List UInt8} {bad : Bool} {deep : Int} (h : RdrAt w p s bad deep) (t : Bool) : RdrAt (w.setCell ⟨p, 1, none⟩ (.bool t)) p s t deep := by
  unfold RdrAt at h ⊢; simp [World.setCell, Array.getElem?_modify, h]
theorem RdrAt.set2 {w : World} {p : Nat} {s : List UInt8} {bad : Bool} {deep : Int} (h : RdrAt w p s bad deep) (t : Int) : RdrAt (w.setCell ⟨p, 2, none⟩ (.int .i64 t)) p s bad t := by
  unfold RdrAt at h ⊢; simp [World.setCell, Array.getElem?_modify, h]
theorem RdrAt.called {w W : World} {p : Nat} {s : List UInt8} {bad : Bool} {deep : Int} (h : RdrAt w p s bad deep) (hb : Below w.heap.size w W) : RdrAt W p s bad deep := by
  unfold RdrAt at h ⊢; rw [hb.block p (lt_of_block h)]; exact h

/-- What is left behind a text, if it is next. -/
def skipL (s t : List UInt8) : List UInt8 := Lib.trimPrefix s t
def skipB (s t : List UInt8) : Bool := Lib.hasPrefix s t

theorem CutPrefix_calls (s t : List UInt8) (w : World) :
    Calls Tryz.prog 123 #[.string (S s), .string (S t)] w fun e w' => e = .returned (.tuple #[.string (S (skipL s t)), .bool (skipB s t)]) ∧ w = w' :=
  (Tryz.strings_CutPrefix (S s) (S t) w).mono fun e w' ⟨h, hw⟩ => ⟨by rw [h, S_data, S_data]; rfl, hw.symm⟩

set_option maxHeartbeats 1000000 in
theorem skip_calls (p : Nat) (s t : List UInt8) (bad : Bool) (deep : Int) (w : World) (h : RdrAt w p s bad deep) :
    Calls Tryz.prog 95 #[.pointer (some ⟨p, 0, none⟩), .string (S t)] w fun e w' => e = .returned (.bool (skipB s t)) ∧ RdrAt w' p (skipL s t) bad deep ∧ w.grownBy w' (some p) := by
  have HR := Lib.hid h
  have c0 := h.c0
  have f0 := h.free 0
  clear h
  go_enter Tryz.func95, Tryz.ntmps95
  go_wp2_with (go_at_call 123; refine (CutPrefix_calls s t _).mono ?_; rintro e w' ⟨rfl, rfl⟩)
  go_ret
  exact ⟨rfl, HR.out.set0 _, gb_set _ _ _ _⟩

set_option maxHeartbeats 1000000 in
theorem must_calls (p : Nat) (s t : List UInt8) (bad : Bool) (deep : Int) (w : World) (h : RdrAt w p s bad deep) :
    Calls Tryz.prog 97 #[.pointer (some ⟨p, 0, none⟩), .string (S t)] w fun e w' => e = .returned (.tuple #[]) ∧ RdrAt w' p (skipL s t) (bad || !skipB s t) deep ∧ w.grownBy w' (some p) := by
  have HR := Lib.hid h; clear h
  go_enter Tryz.func97, Tryz.ntmps97
  go_wp2_with fail
  refine (skip_calls p s t bad deep w HR.out).mono ?_
  rintro e w1 ⟨rfl, h1, g1⟩
  have H1 := Lib.hid h1
  have f1 := h1.free 1
  clear h1
  cases hs : skipB s t with
  | true =>
    go_wp2
    go_end0
    exact ⟨rfl, by rw [hs]; simpa using H1.out, g1⟩
  | false =>
    have c1 := H1.out.c1
    go_wp2
    go_end0
    exact ⟨rfl, by rw [hs]; simpa using H1.out.set1 true, gb_trans g1 (gb_set _ _ _ _)⟩

/-- The letters, digits and _ that are next. -/
def wordN (s : List UInt8) : Nat := runN isAlnum s

theorem alnum_iff (c : UInt8) : isAlnum c = true ↔ (c.toNat : Int) = 95 ∨ (97 ≤ bits .or .u8 (c.toNat : Int) 32 ∧ bits .or .u8 (c.toNat : Int) 32 ≤ 122) ∨ (48 ≤ (c.toNat : Int) ∧ (c.toNat : Int) ≤ 57) := by
  rw [isAlnum, isLetter_int, isDigit_int]
  simp only [Bool.or_eq_true, Bool.and_eq_true, decide_eq_true_eq, beq_iff_eq, or_assoc]
theorem alnum_no (c : UInt8) (h : ¬ ((c.toNat : Int) = 95 ∨ (97 ≤ bits .or .u8 (c.toNat : Int) 32 ∧ bits .or .u8 (c.toNat : Int) 32 ≤ 122) ∨ (48 ≤ (c.toNat : Int) ∧ (c.toNat : Int) ≤ 57))) : isAlnum c = false := by
  rw [← alnum_iff] at h; simpa using h

set_option maxHeartbeats 4000000 in
theorem word_calls (p : Nat) (s : List UInt8) (bad : Bool) (deep : Int) (w : World) (h : RdrAt w p s bad deep) (hs : s.length ≤ 9223372036854775000) :
    Calls Tryz.prog 98 #[.pointer (some ⟨p, 0, none⟩)] w fun e w' => e = .returned (.string (S (s.take (wordN s)))) ∧ RdrAt w' p (s.drop (wordN s)) bad deep ∧ w.grownBy w' (some p) := by
  have HR := Lib.hid h
  have c0 := h.c0
  have f0 := h.free 0
  clear h
  go_enter Tryz.func98, Tryz.ntmps98
  go_wp2
  go_loop [3] (fun i => ∃ k : Nat, k ≤ s.length ∧ i = .int .i64 k ∧ Hid (∀ j, j < k → isAlnum (at_ s j) = true)) (fun i => s.length - (intOf i).toNat)
  case atStart => exact ⟨0, Nat.zero_le _, rfl, Lib.hid (fun j hj => absurd hj (by omega))⟩
  case round =>
    obtain ⟨k, hk, rfl, hall⟩ := hrel
    by_cases hlt : k < s.length
    · go_wp2
      all_goals first
        | (have hp : isAlnum (at_ s k) = true := (alnum_iff _).2 (by go_light; simp only [beq_iff_eq, beq_eq_false_iff_ne, ne_eq] at *; omega)
           go_round
           case rel => exact ⟨k + 1, by omega, by go_num, Lib.hid (fun j hj => if h : j = k then h ▸ hp else hall.out j (by omega))⟩
           case measure => simp [intOf]; omega)
        | (have hp : isAlnum (at_ s k) = false := alnum_no _ (by go_light; simp only [beq_iff_eq, beq_eq_false_iff_ne, ne_eq] at *; omega)
           have hr : wordN s = k := runN_of isAlnum s k hk hall.out (.inr hp)
           go_ret
           rw [hr]
           exact ⟨rfl, HR.out.set0 _, gb_set _ _ _ _⟩)
    · have hr : wordN s = k := runN_of isAlnum s k hk hall.out (by omega)
      have HWN := Lib.hid hr; clear hr
      have k1 : (k : Int) ≤ (s.length : Int) := by omega
      go_wp2
      go_ret
      rw [HWN.out]
      exact ⟨rfl, HR.out.set0 _, gb_set _ _ _ _⟩

end Go.Proofs.YtplnfepdikbpfaaGreatDoor
