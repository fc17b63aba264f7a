/- The walks of the reference's formed, Parts and IsFormed. Condition: the type reads; Parts: it has few parts. -/
import Derived.Test.YtplnfepdikbpfaaGreatDoorY0
import Derived.Test.YtplnfepdikbpfaaGreatDoorST12
namespace Go.Proofs.YtplnfepdikbpfaaGreatDoor
open Go.RowKit
set_option linter.unusedVariables false
set_option linter.unusedSimpArgs false
attribute [local go_sem ↓] Go.wp_at_zero Go.wp_at_succ

/-! ### What formed comes to, case by case -/
theorem okT_eq (k : Int) (m n : List UInt8) (xs : List Ty) (v d : Int) : okT (.mk k m n xs v) d = (decide (d ≤ 100) && ((if k = 1 ∨ k = 2 ∨ k = 3 then decide (xs.length = 0)
        else if k = 4 then nameB m false && nameB n true && decide (xs.length ≤ 12)
        else if k = 5 then decide (1 ≤ xs.length) && decide (xs.length ≤ 13)
        else if k = 6 then decide (xs.length = 0) && decide (0 ≤ v) && decide (v ≤ 1048576)
        else false) && (k == 4 || (m == [] && n == [])) && (k == 6 || v == 0)) && okL xs (d + 1)) := by
  have e : okT (.mk k m n xs v) d = (decide (d ≤ 100) && headB (.mk k m n xs v) && okL xs (d + 1)) := by simp [okT]
  rw [e]; rfl
theorem ok_deep {k : Int} {m n : List UInt8} {xs : List Ty} {v d : Int} (h : 100 < d) : okT (.mk k m n xs v) d = false := by
  rw [okT_eq, decide_eq_false (by omega)]; rfl
theorem ok_var {k : Int} {m n : List UInt8} {xs : List Ty} {v d : Int} (hk : k ≠ 6) (hv : v ≠ 0) : okT (.mk k m n xs v) d = false := by
  rw [okT_eq, show (k == 6) = false by simpa using hk, show (v == 0) = false by simpa using hv]; simp
theorem ok_names {k : Int} {m n : List UInt8} {xs : List Ty} {v d : Int} (hk : k ≠ 4) (h : (m == [] && n == []) = false) : okT (.mk k m n xs v) d = false := by
  rw [okT_eq, show (k == 4) = false by simpa using hk, h]; simp
theorem ok_base {k : Int} {xs : List Ty} {d : Int} (hd : d ≤ 100) (hk : k = 1 ∨ k = 2 ∨ k = 3) : okT (.mk k [] [] xs 0) d = decide (xs.length = 0) := by
  rw [okT_eq, if_pos hk, decide_eq_true hd]
  by_cases h : xs.length = 0
  · have : xs = [] := List.eq_nil_of_length_eq_zero h
    subst this
    simp [okL]
  · rw [decide_eq_false h]; simp
theorem ok_v {xs : List Ty} {v d : Int} (hd : d ≤ 100) : okT (.mk 6 [] [] xs v) d = (decide (0 ≤ v) && decide (v ≤ 1048576) && decide (xs.length = 0)) := by
  rw [okT_eq, if_neg (by omega), if_neg (by omega), if_neg (by omega), if_pos rfl, decide_eq_true hd]
  by_cases h : xs.length = 0
  · have : xs = [] := List.eq_nil_of_length_eq_zero h
    subst this
    simp [okL]
  · rw [decide_eq_false h]; simp
theorem ok_made {m n : List UInt8} {xs : List Ty} {d : Int} (hd : d ≤ 100) : okT (.mk 4 m n xs 0) d = (nameB m false && nameB n true && decide (xs.length ≤ 12) && okL xs (d + 1)) := by
  rw [okT_eq, if_neg (by omega), if_pos rfl, decide_eq_true hd]; simp
theorem ok_fn {xs : List Ty} {d : Int} (hd : d ≤ 100) : okT (.mk 5 [] [] xs 0) d = (decide (1 ≤ xs.length) && decide (xs.length ≤ 13) && okL xs (d + 1)) := by
  rw [okT_eq, if_neg (by omega), if_neg (by omega), if_pos rfl, decide_eq_true hd]; simp
theorem ok_other {k : Int} {m n : List UInt8} {xs : List Ty} {v d : Int} (h : ¬ (k = 1 ∨ k = 2 ∨ k = 3)) (h4 : k ≠ 4) (h5 : k ≠ 5) (h6 : k ≠ 6) : okT (.mk k m n xs v) d = false := by
  rw [okT_eq, if_neg h, if_neg h4, if_neg h5, if_neg h6]; simp
theorem okL_drop {xs : List Ty} {j : Nat} (h : j < xs.length) (d : Int) : okL (xs.drop j) d = (okT (tyAt xs j) d && okL (xs.drop (j + 1)) d) := by
  rw [List.drop_eq_getElem_cons h, tyAt_get h]; simp [okL]
def RFormedAt (t : Ty) : Prop := ∀ (d : Int) (v : Value) (w : World), 1 ≤ d → d ≤ 101 → RdV w v t → Calls Tryz.prog 52 #[v, .int .i64 d] w fun e w' => e = .returned (.bool (okT t d)) ∧ Below w.heap.size w w'

set_option maxRecDepth 100000 in
set_option maxHeartbeats 8000000 in
theorem formed_deep {k : Int} {m : List UInt8} {n : List UInt8} {xs : List Ty} {d : Int} {v : Int} (hd : 100 < d) (va : Value) (w : World) (hd0 : 1 ≤ d) (hd1 : d ≤ 101) (hva : RdV w va (.mk k m n xs v)) : Calls Tryz.prog 52 #[va, .int .i64 d] w fun e w' => e = .returned (.bool (okT (.mk k m n xs v) d)) ∧ Below w.heap.size w w' := by
  obtain ⟨h1, A, c, rfl, hr⟩ := hva
  simp only [tyV, Ty.kind, Ty.mod, Ty.name, Ty.args, Ty.var] at hr ⊢
  have hxl : xs.length ≤ 9223372036854775000 := by obtain ⟨_, _, _, h, _⟩ := hr; exact h.1
  clear hr h1
  have f0 : decide (d > 100) = true := decide_eq_true hd
  rw [show okT (.mk k m n xs v) d = false from ok_deep hd]
  clear hd
  go_enter Tryz.func52, Tryz.ntmps52
  go_wp2
  go_ret
  exact ⟨rfl, bel_alloc (Below.refl _ _) _⟩

set_option maxRecDepth 100000 in
set_option maxHeartbeats 8000000 in
theorem formed_var {k : Int} {m : List UInt8} {n : List UInt8} {xs : List Ty} {d : Int} {v : Int} (hd : d ≤ 100) (hk : k ≠ 6) (hv : v ≠ 0) (va : Value) (w : World) (hd0 : 1 ≤ d) (hd1 : d ≤ 101) (hva : RdV w va (.mk k m n xs v)) : Calls Tryz.prog 52 #[va, .int .i64 d] w fun e w' => e = .returned (.bool (okT (.mk k m n xs v) d)) ∧ Below w.heap.size w w' := by
  obtain ⟨h1, A, c, rfl, hr⟩ := hva
  simp only [tyV, Ty.kind, Ty.mod, Ty.name, Ty.args, Ty.var] at hr ⊢
  have hxl : xs.length ≤ 9223372036854775000 := by obtain ⟨_, _, _, h, _⟩ := hr; exact h.1
  clear hr h1
  have f0 : decide (d > 100) = false := decide_eq_false (by omega)
  have f1 : (k != 6) = true := by simpa using hk
  have f2 : (v != 0) = true := by simpa using hv
  rw [show okT (.mk k m n xs v) d = false from ok_var hk hv]
  clear hd hk hv
  go_enter Tryz.func52, Tryz.ntmps52
  go_wp2
  go_ret
  exact ⟨rfl, bel_alloc (Below.refl _ _) _⟩

set_option maxRecDepth 100000 in
set_option maxHeartbeats 8000000 in
theorem formed_names {k : Int} {m : List UInt8} {n : List UInt8} {xs : List Ty} {d : Int} (hd : d ≤ 100) (hk : k ≠ 4) (h : (m == [] && n == []) = false) (va : Value) (w : World) (hd0 : 1 ≤ d) (hd1 : d ≤ 101) (hva : RdV w va (.mk k m n xs 0)) : Calls Tryz.prog 52 #[va, .int .i64 d] w fun e w' => e = .returned (.bool (okT (.mk k m n xs 0) d)) ∧ Below w.heap.size w w' := by
  obtain ⟨h1, A, c, rfl, hr⟩ := hva
  simp only [tyV, Ty.kind, Ty.mod, Ty.name, Ty.args, Ty.var] at hr ⊢
  have hxl : xs.length ≤ 9223372036854775000 := by obtain ⟨_, _, _, h, _⟩ := hr; exact h.1
  clear hr h1
  have f0 : decide (d > 100) = false := decide_eq_false (by omega)
  have f3 : (k != 4) = true := by simpa using hk
  rw [show okT (.mk k m n xs 0) d = false from ok_names hk h]
  clear hk hd
  cases hm : (m == []) with
  | false =>
    have f4 : m.isEmpty = false := by cases m with
      | nil => cases hm
      | cons a m => rfl
    clear h hm
    by_cases hk6 : k = 6
    · subst hk6
      go_enter Tryz.func52, Tryz.ntmps52
      go_wp2
      go_ret
      exact ⟨rfl, bel_alloc (Below.refl _ _) _⟩
    · have f1 : (k != 6) = true := by simpa using hk6
      clear hk6
      go_enter Tryz.func52, Tryz.ntmps52
      go_wp2
      go_ret
      exact ⟨rfl, bel_alloc (Below.refl _ _) _⟩
  | true =>
    obtain rfl : m = [] := by simpa using hm
    have f5 : n.isEmpty = false := by
      rw [hm, Bool.true_and] at h
      cases n with
      | nil => cases h
      | cons a n => rfl
    clear h hm
    by_cases hk6 : k = 6
    · subst hk6
      go_enter Tryz.func52, Tryz.ntmps52
      go_wp2
      go_ret
      exact ⟨rfl, bel_alloc (Below.refl _ _) _⟩
    · have f1 : (k != 6) = true := by simpa using hk6
      clear hk6
      go_enter Tryz.func52, Tryz.ntmps52
      go_wp2
      go_ret
      exact ⟨rfl, bel_alloc (Below.refl _ _) _⟩

set_option maxRecDepth 100000 in
set_option maxHeartbeats 8000000 in
theorem formed_v {m : List UInt8} {n : List UInt8} {xs : List Ty} {d : Int} {v : Int} (hd : d ≤ 100) (hm : m = []) (hn : n = []) (va : Value) (w : World) (hd0 : 1 ≤ d) (hd1 : d ≤ 101) (hva : RdV w va (.mk 6 m n xs v)) : Calls Tryz.prog 52 #[va, .int .i64 d] w fun e w' => e = .returned (.bool (okT (.mk 6 m n xs v) d)) ∧ Below w.heap.size w w' := by
  obtain ⟨h1, A, c, rfl, hr⟩ := hva
  simp only [tyV, Ty.kind, Ty.mod, Ty.name, Ty.args, Ty.var] at hr ⊢
  have hxl : xs.length ≤ 9223372036854775000 := by obtain ⟨_, _, _, h, _⟩ := hr; exact h.1
  clear hr h1
  subst hm hn
  have f0 : decide (d > 100) = false := decide_eq_false (by omega)
  rw [ok_v hd]
  clear hd
  by_cases h1 : 0 ≤ v
  · have t1 : decide (v ≥ 0) = true := decide_eq_true h1
    rw [decide_eq_true h1]
    by_cases h2 : v ≤ 1048576
    · have t2 : decide (v ≤ 1048576) = true := decide_eq_true h2
      by_cases h3 : xs.length = 0
      · have t3 : ((xs.length : Int) == 0) = true := by simp [h3]
        rw [t2, decide_eq_true h3]
        clear h1 h2 h3
        simp only [Bool.true_and, Bool.and_true, Bool.false_and, Bool.and_false]
        go_enter Tryz.func52, Tryz.ntmps52
        go_wp2
        go_ret
        exact ⟨rfl, bel_alloc (Below.refl _ _) _⟩
      · have t3 : ((xs.length : Int) == 0) = false := by simpa using h3
        rw [t2, decide_eq_false h3]
        clear h1 h2 h3
        simp only [Bool.true_and, Bool.and_true, Bool.false_and, Bool.and_false]
        go_enter Tryz.func52, Tryz.ntmps52
        go_wp2
        go_ret
        exact ⟨rfl, bel_alloc (Below.refl _ _) _⟩
    · have t2 : decide (v ≤ 1048576) = false := decide_eq_false h2
      rw [t2]
      simp only [Bool.true_and, Bool.false_and]
      clear h1 h2
      go_enter Tryz.func52, Tryz.ntmps52
      go_wp2
      go_ret
      exact ⟨rfl, bel_alloc (Below.refl _ _) _⟩
  · have t1 : decide (v ≥ 0) = false := decide_eq_false h1
    rw [decide_eq_false h1]
    simp only [Bool.true_and, Bool.false_and]
    clear h1
    go_enter Tryz.func52, Tryz.ntmps52
    go_wp2
    go_ret
    exact ⟨rfl, bel_alloc (Below.refl _ _) _⟩

set_option maxRecDepth 100000 in
set_option maxHeartbeats 8000000 in
theorem formed_b1 {m : List UInt8} {n : List UInt8} {xs : List Ty} {d : Int} (hd : d ≤ 100) (hm : m = []) (hn : n = []) (va : Value) (w : World) (hd0 : 1 ≤ d) (hd1 : d ≤ 101) (hva : RdV w va (.mk 1 m n xs 0)) : Calls Tryz.prog 52 #[va, .int .i64 d] w fun e w' => e = .returned (.bool (okT (.mk 1 m n xs 0) d)) ∧ Below w.heap.size w w' := by
  obtain ⟨h1, A, c, rfl, hr⟩ := hva
  simp only [tyV, Ty.kind, Ty.mod, Ty.name, Ty.args, Ty.var] at hr ⊢
  have hxl : xs.length ≤ 9223372036854775000 := by obtain ⟨_, _, _, h, _⟩ := hr; exact h.1
  clear hr h1
  subst hm hn
  have f0 : decide (d > 100) = false := decide_eq_false (by omega)
  rw [ok_base hd (by omega)]
  clear hd
  by_cases h3 : xs.length = 0
  · have t3 : ((xs.length : Int) == 0) = true := by simp [h3]
    rw [decide_eq_true h3]
    clear h3
    go_enter Tryz.func52, Tryz.ntmps52
    go_wp2
    go_ret
    exact ⟨rfl, bel_alloc (Below.refl _ _) _⟩
  · have t3 : ((xs.length : Int) == 0) = false := by simpa using h3
    rw [decide_eq_false h3]
    clear h3
    go_enter Tryz.func52, Tryz.ntmps52
    go_wp2
    go_ret
    exact ⟨rfl, bel_alloc (Below.refl _ _) _⟩

set_option maxRecDepth 100000 in
set_option maxHeartbeats 8000000 in
theorem formed_b2 {m : List UInt8} {n : List UInt8} {xs : List Ty} {d : Int} (hd : d ≤ 100) (hm : m = []) (hn : n = []) (va : Value) (w : World) (hd0 : 1 ≤ d) (hd1 : d ≤ 101) (hva : RdV w va (.mk 2 m n xs 0)) : Calls Tryz.prog 52 #[va, .int .i64 d] w fun e w' => e = .returned (.bool (okT (.mk 2 m n xs 0) d)) ∧ Below w.heap.size w w' := by
  obtain ⟨h1, A, c, rfl, hr⟩ := hva
  simp only [tyV, Ty.kind, Ty.mod, Ty.name, Ty.args, Ty.var] at hr ⊢
  have hxl : xs.length ≤ 9223372036854775000 := by obtain ⟨_, _, _, h, _⟩ := hr; exact h.1
  clear hr h1
  subst hm hn
  have f0 : decide (d > 100) = false := decide_eq_false (by omega)
  rw [ok_base hd (by omega)]
  clear hd
  by_cases h3 : xs.length = 0
  · have t3 : ((xs.length : Int) == 0) = true := by simp [h3]
    rw [decide_eq_true h3]
    clear h3
    go_enter Tryz.func52, Tryz.ntmps52
    go_wp2
    go_ret
    exact ⟨rfl, bel_alloc (Below.refl _ _) _⟩
  · have t3 : ((xs.length : Int) == 0) = false := by simpa using h3
    rw [decide_eq_false h3]
    clear h3
    go_enter Tryz.func52, Tryz.ntmps52
    go_wp2
    go_ret
    exact ⟨rfl, bel_alloc (Below.refl _ _) _⟩

set_option maxRecDepth 100000 in
set_option maxHeartbeats 8000000 in
theorem formed_b3 {m : List UInt8} {n : List UInt8} {xs : List Ty} {d : Int} (hd : d ≤ 100) (hm : m = []) (hn : n = []) (va : Value) (w : World) (hd0 : 1 ≤ d) (hd1 : d ≤ 101) (hva : RdV w va (.mk 3 m n xs 0)) : Calls Tryz.prog 52 #[va, .int .i64 d] w fun e w' => e = .returned (.bool (okT (.mk 3 m n xs 0) d)) ∧ Below w.heap.size w w' := by
  obtain ⟨h1, A, c, rfl, hr⟩ := hva
  simp only [tyV, Ty.kind, Ty.mod, Ty.name, Ty.args, Ty.var] at hr ⊢
  have hxl : xs.length ≤ 9223372036854775000 := by obtain ⟨_, _, _, h, _⟩ := hr; exact h.1
  clear hr h1
  subst hm hn
  have f0 : decide (d > 100) = false := decide_eq_false (by omega)
  rw [ok_base hd (by omega)]
  clear hd
  by_cases h3 : xs.length = 0
  · have t3 : ((xs.length : Int) == 0) = true := by simp [h3]
    rw [decide_eq_true h3]
    clear h3
    go_enter Tryz.func52, Tryz.ntmps52
    go_wp2
    go_ret
    exact ⟨rfl, bel_alloc (Below.refl _ _) _⟩
  · have t3 : ((xs.length : Int) == 0) = false := by simpa using h3
    rw [decide_eq_false h3]
    clear h3
    go_enter Tryz.func52, Tryz.ntmps52
    go_wp2
    go_ret
    exact ⟨rfl, bel_alloc (Below.refl _ _) _⟩

set_option maxRecDepth 100000 in
set_option maxHeartbeats 8000000 in
theorem formed_other {k : Int} {m : List UInt8} {n : List UInt8} {xs : List Ty} {d : Int} (hd : d ≤ 100) (hm : m = []) (hn : n = []) (h : ¬ (k = 1 ∨ k = 2 ∨ k = 3)) (h4 : k ≠ 4) (h5 : k ≠ 5) (h6 : k ≠ 6) (va : Value) (w : World) (hd0 : 1 ≤ d) (hd1 : d ≤ 101) (hva : RdV w va (.mk k m n xs 0)) : Calls Tryz.prog 52 #[va, .int .i64 d] w fun e w' => e = .returned (.bool (okT (.mk k m n xs 0) d)) ∧ Below w.heap.size w w' := by
  obtain ⟨h1, A, c, rfl, hr⟩ := hva
  simp only [tyV, Ty.kind, Ty.mod, Ty.name, Ty.args, Ty.var] at hr ⊢
  have hxl : xs.length ≤ 9223372036854775000 := by obtain ⟨_, _, _, h, _⟩ := hr; exact h.1
  clear hr h1
  subst hm hn
  have f0 : decide (d > 100) = false := decide_eq_false (by omega)
  have e1 : (k == 1) = false := by simp; omega
  have e2 : (k == 2) = false := by simp; omega
  have e3 : (k == 3) = false := by simp; omega
  have e4 : (k == 4) = false := by simp; omega
  have e5 : (k == 5) = false := by simp; omega
  have e6 : (k == 6) = false := by simp; omega
  have f1 : (k != 6) = true := by simpa using h6
  have f3 : (k != 4) = true := by simpa using h4
  rw [show okT (.mk k [] [] xs 0) d = false from ok_other h h4 h5 h6]
  clear hd h h4 h5 h6
  go_enter Tryz.func52, Tryz.ntmps52
  go_wp2
  go_ret
  exact ⟨rfl, bel_alloc (Below.refl _ _) _⟩

set_option maxRecDepth 100000 in
set_option maxHeartbeats 8000000 in
theorem formed_fn {m : List UInt8} {n : List UInt8} {xs : List Ty} {d : Int} (hd : d ≤ 100) (hm : m = []) (hn : n = []) (ih : ∀ t ∈ xs, RFormedAt t) (va : Value) (w : World) (hd0 : 1 ≤ d) (hd1 : d ≤ 101) (hva : RdV w va (.mk 5 m n xs 0)) : Calls Tryz.prog 52 #[va, .int .i64 d] w fun e w' => e = .returned (.bool (okT (.mk 5 m n xs 0) d)) ∧ Below w.heap.size w w' := by
  obtain ⟨h1, A, c, rfl, hr⟩ := hva
  simp only [tyV, Ty.kind, Ty.mod, Ty.name, Ty.args, Ty.var] at hr ⊢
  have hxl : xs.length ≤ 9223372036854775000 := by obtain ⟨_, _, _, h, _⟩ := hr; exact h.1
  obtain ⟨w1, hw1⟩ : ∃ w1, w1 = w.alloc (.cells #[.int .i64 5, .string (S m), .string (S n), .slice A xs.length c, .int .i64 0] 24) := ⟨_, rfl⟩
  obtain ⟨q2, hq2⟩ : ∃ q2, q2 = w.heap.size := ⟨_, rfl⟩
  have B1 := Lib.hid (show Below w.heap.size w w1 by rw [hw1]; exact bel_alloc (Below.refl _ _) _)
  have blk2 := Lib.hid (show w1.heap[q2]? = some (.cells #[.int .i64 5, .string (S m), .string (S n), .slice A xs.length c, .int .i64 0] 24 (0, 0)) by rw [hw1, hq2]; exact (MapKept.heap_alloc w _).1)
  have HR := Lib.hid hr; have H1 := Lib.hid h1
  obtain ⟨b0, b1, b2, b3, b4, -⟩ := five_cells blk2.out
  clear hr h1
  subst hm hn
  have f0 : decide (d > 100) = false := decide_eq_false (by omega)
  have IH := Lib.hid ih
  clear ih
  have HK := Lib.hid (ok_fn (xs := xs) hd)
  obtain ⟨R, hR⟩ : ∃ R, R = okT (.mk 5 [] [] xs 0) d := ⟨_, rfl⟩
  rw [← hR] at HK ⊢
  clear hR
  by_cases h1 : 1 ≤ xs.length
  · have t1 : decide ((xs.length : Int) < 1) = false := decide_eq_false (by omega)
    by_cases h2 : xs.length ≤ 13
    · have t2 : decide ((xs.length : Int) > 13) = false := decide_eq_false (by omega)
      have HO := Lib.hid (show R = okL xs (d + 1) by rw [HK.out, decide_eq_true h1, decide_eq_true h2]; rfl)
      go_enter Tryz.func52, Tryz.ntmps52
      go_wp2_with fail
      rw [← hw1, ← hq2]
      clear hw1 hq2
      go_wp2_with fail
      go_loopw [5] (fun i wr => ∃ (j : Nat), j ≤ xs.length ∧ i = .int .i64 (j : Int) ∧ Hid (okL xs (d + 1) = okL (xs.drop j) (d + 1)) ∧ Hid (Below w1.heap.size w1 wr)) (fun i _ => xs.length - (intOf i).toNat)
      case atStart => exact ⟨0, Nat.zero_le _, rfl, Lib.hid rfl, Lib.hid (Below.refl _ _)⟩
      case round =>
        obtain ⟨j, hj, rfl, hE, hB⟩ := hrel
        have hl2 := lt_of_block blk2.out
        have c3 : wr.cell? ⟨q2, 3, none⟩ = some (.slice A xs.length c) := (hB.out.cell (p := ⟨q2, 3, none⟩) hl2).trans (five_cells blk2.out).2.2.2.1
        have BW := Lib.hid (show Below w.heap.size w wr from B1.out.trans (hB.out.mono B1.out.size))
        clear hl2
        by_cases hlt : j < xs.length
        · have hrw : RdL (fun b => b < wr.heap.size) wr (.slice A xs.length c) xs := HR.out.below BW.out
          obtain ⟨-, -, hxx⟩ := hrw.at_
          have hx2 := hxx (Nat.lt_of_le_of_lt (Nat.zero_le _) hlt)
          obtain ⟨e1, off, rfl, he0, hc⟩ := hx2
          obtain ⟨A2, c2, g1, g2, g3, g4, g5, g6, g7⟩ := hc j hlt
          obtain ⟨tt, htt⟩ : ∃ tt, tt = tyAt xs j := ⟨_, rfl⟩
          rw [← htt] at g1 g2 g3 g4 g5 g6 g7
          have HE2 := Lib.hid (show okL xs (d + 1) = (okT tt (d + 1) && okL (xs.drop (j + 1)) (d + 1)) by rw [hE.out, okL_drop hlt, ← htt])
          have hcall := IH.out tt (by rw [htt]; exact tyAt_mem hlt) (d + 1) _ wr (by omega) (by omega) ⟨g7, A2, c2, rfl, g6⟩
          unfold tyV at hcall
          have i0 : (0 : Int) ≤ (j : Int) := by omega
          have i1 : (j : Int) < (xs.length : Int) := by omega
          clear hxx hc htt hrw g6 g7 hE
          go_wp2_with fail
          refine hcall.mono ?_
          rintro e w6 ⟨rfl, hb⟩
          have B6 := Lib.hid (show Below w1.heap.size w1 w6 from hB.out.trans (hb.mono hB.out.size))
          have C6 := Lib.hid (show Below w.heap.size w w6 from BW.out.trans (hb.mono BW.out.size))
          clear hb hcall g1 g2 g3 g4 g5 c3
          cases hok : okT tt (d + 1) with
          | true =>
            have HE3 := Lib.hid (show okL xs (d + 1) = okL (xs.drop (j + 1)) (d + 1) by rw [HE2.out, hok]; rfl)
            clear hok
            go_wp2
            go_roundw
            case rel => exact ⟨j + 1, by omega, by go_num, HE3, B6⟩
            case measure => simp [intOf]; omega
          | false =>
            have HE3 := Lib.hid (show okL xs (d + 1) = false by rw [HE2.out, hok]; rfl)
            clear hok
            go_wp2
            go_ret
            exact ⟨by rw [HO.out, HE3.out]; rfl, C6.out⟩
        · obtain rfl : j = xs.length := by omega
          have lt1 : ¬ ((xs.length : Int) < (xs.length : Int)) := by omega
          have HE3 := Lib.hid (show okL xs (d + 1) = true by rw [hE.out, List.drop_length]; rfl)
          clear hlt hE
          go_wp2
          go_ret
          exact ⟨by rw [HO.out, HE3.out]; rfl, BW.out⟩
    · have t2 : decide ((xs.length : Int) > 13) = true := decide_eq_true (by omega)
      rw [show R = false by rw [HK.out, decide_eq_true h1, decide_eq_false h2]; rfl]
      clear h1 h2 hd
      go_enter Tryz.func52, Tryz.ntmps52
      go_wp2
      go_ret
      exact ⟨rfl, bel_alloc (Below.refl _ _) _⟩
  · have t1 : decide ((xs.length : Int) < 1) = true := decide_eq_true (by omega)
    rw [show R = false by rw [HK.out, decide_eq_false h1]; rfl]
    clear h1 hd
    go_enter Tryz.func52, Tryz.ntmps52
    go_wp2
    go_ret
    exact ⟨rfl, bel_alloc (Below.refl _ _) _⟩

set_option maxRecDepth 100000 in
set_option maxHeartbeats 8000000 in
theorem formed_made {m : List UInt8} {n : List UInt8} {xs : List Ty} {d : Int} (hd : d ≤ 100) (ih : ∀ t ∈ xs, RFormedAt t) (va : Value) (w : World) (hd0 : 1 ≤ d) (hd1 : d ≤ 101) (hva : RdV w va (.mk 4 m n xs 0)) : Calls Tryz.prog 52 #[va, .int .i64 d] w fun e w' => e = .returned (.bool (okT (.mk 4 m n xs 0) d)) ∧ Below w.heap.size w w' := by
  obtain ⟨h1, A, c, rfl, hr⟩ := hva
  simp only [tyV, Ty.kind, Ty.mod, Ty.name, Ty.args, Ty.var] at hr ⊢
  have hxl : xs.length ≤ 9223372036854775000 := by obtain ⟨_, _, _, h, _⟩ := hr; exact h.1
  obtain ⟨w1, hw1⟩ : ∃ w1, w1 = w.alloc (.cells #[.int .i64 4, .string (S m), .string (S n), .slice A xs.length c, .int .i64 0] 24) := ⟨_, rfl⟩
  obtain ⟨q2, hq2⟩ : ∃ q2, q2 = w.heap.size := ⟨_, rfl⟩
  have B1 := Lib.hid (show Below w.heap.size w w1 by rw [hw1]; exact bel_alloc (Below.refl _ _) _)
  have blk2 := Lib.hid (show w1.heap[q2]? = some (.cells #[.int .i64 4, .string (S m), .string (S n), .slice A xs.length c, .int .i64 0] 24 (0, 0)) by rw [hw1, hq2]; exact (MapKept.heap_alloc w _).1)
  have HR := Lib.hid hr; have H1 := Lib.hid h1
  obtain ⟨b0, b1, b2, b3, b4, -⟩ := five_cells blk2.out
  clear hr h1
  have f0 : decide (d > 100) = false := decide_eq_false (by omega)
  have IH := Lib.hid ih
  clear ih
  have HK := Lib.hid (ok_made (m := m) (n := n) (xs := xs) hd)
  obtain ⟨R, hR⟩ : ∃ R, R = okT (.mk 4 m n xs 0) d := ⟨_, rfl⟩
  rw [← hR] at HK ⊢
  clear hR
  have hsm := RSmall_calls m w1 (by have := H1.out.1; simp only [Ty.mod] at this; omega)
  go_enter Tryz.func52, Tryz.ntmps52
  go_wp2_with fail
  rw [← hw1, ← hq2]
  clear hw1 hq2
  go_wp2_with fail
  refine hsm.mono ?_
  rintro e w2 ⟨rfl, hb⟩
  have B2 := Lib.hid hb
  have C2 := Lib.hid (show Below w.heap.size w w2 from B1.out.trans (hb.mono B1.out.size))
  have hl2 := lt_of_block blk2.out
  have cc : ∀ o, w2.cell? ⟨q2, o, none⟩ = w1.cell? ⟨q2, o, none⟩ := fun o => hb.cell (p := ⟨q2, o, none⟩) hl2
  obtain ⟨a0, a1, a2, a3, a4, -⟩ := five_cells blk2.out
  have p2 := (cc 2).trans a2
  have p3 := (cc 3).trans a3
  clear hb hl2 cc a0 a1 a2 a3 a4 b0 b1 b2 b3 b4 hsm
  cases hm : nameB m false with
  | false =>
    have HO := Lib.hid (show R = false by rw [HK.out, hm]; rfl)
    clear hm
    go_wp2
    go_ret
    exact ⟨by rw [HO.out]; rfl, C2.out⟩
  | true =>
    have HM := Lib.hid hm
    clear hm
    have hsc := RCapital_calls n w2 (by have := H1.out.2; simp only [Ty.name] at this; omega)
    go_wp2_with fail
    refine hsc.mono ?_
    rintro e w3 ⟨rfl, hb⟩
    have B3 := Lib.hid (show Below w1.heap.size w1 w3 from B2.out.trans (hb.mono B2.out.size))
    have C3 := Lib.hid (show Below w.heap.size w w3 from C2.out.trans (hb.mono C2.out.size))
    have hl2 := lt_of_block blk2.out
    have r3 : w3.cell? ⟨q2, 3, none⟩ = some (.slice A xs.length c) := (B3.out.cell (p := ⟨q2, 3, none⟩) hl2).trans (five_cells blk2.out).2.2.2.1
    clear hb hl2 p2 p3 hsc
    cases hn : nameB n true with
    | false =>
      have HO := Lib.hid (show R = false by rw [HK.out, HM.out, hn]; rfl)
      clear hn
      go_wp2
      go_ret
      exact ⟨by rw [HO.out]; rfl, C3.out⟩
    | true =>
      have HN := Lib.hid hn
      clear hn
      by_cases h2 : xs.length ≤ 12
      · have t2 : decide ((xs.length : Int) > 12) = false := decide_eq_false (by omega)
        have HO := Lib.hid (show R = okL xs (d + 1) by rw [HK.out, HM.out, HN.out, decide_eq_true h2]; rfl)
        clear h2
        go_wp2_with fail
        go_loopw [5] (fun i wr => ∃ (j : Nat), j ≤ xs.length ∧ i = .int .i64 (j : Int) ∧ Hid (okL xs (d + 1) = okL (xs.drop j) (d + 1)) ∧ Hid (Below w1.heap.size w1 wr)) (fun i _ => xs.length - (intOf i).toNat)
        case atStart => exact ⟨0, Nat.zero_le _, rfl, Lib.hid rfl, B3⟩
        case round =>
          obtain ⟨j, hj, rfl, hE, hB⟩ := hrel
          have hl2 := lt_of_block blk2.out
          have c3 : wr.cell? ⟨q2, 3, none⟩ = some (.slice A xs.length c) := (hB.out.cell (p := ⟨q2, 3, none⟩) hl2).trans (five_cells blk2.out).2.2.2.1
          have BW := Lib.hid (show Below w.heap.size w wr from B1.out.trans (hB.out.mono B1.out.size))
          clear hl2
          by_cases hlt : j < xs.length
          · have hrw : RdL (fun b => b < wr.heap.size) wr (.slice A xs.length c) xs := HR.out.below BW.out
            obtain ⟨-, -, hxx⟩ := hrw.at_
            have hx2 := hxx (Nat.lt_of_le_of_lt (Nat.zero_le _) hlt)
            obtain ⟨e1, off, rfl, he0, hc⟩ := hx2
            obtain ⟨A2, c2, g1, g2, g3, g4, g5, g6, g7⟩ := hc j hlt
            obtain ⟨tt, htt⟩ : ∃ tt, tt = tyAt xs j := ⟨_, rfl⟩
            rw [← htt] at g1 g2 g3 g4 g5 g6 g7
            have HE2 := Lib.hid (show okL xs (d + 1) = (okT tt (d + 1) && okL (xs.drop (j + 1)) (d + 1)) by rw [hE.out, okL_drop hlt, ← htt])
            have hcall := IH.out tt (by rw [htt]; exact tyAt_mem hlt) (d + 1) _ wr (by omega) (by omega) ⟨g7, A2, c2, rfl, g6⟩
            unfold tyV at hcall
            have i0 : (0 : Int) ≤ (j : Int) := by omega
            have i1 : (j : Int) < (xs.length : Int) := by omega
            clear hxx hc htt hrw g6 g7 hE
            go_wp2_with fail
            refine hcall.mono ?_
            rintro e w6 ⟨rfl, hb⟩
            have B6 := Lib.hid (show Below w1.heap.size w1 w6 from hB.out.trans (hb.mono hB.out.size))
            have C6 := Lib.hid (show Below w.heap.size w w6 from BW.out.trans (hb.mono BW.out.size))
            clear hb hcall g1 g2 g3 g4 g5 c3
            cases hok : okT tt (d + 1) with
            | true =>
              have HE3 := Lib.hid (show okL xs (d + 1) = okL (xs.drop (j + 1)) (d + 1) by rw [HE2.out, hok]; rfl)
              clear hok
              go_wp2
              go_roundw
              case rel => exact ⟨j + 1, by omega, by go_num, HE3, B6⟩
              case measure => simp [intOf]; omega
            | false =>
              have HE3 := Lib.hid (show okL xs (d + 1) = false by rw [HE2.out, hok]; rfl)
              clear hok
              go_wp2
              go_ret
              exact ⟨by rw [HO.out, HE3.out]; rfl, C6.out⟩
          · obtain rfl : j = xs.length := by omega
            have lt1 : ¬ ((xs.length : Int) < (xs.length : Int)) := by omega
            have HE3 := Lib.hid (show okL xs (d + 1) = true by rw [hE.out, List.drop_length]; rfl)
            clear hlt hE
            go_wp2
            go_ret
            exact ⟨by rw [HO.out, HE3.out]; rfl, BW.out⟩
      · have t2 : decide ((xs.length : Int) > 12) = true := decide_eq_true (by omega)
        have HO := Lib.hid (show R = false by rw [HK.out, HM.out, HN.out, decide_eq_false h2]; rfl)
        clear h2
        go_wp2
        go_ret
        exact ⟨by rw [HO.out]; rfl, C3.out⟩

set_option maxRecDepth 100000 in
set_option maxHeartbeats 8000000 in
theorem formed_names6 {m : List UInt8} {n : List UInt8} {xs : List Ty} {d : Int} {v : Int} (hd : d ≤ 100) (h : (m == [] && n == []) = false) (va : Value) (w : World) (hd0 : 1 ≤ d) (hd1 : d ≤ 101) (hva : RdV w va (.mk 6 m n xs v)) : Calls Tryz.prog 52 #[va, .int .i64 d] w fun e w' => e = .returned (.bool (okT (.mk 6 m n xs v) d)) ∧ Below w.heap.size w w' := by
  obtain ⟨h1, A, c, rfl, hr⟩ := hva
  simp only [tyV, Ty.kind, Ty.mod, Ty.name, Ty.args, Ty.var] at hr ⊢
  have hxl : xs.length ≤ 9223372036854775000 := by obtain ⟨_, _, _, h, _⟩ := hr; exact h.1
  clear hr h1
  have f0 : decide (d > 100) = false := decide_eq_false (by omega)
  rw [show okT (.mk 6 m n xs v) d = false from ok_names (by decide) h]
  clear hd
  cases hm : (m == []) with
  | false =>
    have f4 : m.isEmpty = false := by cases m with
      | nil => cases hm
      | cons a m => rfl
    clear h hm
    go_enter Tryz.func52, Tryz.ntmps52
    go_wp2
    go_ret
    exact ⟨rfl, bel_alloc (Below.refl _ _) _⟩
  | true =>
    obtain rfl : m = [] := by simpa using hm
    have f5 : n.isEmpty = false := by
      rw [hm, Bool.true_and] at h
      cases n with
      | nil => cases h
      | cons a n => rfl
    clear h hm
    go_enter Tryz.func52, Tryz.ntmps52
    go_wp2
    go_ret
    exact ⟨rfl, bel_alloc (Below.refl _ _) _⟩

theorem RFormed_calls (t : Ty) : RFormedAt t := by
  induction t using Ty.ind with
  | h k m n xs v ih =>
    intro d va w hd0 hd1 hva
    by_cases h0 : 100 < d
    · exact formed_deep h0 va w hd0 hd1 hva
    · have hd : d ≤ 100 := by omega
      by_cases h6 : k = 6
      · subst h6
        cases hmn : (m == [] && n == []) with
        | true =>
          simp only [Bool.and_eq_true, beq_iff_eq] at hmn
          exact formed_v hd hmn.1 hmn.2 va w hd0 hd1 hva
        | false => exact formed_names6 hd hmn va w hd0 hd1 hva
      · by_cases hv : v = 0
        · subst hv
          by_cases h4 : k = 4
          · subst h4
            exact formed_made hd ih va w hd0 hd1 hva
          · cases hmn : (m == [] && n == []) with
            | false => exact formed_names hd h4 hmn va w hd0 hd1 hva
            | true =>
              simp only [Bool.and_eq_true, beq_iff_eq] at hmn
              by_cases h1 : k = 1
              · subst h1; exact formed_b1 hd hmn.1 hmn.2 va w hd0 hd1 hva
              · by_cases h2 : k = 2
                · subst h2; exact formed_b2 hd hmn.1 hmn.2 va w hd0 hd1 hva
                · by_cases h3 : k = 3
                  · subst h3; exact formed_b3 hd hmn.1 hmn.2 va w hd0 hd1 hva
                  · by_cases h5 : k = 5
                    · subst h5; exact formed_fn hd hmn.1 hmn.2 ih va w hd0 hd1 hva
                    · exact formed_other hd hmn.1 hmn.2 (by omega) h4 h5 h6 va w hd0 hd1 hva
        · exact formed_var hd h6 hv va w hd0 hd1 hva

def RPartsAt (t : Ty) : Prop := ∀ (v : Value) (w : World), partsT t ≤ 1000000000 → RdV w v t → Calls Tryz.prog 53 #[v] w fun e w' => e = .returned (.int .i64 (partsT t : Int)) ∧ Below w.heap.size w w'
theorem partsL_drop {xs : List Ty} {j : Nat} (h : j < xs.length) : partsL (xs.drop j) = partsT (tyAt xs j) + partsL (xs.drop (j + 1)) := by
  rw [List.drop_eq_getElem_cons h, tyAt_get h]; simp [partsL]
set_option maxRecDepth 100000 in
set_option maxHeartbeats 8000000 in
theorem RParts_calls (t : Ty) : RPartsAt t := by
  induction t using Ty.ind with
  | h k m n xs v ih =>
    intro va w hfew hva
    obtain ⟨h1, A, c, rfl, hr⟩ := hva
    simp only [tyV, Ty.kind, Ty.mod, Ty.name, Ty.args, Ty.var] at hr ⊢
    have hxl : xs.length ≤ 9223372036854775000 := by obtain ⟨_, _, _, h, _⟩ := hr; exact h.1
    obtain ⟨w1, hw1⟩ : ∃ w1, w1 = w.alloc (.cells #[.int .i64 k, .string (S m), .string (S n), .slice A xs.length c, .int .i64 v] 24) := ⟨_, rfl⟩
    obtain ⟨q2, hq2⟩ : ∃ q2, q2 = w.heap.size := ⟨_, rfl⟩
    have B1 := Lib.hid (show Below w.heap.size w w1 by rw [hw1]; exact bel_alloc (Below.refl _ _) _)
    have blk2 := Lib.hid (show w1.heap[q2]? = some (.cells #[.int .i64 k, .string (S m), .string (S n), .slice A xs.length c, .int .i64 v] 24 (0, 0)) by rw [hw1, hq2]; exact (MapKept.heap_alloc w _).1)
    have HR := Lib.hid hr; have H1 := Lib.hid h1
    obtain ⟨b0, b1, b2, b3, b4, -⟩ := five_cells blk2.out
    clear hr h1
    have ep : partsT (.mk k m n xs v) = 1 + partsL xs := by simp [partsT]
    have IH := Lib.hid ih
    clear ih
    rw [ep] at hfew ⊢
    clear ep
    go_enter Tryz.func53, Tryz.ntmps53
    go_wp2_with fail
    rw [← hw1, ← hq2]
    clear hw1 hq2
    go_wp2_with fail
    go_loopw [3, 4] (fun s i wr => ∃ (j z : Nat), j ≤ xs.length ∧ s = .int .i64 (z : Int) ∧ i = .int .i64 (j : Int) ∧ Hid (1 + partsL xs = z + partsL (xs.drop j)) ∧ Hid (Below w1.heap.size w1 wr)) (fun _ i _ => xs.length - (intOf i).toNat)
    case atStart => exact ⟨0, 1, Nat.zero_le _, rfl, rfl, Lib.hid rfl, Lib.hid (Below.refl _ _)⟩
    case round =>
      obtain ⟨j, z, hj, rfl, rfl, hE, hB⟩ := hrel
      have hl2 := lt_of_block blk2.out
      have c3 : wr.cell? ⟨q2, 3, none⟩ = some (.slice A xs.length c) := (hB.out.cell (p := ⟨q2, 3, none⟩) hl2).trans (five_cells blk2.out).2.2.2.1
      have BW := Lib.hid (show Below w.heap.size w wr from B1.out.trans (hB.out.mono B1.out.size))
      clear hl2
      by_cases hlt : j < xs.length
      · have hrw : RdL (fun b => b < wr.heap.size) wr (.slice A xs.length c) xs := HR.out.below BW.out
        obtain ⟨-, -, hxx⟩ := hrw.at_
        have hx2 := hxx (Nat.lt_of_le_of_lt (Nat.zero_le _) hlt)
        obtain ⟨e1, off, rfl, he0, hc⟩ := hx2
        obtain ⟨A2, c2, g1, g2, g3, g4, g5, g6, g7⟩ := hc j hlt
        obtain ⟨tt, htt⟩ : ∃ tt, tt = tyAt xs j := ⟨_, rfl⟩
        rw [← htt] at g1 g2 g3 g4 g5 g6 g7
        obtain ⟨pt, hpt⟩ : ∃ pt, pt = partsT tt := ⟨_, rfl⟩
        have HE2 := Lib.hid (show 1 + partsL xs = (z + pt) + partsL (xs.drop (j + 1)) by rw [hE.out, partsL_drop hlt, ← htt, hpt]; omega)
        have hcall := IH.out tt (by rw [htt]; exact tyAt_mem hlt) _ wr (by have := HE2.out; omega) ⟨g7, A2, c2, rfl, g6⟩
        unfold tyV at hcall
        rw [← hpt] at hcall
        have hzz : (z : Int) + (pt : Int) ≤ 1000000000 := by have := HE2.out; omega
        have i0 : (0 : Int) ≤ (j : Int) := by omega
        have i1 : (j : Int) < (xs.length : Int) := by omega
        clear hxx hc htt hrw g6 g7 hE hpt
        go_wp2_with fail
        refine hcall.mono ?_
        rintro e w6 ⟨rfl, hb⟩
        have B6 := Lib.hid (show Below w1.heap.size w1 w6 from hB.out.trans (hb.mono hB.out.size))
        clear hb hcall g1 g2 g3 g4 g5 c3
        go_wp2
        go_roundw
        case rel => exact ⟨j + 1, z + pt, by omega, by go_num, by go_num, HE2, B6⟩
        case measure => simp [intOf]; omega
      · obtain rfl : j = xs.length := by omega
        have lt1 : ¬ ((xs.length : Int) < (xs.length : Int)) := by omega
        have HE3 := Lib.hid (show 1 + partsL xs = z by rw [hE.out, List.drop_length]; simp [partsL])
        clear hlt hE
        go_wp2
        go_ret
        exact ⟨by rw [show ((1 : Int) + (partsL xs : Int)) = (z : Int) by have := HE3.out; omega]; rfl, BW.out⟩

set_option maxRecDepth 100000 in
set_option maxHeartbeats 4000000 in
theorem RIsFormed_calls (t : Ty) (v : Value) (w : World) (hfew : partsT t ≤ 1000000000) (hv : RdV w v t) : Calls Tryz.prog 17 #[v] w fun e w' => e = .returned (.bool (formedB t)) ∧ Below w.heap.size w w' := by
  obtain ⟨h1, A, c, rfl, hr⟩ := hv
  unfold tyV
  obtain ⟨R, hR⟩ : ∃ R, R = formedB t := ⟨_, rfl⟩
  rw [← hR]
  have HK := Lib.hid (show R = (okT t 1 && decide (partsT t ≤ 4000)) from hR)
  clear hR
  obtain ⟨w1, hw1⟩ : ∃ w1, w1 = w.alloc (.cells #[.int .i64 t.kind, .string (S t.mod), .string (S t.name), .slice A t.args.length c, .int .i64 t.var] 24) := ⟨_, rfl⟩
  obtain ⟨q2, hq2⟩ : ∃ q2, q2 = w.heap.size := ⟨_, rfl⟩
  have B1 := Lib.hid (show Below w.heap.size w w1 by rw [hw1]; exact bel_alloc (Below.refl _ _) _)
  have blk2 := Lib.hid (show w1.heap[q2]? = some (.cells #[.int .i64 t.kind, .string (S t.mod), .string (S t.name), .slice A t.args.length c, .int .i64 t.var] 24 (0, 0)) by rw [hw1, hq2]; exact (MapKept.heap_alloc w _).1)
  have HV := Lib.hid (show RdV w _ t from ⟨h1, A, c, rfl, hr⟩)
  have hc1 := RFormed_calls t 1 _ w1 (by omega) (by omega) (HV.out.below B1.out)
  unfold tyV at hc1
  obtain ⟨b0, b1, b2, b3, b4, -⟩ := five_cells blk2.out
  clear hr h1
  go_enter Tryz.func17, Tryz.ntmps17
  go_wp2_with fail
  rw [← hw1, ← hq2]
  clear hw1 hq2
  go_wp2_with fail
  refine hc1.mono ?_
  rintro e w2 ⟨rfl, hb⟩
  have B2 := Lib.hid (show Below w.heap.size w w2 from B1.out.trans (hb.mono B1.out.size))
  have blk22 := (hb.block q2 (lt_of_block blk2.out)).trans blk2.out
  clear hb hc1 b0 b1 b2 b3 b4
  obtain ⟨b0, b1, b2, b3, b4, -⟩ := five_cells blk22
  cases hok : okT t 1 with
  | false =>
    have HO := Lib.hid (show R = false by rw [HK.out, hok]; rfl)
    clear hok
    go_wp2
    go_ret
    exact ⟨by rw [HO.out]; rfl, B2.out⟩
  | true =>
    have HM := Lib.hid hok
    clear hok
    have hc2 := RParts_calls t _ w2 hfew (HV.out.below B2.out)
    unfold tyV at hc2
    go_wp2_with fail
    refine hc2.mono ?_
    rintro e w3 ⟨rfl, hb⟩
    have B3 := Lib.hid (show Below w.heap.size w w3 from B2.out.trans (hb.mono B2.out.size))
    clear hb hc2 b0 b1 b2 b3 b4 blk22
    by_cases h4 : partsT t ≤ 4000
    · have t4 : decide ((partsT t : Int) ≤ 4000) = true := decide_eq_true (by omega)
      have HO := Lib.hid (show R = true by rw [HK.out, HM.out, decide_eq_true h4]; rfl)
      clear h4
      go_wp2
      go_ret
      exact ⟨by rw [HO.out]; rfl, B3.out⟩
    · have t4 : decide ((partsT t : Int) ≤ 4000) = false := decide_eq_false (by omega)
      have HO := Lib.hid (show R = false by rw [HK.out, HM.out, decide_eq_false h4]; rfl)
      clear h4
      go_wp2
      go_ret
      exact ⟨by rw [HO.out]; rfl, B3.out⟩

end Go.Proofs.YtplnfepdikbpfaaGreatDoor
