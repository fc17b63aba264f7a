/- genericReplacer's Replace at the pairs of Unquote. Condition: at most 20000 bytes. -/
import Derived.Test.YtepgjaecfoaenaaGreatDoorL3
namespace Go.Proofs.YtepgjaecfoaenaaGreatDoor
open Go.RowKit
set_option linter.unusedVariables false
set_option linter.unusedSimpArgs false

theorem method_gen (a : Addr) (w : World) (d : Nat) : (method (d + 1) 121 (.pointer (some a)) "Replace").run Tryz.prog w = .ok (166, .pointer (some a)) w := by kernel_rfl
theorem nilAhead_gen (a : Addr) (w : World) (d : Nat) : (nilAhead (d + 1) 121 (.pointer (some a)) "Replace").run Tryz.prog w = .ok (some false) w := by kernel_rfl
theorem conv_nil (w : World) : (convert 196 9 (.slice none 0 0)).run Tryz.prog w = .ok (.string ⟨#[]⟩) w := by kernel_rfl
theorem conv_own {w : World} {B : Nat} {v : Value} {A : List UInt8} (h : w.ownsRow B 5 1 v A.length (Lib.strCells (S A))) : (convert 196 9 v).run Tryz.prog w = .ok (.string (S A)) w := by
  rcases h.2 with ⟨rfl, h0⟩ | ⟨g, cap, cur, rfl, hb, hg, h1, h2, h3, h4⟩
  · obtain rfl : A = [] := List.length_eq_zero_iff.1 h0
    exact conv_nil w
  · refine run_convert_bytes_back w 196 9 5 ⟨g, 0, none⟩ cap A Tryz.underlying196 Tryz.underlying5 Tryz.underlying9 ?_
    intro j hj
    rw [World.ownsRow.cells h (g := g) rfl j (.int .u8 (A[j].toNat : Int)) (by simp [Lib.strCells, S_data, List.getElem?_eq_getElem hj])]
theorem make0_own (w : World) (N : Nat) (hN : N ≤ 20000) : (w.alloc (.cells (madeCells #[.int .u8 0] N) 5)).ownsRow w.heap.size 5 1 (.slice (some ⟨w.heap.size, 0, none⟩) 0 N) 0 [] :=
  ⟨rfl, .inr ⟨w.heap.size, N, _, rfl, Nat.le_refl _, heap_alloc_new w _, by omega, by unfold maxLen; omega, by rw [made_fill, List.size_toArray, fill_length _ _ (by simp), Nat.mul_one], rfl⟩⟩
theorem make0_run (w : World) (N : Nat) (hN : N ≤ 20000) : (Instr.makeSlice 196 (.int .i64 0) (.int .i64 N)).run Tryz.prog w = .ok (.slice (some ⟨w.heap.size, 0, none⟩) 0 N) (w.alloc (.cells (madeCells #[.int .u8 0] N) 5)) := by
  obtain ⟨i0, hi, hz0, hz1, hz2⟩ := info_parts infoByte
  have h := run_make (P := Tryz.prog) w 196 5 i0 (.int .u8 0) Tryz.underlying196 hi hz0 .i64 .i64 0 N (by omega) (by omega) (by rw [hz2]; omega) (by omega)
  rw [hz1] at h
  simpa [Value.cells] using h

set_option maxRecDepth 100000 in
set_option maxHeartbeats 4000000 in
theorem gen_Replace (B R : Nat) (l : List UInt8) (w : World) (hS : GS B R w) (hl : l.length ≤ 20000) :
    Calls Tryz.prog 166 #[.pointer (some ⟨R, 0, none⟩), .string (S l)] w fun e w' => e = .returned (.string (S (unq l))) ∧ Below w.heap.size w w' := by
  have HM := fun W => make0_run W l.length hl
  go_enter Tryz.func166, Tryz.ntmps166
  go_wp2_with fail
  have hbuf : BufW w.heap.size (w.heap.size + 1) [] ((w.alloc (.cells (madeCells #[.int .u8 0] l.length) 5)).alloc (.cells #[.slice (some ⟨w.heap.size, 0, none⟩) 0 l.length] 196)) :=
    ⟨_, by have := heap_alloc_new (w.alloc (.cells (madeCells #[.int .u8 0] l.length) 5)) (.cells #[.slice (some ⟨w.heap.size, 0, none⟩) 0 l.length] 196); rw [World.size_alloc] at this; exact this, by omega,
     own_below (make0_own w l.length hl) ((Below.refl _ _).alloc (Nat.le_refl _) _), by simp [Value.ownBlock]⟩
  refine (gen_WriteString B R (w.heap.size + 1) l w _ hS (bel_alloc (bel_alloc (Below.refl _ _) _) _) hbuf hl).mono ?_
  rintro e w' ⟨⟨x, rfl⟩, ⟨v, hrow, hB, hown, hne⟩, hb⟩
  have c0 : w'.cell? ⟨w.heap.size + 1, 0, none⟩ = some v := by rw [Lib.cell_of_heap hrow]; rfl
  have hcv := conv_own hown
  clear hbuf HM
  have HO := Lib.hid hown; clear hown hne hrow
  go_wp2
  go_ret
  exact ⟨rfl, hb⟩

end Go.Proofs.YtepgjaecfoaenaaGreatDoor
