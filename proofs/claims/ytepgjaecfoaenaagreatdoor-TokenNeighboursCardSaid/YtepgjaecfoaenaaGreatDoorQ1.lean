/- The library's byteStringReplacer as a row of 257 cells: how it is built and laid. -/
import Derived.Test.YtepgjaecfoaenaaGreatDoorN1
import Derived.Laws.Rows
import Derived.Laws.Tables
import Derived.Handy
namespace Go.Proofs.YtepgjaecfoaenaaGreatDoor
open Go.RowKit
set_option linter.unusedVariables false
set_option linter.unusedSimpArgs false

/-- 256 nil slices, and one value more. -/
def rowZ (v : Value) : Array Value := (Array.replicate 256 (.slice none 0 0)).push v
theorem rowZ_size (v : Value) : (rowZ v).size = 257 := by simp [rowZ]
theorem rowZ_at (v : Value) (k : Nat) (h : k < 256) : (rowZ v)[k]? = some (.slice none 0 0) := by
  rw [rowZ, Array.getElem?_push, if_neg (by simp; omega)]; simp [h]
theorem rowZ_last (v : Value) : (rowZ v)[256]? = some v := by
  rw [rowZ, Array.getElem?_push]; simp

theorem zeroCells_bsr : Tryz.zeroCells128 = rowZ (.slice none 0 0) := by kernel_rfl
theorem rowZ_set (v : Value) : (rowZ (.slice none 0 0)).setIfInBounds 256 v = rowZ v := by kernel_rfl
theorem rowZ_all (a : Option Addr) (n c : Nat) : (rowZ (.slice a n c)).all (·.oneCell') = true := by kernel_rfl
theorem sizeBsr : (Tryz.prog.info? 128).map (·.size) = some 257 := by kernel_rfl

/-- A row of cells is stored whole. -/
theorem wpList_store_whole {ops : Array Oper} {rest : List Oper} {o : Oper} {a : Act} {w : World} {Q : Exit → Act → World → Prop} (hgd : o.guard = none) (ty : TypeId) (x y : Operand) (ho : o.op = .store ty x y)
    (g : Nat) (cells : Array Value) (hx : a.eval x = .pointer (some ⟨g, 0, none⟩)) (hy : a.eval y = .agg cells)
    (t : TypeId) (old : Array Value) (hg : w.heap[g]? = some (.cells old t (0, 0))) (hi : (Tryz.prog.info? ty).map (·.size) = some cells.size)
    (hold : old.size = cells.size) (h1 : cells.all (·.oneCell') = true)
    (h : ∀ w1, w1.heap[g]? = some (.cells cells t (0, 0)) → Below g w w1 → w1.heap.size = w.heap.size → wpList Tryz.prog ops Q rest (a.put o.dst undef) w1) : wpList Tryz.prog ops Q (o :: rest) a w := by
  refine wpList_plain hgd fun K hK => wp_store_row ty x y ho g cells hx hy t old hg hi hold h1 (hK _ _ (h _ (setRow_heap w g old cells t (0, 0) hg) ?_ (by simp)))
  exact ⟨rfl, rfl, rfl, by simp, fun k hk => setRow_other w g k cells (by omega)⟩

end Go.Proofs.YtepgjaecfoaenaaGreatDoor
