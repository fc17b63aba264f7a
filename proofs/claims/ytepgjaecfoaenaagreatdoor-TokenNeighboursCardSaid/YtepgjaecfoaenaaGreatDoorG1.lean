/- The walk of trieNode's add at the pairs of Unquote. -/
import Derived.Test.YtepgjaecfoaenaaGreatDoorR2
import Derived.Deep.OwnRows
namespace Go.Proofs.YtepgjaecfoaenaaGreatDoor
open Go.RowKit
set_option linter.unusedVariables false
set_option linter.unusedSimpArgs false

/-- The cells of a node. -/
def nodeF (v : List UInt8) (p : Int) (pre : List UInt8) (nx tb : Value) : Nat → Value
  | 0 => .string (S v) | 1 => .int .i64 p | 2 => .string (S pre) | 3 => nx | 4 => tb | _ => default

def Node (w : World) (b : Nat) (v : List UInt8) (p : Int) (pre : List UInt8) (nx tb : Value) : Prop := w.rowIs b 146 5 (nodeF v p pre nx tb)

theorem Node.kept {w w' : World} {b : Nat} {v : List UInt8} {p : Int} {pre : List UInt8} {nx tb : Value} (h : Node w b v p pre nx tb) {row : Option Nat} (hg : w.grownBy w' row) (hne : some b ≠ row) : Node w' b v p pre nx tb :=
  World.rowIs.of_block h (hg.block b (World.rowIs.lt h) hne)
theorem Node.new (w : World) (v : List UInt8) (p : Int) (pre : List UInt8) (nx tb : Value) : Node (w.alloc (.cells #[.string (S v), .int .i64 p, .string (S pre), nx, tb] 146)) w.heap.size v p pre nx tb :=
  World.rowIs_alloc w #[.string (S v), .int .i64 p, .string (S pre), nx, tb] _ _ (fun i hi => by
    rcases (show i = 0 ∨ i = 1 ∨ i = 2 ∨ i = 3 ∨ i = 4 by simp at hi; omega) with rfl | rfl | rfl | rfl | rfl <;> rfl)
theorem Node.put {w : World} {b : Nat} {v v' : List UInt8} {p p' : Int} {pre pre' : List UInt8} {nx tb nx' tb' : Value} (h : Node w b v p pre nx tb) (i : Nat) (u : Value)
    (hf : ∀ j, j < 5 → (if j = i then u else nodeF v p pre nx tb j) = nodeF v' p' pre' nx' tb' j) : Node (w.setCell ⟨b, i, none⟩ u) b v' p' pre' nx' tb' :=
  World.rowIs.congr (World.rowIs.set h i u) hf
theorem five {P : Nat → Prop} (h0 : P 0) (h1 : P 1) (h2 : P 2) (h3 : P 3) (h4 : P 4) : ∀ j, j < 5 → P j := by
  intro j hj
  rcases (show j = 0 ∨ j = 1 ∨ j = 2 ∨ j = 3 ∨ j = 4 by omega) with rfl | rfl | rfl | rfl | rfl <;> assumption

set_option maxRecDepth 100000 in
set_option maxHeartbeats 1000000 in
theorem add_leaf (b : Nat) (val : List UInt8) (p : Int) (r : Value) (w : World) (h : Node w b [] 0 [] (.pointer none) (.slice none 0 0)) :
    Calls Tryz.prog 111 #[.pointer (some ⟨b, 0, none⟩), .string (S []), .string (S val), .int .i64 p, r] w fun e w' => e = .returned (.tuple #[]) ∧ w.grownBy w' (some b) ∧ Node w' b val p [] (.pointer none) (.slice none 0 0) := by
  have h0 : w.cell? ⟨b, 0, none⟩ = some (.string (S [])) := World.rowIs.cell h (by decide)
  have h1 : w.cell? ⟨b, 1, none⟩ = some (.int .i64 0) := World.rowIs.cell h (by decide)
  have fz : ∀ j, w.frozen? ⟨b, j, none⟩ = false := World.rowIs.frozen h
  have H := Lib.hid h; clear h
  go_enter Tryz.func111, Tryz.ntmps111
  go_wp2
  (try simp only [Exit.inBlock, Exit.then]); refine bodyPost_ret (results_none rfl _ _ _) rfl ?_
  refine ⟨rfl, (Lib.grownBy_setCell w b 0 _).trans (Lib.grownBy_setCell _ b 1 _), ?_⟩
  have k1 := Node.put (v' := val) (p' := 0) (pre' := []) (nx' := .pointer none) (tb' := .slice none 0 0) H.out 0 (.string (S val)) (five rfl rfl rfl rfl rfl)
  exact Node.put k1 1 (.int .i64 p) (five rfl rfl rfl rfl rfl)

set_option maxRecDepth 100000 in
set_option maxHeartbeats 1000000 in
theorem add_first (b : Nat) (c : UInt8) (val : List UInt8) (p : Int) (r : Value) (w : World) (h : Node w b [] 0 [] (.pointer none) (.slice none 0 0)) :
    Calls Tryz.prog 111 #[.pointer (some ⟨b, 0, none⟩), .string (S [c]), .string (S val), .int .i64 p, r] w fun e w' => e = .returned (.tuple #[]) ∧
      w.grownBy w' (some b) ∧ ∃ n, w.heap.size ≤ n ∧ Node w' b [] 0 [c] (.pointer (some ⟨n, 0, none⟩)) (.slice none 0 0) ∧ Node w' n val p [] (.pointer none) (.slice none 0 0) := by
  have h2 : w.cell? ⟨b, 2, none⟩ = some (.string (S [])) := World.rowIs.cell h (by decide)
  have h3 : w.cell? ⟨b, 3, none⟩ = some (.pointer none) := World.rowIs.cell h (by decide)
  have h4 : w.cell? ⟨b, 4, none⟩ = some (.slice none 0 0) := World.rowIs.cell h (by decide)
  have fz : ∀ j, w.frozen? ⟨b, j, none⟩ = false := World.rowIs.frozen h
  have hlt : b < w.heap.size := World.rowIs.lt h
  have H := Lib.hid h; clear h
  go_enter Tryz.func111, Tryz.ntmps111
  go_wp2_with fail
  have g1 := ((Lib.grownBy_setCell w b 2 (.string (S [c]))).trans (Lib.grownBy_setCell _ b 3 (.pointer (some ⟨w.heap.size, 0, none⟩))))
  have k1 := Node.put (v' := []) (p' := 0) (pre' := [c]) (nx' := .pointer none) (tb' := .slice none 0 0) H.out 2 (.string (S [c])) (five rfl rfl rfl rfl rfl)
  have k2 := Node.put (v' := []) (p' := 0) (pre' := [c]) (nx' := .pointer (some ⟨w.heap.size, 0, none⟩)) (tb' := .slice none 0 0) k1 3 (.pointer (some ⟨w.heap.size, 0, none⟩)) (five rfl rfl rfl rfl rfl)
  have k3 := Node.new ((w.setCell ⟨b, 2, none⟩ (.string (S [c]))).setCell ⟨b, 3, none⟩ (.pointer (some ⟨w.heap.size, 0, none⟩))) [] 0 [] (.pointer none) (.slice none 0 0)
  rw [show ((w.setCell ⟨b, 2, none⟩ (.string (S [c]))).setCell ⟨b, 3, none⟩ (.pointer (some ⟨w.heap.size, 0, none⟩))).heap.size = w.heap.size by simp [World.setCell]] at k3
  refine (add_leaf w.heap.size val p r _ k3).mono ?_
  rintro e w' ⟨rfl, hg, hn⟩
  have ga := World.grownBy_alloc ((w.setCell ⟨b, 2, none⟩ (.string (S [c]))).setCell ⟨b, 3, none⟩ (.pointer (some ⟨w.heap.size, 0, none⟩))) (.cells #[.string (S []), .int .i64 0, .string (S []), .pointer none, .slice none 0 0] 146) none
  have k4 := (k2.kept ga (by simp)).kept hg (by simp; omega)
  have g2 := (g1.andThen ga (by simp)).andThen hg (by intro j hj; injection hj with hj; exact .inl (by omega))
  have HR := Lib.hid (And.intro g2 (And.intro k4 hn))
  clear g1 k1 k2 k3 ga hg hn k4 g2
  go_wp2
  go_end0
  exact ⟨rfl, HR.out.1, w.heap.size, by omega, HR.out.2.1, HR.out.2.2⟩

end Go.Proofs.YtepgjaecfoaenaaGreatDoor
