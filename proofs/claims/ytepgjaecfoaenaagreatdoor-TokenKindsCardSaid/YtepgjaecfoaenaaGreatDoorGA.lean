/- An element of an array of 256 bytes, held by value. The walk of trieNode's add at the pairs of Unquote. The walk of trieNode's add at the pairs of Unquote: the split of a node, a node with a table, the root. The walk of trieNode's add at the pairs of Unquote: a node with a table, the root. The walk of trieNode's add at the pairs of Unquote: the root. -/
import Derived.Test.YtepgjaecfoaenaaGreatDoorBase
import Derived.Test.YtepgjaecfoaenaaGreatDoorQQ
import Derived.Deep.OwnRows
import Derived.Deep.QuietTactic
import Derived.StillTailTactics
namespace Go.Proofs.YtepgjaecfoaenaaGreatDoor
open Go.RowKit
set_option linter.unusedVariables false
set_option linter.unusedSimpArgs false
theorem under256 : Tryz.prog.underlying 123 = some (.array 256 5) := by kernel_rfl
theorem size_u8 : (Tryz.prog.info? 5).map (fun i => (i.size, i.zero)) = some (1, some (.int .u8 0)) := by kernel_rfl
theorem isAgg_u8 (w : World) : (isAgg 5).run Tryz.prog w = .ok false w := by kernel_rfl
theorem run_index256 (arr : Array Value) (k : Nat) (hk : k < 256) (v : Value) (hv : arr[k]? = some v) (w : World) :
    (Instr.index 123 (.agg arr) (.int .i64 k)).run Tryz.prog w = .ok v w := by
  obtain ⟨i, hi, hz⟩ := Option.map_eq_some_iff.1 size_u8
  simp only [Prod.mk.injEq] at hz
  have hn : (0 : Int) ≤ (k : Int) ∧ (k : Int) < 256 := by omega
  simp [Instr.index, run_underlying under256, asIntOf, hn, go_sem, sizeOf, typeInfo, hi, hz.1, part, isAgg_u8, hv]
  intro h; omega
end Go.Proofs.YtepgjaecfoaenaaGreatDoor

namespace Go.Proofs.YtepgjaecfoaenaaGreatDoor
open Go.RowKit
set_option linter.unusedVariables false
set_option linter.unusedSimpArgs false

/-- The cells of a node. -/
def nodeF (v : List UInt8) (p : Int) (pre : List UInt8) (nx tb : Value) : Nat → Value
  | 0 => .string (S v) | 1 => .int .i64 p | 2 => .string (S pre) | 3 => nx | 4 => tb | _ => default

def Node (w : World) (b : Nat) (v : List UInt8) (p : Int) (pre : List UInt8) (nx tb : Value) : Prop := w.rowIs b 146 5 (nodeF v p pre nx tb)

theorem Node.kept {w w' : World} {b : Nat} {v : List UInt8} {p : Int} {pre : List UInt8} {nx tb : Value} (h : Node w b v p pre nx tb) {row : Option Nat} (hg : w.grownBy w' row) (hne : some b ≠ row) : Node w' b v p pre nx tb :=
  World.rowIs.of_block h (hg.block b (World.rowIs.lt h) hne)
theorem Node.new (w : World) (v : List UInt8) (p : Int) (pre : List UInt8) (nx tb : Value) : Node (w.alloc (.cells #[.string (S v), .int .i64 p, .string (S pre), nx, tb] 146)) w.heap.size v p pre nx tb :=
  World.rowIs_alloc w #[.string (S v), .int .i64 p, .string (S pre), nx, tb] _ _ (fun i hi => by
    rcases (show i = 0 ∨ i = 1 ∨ i = 2 ∨ i = 3 ∨ i = 4 by simp at hi; omega) with rfl | rfl | rfl | rfl | rfl <;> rfl)
theorem Node.put {w : World} {b : Nat} {v v' : List UInt8} {p p' : Int} {pre pre' : List UInt8} {nx tb nx' tb' : Value} (h : Node w b v p pre nx tb) (i : Nat) (u : Value)
    (hf : ∀ j, j < 5 → (if j = i then u else nodeF v p pre nx tb j) = nodeF v' p' pre' nx' tb' j) : Node (w.setCell ⟨b, i, none⟩ u) b v' p' pre' nx' tb' :=
  World.rowIs.congr (World.rowIs.set h i u) hf
theorem five {P : Nat → Prop} (h0 : P 0) (h1 : P 1) (h2 : P 2) (h3 : P 3) (h4 : P 4) : ∀ j, j < 5 → P j := by
  intro j hj
  rcases (show j = 0 ∨ j = 1 ∨ j = 2 ∨ j = 3 ∨ j = 4 by omega) with rfl | rfl | rfl | rfl | rfl <;> assumption

set_option maxRecDepth 100000 in
set_option maxHeartbeats 1000000 in
theorem add_leaf (b : Nat) (val : List UInt8) (p : Int) (r : Value) (w : World) (h : Node w b [] 0 [] (.pointer none) (.slice none 0 0)) :
    Calls Tryz.prog 111 #[.pointer (some ⟨b, 0, none⟩), .string (S []), .string (S val), .int .i64 p, r] w fun e w' => e = .returned (.tuple #[]) ∧ w.grownBy w' (some b) ∧ Node w' b val p [] (.pointer none) (.slice none 0 0) := by
  have h0 : w.cell? ⟨b, 0, none⟩ = some (.string (S [])) := World.rowIs.cell h (by decide)
  have h1 : w.cell? ⟨b, 1, none⟩ = some (.int .i64 0) := World.rowIs.cell h (by decide)
  have fz : ∀ j, w.frozen? ⟨b, j, none⟩ = false := World.rowIs.frozen h
  have H := Lib.hid h; clear h
  go_enter Tryz.func111, Tryz.ntmps111
  go_wp2
  (try simp only [Exit.inBlock, Exit.then]); refine bodyPost_ret (results_none rfl _ _ _) rfl ?_
  refine ⟨rfl, (Lib.grownBy_setCell w b 0 _).trans (Lib.grownBy_setCell _ b 1 _), ?_⟩
  have k1 := Node.put (v' := val) (p' := 0) (pre' := []) (nx' := .pointer none) (tb' := .slice none 0 0) H.out 0 (.string (S val)) (five rfl rfl rfl rfl rfl)
  exact Node.put k1 1 (.int .i64 p) (five rfl rfl rfl rfl rfl)

set_option maxRecDepth 100000 in
set_option maxHeartbeats 1000000 in
theorem add_first (b : Nat) (c : UInt8) (val : List UInt8) (p : Int) (r : Value) (w : World) (h : Node w b [] 0 [] (.pointer none) (.slice none 0 0)) :
    Calls Tryz.prog 111 #[.pointer (some ⟨b, 0, none⟩), .string (S [c]), .string (S val), .int .i64 p, r] w fun e w' => e = .returned (.tuple #[]) ∧
      w.grownBy w' (some b) ∧ ∃ n, w.heap.size ≤ n ∧ Node w' b [] 0 [c] (.pointer (some ⟨n, 0, none⟩)) (.slice none 0 0) ∧ Node w' n val p [] (.pointer none) (.slice none 0 0) := by
  have h2 : w.cell? ⟨b, 2, none⟩ = some (.string (S [])) := World.rowIs.cell h (by decide)
  have h3 : w.cell? ⟨b, 3, none⟩ = some (.pointer none) := World.rowIs.cell h (by decide)
  have h4 : w.cell? ⟨b, 4, none⟩ = some (.slice none 0 0) := World.rowIs.cell h (by decide)
  have fz : ∀ j, w.frozen? ⟨b, j, none⟩ = false := World.rowIs.frozen h
  have hlt : b < w.heap.size := World.rowIs.lt h
  have H := Lib.hid h; clear h
  go_enter Tryz.func111, Tryz.ntmps111
  go_wp2_with fail
  have g1 := ((Lib.grownBy_setCell w b 2 (.string (S [c]))).trans (Lib.grownBy_setCell _ b 3 (.pointer (some ⟨w.heap.size, 0, none⟩))))
  have k1 := Node.put (v' := []) (p' := 0) (pre' := [c]) (nx' := .pointer none) (tb' := .slice none 0 0) H.out 2 (.string (S [c])) (five rfl rfl rfl rfl rfl)
  have k2 := Node.put (v' := []) (p' := 0) (pre' := [c]) (nx' := .pointer (some ⟨w.heap.size, 0, none⟩)) (tb' := .slice none 0 0) k1 3 (.pointer (some ⟨w.heap.size, 0, none⟩)) (five rfl rfl rfl rfl rfl)
  have k3 := Node.new ((w.setCell ⟨b, 2, none⟩ (.string (S [c]))).setCell ⟨b, 3, none⟩ (.pointer (some ⟨w.heap.size, 0, none⟩))) [] 0 [] (.pointer none) (.slice none 0 0)
  rw [show ((w.setCell ⟨b, 2, none⟩ (.string (S [c]))).setCell ⟨b, 3, none⟩ (.pointer (some ⟨w.heap.size, 0, none⟩))).heap.size = w.heap.size by simp [World.setCell]] at k3
  refine (add_leaf w.heap.size val p r _ k3).mono ?_
  rintro e w' ⟨rfl, hg, hn⟩
  have ga := World.grownBy_alloc ((w.setCell ⟨b, 2, none⟩ (.string (S [c]))).setCell ⟨b, 3, none⟩ (.pointer (some ⟨w.heap.size, 0, none⟩))) (.cells #[.string (S []), .int .i64 0, .string (S []), .pointer none, .slice none 0 0] 146) none
  have k4 := (k2.kept ga (by simp)).kept hg (by simp; omega)
  have g2 := (g1.andThen ga (by simp)).andThen hg (by intro j hj; injection hj with hj; exact .inl (by omega))
  have HR := Lib.hid (And.intro g2 (And.intro k4 hn))
  clear g1 k1 k2 k3 ga hg hn k4 g2
  go_wp2
  go_end0
  exact ⟨rfl, HR.out.1, w.heap.size, by omega, HR.out.2.1, HR.out.2.2⟩

end Go.Proofs.YtepgjaecfoaenaaGreatDoor

namespace Go.Proofs.YtepgjaecfoaenaaGreatDoor
open Go.RowKit
set_option linter.unusedVariables false
set_option linter.unusedSimpArgs false

def mapOf (k : Nat) : Int := if k = 34 then 0 else if k = 92 then 1 else if k = 110 then 2 else 3
/-- The cells of the genericReplacer of Unquote. -/
def genF (tb : Value) : Nat → Value
  | 0 => .string (S []) | 1 => .int .i64 0 | 2 => .string (S []) | 3 => .pointer none | 4 => tb | 5 => .int .i64 3 | j + 6 => .int .u8 (mapOf j)
def Gen (w : World) (R : Nat) (tb : Value) : Prop := w.rowIs R 148 262 (genF tb)
theorem Gen.kept {w w' : World} {R : Nat} {tb : Value} (h : Gen w R tb) {row : Option Nat} (hg : w.grownBy w' row) (hne : some R ≠ row) : Gen w' R tb :=
  World.rowIs.of_block h (hg.block R (World.rowIs.lt h) hne)
/-- A table of three nodes. -/
def tabF (x y z : Value) : Nat → Value | 0 => x | 1 => y | _ => z
def Tab (w : World) (t : Nat) (x y z : Value) : Prop := w.rowIs t 143 3 (tabF x y z)
theorem Tab.kept {w w' : World} {t : Nat} {x y z : Value} (h : Tab w t x y z) {row : Option Nat} (hg : w.grownBy w' row) (hne : some t ≠ row) : Tab w' t x y z :=
  World.rowIs.of_block h (hg.block t (World.rowIs.lt h) hne)
theorem Tab.put {w : World} {t : Nat} {x y z x' y' z' : Value} (h : Tab w t x y z) (i : Nat) (u : Value) (hf : ∀ j, j < 3 → (if j = i then u else tabF x y z j) = tabF x' y' z' j) : Tab (w.setCell ⟨t, i, none⟩ u) t x' y' z' :=
  World.rowIs.congr (World.rowIs.set h i u) hf
theorem Tab.new (w : World) (x y z : Value) : Tab (w.alloc (.cells #[x, y, z] 143)) w.heap.size x y z :=
  World.rowIs_alloc w #[x, y, z] _ _ (fun i hi => by
    rcases (show i = 0 ∨ i = 1 ∨ i = 2 by simp at hi; omega) with rfl | rfl | rfl <;> rfl)
theorem Node.drew {w : World} {b : Nat} {v : List UInt8} {p : Int} {pre : List UInt8} {nx tb : Value} (h : Node w b v p pre nx tb) : Node w.drew b v p pre nx tb := h
theorem Tab.drew {w : World} {t : Nat} {x y z : Value} (h : Tab w t x y z) : Tab w.drew t x y z := h
theorem grown_drew (w : World) (row : Option Nat) : w.grownBy w.drew row := ⟨rfl, rfl, rfl, Nat.le_refl _, fun _ _ _ => rfl⟩
theorem grown_but {a c : World} (h : a.grownBy c none) (row : Option Nat) : a.grownBy c row := ⟨h.os, h.tape, h.output, h.size, fun i hi _ => h.block i hi (by simp)⟩
theorem grown_new {a b c : World} {row : Option Nat} {k : Nat} (h : a.grownBy b row) (g : b.grownBy c (some k)) (hk : a.heap.size ≤ k) : a.grownBy c row := h.andThen g (by intro j hj; injection hj with hj; exact .inl (by omega))
theorem three {P : Nat → Prop} (h0 : P 0) (h1 : P 1) (h2 : P 2) : ∀ j, j < 3 → P j := by
  intro j hj
  rcases (show j = 0 ∨ j = 1 ∨ j = 2 by omega) with rfl | rfl | rfl <;> assumption

@[go_sem high] theorem makeNodes (w : World) : (Instr.makeSlice 144 (.int .i64 3) (.int .i64 3)).run Tryz.prog w = .ok (.slice (some ⟨w.heap.size, 0, none⟩) 3 3) (w.alloc (.cells #[.pointer none, .pointer none, .pointer none] 143)) := by kernel_rfl

set_option maxRecDepth 100000 in
set_option maxHeartbeats 1000000 in
theorem add_split (b n R : Nat) (tb : Value) (val : List UInt8) (p : Int) (w : World) (h : Node w b [] 0 [110] (.pointer (some ⟨n, 0, none⟩)) (.slice none 0 0)) (hR : Gen w R tb) (hne : R ≠ b) :
    Calls Tryz.prog 111 #[.pointer (some ⟨b, 0, none⟩), .string (S [34]), .string (S val), .int .i64 p, .pointer (some ⟨R, 0, none⟩)] w fun e w' => e = .returned (.tuple #[]) ∧
      w.grownBy w' (some b) ∧ ∃ t m, w.heap.size ≤ t ∧ w.heap.size ≤ m ∧ m ≠ t ∧ Node w' b [] 0 [] (.pointer none) (.slice (some ⟨t, 0, none⟩) 3 3) ∧ Tab w' t (.pointer (some ⟨m, 0, none⟩)) (.pointer none) (.pointer (some ⟨n, 0, none⟩)) ∧ Node w' m val p [] (.pointer none) (.slice none 0 0) := by
  have h2 : w.cell? ⟨b, 2, none⟩ = some (.string (S [110])) := World.rowIs.cell h (by decide)
  have h3 : w.cell? ⟨b, 3, none⟩ = some (.pointer (some ⟨n, 0, none⟩)) := World.rowIs.cell h (by decide)
  have h4 : w.cell? ⟨b, 4, none⟩ = some (.slice none 0 0) := World.rowIs.cell h (by decide)
  have fz : ∀ j, w.frozen? ⟨b, j, none⟩ = false := World.rowIs.frozen h
  have r5 : w.cell? ⟨R, 5, none⟩ = some (.int .i64 3) := World.rowIs.cell hR (by decide)
  have r34 : w.cell? ⟨R, 40, none⟩ = some (.int .u8 0) := World.rowIs.cell hR (by decide)
  have r110 : w.cell? ⟨R, 116, none⟩ = some (.int .u8 2) := World.rowIs.cell hR (by decide)
  have hlt : b < w.heap.size := World.rowIs.lt h
  have hRlt : R < w.heap.size := World.rowIs.lt hR
  have H := Lib.hid h; have HR := Lib.hid hR; clear h hR
  go_enter Tryz.func111, Tryz.ntmps111
  go_wp2_with fail
  refine wp_loop_rounds 1 ?_
  rw [rounds_succ]
  go_wp2_with fail
  go_quiet (fail)
  obtain ⟨wq, hwq⟩ : ∃ wq, wq = w.drewN nq := ⟨_, rfl⟩
  rw [← hwq]
  have gq : w.grownBy wq none := by rw [hwq]; exact ⟨rfl, rfl, rfl, Nat.le_refl _, fun _ _ _ => rfl⟩
  have hsz : wq.heap.size = w.heap.size := by rw [hwq]; rfl
  have kq := H.out.kept gq (by simp)
  have KR := Lib.hid (HR.out.kept gq (by simp))
  clear hwq h2 h3 h4 fz r5 r34 r110 H HR
  have h2 : wq.cell? ⟨b, 2, none⟩ = some (.string (S [110])) := World.rowIs.cell kq (by decide)
  have h3 : wq.cell? ⟨b, 3, none⟩ = some (.pointer (some ⟨n, 0, none⟩)) := World.rowIs.cell kq (by decide)
  have h4 : wq.cell? ⟨b, 4, none⟩ = some (.slice none 0 0) := World.rowIs.cell kq (by decide)
  have fz : ∀ j, wq.frozen? ⟨b, j, none⟩ = false := World.rowIs.frozen kq
  have r5 : wq.cell? ⟨R, 5, none⟩ = some (.int .i64 3) := World.rowIs.cell KR.out (by decide)
  have r34 : wq.cell? ⟨R, 40, none⟩ = some (.int .u8 0) := World.rowIs.cell KR.out (by decide)
  have r110 : wq.cell? ⟨R, 116, none⟩ = some (.int .u8 2) := World.rowIs.cell KR.out (by decide)
  have H := Lib.hid kq; clear kq
  go_wp2_with fail
  obtain ⟨w3, hw3⟩ : ∃ w3, w3 = (((wq.setCell ⟨b, 4, none⟩ (.slice (some ⟨w.heap.size + 1, 0, none⟩) 3 3)).alloc (.cells #[.string ⟨#[]⟩, .int .i64 0, .string ⟨#[]⟩, .pointer none, .slice none 0 0] 146)).alloc (.cells #[.pointer none, .pointer none, .pointer none] 143)) := ⟨_, rfl⟩
  rw [← hw3]
  have s1 : (wq.setCell ⟨b, 4, none⟩ (.slice (some ⟨w.heap.size + 1, 0, none⟩) 3 3)).heap.size = w.heap.size := by simp [World.setCell, hsz]
  have a1 := Node.put (v' := []) (p' := 0) (pre' := [110]) (nx' := .pointer (some ⟨n, 0, none⟩)) (tb' := .slice (some ⟨w.heap.size + 1, 0, none⟩) 3 3) H.out 4 (.slice (some ⟨w.heap.size + 1, 0, none⟩) 3 3) (five rfl rfl rfl rfl rfl)
  have a2 := Node.new (wq.setCell ⟨b, 4, none⟩ (.slice (some ⟨w.heap.size + 1, 0, none⟩) 3 3)) [] 0 [] (.pointer none) (.slice none 0 0)
  have a3 := Tab.new ((wq.setCell ⟨b, 4, none⟩ (.slice (some ⟨w.heap.size + 1, 0, none⟩) 3 3)).alloc (.cells #[.string ⟨#[]⟩, .int .i64 0, .string ⟨#[]⟩, .pointer none, .slice none 0 0] 146)) (.pointer none) (.pointer none) (.pointer none)
  have e1 : wq.grownBy w3 (some b) := by
    rw [hw3]; exact ((Lib.grownBy_setCell wq b 4 _).trans (World.grownBy_alloc _ _ _)).trans (World.grownBy_alloc _ _ _)
  have e2 : (wq.setCell ⟨b, 4, none⟩ (.slice (some ⟨w.heap.size + 1, 0, none⟩) 3 3)).grownBy w3 none := by
    rw [hw3]; exact (World.grownBy_alloc _ _ _).trans (World.grownBy_alloc _ _ _)
  have k1 := a1.kept e2 (by simp)
  rw [s1] at a2
  have k2 := a2.kept (w' := w3) (row := none) (by rw [hw3]; exact World.grownBy_alloc _ _ _) (by simp)
  rw [World.size_alloc, s1, ← hw3] at a3
  have kR := KR.out.kept e1 (by simp; omega)
  have g3 := (grown_but gq (some b)).trans e1
  have sz3 : w3.heap.size = w.heap.size + 2 := by rw [hw3, World.size_alloc, World.size_alloc, s1]
  clear a1 a2 e1 e2 s1 hw3 h2 h3 h4 fz r5 r34 r110 H gq
  have h2 : w3.drew.cell? ⟨b, 2, none⟩ = some (.string (S [110])) := World.rowIs.cell k1 (by decide)
  have h4 : w3.drew.cell? ⟨b, 4, none⟩ = some (.slice (some ⟨w.heap.size + 1, 0, none⟩) 3 3) := World.rowIs.cell k1 (by decide)
  have r110 : w3.drew.cell? ⟨R, 116, none⟩ = some (.int .u8 2) := World.rowIs.cell kR (by decide)
  have t2 : w3.drew.cell? ⟨w.heap.size + 1, 2, none⟩ = some (.pointer none) := World.rowIs.cell a3 (by decide)
  have fz : ∀ j, w3.drew.frozen? ⟨w.heap.size + 1, j, none⟩ = false := World.rowIs.frozen a3
  have H1 := Lib.hid k1; have H2 := Lib.hid k2; have H3 := Lib.hid a3; have H4 := Lib.hid kR
  clear k1 k2 a3 kR
  go_still_tail 16, (by kernel_rfl)
  change wpList _ _ _ _ _ (World.drew _)
  go_wp2
  obtain ⟨w4, hw4⟩ : ∃ w4, w4 = (w3.setCell ⟨w.heap.size + 1, 2, none⟩ (.pointer (some ⟨n, 0, none⟩))).drew := ⟨_, rfl⟩
  rw [← hw4]
  have e4 : w3.grownBy w4 (some (w.heap.size + 1)) := by rw [hw4]; exact (Lib.grownBy_setCell w3 _ 2 _).trans (grown_drew _ _)
  have c1 := H1.out.kept e4 (by simp; omega)
  have c2 := H2.out.kept e4 (by simp)
  have c3 : Tab w4 (w.heap.size + 1) (.pointer none) (.pointer none) (.pointer (some ⟨n, 0, none⟩)) := by rw [hw4]; exact Tab.put H3.out 2 (.pointer (some ⟨n, 0, none⟩)) (three rfl rfl rfl)
  have c4 := H4.out.kept e4 (by simp; omega)
  have g4 := grown_new g3 e4 (by omega)
  have sz4 : w4.heap.size = w.heap.size + 2 := by rw [hw4]; simpa [World.setCell] using sz3
  clear hw4 e4 h2 h4 r110 t2 fz H1 H2 H3 H4 g3 sz3
  have h2 : w4.drew.cell? ⟨b, 2, none⟩ = some (.string (S [110])) := World.rowIs.cell c1 (by decide)
  have h3 : w4.drew.cell? ⟨b, 3, none⟩ = some (.pointer (some ⟨n, 0, none⟩)) := World.rowIs.cell c1 (by decide)
  have h4 : w4.drew.cell? ⟨b, 4, none⟩ = some (.slice (some ⟨w.heap.size + 1, 0, none⟩) 3 3) := World.rowIs.cell c1 (by decide)
  have r34 : w4.drew.cell? ⟨R, 40, none⟩ = some (.int .u8 0) := World.rowIs.cell c4 (by decide)
  have t0 : w4.drew.cell? ⟨w.heap.size + 1, 0, none⟩ = some (.pointer none) := World.rowIs.cell c3 (by decide)
  have fz : ∀ j, w4.drew.frozen? ⟨w.heap.size + 1, j, none⟩ = false := World.rowIs.frozen c3
  have fb : ∀ j, w4.drew.frozen? ⟨b, j, none⟩ = false := World.rowIs.frozen c1
  have H1 := Lib.hid c1; have H2 := Lib.hid c2; have H3 := Lib.hid c3; have H4 := Lib.hid c4
  clear c1 c2 c3 c4
  have n2 : w4.cell? ⟨b, 2, none⟩ = some (.string (S [110])) := h2
  have n3 : w4.cell? ⟨b, 3, none⟩ = some (.pointer (some ⟨n, 0, none⟩)) := h3
  have nf : ∀ j, w4.frozen? ⟨b, j, none⟩ = false := fb
  have hbt : b ≠ w.heap.size + 1 := by omega
  have hbt' : w.heap.size + 1 ≠ b := by omega
  go_still_tail 13, (by kernel_rfl)
  change wpList _ _ _ _ _ (World.drew _)
  go_wp2_with fail
  have q1 := Lib.grownBy_setCell w4 (w.heap.size + 1) 0 (.pointer (some ⟨w.heap.size, 0, none⟩))
  have q2 := Lib.grownBy_setCell (w4.setCell ⟨w.heap.size + 1, 0, none⟩ (.pointer (some ⟨w.heap.size, 0, none⟩))) b 2 (.string ⟨#[]⟩)
  have q3 := Lib.grownBy_setCell ((w4.setCell ⟨w.heap.size + 1, 0, none⟩ (.pointer (some ⟨w.heap.size, 0, none⟩))).setCell ⟨b, 2, none⟩ (.string ⟨#[]⟩)) b 3 (.pointer none)
  have d0 := H1.out.kept q1 (by simp; omega)
  have d1 := Node.put (v' := []) (p' := 0) (pre' := []) (nx' := .pointer (some ⟨n, 0, none⟩)) (tb' := .slice (some ⟨w.heap.size + 1, 0, none⟩) 3 3) d0 2 (.string (S [])) (five rfl rfl rfl rfl rfl)
  have d2 := Node.put (v' := []) (p' := 0) (pre' := []) (nx' := .pointer none) (tb' := .slice (some ⟨w.heap.size + 1, 0, none⟩) 3 3) d1 3 (.pointer none) (five rfl rfl rfl rfl rfl)
  have d3 := Tab.put (x' := .pointer (some ⟨w.heap.size, 0, none⟩)) (y' := .pointer none) (z' := .pointer (some ⟨n, 0, none⟩)) H3.out 0 (.pointer (some ⟨w.heap.size, 0, none⟩)) (three rfl rfl rfl)
  have d4 := (d3.kept q2 (by simp; omega)).kept q3 (by simp; omega)
  have d5 := ((H2.out.kept q1 (by simp)).kept q2 (by simp; omega)).kept q3 (by simp; omega)
  have g5 := ((((grown_new g4 q1 (by omega)).trans q2).trans q3).trans (grown_drew _ _))
  have d2' := d2.drew
  have d5' := d5.drew
  have d4' := d4.drew
  refine (add_leaf w.heap.size val p _ _ d5').mono ?_
  rintro e w' ⟨rfl, hg, hn⟩
  have f1 := d2'.kept hg (by simp; omega)
  have f2 := d4'.kept hg (by simp)
  have g6 := grown_new g5 hg (by omega)
  have HZ := Lib.hid (And.intro g6 (And.intro f1 (And.intro f2 hn)))
  clear q1 q2 q3 d0 d1 d2 d3 d4 d5 d2' d5' d4' g5 f1 f2 g6 hg hn
  go_wp2
  go_end0
  exact ⟨rfl, HZ.out.1, w.heap.size + 1, w.heap.size, by omega, by omega, by omega, HZ.out.2.1, HZ.out.2.2.1, HZ.out.2.2.2⟩

end Go.Proofs.YtepgjaecfoaenaaGreatDoor

namespace Go.Proofs.YtepgjaecfoaenaaGreatDoor
open Go.RowKit
set_option linter.unusedVariables false
set_option linter.unusedSimpArgs false

set_option maxRecDepth 100000 in
set_option maxHeartbeats 1000000 in
theorem add_table (b t R : Nat) (x z tb : Value) (val : List UInt8) (p : Int) (w : World) (h : Node w b [] 0 [] (.pointer none) (.slice (some ⟨t, 0, none⟩) 3 3)) (ht : Tab w t x (.pointer none) z) (hR : Gen w R tb) (hne : b ≠ t) (hRt : R ≠ t) :
    Calls Tryz.prog 111 #[.pointer (some ⟨b, 0, none⟩), .string (S [92]), .string (S val), .int .i64 p, .pointer (some ⟨R, 0, none⟩)] w fun e w' => e = .returned (.tuple #[]) ∧
      w.grownBy w' (some t) ∧ ∃ m, w.heap.size ≤ m ∧ Tab w' t x (.pointer (some ⟨m, 0, none⟩)) z ∧ Node w' m val p [] (.pointer none) (.slice none 0 0) := by
  have h2 : w.cell? ⟨b, 2, none⟩ = some (.string (S [])) := World.rowIs.cell h (by decide)
  have h4 : w.cell? ⟨b, 4, none⟩ = some (.slice (some ⟨t, 0, none⟩) 3 3) := World.rowIs.cell h (by decide)
  have t1 : w.cell? ⟨t, 1, none⟩ = some (.pointer none) := World.rowIs.cell ht (by decide)
  have fz : ∀ j, w.frozen? ⟨t, j, none⟩ = false := World.rowIs.frozen ht
  have r92 : w.cell? ⟨R, 98, none⟩ = some (.int .u8 1) := World.rowIs.cell hR (by decide)
  have hlt : b < w.heap.size := World.rowIs.lt h
  have htlt : t < w.heap.size := World.rowIs.lt ht
  have hRlt : R < w.heap.size := World.rowIs.lt hR
  have H := Lib.hid h; have HR := Lib.hid hR; have HT := Lib.hid ht; clear h hR ht
  have hbt' : t ≠ b := fun e => hne e.symm
  go_enter Tryz.func111, Tryz.ntmps111
  go_wp2_with fail
  go_quiet (fail)
  obtain ⟨wq, hwq⟩ : ∃ wq, wq = w.drewN nq := ⟨_, rfl⟩
  rw [← hwq]
  have e0 : w.grownBy wq none := by rw [hwq]; exact ⟨rfl, rfl, rfl, Nat.le_refl _, fun _ _ _ => rfl⟩
  have hsz : wq.heap.size = w.heap.size := by rw [hwq]; rfl
  have j1 := H.out.kept e0 (by simp)
  have j2 := HT.out.kept e0 (by simp)
  clear hwq h2 h4 t1 fz r92 H HT HR
  have h4 : wq.cell? ⟨b, 4, none⟩ = some (.slice (some ⟨t, 0, none⟩) 3 3) := World.rowIs.cell j1 (by decide)
  have t1 : wq.cell? ⟨t, 1, none⟩ = some (.pointer none) := World.rowIs.cell j2 (by decide)
  have fz : ∀ j, wq.frozen? ⟨t, j, none⟩ = false := World.rowIs.frozen j2
  have H := Lib.hid j1; have HT := Lib.hid j2; clear j1 j2
  go_wp2_with fail
  obtain ⟨w3, hw3⟩ : ∃ w3, w3 = ((wq.setCell ⟨t, 1, none⟩ (.pointer (some ⟨w.heap.size, 0, none⟩))).alloc (.cells #[.string ⟨#[]⟩, .int .i64 0, .string ⟨#[]⟩, .pointer none, .slice none 0 0] 146)) := ⟨_, rfl⟩
  rw [← hw3]
  have s1 : (wq.setCell ⟨t, 1, none⟩ (.pointer (some ⟨w.heap.size, 0, none⟩))).heap.size = w.heap.size := by simp [World.setCell, hsz]
  have e1 := World.grownBy_alloc (wq.setCell ⟨t, 1, none⟩ (.pointer (some ⟨w.heap.size, 0, none⟩))) (.cells #[.string ⟨#[]⟩, .int .i64 0, .string ⟨#[]⟩, .pointer none, .slice none 0 0] 146) none
  have e2 := Lib.grownBy_setCell wq t 1 (.pointer (some ⟨w.heap.size, 0, none⟩))
  have k1 := (H.out.kept e2 (by simp; omega)).kept e1 (by simp)
  have k2 := (Tab.put (x' := x) (y' := .pointer (some ⟨w.heap.size, 0, none⟩)) (z' := z) HT.out 1 (.pointer (some ⟨w.heap.size, 0, none⟩)) (three rfl rfl rfl)).kept e1 (by simp)
  have k3 := Node.new (wq.setCell ⟨t, 1, none⟩ (.pointer (some ⟨w.heap.size, 0, none⟩))) [] 0 [] (.pointer none) (.slice none 0 0)
  have g3 := ((grown_but e0 (some t)).trans e2).trans (grown_but e1 (some t))
  rw [s1] at k3
  have k1' : Node w3 b [] 0 [] (.pointer none) (.slice (some ⟨t, 0, none⟩) 3 3) := by rw [hw3]; exact k1
  have k2' : Tab w3 t x (.pointer (some ⟨w.heap.size, 0, none⟩)) z := by rw [hw3]; exact k2
  have k3' : Node w3 w.heap.size [] 0 [] (.pointer none) (.slice none 0 0) := by rw [hw3]; exact k3
  rw [← hw3] at g3
  have sz3 : w3.heap.size = w.heap.size + 1 := by rw [hw3, World.size_alloc, s1]
  have h4' : w3.drew.cell? ⟨b, 4, none⟩ = some (.slice (some ⟨t, 0, none⟩) 3 3) := World.rowIs.cell k1' (by decide)
  have t1' : w3.drew.cell? ⟨t, 1, none⟩ = some (.pointer (some ⟨w.heap.size, 0, none⟩)) := World.rowIs.cell k2' (by decide)
  have H1 := Lib.hid k1'; have H2 := Lib.hid k2'; have H3 := Lib.hid k3'
  clear h4 t1 fz H HT hw3 e0 e1 e2 k1 k2 k3 k1' k2' k3'
  go_still_tail 12, (by kernel_rfl)
  change wpList _ _ _ _ _ (World.drew _)
  go_wp2_with fail
  refine (add_leaf w.heap.size val p _ _ H3.out.drew).mono ?_
  rintro e w' ⟨rfl, hg, hn⟩
  have f2 := H2.out.drew.kept hg (by simp; omega)
  have g6 := grown_new (g3.trans (grown_drew _ _)) hg (by omega)
  have HZ := Lib.hid (And.intro g6 (And.intro f2 hn))
  clear f2 g6 hg hn g3
  go_wp2
  go_end0
  exact ⟨rfl, HZ.out.1, w.heap.size, by omega, HZ.out.2.1, HZ.out.2.2⟩

end Go.Proofs.YtepgjaecfoaenaaGreatDoor

namespace Go.Proofs.YtepgjaecfoaenaaGreatDoor
open Go.RowKit
set_option linter.unusedVariables false
set_option linter.unusedSimpArgs false

set_option maxRecDepth 100000 in
set_option maxHeartbeats 1000000 in
theorem root_new (t R : Nat) (x z : Value) (c : UInt8) (val : List UInt8) (p : Int) (w : World) (ht : Tab w t x (.pointer none) z) (hR : Gen w R (.slice (some ⟨t, 0, none⟩) 3 3)) (hRt : R ≠ t) :
    Calls Tryz.prog 111 #[.pointer (some ⟨R, 0, none⟩), .string (S [92, c]), .string (S val), .int .i64 p, .pointer (some ⟨R, 0, none⟩)] w fun e w' => e = .returned (.tuple #[]) ∧
      w.grownBy w' (some t) ∧ ∃ m n, w.heap.size ≤ m ∧ w.heap.size ≤ n ∧ m ≠ n ∧ Tab w' t x (.pointer (some ⟨m, 0, none⟩)) z ∧ Node w' m [] 0 [c] (.pointer (some ⟨n, 0, none⟩)) (.slice none 0 0) ∧ Node w' n val p [] (.pointer none) (.slice none 0 0) := by
  have h2 : w.cell? ⟨R, 2, none⟩ = some (.string (S [])) := World.rowIs.cell hR (by decide)
  have h4 : w.cell? ⟨R, 4, none⟩ = some (.slice (some ⟨t, 0, none⟩) 3 3) := World.rowIs.cell hR (by decide)
  have t1 : w.cell? ⟨t, 1, none⟩ = some (.pointer none) := World.rowIs.cell ht (by decide)
  have fz : ∀ j, w.frozen? ⟨t, j, none⟩ = false := World.rowIs.frozen ht
  have r92 : w.cell? ⟨R, 98, none⟩ = some (.int .u8 1) := World.rowIs.cell hR (by decide)
  have htlt : t < w.heap.size := World.rowIs.lt ht
  have hRlt : R < w.heap.size := World.rowIs.lt hR
  have HR := Lib.hid hR; have HT := Lib.hid ht; clear hR ht
  have hbt' : t ≠ R := fun e => hRt e.symm
  go_enter Tryz.func111, Tryz.ntmps111
  go_wp2_with fail
  go_quiet (fail)
  obtain ⟨wq, hwq⟩ : ∃ wq, wq = w.drewN nq := ⟨_, rfl⟩
  rw [← hwq]
  have e0 : w.grownBy wq none := by rw [hwq]; exact ⟨rfl, rfl, rfl, Nat.le_refl _, fun _ _ _ => rfl⟩
  have hsz : wq.heap.size = w.heap.size := by rw [hwq]; rfl
  have j1 := HR.out.kept e0 (by simp)
  have j2 := HT.out.kept e0 (by simp)
  clear hwq h2 h4 t1 fz r92 HT HR
  have h4 : wq.cell? ⟨R, 4, none⟩ = some (.slice (some ⟨t, 0, none⟩) 3 3) := World.rowIs.cell j1 (by decide)
  have t1 : wq.cell? ⟨t, 1, none⟩ = some (.pointer none) := World.rowIs.cell j2 (by decide)
  have fz : ∀ j, wq.frozen? ⟨t, j, none⟩ = false := World.rowIs.frozen j2
  have H := Lib.hid j1; have HT := Lib.hid j2; clear j1 j2
  go_wp2_with fail
  obtain ⟨w3, hw3⟩ : ∃ w3, w3 = ((wq.setCell ⟨t, 1, none⟩ (.pointer (some ⟨w.heap.size, 0, none⟩))).alloc (.cells #[.string ⟨#[]⟩, .int .i64 0, .string ⟨#[]⟩, .pointer none, .slice none 0 0] 146)) := ⟨_, rfl⟩
  rw [← hw3]
  have s1 : (wq.setCell ⟨t, 1, none⟩ (.pointer (some ⟨w.heap.size, 0, none⟩))).heap.size = w.heap.size := by simp [World.setCell, hsz]
  have e1 := World.grownBy_alloc (wq.setCell ⟨t, 1, none⟩ (.pointer (some ⟨w.heap.size, 0, none⟩))) (.cells #[.string ⟨#[]⟩, .int .i64 0, .string ⟨#[]⟩, .pointer none, .slice none 0 0] 146) none
  have e2 := Lib.grownBy_setCell wq t 1 (.pointer (some ⟨w.heap.size, 0, none⟩))
  have k1 := (H.out.kept e2 (by simp; omega)).kept e1 (by simp)
  have k2 := (Tab.put (x' := x) (y' := .pointer (some ⟨w.heap.size, 0, none⟩)) (z' := z) HT.out 1 (.pointer (some ⟨w.heap.size, 0, none⟩)) (three rfl rfl rfl)).kept e1 (by simp)
  have k3 := Node.new (wq.setCell ⟨t, 1, none⟩ (.pointer (some ⟨w.heap.size, 0, none⟩))) [] 0 [] (.pointer none) (.slice none 0 0)
  have g3 := ((grown_but e0 (some t)).trans e2).trans (grown_but e1 (some t))
  rw [s1] at k3
  have k1' : Gen w3 R (.slice (some ⟨t, 0, none⟩) 3 3) := by rw [hw3]; exact k1
  have k2' : Tab w3 t x (.pointer (some ⟨w.heap.size, 0, none⟩)) z := by rw [hw3]; exact k2
  have k3' : Node w3 w.heap.size [] 0 [] (.pointer none) (.slice none 0 0) := by rw [hw3]; exact k3
  rw [← hw3] at g3
  have sz3 : w3.heap.size = w.heap.size + 1 := by rw [hw3, World.size_alloc, s1]
  have h4' : w3.drew.cell? ⟨R, 4, none⟩ = some (.slice (some ⟨t, 0, none⟩) 3 3) := World.rowIs.cell k1' (by decide)
  have t1' : w3.drew.cell? ⟨t, 1, none⟩ = some (.pointer (some ⟨w.heap.size, 0, none⟩)) := World.rowIs.cell k2' (by decide)
  have H1 := Lib.hid k1'; have H2 := Lib.hid k2'; have H3 := Lib.hid k3'
  clear h4 t1 fz H HT hw3 e0 e1 e2 k1 k2 k3 k1' k2' k3'
  go_still_tail 12, (by kernel_rfl)
  change wpList _ _ _ _ _ (World.drew _)
  go_wp2_with fail
  refine (add_first w.heap.size c val p _ _ H3.out.drew).mono ?_
  rintro e w' ⟨rfl, hg, n, hn, hn1, hn2⟩
  have hn' : w.heap.size + 1 ≤ n := by rw [← sz3]; exact hn
  have f2 := H2.out.drew.kept hg (by simp; omega)
  have g6 := grown_new (g3.trans (grown_drew _ _)) hg (by omega)
  have HZ := Lib.hid (And.intro g6 (And.intro f2 (And.intro hn1 hn2)))
  clear f2 g6 hg hn hn1 hn2 g3
  go_wp2
  go_end0
  exact ⟨rfl, HZ.out.1, w.heap.size, n, by omega, by omega, by omega, HZ.out.2.1, HZ.out.2.2.1, HZ.out.2.2.2⟩

set_option maxRecDepth 100000 in
set_option maxHeartbeats 1000000 in
theorem root_old (t R n : Nat) (x z : Value) (c : UInt8) (val : List UInt8) (p : Int) (w : World) (Q : World → Prop) (ht : Tab w t x (.pointer (some ⟨n, 0, none⟩)) z) (hR : Gen w R (.slice (some ⟨t, 0, none⟩) 3 3)) (hRt : R ≠ t)
    (HC : ∀ wq, w.grownBy wq none → wq.heap.size = w.heap.size → Calls Tryz.prog 111 #[.pointer (some ⟨n, 0, none⟩), .string (S [c]), .string (S val), .int .i64 p, .pointer (some ⟨R, 0, none⟩)] wq fun e w' => e = .returned (.tuple #[]) ∧ Q w') :
    Calls Tryz.prog 111 #[.pointer (some ⟨R, 0, none⟩), .string (S [92, c]), .string (S val), .int .i64 p, .pointer (some ⟨R, 0, none⟩)] w fun e w' => e = .returned (.tuple #[]) ∧ Q w' := by
  have h2 : w.cell? ⟨R, 2, none⟩ = some (.string (S [])) := World.rowIs.cell hR (by decide)
  have h4 : w.cell? ⟨R, 4, none⟩ = some (.slice (some ⟨t, 0, none⟩) 3 3) := World.rowIs.cell hR (by decide)
  have t1 : w.cell? ⟨t, 1, none⟩ = some (.pointer (some ⟨n, 0, none⟩)) := World.rowIs.cell ht (by decide)
  have r92 : w.cell? ⟨R, 98, none⟩ = some (.int .u8 1) := World.rowIs.cell hR (by decide)
  have HH := Lib.hid HC; clear hR ht HC
  go_enter Tryz.func111, Tryz.ntmps111
  go_wp2_with fail
  go_quiet (fail)
  obtain ⟨wq, hwq⟩ : ∃ wq, wq = w.drewN nq := ⟨_, rfl⟩
  rw [← hwq]
  have e0 : w.grownBy wq.drew none := by rw [hwq]; exact ⟨rfl, rfl, rfl, Nat.le_refl _, fun _ _ _ => rfl⟩
  have hsz : wq.drew.heap.size = w.heap.size := by rw [hwq]; rfl
  have h4' : wq.cell? ⟨R, 4, none⟩ = some (.slice (some ⟨t, 0, none⟩) 3 3) := by rw [hwq]; exact h4
  have t1' : wq.cell? ⟨t, 1, none⟩ = some (.pointer (some ⟨n, 0, none⟩)) := by rw [hwq]; exact t1
  have HC := Lib.hid (HH.out wq.drew e0 hsz)
  clear hwq h2 h4 t1 r92 e0 hsz HH
  go_wp2_with fail
  have h4 : wq.drew.cell? ⟨R, 4, none⟩ = some (.slice (some ⟨t, 0, none⟩) 3 3) := h4'
  have t1 : wq.drew.cell? ⟨t, 1, none⟩ = some (.pointer (some ⟨n, 0, none⟩)) := t1'
  clear h4' t1'
  go_still_tail 12, (by kernel_rfl)
  change wpList _ _ _ _ _ (World.drew _)
  go_wp2_with fail
  refine HC.out.mono ?_
  rintro e w' ⟨rfl, hq⟩
  have HQ := Lib.hid hq; clear hq
  go_wp2
  go_end0
  exact ⟨rfl, HQ.out⟩

end Go.Proofs.YtepgjaecfoaenaaGreatDoor
