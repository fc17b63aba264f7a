/- The walk of trieNode's add at the pairs of Unquote: the split of a node, a node with a table, the root. -/
import Derived.Test.YtepgjaecfoaenaaGreatDoorG1
import Derived.Deep.QuietTactic
import Derived.StillTailTactics
namespace Go.Proofs.YtepgjaecfoaenaaGreatDoor
open Go.RowKit
set_option linter.unusedVariables false
set_option linter.unusedSimpArgs false

def mapOf (k : Nat) : Int := if k = 34 then 0 else if k = 92 then 1 else if k = 110 then 2 else 3
/-- The cells of the genericReplacer of Unquote. -/
def genF (tb : Value) : Nat → Value
  | 0 => .string (S []) | 1 => .int .i64 0 | 2 => .string (S []) | 3 => .pointer none | 4 => tb | 5 => .int .i64 3 | j + 6 => .int .u8 (mapOf j)
def Gen (w : World) (R : Nat) (tb : Value) : Prop := w.rowIs R 148 262 (genF tb)
theorem Gen.kept {w w' : World} {R : Nat} {tb : Value} (h : Gen w R tb) {row : Option Nat} (hg : w.grownBy w' row) (hne : some R ≠ row) : Gen w' R tb :=
  World.rowIs.of_block h (hg.block R (World.rowIs.lt h) hne)
/-- A table of three nodes. -/
def tabF (x y z : Value) : Nat → Value | 0 => x | 1 => y | _ => z
def Tab (w : World) (t : Nat) (x y z : Value) : Prop := w.rowIs t 143 3 (tabF x y z)
theorem Tab.kept {w w' : World} {t : Nat} {x y z : Value} (h : Tab w t x y z) {row : Option Nat} (hg : w.grownBy w' row) (hne : some t ≠ row) : Tab w' t x y z :=
  World.rowIs.of_block h (hg.block t (World.rowIs.lt h) hne)
theorem Tab.put {w : World} {t : Nat} {x y z x' y' z' : Value} (h : Tab w t x y z) (i : Nat) (u : Value) (hf : ∀ j, j < 3 → (if j = i then u else tabF x y z j) = tabF x' y' z' j) : Tab (w.setCell ⟨t, i, none⟩ u) t x' y' z' :=
  World.rowIs.congr (World.rowIs.set h i u) hf
theorem Tab.new (w : World) (x y z : Value) : Tab (w.alloc (.cells #[x, y, z] 143)) w.heap.size x y z :=
  World.rowIs_alloc w #[x, y, z] _ _ (fun i hi => by
    rcases (show i = 0 ∨ i = 1 ∨ i = 2 by simp at hi; omega) with rfl | rfl | rfl <;> rfl)
theorem Node.drew {w : World} {b : Nat} {v : List UInt8} {p : Int} {pre : List UInt8} {nx tb : Value} (h : Node w b v p pre nx tb) : Node w.drew b v p pre nx tb := h
theorem Tab.drew {w : World} {t : Nat} {x y z : Value} (h : Tab w t x y z) : Tab w.drew t x y z := h
theorem grown_drew (w : World) (row : Option Nat) : w.grownBy w.drew row := ⟨rfl, rfl, rfl, Nat.le_refl _, fun _ _ _ => rfl⟩
theorem grown_but {a c : World} (h : a.grownBy c none) (row : Option Nat) : a.grownBy c row := ⟨h.os, h.tape, h.output, h.size, fun i hi _ => h.block i hi (by simp)⟩
theorem grown_new {a b c : World} {row : Option Nat} {k : Nat} (h : a.grownBy b row) (g : b.grownBy c (some k)) (hk : a.heap.size ≤ k) : a.grownBy c row := h.andThen g (by intro j hj; injection hj with hj; exact .inl (by omega))
theorem three {P : Nat → Prop} (h0 : P 0) (h1 : P 1) (h2 : P 2) : ∀ j, j < 3 → P j := by
  intro j hj
  rcases (show j = 0 ∨ j = 1 ∨ j = 2 by omega) with rfl | rfl | rfl <;> assumption

@[go_sem high] theorem makeNodes (w : World) : (Instr.makeSlice 144 (.int .i64 3) (.int .i64 3)).run Tryz.prog w = .ok (.slice (some ⟨w.heap.size, 0, none⟩) 3 3) (w.alloc (.cells #[.pointer none, .pointer none, .pointer none] 143)) := by kernel_rfl

set_option maxRecDepth 100000 in
set_option maxHeartbeats 1000000 in
theorem add_split (b n R : Nat) (tb : Value) (val : List UInt8) (p : Int) (w : World) (h : Node w b [] 0 [110] (.pointer (some ⟨n, 0, none⟩)) (.slice none 0 0)) (hR : Gen w R tb) (hne : R ≠ b) :
    Calls Tryz.prog 111 #[.pointer (some ⟨b, 0, none⟩), .string (S [34]), .string (S val), .int .i64 p, .pointer (some ⟨R, 0, none⟩)] w fun e w' => e = .returned (.tuple #[]) ∧
      w.grownBy w' (some b) ∧ ∃ t m, w.heap.size ≤ t ∧ w.heap.size ≤ m ∧ m ≠ t ∧ Node w' b [] 0 [] (.pointer none) (.slice (some ⟨t, 0, none⟩) 3 3) ∧ Tab w' t (.pointer (some ⟨m, 0, none⟩)) (.pointer none) (.pointer (some ⟨n, 0, none⟩)) ∧ Node w' m val p [] (.pointer none) (.slice none 0 0) := by
  have h2 : w.cell? ⟨b, 2, none⟩ = some (.string (S [110])) := World.rowIs.cell h (by decide)
  have h3 : w.cell? ⟨b, 3, none⟩ = some (.pointer (some ⟨n, 0, none⟩)) := World.rowIs.cell h (by decide)
  have h4 : w.cell? ⟨b, 4, none⟩ = some (.slice none 0 0) := World.rowIs.cell h (by decide)
  have fz : ∀ j, w.frozen? ⟨b, j, none⟩ = false := World.rowIs.frozen h
  have r5 : w.cell? ⟨R, 5, none⟩ = some (.int .i64 3) := World.rowIs.cell hR (by decide)
  have r34 : w.cell? ⟨R, 40, none⟩ = some (.int .u8 0) := World.rowIs.cell hR (by decide)
  have r110 : w.cell? ⟨R, 116, none⟩ = some (.int .u8 2) := World.rowIs.cell hR (by decide)
  have hlt : b < w.heap.size := World.rowIs.lt h
  have hRlt : R < w.heap.size := World.rowIs.lt hR
  have H := Lib.hid h; have HR := Lib.hid hR; clear h hR
  go_enter Tryz.func111, Tryz.ntmps111
  go_wp2_with fail
  refine wp_loop_rounds 1 ?_
  rw [rounds_succ]
  go_wp2_with fail
  go_quiet (fail)
  obtain ⟨wq, hwq⟩ : ∃ wq, wq = w.drewN nq := ⟨_, rfl⟩
  rw [← hwq]
  have gq : w.grownBy wq none := by rw [hwq]; exact ⟨rfl, rfl, rfl, Nat.le_refl _, fun _ _ _ => rfl⟩
  have hsz : wq.heap.size = w.heap.size := by rw [hwq]; rfl
  have kq := H.out.kept gq (by simp)
  have KR := Lib.hid (HR.out.kept gq (by simp))
  clear hwq h2 h3 h4 fz r5 r34 r110 H HR
  have h2 : wq.cell? ⟨b, 2, none⟩ = some (.string (S [110])) := World.rowIs.cell kq (by decide)
  have h3 : wq.cell? ⟨b, 3, none⟩ = some (.pointer (some ⟨n, 0, none⟩)) := World.rowIs.cell kq (by decide)
  have h4 : wq.cell? ⟨b, 4, none⟩ = some (.slice none 0 0) := World.rowIs.cell kq (by decide)
  have fz : ∀ j, wq.frozen? ⟨b, j, none⟩ = false := World.rowIs.frozen kq
  have r5 : wq.cell? ⟨R, 5, none⟩ = some (.int .i64 3) := World.rowIs.cell KR.out (by decide)
  have r34 : wq.cell? ⟨R, 40, none⟩ = some (.int .u8 0) := World.rowIs.cell KR.out (by decide)
  have r110 : wq.cell? ⟨R, 116, none⟩ = some (.int .u8 2) := World.rowIs.cell KR.out (by decide)
  have H := Lib.hid kq; clear kq
  go_wp2_with fail
  obtain ⟨w3, hw3⟩ : ∃ w3, w3 = (((wq.setCell ⟨b, 4, none⟩ (.slice (some ⟨w.heap.size + 1, 0, none⟩) 3 3)).alloc (.cells #[.string ⟨#[]⟩, .int .i64 0, .string ⟨#[]⟩, .pointer none, .slice none 0 0] 146)).alloc (.cells #[.pointer none, .pointer none, .pointer none] 143)) := ⟨_, rfl⟩
  rw [← hw3]
  have s1 : (wq.setCell ⟨b, 4, none⟩ (.slice (some ⟨w.heap.size + 1, 0, none⟩) 3 3)).heap.size = w.heap.size := by simp [World.setCell, hsz]
  have a1 := Node.put (v' := []) (p' := 0) (pre' := [110]) (nx' := .pointer (some ⟨n, 0, none⟩)) (tb' := .slice (some ⟨w.heap.size + 1, 0, none⟩) 3 3) H.out 4 (.slice (some ⟨w.heap.size + 1, 0, none⟩) 3 3) (five rfl rfl rfl rfl rfl)
  have a2 := Node.new (wq.setCell ⟨b, 4, none⟩ (.slice (some ⟨w.heap.size + 1, 0, none⟩) 3 3)) [] 0 [] (.pointer none) (.slice none 0 0)
  have a3 := Tab.new ((wq.setCell ⟨b, 4, none⟩ (.slice (some ⟨w.heap.size + 1, 0, none⟩) 3 3)).alloc (.cells #[.string ⟨#[]⟩, .int .i64 0, .string ⟨#[]⟩, .pointer none, .slice none 0 0] 146)) (.pointer none) (.pointer none) (.pointer none)
  have e1 : wq.grownBy w3 (some b) := by
    rw [hw3]; exact ((Lib.grownBy_setCell wq b 4 _).trans (World.grownBy_alloc _ _ _)).trans (World.grownBy_alloc _ _ _)
  have e2 : (wq.setCell ⟨b, 4, none⟩ (.slice (some ⟨w.heap.size + 1, 0, none⟩) 3 3)).grownBy w3 none := by
    rw [hw3]; exact (World.grownBy_alloc _ _ _).trans (World.grownBy_alloc _ _ _)
  have k1 := a1.kept e2 (by simp)
  rw [s1] at a2
  have k2 := a2.kept (w' := w3) (row := none) (by rw [hw3]; exact World.grownBy_alloc _ _ _) (by simp)
  rw [World.size_alloc, s1, ← hw3] at a3
  have kR := KR.out.kept e1 (by simp; omega)
  have g3 := (grown_but gq (some b)).trans e1
  have sz3 : w3.heap.size = w.heap.size + 2 := by rw [hw3, World.size_alloc, World.size_alloc, s1]
  clear a1 a2 e1 e2 s1 hw3 h2 h3 h4 fz r5 r34 r110 H gq
  have h2 : w3.drew.cell? ⟨b, 2, none⟩ = some (.string (S [110])) := World.rowIs.cell k1 (by decide)
  have h4 : w3.drew.cell? ⟨b, 4, none⟩ = some (.slice (some ⟨w.heap.size + 1, 0, none⟩) 3 3) := World.rowIs.cell k1 (by decide)
  have r110 : w3.drew.cell? ⟨R, 116, none⟩ = some (.int .u8 2) := World.rowIs.cell kR (by decide)
  have t2 : w3.drew.cell? ⟨w.heap.size + 1, 2, none⟩ = some (.pointer none) := World.rowIs.cell a3 (by decide)
  have fz : ∀ j, w3.drew.frozen? ⟨w.heap.size + 1, j, none⟩ = false := World.rowIs.frozen a3
  have H1 := Lib.hid k1; have H2 := Lib.hid k2; have H3 := Lib.hid a3; have H4 := Lib.hid kR
  clear k1 k2 a3 kR
  go_still_tail 16, (by kernel_rfl)
  change wpList _ _ _ _ _ (World.drew _)
  go_wp2
  obtain ⟨w4, hw4⟩ : ∃ w4, w4 = (w3.setCell ⟨w.heap.size + 1, 2, none⟩ (.pointer (some ⟨n, 0, none⟩))).drew := ⟨_, rfl⟩
  rw [← hw4]
  have e4 : w3.grownBy w4 (some (w.heap.size + 1)) := by rw [hw4]; exact (Lib.grownBy_setCell w3 _ 2 _).trans (grown_drew _ _)
  have c1 := H1.out.kept e4 (by simp; omega)
  have c2 := H2.out.kept e4 (by simp)
  have c3 : Tab w4 (w.heap.size + 1) (.pointer none) (.pointer none) (.pointer (some ⟨n, 0, none⟩)) := by rw [hw4]; exact Tab.put H3.out 2 (.pointer (some ⟨n, 0, none⟩)) (three rfl rfl rfl)
  have c4 := H4.out.kept e4 (by simp; omega)
  have g4 := grown_new g3 e4 (by omega)
  have sz4 : w4.heap.size = w.heap.size + 2 := by rw [hw4]; simpa [World.setCell] using sz3
  clear hw4 e4 h2 h4 r110 t2 fz H1 H2 H3 H4 g3 sz3
  have h2 : w4.drew.cell? ⟨b, 2, none⟩ = some (.string (S [110])) := World.rowIs.cell c1 (by decide)
  have h3 : w4.drew.cell? ⟨b, 3, none⟩ = some (.pointer (some ⟨n, 0, none⟩)) := World.rowIs.cell c1 (by decide)
  have h4 : w4.drew.cell? ⟨b, 4, none⟩ = some (.slice (some ⟨w.heap.size + 1, 0, none⟩) 3 3) := World.rowIs.cell c1 (by decide)
  have r34 : w4.drew.cell? ⟨R, 40, none⟩ = some (.int .u8 0) := World.rowIs.cell c4 (by decide)
  have t0 : w4.drew.cell? ⟨w.heap.size + 1, 0, none⟩ = some (.pointer none) := World.rowIs.cell c3 (by decide)
  have fz : ∀ j, w4.drew.frozen? ⟨w.heap.size + 1, j, none⟩ = false := World.rowIs.frozen c3
  have fb : ∀ j, w4.drew.frozen? ⟨b, j, none⟩ = false := World.rowIs.frozen c1
  have H1 := Lib.hid c1; have H2 := Lib.hid c2; have H3 := Lib.hid c3; have H4 := Lib.hid c4
  clear c1 c2 c3 c4
  have n2 : w4.cell? ⟨b, 2, none⟩ = some (.string (S [110])) := h2
  have n3 : w4.cell? ⟨b, 3, none⟩ = some (.pointer (some ⟨n, 0, none⟩)) := h3
  have nf : ∀ j, w4.frozen? ⟨b, j, none⟩ = false := fb
  have hbt : b ≠ w.heap.size + 1 := by omega
  have hbt' : w.heap.size + 1 ≠ b := by omega
  go_still_tail 13, (by kernel_rfl)
  change wpList _ _ _ _ _ (World.drew _)
  go_wp2_with fail
  have q1 := Lib.grownBy_setCell w4 (w.heap.size + 1) 0 (.pointer (some ⟨w.heap.size, 0, none⟩))
  have q2 := Lib.grownBy_setCell (w4.setCell ⟨w.heap.size + 1, 0, none⟩ (.pointer (some ⟨w.heap.size, 0, none⟩))) b 2 (.string ⟨#[]⟩)
  have q3 := Lib.grownBy_setCell ((w4.setCell ⟨w.heap.size + 1, 0, none⟩ (.pointer (some ⟨w.heap.size, 0, none⟩))).setCell ⟨b, 2, none⟩ (.string ⟨#[]⟩)) b 3 (.pointer none)
  have d0 := H1.out.kept q1 (by simp; omega)
  have d1 := Node.put (v' := []) (p' := 0) (pre' := []) (nx' := .pointer (some ⟨n, 0, none⟩)) (tb' := .slice (some ⟨w.heap.size + 1, 0, none⟩) 3 3) d0 2 (.string (S [])) (five rfl rfl rfl rfl rfl)
  have d2 := Node.put (v' := []) (p' := 0) (pre' := []) (nx' := .pointer none) (tb' := .slice (some ⟨w.heap.size + 1, 0, none⟩) 3 3) d1 3 (.pointer none) (five rfl rfl rfl rfl rfl)
  have d3 := Tab.put (x' := .pointer (some ⟨w.heap.size, 0, none⟩)) (y' := .pointer none) (z' := .pointer (some ⟨n, 0, none⟩)) H3.out 0 (.pointer (some ⟨w.heap.size, 0, none⟩)) (three rfl rfl rfl)
  have d4 := (d3.kept q2 (by simp; omega)).kept q3 (by simp; omega)
  have d5 := ((H2.out.kept q1 (by simp)).kept q2 (by simp; omega)).kept q3 (by simp; omega)
  have g5 := ((((grown_new g4 q1 (by omega)).trans q2).trans q3).trans (grown_drew _ _))
  have d2' := d2.drew
  have d5' := d5.drew
  have d4' := d4.drew
  refine (add_leaf w.heap.size val p _ _ d5').mono ?_
  rintro e w' ⟨rfl, hg, hn⟩
  have f1 := d2'.kept hg (by simp; omega)
  have f2 := d4'.kept hg (by simp)
  have g6 := grown_new g5 hg (by omega)
  have HZ := Lib.hid (And.intro g6 (And.intro f1 (And.intro f2 hn)))
  clear q1 q2 q3 d0 d1 d2 d3 d4 d5 d2' d5' d4' g5 f1 f2 g6 hg hn
  go_wp2
  go_end0
  exact ⟨rfl, HZ.out.1, w.heap.size + 1, w.heap.size, by omega, by omega, by omega, HZ.out.2.1, HZ.out.2.2.1, HZ.out.2.2.2⟩

end Go.Proofs.YtepgjaecfoaenaaGreatDoor
