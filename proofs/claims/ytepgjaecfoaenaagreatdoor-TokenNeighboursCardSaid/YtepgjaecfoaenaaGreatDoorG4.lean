/- The walk of trieNode's add at the pairs of Unquote: the root. -/
import Derived.Test.YtepgjaecfoaenaaGreatDoorG3
namespace Go.Proofs.YtepgjaecfoaenaaGreatDoor
open Go.RowKit
set_option linter.unusedVariables false
set_option linter.unusedSimpArgs false

set_option maxRecDepth 100000 in
set_option maxHeartbeats 1000000 in
theorem root_new (t R : Nat) (x z : Value) (c : UInt8) (val : List UInt8) (p : Int) (w : World) (ht : Tab w t x (.pointer none) z) (hR : Gen w R (.slice (some ⟨t, 0, none⟩) 3 3)) (hRt : R ≠ t) :
    Calls Tryz.prog 111 #[.pointer (some ⟨R, 0, none⟩), .string (S [92, c]), .string (S val), .int .i64 p, .pointer (some ⟨R, 0, none⟩)] w fun e w' => e = .returned (.tuple #[]) ∧
      w.grownBy w' (some t) ∧ ∃ m n, w.heap.size ≤ m ∧ w.heap.size ≤ n ∧ m ≠ n ∧ Tab w' t x (.pointer (some ⟨m, 0, none⟩)) z ∧ Node w' m [] 0 [c] (.pointer (some ⟨n, 0, none⟩)) (.slice none 0 0) ∧ Node w' n val p [] (.pointer none) (.slice none 0 0) := by
  have h2 : w.cell? ⟨R, 2, none⟩ = some (.string (S [])) := World.rowIs.cell hR (by decide)
  have h4 : w.cell? ⟨R, 4, none⟩ = some (.slice (some ⟨t, 0, none⟩) 3 3) := World.rowIs.cell hR (by decide)
  have t1 : w.cell? ⟨t, 1, none⟩ = some (.pointer none) := World.rowIs.cell ht (by decide)
  have fz : ∀ j, w.frozen? ⟨t, j, none⟩ = false := World.rowIs.frozen ht
  have r92 : w.cell? ⟨R, 98, none⟩ = some (.int .u8 1) := World.rowIs.cell hR (by decide)
  have htlt : t < w.heap.size := World.rowIs.lt ht
  have hRlt : R < w.heap.size := World.rowIs.lt hR
  have HR := Lib.hid hR; have HT := Lib.hid ht; clear hR ht
  have hbt' : t ≠ R := fun e => hRt e.symm
  go_enter Tryz.func111, Tryz.ntmps111
  go_wp2_with fail
  go_quiet (fail)
  obtain ⟨wq, hwq⟩ : ∃ wq, wq = w.drewN nq := ⟨_, rfl⟩
  rw [← hwq]
  have e0 : w.grownBy wq none := by rw [hwq]; exact ⟨rfl, rfl, rfl, Nat.le_refl _, fun _ _ _ => rfl⟩
  have hsz : wq.heap.size = w.heap.size := by rw [hwq]; rfl
  have j1 := HR.out.kept e0 (by simp)
  have j2 := HT.out.kept e0 (by simp)
  clear hwq h2 h4 t1 fz r92 HT HR
  have h4 : wq.cell? ⟨R, 4, none⟩ = some (.slice (some ⟨t, 0, none⟩) 3 3) := World.rowIs.cell j1 (by decide)
  have t1 : wq.cell? ⟨t, 1, none⟩ = some (.pointer none) := World.rowIs.cell j2 (by decide)
  have fz : ∀ j, wq.frozen? ⟨t, j, none⟩ = false := World.rowIs.frozen j2
  have H := Lib.hid j1; have HT := Lib.hid j2; clear j1 j2
  go_wp2_with fail
  obtain ⟨w3, hw3⟩ : ∃ w3, w3 = ((wq.setCell ⟨t, 1, none⟩ (.pointer (some ⟨w.heap.size, 0, none⟩))).alloc (.cells #[.string ⟨#[]⟩, .int .i64 0, .string ⟨#[]⟩, .pointer none, .slice none 0 0] 146)) := ⟨_, rfl⟩
  rw [← hw3]
  have s1 : (wq.setCell ⟨t, 1, none⟩ (.pointer (some ⟨w.heap.size, 0, none⟩))).heap.size = w.heap.size := by simp [World.setCell, hsz]
  have e1 := World.grownBy_alloc (wq.setCell ⟨t, 1, none⟩ (.pointer (some ⟨w.heap.size, 0, none⟩))) (.cells #[.string ⟨#[]⟩, .int .i64 0, .string ⟨#[]⟩, .pointer none, .slice none 0 0] 146) none
  have e2 := Lib.grownBy_setCell wq t 1 (.pointer (some ⟨w.heap.size, 0, none⟩))
  have k1 := (H.out.kept e2 (by simp; omega)).kept e1 (by simp)
  have k2 := (Tab.put (x' := x) (y' := .pointer (some ⟨w.heap.size, 0, none⟩)) (z' := z) HT.out 1 (.pointer (some ⟨w.heap.size, 0, none⟩)) (three rfl rfl rfl)).kept e1 (by simp)
  have k3 := Node.new (wq.setCell ⟨t, 1, none⟩ (.pointer (some ⟨w.heap.size, 0, none⟩))) [] 0 [] (.pointer none) (.slice none 0 0)
  have g3 := ((grown_but e0 (some t)).trans e2).trans (grown_but e1 (some t))
  rw [s1] at k3
  have k1' : Gen w3 R (.slice (some ⟨t, 0, none⟩) 3 3) := by rw [hw3]; exact k1
  have k2' : Tab w3 t x (.pointer (some ⟨w.heap.size, 0, none⟩)) z := by rw [hw3]; exact k2
  have k3' : Node w3 w.heap.size [] 0 [] (.pointer none) (.slice none 0 0) := by rw [hw3]; exact k3
  rw [← hw3] at g3
  have sz3 : w3.heap.size = w.heap.size + 1 := by rw [hw3, World.size_alloc, s1]
  have h4' : w3.drew.cell? ⟨R, 4, none⟩ = some (.slice (some ⟨t, 0, none⟩) 3 3) := World.rowIs.cell k1' (by decide)
  have t1' : w3.drew.cell? ⟨t, 1, none⟩ = some (.pointer (some ⟨w.heap.size, 0, none⟩)) := World.rowIs.cell k2' (by decide)
  have H1 := Lib.hid k1'; have H2 := Lib.hid k2'; have H3 := Lib.hid k3'
  clear h4 t1 fz H HT hw3 e0 e1 e2 k1 k2 k3 k1' k2' k3'
  go_still_tail 12, (by kernel_rfl)
  change wpList _ _ _ _ _ (World.drew _)
  go_wp2_with fail
  refine (add_first w.heap.size c val p _ _ H3.out.drew).mono ?_
  rintro e w' ⟨rfl, hg, n, hn, hn1, hn2⟩
  have hn' : w.heap.size + 1 ≤ n := by rw [← sz3]; exact hn
  have f2 := H2.out.drew.kept hg (by simp; omega)
  have g6 := grown_new (g3.trans (grown_drew _ _)) hg (by omega)
  have HZ := Lib.hid (And.intro g6 (And.intro f2 (And.intro hn1 hn2)))
  clear f2 g6 hg hn hn1 hn2 g3
  go_wp2
  go_end0
  exact ⟨rfl, HZ.out.1, w.heap.size, n, by omega, by omega, by omega, HZ.out.2.1, HZ.out.2.2.1, HZ.out.2.2.2⟩

set_option maxRecDepth 100000 in
set_option maxHeartbeats 1000000 in
theorem root_old (t R n : Nat) (x z : Value) (c : UInt8) (val : List UInt8) (p : Int) (w : World) (Q : World → Prop) (ht : Tab w t x (.pointer (some ⟨n, 0, none⟩)) z) (hR : Gen w R (.slice (some ⟨t, 0, none⟩) 3 3)) (hRt : R ≠ t)
    (HC : ∀ wq, w.grownBy wq none → wq.heap.size = w.heap.size → Calls Tryz.prog 111 #[.pointer (some ⟨n, 0, none⟩), .string (S [c]), .string (S val), .int .i64 p, .pointer (some ⟨R, 0, none⟩)] wq fun e w' => e = .returned (.tuple #[]) ∧ Q w') :
    Calls Tryz.prog 111 #[.pointer (some ⟨R, 0, none⟩), .string (S [92, c]), .string (S val), .int .i64 p, .pointer (some ⟨R, 0, none⟩)] w fun e w' => e = .returned (.tuple #[]) ∧ Q w' := by
  have h2 : w.cell? ⟨R, 2, none⟩ = some (.string (S [])) := World.rowIs.cell hR (by decide)
  have h4 : w.cell? ⟨R, 4, none⟩ = some (.slice (some ⟨t, 0, none⟩) 3 3) := World.rowIs.cell hR (by decide)
  have t1 : w.cell? ⟨t, 1, none⟩ = some (.pointer (some ⟨n, 0, none⟩)) := World.rowIs.cell ht (by decide)
  have r92 : w.cell? ⟨R, 98, none⟩ = some (.int .u8 1) := World.rowIs.cell hR (by decide)
  have HH := Lib.hid HC; clear hR ht HC
  go_enter Tryz.func111, Tryz.ntmps111
  go_wp2_with fail
  go_quiet (fail)
  obtain ⟨wq, hwq⟩ : ∃ wq, wq = w.drewN nq := ⟨_, rfl⟩
  rw [← hwq]
  have e0 : w.grownBy wq.drew none := by rw [hwq]; exact ⟨rfl, rfl, rfl, Nat.le_refl _, fun _ _ _ => rfl⟩
  have hsz : wq.drew.heap.size = w.heap.size := by rw [hwq]; rfl
  have h4' : wq.cell? ⟨R, 4, none⟩ = some (.slice (some ⟨t, 0, none⟩) 3 3) := by rw [hwq]; exact h4
  have t1' : wq.cell? ⟨t, 1, none⟩ = some (.pointer (some ⟨n, 0, none⟩)) := by rw [hwq]; exact t1
  have HC := Lib.hid (HH.out wq.drew e0 hsz)
  clear hwq h2 h4 t1 r92 e0 hsz HH
  go_wp2_with fail
  have h4 : wq.drew.cell? ⟨R, 4, none⟩ = some (.slice (some ⟨t, 0, none⟩) 3 3) := h4'
  have t1 : wq.drew.cell? ⟨t, 1, none⟩ = some (.pointer (some ⟨n, 0, none⟩)) := t1'
  clear h4' t1'
  go_still_tail 12, (by kernel_rfl)
  change wpList _ _ _ _ _ (World.drew _)
  go_wp2_with fail
  refine HC.out.mono ?_
  rintro e w' ⟨rfl, hq⟩
  have HQ := Lib.hid hq; clear hq
  go_wp2
  go_end0
  exact ⟨rfl, HQ.out⟩

end Go.Proofs.YtepgjaecfoaenaaGreatDoor
