/- sync.Once's doSlow and Do over a strings.Replacer of the call's own, its function given by a contract. -/
import Derived.Test.YtepgjaecfoaenaaGreatDoorO1
namespace Go.Proofs.YtepgjaecfoaenaaGreatDoor
open Go.RowKit
set_option linter.unusedVariables false
set_option linter.unusedSimpArgs false

/-- What buildOnce leaves, from the world w on: a replacer that is known by Rep, laid into the Replacer in block R. -/
def BPost (R : Nat) (Rep : TypeId → Nat → World → Prop) (w : World) (e : Ending) (w' : World) : Prop :=
  ∃ w2 t q, e = .returned (.tuple #[]) ∧ Below w.heap.size w w2 ∧ Rep t q w2 ∧
    w' = (w2.setCell ⟨R, 3, none⟩ (.iface t (.pointer (some ⟨q, 0, none⟩)))).setCell ⟨R, 4, none⟩ (.slice none 0 0)

/-- What Do leaves. -/
def DPost (R : Nat) (Rep : TypeId → Nat → World → Prop) (w : World) (e : Ending) (w' : World) : Prop :=
  ∃ w2 t q, e = .returned (.tuple #[]) ∧ Below w.heap.size (w.setCell ⟨R, 1, none⟩ (.int .i32 1)) w2 ∧ Rep t q w2 ∧
    w' = (((w2.setCell ⟨R, 3, none⟩ (.iface t (.pointer (some ⟨q, 0, none⟩)))).setCell ⟨R, 4, none⟩ (.slice none 0 0)).drew.setCell ⟨R, 0, none⟩ (.int .u32 1)).setCell ⟨R, 1, none⟩ (.int .i32 0)

set_option maxRecDepth 100000 in
set_option maxHeartbeats 1600000 in
theorem slow_calls (R : Nat) (Rep : TypeId → Nat → World → Prop) (w : World) (hR : R < w.heap.size)
    (h0 : w.cell? ⟨R, 0, none⟩ = some (.int .u32 0)) (h1 : w.cell? ⟨R, 1, none⟩ = some (.int .i32 0))
    (f0 : w.frozen? ⟨R, 0, none⟩ = false) (f1 : w.frozen? ⟨R, 1, none⟩ = false)
    (hB : Calls Tryz.prog 56 #[.pointer (some ⟨R, 0, none⟩)] (w.setCell ⟨R, 1, none⟩ (.int .i32 1)) (BPost R Rep (w.setCell ⟨R, 1, none⟩ (.int .i32 1)))) :
    Calls Tryz.prog 74 #[.pointer (some ⟨R, 0, none⟩), .func (.func 56) #[.pointer (some ⟨R, 0, none⟩)] #[]] w (DPost R Rep w) := by
  have hl := run_call_load (P := Tryz.prog) Tryz.func93 (by kernel_rfl) (by kernel_rfl) (by kernel_rfl) .u32 (by kernel_rfl) (w := w.setCell ⟨R, 1, none⟩ (.int .i32 1)) (a := ⟨R, 0, none⟩) (x := 0) ((World.cell?_setCell_other _ ⟨R, 1, none⟩ ⟨R, 0, none⟩ _ (by simp)).trans h0)
  have hnot : ∀ (x : Bool) (w : World), (Op.unary .not (.bool x)).run Tryz.prog w = .ok (.bool (!x)) w := fun _ _ => rfl
  go_enter_defers Tryz.func74, Tryz.ntmps74
  go_wp2_with (go_at_call 94; refine (lock_free ⟨R, 1, none⟩ _ (by go_simp) (by go_simp)).mono ?_; rintro e w' ⟨rfl, rfl⟩)
  go_wp2_with (go_at_call 73; go_in)
  refine hB.mono ?_
  rintro e w' ⟨w2, t, q, rfl, hb, hrep, rfl⟩
  replace hb := hb.mono (B' := w.heap.size) (by simp [World.setCell])
  have hsz : R < w2.heap.size := by have := hb.size; simp [World.setCell] at this; omega
  have k0 : w2.cell? ⟨R, 0, none⟩ = some (.int .u32 0) := by
    rw [hb.cell (p := ⟨R, 0, none⟩) hR, World.cell?_setCell_other _ _ _ _ (by simp)]; exact h0
  have k1 : w2.cell? ⟨R, 1, none⟩ = some (.int .i32 1) := by
    rw [hb.cell (p := ⟨R, 1, none⟩) hR]; exact World.cell?_setCell_same _ _ _ h1
  have g0 : w2.frozen? ⟨R, 0, none⟩ = false := by rw [hb.frozen (p := ⟨R, 0, none⟩) hR]; simp [f0]
  have g1 : w2.frozen? ⟨R, 1, none⟩ = false := by rw [hb.frozen (p := ⟨R, 1, none⟩) hR]; simp [f1]
  clear hl
  go_wp2
  refine leaves_cons (f := 96) (args := #[.pointer (some ⟨R, 0, none⟩), .bool true]) (by simp) (by simp [go_sem]) ?_
  refine (store_deferred ⟨R, 0, none⟩ (.int .u32 0) .returning _ ?_ ?_).mono ?_
  · rw [World.cell?_setCell_other _ ⟨R, 4, none⟩ ⟨R, 0, none⟩ _ (by simp), World.cell?_setCell_other _ ⟨R, 3, none⟩ ⟨R, 0, none⟩ _ (by simp)]; exact k0
  · simp [g0]
  rintro e u' w'' ⟨rfl, rfl, rfl⟩
  refine leaves_cons (f := 95) (args := #[.pointer (some ⟨R, 1, none⟩)]) (by simp [settle]) (by simp [go_sem]) ?_
  refine (unlock_deferred ⟨R, 1, none⟩ _ _ ?_ ?_).mono ?_
  · rw [World.cell?_setCell_other _ ⟨R, 0, none⟩ ⟨R, 1, none⟩ _ (by simp), World.cell?_drew, World.cell?_setCell_other _ ⟨R, 4, none⟩ ⟨R, 1, none⟩ _ (by simp), World.cell?_setCell_other _ ⟨R, 3, none⟩ ⟨R, 1, none⟩ _ (by simp)]; exact k1
  · simp [g1]
  rintro e u' w'' ⟨rfl, rfl, rfl⟩
  refine ⟨_, results_none rfl _ _ _, w2, t, q, rfl, hb, hrep, rfl⟩

set_option maxRecDepth 100000 in
set_option maxHeartbeats 1600000 in
theorem Do_calls (R : Nat) (Rep : TypeId → Nat → World → Prop) (w : World) (hR : R < w.heap.size)
    (h0 : w.cell? ⟨R, 0, none⟩ = some (.int .u32 0)) (h1 : w.cell? ⟨R, 1, none⟩ = some (.int .i32 0))
    (f0 : w.frozen? ⟨R, 0, none⟩ = false) (f1 : w.frozen? ⟨R, 1, none⟩ = false)
    (hB : Calls Tryz.prog 56 #[.pointer (some ⟨R, 0, none⟩)] (w.setCell ⟨R, 1, none⟩ (.int .i32 1)) (BPost R Rep (w.setCell ⟨R, 1, none⟩ (.int .i32 1)))) :
    Calls Tryz.prog 55 #[.pointer (some ⟨R, 0, none⟩), .func (.func 56) #[.pointer (some ⟨R, 0, none⟩)] #[]] w (DPost R Rep w) := by
  have hl := run_call_load (P := Tryz.prog) Tryz.func93 (by kernel_rfl) (by kernel_rfl) (by kernel_rfl) .u32 (by kernel_rfl) h0
  have hnot : ∀ (x : Bool) (w : World), (Op.unary .not (.bool x)).run Tryz.prog w = .ok (.bool (!x)) w := fun _ _ => rfl
  have HS := Lib.hid (slow_calls R Rep w hR h0 h1 f0 f1 hB)
  clear hB
  go_enter Tryz.func55, Tryz.ntmps55
  go_wp2_with (first | (go_at_call 74; refine HS.out.mono ?_; rintro e w' ⟨w2, t, q, rfl, hb, hrep, rfl⟩) | (go_at_call 73; go_in))
  go_end0
  exact ⟨w2, t, q, rfl, hb, hrep, rfl⟩

end Go.Proofs.YtepgjaecfoaenaaGreatDoor
