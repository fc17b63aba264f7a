/- strings.Replacer's build and buildOnce at the pairs of Unquote. -/
import Derived.Test.YtepgjaecfoaenaaGreatDoorG5
import Derived.Test.YtepgjaecfoaenaaGreatDoorR1
namespace Go.Proofs.YtepgjaecfoaenaaGreatDoor
open Go.RowKit
set_option linter.unusedVariables false
set_option linter.unusedSimpArgs false

theorem GS.keep {B R : Nat} {w w' : World} (h : GS B R w) (hb : ∀ k, B ≤ k → k < w.heap.size → w'.heap[k]? = w.heap[k]?) : GS B R w' := by
  obtain ⟨hB, T, m, t, a, b, n, h1, h2, h3, h4, h5, h6, hR, hT, hM, hS, hA, hBn, hN⟩ := h
  exact ⟨hB, T, m, t, a, b, n, h1, h2, h3, h4, h5, h6, World.rowIs.of_block hR (hb R hB (World.rowIs.lt hR)), World.rowIs.of_block hT (hb T h1 (World.rowIs.lt hT)),
    World.rowIs.of_block hM (hb m h2 (World.rowIs.lt hM)), World.rowIs.of_block hS (hb t h3 (World.rowIs.lt hS)), World.rowIs.of_block hA (hb a h4 (World.rowIs.lt hA)),
    World.rowIs.of_block hBn (hb b h5 (World.rowIs.lt hBn)), World.rowIs.of_block hN (hb n h6 (World.rowIs.lt hN))⟩
theorem GS.below {B R : Nat} {w w' : World} (h : GS B R w) (hb : Below w.heap.size w w') : GS B R w' := h.keep fun k _ hk => hb.block k hk
theorem GS.other {B R : Nat} {w : World} (h : GS B R w) (a : Addr) (u : Value) (ha : a.block < B) : GS B R (w.setCell a u) := h.keep fun k hk _ => Below.heap_setCell _ _ _ _ (by omega)
theorem GS.drew {B R : Nat} {w : World} (h : GS B R w) : GS B R w.drew := h.keep fun k _ _ => rfl

set_option maxRecDepth 100000 in
set_option maxHeartbeats 2000000 in
theorem build_unquote (R g c : Nat) (w : World) (hR : R < w.heap.size) (hg : g < w.heap.size)
    (hold : w.cell? ⟨R, 4, none⟩ = some (.slice (some ⟨g, 0, none⟩) 6 c))
    (hs : ∀ k, k < 6 → w.cell? ⟨g, k, none⟩ = some (.string (S (strAt unquoteL k)))) :
    Calls Tryz.prog 75 #[.pointer (some ⟨R, 0, none⟩)] w (fun e w' => ∃ q, e = .returned (.iface 121 (.pointer (some ⟨q, 0, none⟩))) ∧ GS w.heap.size q w' ∧ Below w.heap.size w w') := by
  have HG := Lib.hid (make_generic g c w hg hs)
  have c0 : w.cell? ⟨g, 0, none⟩ = some (.string (S [92, 110])) := hs 0 (by decide)
  clear hs
  go_enter Tryz.func75, Tryz.ntmps75
  go_wp2_with fail
  refine wp_loop_rounds 4 ?_
  rw [rounds_succ]
  go_wp2_with fail
  refine HG.out.mono ?_
  rintro e w' ⟨rfl, hb, hS⟩
  have HB := Lib.hid hb; have HS := Lib.hid hS; clear hb hS
  go_wp2
  go_ret
  exact ⟨_, rfl, HS.out, HB.out⟩

def RepU (B : Nat) (t : TypeId) (q : Nat) (w : World) : Prop := t = 121 ∧ GS B q w

set_option maxHeartbeats 1000000 in
theorem buildOnce_unquote (R g c : Nat) (w : World) (hR : R < w.heap.size) (hg : g < w.heap.size)
    (h3 : w.cell? ⟨R, 3, none⟩ = some .nilIface) (f3 : w.frozen? ⟨R, 3, none⟩ = false) (f4 : w.frozen? ⟨R, 4, none⟩ = false)
    (hold : w.cell? ⟨R, 4, none⟩ = some (.slice (some ⟨g, 0, none⟩) 6 c))
    (hs : ∀ k, k < 6 → w.cell? ⟨g, k, none⟩ = some (.string (S (strAt unquoteL k)))) :
    Calls Tryz.prog 56 #[.pointer (some ⟨R, 0, none⟩)] w (BPost R (RepU w.heap.size) w) := by
  have HB := Lib.hid (build_unquote R g c w hR hg hold hs)
  clear hs
  go_enter Tryz.func56, Tryz.ntmps56
  go_wp2_with fail
  refine HB.out.mono ?_
  rintro e w2 ⟨q, rfl, hS, hb⟩
  have k3 : w2.cell? ⟨R, 3, none⟩ = some .nilIface := by rw [hb.cell (p := ⟨R, 3, none⟩) hR]; exact h3
  have k4 : w2.cell? ⟨R, 4, none⟩ = some (.slice (some ⟨g, 0, none⟩) 6 c) := by rw [hb.cell (p := ⟨R, 4, none⟩) hR]; exact hold
  have z3 : w2.frozen? ⟨R, 3, none⟩ = false := by rw [hb.frozen (p := ⟨R, 3, none⟩) hR]; exact f3
  have z4 : w2.frozen? ⟨R, 4, none⟩ = false := by rw [hb.frozen (p := ⟨R, 4, none⟩) hR]; exact f4
  have HS := Lib.hid hS; clear hS
  go_wp2
  go_end0
  exact ⟨w2, _, q, rfl, hb, ⟨rfl, HS.out⟩, rfl⟩

end Go.Proofs.YtepgjaecfoaenaaGreatDoor
