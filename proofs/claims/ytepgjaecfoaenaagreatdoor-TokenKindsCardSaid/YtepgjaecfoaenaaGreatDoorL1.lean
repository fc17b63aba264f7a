/- The walk of genericReplacer's lookup at the pairs of Unquote. -/
import Derived.Test.YtepgjaecfoaenaaGreatDoorG5
import Derived.Test.YtepgjaecfoaenaaGreatDoorV
namespace Go.Proofs.YtepgjaecfoaenaaGreatDoor
open Go.RowKit
set_option linter.unusedVariables false
set_option linter.unusedSimpArgs false

/-- What lookup returns. -/
def lookV : List UInt8 → List UInt8 × Int × Bool
  | c :: d :: _ => if c = 92 then (if d = 34 then ([34], 2, true) else if d = 92 then ([92], 2, true) else if d = 110 then ([10], 2, true) else ([], 0, false)) else ([], 0, false)
  | _ => ([], 0, false)
theorem mapOf_other (c : UInt8) (h1 : c ≠ 34) (h2 : c ≠ 92) (h3 : c ≠ 110) : mapOf c.toNat = 3 := by
  have n1 : ¬ c.toNat = 34 := fun e => h1 (UInt8.toNat_inj.1 e)
  have n2 : ¬ c.toNat = 92 := fun e => h2 (UInt8.toNat_inj.1 e)
  have n3 : ¬ c.toNat = 110 := fun e => h3 (UInt8.toNat_inj.1 e)
  unfold mapOf; rw [if_neg n1, if_neg n2, if_neg n3]
theorem Gen.cellAt {w : World} {R : Nat} {tb : Value} (h : Gen w R tb) (c : UInt8) : w.cell? ⟨R, 6 + c.toNat, none⟩ = some (.int .u8 (mapOf c.toNat)) := by
  rw [World.rowIs.cell h (i := 6 + c.toNat) (by have := c.toNat_lt; omega), Nat.add_comm]; rfl
theorem at_zero (c : UInt8) (l : List UInt8) : at_ (c :: l) 0 = c := rfl
theorem bel_drewN0 (w : World) (n : Nat) : Below w.heap.size w (w.drewN n) := bel_drewN (Below.refl _ _) n

set_option maxRecDepth 100000 in
set_option maxHeartbeats 2000000 in
theorem lookup_nil (B R : Nat)  (w : World) (h : GS B R w) :
    Calls Tryz.prog 169 #[.pointer (some ⟨R, 0, none⟩), .string (S ([])), .bool false] w fun e w' => e = .returned (.tuple #[.string (S []), .int .i64 0, .bool false]) ∧ Below w.heap.size w w' := by
  obtain ⟨hB, T, m, t, a, b, n, h1, h2, h3, h4, h5, h6, hR, hT, hM, hS, hA, hBn, hN⟩ := h
  have r1 : w.cell? ⟨R, 1, none⟩ = some (.int .i64 0) := World.rowIs.cell hR (by decide)
  have r2 : w.cell? ⟨R, 2, none⟩ = some (.string (S [])) := World.rowIs.cell hR (by decide)
  have r4 : w.cell? ⟨R, 4, none⟩ = some (.slice (some ⟨T, 0, none⟩) 3 3) := World.rowIs.cell hR (by decide)
  have r5 : w.cell? ⟨R, 5, none⟩ = some (.int .i64 3) := World.rowIs.cell hR (by decide)
  clear hR hT hM hS hA hBn hN
  go_enter Tryz.func169, Tryz.ntmps169
  go_wp2_with fail
  refine wp_loop_rounds 5 ?_
  rw [rounds_succ]
  go_wp2_with fail
  go_ret3
  exact ⟨rfl, Below.refl _ _⟩

set_option maxRecDepth 100000 in
set_option maxHeartbeats 2000000 in
theorem lookup_out (B R : Nat) (c : UInt8) (l : List UInt8) (hc : mapOf c.toNat = 3) (hl : l.length ≤ 20000) (w : World) (h : GS B R w) :
    Calls Tryz.prog 169 #[.pointer (some ⟨R, 0, none⟩), .string (S (c :: l)), .bool false] w fun e w' => e = .returned (.tuple #[.string (S []), .int .i64 0, .bool false]) ∧ Below w.heap.size w w' := by
  obtain ⟨hB, T, m, t, a, b, n, h1, h2, h3, h4, h5, h6, hR, hT, hM, hS, hA, hBn, hN⟩ := h
  have r1 : w.cell? ⟨R, 1, none⟩ = some (.int .i64 0) := World.rowIs.cell hR (by decide)
  have r2 : w.cell? ⟨R, 2, none⟩ = some (.string (S [])) := World.rowIs.cell hR (by decide)
  have r4 : w.cell? ⟨R, 4, none⟩ = some (.slice (some ⟨T, 0, none⟩) 3 3) := World.rowIs.cell hR (by decide)
  have r5 : w.cell? ⟨R, 5, none⟩ = some (.int .i64 3) := World.rowIs.cell hR (by decide)
  have rc := hR.cellAt c
  rw [hc] at rc
  clear hc
  have hlt := c.toNat_lt
  have hlt2 : (c.toNat : Int) < 256 := by omega
  clear hR hT hM hS hA hBn hN
  go_enter Tryz.func169, Tryz.ntmps169
  go_wp2_with fail
  refine wp_loop_rounds 5 ?_
  rw [rounds_succ]
  go_wp2_with fail
  go_quiet (fail)
  go_wp2
  go_ret3
  exact ⟨rfl, bel_drewN0 w _⟩

set_option maxRecDepth 100000 in
set_option maxHeartbeats 2000000 in
theorem lookup_34 (B R : Nat) (l : List UInt8) (hl : l.length ≤ 20000) (w : World) (h : GS B R w) :
    Calls Tryz.prog 169 #[.pointer (some ⟨R, 0, none⟩), .string (S (34 :: l)), .bool false] w fun e w' => e = .returned (.tuple #[.string (S []), .int .i64 0, .bool false]) ∧ Below w.heap.size w w' := by
  obtain ⟨hB, T, m, t, a, b, n, h1, h2, h3, h4, h5, h6, hR, hT, hM, hS, hA, hBn, hN⟩ := h
  have r1 : w.cell? ⟨R, 1, none⟩ = some (.int .i64 0) := World.rowIs.cell hR (by decide)
  have r2 : w.cell? ⟨R, 2, none⟩ = some (.string (S [])) := World.rowIs.cell hR (by decide)
  have r4 : w.cell? ⟨R, 4, none⟩ = some (.slice (some ⟨T, 0, none⟩) 3 3) := World.rowIs.cell hR (by decide)
  have r5 : w.cell? ⟨R, 5, none⟩ = some (.int .i64 3) := World.rowIs.cell hR (by decide)
  have rc : w.cell? ⟨R, 40, none⟩ = some (.int .u8 0) := hR.cellAt 34
  have rt : w.cell? ⟨T, 0, none⟩ = some (.pointer none) := World.rowIs.cell hT (by decide)
  clear hR hT hM hS hA hBn hN
  go_enter Tryz.func169, Tryz.ntmps169
  go_wp2_with fail
  refine wp_loop_rounds 5 ?_
  rw [rounds_succ]
  go_wp2_with fail
  go_quiet (fail)
  go_wp2_with fail
  rw [rounds_succ]
  go_wp2
  go_ret3
  exact ⟨rfl, bel_drewN0 w _⟩

set_option maxRecDepth 100000 in
set_option maxHeartbeats 2000000 in
theorem lookup_110 (B R : Nat) (l : List UInt8) (hl : l.length ≤ 20000) (w : World) (h : GS B R w) :
    Calls Tryz.prog 169 #[.pointer (some ⟨R, 0, none⟩), .string (S (110 :: l)), .bool false] w fun e w' => e = .returned (.tuple #[.string (S []), .int .i64 0, .bool false]) ∧ Below w.heap.size w w' := by
  obtain ⟨hB, T, m, t, a, b, n, h1, h2, h3, h4, h5, h6, hR, hT, hM, hS, hA, hBn, hN⟩ := h
  have r1 : w.cell? ⟨R, 1, none⟩ = some (.int .i64 0) := World.rowIs.cell hR (by decide)
  have r2 : w.cell? ⟨R, 2, none⟩ = some (.string (S [])) := World.rowIs.cell hR (by decide)
  have r4 : w.cell? ⟨R, 4, none⟩ = some (.slice (some ⟨T, 0, none⟩) 3 3) := World.rowIs.cell hR (by decide)
  have r5 : w.cell? ⟨R, 5, none⟩ = some (.int .i64 3) := World.rowIs.cell hR (by decide)
  have rc : w.cell? ⟨R, 116, none⟩ = some (.int .u8 2) := hR.cellAt 110
  have rt : w.cell? ⟨T, 2, none⟩ = some (.pointer none) := World.rowIs.cell hT (by decide)
  clear hR hT hM hS hA hBn hN
  go_enter Tryz.func169, Tryz.ntmps169
  go_wp2_with fail
  refine wp_loop_rounds 5 ?_
  rw [rounds_succ]
  go_wp2_with fail
  go_quiet (fail)
  go_wp2_with fail
  rw [rounds_succ]
  go_wp2
  go_ret3
  exact ⟨rfl, bel_drewN0 w _⟩

set_option maxRecDepth 100000 in
set_option maxHeartbeats 2000000 in
theorem lookup_92 (B R : Nat)  (w : World) (h : GS B R w) :
    Calls Tryz.prog 169 #[.pointer (some ⟨R, 0, none⟩), .string (S ([92])), .bool false] w fun e w' => e = .returned (.tuple #[.string (S []), .int .i64 0, .bool false]) ∧ Below w.heap.size w w' := by
  obtain ⟨hB, T, m, t, a, b, n, h1, h2, h3, h4, h5, h6, hR, hT, hM, hS, hA, hBn, hN⟩ := h
  have r1 : w.cell? ⟨R, 1, none⟩ = some (.int .i64 0) := World.rowIs.cell hR (by decide)
  have r2 : w.cell? ⟨R, 2, none⟩ = some (.string (S [])) := World.rowIs.cell hR (by decide)
  have r4 : w.cell? ⟨R, 4, none⟩ = some (.slice (some ⟨T, 0, none⟩) 3 3) := World.rowIs.cell hR (by decide)
  have r5 : w.cell? ⟨R, 5, none⟩ = some (.int .i64 3) := World.rowIs.cell hR (by decide)
  have rc : w.cell? ⟨R, 98, none⟩ = some (.int .u8 1) := hR.cellAt 92
  have rt : w.cell? ⟨T, 1, none⟩ = some (.pointer (some ⟨m, 0, none⟩)) := World.rowIs.cell hT (by decide)
  have m1 : w.cell? ⟨m, 1, none⟩ = some (.int .i64 0) := World.rowIs.cell hM (by decide)
  have m4 : w.cell? ⟨m, 4, none⟩ = some (.slice (some ⟨t, 0, none⟩) 3 3) := World.rowIs.cell hM (by decide)
  clear hR hT hM hS hA hBn hN
  go_enter Tryz.func169, Tryz.ntmps169
  go_wp2_with fail
  refine wp_loop_rounds 5 ?_
  rw [rounds_succ]
  go_wp2_with fail
  go_quiet (fail)
  go_wp2_with fail
  rw [rounds_succ]
  go_wp2
  go_ret3
  exact ⟨rfl, bel_drewN0 w _⟩

set_option maxRecDepth 100000 in
set_option maxHeartbeats 2000000 in
theorem lookup_92_out (B R : Nat) (d : UInt8) (l : List UInt8) (hd : mapOf d.toNat = 3) (hl : l.length ≤ 20000) (w : World) (h : GS B R w) :
    Calls Tryz.prog 169 #[.pointer (some ⟨R, 0, none⟩), .string (S (92 :: d :: l)), .bool false] w fun e w' => e = .returned (.tuple #[.string (S []), .int .i64 0, .bool false]) ∧ Below w.heap.size w w' := by
  obtain ⟨hB, T, m, t, a, b, n, h1, h2, h3, h4, h5, h6, hR, hT, hM, hS, hA, hBn, hN⟩ := h
  have r1 : w.cell? ⟨R, 1, none⟩ = some (.int .i64 0) := World.rowIs.cell hR (by decide)
  have r2 : w.cell? ⟨R, 2, none⟩ = some (.string (S [])) := World.rowIs.cell hR (by decide)
  have r4 : w.cell? ⟨R, 4, none⟩ = some (.slice (some ⟨T, 0, none⟩) 3 3) := World.rowIs.cell hR (by decide)
  have r5 : w.cell? ⟨R, 5, none⟩ = some (.int .i64 3) := World.rowIs.cell hR (by decide)
  have rc : w.cell? ⟨R, 98, none⟩ = some (.int .u8 1) := hR.cellAt 92
  have rt : w.cell? ⟨T, 1, none⟩ = some (.pointer (some ⟨m, 0, none⟩)) := World.rowIs.cell hT (by decide)
  have m1 : w.cell? ⟨m, 1, none⟩ = some (.int .i64 0) := World.rowIs.cell hM (by decide)
  have m4 : w.cell? ⟨m, 4, none⟩ = some (.slice (some ⟨t, 0, none⟩) 3 3) := World.rowIs.cell hM (by decide)
  have rd := hR.cellAt d
  rw [hd] at rd
  clear hd
  have hlt := d.toNat_lt
  have hlt2 : (d.toNat : Int) < 256 := by omega
  clear hR hT hM hS hA hBn hN
  go_enter Tryz.func169, Tryz.ntmps169
  go_wp2_with fail
  refine wp_loop_rounds 5 ?_
  rw [rounds_succ]
  go_wp2_with fail
  go_quiet (fail)
  go_wp2_with fail
  rw [rounds_succ]
  go_wp2_with fail
  go_quiet (fail)
  go_wp2
  go_ret3
  exact ⟨rfl, bel_drewN0 w _⟩

set_option maxRecDepth 100000 in
set_option maxHeartbeats 2000000 in
theorem lookup_q (B R : Nat) (l : List UInt8) (hl : l.length ≤ 20000) (w : World) (h : GS B R w) :
    Calls Tryz.prog 169 #[.pointer (some ⟨R, 0, none⟩), .string (S (92 :: 34 :: l)), .bool false] w fun e w' => e = .returned (.tuple #[.string (S [34]), .int .i64 2, .bool true]) ∧ Below w.heap.size w w' := by
  obtain ⟨hB, T, m, t, a, b, n, h1, h2, h3, h4, h5, h6, hR, hT, hM, hS, hA, hBn, hN⟩ := h
  have r1 : w.cell? ⟨R, 1, none⟩ = some (.int .i64 0) := World.rowIs.cell hR (by decide)
  have r2 : w.cell? ⟨R, 2, none⟩ = some (.string (S [])) := World.rowIs.cell hR (by decide)
  have r4 : w.cell? ⟨R, 4, none⟩ = some (.slice (some ⟨T, 0, none⟩) 3 3) := World.rowIs.cell hR (by decide)
  have r5 : w.cell? ⟨R, 5, none⟩ = some (.int .i64 3) := World.rowIs.cell hR (by decide)
  have rc : w.cell? ⟨R, 98, none⟩ = some (.int .u8 1) := hR.cellAt 92
  have rt : w.cell? ⟨T, 1, none⟩ = some (.pointer (some ⟨m, 0, none⟩)) := World.rowIs.cell hT (by decide)
  have m1 : w.cell? ⟨m, 1, none⟩ = some (.int .i64 0) := World.rowIs.cell hM (by decide)
  have m4 : w.cell? ⟨m, 4, none⟩ = some (.slice (some ⟨t, 0, none⟩) 3 3) := World.rowIs.cell hM (by decide)
  have rd : w.cell? ⟨R, 40, none⟩ = some (.int .u8 0) := hR.cellAt 34
  have st : w.cell? ⟨t, 0, none⟩ = some (.pointer (some ⟨a, 0, none⟩)) := World.rowIs.cell hS (by decide)
  have l0 : w.cell? ⟨a, 0, none⟩ = some (.string (S [34])) := World.rowIs.cell hA (by decide)
  have l1 : w.cell? ⟨a, 1, none⟩ = some (.int .i64 4) := World.rowIs.cell hA (by decide)
  have l2 : w.cell? ⟨a, 2, none⟩ = some (.string (S [])) := World.rowIs.cell hA (by decide)
  have l4 : w.cell? ⟨a, 4, none⟩ = some (.slice none 0 0) := World.rowIs.cell hA (by decide)
  clear hR hT hM hS hA hBn hN
  go_enter Tryz.func169, Tryz.ntmps169
  go_wp2_with fail
  refine wp_loop_rounds 5 ?_
  rw [rounds_succ]
  go_wp2_with fail
  go_quiet (fail)
  go_wp2_with fail
  rw [rounds_succ]
  go_wp2_with fail
  go_quiet (fail)
  go_wp2_with fail
  rw [rounds_succ]
  cases l with
  | nil =>
    go_wp2
    go_ret3
    exact ⟨rfl, bel_drewN0 w _⟩
  | cons e l =>
    go_wp2
    go_ret3
    exact ⟨rfl, bel_drewN0 w _⟩

set_option maxRecDepth 100000 in
set_option maxHeartbeats 2000000 in
theorem lookup_b (B R : Nat) (l : List UInt8) (hl : l.length ≤ 20000) (w : World) (h : GS B R w) :
    Calls Tryz.prog 169 #[.pointer (some ⟨R, 0, none⟩), .string (S (92 :: 92 :: l)), .bool false] w fun e w' => e = .returned (.tuple #[.string (S [92]), .int .i64 2, .bool true]) ∧ Below w.heap.size w w' := by
  obtain ⟨hB, T, m, t, a, b, n, h1, h2, h3, h4, h5, h6, hR, hT, hM, hS, hA, hBn, hN⟩ := h
  have r1 : w.cell? ⟨R, 1, none⟩ = some (.int .i64 0) := World.rowIs.cell hR (by decide)
  have r2 : w.cell? ⟨R, 2, none⟩ = some (.string (S [])) := World.rowIs.cell hR (by decide)
  have r4 : w.cell? ⟨R, 4, none⟩ = some (.slice (some ⟨T, 0, none⟩) 3 3) := World.rowIs.cell hR (by decide)
  have r5 : w.cell? ⟨R, 5, none⟩ = some (.int .i64 3) := World.rowIs.cell hR (by decide)
  have rc : w.cell? ⟨R, 98, none⟩ = some (.int .u8 1) := hR.cellAt 92
  have rt : w.cell? ⟨T, 1, none⟩ = some (.pointer (some ⟨m, 0, none⟩)) := World.rowIs.cell hT (by decide)
  have m1 : w.cell? ⟨m, 1, none⟩ = some (.int .i64 0) := World.rowIs.cell hM (by decide)
  have m4 : w.cell? ⟨m, 4, none⟩ = some (.slice (some ⟨t, 0, none⟩) 3 3) := World.rowIs.cell hM (by decide)
  have rd : w.cell? ⟨R, 98, none⟩ = some (.int .u8 1) := hR.cellAt 92
  have st : w.cell? ⟨t, 1, none⟩ = some (.pointer (some ⟨b, 0, none⟩)) := World.rowIs.cell hS (by decide)
  have l0 : w.cell? ⟨b, 0, none⟩ = some (.string (S [92])) := World.rowIs.cell hBn (by decide)
  have l1 : w.cell? ⟨b, 1, none⟩ = some (.int .i64 2) := World.rowIs.cell hBn (by decide)
  have l2 : w.cell? ⟨b, 2, none⟩ = some (.string (S [])) := World.rowIs.cell hBn (by decide)
  have l4 : w.cell? ⟨b, 4, none⟩ = some (.slice none 0 0) := World.rowIs.cell hBn (by decide)
  clear hR hT hM hS hA hBn hN
  go_enter Tryz.func169, Tryz.ntmps169
  go_wp2_with fail
  refine wp_loop_rounds 5 ?_
  rw [rounds_succ]
  go_wp2_with fail
  go_quiet (fail)
  go_wp2_with fail
  rw [rounds_succ]
  go_wp2_with fail
  go_quiet (fail)
  go_wp2_with fail
  rw [rounds_succ]
  cases l with
  | nil =>
    go_wp2
    go_ret3
    exact ⟨rfl, bel_drewN0 w _⟩
  | cons e l =>
    go_wp2
    go_ret3
    exact ⟨rfl, bel_drewN0 w _⟩

set_option maxRecDepth 100000 in
set_option maxHeartbeats 2000000 in
theorem lookup_n (B R : Nat) (l : List UInt8) (hl : l.length ≤ 20000) (w : World) (h : GS B R w) :
    Calls Tryz.prog 169 #[.pointer (some ⟨R, 0, none⟩), .string (S (92 :: 110 :: l)), .bool false] w fun e w' => e = .returned (.tuple #[.string (S [10]), .int .i64 2, .bool true]) ∧ Below w.heap.size w w' := by
  obtain ⟨hB, T, m, t, a, b, n, h1, h2, h3, h4, h5, h6, hR, hT, hM, hS, hA, hBn, hN⟩ := h
  have r1 : w.cell? ⟨R, 1, none⟩ = some (.int .i64 0) := World.rowIs.cell hR (by decide)
  have r2 : w.cell? ⟨R, 2, none⟩ = some (.string (S [])) := World.rowIs.cell hR (by decide)
  have r4 : w.cell? ⟨R, 4, none⟩ = some (.slice (some ⟨T, 0, none⟩) 3 3) := World.rowIs.cell hR (by decide)
  have r5 : w.cell? ⟨R, 5, none⟩ = some (.int .i64 3) := World.rowIs.cell hR (by decide)
  have rc : w.cell? ⟨R, 98, none⟩ = some (.int .u8 1) := hR.cellAt 92
  have rt : w.cell? ⟨T, 1, none⟩ = some (.pointer (some ⟨m, 0, none⟩)) := World.rowIs.cell hT (by decide)
  have m1 : w.cell? ⟨m, 1, none⟩ = some (.int .i64 0) := World.rowIs.cell hM (by decide)
  have m4 : w.cell? ⟨m, 4, none⟩ = some (.slice (some ⟨t, 0, none⟩) 3 3) := World.rowIs.cell hM (by decide)
  have rd : w.cell? ⟨R, 116, none⟩ = some (.int .u8 2) := hR.cellAt 110
  have st : w.cell? ⟨t, 2, none⟩ = some (.pointer (some ⟨n, 0, none⟩)) := World.rowIs.cell hS (by decide)
  have l0 : w.cell? ⟨n, 0, none⟩ = some (.string (S [10])) := World.rowIs.cell hN (by decide)
  have l1 : w.cell? ⟨n, 1, none⟩ = some (.int .i64 6) := World.rowIs.cell hN (by decide)
  have l2 : w.cell? ⟨n, 2, none⟩ = some (.string (S [])) := World.rowIs.cell hN (by decide)
  have l4 : w.cell? ⟨n, 4, none⟩ = some (.slice none 0 0) := World.rowIs.cell hN (by decide)
  clear hR hT hM hS hA hBn hN
  go_enter Tryz.func169, Tryz.ntmps169
  go_wp2_with fail
  refine wp_loop_rounds 5 ?_
  rw [rounds_succ]
  go_wp2_with fail
  go_quiet (fail)
  go_wp2_with fail
  rw [rounds_succ]
  go_wp2_with fail
  go_quiet (fail)
  go_wp2_with fail
  rw [rounds_succ]
  cases l with
  | nil =>
    go_wp2
    go_ret3
    exact ⟨rfl, bel_drewN0 w _⟩
  | cons e l =>
    go_wp2
    go_ret3
    exact ⟨rfl, bel_drewN0 w _⟩

theorem lookV_out (c : UInt8) (l : List UInt8) (h : c ≠ 92) : lookV (c :: l) = ([], 0, false) := by
  cases l with
  | nil => rfl
  | cons d l => simp [lookV, h]
theorem lookup_calls (B R : Nat) (l : List UInt8) (w : World) (h : GS B R w) (hl : l.length ≤ 20000) :
    Calls Tryz.prog 169 #[.pointer (some ⟨R, 0, none⟩), .string (S l), .bool false] w fun e w' => e = .returned (.tuple #[.string (S (lookV l).1), .int .i64 (lookV l).2.1, .bool (lookV l).2.2]) ∧ Below w.heap.size w w' := by
  cases l with
  | nil => exact lookup_nil B R w h
  | cons c l =>
    have hl' : l.length ≤ 20000 := by simp at hl; omega
    by_cases h2 : c = 92
    · subst h2
      cases l with
      | nil => exact lookup_92 B R w h
      | cons d l =>
        have hl'' : l.length ≤ 20000 := by simp at hl'; omega
        by_cases d1 : d = 34
        · subst d1; exact lookup_q B R l hl'' w h
        by_cases d2 : d = 92
        · subst d2; exact lookup_b B R l hl'' w h
        by_cases d3 : d = 110
        · subst d3; exact lookup_n B R l hl'' w h
        have e : lookV (92 :: d :: l) = ([], 0, false) := by simp [lookV, d1, d2, d3]
        rw [e]; exact lookup_92_out B R d l (mapOf_other d d1 d2 d3) hl'' w h
    rw [lookV_out c l h2]
    by_cases h1 : c = 34
    · subst h1; exact lookup_34 B R l hl' w h
    by_cases h3 : c = 110
    · subst h3; exact lookup_110 B R l hl' w h
    exact lookup_out B R c l (mapOf_other c h1 h2 h3) hl' w h
end Go.Proofs.YtepgjaecfoaenaaGreatDoor
