/- An element of an array of 256 bytes, held by value. -/
import Derived.Test.YtepgjaecfoaenaaGreatDoorBase
namespace Go.Proofs.YtepgjaecfoaenaaGreatDoor
open Go.RowKit
set_option linter.unusedVariables false
set_option linter.unusedSimpArgs false
theorem under256 : Tryz.prog.underlying 123 = some (.array 256 5) := by kernel_rfl
theorem size_u8 : (Tryz.prog.info? 5).map (fun i => (i.size, i.zero)) = some (1, some (.int .u8 0)) := by kernel_rfl
theorem isAgg_u8 (w : World) : (isAgg 5).run Tryz.prog w = .ok false w := by kernel_rfl
theorem run_index256 (arr : Array Value) (k : Nat) (hk : k < 256) (v : Value) (hv : arr[k]? = some v) (w : World) :
    (Instr.index 123 (.agg arr) (.int .i64 k)).run Tryz.prog w = .ok v w := by
  obtain ⟨i, hi, hz⟩ := Option.map_eq_some_iff.1 size_u8
  simp only [Prod.mk.injEq] at hz
  have hn : (0 : Int) ≤ (k : Int) ∧ (k : Int) < 256 := by omega
  simp [Instr.index, run_underlying under256, asIntOf, hn, go_sem, sizeOf, typeInfo, hi, hz.1, part, isAgg_u8, hv]
  intro h; omega
end Go.Proofs.YtepgjaecfoaenaaGreatDoor
