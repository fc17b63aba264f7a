/- A world in which the rows' listed variables are laid: for every row's witness. -/
import Derived.Test.YtepgjaecfoaenaaGreatDoorRows
import Derived.Test.YtepgjaecfoaenaaGreatDoorBase
import Derived.ProofKit
import Derived.LaidLaws
import Derived.LaidHandle
import Derived.Stop.Joined
namespace Go.Proofs.YtepgjaecfoaenaaGreatDoor
open Go.ChangeShapes Go.WideShapes Go.ChangeAt Go.RowKit

theorem Tryz.own : ownKnob Tryz.prog.godebug = none := by kernel_rfl
theorem Tryz.laidOut : laidOutB Tryz.prog = true := by kernel_rfl

/-- What the rows list. -/
def laidL {H : Type} : List (String × DataW H) := [("math/bits.deBruijn32tab", Rows.laid_math_bits_deBruijn32tab), ("math/bits.deBruijn64tab", Rows.laid_math_bits_deBruijn64tab), ("internal/strconv.uint64pow10", Rows.laid_internal_strconv_uint64pow10), ("strconv.ErrRange", Rows.laid_strconv_ErrRange), ("strconv.ErrSyntax", Rows.laid_strconv_ErrSyntax)]

/-- The cells that a datum of literals stands for. -/
def cellsD : DataW Unit → List Value
  | .agg ds => ds.filterMap fun d => match d with | .lit v => (match v with | .int k n => some (.int k n) | _ => none) | _ => none
  | _ => []

noncomputable def low : Nat := (World.holding Tryz.prog default ⟨#[], #[], []⟩).heap.size
def rangeS : ByteArray := ⟨#[118, 97, 108, 117, 101, 32, 111, 117, 116, 32, 111, 102, 32, 114, 97, 110, 103, 101]⟩
def syntaxS : ByteArray := ⟨#[105, 110, 118, 97, 108, 105, 100, 32, 115, 121, 110, 116, 97, 120]⟩
def setRow (cs : Array Value) : Obj → Obj
  | .cells _ t frozen => .cells cs t frozen
  | o => o
noncomputable def laidWorld (os : Os) : World :=
  let w0 := World.holding Tryz.prog os ⟨#[.cells #[.string syntaxS] 152, .cells #[.string rangeS] 152], #[], []⟩
  { w0 with heap := ((((w0.heap.modify 0 (setRow #[.iface 150 (.pointer (some ⟨low, 0, none⟩))])).modify 1 (setRow #[.iface 150 (.pointer (some ⟨low + 1, 0, none⟩))])).modify 3
      (setRow (cellsD Rows.laid_internal_strconv_uint64pow10).toArray)).modify 4 (setRow (cellsD Rows.laid_math_bits_deBruijn32tab).toArray)).modify 5 (setRow (cellsD Rows.laid_math_bits_deBruijn64tab).toArray) }
set_option maxRecDepth 100000 in
theorem laidWorld_met (os : Os) (args : Array Value) : laidMet Tryz.prog laidL ((laidWorld os).forCall (fun _ _ => 0) ⟨#[], args, []⟩).memory :=
  laidMet_of_run' 8 (by kernel_rfl) (by kernel_rfl)

end Go.Proofs.YtepgjaecfoaenaaGreatDoor
