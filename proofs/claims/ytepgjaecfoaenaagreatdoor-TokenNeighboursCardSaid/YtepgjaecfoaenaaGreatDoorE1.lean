/- '==' and '!=' of two tokens, as the model runs them. No condition. -/
import Derived.Test.YtepgjaecfoaenaaGreatDoorBase
import Derived.Laws.StructEq
namespace Go.Proofs.YtepgjaecfoaenaaGreatDoor
open Go.RowKit
set_option linter.unusedVariables false
set_option linter.unusedSimpArgs false

theorem stoodTok : Tryz.prog.stoodInHeld 23 = false := by kernel_rfl
theorem guardTok : Tryz.prog.eqGuardType Tryz.prog.depth 23 = false := by kernel_rfl

theorem tok_equalIn (d : Nat) (w : World) (a b : Int) (x y : List UInt8) :
    (Op.equalIn (d + 2) 23 (.agg #[.int .i64 a, .string (S x)]) (.agg #[.int .i64 b, .string (S y)])).run Tryz.prog w = .ok (a == b && x == y) w := by
  rw [run_equalIn_struct (P := Tryz.prog) w (d + 1) 23 _ _ (by simp only [Program.fieldsOf, Tryz.underlying23]) stoodTok]
  simp only [Program.fieldsOf, Tryz.underlying23]
  simp [Op.eqFields, part, go_sem]
  by_cases h1 : a = b <;> by_cases h2 : x = y <;> simp [h1, h2]

/-- Are two tokens the same? -/
def tokEq (s t : Tok) : Bool := decide (s = t)
theorem tokEq_parts (a b : Int) (x y : List UInt8) : tokEq ⟨a, x⟩ ⟨b, y⟩ = (a == b && x == y) := by
  unfold tokEq
  by_cases h1 : a = b <;> by_cases h2 : x = y <;> simp [h1, h2]
theorem tokEq_iff {s t : Tok} : tokEq s t = true ↔ s = t := by simp [tokEq]
theorem tokEq_not {s t : Tok} : tokEq s t = false ↔ s ≠ t := by simp [tokEq]

@[go_sem high] theorem tok_eql (w : World) (a b : Int) (x y : List UInt8) :
    (binOp .eql 23 (.agg #[.int .i64 a, .string (S x)]) (.agg #[.int .i64 b, .string (S y)])).run Tryz.prog w = .ok (.bool (tokEq ⟨a, x⟩ ⟨b, y⟩)) w := by
  rw [run_eql_struct, tok_equalIn 9998 w a b x y, tokEq_parts]
  rfl
@[go_sem high] theorem tok_neq (w : World) (a b : Int) (x y : List UInt8) :
    (binOp .neq 23 (.agg #[.int .i64 a, .string (S x)]) (.agg #[.int .i64 b, .string (S y)])).run Tryz.prog w = .ok (.bool (!tokEq ⟨a, x⟩ ⟨b, y⟩)) w := by
  rw [run_neq_struct, tok_equalIn 9998 w a b x y, tokEq_parts]
  rfl
attribute [go_sem] guardTok

end Go.Proofs.YtepgjaecfoaenaaGreatDoor
