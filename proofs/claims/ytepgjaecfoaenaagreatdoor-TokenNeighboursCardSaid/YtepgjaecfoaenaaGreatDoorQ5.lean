/- A row of bytes that is filled from its beginning on. No program's walk. -/
import Derived.Test.YtepgjaecfoaenaaGreatDoorBase
import Derived.Lib.UnsafeStr
import Derived.Laws.CopyOwn
namespace Go.Proofs.YtepgjaecfoaenaaGreatDoor
open Go.RowKit
set_option linter.unusedVariables false
set_option linter.unusedSimpArgs false

/-- The cells of a row of N bytes that begins with A. -/
def fill (A : List UInt8) (N : Nat) : List Value := Lib.byteCells A ++ List.replicate (N - A.length) (.int .u8 0)
theorem fill_length (A : List UInt8) (N : Nat) (h : A.length ≤ N) : (fill A N).length = N := by
  simp [fill, Lib.byteCells]; omega
theorem fill_nil (N : Nat) : fill [] N = List.replicate N (.int .u8 0) := by simp [fill, Lib.byteCells]
theorem fill_full (A : List UInt8) : fill A A.length = Lib.byteCells A := by simp [fill]
theorem fill_get (A : List UInt8) (N : Nat) (h : A.length < N) : (fill A N)[A.length]? = some (.int .u8 0) := by
  have hl : (Lib.byteCells A).length = A.length := Lib.byteCells_length A
  unfold fill
  rw [List.getElem?_append_right (by omega), hl, Nat.sub_self, List.getElem?_replicate, if_pos (by omega)]
theorem fill_splice (A bs : List UInt8) (N : Nat) (h : A.length + bs.length ≤ N) : splice (fill A N) A.length (Lib.byteCells bs) = fill (A ++ bs) N := by
  have hl : (Lib.byteCells A).length = A.length := Lib.byteCells_length A
  have hb : (Lib.byteCells bs).length = bs.length := Lib.byteCells_length bs
  have ha : Lib.byteCells (A ++ bs) = Lib.byteCells A ++ Lib.byteCells bs := by simp [Lib.byteCells]
  unfold splice fill
  rw [hb, ha, ← hl, List.take_left, ← List.drop_drop, List.drop_left, List.drop_replicate, List.append_assoc, hl, List.length_append]
  congr 3; omega
theorem fill_set (A : List UInt8) (b : UInt8) (N : Nat) (h : A.length < N) : (fill A N).set A.length (.int .u8 (b.toNat : Int)) = fill (A ++ [b]) N := by
  have hl : (Lib.byteCells A).length = A.length := Lib.byteCells_length A
  have ha : Lib.byteCells (A ++ [b]) = Lib.byteCells A ++ [.int .u8 (b.toNat : Int)] := by simp [Lib.byteCells]
  unfold fill
  rw [List.set_append_right _ _ (by omega), hl, Nat.sub_self, ha, List.append_assoc, List.length_append]
  obtain ⟨m, hm⟩ : ∃ m, N - A.length = m + 1 := ⟨N - A.length - 1, by omega⟩
  rw [hm, List.replicate_succ, List.set_cons_zero, show N - (A.length + [b].length) = m by simp; omega]; rfl

theorem made_fill (N : Nat) : madeCells #[.int .u8 0] N = (fill [] N).toArray := by
  rw [fill_nil]
  apply Array.ext'
  simp [madeCells]
  apply List.ext_getElem
  · simp
  · intro i h1 h2; simp [Nat.mod_one]

end Go.Proofs.YtepgjaecfoaenaaGreatDoor
