/- Small words for all texts of this seat: strings as lists of bytes, and how the walk reads them. No condition. -/
import Derived.Test.YtplnfepdikbpfaaGreatDoorProg
import Derived.Test.YtplnfepdikbpfaaGreatDoorA
import Derived.WalkKit
import Derived.WalkSpells
import Derived.WalkLawsBesides
import Derived.BigQuiet
import Derived.KernelRfl
import Derived.Lib.Hide
import Derived.Lib.Strings
namespace Go.Proofs.YtplnfepdikbpfaaGreatDoor
open Go.RowKit
set_option linter.unusedVariables false
set_option linter.unusedSimpArgs false

/-- The string with these bytes. -/
def S (l : List UInt8) : ByteArray := ⟨l.toArray⟩
theorem S_size (l : List UInt8) : (S l).size = l.length := by simp [S, ByteArray.size]
theorem S_data (l : List UInt8) : (S l).data.toList = l := by simp [S]
theorem S_toList (l : List UInt8) : (S l).toList = l := by rw [ByteArray.toList_eq, S_data]
theorem S_eta (s : ByteArray) : S s.data.toList = s := by apply ByteArray.ext; simp [S]
theorem S_inj {a b : List UInt8} (h : S a = S b) : a = b := by rw [← S_data a, h, S_data]
theorem S_lit (l : List UInt8) : (⟨l.toArray⟩ : ByteArray) = S l := rfl
theorem S_get (l : List UInt8) (k : Nat) (h : k < (S l).size) : (S l)[k]'h = at_ l k := by
  have h' : k < l.length := by rw [S_size] at h; exact h
  simp [at_, S, ByteArray.getElem_eq_getElem_data, List.getElem?_eq_getElem h']
theorem S_extract (l : List UInt8) (a b : Nat) : (S l).extract a b = S ((l.take b).drop a) := by
  unfold S; rw [ByteArray.extract_mk, List.drop_take]
theorem S_from (l : List UInt8) (a : Nat) : (S l).extract a l.length = S (l.drop a) := by
  rw [S_extract, List.take_length]
theorem S_to (l : List UInt8) (b : Nat) : (S l).extract 0 b = S (l.take b) := by
  rw [S_extract, List.drop_zero]
theorem S_append (a b : List UInt8) : S a ++ S b = S (a ++ b) := by
  apply ByteArray.ext; simp [S]

section
variable {P : Program} (w : World)
@[go_sem high] theorem run_len_S (t ty : TypeId) (l : List UInt8) (h : P.underlying t = some .string) :
    (Builtin.len_ #[t] ty #[.string (S l)]).run P w = .ok (goInt l.length) w := by rw [run_len_string w t ty _ h, S_size]
@[go_sem high] theorem run_index_S (t : TypeId) (l : List UInt8) (k : IntKind) (i : Int) (h : P.underlying t = some .string) :
    (Instr.index t (.string (S l)) (.int k i)).run P w =
      if 0 ≤ i ∧ i < l.length then .ok (.int .u8 (at_ l i.toNat).toNat) w
      else (boundsPanic k i l.length .index).run P w := by
  rw [run_index_string w t _ k i h]
  by_cases hi : 0 ≤ i ∧ i < l.length
  · rw [dif_pos (by rw [S_size]; exact hi), if_pos hi, S_get]
  · rw [dif_neg (by rw [S_size]; exact hi), if_neg hi, S_size]
@[go_sem high] theorem run_from_S (t : TypeId) (l : List UInt8) (k : IntKind) (i : Int) (h : P.underlying t = some .string) :
    (Instr.slice t (.string (S l)) (some (.int k i)) none none).run P w =
      if 0 ≤ i ∧ i ≤ (l.length : Int) then .ok (.string (S (l.drop i.toNat))) w else ((boundsPanic k i l.length .sliceB : Sem Nat).run P w).andThen fun a w' => .ok (.string (S (l.drop a))) w' := by
  rw [run_slice_string_from_if w t _ k i h]; simp only [S_size, S_from]
@[go_sem high] theorem run_to_S (t : TypeId) (l : List UInt8) (k : IntKind) (j : Int) (h : P.underlying t = some .string) :
    (Instr.slice t (.string (S l)) none (some (.int k j)) none).run P w =
      if 0 ≤ j ∧ j ≤ (l.length : Int) then .ok (.string (S (l.take j.toNat))) w else ((boundsPanic k j l.length .sliceAlen : Sem Nat).run P w).andThen fun a w' => .ok (.string (S (l.take a))) w' := by
  rw [run_slice_string_to_if w t _ k j h]; simp only [S_size, S_to]
@[go_sem high] theorem run_slice_S (t : TypeId) (l : List UInt8) (k k' : IntKind) (i j : Int) (h : P.underlying t = some .string) :
    (Instr.slice t (.string (S l)) (some (.int k i)) (some (.int k' j)) none).run P w =
      if 0 ≤ j ∧ j ≤ (l.length : Int) then
        (if 0 ≤ i ∧ i ≤ j then .ok (.string (S ((l.take j.toNat).drop i.toNat))) w
         else ((boundsPanic k i j.toNat .sliceB : Sem Nat).run P w).andThen fun a w' => .ok (.string (S ((l.take j.toNat).drop a))) w')
      else ((boundsPanic k' j l.length .sliceAlen : Sem Nat).run P w).andThen fun b w' =>
        ((Instr.sliceBound (.int k i) b .sliceB).run P w').andThen fun a w'' => .ok (.string (S ((l.take b).drop a))) w'' := by
  rw [run_slice_string_if w t _ k k' i j h]; simp only [S_size, S_extract]
end
attribute [go_sem] S_size S_toList S_append S_get

theorem u8_all {p : UInt8 → Prop} (h : ∀ n : Fin 256, p (UInt8.ofNat n)) (c : UInt8) : p c := by
  have := h ⟨c.toNat, c.toNat_lt⟩
  simpa using this

theorem byte_yes {c : UInt8} {z : Int} (d : UInt8) (h : ((c.toNat : Int) == z) = true) (hz : z = (d.toNat : Int) := by decide) : c = d := by
  rw [beq_iff_eq, hz] at h; exact UInt8.toNat_inj.1 (by omega)
theorem byte_no {c : UInt8} {z : Int} (d : UInt8) (h : ((c.toNat : Int) == z) = false) (hz : z = (d.toNat : Int) := by decide) : c ≠ d := by
  intro e; subst e; rw [hz] at h; simp at h

theorem bcell {W w1 : World} (hb : Below W.heap.size W w1) : (∀ b o, b < W.heap.size → w1.cell? ⟨b, o, none⟩ = W.cell? ⟨b, o, none⟩) ∧ (∀ b o, b < W.heap.size → w1.frozen? ⟨b, o, none⟩ = W.frozen? ⟨b, o, none⟩) :=
  ⟨fun b o h => hb.cell (p := ⟨b, o, none⟩) h, fun b o h => hb.frozen (p := ⟨b, o, none⟩) h⟩

/-- Nothing that was there has turned. -/
theorem bel_then {w W w1 : World} (h : Below w.heap.size w W) (k : Below W.heap.size W w1) : Below w.heap.size w w1 := h.trans (k.mono h.size)
theorem bel_alloc {w W : World} (h : Below w.heap.size w W) (o : Obj) : Below w.heap.size w (W.alloc o) := h.alloc h.size o
theorem bel_set {w W : World} (h : Below w.heap.size w W) (a : Addr) (u : Value) (ha : w.heap.size ≤ a.block) : Below w.heap.size w (W.setCell a u) := h.setCell ha u
theorem bel_drew {w W : World} (h : Below w.heap.size w W) : Below w.heap.size w W.drew := h.drew

theorem bel_drewN {w W : World} (h : Below w.heap.size w W) (n : Nat) : Below w.heap.size w (W.drewN n) := ⟨h.os, h.tape, h.output, h.size, h.block⟩
/-- To stop a walk at a store of a type, at a conversion: the goal turns into False. -/
theorem stop_store {P : Program} {ops : Array Oper} {Q : Exit → Act → World → Prop} {rest : List Oper} {a : Act} {w : World} {d : Option Tmp} {x y : Operand} {ty : TypeId} {pos : String} {after : Array Edge} {g : Option (Nat × Bool)} (t : TypeId)
    (h : (wpList P ops Q (⟨d, .store t x y, ty, pos, after, g⟩ :: rest) a w → False) → False) : wpList P ops Q (⟨d, .store t x y, ty, pos, after, g⟩ :: rest) a w := Classical.byContradiction h
theorem stop_convert {P : Program} {ops : Array Oper} {Q : Exit → Act → World → Prop} {rest : List Oper} {a : Act} {w : World} {d : Option Tmp} {x : Operand} {ty : TypeId} {pos : String} {after : Array Edge} {g : Option (Nat × Bool)} (s t : TypeId)
    (h : (wpList P ops Q (⟨d, .convert s t x, ty, pos, after, g⟩ :: rest) a w → False) → False) : wpList P ops Q (⟨d, .convert s t x, ty, pos, after, g⟩ :: rest) a w := Classical.byContradiction h

theorem ret_bool {a b : Bool} (h : a = b) : Ending.returned (.bool a) = .returned (.bool b) := by rw [h]
theorem ret_int {k : IntKind} {a b : Int} (h : a = b) : Ending.returned (.int k a) = .returned (.int k b) := by rw [h]
theorem ret_str {a b : List UInt8} (h : a = b) : Ending.returned (.string (S a)) = .returned (.string (S b)) := by rw [h]

end Go.Proofs.YtplnfepdikbpfaaGreatDoor
