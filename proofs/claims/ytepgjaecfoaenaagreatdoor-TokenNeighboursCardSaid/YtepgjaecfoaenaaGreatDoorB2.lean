/- A strings.Builder of the call's own, said of a list of bytes: fresh, written, read. Condition: at most 2^47 bytes. -/
import Derived.Test.YtepgjaecfoaenaaGreatDoorB1
import Derived.Lib.UnsafeStr
namespace Go.Proofs.YtepgjaecfoaenaaGreatDoor
open Go.RowKit
set_option linter.unusedVariables false
set_option linter.unusedSimpArgs false

/-- Block b, one of the call's own (from B on), is a builder that holds these bytes. -/
def BuildL (B b : Nat) (l : List UInt8) (w : World) : Prop := Lib.IsBuilder 99 5 B b (Lib.byteCells l) w

theorem own_base {w : World} {base : Nat} {e : TypeId} {size n : Nat} {v : Value} {xs : List Value} (h : w.ownsRow base e size v n xs) (k : Nat) (hk : v.ownBlock = some k) : base ≤ k := by
  rcases h.2 with ⟨rfl, _⟩ | ⟨g, cap, cur, rfl, hb, _⟩
  · simp [Value.ownBlock] at hk
  · have : g = k := by simpa [Value.ownBlock] using hk
    omega

theorem own_below {w w1 : World} {base : Nat} {e : TypeId} {size n : Nat} {v : Value} {xs : List Value} (h : w.ownsRow base e size v n xs) (hb : Below w.heap.size w w1) : w1.ownsRow base e size v n xs :=
  h.kept (row := none) ⟨hb.os, hb.tape, hb.output, hb.size, fun i hi _ => hb.block i hi⟩ (by cases v.ownBlock <;> simp)

theorem BuildL.lt {B b : Nat} {l : List UInt8} {w : World} (h : BuildL B b l w) : b < w.heap.size := by
  rcases h with h | h <;> exact h.lt
theorem BuildL.below {B b : Nat} {l : List UInt8} {w w1 : World} (h : BuildL B b l w) (hb : Below w.heap.size w w1) : BuildL B b l w1 := by
  have hlt := h.lt
  rcases h with ⟨h1, v, h2, h3, h4⟩ | ⟨h1, v, h2, h3, h4⟩
  · exact .inl ⟨h1, v, by rw [hb.block b hlt]; exact h2, own_below h3 hb, h4⟩
  · exact .inr ⟨h1, v, by rw [hb.block b hlt]; exact h2, own_below h3 hb, h4⟩
theorem BuildL.alloc {B b : Nat} {l : List UInt8} {w : World} (h : BuildL B b l w) (o : Obj) : BuildL B b l (w.alloc o) :=
  h.below ((Below.refl _ _).alloc (Nat.le_refl _) o)
theorem BuildL.fresh (w : World) : BuildL w.heap.size w.heap.size [] (w.alloc (.cells #[.pointer none, .slice none 0 0] 99)) :=
  .inl ⟨Nat.le_refl _, .slice none 0 0, by show (w.heap.push _)[w.heap.size]? = _; simp, ⟨rfl, .inl ⟨rfl, rfl⟩⟩, by simp [Value.ownBlock]⟩

theorem strCells_S (l : List UInt8) : Lib.strCells (S l) = Lib.byteCells l := by unfold Lib.strCells Lib.byteCells; rw [S_data]

theorem builder_Len (B b : Nat) (l : List UInt8) (w : World) (h : BuildL B b l w) :
    Calls Tryz.prog 70 #[.pointer (some ⟨b, 0, none⟩)] w fun e w' => e = .returned (.int .i64 l.length) ∧ w = w' :=
  (Tryz.Builder_Len B b _ w h).mono fun e w' ⟨h1, h2⟩ => ⟨by rw [h1, Lib.byteCells_length], h2.symm⟩

theorem builder_Write (B b : Nat) (l s : List UInt8) (w : World) (h : BuildL B b l w) (hlen : l.length + s.length ≤ 140737488355328) (hB : B ≤ w.heap.size) :
    Calls Tryz.prog 71 #[.pointer (some ⟨b, 0, none⟩), .string (S s)] w fun e w' => e = .returned (.tuple #[.int .i64 s.length, .nilIface]) ∧ BuildL B b (l ++ s) w' ∧ Below B w w' :=
  (builderWriteString B b _ (S s) w h (by rw [Lib.byteCells_length, S_size]; exact hlen) hB).mono fun e w' ⟨h1, h2, h3⟩ =>
    ⟨by rw [h1, S_size], .inr (by rw [strCells_S] at h2; simpa [Lib.byteCells] using h2), h3⟩

theorem builder_String (B b : Nat) (l : List UInt8) (w : World) (h : BuildL B b l w) (hB : B ≤ w.heap.size) :
    Calls Tryz.prog 72 #[.pointer (some ⟨b, 0, none⟩)] w fun e w' => e = .returned (.string (S l)) ∧ Below B w w' :=
  Tryz.Builder_String_any B b l w h hB

def BuildF (B b : Nat) (l : List UInt8) (w : World) : Prop := Lib.IsBuilderF 99 5 B b (Lib.byteCells l) w
theorem BuildL.f {B b : Nat} {l : List UInt8} {w : World} (h : BuildL B b l w) : BuildF B b l w := Lib.IsBuilderF.of h

theorem builder_Len_f (B b : Nat) (l : List UInt8) (w : World) (h : BuildF B b l w) :
    Calls Tryz.prog 70 #[.pointer (some ⟨b, 0, none⟩)] w fun e w' => e = .returned (.int .i64 l.length) ∧ w = w' :=
  (Tryz.Builder_Len_f B b _ w h).mono fun e w' ⟨h1, h2⟩ => ⟨by rw [h1, Lib.byteCells_length], h2.symm⟩

theorem builder_String_f (B b : Nat) (l : List UInt8) (w : World) (h : BuildF B b l w) (hB : B ≤ w.heap.size) :
    Calls Tryz.prog 72 #[.pointer (some ⟨b, 0, none⟩)] w fun e w' => e = .returned (.string (S l)) ∧ BuildF B b l w' ∧ Below B w w' :=
  Tryz.Builder_String_any_f B b l w h hB

end Go.Proofs.YtepgjaecfoaenaaGreatDoor
