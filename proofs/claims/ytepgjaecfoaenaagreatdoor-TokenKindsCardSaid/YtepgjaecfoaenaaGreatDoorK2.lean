/- An argument that is a slice of tokens, opened. -/
import Derived.Test.YtepgjaecfoaenaaGreatDoorK0
import Derived.Test.YtepgjaecfoaenaaGreatDoorX
import Derived.ProofKit
import Derived.Deep.SlicePairs
import Derived.ChangeOld
import Derived.SizedLaws
namespace Go.Proofs.YtepgjaecfoaenaaGreatDoor
open Go.ChangeShapes Go.WideShapes Go.ChangeAt Go.RowKit Go.WideMaps Go.WideElems Go.Deep
set_option linter.unusedVariables false
set_option linter.unusedSimpArgs false

theorem trod_token_lt {H : Type} {enc : TypeId × Value → H} {W : World} {t : TypeId} {v : Value} {d : DataW H} {ps : List MemPlace} (h : DataW.Trod enc Tryz.prog W 0 (fun _ => true) true t v d ps) : ∀ x ∈ ps, x.block < W.heap.size := by
  obtain ⟨fuel, hf⟩ := h
  exact fun x hx => DataW.trod_lt _ _ _ _ hf x hx

def kindV : Value → Int | .int _ z => z | _ => 0
def textV : Value → List UInt8 | .string s => s.data.toList | _ => []

theorem toks_of_trod {H : Type} {enc : TypeId × Value → H} {W : World} {v : Value} {d : DataW H} {ps : List MemPlace} (hv : ∃ a len cap, v = .slice a len cap)
    (h : DataW.Trod enc Tryz.prog W 0 (fun _ => true) true 37 v d ps) (hlen : ∀ elems spare, d = .slice elems spare → elems.length ≤ 9223372036854775000) : ∃ ts, ReadT W v ts := by
  obtain ⟨ao, n, c, rfl⟩ := hv
  obtain ⟨fuel, hf⟩ := h
  have hcells : (Value.slice ao n c).cells.toList = [.slice ao n c] := by simp [Value.cells]
  rw [hcells] at hf
  rcases open_slice_pairs Tryz.underlying37 Tryz.underlying23 (by kernel_rfl) rfl rfl (by kernel_rfl) (by kernel_rfl) hf with ⟨hc, hx⟩ | ⟨a, len, cap, m, k, V0, V1, D0, D1, P0, P1, hc, _, hl, hm, hmm, hx, hall⟩
  · simp only [List.cons.injEq, and_true, Value.slice.injEq] at hc
    obtain ⟨rfl, rfl, rfl⟩ := hc
    exact ⟨[], none, 0, rfl, by simp, fun h => by simp at h⟩
  · simp only [List.cons.injEq, and_true, Value.slice.injEq] at hc
    obtain ⟨rfl, rfl, rfl⟩ := hc
    simp only [if_true] at hmm
    subst hmm
    simp only [Prod.mk.injEq] at hx
    have hb := hlen _ _ hx.1
    simp only [List.length_map, List.length_range] at hb
    refine ⟨(List.range n).map fun i => ⟨kindV (V0 i), textV (V1 i)⟩, some a, m, by simp, by simpa using hb, fun h0 => ?_⟩
    simp only [List.length_map, List.length_range] at h0 ⊢
    obtain ⟨b, off, spot⟩ := a
    have hspot : spot = none := by simpa [Addr.add] using World.cell?_spot (hall 0 (by omega)).1
    subst hspot
    refine ⟨b, off, rfl, ?_, fun i hi => ?_⟩
    · have := block_lt_of_cell (hall 0 (by omega)).1
      simpa [Addr.add] using this
    · have hi' := hall i (by omega)
      have hadd : ∀ j, (⟨b, off, none⟩ : Addr).add j = ⟨b, off + j, none⟩ := by intro j; unfold Addr.add; split <;> simp_all
      obtain ⟨z, hV0, -, -⟩ := DataW.trod_int Tryz.underlying3 hi'.2.2.1
      obtain ⟨s, hV1, -, -⟩ := DataW.trod_string Tryz.underlying9 hi'.2.2.2
      simp only [List.cons.injEq, and_true] at hV0 hV1
      have e1 : tokAt ((List.range n).map fun i => (⟨kindV (V0 i), textV (V1 i)⟩ : Tok)) i = ⟨z, s.data.toList⟩ := by
        simp [tokAt, List.getElem?_map, List.getElem?_range hi, hV0, hV1, kindV, textV]
      rw [e1]
      have c0 := hi'.1
      have c1 := hi'.2.1
      rw [hadd, hV0] at c0
      rw [hadd, hV1] at c1
      exact ⟨c0, by rw [S_eta, Nat.add_assoc]; exact c1⟩

theorem int_range {z : Int} (h : (Lit.int .i64 z).wf = true) : -9223372036854775808 ≤ z ∧ z ≤ 9223372036854775807 := by
  have h2 : (decide (IntKind.i64.min ≤ z) && decide (z ≤ IntKind.i64.max)) = true := h
  have e1 : IntKind.i64.min = -9223372036854775808 := by decide
  have e2 : IntKind.i64.max = 9223372036854775807 := by decide
  rw [e1, e2] at h2
  simpa using h2

end Go.Proofs.YtepgjaecfoaenaaGreatDoor
