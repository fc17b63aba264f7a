/- An api.Scheme argument opened; the range of ints. -/
import Derived.Test.YtplnfepdikbpfaaGreatDoorKU
namespace Go.Proofs.YtplnfepdikbpfaaGreatDoor
open Go.ChangeShapes Go.WideShapes Go.ChangeAt Go.RowKit Go.WideMaps Go.WideElems Go.Deep
set_option linter.unusedVariables false
set_option linter.unusedSimpArgs false

theorem int_range {z : Int} (h : (Lit.int .i64 z).wf = true) : -9223372036854775808 ≤ z ∧ z ≤ 9223372036854775807 := by
  have h2 : (decide (IntKind.i64.min ≤ z) && decide (z ≤ IntKind.i64.max)) = true := h
  have e1 : IntKind.i64.min = -9223372036854775808 := by decide
  have e2 : IntKind.i64.max = 9223372036854775807 := by decide
  rw [e1, e2] at h2
  simpa using h2
theorem u16_range {z : Int} (h : (Lit.int .u16 z).wf = true) : 0 ≤ z ∧ z < 65536 := by
  have h2 : (decide (IntKind.u16.min ≤ z) && decide (z ≤ IntKind.u16.max)) = true := h
  have e1 : IntKind.u16.min = 0 := by decide
  have e2 : IntKind.u16.max = 65535 := by decide
  rw [e1, e2] at h2
  simp only [Bool.and_eq_true, decide_eq_true_eq] at h2
  omega

theorem cellsSch : Tryz.prog.cellsOf 57 = 6 := by kernel_rfl
theorem list6 {α : Type} {l : List α} (h : l.length = 6) : ∃ a b c d e f, l = [a, b, c, d, e, f] := by
  match l, h with
  | [a, b, c, d, e, f], _ => exact ⟨a, b, c, d, e, f, rfl⟩
set_option maxRecDepth 100000 in
theorem sch_arg {H : Type} {enc : TypeId × Value → H} {W : World} {r : Reach} {base : Nat} {v : Value} {d : DataW H} {ps : List MemPlace} (hv : Value.okWide Tryz.prog W r base 57 v) (h : DataW.Trod enc Tryz.prog W 0 (fun _ => true) true 57 v d ps) (hw : ∀ n ∈ d.weights Tryz.prog 57, n ≤ reachBytes) :
    ∃ (n : Int) (t : Ty) (A : Option Addr) (c : Nat), v = .agg #[.int .i64 n, .int .i64 t.kind, .string (S t.mod), .string (S t.name), .slice A t.args.length c, .int .i64 t.var] ∧ Ok1 t ∧ Rd W (.slice A t.args.length c) t.args := by
  obtain ⟨cs, rfl, hs⟩ := okWide_struct Tryz.underlying57 hv
  rw [cellsSch] at hs
  obtain ⟨a, b, c, e, f, g, hl⟩ := list6 (l := cs.toList) (by simpa using hs)
  have : cs = #[a, b, c, e, f, g] := Array.toList_inj.1 hl
  subst this
  obtain ⟨fuel, hf⟩ := h
  have hc : (Value.agg #[a, b, c, e, f, g]).cells.toList = [a, b, c, e, f, g] := by simp [Value.cells]
  rw [hc] at hf
  obtain ⟨xs, n, hk, hxy, hcl, hxl, hf⟩ := DataW.trod_struct Tryz.underlying57 hf
  have hxl2 : xs.length = 2 := hxl
  obtain ⟨y0, y1, rfl⟩ : ∃ y0 y1, xs = [y0, y1] := by
    match xs, hxl2 with
    | [y0, y1], _ => exact ⟨y0, y1, rfl⟩
  have g0 := hf 0 _ rfl
  have g1 := hf 1 _ rfl
  clear hf hxl hxl2 hcl
  simp [cellsI, cellsT] at g0 g1
  obtain ⟨k, e0, -, -⟩ := DataW.trod_int Tryz.underlying3 g0
  simp only [List.cons.injEq, and_true] at e0
  subst e0
  have hd : d = .agg [y0.1, y1.1] := congrArg Prod.fst hxy
  obtain ⟨t, A, c2, h1, h2, h3⟩ := ty_of_cells (SizeOf.sizeOf y1.1) n _ y1.1 y1.2 (Nat.le_refl _) g1 (fun z hz => hw z (by
    rw [hd]; unfold DataW.weights; rw [Tryz.underlying57]
    exact DataW.weights_mem_each (j := 1) rfl rfl z hz))
  simp only [List.cons.injEq, and_true] at h1
  obtain ⟨rfl, rfl, rfl, rfl, rfl⟩ := h1
  exact ⟨k, t, A, c2, rfl, h2, h3⟩

end Go.Proofs.YtplnfepdikbpfaaGreatDoor
