/- A world in which the rows' listed variables are laid: for every row's witness. An argument that is a type, opened; the world's tables, out of what is laid. An api.Scheme argument opened; the range of ints. A []api.Bind argument opened. -/
import Derived.Test.YtplnfepdikbpfaaGreatDoorRows
import Derived.Test.YtplnfepdikbpfaaGreatDoorBase
import Derived.ProofKit
import Derived.LaidLaws
import Derived.LaidHandle
import Derived.Stop.Joined
import Derived.Test.YtplnfepdikbpfaaGreatDoorUL
import Derived.Test.YtplnfepdikbpfaaGreatDoorBD
import Derived.Deep.SlicePairs
import Derived.ChangeOld
import Derived.SizedLaws
import Derived.Lib.LaidTab
namespace Go.Proofs.YtplnfepdikbpfaaGreatDoor
open Go.ChangeShapes Go.WideShapes Go.ChangeAt Go.RowKit

theorem Tryz.own : ownKnob Tryz.prog.godebug = none := by kernel_rfl
theorem Tryz.laidOut : laidOutB Tryz.prog = true := by kernel_rfl

/-- What the rows list. -/
def laidL {H : Type} : List (String × DataW H) := [("math/bits.deBruijn32tab", Rows.laid_math_bits_deBruijn32tab), ("math/bits.deBruijn64tab", Rows.laid_math_bits_deBruijn64tab), ("internal/strconv.uint64pow10", Rows.laid_internal_strconv_uint64pow10), ("strconv.ErrRange", Rows.laid_strconv_ErrRange), ("strconv.ErrSyntax", Rows.laid_strconv_ErrSyntax)]

/-- The cells that a datum of literals stands for. -/
def cellsD : DataW Unit → List Value
  | .agg ds => ds.filterMap fun d => match d with | .lit v => (match v with | .int k n => some (.int k n) | _ => none) | _ => none
  | _ => []

noncomputable def low : Nat := (World.holding Tryz.prog default ⟨#[], #[], []⟩).heap.size
def rangeS : ByteArray := ⟨#[118, 97, 108, 117, 101, 32, 111, 117, 116, 32, 111, 102, 32, 114, 97, 110, 103, 101]⟩
def syntaxS : ByteArray := ⟨#[105, 110, 118, 97, 108, 105, 100, 32, 115, 121, 110, 116, 97, 120]⟩
def setRow (cs : Array Value) : Obj → Obj
  | .cells _ t frozen => .cells cs t frozen
  | o => o
noncomputable def laidWorld (os : Os) : World :=
  let w0 := World.holding Tryz.prog os ⟨#[.cells #[.string syntaxS] 232, .cells #[.string rangeS] 232], #[], []⟩
  { w0 with heap := ((((w0.heap.modify 0 (setRow #[.iface 230 (.pointer (some ⟨low, 0, none⟩))])).modify 1 (setRow #[.iface 230 (.pointer (some ⟨low + 1, 0, none⟩))])).modify 2
      (setRow (cellsD Rows.laid_internal_strconv_uint64pow10).toArray)).modify 3 (setRow (cellsD Rows.laid_math_bits_deBruijn32tab).toArray)).modify 4 (setRow (cellsD Rows.laid_math_bits_deBruijn64tab).toArray) }
set_option maxRecDepth 100000 in
theorem laidWorld_met (os : Os) (args : Array Value) : laidMet Tryz.prog laidL ((laidWorld os).forCall (fun _ _ => 0) ⟨#[], args, []⟩).memory :=
  laidMet_of_run' 8 (by kernel_rfl) (by kernel_rfl)

end Go.Proofs.YtplnfepdikbpfaaGreatDoor

namespace Go.Proofs.YtplnfepdikbpfaaGreatDoor
open Go.ChangeShapes Go.WideShapes Go.ChangeAt Go.RowKit Go.WideMaps Go.WideElems Go.Deep
set_option linter.unusedVariables false
set_option linter.unusedSimpArgs false

theorem trod_any_lt {H : Type} {enc : TypeId × Value → H} {W : World} {t : TypeId} {v : Value} {d : DataW H} {ps : List MemPlace} (h : DataW.Trod enc Tryz.prog W 0 (fun _ => true) true t v d ps) : ∀ x ∈ ps, x.block < W.heap.size := by
  obtain ⟨fuel, hf⟩ := h
  exact fun x hx => DataW.trod_lt _ _ _ _ hf x hx
theorem weightsAll_mem {H : Type} {P : Program} {e : TypeId} : ∀ {l : List (DataW H)} {d : DataW H}, d ∈ l → ∀ n ∈ d.weights P e, n ∈ DataW.weightsAll P e l
  | [], d, h, n, hn => by simp at h
  | a :: l, d, h, n, hn => by
    simp only [DataW.weightsAll, List.mem_append]
    rcases List.mem_cons.1 h with rfl | h
    · exact .inl hn
    · exact .inr (weightsAll_mem h n hn)

theorem cellsI : Tryz.prog.cellsOf 3 = 1 := by kernel_rfl
theorem cellsS : Tryz.prog.cellsOf 9 = 1 := by kernel_rfl
theorem cellsL : Tryz.prog.cellsOf 22 = 1 := by kernel_rfl
theorem cellsT : Tryz.prog.cellsOf 24 = 5 := by kernel_rfl
theorem bytesT : Tryz.prog.bytesOf 24 = 72 := by kernel_rfl

theorem list5 {α : Type} {l : List α} (h : l.length = 5) : ∃ a b c d e, l = [a, b, c, d, e] := by
  match l, h with
  | [a, b, c, d, e], _ => exact ⟨a, b, c, d, e, rfl⟩
theorem ty_of_cells {H : Type} {enc : TypeId × Value → H} {W : World} : ∀ (N fuel : Nat) (cs : List Value) (d : DataW H) (ps : List MemPlace), SizeOf.sizeOf d ≤ N → DataW.trod enc Tryz.prog W 0 (fun _ => true) true fuel 24 cs = some (d, ps) →
    (∀ n ∈ d.weights Tryz.prog 24, n ≤ reachBytes) →
    ∃ (t : Ty) (A : Option Addr) (c : Nat), cs = [.int .i64 t.kind, .string (S t.mod), .string (S t.name), .slice A t.args.length c, .int .i64 t.var] ∧ Ok1 t ∧ Rd W (.slice A t.args.length c) t.args := by
  intro N
  induction N with
  | zero => intro fuel cs d ps hs; cases d <;> simp at hs
  | succ N ih =>
    intro fuel cs d ps hs h hw
    obtain ⟨xs, n, hk, hxy, hcl, hxl, hf⟩ := DataW.trod_struct Tryz.underlying24 h
    rw [cellsT] at hcl
    have hxl5 : xs.length = 5 := hxl
    obtain ⟨v0, v1, v2, v3, v4, rfl⟩ := list5 hcl
    obtain ⟨y0, y1, y2, y3, y4, rfl⟩ := list5 hxl5
    have g0 := hf 0 _ rfl
    have g1 := hf 1 _ rfl
    have g2 := hf 2 _ rfl
    have g3 := hf 3 _ rfl
    have g4 := hf 4 _ rfl
    clear hf hxl hxl5 hcl h
    simp [cellsI, cellsS, cellsL] at g0 g1 g2 g3 g4
    obtain ⟨k, e0, -, -⟩ := DataW.trod_int Tryz.underlying3 g0
    obtain ⟨m, e1, hy1, -⟩ := DataW.trod_string Tryz.underlying9 g1
    obtain ⟨nm, e2, hy2, -⟩ := DataW.trod_string Tryz.underlying9 g2
    obtain ⟨vv, e4, -, -⟩ := DataW.trod_int Tryz.underlying3 g4
    simp only [List.cons.injEq, and_true] at e0 e1 e2 e4
    subst e0 e1 e2 e4
    have hd : d = .agg [y0.1, y1.1, y2.1, y3.1, y4.1] := congrArg Prod.fst hxy
    have hwe : (DataW.weightsEach Tryz.prog [3, 9, 9, 22, 3] [y0.1, y1.1, y2.1, y3.1, y4.1]).all (· ≤ reachBytes) = true := by
      rw [List.all_eq_true]
      intro z hz
      have : z ≤ reachBytes := hw z (by rw [hd]; unfold DataW.weights; rw [Tryz.underlying24]; exact hz)
      simpa using this
    have hm1 : m.data.toList.length ≤ reachBytes := sized_string hwe (j := 1) rfl (by rw [hy1]; rfl)
    have hm2 : nm.data.toList.length ≤ reachBytes := sized_string hwe (j := 2) rfl (by rw [hy2]; rfl)
    have hok : ∀ ts : List Ty, Ok1 (.mk k m.data.toList nm.data.toList ts vv) := fun ts => by unfold reachBytes at hm1 hm2; exact ⟨by simp only [Ty.mod]; omega, by simp only [Ty.name]; omega⟩
    rcases open_slice Tryz.underlying22 g3 with ⟨hc, -⟩ | ⟨a, len, cap, m', n', D, Pl, hc, -, hl, hmx, hmm, hx, hall⟩
    · simp only [List.cons.injEq, and_true] at hc
      subst hc
      exact ⟨.mk k m.data.toList nm.data.toList [] vv, none, 0, by simp only [Ty.kind, Ty.mod, Ty.name, Ty.args, Ty.var, S_eta, List.length_nil], hok _, RdL_nil _ _⟩
    · simp only [List.cons.injEq, and_true] at hc
      subst hc
      simp only [if_true] at hmm
      subst hmm
      rw [cellsT] at hall
      have hy3 : y3.1 = .slice ((List.range len).map D) ((List.range (m' - len)).map fun j => D (len + j)) := congrArg Prod.fst hx
      have hsz := sized_slice hwe (j := 3) rfl (congrArg some hy3) Tryz.underlying22
      rw [bytesT] at hsz
      simp only [List.length_map, List.length_range] at hsz
      have hlen : len ≤ 9223372036854775000 := by unfold reachBytes at hsz; omega
      have each : ∀ i, i < len → ∃ q : Ty × Option Addr × Nat, W.cells? 0 (a.add (i * 5)) 5 = some [.int .i64 q.1.kind, .string (S q.1.mod), .string (S q.1.name), .slice q.2.1 q.1.args.length q.2.2, .int .i64 q.1.var] ∧ Ok1 q.1 ∧ Rd W (.slice q.2.1 q.1.args.length q.2.2) q.1.args := fun i hi => by
        obtain ⟨cs', h1, h2⟩ := hall i (by omega)
        have hmem : D i ∈ (List.range len).map D := List.mem_map_of_mem (List.mem_range.2 hi)
        have hs1 := List.sizeOf_lt_of_mem hmem
        have hs2 : SizeOf.sizeOf (D i) ≤ N := by
          rw [hd, hy3] at hs
          simp at hs
          omega
        have hwi : ∀ z ∈ (D i).weights Tryz.prog 24, z ≤ reachBytes := fun z hz => by
          have h3 : z ∈ y3.1.weights Tryz.prog 22 := by
            rw [hy3]; unfold DataW.weights; rw [Tryz.underlying22]
            exact List.mem_cons_of_mem _ (List.mem_append_left _ (weightsAll_mem hmem z hz))
          have h4 := List.all_eq_true.1 hwe z (DataW.weights_mem_each (j := 3) rfl rfl z h3)
          simpa using h4
        obtain ⟨t, A, c, h3, h4, h5⟩ := ih n' cs' (D i) (Pl i) hs2 h2 hwi
        exact ⟨(t, A, c), by rw [h1, h3], h4, h5⟩
      obtain ⟨q, hq⟩ := choose_lt each
      refine ⟨.mk k m.data.toList nm.data.toList ((List.range len).map fun i => (q i).1) vv, some a, m', by simp only [Ty.kind, Ty.mod, Ty.name, Ty.args, Ty.var, S_eta, List.length_map, List.length_range], hok _, ?_⟩
      simp only [Ty.args]
      refine ⟨some a, m', by simp, ⟨by simpa using hlen, by simpa using hl⟩, fun hne => ?_⟩
      have h0 : 0 < len := by
        cases len with
        | zero => exact absurd rfl hne
        | succ l => omega
      obtain ⟨b, off, spot⟩ := a
      have hc0 := (World.cells?_some (hq 0 h0).1).2.2 0 (by omega)
      rw [add_add] at hc0
      have hc0' : W.cell? ((⟨b, off, spot⟩ : Addr).add 0) = some (.int .i64 (q 0).1.kind) := hc0
      have hspot : spot = none := by simpa [Addr.add] using World.cell?_spot hc0'
      subst hspot
      have hadd : ∀ i j, ((⟨b, off, none⟩ : Addr).add i).add j = ⟨b, off + i + j, none⟩ := by intro i j; rw [add_add, add_plain, Nat.add_assoc]
      refine ⟨b, off, rfl, ?_, RdF_of fun i hi => ?_⟩
      · have := block_lt_of_cell hc0'
        simpa [Addr.add] using this
      · have hi' : i < len := by simpa using hi
        have e : tyAt ((List.range len).map fun i => (q i).1) i = (q i).1 := by simp [tyAt, List.getD_eq_getElem?_getD, List.getElem?_range hi']
        have hcc := (World.cells?_some (hq i hi').1).2.2
        simp only [hadd] at hcc
        rw [e, RdT_def]
        exact ⟨hcc 0 (by omega), hcc 1 (by omega), hcc 2 (by omega), (hq i hi').2.1, ⟨_, hcc 3 (by omega), (hq i hi').2.2⟩, hcc 4 (by omega)⟩
theorem ty_of_trod {H : Type} {enc : TypeId × Value → H} {W : World} {v : Value} {d : DataW H} {ps : List MemPlace} (hv : ∃ x0 x1 x2 x3 x4, v = .agg #[x0, x1, x2, x3, x4]) (h : DataW.Trod enc Tryz.prog W 0 (fun _ => true) true 24 v d ps) (hw : ∀ n ∈ d.weights Tryz.prog 24, n ≤ reachBytes) : ∃ t, RdV W v t := by
  obtain ⟨fuel, hf⟩ := h
  obtain ⟨x0, x1, x2, x3, x4, rfl⟩ := hv
  have hc : (Value.agg #[x0, x1, x2, x3, x4]).cells.toList = [x0, x1, x2, x3, x4] := by simp [Value.cells]
  rw [hc] at hf
  obtain ⟨t, A, c, h1, h2, h3⟩ := ty_of_cells (SizeOf.sizeOf d) fuel _ d ps (Nat.le_refl _) hf hw
  simp only [List.cons.injEq, and_true] at h1
  obtain ⟨rfl, rfl, rfl, rfl, rfl⟩ := h1
  exact ⟨t, h2, A, c, rfl, h3⟩

set_option maxRecDepth 100000 in
theorem ty_arg {H : Type} {enc : TypeId × Value → H} {W : World} {r : Reach} {base : Nat} {v : Value} {d : DataW H} {ps : List MemPlace} (hv : Value.okWide Tryz.prog W r base 24 v) (h : DataW.Trod enc Tryz.prog W 0 (fun _ => true) true 24 v d ps) (hw : ∀ n ∈ d.weights Tryz.prog 24, n ≤ reachBytes) : ∃ t, RdV W v t := by
  obtain ⟨cs, rfl, hs⟩ := okWide_struct Tryz.underlying24 hv
  rw [cellsT] at hs
  obtain ⟨a, b, c, e, f, hl⟩ := list5 (l := cs.toList) (by simpa using hs)
  have : cs = #[a, b, c, e, f] := Array.toList_inj.1 hl
  subst this
  exact ty_of_trod ⟨a, b, c, e, f, rfl⟩ h hw

/-- The world's tables. -/
theorem env_of_laid {W : World} (h : laidMet Tryz.prog laidL W) : EnvB W.heap.size W := by
  obtain ⟨ps, hv, -, -⟩ := h
  unfold laidL at hv
  obtain ⟨g0, t0, cs0, f0, p0, q0, hg0, ht0, hv0, hd0, hr0, e0⟩ := hv
  obtain ⟨g1, t1, cs1, f1, p1, q1, hg1, ht1, hv1, hd1, hr1, e1⟩ := hr0
  obtain ⟨g2, t2, cs2, f2, p2, q2, hg2, ht2, hv2, hd2, hr2, e2⟩ := hr1
  obtain ⟨g3, t3, cs3, f3, p3, q3, hg3, ht3, hv3, hd3, hr3, e3⟩ := hr2
  obtain ⟨g4, t4, cs4, f4, p4, q4, hg4, ht4, hv4, hd4, hr4, e4⟩ := hr3
  have k2 : Tryz.prog.globalNamed "internal/strconv.uint64pow10" = some 2 := by kernel_rfl
  have k3 : Tryz.prog.globalNamed "strconv.ErrRange" = some 1 := by kernel_rfl
  have k4 : Tryz.prog.globalNamed "strconv.ErrSyntax" = some 0 := by kernel_rfl
  have m3 : (Tryz.prog.globals[1]?).map (·.type) = some 143 := by kernel_rfl
  have m4 : (Tryz.prog.globals[0]?).map (·.type) = some 143 := by kernel_rfl
  obtain rfl := Option.some.inj (k3.symm.trans hg3)
  obtain rfl := Option.some.inj (k4.symm.trans hg4)
  obtain rfl := Option.some.inj (m3.symm.trans ht3)
  obtain rfl := Option.some.inj (m4.symm.trans ht4)
  obtain ⟨f, u, v, hcs, -, -⟩ := iface_of_trod Tryz.underlying143 hd3
  obtain ⟨f', u', v', hcs', -, -⟩ := iface_of_trod Tryz.underlying143 hd4
  have m2 : (Tryz.prog.globals[2]?).map (·.type) = some 238 := by kernel_rfl
  obtain rfl := Option.some.inj (k2.symm.trans hg2)
  obtain rfl := Option.some.inj (m2.symm.trans ht2)
  have e5 : (Rows.laid_internal_strconv_uint64pow10 : DataW Unit) = Lib.tabData .u64 Lib.pow10Tab := by kernel_rfl
  rw [e5] at hd2
  have hc2 := Lib.cells_of_tab Tryz.underlying238 Tryz.underlying184 (by kernel_rfl) (by kernel_rfl) hd2
  have htab : TabW W := by
    unfold TabW Lib.TabIs
    rw [hv2, ← hc2]
  have cell_of : ∀ (nm : String) (g : Nat) (cs : Array Value) (x : Value), Tryz.prog.globalNamed nm = some g → W.var? Tryz.prog nm = some cs → cs.toList = [x] → ∀ X, Below W.heap.size W X → X.cell? ⟨g, 0, none⟩ = some x := by
    intro nm g cs x h1 h2 h3 X hX
    unfold World.var? at h2
    rw [h1] at h2
    simp only [Option.bind_some] at h2
    have hx : W.cell? ⟨g, 0, none⟩ = some x ∧ g < W.heap.size := by
      cases hh : W.heap[g]? with
      | none => rw [hh] at h2; cases h2
      | some o =>
        rw [hh] at h2
        cases o with
        | cells c t f =>
          obtain rfl := Option.some.inj h2
          have hlt := (Array.getElem?_eq_some_iff.1 hh).1
          refine ⟨?_, hlt⟩
          have : c = #[x] := Array.toList_inj.1 h3
          subst this
          simp [World.cell?, hh]
        | _ => cases h2
    exact (hX.cell (p := ⟨g, 0, none⟩) hx.2).trans hx.1
  exact fun X hX => ⟨htab.called hX, ⟨_, _, cell_of _ 0 cs4 _ k4 hv4 hcs' X hX⟩, ⟨_, _, cell_of _ 1 cs3 _ k3 hv3 hcs X hX⟩⟩

end Go.Proofs.YtplnfepdikbpfaaGreatDoor

namespace Go.Proofs.YtplnfepdikbpfaaGreatDoor
open Go.ChangeShapes Go.WideShapes Go.ChangeAt Go.RowKit Go.WideMaps Go.WideElems Go.Deep
set_option linter.unusedVariables false
set_option linter.unusedSimpArgs false

theorem int_range {z : Int} (h : (Lit.int .i64 z).wf = true) : -9223372036854775808 ≤ z ∧ z ≤ 9223372036854775807 := by
  have h2 : (decide (IntKind.i64.min ≤ z) && decide (z ≤ IntKind.i64.max)) = true := h
  have e1 : IntKind.i64.min = -9223372036854775808 := by decide
  have e2 : IntKind.i64.max = 9223372036854775807 := by decide
  rw [e1, e2] at h2
  simpa using h2
theorem u16_range {z : Int} (h : (Lit.int .u16 z).wf = true) : 0 ≤ z ∧ z < 65536 := by
  have h2 : (decide (IntKind.u16.min ≤ z) && decide (z ≤ IntKind.u16.max)) = true := h
  have e1 : IntKind.u16.min = 0 := by decide
  have e2 : IntKind.u16.max = 65535 := by decide
  rw [e1, e2] at h2
  simp only [Bool.and_eq_true, decide_eq_true_eq] at h2
  omega

theorem cellsSch : Tryz.prog.cellsOf 57 = 6 := by kernel_rfl
theorem list6 {α : Type} {l : List α} (h : l.length = 6) : ∃ a b c d e f, l = [a, b, c, d, e, f] := by
  match l, h with
  | [a, b, c, d, e, f], _ => exact ⟨a, b, c, d, e, f, rfl⟩
set_option maxRecDepth 100000 in
theorem sch_arg {H : Type} {enc : TypeId × Value → H} {W : World} {r : Reach} {base : Nat} {v : Value} {d : DataW H} {ps : List MemPlace} (hv : Value.okWide Tryz.prog W r base 57 v) (h : DataW.Trod enc Tryz.prog W 0 (fun _ => true) true 57 v d ps) (hw : ∀ n ∈ d.weights Tryz.prog 57, n ≤ reachBytes) :
    ∃ (n : Int) (t : Ty) (A : Option Addr) (c : Nat), v = .agg #[.int .i64 n, .int .i64 t.kind, .string (S t.mod), .string (S t.name), .slice A t.args.length c, .int .i64 t.var] ∧ Ok1 t ∧ Rd W (.slice A t.args.length c) t.args := by
  obtain ⟨cs, rfl, hs⟩ := okWide_struct Tryz.underlying57 hv
  rw [cellsSch] at hs
  obtain ⟨a, b, c, e, f, g, hl⟩ := list6 (l := cs.toList) (by simpa using hs)
  have : cs = #[a, b, c, e, f, g] := Array.toList_inj.1 hl
  subst this
  obtain ⟨fuel, hf⟩ := h
  have hc : (Value.agg #[a, b, c, e, f, g]).cells.toList = [a, b, c, e, f, g] := by simp [Value.cells]
  rw [hc] at hf
  obtain ⟨xs, n, hk, hxy, hcl, hxl, hf⟩ := DataW.trod_struct Tryz.underlying57 hf
  have hxl2 : xs.length = 2 := hxl
  obtain ⟨y0, y1, rfl⟩ : ∃ y0 y1, xs = [y0, y1] := by
    match xs, hxl2 with
    | [y0, y1], _ => exact ⟨y0, y1, rfl⟩
  have g0 := hf 0 _ rfl
  have g1 := hf 1 _ rfl
  clear hf hxl hxl2 hcl
  simp [cellsI, cellsT] at g0 g1
  obtain ⟨k, e0, -, -⟩ := DataW.trod_int Tryz.underlying3 g0
  simp only [List.cons.injEq, and_true] at e0
  subst e0
  have hd : d = .agg [y0.1, y1.1] := congrArg Prod.fst hxy
  obtain ⟨t, A, c2, h1, h2, h3⟩ := ty_of_cells (SizeOf.sizeOf y1.1) n _ y1.1 y1.2 (Nat.le_refl _) g1 (fun z hz => hw z (by
    rw [hd]; unfold DataW.weights; rw [Tryz.underlying57]
    exact DataW.weights_mem_each (j := 1) rfl rfl z hz))
  simp only [List.cons.injEq, and_true] at h1
  obtain ⟨rfl, rfl, rfl, rfl, rfl⟩ := h1
  exact ⟨k, t, A, c2, rfl, h2, h3⟩

end Go.Proofs.YtplnfepdikbpfaaGreatDoor

namespace Go.Proofs.YtplnfepdikbpfaaGreatDoor
open Go.ChangeShapes Go.WideShapes Go.ChangeAt Go.RowKit Go.WideMaps Go.WideElems Go.Deep
set_option linter.unusedVariables false
set_option linter.unusedSimpArgs false

theorem cellsBd : Tryz.prog.cellsOf 52 = 6 := by kernel_rfl
theorem bytesBd : Tryz.prog.bytesOf 52 = 80 := by kernel_rfl
set_option maxRecDepth 100000 in
theorem bd_arg {H : Type} {enc : TypeId × Value → H} {W : World} {v : Value} {d : DataW H} {ps : List MemPlace} (hv : ∃ a len cap, v = .slice a len cap) (h : DataW.Trod enc Tryz.prog W 0 (fun _ => true) true 25 v d ps)
    (hsz : ∀ es sp, d = .slice es sp → (es.length + sp.length) * 80 ≤ reachBytes) (hw : ∀ n ∈ d.weights Tryz.prog 25, n ≤ reachBytes) : ∃ L, RdBw W v L := by
  obtain ⟨ao, nn, cc, rfl⟩ := hv
  obtain ⟨fuel, hf⟩ := h
  have hcells : (Value.slice ao nn cc).cells.toList = [.slice ao nn cc] := by simp [Value.cells]
  rw [hcells] at hf
  rcases open_slice Tryz.underlying25 hf with ⟨hc, -⟩ | ⟨a, len, cap, m', n', D, Pl, hc, -, hl, hmx, hmm, hx, hall⟩
  · simp only [List.cons.injEq, and_true, Value.slice.injEq] at hc
    obtain ⟨rfl, rfl, rfl⟩ := hc
    exact ⟨[], RdB.nil _ _⟩
  · simp only [List.cons.injEq, and_true, Value.slice.injEq] at hc
    obtain ⟨rfl, rfl, rfl⟩ := hc
    simp only [if_true] at hmm
    subst hmm
    rw [cellsBd] at hall
    have hd : d = .slice ((List.range nn).map D) ((List.range (m' - nn)).map fun j => D (nn + j)) := congrArg Prod.fst hx
    have hb := hsz _ _ hd
    simp only [List.length_map, List.length_range] at hb
    have hlen : nn ≤ 9223372036854775000 := by unfold reachBytes at hb; omega
    have each : ∀ i, i < nn → ∃ q : Int × Ty × Option Addr × Nat, W.cells? 0 (a.add (i * 6)) 6 = some [.int .i64 q.1, .int .i64 q.2.1.kind, .string (S q.2.1.mod), .string (S q.2.1.name), .slice q.2.2.1 q.2.1.args.length q.2.2.2, .int .i64 q.2.1.var] ∧ Ok1 q.2.1 ∧ Rd W (.slice q.2.2.1 q.2.1.args.length q.2.2.2) q.2.1.args := fun i hi => by
      obtain ⟨cs', h1, h2⟩ := hall i (by omega)
      have hmem : D i ∈ (List.range nn).map D := List.mem_map_of_mem (List.mem_range.2 hi)
      have hwi : ∀ z ∈ (D i).weights Tryz.prog 52, z ≤ reachBytes := fun z hz => by
        refine hw z ?_
        rw [hd]; unfold DataW.weights; rw [Tryz.underlying25]
        exact List.mem_cons_of_mem _ (List.mem_append_left _ (weightsAll_mem hmem z hz))
      obtain ⟨xs, n2, hk, hxy, hcl, hxl, hg⟩ := DataW.trod_struct Tryz.underlying52 h2
      rw [cellsBd] at hcl
      obtain ⟨v0, v1, v2, v3, v4, v5, rfl⟩ := list6 hcl
      have hxl2 : xs.length = 2 := hxl
      obtain ⟨y0, y1, rfl⟩ : ∃ y0 y1, xs = [y0, y1] := by
        match xs, hxl2 with
        | [y0, y1], _ => exact ⟨y0, y1, rfl⟩
      have g0 := hg 0 _ rfl
      have g1 := hg 1 _ rfl
      simp [cellsI, cellsT] at g0 g1
      obtain ⟨k, e0, -, -⟩ := DataW.trod_int Tryz.underlying3 g0
      simp only [List.cons.injEq, and_true] at e0
      subst e0
      have hdi : D i = .agg [y0.1, y1.1] := congrArg Prod.fst hxy
      obtain ⟨t, A, c2, h3, h4, h5⟩ := ty_of_cells (SizeOf.sizeOf y1.1) n2 _ y1.1 y1.2 (Nat.le_refl _) g1 (fun z hz => hwi z (by
        rw [hdi]; unfold DataW.weights; rw [Tryz.underlying52]
        exact DataW.weights_mem_each (j := 1) rfl rfl z hz))
      simp only [List.cons.injEq, and_true] at h3
      obtain ⟨rfl, rfl, rfl, rfl, rfl⟩ := h3
      exact ⟨(k, t, A, c2), by rw [h1], h4, h5⟩
    obtain ⟨q, hq⟩ := choose_lt each
    refine ⟨(List.range nn).map fun i => ((q i).1, (q i).2.1), some a, m', by simp, ⟨by simpa using hlen, by simpa using hl⟩, fun hne => ?_⟩
    have h0 : 0 < nn := by
      cases nn with
      | zero => exact absurd rfl hne
      | succ l => omega
    obtain ⟨b, off, spot⟩ := a
    have hc0 := (World.cells?_some (hq 0 h0).1).2.2 0 (by omega)
    rw [add_add] at hc0
    have hc0' : W.cell? ((⟨b, off, spot⟩ : Addr).add 0) = some (.int .i64 (q 0).1) := hc0
    have hspot : spot = none := by simpa [Addr.add] using World.cell?_spot hc0'
    subst hspot
    have hadd : ∀ i j, ((⟨b, off, none⟩ : Addr).add i).add j = ⟨b, off + i + j, none⟩ := by intro i j; rw [add_add, add_plain, Nat.add_assoc]
    refine ⟨b, off, rfl, ?_, fun i x hx => ?_⟩
    · have := block_lt_of_cell hc0'
      simpa [Addr.add] using this
    · rw [List.getElem?_map] at hx
      obtain ⟨j, hj, rfl⟩ := Option.map_eq_some_iff.1 hx
      obtain ⟨hi, rfl⟩ := List.getElem?_eq_some_iff.1 hj
      simp only [List.length_range] at hi
      simp only [List.getElem_range]
      have hcc := (World.cells?_some (hq i hi).1).2.2
      simp only [hadd] at hcc
      refine ⟨hcc 0 (by omega), ?_⟩
      rw [RdT_def]
      exact ⟨hcc 1 (by omega), hcc 2 (by omega), hcc 3 (by omega), (hq i hi).2.1, ⟨_, hcc 4 (by omega), (hq i hi).2.2⟩, hcc 5 (by omega)⟩

end Go.Proofs.YtplnfepdikbpfaaGreatDoor
