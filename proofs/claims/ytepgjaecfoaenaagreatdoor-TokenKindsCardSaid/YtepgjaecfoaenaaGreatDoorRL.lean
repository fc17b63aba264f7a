/- strings.Replacer's build and buildOnce at the pairs of Unquote. The walk of appendSliceWriter's WriteString and getStringWriter; what Unquote's pairs make of a string. -/
import Derived.Test.YtepgjaecfoaenaaGreatDoorG5
import Derived.Test.YtepgjaecfoaenaaGreatDoorQQ
import Derived.Test.YtepgjaecfoaenaaGreatDoorL1
import Derived.Test.YtepgjaecfoaenaaGreatDoorX
namespace Go.Proofs.YtepgjaecfoaenaaGreatDoor
open Go.RowKit
set_option linter.unusedVariables false
set_option linter.unusedSimpArgs false

theorem GS.keep {B R : Nat} {w w' : World} (h : GS B R w) (hb : ∀ k, B ≤ k → k < w.heap.size → w'.heap[k]? = w.heap[k]?) : GS B R w' := by
  obtain ⟨hB, T, m, t, a, b, n, h1, h2, h3, h4, h5, h6, hR, hT, hM, hS, hA, hBn, hN⟩ := h
  exact ⟨hB, T, m, t, a, b, n, h1, h2, h3, h4, h5, h6, World.rowIs.of_block hR (hb R hB (World.rowIs.lt hR)), World.rowIs.of_block hT (hb T h1 (World.rowIs.lt hT)),
    World.rowIs.of_block hM (hb m h2 (World.rowIs.lt hM)), World.rowIs.of_block hS (hb t h3 (World.rowIs.lt hS)), World.rowIs.of_block hA (hb a h4 (World.rowIs.lt hA)),
    World.rowIs.of_block hBn (hb b h5 (World.rowIs.lt hBn)), World.rowIs.of_block hN (hb n h6 (World.rowIs.lt hN))⟩
theorem GS.below {B R : Nat} {w w' : World} (h : GS B R w) (hb : Below w.heap.size w w') : GS B R w' := h.keep fun k _ hk => hb.block k hk
theorem GS.other {B R : Nat} {w : World} (h : GS B R w) (a : Addr) (u : Value) (ha : a.block < B) : GS B R (w.setCell a u) := h.keep fun k hk _ => Below.heap_setCell _ _ _ _ (by omega)
theorem GS.drew {B R : Nat} {w : World} (h : GS B R w) : GS B R w.drew := h.keep fun k _ _ => rfl

set_option maxRecDepth 100000 in
set_option maxHeartbeats 2000000 in
theorem build_unquote (R g c : Nat) (w : World) (hR : R < w.heap.size) (hg : g < w.heap.size)
    (hold : w.cell? ⟨R, 4, none⟩ = some (.slice (some ⟨g, 0, none⟩) 6 c))
    (hs : ∀ k, k < 6 → w.cell? ⟨g, k, none⟩ = some (.string (S (strAt unquoteL k)))) :
    Calls Tryz.prog 75 #[.pointer (some ⟨R, 0, none⟩)] w (fun e w' => ∃ q, e = .returned (.iface 121 (.pointer (some ⟨q, 0, none⟩))) ∧ GS w.heap.size q w' ∧ Below w.heap.size w w') := by
  have HG := Lib.hid (make_generic g c w hg hs)
  have c0 : w.cell? ⟨g, 0, none⟩ = some (.string (S [92, 110])) := hs 0 (by decide)
  clear hs
  go_enter Tryz.func75, Tryz.ntmps75
  go_wp2_with fail
  refine wp_loop_rounds 4 ?_
  rw [rounds_succ]
  go_wp2_with fail
  refine HG.out.mono ?_
  rintro e w' ⟨rfl, hb, hS⟩
  have HB := Lib.hid hb; have HS := Lib.hid hS; clear hb hS
  go_wp2
  go_ret
  exact ⟨_, rfl, HS.out, HB.out⟩

def RepU (B : Nat) (t : TypeId) (q : Nat) (w : World) : Prop := t = 121 ∧ GS B q w

set_option maxHeartbeats 1000000 in
theorem buildOnce_unquote (R g c : Nat) (w : World) (hR : R < w.heap.size) (hg : g < w.heap.size)
    (h3 : w.cell? ⟨R, 3, none⟩ = some .nilIface) (f3 : w.frozen? ⟨R, 3, none⟩ = false) (f4 : w.frozen? ⟨R, 4, none⟩ = false)
    (hold : w.cell? ⟨R, 4, none⟩ = some (.slice (some ⟨g, 0, none⟩) 6 c))
    (hs : ∀ k, k < 6 → w.cell? ⟨g, k, none⟩ = some (.string (S (strAt unquoteL k)))) :
    Calls Tryz.prog 56 #[.pointer (some ⟨R, 0, none⟩)] w (BPost R (RepU w.heap.size) w) := by
  have HB := Lib.hid (build_unquote R g c w hR hg hold hs)
  clear hs
  go_enter Tryz.func56, Tryz.ntmps56
  go_wp2_with fail
  refine HB.out.mono ?_
  rintro e w2 ⟨q, rfl, hS, hb⟩
  have k3 : w2.cell? ⟨R, 3, none⟩ = some .nilIface := by rw [hb.cell (p := ⟨R, 3, none⟩) hR]; exact h3
  have k4 : w2.cell? ⟨R, 4, none⟩ = some (.slice (some ⟨g, 0, none⟩) 6 c) := by rw [hb.cell (p := ⟨R, 4, none⟩) hR]; exact hold
  have z3 : w2.frozen? ⟨R, 3, none⟩ = false := by rw [hb.frozen (p := ⟨R, 3, none⟩) hR]; exact f3
  have z4 : w2.frozen? ⟨R, 4, none⟩ = false := by rw [hb.frozen (p := ⟨R, 4, none⟩) hR]; exact f4
  have HS := Lib.hid hS; clear hS
  go_wp2
  go_end0
  exact ⟨w2, _, q, rfl, hb, ⟨rfl, HS.out⟩, rfl⟩

end Go.Proofs.YtepgjaecfoaenaaGreatDoor

namespace Go.Proofs.YtepgjaecfoaenaaGreatDoor
open Go.RowKit
set_option linter.unusedVariables false
set_option linter.unusedSimpArgs false

/-- The string with its pairs read. -/
def unq : List UInt8 → List UInt8
  | [] => []
  | [c] => [c]
  | c :: d :: r => if c = 92 ∧ (d = 34 ∨ d = 92 ∨ d = 110) then (if d = 110 then 10 else d) :: unq r else c :: unq (d :: r)
theorem unq_cons (c : UInt8) (l : List UInt8) (h : (lookV (c :: l)).2.2 = false) : unq (c :: l) = c :: unq l := by
  cases l with
  | nil => rfl
  | cons d r =>
    by_cases hc : c = 92 ∧ (d = 34 ∨ d = 92 ∨ d = 110)
    · obtain ⟨rfl, rfl | rfl | rfl⟩ := hc <;> simp [lookV] at h
    · simp only [unq, hc, if_false]
theorem unq_pair (l : List UInt8) (h : (lookV l).2.2 = true) : unq l = (lookV l).1 ++ unq (l.drop 2) ∧ (lookV l).1.length = 1 ∧ (lookV l).2.1 = 2 ∧ 2 ≤ l.length ∧ l.head? = some 92 := by
  match l, h with
  | c :: d :: r, h =>
    by_cases hc : c = 92
    · subst hc
      by_cases h1 : d = 34
      · subst h1; simp [lookV, unq]
      by_cases h2 : d = 92
      · subst h2; simp [lookV, unq]
      by_cases h3 : d = 110
      · subst h3; simp [lookV, unq]
      simp [lookV, h1, h2, h3] at h
    · simp [lookV, hc] at h
theorem unq_length (l : List UInt8) : (unq l).length ≤ l.length := by
  match l with
  | [] => simp [unq]
  | [c] => simp [unq]
  | c :: d :: r =>
    have h1 := unq_length r
    have h2 := unq_length (d :: r)
    unfold unq
    split <;> simp at * <;> omega

/-- A writer's cell with the bytes A, in a block of the call's own. -/
def BufW (B K : Nat) (A : List UInt8) (w : World) : Prop :=
  ∃ v, w.heap[K]? = some (.cells #[v] 196 (0, 0)) ∧ B ≤ K ∧ w.ownsRow B 5 1 v A.length (Lib.strCells (S A)) ∧ v.ownBlock ≠ some K
theorem strCells_app (A s : List UInt8) : Lib.strCells (S A) ++ Lib.strCells (S s) = Lib.strCells (S (A ++ s)) := by simp [Lib.strCells, S_data]

set_option maxRecDepth 100000 in
set_option maxHeartbeats 2000000 in
theorem asw_WriteString (B K : Nat) (A s : List UInt8) (w : World) (h : BufW B K A w) (hlen : A.length + s.length ≤ 140737488355328) (hBw : B ≤ w.heap.size) :
    Calls Tryz.prog 186 #[.pointer (some ⟨K, 0, none⟩), .string (S s)] w fun e w' => e = .returned (.tuple #[.int .i64 s.length, .nilIface]) ∧ BufW B K (A ++ s) w' ∧ Below B w w' := by
  obtain ⟨v, hbk, hB, hown, hne⟩ := h
  obtain ⟨i0, hi, hz0, hz1, hz2⟩ := info_parts infoByte
  have c0 : w.cell? ⟨K, 0, none⟩ = some v := by rw [Lib.cell_of_heap hbk]; rfl
  have hlt : K < w.heap.size := (Array.getElem?_eq_some_iff.1 hbk).1
  go_enter Tryz.func186, Tryz.ntmps186
  go_wp2_with (at_builtin; refine Lib.wpList_append_own_string _ rfl _ _ 196 9 rfl B 5 i0 Tryz.underlying196 Tryz.underlying9 hi hz0 hz1 hz2 _ _ _ rfl hown (S s) rfl ?c3 ?c4 ?c5 ?_)
  case c3 => rw [S_size]; unfold maxLen; omega
  case c4 => rw [S_size]; omega
  case c5 => omega
  intro v' w2 hown' hgrow _
  have hb2 : w2.heap[K]? = some (.cells #[v] 196 (0, 0)) := by
    rw [hgrow.block K hlt (fun e => hne e.symm)]; exact hbk
  have d0 : w2.cell? ⟨K, 0, none⟩ = some v := by rw [Lib.cell_of_heap hb2]; rfl
  have f0 : w2.frozen? ⟨K, 0, none⟩ = false := Lib.frozen_of_heap hb2 0
  have hown2 := hown'
  obtain ⟨ao, n', cap, rfl⟩ : ∃ ao n' cap, v' = .slice ao n' cap := by
    rcases hown'.2 with ⟨hv, _⟩ | ⟨g, cap, cur, hv, _⟩
    · exact ⟨_, _, _, hv⟩
    · exact ⟨_, _, _, hv⟩
  have HO := Lib.hid (And.intro hown2 hgrow); clear hown' hown2 hgrow
  go_wp2
  go_ret2
  obtain ⟨ho, hg⟩ := HO.out
  have ho' : w2.ownsRow B 5 1 (.slice ao n' cap) (A ++ s).length (Lib.strCells (S (A ++ s))) := by
    rw [← strCells_app, List.length_append]; simpa [S_size] using ho
  have hne2 : (Value.slice ao n' cap).ownBlock ≠ some K := Lib.ownBlock_ne ho' hb2 (by decide)
  refine ⟨rfl, ⟨_, ?_, hB, ?_, hne2⟩, ?_⟩
  · simp [World.setCell, Array.getElem?_modify, hb2]
  · exact ho'.kept (row := some K) ⟨rfl, rfl, rfl, by simp [World.setCell], fun k _ hk => Below.heap_setCell _ _ _ _ (fun e => hk (by simp [e]))⟩ (Or.inr hne2)
  · exact ((Below.refl B w).grown hg hBw (fun k hk => (hown.lt k hk).1)).setCell (p := ⟨K, 0, none⟩) hB _

theorem method_asw (a : Addr) (w : World) (d : Nat) : (method (d + 1) 197 (.pointer (some a)) "WriteString").run Tryz.prog w = .ok (186, .pointer (some a)) w := by kernel_rfl
theorem nilAhead_asw (a : Addr) (w : World) (d : Nat) : (nilAhead (d + 1) 197 (.pointer (some a)) "WriteString").run Tryz.prog w = .ok (some false) w := by kernel_rfl

@[go_sem high] theorem assert_asw (a : Addr) (w : World) : (Instr.typeAssert (.iface 197 (.pointer (some a))) 199 201 true).run Tryz.prog w = .ok (.tuple #[.iface 197 (.pointer (some a)), .bool true]) w := by kernel_rfl

set_option maxRecDepth 100000 in
theorem getStringWriter_calls (a : Addr) (w : World) :
    Calls Tryz.prog 168 #[.iface 197 (.pointer (some a))] w fun e w' => e = .returned (.iface 197 (.pointer (some a))) ∧ Below w.heap.size w w' := by
  go_enter Tryz.func168, Tryz.ntmps168
  go_wp2
  go_ret
  exact ⟨rfl, Below.refl _ _⟩

end Go.Proofs.YtepgjaecfoaenaaGreatDoor
