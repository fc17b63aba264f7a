/- A region that draws its order, inside a round of a range over a function: PrintLast's steps serve there too. No condition. The walk of slices.Backward at trails. Condition: the trail lies in a block that the rounds leave alone. -/
import Derived.Test.YtplnfepdikbpfaaGreatDoorST4a
import Derived.RangeFuncNested
import Derived.RangeFuncBound
import Derived.RangeFuncCalls
import Derived.RangeFuncLeaves
import Derived.Shelf.Abstract
import Derived.Shelf.RegionOpen
import Derived.WalkKit
import Derived.OwnWalkIn
import Derived.TacticsInMore
import Derived.LoopNIn
import Derived.LoopIn
import Derived.Deep.RegionHeld3
namespace Go.Proofs.YtplnfepdikbpfaaGreatDoor
open Go.RowKit Go.Shelf
open Go.Proofs.YtplnfepdikbpfaaGreatDoorW.PrintLast
set_option linter.unusedVariables false
set_option linter.unusedSimpArgs false

section
variable {P : Program} {ops : Array Oper} {Q : Exit → Act → World → Prop}
theorem rowsIn_wide {n l : Nat} {row : String} {args : Array Value} {w : World} {R : Value → World → Prop} (h : _root_.Go.Rows P row args w R) : RowsIn (Fence.wide.inRound l) n P row args w R :=
  fun c cs _ => let ⟨v, w', r, s⟩ := h c cs; ⟨v, w', r, stepsIn_wide.2 s⟩
theorem uponIn_of {n l : Nat} {o : Oper} {a : Act} {K : Act → World → Prop} {r : Result Next} (h : o.upon P a K Q r) : o.uponIn (Fence.wide.inRound l) n P a K Q r := by
  unfold Oper.upon at h
  unfold Oper.uponIn
  split at h
  · exact h
  · exact h
  · exact h
  · exact ⟨fun h => by simp [Fence.wide] at h, (callsIn_wide.2 h).inRound l⟩
  · exact ⟨fun h => by simp [Fence.wide] at h, rowsIn_wide h⟩
  · exact h
  · exact h.elim
theorem wpIn_of {n l : Nat} {o : Oper} {a : Act} {w : World} {K : Act → World → Prop} (hd : ∀ c, o.op ≠ .defer c) (h : o.wp P a w K Q) : o.wpIn (Fence.wide.inRound l) n P a w K Q := by
  refine ⟨fun _ _ => trivial, ?_⟩
  rw [show (Fence.wide.inRound l).round = some l from rfl, Oper.semAt_some l _ _ hd]
  exact uponIn_of h
theorem wpAnyIn_of {n l : Nat} {md : Region.Mode} (hd : ∀ (i : Nat) o, ops[i]? = some o → ∀ c, o.op ≠ .defer c) (hQ : ∀ a w, ¬ Q .outgrown a w) : ∀ (fuel : Nat) (listed : Array Bool) (a : Act) (w : World), wpAny P md ops Q fuel listed a w → wpAnyIn (Fence.wide.inRound l) n P md ops Q fuel listed a w
  | 0, _, _, _, h => h
  | fuel + 1, listed, a, w, h => ⟨h.1, fun i hi => by
    have h1 := h.2 i hi
    unfold wpOp at h1
    unfold wpOpIn
    cases ho : ops[i]? with
    | none => rw [ho] at h1; exact wpAnyIn_of hd hQ fuel _ a w h1
    | some o =>
      rw [ho] at h1
      simp only at h1 ⊢
      split at h1
      · rw [if_pos (by assumption)]
        rcases h1 with h1 | ⟨-, a0, w0, h1⟩
        · exact Oper.wpIn_mono (fun a w => wpAnyIn_of hd hQ fuel _ a w) (wpIn_of (hd i o ho) h1)
        · exact absurd h1 (hQ a0 w0)
      · rw [if_neg (by assumption)]
        exact ⟨fun _ _ => trivial, wpAnyIn_of hd hQ fuel _ _ w h1⟩⟩
def noDefer (ops : Array Oper) : Bool := ops.toList.all fun o => match o.op with | .defer _ => false | _ => true
theorem noDefer_at {ops : Array Oper} (h : noDefer ops = true) : ∀ (i : Nat) o, ops[i]? = some o → ∀ c, o.op ≠ .defer c := by
  intro i o ho c e
  have h1 := List.all_eq_true.1 h o (by rw [← Array.getElem?_toList] at ho; exact List.mem_of_getElem? ho)
  rw [e] at h1
  cases h1
theorem startW_ {S : World → Prop} {ds : List Nat} {id n m : Nat} {a : Act} {w : World} (l : Array Bool) (hm : P.follows .mixedOrders = true) (hn : ops.size = n) (hl : Array.replicate n false = l) (hS : S w.drew)
    (h : S w.drew → wpAnyLast P .any ops Q S ds n l a w.drew) : (Code.region id ops true).wpIn Fence.wide m P Q a w := by
  subst hn
  subst hl
  exact (wpIn_wide (n := m)).2 (wp_region_last hm (h hS))
theorem startWn_ {S : World → Prop} {ds : List Nat} {id n m : Nat} {a : Act} {w : World} (l : Array Bool) (hm : P.follows .mixedOrders = true) (hn : ops.size = n) (hl : Array.replicate n false = l) (hS : S w.drew)
    (h : S w.drew → wpAnyLast P .any ops (NoPanic Q) S ds n l a w.drew) : (Code.region id ops true).wpIn Fence.wide m P Q a w := by
  subst hn
  subst hl
  exact (wpIn_wide (n := m)).2 (wp_region_noPanic (wp_region_last hm (h hS)))
theorem startIn_ {S : World → Prop} {ds : List Nat} {id n m r : Nat} {a : Act} {w : World} (l : Array Bool) (hm : P.follows .mixedOrders = true) (hn : ops.size = n) (hl : Array.replicate n false = l) (hS : S w.drew)
    (h : S w.drew → wpAnyLast P .any ops Q S ds n l a w.drew) (hd : noDefer ops = true) (hQ : ∀ a w, ¬ Q .outgrown a w) : (Code.region id ops true).wpIn (Fence.wide.inRound r) m P Q a w := by
  subst hn
  subst hl
  exact wpIn_region_any hm (wpAnyIn_of (noDefer_at hd) hQ _ _ _ _ (wpAny_of_last _ _ _ _ (h hS)))
end

end Go.Proofs.YtplnfepdikbpfaaGreatDoor

namespace Go.Proofs.YtplnfepdikbpfaaGreatDoor
open Go.RowKit Go.Shelf
set_option linter.unusedVariables false
set_option linter.unusedSimpArgs false
attribute [local go_sem] Oper.semAt_some

/-- What a round is handed: an index, and a step of the trail. -/
abbrev Stp (N : Nat) := Int × { x : Jn // x.1 < N ∧ x.2.1 < N }
def stpEnc (N : Nat) (x : Stp N) : Array Value := #[.int .i64 x.1, .agg #[.int .i64 (x.2.1.1 : Int), .int .i64 (x.2.1.2.1 : Int), .int .i64 x.2.1.2.2.1, .int .i64 x.2.1.2.2.2]]
/-- What a round keeps. -/
def KeepT (g Bs : Nat) (W W' : World) : Prop := W'.heap[g]? = W.heap[g]? ∧ W'.heap[Bs]? = W.heap[Bs]?
theorem KeepT.trans {g Bs : Nat} {A B C : World} (h : KeepT g Bs A B) (k : KeepT g Bs B C) : KeepT g Bs A C := ⟨k.1.trans h.1, k.2.trans h.2⟩
/-- A slice of steps in block g. -/
def TrV (W : World) (g : Nat) (sv : Value) (js : List Jn) : Prop :=
  ∃ A c, sv = .slice A js.length c ∧ (js ≠ [] → ∃ off, A = some ⟨g, off, none⟩ ∧ ∀ (j : Nat) x, js[j]? = some x → W.cell? ⟨g, off + j * 4, none⟩ = some (.int .i64 (x.1 : Int)) ∧ W.cell? ⟨g, off + j * 4 + 1, none⟩ = some (.int .i64 (x.2.1 : Int)) ∧ W.cell? ⟨g, off + j * 4 + 2, none⟩ = some (.int .i64 x.2.2.1) ∧ W.cell? ⟨g, off + j * 4 + 3, none⟩ = some (.int .i64 x.2.2.2))
theorem TrV.turn {W W' : World} {g : Nat} {sv : Value} {js : List Jn} (h : TrV W g sv js) (hg : W'.heap[g]? = W.heap[g]?) : TrV W' g sv js := by
  obtain ⟨A, c, e, h⟩ := h
  have hc : ∀ o, W'.cell? ⟨g, o, none⟩ = W.cell? ⟨g, o, none⟩ := fun o => World.cell?_of_block hg
  refine ⟨A, c, e, fun hne => ?_⟩
  obtain ⟨off, e2, h⟩ := h hne
  exact ⟨off, e2, fun j x hx => by simp only [hc]; exact h j x hx⟩

set_option maxHeartbeats 1000000 in
theorem backward_in (n : Nat) (A : Option Addr) (len cap : Nat) (w : World) :
    CallsIn Fence.wide n Tryz.prog 119 #[.slice A len cap] w fun e w' => e = .returned (.func (.func 144) #[] #[.pointer (some ⟨w.heap.size, 0, none⟩)]) ∧ w' = w.alloc (.cells #[.slice A len cap] 124) := by
  refine callsIn_of_wp Tryz.func119 rfl trivial ?_ rfl
  simp only [Tryz.ntmps119, List.size_toArray, List.length_cons, List.length_nil, Nat.reduceAdd, Nat.reduceSub, Array.replicate_succ, Array.replicate_zero, List.push_toArray, List.append_toArray, List.nil_append, List.cons_append]
  gi_wp2
  go_ret
  exact ⟨rfl, rfl⟩

set_option maxRecDepth 100000 in
set_option maxHeartbeats 4000000 in
theorem backward_stops (n : Nat) (Bs g N : Nat) (sv : Value) (js : List Jn) (hlen : js.length ≤ 1000000000) (hN : ∀ x ∈ js, x.1 < N ∧ x.2.1 < N) (w : World) (hBs : Bs < w.heap.size) (hg : g < w.heap.size)
    (hc : w.cell? ⟨Bs, 0, none⟩ = some sv) (hT : TrV w g sv js) :
    SeqStopsK Fence.wide n Tryz.prog 144 #[.pointer (some ⟨Bs, 0, none⟩)] (stpEnc N) (KeepT g Bs) (fun _ => True) (fun _ => True) js.length w := fun l J Jx W hW _ _ hY h0 => by
  have hc' := (hW.cell (p := ⟨Bs, 0, none⟩) hBs).trans hc
  have hT' := Lib.hid (hT.turn (hW.block g hg))
  obtain ⟨A, c, rfl, -⟩ := id hT
  have HY := Lib.hid hY; have HN := Lib.hid hN
  clear hT hc hY hN hW
  refine callsIn_of_wp Tryz.func144 rfl trivial ?_ rfl
  simp only [Tryz.ntmps144, List.size_toArray, List.length_cons, List.length_nil, Nat.reduceAdd, Nat.reduceSub, Array.replicate_succ, Array.replicate_zero, List.push_toArray, List.append_toArray, List.nil_append, List.cons_append]
  gi_wp2
  gi_loopw [3] (fun i wr => ∃ (k : Nat) (pre : List (Stp N)), pre.length + k = js.length ∧ i = .int .i64 ((k : Int) - 1) ∧ J pre wr ∧ Hid (KeepT g Bs W wr)) (fun i _ => (intOf i + 1).toNat)
  case atStart => exact ⟨js.length, [], by simp, rfl, h0, Lib.hid ⟨rfl, rfl⟩⟩
  case round =>
    obtain ⟨k, pre, hk, rfl, hJs, hkp⟩ := hrel
    cases k with
    | zero =>
      gi_wp2
      go_end0
      exact ⟨⟨_, rfl⟩, .inl ⟨pre, trivial, hJs⟩⟩
    | succ k =>
      have hkl : k < js.length := by omega
      obtain ⟨A', c', he, hne⟩ := hT'.out.turn hkp.out.1
      injection he with he1 _ he2
      subst he2
      obtain ⟨off, hA, hcell⟩ := hne (by intro e; rw [e] at hkl; simp at hkl)
      rw [hA] at he1
      subst he1
      obtain ⟨x, hx⟩ : ∃ x, x = js[k] := ⟨_, rfl⟩
      obtain ⟨q0, q1, q2, q3⟩ := hcell k x (by rw [hx]; exact List.getElem?_eq_getElem hkl)
      have hxN := HN.out x (by rw [hx]; exact List.getElem_mem hkl)
      obtain ⟨fn, tmps, assign, body, hy, hR⟩ := HY.out pre ((k : Int), ⟨x, hxN⟩) wr hJs (by omega)
      dsimp only [stpEnc] at hy
      have HR := Lib.hid hR
      have hcb : wr.cell? ⟨Bs, 0, none⟩ = some (.slice (some ⟨g, off, none⟩) js.length c) := (World.cell?_of_block hkp.out.2).trans hc'
      have e1 : ((k + 1 : Nat) : Int) - 1 = (k : Int) := by omega
      rw [e1]
      have k0 : (0 : Int) ≤ (k : Int) := by omega
      have k1 : (k : Int) < (js.length : Int) := by omega
      clear hA hcell hx hR
      gi_wp2
      refine ⟨fun h => absurd h (by simp [Fence.wide]), HR.out.mono ?_⟩
      rintro e W3 (⟨rfl, hJ3, hk3⟩ | ⟨rfl, hJx3⟩)
      · have HK3 := Lib.hid (hkp.out.trans hk3)
        gi_wp2
        go_roundw
        case rel => exact ⟨k, pre ++ [((k : Int), ⟨x, _⟩)], by simp; omega, by go_num, hJ3, HK3⟩
        case measure => simp [intOf]
      · gi_wp2
        refine bodyPost_ret (results_none rfl _ _ _) rfl ?_
        exact ⟨⟨_, rfl⟩, .inr ⟨_, trivial, hJx3⟩⟩

end Go.Proofs.YtplnfepdikbpfaaGreatDoor
