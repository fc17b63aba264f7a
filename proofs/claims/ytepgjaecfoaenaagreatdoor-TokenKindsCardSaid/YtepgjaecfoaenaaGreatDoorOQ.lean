/- The parts of sync.Once's slow road, after the kit's worked example: the lock is free and nobody waits. sync.Once's doSlow and Do over a strings.Replacer of the call's own, its function given by a contract. The walk of strings.NewReplacer over a list of strings of even length. The library's byteStringReplacer as a row of 257 cells: how it is built and laid. -/
import Derived.Test.YtepgjaecfoaenaaGreatDoorBase
import Derived.Defers
import Derived.Laws.Pointers
import Derived.Laws.LoneSync
import Derived.RegionTactic
import Derived.RegionCalls
import Derived.Test.YtepgjaecfoaenaaGreatDoorX
import Derived.Laws.Rows
import Derived.Laws.Tables
import Derived.Handy
namespace Go.Proofs.YtepgjaecfoaenaaGreatDoor
open Go.RowKit
set_option linter.unusedVariables false
set_option linter.unusedSimpArgs false

theorem disable (w : World) : (callFunc 114 #[]).run Tryz.prog w = .ok (.value (.tuple #[])) w := run_call_mark0 Tryz.func114 (by kernel_rfl) (by kernel_rfl) (by kernel_rfl) .disable (by kernel_rfl) w
theorem enable (w : World) : (callFunc 116 #[]).run Tryz.prog w = .ok (.value (.tuple #[])) w := run_call_mark0 Tryz.func116 (by kernel_rfl) (by kernel_rfl) (by kernel_rfl) .enable (by kernel_rfl) w
theorem acquire (a : Addr) (w : World) : (callFunc 117 #[.pointer (some a)]).run Tryz.prog w = .ok (.value (.tuple #[])) w := run_call_marked Tryz.func117 (by kernel_rfl) (by kernel_rfl) (by kernel_rfl) .acquire (by kernel_rfl) a w
theorem releaseMerge (a : Addr) (w : World) : (callFunc 119 #[.pointer (some a)]).run Tryz.prog w = .ok (.value (.tuple #[])) w := run_call_marked Tryz.func119 (by kernel_rfl) (by kernel_rfl) (by kernel_rfl) .releaseMerge (by kernel_rfl) a w

set_option maxRecDepth 100000 in
set_option maxHeartbeats 1600000 in
theorem store_deferred (a : Addr) (x : Value) (u : FrameMode) (w : World) (hc : w.cell? a = some x) (hz : w.frozen? a = false) :
    CallsD Tryz.prog 96 #[.pointer (some a), .bool true] u w fun e u' w' => u' = u ∧ (e = .returned (.tuple #[]) ∧ w' = w.drew.setCell a (.int .u32 1)) := by
  have hc' : w.drew.cell? a = some x := by go_simp
  have hz' : w.drew.frozen? a = false := by go_simp
  have hst := run_call_store (P := Tryz.prog) Tryz.func108 (by kernel_rfl) (by kernel_rfl) (by kernel_rfl) (by kernel_rfl) (k := .u32) (y := 1) hc' hz'
  go_enter_d Tryz.func96, Tryz.ntmps96
  go_wp2
  go_region_calls
  all_goals (go_end0; exact ⟨rfl, rfl⟩)

set_option maxRecDepth 100000 in
set_option maxHeartbeats 1600000 in
theorem unlock_deferred (a : Addr) (u : FrameMode) (w : World) (hc : w.cell? a = some (.int .i32 1)) (hz : w.frozen? a = false) :
    CallsD Tryz.prog 95 #[.pointer (some a)] u w fun e u' w' => u' = u ∧ (e = .returned (.tuple #[]) ∧ w' = w.setCell a (.int .i32 0)) := by
  have hd := disable
  have he := enable
  have hr := releaseMerge
  have hadd := run_call_add (P := Tryz.prog) Tryz.func120 (by kernel_rfl) (by kernel_rfl) (by kernel_rfl) .i32 (by kernel_rfl) (y := -1) (s := 0) hc hz (by simp [go_sem]; rfl)
  have hcv := run_convert_to_unsafe (P := Tryz.prog) (src := 153) (dst := 134) Tryz.underlying153 Tryz.underlying134 (by kernel_rfl) hc
  go_enter_d Tryz.func95, Tryz.ntmps95
  go_wp2
  go_end0
  all_goals go_wp2
  all_goals go_end0
  all_goals exact ⟨rfl, rfl⟩

set_option maxRecDepth 100000 in
set_option maxHeartbeats 1600000 in
theorem lock_free (a : Addr) (w : World) (hc : w.cell? a = some (.int .i32 0)) (hz : w.frozen? a = false) :
    Calls Tryz.prog 94 #[.pointer (some a)] w fun e w' => e = .returned (.tuple #[]) ∧ w' = w.setCell a (.int .i32 1) := by
  have hd := disable
  have he := enable
  have ha := acquire
  have hcas := run_call_cas_hit (P := Tryz.prog) Tryz.func115 (by kernel_rfl) (by kernel_rfl) (by kernel_rfl) .i32 (by kernel_rfl) (y := 1) hc hz
  have hc' : (w.setCell a (.int .i32 1)).cell? a = some (.int .i32 1) := World.cell?_setCell_same w a _ hc
  have hcv := run_convert_to_unsafe (P := Tryz.prog) (src := 153) (dst := 134) Tryz.underlying153 Tryz.underlying134 (by kernel_rfl) hc'
  go_enter Tryz.func94, Tryz.ntmps94
  go_wp2
  first | go_end0 | (simp only [Exit.inBlock, Exit.then]; refine bodyPost_ret (results_none rfl _ _ _) rfl ?_) | refine bodyPost_ret (results_none rfl _ _ _) rfl ?_
  all_goals go_wp2
  all_goals go_end0
  all_goals exact ⟨rfl, rfl⟩

end Go.Proofs.YtepgjaecfoaenaaGreatDoor

namespace Go.Proofs.YtepgjaecfoaenaaGreatDoor
open Go.RowKit
set_option linter.unusedVariables false
set_option linter.unusedSimpArgs false

/-- What buildOnce leaves, from the world w on: a replacer that is known by Rep, laid into the Replacer in block R. -/
def BPost (R : Nat) (Rep : TypeId → Nat → World → Prop) (w : World) (e : Ending) (w' : World) : Prop :=
  ∃ w2 t q, e = .returned (.tuple #[]) ∧ Below w.heap.size w w2 ∧ Rep t q w2 ∧
    w' = (w2.setCell ⟨R, 3, none⟩ (.iface t (.pointer (some ⟨q, 0, none⟩)))).setCell ⟨R, 4, none⟩ (.slice none 0 0)

/-- What Do leaves. -/
def DPost (R : Nat) (Rep : TypeId → Nat → World → Prop) (w : World) (e : Ending) (w' : World) : Prop :=
  ∃ w2 t q, e = .returned (.tuple #[]) ∧ Below w.heap.size (w.setCell ⟨R, 1, none⟩ (.int .i32 1)) w2 ∧ Rep t q w2 ∧
    w' = (((w2.setCell ⟨R, 3, none⟩ (.iface t (.pointer (some ⟨q, 0, none⟩)))).setCell ⟨R, 4, none⟩ (.slice none 0 0)).drew.setCell ⟨R, 0, none⟩ (.int .u32 1)).setCell ⟨R, 1, none⟩ (.int .i32 0)

set_option maxRecDepth 100000 in
set_option maxHeartbeats 1600000 in
theorem slow_calls (R : Nat) (Rep : TypeId → Nat → World → Prop) (w : World) (hR : R < w.heap.size)
    (h0 : w.cell? ⟨R, 0, none⟩ = some (.int .u32 0)) (h1 : w.cell? ⟨R, 1, none⟩ = some (.int .i32 0))
    (f0 : w.frozen? ⟨R, 0, none⟩ = false) (f1 : w.frozen? ⟨R, 1, none⟩ = false)
    (hB : Calls Tryz.prog 56 #[.pointer (some ⟨R, 0, none⟩)] (w.setCell ⟨R, 1, none⟩ (.int .i32 1)) (BPost R Rep (w.setCell ⟨R, 1, none⟩ (.int .i32 1)))) :
    Calls Tryz.prog 74 #[.pointer (some ⟨R, 0, none⟩), .func (.func 56) #[.pointer (some ⟨R, 0, none⟩)] #[]] w (DPost R Rep w) := by
  have hl := run_call_load (P := Tryz.prog) Tryz.func93 (by kernel_rfl) (by kernel_rfl) (by kernel_rfl) .u32 (by kernel_rfl) (w := w.setCell ⟨R, 1, none⟩ (.int .i32 1)) (a := ⟨R, 0, none⟩) (x := 0) ((World.cell?_setCell_other _ ⟨R, 1, none⟩ ⟨R, 0, none⟩ _ (by simp)).trans h0)
  have hnot : ∀ (x : Bool) (w : World), (Op.unary .not (.bool x)).run Tryz.prog w = .ok (.bool (!x)) w := fun _ _ => rfl
  go_enter_defers Tryz.func74, Tryz.ntmps74
  go_wp2_with (go_at_call 94; refine (lock_free ⟨R, 1, none⟩ _ (by go_simp) (by go_simp)).mono ?_; rintro e w' ⟨rfl, rfl⟩)
  go_wp2_with (go_at_call 73; go_in)
  refine hB.mono ?_
  rintro e w' ⟨w2, t, q, rfl, hb, hrep, rfl⟩
  replace hb := hb.mono (B' := w.heap.size) (by simp [World.setCell])
  have hsz : R < w2.heap.size := by have := hb.size; simp [World.setCell] at this; omega
  have k0 : w2.cell? ⟨R, 0, none⟩ = some (.int .u32 0) := by
    rw [hb.cell (p := ⟨R, 0, none⟩) hR, World.cell?_setCell_other _ _ _ _ (by simp)]; exact h0
  have k1 : w2.cell? ⟨R, 1, none⟩ = some (.int .i32 1) := by
    rw [hb.cell (p := ⟨R, 1, none⟩) hR]; exact World.cell?_setCell_same _ _ _ h1
  have g0 : w2.frozen? ⟨R, 0, none⟩ = false := by rw [hb.frozen (p := ⟨R, 0, none⟩) hR]; simp [f0]
  have g1 : w2.frozen? ⟨R, 1, none⟩ = false := by rw [hb.frozen (p := ⟨R, 1, none⟩) hR]; simp [f1]
  clear hl
  go_wp2
  refine leaves_cons (f := 96) (args := #[.pointer (some ⟨R, 0, none⟩), .bool true]) (by simp) (by simp [go_sem]) ?_
  refine (store_deferred ⟨R, 0, none⟩ (.int .u32 0) .returning _ ?_ ?_).mono ?_
  · rw [World.cell?_setCell_other _ ⟨R, 4, none⟩ ⟨R, 0, none⟩ _ (by simp), World.cell?_setCell_other _ ⟨R, 3, none⟩ ⟨R, 0, none⟩ _ (by simp)]; exact k0
  · simp [g0]
  rintro e u' w'' ⟨rfl, rfl, rfl⟩
  refine leaves_cons (f := 95) (args := #[.pointer (some ⟨R, 1, none⟩)]) (by simp [settle]) (by simp [go_sem]) ?_
  refine (unlock_deferred ⟨R, 1, none⟩ _ _ ?_ ?_).mono ?_
  · rw [World.cell?_setCell_other _ ⟨R, 0, none⟩ ⟨R, 1, none⟩ _ (by simp), World.cell?_drew, World.cell?_setCell_other _ ⟨R, 4, none⟩ ⟨R, 1, none⟩ _ (by simp), World.cell?_setCell_other _ ⟨R, 3, none⟩ ⟨R, 1, none⟩ _ (by simp)]; exact k1
  · simp [g1]
  rintro e u' w'' ⟨rfl, rfl, rfl⟩
  refine ⟨_, results_none rfl _ _ _, w2, t, q, rfl, hb, hrep, rfl⟩

set_option maxRecDepth 100000 in
set_option maxHeartbeats 1600000 in
theorem Do_calls (R : Nat) (Rep : TypeId → Nat → World → Prop) (w : World) (hR : R < w.heap.size)
    (h0 : w.cell? ⟨R, 0, none⟩ = some (.int .u32 0)) (h1 : w.cell? ⟨R, 1, none⟩ = some (.int .i32 0))
    (f0 : w.frozen? ⟨R, 0, none⟩ = false) (f1 : w.frozen? ⟨R, 1, none⟩ = false)
    (hB : Calls Tryz.prog 56 #[.pointer (some ⟨R, 0, none⟩)] (w.setCell ⟨R, 1, none⟩ (.int .i32 1)) (BPost R Rep (w.setCell ⟨R, 1, none⟩ (.int .i32 1)))) :
    Calls Tryz.prog 55 #[.pointer (some ⟨R, 0, none⟩), .func (.func 56) #[.pointer (some ⟨R, 0, none⟩)] #[]] w (DPost R Rep w) := by
  have hl := run_call_load (P := Tryz.prog) Tryz.func93 (by kernel_rfl) (by kernel_rfl) (by kernel_rfl) .u32 (by kernel_rfl) h0
  have hnot : ∀ (x : Bool) (w : World), (Op.unary .not (.bool x)).run Tryz.prog w = .ok (.bool (!x)) w := fun _ _ => rfl
  have HS := Lib.hid (slow_calls R Rep w hR h0 h1 f0 f1 hB)
  clear hB
  go_enter Tryz.func55, Tryz.ntmps55
  go_wp2_with (first | (go_at_call 74; refine HS.out.mono ?_; rintro e w' ⟨w2, t, q, rfl, hb, hrep, rfl⟩) | (go_at_call 73; go_in))
  go_end0
  exact ⟨w2, t, q, rfl, hb, hrep, rfl⟩

end Go.Proofs.YtepgjaecfoaenaaGreatDoor

namespace Go.Proofs.YtepgjaecfoaenaaGreatDoor
open Go.RowKit
set_option linter.unusedVariables false
set_option linter.unusedSimpArgs false

def strAt (xs : List (List UInt8)) (k : Nat) : List UInt8 := xs.getD k []
def strsCells (xs : List (List UInt8)) : List Value := xs.map fun x => .string (S x)
/-- The slice has these strings, in a row of memory of the call's own. -/
def OwnS (w : World) (base : Nat) (v : Value) (xs : List (List UInt8)) : Prop := w.ownsRow base 9 1 v xs.length (strsCells xs)
theorem OwnS.nil (w : World) (base : Nat) : OwnS w base (.slice none 0 0) [] := ⟨rfl, .inl ⟨rfl, rfl⟩⟩
theorem infoStr : (Tryz.prog.info? 9).map (fun i => (i.zero, i.size, i.bytes)) = some (some (.string ⟨#[]⟩), 1, 16) := by kernel_rfl

/-- What NewReplacer leaves: a Replacer in a new block that holds the strings, its lock free, nothing built. -/
def NPost (w : World) (xs : List (List UInt8)) (e : Ending) (w' : World) : Prop :=
  ∃ w1 v, e = .returned (.pointer (some ⟨w1.heap.size, 0, none⟩)) ∧ Below w.heap.size w w1 ∧ OwnS w1 w.heap.size v xs ∧
    w' = w1.alloc (.cells #[.int .u32 0, .int .i32 0, .int .u32 0, .nilIface, v] 87)

set_option maxHeartbeats 1000000 in
theorem NewReplacer_calls (g c n : Nat) (xs : List (List UInt8)) (w : World) (hn : n = xs.length) (h6 : xs.length = 6) (hc : ∀ k, k < xs.length → w.cell? ⟨g, k, none⟩ = some (.string (S (strAt xs k)))) :
    Calls Tryz.prog 45 #[.slice (some ⟨g, 0, none⟩) 6 c] w (NPost w xs) := by
  subst hn
  obtain ⟨i0, hi, hzz⟩ := Option.map_eq_some_iff.1 infoStr
  simp only [Prod.mk.injEq] at hzz
  obtain ⟨hz0, hz1, hz2⟩ := hzz
  have hnews : ∀ j u, (strsCells xs)[j]? = some u → w.cell? ((⟨g, 0, none⟩ : Addr).add j) = some u := by
    intro j u hj
    have hlt : j < xs.length := by
      rcases Nat.lt_or_ge j xs.length with h | h
      · exact h
      · rw [List.getElem?_eq_none (by simpa [strsCells] using h)] at hj; cases hj
    have ha : (⟨g, 0, none⟩ : Addr).add j = ⟨g, j, none⟩ := by unfold Addr.add; split <;> simp_all
    rw [ha, hc j hlt, ← hj]
    simp [strsCells, strAt, List.getElem?_eq_getElem hlt]
  clear hc
  go_enter Tryz.func45, Tryz.ntmps45
  go_wp2_with (at_builtin; refine wpList_append_own w rfl (.const (.slice none 0 0)) (.tmp 8) 46 rfl w.heap.size 9 i0 _ 1 16 Tryz.underlying46 hi hz0 hz1 hz2 rfl (by decide) (.slice none 0 0) 0 [] rfl (OwnS.nil w w.heap.size) ⟨g, 0, none⟩ 6 c (strsCells xs) rfl ?_ hnews ?_ ?_ ?_ ?_ ?_)
  · simp [strsCells, h6]
  · intro u hu; simp [strsCells] at hu; obtain ⟨x, _, rfl⟩ := hu; rfl
  · simp [maxLen]
  · omega
  · omega
  intro v' w1 hown hg hnil
  have hb : Below w.heap.size w w1 := (Below.refl _ _).grown hg (Nat.le_refl _) (by intro k hk; cases hk)
  have hown2 : OwnS w1 w.heap.size v' xs := by
    unfold OwnS; rw [h6]; simpa using hown
  clear hg hnil hnews hown hi hz0 hz1 hz2
  have HX := Lib.hid h6; clear h6
  obtain ⟨ao, n', cap, rfl⟩ : ∃ ao n' cap, v' = .slice ao n' cap := by
    rcases hown2.2 with ⟨hv, _⟩ | ⟨g, cap, cur, hv, _⟩
    · exact ⟨_, _, _, hv⟩
    · exact ⟨_, _, _, hv⟩
  go_wp2
  go_ret
  exact ⟨w1, _, rfl, hb, hown2, rfl⟩

end Go.Proofs.YtepgjaecfoaenaaGreatDoor

namespace Go.Proofs.YtepgjaecfoaenaaGreatDoor
open Go.RowKit
set_option linter.unusedVariables false
set_option linter.unusedSimpArgs false

/-- 256 nil slices, and one value more. -/
def rowZ (v : Value) : Array Value := (Array.replicate 256 (.slice none 0 0)).push v
theorem rowZ_size (v : Value) : (rowZ v).size = 257 := by simp [rowZ]
theorem rowZ_at (v : Value) (k : Nat) (h : k < 256) : (rowZ v)[k]? = some (.slice none 0 0) := by
  rw [rowZ, Array.getElem?_push, if_neg (by simp; omega)]; simp [h]
theorem rowZ_last (v : Value) : (rowZ v)[256]? = some v := by
  rw [rowZ, Array.getElem?_push]; simp

theorem zeroCells_bsr : Tryz.zeroCells128 = rowZ (.slice none 0 0) := by kernel_rfl
theorem rowZ_set (v : Value) : (rowZ (.slice none 0 0)).setIfInBounds 256 v = rowZ v := by kernel_rfl
theorem rowZ_all (a : Option Addr) (n c : Nat) : (rowZ (.slice a n c)).all (·.oneCell') = true := by kernel_rfl
theorem sizeBsr : (Tryz.prog.info? 128).map (·.size) = some 257 := by kernel_rfl

/-- A row of cells is stored whole. -/
theorem wpList_store_whole {ops : Array Oper} {rest : List Oper} {o : Oper} {a : Act} {w : World} {Q : Exit → Act → World → Prop} (hgd : o.guard = none) (ty : TypeId) (x y : Operand) (ho : o.op = .store ty x y)
    (g : Nat) (cells : Array Value) (hx : a.eval x = .pointer (some ⟨g, 0, none⟩)) (hy : a.eval y = .agg cells)
    (t : TypeId) (old : Array Value) (hg : w.heap[g]? = some (.cells old t (0, 0))) (hi : (Tryz.prog.info? ty).map (·.size) = some cells.size)
    (hold : old.size = cells.size) (h1 : cells.all (·.oneCell') = true)
    (h : ∀ w1, w1.heap[g]? = some (.cells cells t (0, 0)) → Below g w w1 → w1.heap.size = w.heap.size → wpList Tryz.prog ops Q rest (a.put o.dst undef) w1) : wpList Tryz.prog ops Q (o :: rest) a w := by
  refine wpList_plain hgd fun K hK => wp_store_row ty x y ho g cells hx hy t old hg hi hold h1 (hK _ _ (h _ (setRow_heap w g old cells t (0, 0) hg) ?_ (by simp)))
  exact ⟨rfl, rfl, rfl, by simp, fun k hk => setRow_other w g k cells (by omega)⟩

end Go.Proofs.YtepgjaecfoaenaaGreatDoor
