/- The walk of makeGenericReplacer at the pairs of Unquote. -/
import Derived.Test.YtepgjaecfoaenaaGreatDoorGA
import Derived.Deep.MidRow
namespace Go.Proofs.YtepgjaecfoaenaaGreatDoor
open Go.RowKit
set_option linter.unusedVariables false
set_option linter.unusedSimpArgs false

/-- The strings of Unquote's pairs. -/
def unquoteL : List (List UInt8) := [[92, 110], [10], [92, 34], [34], [92, 92], [92]]
def zeroG : Nat → Value
  | 0 => .string ⟨#[]⟩ | 1 => .int .i64 0 | 2 => .string ⟨#[]⟩ | 3 => .pointer none | 4 => .slice none 0 0 | 5 => .int .i64 0 | _ => .int .u8 0
theorem zeroG_cells : Tryz.zeroCells148 = ((List.range 262).map zeroG).toArray := by kernel_rfl
theorem zeroG_row (w : World) : (w.alloc (.cells Tryz.zeroCells148 148)).rowIs w.heap.size 148 262 zeroG := by
  have h := World.rowIs_alloc w Tryz.zeroCells148 148 zeroG (fun i hi => by
    rw [zeroG_cells] at hi ⊢
    have hi' : i < 262 := by simpa using hi
    simp [List.getElem?_map, List.getElem?_range hi'])
  rw [show Tryz.zeroCells148.size = 262 by rw [zeroG_cells]; simp] at h; exact h
/-- The cells after the bytes of a list have been marked. -/
def markG : List UInt8 → Nat → Value
  | [], i => zeroG i
  | c :: l, i => if i = 6 + c.toNat then .int .u8 1 else markG l i
/-- What a step of marking leaves. -/
theorem mark_step {w w' : World} {R : Nat} {l : List UInt8} (c : UInt8) (h : w.rowIs R 148 262 (markG l)) (hw : w' = (w.setCell ⟨R, 6 + c.toNat, none⟩ (.int .u8 1)).drew) :
    w'.rowIs R 148 262 (markG (c :: l)) := by
  rw [hw]; exact World.rowIs.drew (World.rowIs.congr (World.rowIs.set h (6 + c.toNat) (.int .u8 1)) (fun i _ => rfl))

def bytesG : List UInt8 := [92, 92, 34, 92, 110, 92]
def mk (k : Nat) : Bool := k == 34 || k == 92 || k == 110
def mkV (k : Nat) : Int := if mk k then 1 else 0
/-- How many marks stand below a place. -/
def sumTo : Nat → Nat
  | 0 => 0
  | k + 1 => sumTo k + (if mk k then 1 else 0)
theorem sumTo_le (k : Nat) : sumTo k ≤ k := by induction k with
  | zero => simp [sumTo]
  | succ n ih => simp only [sumTo]; split <;> omega
theorem sumTo_mono (a b : Nat) : sumTo a ≤ sumTo (a + b) := by induction b with
  | zero => simp
  | succ n ih => rw [← Nat.add_assoc]; simp only [sumTo]; omega
theorem sumTo_all : sumTo 256 = 3 := by kernel_rfl
theorem sumTo_small (k : Nat) (h : k ≤ 256) : sumTo k ≤ 3 := by
  obtain ⟨d, hd⟩ : ∃ d, 256 = k + d := ⟨256 - k, by omega⟩
  have := sumTo_mono k d; rw [← hd, sumTo_all] at this; exact this
theorem markG_at (k : Nat) : markG bytesG (6 + k) = .int .u8 (mkV k) := by
  by_cases h1 : k = 34
  · subst h1; kernel_rfl
  by_cases h2 : k = 92
  · subst h2; kernel_rfl
  by_cases h3 : k = 110
  · subst h3; kernel_rfl
  have e : mkV k = 0 := by simp [mkV, mk, h1, h2, h3]
  rw [e, Nat.add_comm]
  have n1 : ¬ k + 6 = 6 + (34 : UInt8).toNat := by simp; omega
  have n2 : ¬ k + 6 = 6 + (92 : UInt8).toNat := by simp; omega
  have n3 : ¬ k + 6 = 6 + (110 : UInt8).toNat := by simp; omega
  simp only [bytesG, markG, n1, n2, n3, if_false]
  rfl
/-- The cells after the sum has come to k. -/
def sumG (k : Nat) (i : Nat) : Value := if i = 5 then .int .i64 (sumTo k : Nat) else markG bytesG i
def arrG : List Value := (List.range 256).map fun j => markG bytesG (6 + j)
theorem arrG_length : arrG.length = 256 := by simp [arrG]
theorem arrG_at (k : Nat) (h : k < 256) : arrG[k]? = some (.int .u8 (mkV k)) := by
  rw [arrG, List.getElem?_map, List.getElem?_range h, Option.map_some, markG_at k]
theorem arrG_range {w : World} {R : Nat} (h : w.rowIs R 148 262 (markG bytesG)) : w.rangeAt R 6 arrG := by
  intro j v hv
  have hj : j < 256 := by
    rcases Nat.lt_or_ge j 256 with h' | h'
    · exact h'
    · rw [List.getElem?_eq_none (by rw [arrG_length]; exact h')] at hv; cases hv
  rw [World.rowIs.cell h (i := 6 + j) (by omega), markG_at j, ← arrG_at j hj, hv]
theorem sumG_range {w : World} {R k : Nat} (h : w.rowIs R 148 262 (sumG k)) : w.rangeAt R 6 arrG := by
  intro j v hv
  have hj : j < 256 := by
    rcases Nat.lt_or_ge j 256 with h' | h'
    · exact h'
    · rw [List.getElem?_eq_none (by rw [arrG_length]; exact h')] at hv; cases hv
  rw [World.rowIs.cell h (i := 6 + j) (by omega), sumG, if_neg (by omega), markG_at j, ← arrG_at j hj, hv]
/-- The cells after the places below k have got their indexes. -/
def idxG (k : Nat) (i : Nat) : Value := if i < 6 then sumG 256 i else if i < 6 + k then .int .u8 (if mk (i - 6) then (sumTo (i - 6) : Nat) else 3) else markG bytesG i
theorem idxG_zero (i : Nat) : idxG 0 i = sumG 256 i := by
  unfold idxG
  by_cases h : i < 6
  · rw [if_pos h]
  · rw [if_neg h, if_neg (by omega), sumG, if_neg (by omega)]
theorem idxG_step (k : Nat) (v : Int) (hv : v = if mk k then (sumTo k : Int) else 3) (i : Nat) : (if i = 6 + k then Value.int .u8 v else idxG k i) = idxG (k + 1) i := by
  unfold idxG
  by_cases h : i = 6 + k
  · subst h
    rw [if_pos rfl, if_neg (by omega), if_pos (by omega), Nat.add_sub_cancel_left, hv]
  · rw [if_neg h]
    by_cases h6 : i < 6
    · rw [if_pos h6, if_pos h6]
    · rw [if_neg h6, if_neg h6]
      by_cases hk : i < 6 + k
      · rw [if_pos hk, if_pos (show i < 6 + (k + 1) by omega)]
      · rw [if_neg hk, if_neg (show ¬ i < 6 + (k + 1) by omega)]
theorem idxG_all (j : Nat) (h : j < 256) : (if mk j then (sumTo j : Nat) else 3 : Int) = mapOf j := by
  unfold mapOf
  by_cases h1 : j = 34
  · subst h1; rfl
  by_cases h2 : j = 92
  · subst h2; rfl
  by_cases h3 : j = 110
  · subst h3; rfl
  simp [mk, h1, h2, h3]
theorem genF_idx (v : Value) (j : Nat) (hj : j < 262) : (if j = 4 then v else idxG 256 j) = genF v j := by
  by_cases h6 : j < 6
  · rcases (show j = 0 ∨ j = 1 ∨ j = 2 ∨ j = 3 ∨ j = 4 ∨ j = 5 by omega) with rfl | rfl | rfl | rfl | rfl | rfl
    · rfl
    · rfl
    · rfl
    · rfl
    · rfl
    · simp only [idxG, sumG, sumTo_all]; rfl
  · obtain ⟨d, rfl⟩ : ∃ d, j = d + 6 := ⟨j - 6, by omega⟩
    rw [if_neg (by omega), idxG, if_neg h6, if_pos (by omega), Nat.add_sub_cancel, idxG_all d (by omega)]; rfl
theorem size256 : (Tryz.prog.info? 123).map (·.size) = some 256 := by kernel_rfl

/-- A genericReplacer with the pairs of Unquote: its root's table, the node of the first byte, that node's table, a leaf for each pair. -/
def GS (B R : Nat) (w : World) : Prop := B ≤ R ∧ ∃ T m t a b n, B ≤ T ∧ B ≤ m ∧ B ≤ t ∧ B ≤ a ∧ B ≤ b ∧ B ≤ n ∧ Gen w R (.slice (some ⟨T, 0, none⟩) 3 3) ∧ Tab w T (.pointer none) (.pointer (some ⟨m, 0, none⟩)) (.pointer none) ∧
  Node w m [] 0 [] (.pointer none) (.slice (some ⟨t, 0, none⟩) 3 3) ∧ Tab w t (.pointer (some ⟨a, 0, none⟩)) (.pointer (some ⟨b, 0, none⟩)) (.pointer (some ⟨n, 0, none⟩)) ∧
  Node w a [34] 4 [] (.pointer none) (.slice none 0 0) ∧ Node w b [92] 2 [] (.pointer none) (.slice none 0 0) ∧ Node w n [10] 6 [] (.pointer none) (.slice none 0 0)

set_option maxRecDepth 100000 in
set_option maxHeartbeats 4000000 in
theorem make_generic (g c : Nat) (w : World) (hg : g < w.heap.size) (hs : ∀ k, k < 6 → w.cell? ⟨g, k, none⟩ = some (.string (S (strAt unquoteL k)))) :
    Calls Tryz.prog 98 #[.slice (some ⟨g, 0, none⟩) 6 c] w fun e w' => e = .returned (.pointer (some ⟨w.heap.size, 0, none⟩)) ∧ Below w.heap.size w w' ∧ GS w.heap.size w.heap.size w' := by
  have c0 := hs 0 (by decide); have c1 := hs 1 (by decide); have c2 := hs 2 (by decide); have c3 := hs 3 (by decide); have c4 := hs 4 (by decide); have c5 := hs 5 (by decide)
  simp only [strAt, unquoteL, List.getD_cons_zero, List.getD_cons_succ] at c0 c1 c2 c3 c4 c5
  clear hs
  have z1 : ((at_ [92, 110] 1).toNat : Int) = 110 := rfl
  have z2 : ((at_ [92, 34] 1).toNat : Int) = 34 := rfl
  have z3 : ((at_ [92, 92] 1).toNat : Int) = 92 := rfl
  go_enter Tryz.func98, Tryz.ntmps98
  go_wp2_with fail
  obtain ⟨w1, hw1⟩ : ∃ w1, w1 = w.alloc (.cells Tryz.zeroCells148 148) := ⟨_, rfl⟩
  rw [← hw1]
  have hrow : w1.rowIs w.heap.size 148 262 (markG []) := by rw [hw1]; exact zeroG_row w
  have hb : Below w.heap.size w w1 := by rw [hw1]; exact bel_alloc (Below.refl _ _) _
  have hR0 : w.heap.size < w1.heap.size := World.rowIs.lt hrow
  clear hw1
  obtain ⟨wa, hwa⟩ : ∃ wa, wa = w1 := ⟨_, rfl⟩
  rw [← hwa]; rw [← hwa] at hrow hb hR0; clear hwa
  refine wp_loop_rounds 4 ?_
  rw [rounds_succ]
  have d0 : wa.cell? ⟨g, 0, none⟩ = some (.string (S [92, 110])) := by rw [hb.cell (p := ⟨g, 0, none⟩) hg]; exact c0
  go_wp2_with fail
  clear d0
  refine wp_loop_rounds 3 ?_
  rw [rounds_succ]
  go_wp2_with fail
  have x0 : wa.drew.cell? ⟨w.heap.size, 98, none⟩ = some (markG [] 98) := World.rowIs.cell hrow (by decide)
  have fz : ∀ j, wa.drew.frozen? ⟨w.heap.size, j, none⟩ = false := World.rowIs.frozen hrow
  have HR := Lib.hid hrow; clear hrow
  go_still_tail 7, (by kernel_rfl)
  change wpList _ _ _ _ _ (World.drew _)
  go_wp2_with fail
  obtain ⟨w1_, hn⟩ : ∃ wn, wn = (wa.setCell ⟨w.heap.size, 98, none⟩ (.int .u8 1)).drew := ⟨_, rfl⟩
  rw [← hn]
  have hrow : w1_.rowIs w.heap.size 148 262 (markG [92]) := mark_step 92 HR.out hn
  have hb : Below w.heap.size w w1_ := by rw [hn]; exact (bel_set hb _ _ (Nat.le_refl _)).drew
  clear hn x0 fz HR
  rw [rounds_succ]
  go_wp2_with fail
  have x0 : w1_.drew.cell? ⟨w.heap.size, 116, none⟩ = some (markG [92] 116) := World.rowIs.cell hrow (by decide)
  have fz : ∀ j, w1_.drew.frozen? ⟨w.heap.size, j, none⟩ = false := World.rowIs.frozen hrow
  have HR := Lib.hid hrow; clear hrow
  go_still_tail 7, (by kernel_rfl)
  change wpList _ _ _ _ _ (World.drew _)
  go_wp2_with fail
  obtain ⟨w2_, hn⟩ : ∃ wn, wn = (w1_.setCell ⟨w.heap.size, 116, none⟩ (.int .u8 1)).drew := ⟨_, rfl⟩
  rw [← hn]
  have hrow : w2_.rowIs w.heap.size 148 262 (markG [110, 92]) := mark_step 110 HR.out hn
  have hb : Below w.heap.size w w2_ := by rw [hn]; exact (bel_set hb _ _ (Nat.le_refl _)).drew
  clear hn x0 fz HR
  rw [rounds_succ]
  go_wp2_with fail
  rw [rounds_succ]
  have d0 : w2_.cell? ⟨g, 2, none⟩ = some (.string (S [92, 34])) := by rw [hb.cell (p := ⟨g, 2, none⟩) hg]; exact c2
  go_wp2_with fail
  clear d0
  refine wp_loop_rounds 3 ?_
  rw [rounds_succ]
  go_wp2_with fail
  have x0 : w2_.drew.cell? ⟨w.heap.size, 98, none⟩ = some (markG [110, 92] 98) := World.rowIs.cell hrow (by decide)
  have fz : ∀ j, w2_.drew.frozen? ⟨w.heap.size, j, none⟩ = false := World.rowIs.frozen hrow
  have HR := Lib.hid hrow; clear hrow
  go_still_tail 7, (by kernel_rfl)
  change wpList _ _ _ _ _ (World.drew _)
  go_wp2_with fail
  obtain ⟨w3_, hn⟩ : ∃ wn, wn = (w2_.setCell ⟨w.heap.size, 98, none⟩ (.int .u8 1)).drew := ⟨_, rfl⟩
  rw [← hn]
  have hrow : w3_.rowIs w.heap.size 148 262 (markG [92, 110, 92]) := mark_step 92 HR.out hn
  have hb : Below w.heap.size w w3_ := by rw [hn]; exact (bel_set hb _ _ (Nat.le_refl _)).drew
  clear hn x0 fz HR
  rw [rounds_succ]
  go_wp2_with fail
  have x0 : w3_.drew.cell? ⟨w.heap.size, 40, none⟩ = some (markG [92, 110, 92] 40) := World.rowIs.cell hrow (by decide)
  have fz : ∀ j, w3_.drew.frozen? ⟨w.heap.size, j, none⟩ = false := World.rowIs.frozen hrow
  have HR := Lib.hid hrow; clear hrow
  go_still_tail 7, (by kernel_rfl)
  change wpList _ _ _ _ _ (World.drew _)
  go_wp2_with fail
  obtain ⟨w4_, hn⟩ : ∃ wn, wn = (w3_.setCell ⟨w.heap.size, 40, none⟩ (.int .u8 1)).drew := ⟨_, rfl⟩
  rw [← hn]
  have hrow : w4_.rowIs w.heap.size 148 262 (markG [34, 92, 110, 92]) := mark_step 34 HR.out hn
  have hb : Below w.heap.size w w4_ := by rw [hn]; exact (bel_set hb _ _ (Nat.le_refl _)).drew
  clear hn x0 fz HR
  rw [rounds_succ]
  go_wp2_with fail
  rw [rounds_succ]
  have d0 : w4_.cell? ⟨g, 4, none⟩ = some (.string (S [92, 92])) := by rw [hb.cell (p := ⟨g, 4, none⟩) hg]; exact c4
  go_wp2_with fail
  clear d0
  refine wp_loop_rounds 3 ?_
  rw [rounds_succ]
  go_wp2_with fail
  have x0 : w4_.drew.cell? ⟨w.heap.size, 98, none⟩ = some (markG [34, 92, 110, 92] 98) := World.rowIs.cell hrow (by decide)
  have fz : ∀ j, w4_.drew.frozen? ⟨w.heap.size, j, none⟩ = false := World.rowIs.frozen hrow
  have HR := Lib.hid hrow; clear hrow
  go_still_tail 7, (by kernel_rfl)
  change wpList _ _ _ _ _ (World.drew _)
  go_wp2_with fail
  obtain ⟨w5_, hn⟩ : ∃ wn, wn = (w4_.setCell ⟨w.heap.size, 98, none⟩ (.int .u8 1)).drew := ⟨_, rfl⟩
  rw [← hn]
  have hrow : w5_.rowIs w.heap.size 148 262 (markG [92, 34, 92, 110, 92]) := mark_step 92 HR.out hn
  have hb : Below w.heap.size w w5_ := by rw [hn]; exact (bel_set hb _ _ (Nat.le_refl _)).drew
  clear hn x0 fz HR
  rw [rounds_succ]
  go_wp2_with fail
  have x0 : w5_.drew.cell? ⟨w.heap.size, 98, none⟩ = some (markG [92, 34, 92, 110, 92] 98) := World.rowIs.cell hrow (by decide)
  have fz : ∀ j, w5_.drew.frozen? ⟨w.heap.size, j, none⟩ = false := World.rowIs.frozen hrow
  have HR := Lib.hid hrow; clear hrow
  go_still_tail 7, (by kernel_rfl)
  change wpList _ _ _ _ _ (World.drew _)
  go_wp2_with fail
  obtain ⟨w6_, hn⟩ : ∃ wn, wn = (w5_.setCell ⟨w.heap.size, 98, none⟩ (.int .u8 1)).drew := ⟨_, rfl⟩
  rw [← hn]
  have hrow : w6_.rowIs w.heap.size 148 262 (markG [92, 92, 34, 92, 110, 92]) := mark_step 92 HR.out hn
  have hb : Below w.heap.size w w6_ := by rw [hn]; exact (bel_set hb _ _ (Nat.le_refl _)).drew
  clear hn x0 fz HR
  rw [rounds_succ]
  go_wp2_with fail
  rw [rounds_succ]
  go_wp2_with fail
  refine wp_load_mid 123 (.tmp 39) rfl w.heap.size 6 rfl arrG _ (arrG_range hrow) under256 rfl (by rw [arrG_length]; exact size256) ?_
  obtain ⟨arr, harr⟩ : ∃ arr, arr = arrG.toArray := ⟨_, rfl⟩
  rw [← harr]
  have hat : ∀ (k : Nat), k < 256 → arr[k]? = some (.int .u8 (mkV k)) := by intro k hk; rw [harr]; simpa using arrG_at k hk
  have HAT := Lib.hid hat
  have hrow0 : w6_.rowIs w.heap.size 148 262 (sumG 0) := World.rowIs.congr hrow (fun i _ => by unfold sumG; split <;> simp_all [markG, sumTo, bytesG, zeroG])
  clear hat hrow harr
  go_wp2_with fail
  go_loopw [41] (fun i wr => ∃ k : Nat, k ≤ 256 ∧ i = .int .i64 k ∧ wr.rowIs w.heap.size 148 262 (sumG k) ∧ Below w.heap.size w wr) (fun i _ => 256 - (intOf i).toNat)
  case atStart => exact ⟨0, by omega, rfl, hrow0, hb⟩
  case round =>
    obtain ⟨k, hk, rfl, hr, hb⟩ := hrel
    by_cases hlt : k < 256
    · have hix : ∀ W, (Instr.index 123 (.agg arr) (.int .i64 k)).run Tryz.prog W = .ok (.int .u8 (mkV k)) W := fun W => run_index256 arr k hlt _ (HAT.out k hlt) W
      have f5 : wr.cell? ⟨w.heap.size, 5, none⟩ = some (.int .i64 (sumTo k : Nat)) := World.rowIs.cell hr (by decide)
      have fz : ∀ j, wr.frozen? ⟨w.heap.size, j, none⟩ = false := World.rowIs.frozen hr
      have hsm := sumTo_small k hk
      have hmv : 0 ≤ mkV k ∧ mkV k ≤ 1 := by unfold mkV; split <;> omega
      have HS := Lib.hid (show (sumTo (k + 1) : Int) = sumTo k + mkV k by simp only [sumTo, mkV]; split <;> simp)
      have HR := Lib.hid hr; have HB := Lib.hid hb; clear hr
      go_wp2_with fail
      refine ⟨⟨k + 1, by omega, rfl, ?_, bel_set HB.out _ _ (Nat.le_refl _)⟩, by simp [intOf]; omega⟩
      refine World.rowIs.congr (World.rowIs.set HR.out 5 (.int .i64 ((sumTo k : Nat) + mkV k))) (fun j hj => ?_)
      by_cases h5 : j = 5
      · subst h5; simp only [sumG, if_true]; rw [HS.out]
      · simp only [sumG, h5, if_false]
    · obtain rfl : k = 256 := by omega
      have f5 : wr.cell? ⟨w.heap.size, 5, none⟩ = some (.int .i64 3) := (World.rowIs.cell hr (by decide)).trans (by unfold sumG; rw [sumTo_all]; rfl)
      have HR := Lib.hid hr; have HB := Lib.hid hb
      obtain ⟨wb, hwb⟩ : ∃ wb, wb = wr := ⟨_, rfl⟩
      rw [← hwb] at HR HB f5 hr ⊢
      clear hwb hb hk hlt HAT hrow0
      go_wp2_with fail
      refine wp_load_mid 123 (.tmp 56) rfl w.heap.size 6 rfl arrG _ (sumG_range hr) under256 rfl (by rw [arrG_length]; exact size256) ?_
      obtain ⟨ar2, harr⟩ : ∃ arr, arr = arrG.toArray := ⟨_, rfl⟩
      rw [← harr]
      have hat : ∀ (k : Nat), k < 256 → ar2[k]? = some (.int .u8 (mkV k)) := by intro k hk; rw [harr]; simpa using arrG_at k hk
      have HAT := Lib.hid hat
      have hrow0 : wb.rowIs w.heap.size 148 262 (idxG 0) := World.rowIs.congr hr (fun i _ => (idxG_zero i).symm)
      have hb := HB.out
      clear hat hr harr HR HB f5
      go_wp2_with fail
      go_loopw [58, 9] (fun i x wr => ∃ k : Nat, k ≤ 256 ∧ i = .int .i64 k ∧ x = .int .u8 (sumTo k : Nat) ∧ wr.rowIs w.heap.size 148 262 (idxG k) ∧ Below w.heap.size w wr) (fun i _ _ => 256 - (intOf i).toNat)
      case atStart => exact ⟨0, by omega, rfl, rfl, hrow0, hb⟩
      case round =>
        obtain ⟨k, hk, rfl, rfl, hr, hb⟩ := hrel
        by_cases hlt : k < 256
        · have hix : ∀ W, (Instr.index 123 (.agg ar2) (.int .i64 k)).run Tryz.prog W = .ok (.int .u8 (mkV k)) W := fun W => run_index256 ar2 k hlt _ (HAT.out k hlt) W
          have HR := Lib.hid hr; have HB := Lib.hid hb
          cases hm : mk k with
          | false =>
            have hv : mkV k = 0 := by unfold mkV; rw [hm]; rfl
            rw [hv] at hix
            have HM := Lib.hid hm; clear hm hv
            go_wp2_with fail
            have f5 : wr.drew.cell? ⟨w.heap.size, 5, none⟩ = some (.int .i64 3) := (World.rowIs.cell hr (by decide)).trans (by simp only [idxG, sumG, sumTo_all]; rfl)
            have fk : wr.drew.cell? ⟨w.heap.size, 6 + k, none⟩ = some (idxG k (6 + k)) := World.rowIs.cell hr (by omega)
            have fz : ∀ j, wr.drew.frozen? ⟨w.heap.size, j, none⟩ = false := World.rowIs.frozen hr
            clear hr hb
            go_still_tail 10, (by kernel_rfl)
            change wpList _ _ _ _ _ (World.drew _)
            go_wp2_with fail
            refine ⟨⟨k + 1, by omega, rfl, by simp only [sumTo, HM.out]; rfl, World.rowIs.drew (World.rowIs.congr (World.rowIs.set HR.out (6 + k) (.int .u8 3)) (fun j _ => idxG_step k 3 (by rw [HM.out]; rfl) j)), (bel_set HB.out _ _ (Nat.le_refl _)).drew⟩, by simp [intOf]; omega⟩
          | true =>
            have hv : mkV k = 1 := by unfold mkV; rw [hm]; rfl
            rw [hv] at hix
            have HM := Lib.hid hm; clear hm hv
            have fk : wr.cell? ⟨w.heap.size, 6 + k, none⟩ = some (idxG k (6 + k)) := World.rowIs.cell hr (by omega)
            have fz : ∀ j, wr.frozen? ⟨w.heap.size, j, none⟩ = false := World.rowIs.frozen hr
            have hsm : sumTo k ≤ 3 := sumTo_small k hk
            clear hr hb
            go_wp2_with fail
            refine ⟨⟨k + 1, by omega, rfl, by simp only [sumTo, HM.out]; rfl, World.rowIs.congr (World.rowIs.set HR.out (6 + k) (.int .u8 (sumTo k : Nat))) (fun j _ => idxG_step k _ (by rw [HM.out]; rfl) j), bel_set HB.out _ _ (Nat.le_refl _)⟩, by simp [intOf]; omega⟩
        · obtain rfl : k = 256 := by omega
          have t0 : wr.cell? ⟨w.heap.size, 4, none⟩ = some (.slice none 0 0) := (World.rowIs.cell hr (by decide)).trans (by kernel_rfl)
          have t5 : wr.cell? ⟨w.heap.size, 5, none⟩ = some (.int .i64 3) := (World.rowIs.cell hr (by decide)).trans (by simp only [idxG, sumG, sumTo_all]; rfl)
          have fz : ∀ j, wr.frozen? ⟨w.heap.size, j, none⟩ = false := World.rowIs.frozen hr
          have HR := Lib.hid hr; have HB := Lib.hid hb
          have hRb : w.heap.size < wr.heap.size := World.rowIs.lt hr
          obtain ⟨wc, hwc⟩ : ∃ wc, wc = wr := ⟨_, rfl⟩
          rw [← hwc] at HR HB t0 t5 fz hRb ⊢
          clear hwc hb hr hk hlt HAT
          go_wp2_with fail
          obtain ⟨w0, hw0⟩ : ∃ w0, w0 = (wc.setCell ⟨w.heap.size, 4, none⟩ (.slice (some ⟨wc.heap.size, 0, none⟩) 3 3)).alloc (.cells #[.pointer none, .pointer none, .pointer none] 143) := ⟨_, rfl⟩
          rw [← hw0]
          obtain ⟨T0, hT0⟩ : ∃ T0, T0 = wc.heap.size := ⟨_, rfl⟩
          have s1 : (wc.setCell ⟨w.heap.size, 4, none⟩ (.slice (some ⟨wc.heap.size, 0, none⟩) 3 3)).heap.size = wc.heap.size := by simp [World.setCell]
          have hR : Gen w0 w.heap.size (.slice (some ⟨T0, 0, none⟩) 3 3) := by
            rw [hw0, hT0]; exact World.rowIs.alloc (World.rowIs.congr (World.rowIs.set HR.out 4 (.slice (some ⟨wc.heap.size, 0, none⟩) 3 3)) (fun j hj => genF_idx _ j hj)) _
          have hT : Tab w0 T0 (.pointer none) (.pointer none) (.pointer none) := by
            have := Tab.new (wc.setCell ⟨w.heap.size, 4, none⟩ (.slice (some ⟨wc.heap.size, 0, none⟩) 3 3)) (.pointer none) (.pointer none) (.pointer none)
            rw [s1] at this; rw [hw0, hT0]; exact this
          have hb : Below w.heap.size w w0 := by rw [hw0]; exact bel_alloc (bel_set HB.out _ _ (Nat.le_refl _)) _
          have hRT : w.heap.size ≠ T0 := by omega
          have hRT' : w.heap.size ≤ T0 := by omega
          clear hw0 hT0 s1 t0 t5 fz HR HB hRb
          have v1 : IntKind.i64.wrap 1 = 1 := rfl
          have v2 : IntKind.i64.wrap 2 = 2 := rfl
          have v3 : IntKind.i64.wrap 3 = 3 := rfl
          have v4 : IntKind.i64.wrap 4 = 4 := rfl
          have v5 : IntKind.i64.wrap 5 = 5 := rfl
          have v6 : IntKind.i64.wrap 6 = 6 := rfl
          refine wp_loop_rounds 4 ?_
          rw [rounds_succ]
          have d0 : w0.drew.cell? ⟨g, 0, none⟩ = some (.string (S [92, 110])) := by rw [World.cell?_drew, hb.cell (p := ⟨g, 0, none⟩) hg]; exact c0
          have d1 : w0.drew.cell? ⟨g, 1, none⟩ = some (.string (S [10])) := by rw [World.cell?_drew, hb.cell (p := ⟨g, 1, none⟩) hg]; exact c1
          go_wp2_with fail
          go_still_tail 17, (by kernel_rfl)
          change wpList _ _ _ _ _ (World.drew _)
          go_wp2_with fail
          refine (root_new T0 w.heap.size _ _ 110 [10] 6 w0.drew hT.drew hR hRT).mono ?_
          rintro e w1 ⟨rfl, hg1, m, n, hm, hn, hmn, hT1, hM1, hN1⟩
          have sz1 := hg1.size
          have hm' : w0.heap.size ≤ m := hm
          have hn' : w0.heap.size ≤ n := hn
          have hT0 : T0 < w0.heap.size := World.rowIs.lt hT
          have hR1 : Gen w1 w.heap.size (.slice (some ⟨T0, 0, none⟩) 3 3) := Gen.kept (w := w0.drew) hR hg1 (by simp; exact hRT)
          have hb1 : Below w.heap.size w w1 := Below.grown hb.drew hg1 hb.size (fun k hk => by injection hk with hk; omega)
          have hbs := hb.size
          clear d0 d1 hg1 hT hR hb
          have H1 := Lib.hid (And.intro hT1 (And.intro hM1 (And.intro hN1 hR1)))
          clear hT1 hM1 hN1 hR1
          go_wp2_with fail
          rw [rounds_succ]
          have d0 : w1.drew.cell? ⟨g, 2, none⟩ = some (.string (S [92, 34])) := by rw [World.cell?_drew, hb1.cell (p := ⟨g, 2, none⟩) hg]; exact c2
          have d1 : w1.drew.cell? ⟨g, 3, none⟩ = some (.string (S [34])) := by rw [World.cell?_drew, hb1.cell (p := ⟨g, 3, none⟩) hg]; exact c3
          go_wp2_with fail
          go_still_tail 17, (by kernel_rfl)
          change wpList _ _ _ _ _ (World.drew _)
          go_wp2_with fail
          obtain ⟨hT1, hM1, hN1, hR1⟩ := H1.out
          have hm1 := World.rowIs.lt hM1
          have hn1 := World.rowIs.lt hN1
          refine (root_old T0 w.heap.size m _ _ 34 [34] 4 w1.drew (fun w' => w1.grownBy w' (some m) ∧ ∃ t a, w1.heap.size ≤ t ∧ w1.heap.size ≤ a ∧ a ≠ t ∧ Node w' m [] 0 [] (.pointer none) (.slice (some ⟨t, 0, none⟩) 3 3) ∧ Tab w' t (.pointer (some ⟨a, 0, none⟩)) (.pointer none) (.pointer (some ⟨n, 0, none⟩)) ∧ Node w' a [34] 4 [] (.pointer none) (.slice none 0 0)) hT1.drew hR1 hRT ?_).mono ?_
          · intro wq hgq hsz
            have hsz' : wq.heap.size = w1.heap.size := hsz
            refine (add_split m n w.heap.size _ [34] 4 wq (hM1.drew.kept hgq (by simp)) (Gen.kept (w := w1.drew) hR1 hgq (by simp)) (by omega)).mono ?_
            rintro e w' ⟨rfl, hg, t, a, h1, h2, h3, h4, h5, h6⟩
            exact ⟨rfl, ((grown_drew w1 (some m)).trans (grown_but hgq _)).trans hg, t, a, by omega, by omega, h3, h4, h5, h6⟩
          rintro e w2 ⟨rfl, hg2, t, a, ht, ha, hat, hM2, hS2, hA2⟩
          have sz2 := hg2.size
          have hR2 : Gen w2 w.heap.size (.slice (some ⟨T0, 0, none⟩) 3 3) := hR1.kept hg2 (by simp; omega)
          have hT2 := hT1.kept hg2 (by simp; omega)
          have hN2 := hN1.kept hg2 (by simp; omega)
          have hb2 : Below w.heap.size w w2 := Below.grown hb1 hg2 hb1.size (fun k hk => by injection hk with hk; omega)
          clear d0 d1 hg2 hb1 H1 hT1 hM1 hN1 hR1
          have H2 := Lib.hid (And.intro hT2 (And.intro hM2 (And.intro hN2 (And.intro hR2 (And.intro hS2 hA2)))))
          clear hT2 hM2 hN2 hR2 hS2 hA2
          go_wp2_with fail
          rw [rounds_succ]
          have d0 : w2.drew.cell? ⟨g, 4, none⟩ = some (.string (S [92, 92])) := by rw [World.cell?_drew, hb2.cell (p := ⟨g, 4, none⟩) hg]; exact c4
          have d1 : w2.drew.cell? ⟨g, 5, none⟩ = some (.string (S [92])) := by rw [World.cell?_drew, hb2.cell (p := ⟨g, 5, none⟩) hg]; exact c5
          go_wp2_with fail
          go_still_tail 17, (by kernel_rfl)
          change wpList _ _ _ _ _ (World.drew _)
          go_wp2_with fail
          obtain ⟨hT2, hM2, hN2, hR2, hS2, hA2⟩ := H2.out
          have ht2 := World.rowIs.lt hS2
          have ha2 := World.rowIs.lt hA2
          refine (root_old T0 w.heap.size m _ _ 92 [92] 2 w2.drew (fun w' => w2.grownBy w' (some t) ∧ ∃ b, w2.heap.size ≤ b ∧ Tab w' t (.pointer (some ⟨a, 0, none⟩)) (.pointer (some ⟨b, 0, none⟩)) (.pointer (some ⟨n, 0, none⟩)) ∧ Node w' b [92] 2 [] (.pointer none) (.slice none 0 0)) hT2.drew hR2 hRT ?_).mono ?_
          · intro wq hgq hsz
            have hsz' : wq.heap.size = w2.heap.size := hsz
            refine (add_table m t w.heap.size _ _ _ [92] 2 wq (hM2.drew.kept hgq (by simp)) (hS2.drew.kept hgq (by simp)) (Gen.kept (w := w2.drew) hR2 hgq (by simp)) (by omega) (by omega)).mono ?_
            rintro e w' ⟨rfl, hg, b, h1, h2, h3⟩
            exact ⟨rfl, ((grown_drew w2 (some t)).trans (grown_but hgq _)).trans hg, b, by omega, h2, h3⟩
          rintro e w3 ⟨rfl, hg3, b, hbb, hS3, hB3⟩
          have hR3 : Gen w3 w.heap.size (.slice (some ⟨T0, 0, none⟩) 3 3) := hR2.kept hg3 (by simp; omega)
          have hT3 := hT2.kept hg3 (by simp; omega)
          have hN3 := hN2.kept hg3 (by simp; omega)
          have hM3 := hM2.kept hg3 (by simp; omega)
          have hA3 := hA2.kept hg3 (by simp; omega)
          have hb3 : Below w.heap.size w w3 := Below.grown hb2 hg3 hb2.size (fun k hk => by injection hk with hk; omega)
          have HZ : Hid (GS w.heap.size w.heap.size w3) := Lib.hid ⟨Nat.le_refl _, T0, m, t, a, b, n, by omega, by omega, by omega, by omega, by omega, by omega, hR3, hT3, hM3, hS3, hA3, hB3, hN3⟩
          clear d0 d1 hg3 hb2 H2 hT2 hM2 hN2 hR2 hS2 hA2 hR3 hT3 hN3 hM3 hA3 hS3 hB3
          go_wp2_with fail
          rw [rounds_succ]
          go_wp2
          go_ret
          exact ⟨rfl, hb3, HZ.out⟩

end Go.Proofs.YtepgjaecfoaenaaGreatDoor
