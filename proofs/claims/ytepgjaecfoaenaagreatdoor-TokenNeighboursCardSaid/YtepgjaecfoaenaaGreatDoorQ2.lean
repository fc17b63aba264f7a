/- strings.Replacer's build at the pairs of Quote: a byteStringReplacer. -/
import Derived.Test.YtepgjaecfoaenaaGreatDoorQ3
namespace Go.Proofs.YtepgjaecfoaenaaGreatDoor
open Go.RowKit
set_option linter.unusedVariables false
set_option linter.unusedSimpArgs false

@[go_sem high] theorem make3 (w : World) : (Instr.makeSlice 46 (.int .i64 0) (.int .i64 3)).run Tryz.prog w = .ok (.slice (some ⟨w.heap.size, 0, none⟩) 0 3) (w.alloc (.cells #[.string ⟨#[]⟩, .string ⟨#[]⟩, .string ⟨#[]⟩] 9)) := by kernel_rfl
@[go_sem high] theorem eql_bytes_nil (w : World) (a : Option Addr) (n c : Nat) : (binOp .eql 66 (.slice a n c) (.slice none 0 0)).run Tryz.prog w = .ok (.bool a.isNone) w := Lib.run_eql_slice_nil w 66 5 a n c 0 0 Tryz.underlying66
@[go_sem high] theorem conv_str_bytes (w : World) (l : List UInt8) : (convert 9 66 (.string (S l))).run Tryz.prog w = .ok (.slice (some ⟨w.heap.size, 0, none⟩) l.length (grownCap w l.length 0 5)) (Lib.bytesWorld w 5 (S l)) := by
  rw [Lib.run_convert_string_bytes w 9 66 5 (S l) Tryz.underlying9 Tryz.underlying66 Tryz.underlying5, S_size]

def quoteL : List (List UInt8) := [[10], [92, 110], [34], [92, 34], [92], [92, 92]]
def doneL : Nat → List UInt8
  | 0 => [] | 1 => [92] | 2 => [92, 34] | _ => [92, 34, 10]

set_option maxRecDepth 100000 in
set_option maxHeartbeats 2000000 in
theorem build_quote (R g c : Nat) (w : World) (hR : R < w.heap.size) (hg : g < w.heap.size)
    (hold : w.cell? ⟨R, 4, none⟩ = some (.slice (some ⟨g, 0, none⟩) 6 c))
    (c0 : w.cell? ⟨g, 0, none⟩ = some (.string (S [10]))) (c1 : w.cell? ⟨g, 1, none⟩ = some (.string (S [92, 110])))
    (c2 : w.cell? ⟨g, 2, none⟩ = some (.string (S [34]))) (c3 : w.cell? ⟨g, 3, none⟩ = some (.string (S [92, 34])))
    (c4 : w.cell? ⟨g, 4, none⟩ = some (.string (S [92]))) (c5 : w.cell? ⟨g, 5, none⟩ = some (.string (S [92, 92]))) :
    Calls Tryz.prog 75 #[.pointer (some ⟨R, 0, none⟩)] w (fun e w' => ∃ q, e = .returned (.iface 129 (.pointer (some ⟨q, 0, none⟩))) ∧ BS w.heap.size q [92, 34, 10] w' ∧ Below w.heap.size w w') := by
  go_enter Tryz.func75, Tryz.ntmps75
  go_wp2
  refine wp_loop_rounds 4 ?_
  rw [rounds_succ]; go_wp2
  rw [rounds_succ]; go_wp2
  rw [rounds_succ]; go_wp2
  rw [rounds_succ]; go_wp2_with (with_reducible refine stop_store 128 fun hgoal => ?_)
  refine hgoal (wpList_store_whole rfl 128 (.tmp 11) (.tmp 95) rfl (w.heap.size + 1) _ rfl rfl 128 Tryz.zeroCells128 ?_ ?_ ?_ ?_ ?_)
  · exact heap_alloc2_new _ _ _
  · rw [zeroCells_bsr, rowZ_set, rowZ_size]; exact sizeBsr
  · rw [zeroCells_bsr, rowZ_set, rowZ_size, rowZ_size]
  · rw [zeroCells_bsr, rowZ_set]; exact rowZ_all _ _ _
  rw [zeroCells_bsr, rowZ_set]
  intro w1 hq hb1 hs1
  clear hgoal
  have hb0 : Below (w.heap.size + 1) (w.alloc (.cells #[.string ⟨#[]⟩, .string ⟨#[]⟩, .string ⟨#[]⟩] 9)) w1 := ((Below.refl _ _).alloc (by simp) _).trans hb1
  have hw1 : Below w.heap.size w w1 := (bel_alloc (Below.refl _ _) _).trans (hb0.mono (by omega))
  have hBS : BS w.heap.size (w.heap.size + 1) [] w1 := by
    refine ⟨_, some ⟨w.heap.size, 0, none⟩, 0, 3, hq, by omega, rowZ_size _, rowZ_last _, ?_, by simp [Value.ownBlock], fun b _ => rowZ_at _ _ b.toNat_lt, fun b hb => by simp at hb⟩
    refine ⟨rfl, .inr ⟨w.heap.size, 3, #[.string ⟨#[]⟩, .string ⟨#[]⟩, .string ⟨#[]⟩], rfl, Nat.le_refl _, ?_, by simp, by simp [maxLen], rfl, rfl⟩⟩
    rw [hb0.block _ (by omega)]
    exact heap_alloc_new _ _
  clear hb0 hb1 hq hs1
  go_wp2
  go_loopw [12] (fun i wr => ∃ k : Nat, k ≤ 3 ∧ i = .int .i64 (4 - 2 * (k : Int)) ∧ BS w.heap.size (w.heap.size + 1) (doneL k) wr ∧ Below w.heap.size w wr) (fun i _ => (intOf i + 2).toNat)
  case atStart => exact ⟨0, by omega, rfl, hBS, hw1⟩
  case round =>
    clear hw1 hBS
    obtain ⟨k, hk, rfl, ⟨arr, ao, n, c', hS⟩, hb⟩ := hrel
    rcases (show k = 0 ∨ k = 1 ∨ k = 2 ∨ k = 3 by omega) with rfl | rfl | rfl | rfl
    · have d4 : wr.cell? ⟨g, 4, none⟩ = some (.string (S [92])) := by rw [hb.cell (p := ⟨g, 4, none⟩) hg]; exact c4
      have d5 : wr.cell? ⟨g, 5, none⟩ = some (.string (S [92, 92])) := by rw [hb.cell (p := ⟨g, 5, none⟩) hg]; exact c5
      have q1 : wr.cell? ⟨w.heap.size + 1, 92, none⟩ = some (.slice none 0 0) := by rw [cell_of_row _ _ _ _ _ _ hS.row]; exact hS.left 92 (by decide)
      have q2 : wr.cell? ⟨w.heap.size + 1, 256, none⟩ = some (.slice ao n c') := by rw [cell_of_row _ _ _ _ _ _ hS.row]; exact hS.last
      have f1 : wr.frozen? ⟨w.heap.size + 1, 92, none⟩ = false := frozen_of_row _ _ _ _ _ hS.row
      have f2 : wr.frozen? ⟨w.heap.size + 1, 256, none⟩ = false := frozen_of_row _ _ _ _ _ hS.row
      have hcv := conv_one 92 92 rfl wr wr.heap.size rfl
      have hbw := hb.size
      have hS1 := hS.below (w' := wr.alloc (.cells #[.int .u8 92] 5)) ((Below.refl _ _).alloc (Nat.le_refl _) _)
      have hb1 := bel_alloc hb (.cells #[.int .u8 92] 5)
      clear hS
      go_wp2_with (at_builtin; refine str_append w.heap.size rfl (.tmp 119) (.tmp 123) rfl (.slice ao n c') [] [92] rfl (wr.heap.size + 1) rfl (by simp) hS1.own (by simp; omega) (by decide) ?_; intro v1 w2 hown2 hg2 hat2; obtain ⟨ao', n', c'', rfl⟩ := own_slice hown2; obtain ⟨x1, x2, x3, x4⟩ := hS1.cells2 hg2 92 (by decide) (.slice ao' n' c'') (S [92, 92]) 92 rfl; have HO := Lib.hid hown2; have HG := Lib.hid hg2; have HA := Lib.hid hat2; clear hown2 hg2 hat2)
      go_roundw
      case rel =>
        refine ⟨1, by omega, rfl, ?_, ?_⟩
        · exact hS1.step (o := 92) (by decide) HG.out HO.out HA.out _ _ _ rfl (by simp) (by simp; omega)
        · exact hS1.below_step hb1 HG.out _ _ _ _
      case measure => decide
    · have d4 : wr.cell? ⟨g, 2, none⟩ = some (.string (S [34])) := by rw [hb.cell (p := ⟨g, 2, none⟩) hg]; exact c2
      have d5 : wr.cell? ⟨g, 3, none⟩ = some (.string (S [92, 34])) := by rw [hb.cell (p := ⟨g, 3, none⟩) hg]; exact c3
      have q1 : wr.cell? ⟨w.heap.size + 1, 34, none⟩ = some (.slice none 0 0) := by rw [cell_of_row _ _ _ _ _ _ hS.row]; exact hS.left 34 (by decide)
      have q2 : wr.cell? ⟨w.heap.size + 1, 256, none⟩ = some (.slice ao n c') := by rw [cell_of_row _ _ _ _ _ _ hS.row]; exact hS.last
      have f1 : wr.frozen? ⟨w.heap.size + 1, 34, none⟩ = false := frozen_of_row _ _ _ _ _ hS.row
      have f2 : wr.frozen? ⟨w.heap.size + 1, 256, none⟩ = false := frozen_of_row _ _ _ _ _ hS.row
      have hcv := conv_one 34 34 rfl wr wr.heap.size rfl
      have hbw := hb.size
      have hS1 := hS.below (w' := wr.alloc (.cells #[.int .u8 34] 5)) ((Below.refl _ _).alloc (Nat.le_refl _) _)
      have hb1 := bel_alloc hb (.cells #[.int .u8 34] 5)
      clear hS
      go_wp2_with (at_builtin; refine str_append w.heap.size rfl (.tmp 119) (.tmp 123) rfl (.slice ao n c') [[92]] [34] rfl (wr.heap.size + 1) rfl (by simp) hS1.own (by simp; omega) (by decide) ?_; intro v1 w2 hown2 hg2 hat2; obtain ⟨ao', n', c'', rfl⟩ := own_slice hown2; obtain ⟨x1, x2, x3, x4⟩ := hS1.cells2 hg2 34 (by decide) (.slice ao' n' c'') (S [92, 34]) 34 rfl; have HO := Lib.hid hown2; have HG := Lib.hid hg2; have HA := Lib.hid hat2; clear hown2 hg2 hat2)
      go_roundw
      case rel =>
        refine ⟨2, by omega, rfl, ?_, ?_⟩
        · exact hS1.step (o := 34) (by decide) HG.out HO.out HA.out _ _ _ rfl (by simp) (by simp; omega)
        · exact hS1.below_step hb1 HG.out _ _ _ _
      case measure => decide
    · have d4 : wr.cell? ⟨g, 0, none⟩ = some (.string (S [10])) := by rw [hb.cell (p := ⟨g, 0, none⟩) hg]; exact c0
      have d5 : wr.cell? ⟨g, 1, none⟩ = some (.string (S [92, 110])) := by rw [hb.cell (p := ⟨g, 1, none⟩) hg]; exact c1
      have q1 : wr.cell? ⟨w.heap.size + 1, 10, none⟩ = some (.slice none 0 0) := by rw [cell_of_row _ _ _ _ _ _ hS.row]; exact hS.left 10 (by decide)
      have q2 : wr.cell? ⟨w.heap.size + 1, 256, none⟩ = some (.slice ao n c') := by rw [cell_of_row _ _ _ _ _ _ hS.row]; exact hS.last
      have f1 : wr.frozen? ⟨w.heap.size + 1, 10, none⟩ = false := frozen_of_row _ _ _ _ _ hS.row
      have f2 : wr.frozen? ⟨w.heap.size + 1, 256, none⟩ = false := frozen_of_row _ _ _ _ _ hS.row
      have hcv := conv_one 10 10 rfl wr wr.heap.size rfl
      have hbw := hb.size
      have hS1 := hS.below (w' := wr.alloc (.cells #[.int .u8 10] 5)) ((Below.refl _ _).alloc (Nat.le_refl _) _)
      have hb1 := bel_alloc hb (.cells #[.int .u8 10] 5)
      clear hS
      go_wp2_with (at_builtin; refine str_append w.heap.size rfl (.tmp 119) (.tmp 123) rfl (.slice ao n c') [[92], [34]] [10] rfl (wr.heap.size + 1) rfl (by simp) hS1.own (by simp; omega) (by decide) ?_; intro v1 w2 hown2 hg2 hat2; obtain ⟨ao', n', c'', rfl⟩ := own_slice hown2; obtain ⟨x1, x2, x3, x4⟩ := hS1.cells2 hg2 10 (by decide) (.slice ao' n' c'') (S [92, 110]) 10 rfl; have HO := Lib.hid hown2; have HG := Lib.hid hg2; have HA := Lib.hid hat2; clear hown2 hg2 hat2)
      go_roundw
      case rel =>
        refine ⟨3, by omega, rfl, ?_, ?_⟩
        · exact hS1.step (o := 10) (by decide) HG.out HO.out HA.out _ _ _ rfl (by simp) (by simp; omega)
        · exact hS1.below_step hb1 HG.out _ _ _ _
      case measure => decide
    · go_wp2
      go_ret
      exact ⟨_, rfl, ⟨arr, ao, n, c', hS⟩, hb⟩

end Go.Proofs.YtepgjaecfoaenaaGreatDoor
