/- The laws' closed example: alive. -/
import Derived.Test.YtepgjaecfoaenaaGreatDoorS1
import Derived.Test.YtepgjaecfoaenaaGreatDoorRR
import Derived.Test.YtepgjaecfoaenaaGreatDoorX
namespace Go.Proofs.YtepgjaecfoaenaaGreatDoor
open Go.RowKit
set_option linter.unusedVariables false
set_option linter.unusedSimpArgs false

def aliveL : List UInt8 := [61, 61, 61, 62, 32, 102, 49, 32, 47, 47, 32, 120]
def aliveT : List Tok := [⟨7, [61, 61]⟩, ⟨7, [61, 62]⟩, ⟨1, [32]⟩, ⟨3, [102, 49]⟩, ⟨1, [32]⟩, ⟨2, [47, 47, 32, 120]⟩]
theorem alive_lex : lex aliveL = aliveT := by kernel_rfl
theorem alive_unq : unquoteRes ⟨6, [34, 97, 92, 110, 34]⟩ = ([97, 10], 0) := by kernel_rfl
theorem alive_num : numRes ⟨5, [48, 49, 50]⟩ = (12, true, 0) := by kernel_rfl
theorem alive_quote : quoteRes [97, 34, 98] = ([34, 97, 92, 34, 98, 34], 0) := by kernel_rfl

theorem ReadT_alive (w : World) : ReadT (w.alloc (.cells #[.int .i64 7, .string ⟨#[61, 61]⟩, .int .i64 7, .string ⟨#[61, 62]⟩, .int .i64 1, .string ⟨#[32]⟩, .int .i64 3, .string ⟨#[102, 49]⟩, .int .i64 1, .string ⟨#[32]⟩, .int .i64 2, .string ⟨#[47, 47, 32, 120]⟩] 23)) (.slice (some ⟨w.heap.size, 0, none⟩) 6 6) aliveT := by
  refine ⟨_, 6, rfl, by decide, fun _ => ⟨w.heap.size, 0, rfl, by simp, fun k hk => ?_⟩⟩
  have hk6 : k < 6 := hk
  rcases (show k = 0 ∨ k = 1 ∨ k = 2 ∨ k = 3 ∨ k = 4 ∨ k = 5 by omega) with rfl | rfl | rfl | rfl | rfl | rfl <;> (constructor <;> (rw [World.cell?_alloc_new]; rfl))

set_option maxRecDepth 100000 in
set_option maxHeartbeats 2000000 in
theorem alive_calls (w : World) :
    Calls Tryz.prog 20 #[] w fun e w' => e = .returned (.bool true) ∧ Below w.heap.size w w' := by
  go_enter Tryz.func20, Tryz.ntmps20
  go_wp2_with fail
  refine (Lex_calls aliveL w (by decide)).mono ?_
  rintro e w1 ⟨v, rfl, hown, hb1⟩
  rw [alive_lex] at hown
  have HO := Lib.hid hown; clear hown
  go_wp2_with fail
  refine (Unquote_calls ⟨6, [34, 97, 92, 110, 34]⟩ w1).mono ?_
  rw [alive_unq]
  rintro e w2 ⟨rfl, hb2⟩
  go_wp2_with fail
  refine (Number_calls ⟨5, [48, 49, 50]⟩ w2 (fun h => absurd h (by decide))).mono ?_
  rw [alive_num]
  rintro e w3 ⟨rfl, hb3⟩
  go_wp2_with fail
  refine (Quote_calls [97, 34, 98] w3 (by decide)).mono ?_
  rw [alive_quote]
  rintro e w4 ⟨rfl, hb4⟩
  go_wp2_with fail
  have hb := bel_then (bel_then (bel_then hb1 hb2) hb3) hb4
  have hr1 : ReadT w4 v aliveT := (((HO.out.read (by decide)).below hb2).below hb3).below hb4
  refine (Same_calls v _ aliveT aliveT _ (hr1.below ((Below.refl _ _).alloc (Nat.le_refl _) _)) (ReadT_alive w4)).mono ?_
  rintro e w5 ⟨rfl, hb5⟩
  rw [show decide (aliveT = aliveT) = true by decide]
  go_wp2
  go_ret
  exact ⟨rfl, bel_then (bel_alloc hb _) hb5⟩

end Go.Proofs.YtepgjaecfoaenaaGreatDoor
