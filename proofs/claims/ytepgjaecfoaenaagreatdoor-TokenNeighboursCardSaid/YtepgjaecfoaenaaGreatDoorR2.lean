/- The walk of the token package's Quote. Condition: none but that a string is no longer than an int can tell. -/
import Derived.Test.YtepgjaecfoaenaaGreatDoorR1
namespace Go.Proofs.YtepgjaecfoaenaaGreatDoor
open Go.RowKit
set_option linter.unusedVariables false
set_option linter.unusedSimpArgs false

@[go_sem high] theorem lit_app (x : UInt8) (l : List UInt8) : (⟨#[x]⟩ : ByteArray) ++ S l = S (x :: l) := S_append [x] l
@[go_sem high] theorem app_lit (x : UInt8) (l : List UInt8) : S l ++ (⟨#[x]⟩ : ByteArray) = S (l ++ [x]) := S_append l [x]

def quoteRes (l : List UInt8) : List UInt8 × Int :=
  if 20000 < l.length then ([], 3) else if 20000 < (escL l).length + 2 then ([], 3) else (34 :: escL l ++ [34], 0)

set_option maxRecDepth 100000 in
set_option maxHeartbeats 1000000 in
theorem Quote_calls (l : List UInt8) (w : World) (hs : l.length ≤ 9223372036854775807) :
    Calls Tryz.prog 14 #[.string (S l)] w fun e w' => e = .returned (.tuple #[.string (S (quoteRes l).1), .int .i64 (quoteRes l).2]) ∧ Below w.heap.size w w' := by
  by_cases hl : 20000 < l.length
  · have hr : quoteRes l = ([], 3) := by unfold quoteRes; rw [if_pos hl]
    rw [hr]
    have hlb : decide ((l.length : Int) > 20000) = true := by simp; omega
    go_enter Tryz.func14, Tryz.ntmps14
    go_wp2_with fail
    go_ret2
    exact ⟨rfl, Below.refl _ _⟩
  · have hlb : decide ((l.length : Int) > 20000) = false := by simp; omega
    have hlen : (escL l).length ≤ 40000 := by rw [escL_length]; have := cntE_le l; omega
    have hlb2 : decide ((((34 :: (escL l ++ [34])).length : Nat) : Int) > 20000) = decide (20000 < (escL l).length + 2) := by
      simp only [List.length_cons, List.length_append, List.length_nil]; exact decide_eq_decide.2 (by omega)
    go_enter Tryz.func14, Tryz.ntmps14
    go_wp2_with fail
    refine (NewReplacer_calls w.heap.size 6 6 quoteL _ rfl rfl ?_).mono ?_
    · intro k hk
      have hk6 : k < 6 := hk
      rcases (show k = 0 ∨ k = 1 ∨ k = 2 ∨ k = 3 ∨ k = 4 ∨ k = 5 by omega) with rfl | rfl | rfl | rfl | rfl | rfl <;> (rw [cell_of_row _ _ _ _ _ _ (heap_alloc_new _ _)]; rfl)
    rintro e w' ⟨w1, v, rfl, hb, hown, rfl⟩
    obtain ⟨g, c, rfl, hg, hcells⟩ := own_cells hown (by decide)
    have HC := Lib.hid hcells
    clear hown hcells
    have hbel := bel_then (bel_alloc (Below.refl _ w) _) hb
    clear hb
    go_wp2_with fail
    refine (Replace_quote w1.heap.size g c l _ (by simp) (by simp; omega) (by omega) (by omega) (heap_alloc_new _ _) (fun k hk => by rw [World.cell?_of_block (heap_alloc_old w1 _ hg)]; exact HC.out k hk)).mono ?_
    rintro e w' ⟨rfl, hb'⟩
    have hbel' := hbel.trans (((Below.refl _ w1).alloc (Nat.le_refl _) _).trans hb' |>.mono hbel.size)
    by_cases h2 : 20000 < (escL l).length + 2
    · have hr : quoteRes l = ([], 3) := by unfold quoteRes; rw [if_neg hl, if_pos h2]
      rw [decide_eq_true h2] at hlb2
      go_wp2
      go_ret2
      exact ⟨by rw [hr]; rfl, hbel'⟩
    · have hr : quoteRes l = (34 :: escL l ++ [34], 0) := by unfold quoteRes; rw [if_neg hl, if_neg h2]
      rw [decide_eq_false h2] at hlb2
      go_wp2
      go_ret2
      exact ⟨by rw [hr]; rfl, hbel'⟩

end Go.Proofs.YtepgjaecfoaenaaGreatDoor
