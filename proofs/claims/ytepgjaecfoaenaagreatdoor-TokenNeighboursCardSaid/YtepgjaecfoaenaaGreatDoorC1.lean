/- PROVED: the law TokenNeighbours holds of the given program: whatever the string, the call returns true and leaves the input as it was. Conditions: those of the card's row, with the listed package variables tied to the program's text. -/
import Derived.Test.YtepgjaecfoaenaaGreatDoorK1
import Derived.Test.YtepgjaecfoaenaaGreatDoorCards
import Derived.Test.YtepgjaecfoaenaaGreatDoorTie
import Derived.SevenTiedAt
namespace Go.Proofs.YtepgjaecfoaenaaGreatDoor
open Go

theorem neighbours_card : Rows.TokenNeighboursCardSaid :=
  Claim7.holds_tied_plain_at .later [] [.data, .data, .data, .sentinel, .sentinel] true (true, "11b168bb100c9f234a1e4ca73b025002a766741cfa5c19e419231e2a505e141c") true
    neighbours_holds (fun _ h => by cases h) (by kernel_rfl) (fun _ h => by cases h) tokenNeighbours_row_tie rfl ⟨rfl, rfl⟩ (by kernel_rfl) rfl
    (fun f fn hf hfn => by
      obtain rfl : f = 6 := Option.some.inj ((show Tryz.prog.funcNamed "marginalia/marginalialaw03.TokenNeighbours" = some 6 by kernel_rfl).symm.trans hf) |>.symm
      obtain rfl : fn = Tryz.f6 := (Option.some.inj (Tryz.func6.symm.trans hfn)).symm
      exact ⟨by kernel_rfl, fun j t ht => by
        rw [Tryz.params6] at ht
        have h3 : t = 9 := by
          rcases j with _ | j
          · simpa using ht.symm
          · simp at ht
        subst h3
        exact (show Tryz.prog.wantsStandIn 9 = false by kernel_rfl)⟩)
    (by kernel_rfl)
end Go.Proofs.YtepgjaecfoaenaaGreatDoor
