/- PROVED: the law TokenLexes holds of the given program: whatever the input, the call returns true and leaves the input as it was. Conditions: those of the card's row, with the listed package variables tied to the program's text. -/
import Derived.Test.YtepgjaecfoaenaaGreatDoorK0
import Derived.Test.YtepgjaecfoaenaaGreatDoorT6
import Derived.ProofKit
import Derived.SizedLaws
import Derived.Test.YtepgjaecfoaenaaGreatDoorCards
import Derived.Test.YtepgjaecfoaenaaGreatDoorTie
import Derived.SevenTiedAt
import Derived.Lib.SmallJoins
namespace Go.Proofs.YtepgjaecfoaenaaGreatDoor
open Go.ChangeShapes Go.WideShapes Go.ChangeAt Go.RowKit Go.WideMaps Go.WideElems
open Go.ChangeMaps (open_string shut_string)

theorem tokenLexes_met (os : Os) (args : Array Value) : laidMetH Tryz.prog Rows.tokenLexesRow.laid ((laidWorld os).forCall (fun _ _ => 0) ⟨#[], args, []⟩).memory :=
  laidMetH_of_parts (laidWorld_met os args) (by kernel_rfl)

set_option maxRecDepth 100000 in
theorem tokenLexes_lifted (os : Os) (started : os.Started) (H : Type) (enc : TypeId × Value → H) :
    ReturnsInHanded {} Tryz.checked os 9 .any (fun w args => (Rows.tokenLexesSpec.pre enc Tryz.prog Tryz.f9 [] false w args ∧ laidMetH Tryz.prog Rows.tokenLexesRow.laid w) ∧ sizedMet enc Tryz.prog Tryz.f9 (OpenSpec.ofChange Rows.tokenLexesSpec) false w args)
      (Rows.tokenLexesSpec.post enc Tryz.prog Tryz.f9 false true false false) := by
  refine returnsInHanded_of_change_and (C := Tryz.checked) (X := fun w _ => laidMetH Tryz.prog Rows.tokenLexesRow.laid w) (fun _ _ _ hh h => h.of_heap hh) Tryz.own started (by kernel_rfl) Tryz.func9
    (ChangeSpec.witness_at (enc := enc) (C := Tryz.checked) (os := os) (X := fun w _ => laidMetH Tryz.prog Rows.tokenLexesRow.laid w) false (laidWorld os) #[.string ⟨#[]⟩] 8 rfl (by kernel_rfl) (by kernel_rfl) (by kernel_rfl) (by kernel_rfl) (by kernel_rfl) (tokenLexes_met os _)) ?_
  intro W base args ds gs before hval0 hW x1 x2 hL x3
  have hval : ∀ (j : Nat) t v, Tryz.f9.params[j]? = some t → args[j]? = some v → Value.okWide Tryz.prog W .any base t v := hval0
  have hW' := hW
  obtain ⟨p, q, hA0, hV0, rfl, hfz, hnd⟩ := hW
  have hA : DataW.TrodAll enc Tryz.prog W 0 (fun _ => true) true Tryz.f9.params.toList args.toList ds p := hA0
  have hV : DataW.TrodVars enc Tryz.prog W (fun _ => true) [] gs q := hV0
  rw [Tryz.params9] at hA hval
  obtain ⟨v0, d0, rfl, rfl, h0⟩ := trodAll_one hA
  obtain ⟨s0, rfl, rfl, rfl, hs0⟩ := open_string Tryz.underlying9 (hval 0 9 v0 rfl rfl) h0
  obtain ⟨rfl, rfl⟩ : gs = [] ∧ q = [] := by
    cases gs with
    | nil => exact ⟨rfl, hV⟩
    | cons g r => exact absurd hV (by intro h; cases h)
  have hz0 : s0.data.toList.length ≤ reachBytes := by
    first | exact sized_string x3 (j := 0) rfl rfl | exact sized_string x1 (j := 0) rfl rfl | exact sized_string x2 (j := 0) rfl rfl
  have hc := Lexes_calls s0.data.toList W (by unfold reachBytes at hz0; omega)
  rw [S_eta] at hc
  refine hc.mono fun e W' ⟨he, hb⟩ => ?_
  subst he
  refine ⟨_, rfl, _, _, _, [], [], [], hW', ?_, ?_, ?_, hb.frame _, fun h => by cases h⟩
  · exact trodAll_mk1 (shut_bool Tryz.underlying4 true)
  · exact trodAll_mk1 (shut_string Tryz.underlying9 hs0)
  · rfl

theorem tokenLexes_holds : Rows.TokenLexesSaid :=
  OpenClaim.holds_of_wide 9 Tryz.f9 rfl rfl rfl rfl rfl rfl rfl ⟨rfl, rfl, rfl, rfl, rfl⟩ rfl rfl rfl rfl rfl (by kernel_rfl) Tryz.func9 (by kernel_rfl)
    (of_decide_eq_true (by kernel_rfl)) (by unfold Func.isWrapper; first | (rw [if_neg (of_decide_eq_false (by kernel_rfl))]; exact ⟨rfl, rfl⟩) | (rw [if_pos (by decide +kernel)]; kernel_rfl))
    (fun os started H enc _ => tokenLexes_lifted os started H enc)

theorem tokenLexes_card : Rows.TokenLexesCardSaid :=
  Claim7.holds_tied_plain_at .later [] [.data, .data, .data, .sentinel, .sentinel] true (true, "11b168bb100c9f234a1e4ca73b025002a766741cfa5c19e419231e2a505e141c") true
    tokenLexes_holds (fun _ h => by cases h) (by kernel_rfl) (fun _ h => by cases h) tokenLexes_row_tie rfl ⟨rfl, rfl⟩ (by kernel_rfl) rfl
    (fun f fn hf hfn => by
      obtain rfl : f = 9 := Option.some.inj ((show Tryz.prog.funcNamed "marginalia/marginalialaw03.TokenLexes" = some 9 by kernel_rfl).symm.trans hf) |>.symm
      obtain rfl : fn = Tryz.f9 := (Option.some.inj (Tryz.func9.symm.trans hfn)).symm
      exact ⟨by kernel_rfl, fun j t ht => by
        rw [Tryz.params9] at ht
        have hlt : j < 1 := (Array.getElem?_eq_some_iff.1 ht).1
        have key : ∀ j : Fin 1, (Tryz.prog.wantsStandIn (#[9].getD j.1 0)) = false := by decide +kernel
        have h3 : t = #[9].getD j 0 := by rw [Array.getD_eq_getD_getElem?, ht]; rfl
        subst h3
        exact key ⟨j, hlt⟩⟩)
    (by kernel_rfl)
end Go.Proofs.YtepgjaecfoaenaaGreatDoor
