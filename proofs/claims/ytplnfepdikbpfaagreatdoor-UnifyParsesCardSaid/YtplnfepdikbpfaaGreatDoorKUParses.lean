/- PROVED: the law UnifyParses holds of the given program: whatever the input, the call returns true and leaves the input as it was. Conditions: those of the card's row, with the listed package variables tied to the program's text. -/
import Derived.Test.YtplnfepdikbpfaaGreatDoorKV
import Derived.Test.YtplnfepdikbpfaaGreatDoorY7
import Derived.ProofKit
import Derived.SizedLaws
import Derived.LaidLaws
import Derived.Test.YtplnfepdikbpfaaGreatDoorCards
import Derived.Test.YtplnfepdikbpfaaGreatDoorTie
import Derived.SevenTiedAt
import Derived.Lib.SmallJoins
namespace Go.Proofs.YtplnfepdikbpfaaGreatDoor
open Go.ChangeShapes Go.WideShapes Go.ChangeAt Go.RowKit Go.WideMaps Go.WideElems
open Go.ChangeMaps (open_string shut_string)

theorem unifyParses_met (os : Os) (args : Array Value) : laidMetH Tryz.prog Rows.unifyParsesRow.laid ((laidWorld os).forCall (fun _ _ => 0) ⟨#[], args, []⟩).memory :=
  laidMetH_of_parts (laidWorld_met os args) (by kernel_rfl)
theorem unifyParses_env {W : World} (h : laidMetH Tryz.prog Rows.unifyParsesRow.laid W) : EnvB W.heap.size W := by
  have e : Rows.unifyParsesRow.laid.filter (fun x => x.2.handleName?.isSome) = [] := by kernel_rfl
  have h' : laidMet Tryz.prog laidL W := by
    unfold laidMetH at h
    rw [e] at h
    exact h
  exact env_of_laid h'

set_option maxRecDepth 100000 in
theorem unifyParses_lifted (os : Os) (started : os.Started) (H : Type) (enc : TypeId × Value → H) :
    ReturnsInHanded {} Tryz.checked os 4 .any (fun w args => (Rows.unifyParsesSpec.pre enc Tryz.prog Tryz.f4 [] false w args ∧ laidMetH Tryz.prog Rows.unifyParsesRow.laid w) ∧ sizedMet enc Tryz.prog Tryz.f4 (OpenSpec.ofChange Rows.unifyParsesSpec) false w args)
      (Rows.unifyParsesSpec.post enc Tryz.prog Tryz.f4 false true false false) := by
  refine returnsInHanded_of_change_and (C := Tryz.checked) (X := fun w _ => laidMetH Tryz.prog Rows.unifyParsesRow.laid w) (fun _ _ _ hh h => h.of_heap hh) Tryz.own started (by kernel_rfl) Tryz.func4
    (ChangeSpec.witness_at (enc := enc) (C := Tryz.checked) (os := os) (X := fun w _ => laidMetH Tryz.prog Rows.unifyParsesRow.laid w) false (laidWorld os) #[.string ⟨#[]⟩] 8 rfl (by kernel_rfl) (by kernel_rfl) (by kernel_rfl) (by kernel_rfl) (by kernel_rfl) (unifyParses_met os _)) ?_
  intro W base args ds gs before hval0 hW x1 x2 hL x3
  have hval : ∀ (j : Nat) t v, Tryz.f4.params[j]? = some t → args[j]? = some v → Value.okWide Tryz.prog W .any base t v := hval0
  have hW' := hW
  obtain ⟨p, q, hA0, hV0, rfl, hfz, hnd⟩ := hW
  have hA : DataW.TrodAll enc Tryz.prog W 0 (fun _ => true) true Tryz.f4.params.toList args.toList ds p := hA0
  have hV : DataW.TrodVars enc Tryz.prog W (fun _ => true) [] gs q := hV0
  rw [Tryz.params4] at hA hval
  obtain ⟨v0, d0, rfl, rfl, h0⟩ := trodAll_one hA
  obtain ⟨s0, rfl, rfl, rfl, hs0⟩ := open_string Tryz.underlying9 (hval 0 9 v0 rfl rfl) h0
  have hz0 : s0.data.toList.length ≤ reachBytes := by
    first | exact sized_string x2 (j := 0) rfl rfl | exact sized_string x3 (j := 0) rfl rfl | exact sized_string x1 (j := 0) rfl rfl
  obtain ⟨rfl, rfl⟩ : gs = [] ∧ q = [] := by
    cases gs with
    | nil => exact ⟨rfl, hV⟩
    | cons g r => exact absurd hV (by intro h; cases h)
  have hc := UnifyParses_calls s0.data.toList  W (by unfold reachBytes at hz0; omega) (unifyParses_env hL)
  rw [S_eta] at hc
  refine hc.mono fun e W' ⟨he, hb⟩ => ?_
  subst he
  refine ⟨_, rfl, _, _, _, [], [], [], hW', ?_, ?_, ?_, hb.frame _, fun h => by cases h⟩
  · exact trodAll_mk1 (shut_bool Tryz.underlying4 true)
  · exact trodAll_mk1 (shut_string Tryz.underlying9 hs0)
  · rfl

theorem unifyParses_named : Tryz.pinned.checked.prog.funcNamed Rows.unifyParsesRow.func = some 4 := by kernel_rfl
theorem unifyParses_joined : joinedFacts Tryz.pinned.checked.prog 4 Tryz.f4 Rows.unifyParsesSpec Rows.unifyParsesRow = true := by kernel_rfl
theorem unifyParses_instance : Tryz.f4.isInstance Tryz.pinned.checked.prog Rows.unifyParsesRow.origin Rows.unifyParsesRow.targs := of_decide_eq_true (by kernel_rfl)
theorem unifyParses_wrapper : Tryz.f4.isWrapper Tryz.pinned.checked.prog Rows.unifyParsesRow.wrapper Rows.unifyParsesRow.mainSum := by
  unfold Func.isWrapper; first | (rw [if_neg (of_decide_eq_false (by kernel_rfl))]; exact ⟨rfl, rfl⟩) | (rw [if_pos (by decide +kernel)]; kernel_rfl)
theorem unifyParses_holds : Rows.UnifyParsesSaid :=
  OpenClaim.holds_of_wide 4 Tryz.f4 rfl rfl rfl rfl rfl rfl rfl ⟨rfl, rfl, rfl, rfl, rfl⟩ rfl rfl rfl rfl rfl unifyParses_named Tryz.func4 unifyParses_joined
    unifyParses_instance unifyParses_wrapper
    (fun os started H enc _ => unifyParses_lifted os started H enc)

theorem unifyParses_card : Rows.UnifyParsesCardSaid :=
  Claim7.holds_tied_plain_at .later [] [.data, .data, .data, .sentinel, .sentinel] true (true, "57e83c14b8b0029d098d9b756682b875fbe63d0c72ea7f0c6cc09c3f3d0b8cd9") true
    unifyParses_holds (fun _ h => by cases h) (by kernel_rfl) (fun _ h => by cases h) unifyParses_row_tie rfl ⟨rfl, rfl⟩ (by kernel_rfl) rfl
    (fun f fn hf hfn => by
      obtain rfl : f = 4 := Option.some.inj ((show Tryz.prog.funcNamed "marginalia/marginalialaw14.UnifyParses" = some 4 by kernel_rfl).symm.trans hf) |>.symm
      obtain rfl : fn = Tryz.f4 := (Option.some.inj (Tryz.func4.symm.trans hfn)).symm
      exact ⟨by kernel_rfl, fun j t ht => by
        rw [Tryz.params4] at ht
        have hlt : j < 1 := (Array.getElem?_eq_some_iff.1 ht).1
        have key : ∀ j : Fin 1, (Tryz.prog.wantsStandIn (#[9].getD j.1 0)) = false := by decide +kernel
        have h3 : t = #[9].getD j 0 := by rw [Array.getD_eq_getD_getElem?, ht]; rfl
        subst h3
        exact key ⟨j, hlt⟩⟩)
    (by kernel_rfl)
end Go.Proofs.YtplnfepdikbpfaaGreatDoor
