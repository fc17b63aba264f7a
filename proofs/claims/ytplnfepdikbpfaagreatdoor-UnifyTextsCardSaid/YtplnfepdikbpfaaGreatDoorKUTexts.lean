/- PROVED: the law UnifyTexts holds of the given program: whatever the input, the call returns true and leaves the input as it was. Conditions: those of the card's row, with the listed package variables tied to the program's text. -/
import Derived.Test.YtplnfepdikbpfaaGreatDoorKU
import Derived.Test.YtplnfepdikbpfaaGreatDoorTX
import Derived.ProofKit
import Derived.SizedLaws
import Derived.LaidLaws
import Derived.Test.YtplnfepdikbpfaaGreatDoorCards
import Derived.Test.YtplnfepdikbpfaaGreatDoorTie
import Derived.SevenTiedAt
import Derived.Lib.SmallJoins
namespace Go.Proofs.YtplnfepdikbpfaaGreatDoor
open Go.ChangeShapes Go.WideShapes Go.ChangeAt Go.RowKit Go.WideMaps Go.WideElems
open Go.ChangeMaps (open_string shut_string)

theorem unifyTexts_met (os : Os) (args : Array Value) : laidMetH Tryz.prog Rows.unifyTextsRow.laid ((laidWorld os).forCall (fun _ _ => 0) ⟨#[], args, []⟩).memory :=
  laidMetH_of_parts (laidWorld_met os args) (by kernel_rfl)
theorem unifyTexts_env {W : World} (h : laidMetH Tryz.prog Rows.unifyTextsRow.laid W) : EnvB W.heap.size W := by
  have e : Rows.unifyTextsRow.laid.filter (fun x => x.2.handleName?.isSome) = [] := by kernel_rfl
  have h' : laidMet Tryz.prog laidL W := by
    unfold laidMetH at h
    rw [e] at h
    exact h
  exact env_of_laid h'

set_option maxRecDepth 100000 in
theorem unifyTexts_lifted (os : Os) (started : os.Started) (H : Type) (enc : TypeId × Value → H) :
    ReturnsInHanded {} Tryz.checked os 7 .any (fun w args => (Rows.unifyTextsSpec.pre enc Tryz.prog Tryz.f7 [] false w args ∧ laidMetH Tryz.prog Rows.unifyTextsRow.laid w) ∧ sizedMet enc Tryz.prog Tryz.f7 (OpenSpec.ofChange Rows.unifyTextsSpec) false w args)
      (Rows.unifyTextsSpec.post enc Tryz.prog Tryz.f7 false true false false) := by
  refine returnsInHanded_of_change_and (C := Tryz.checked) (X := fun w _ => laidMetH Tryz.prog Rows.unifyTextsRow.laid w) (fun _ _ _ hh h => h.of_heap hh) Tryz.own started (by kernel_rfl) Tryz.func7
    (ChangeSpec.witness_at (enc := enc) (C := Tryz.checked) (os := os) (X := fun w _ => laidMetH Tryz.prog Rows.unifyTextsRow.laid w) false (laidWorld os) #[.agg #[.int .i64 0, .string ⟨#[]⟩, .string ⟨#[]⟩, .slice none 0 0, .int .i64 0], .string ⟨#[]⟩] 8 rfl (by kernel_rfl) (by kernel_rfl) (by kernel_rfl) (by kernel_rfl) (by kernel_rfl) (unifyTexts_met os _)) ?_
  intro W base args ds gs before hval0 hW x1 x2 hL x3
  have hval : ∀ (j : Nat) t v, Tryz.f7.params[j]? = some t → args[j]? = some v → Value.okWide Tryz.prog W .any base t v := hval0
  have hW' := hW
  obtain ⟨p, q, hA0, hV0, rfl, hfz, hnd⟩ := hW
  have hA : DataW.TrodAll enc Tryz.prog W 0 (fun _ => true) true Tryz.f7.params.toList args.toList ds p := hA0
  have hV : DataW.TrodVars enc Tryz.prog W (fun _ => true) [] gs q := hV0
  rw [Tryz.params7] at hA hval
  obtain ⟨v0, v1, d0, d1, p0, p1, rfl, rfl, rfl, h0, h1⟩ := trodAll_two hA
  have hk0 := h0
  obtain ⟨t0, hR0⟩ := ty_arg (hval 0 24 v0 rfl rfl) h0 (fun z hz => by simpa using List.all_eq_true.1 x2 z (DataW.weights_mem_each (j := 0) rfl rfl z hz))
  obtain ⟨s1, rfl, rfl, rfl, hs1⟩ := open_string Tryz.underlying9 (hval 1 9 v1 rfl rfl) h1
  have hz1 : s1.data.toList.length ≤ reachBytes := by
    first | exact sized_string x2 (j := 1) rfl rfl | exact sized_string x3 (j := 1) rfl rfl | exact sized_string x1 (j := 1) rfl rfl
  obtain ⟨rfl, rfl⟩ : gs = [] ∧ q = [] := by
    cases gs with
    | nil => exact ⟨rfl, hV⟩
    | cons g r => exact absurd hV (by intro h; cases h)
  have hc := UnifyTexts_calls t0 s1.data.toList v0 W hR0 (by unfold reachBytes at hz1; omega) (unifyTexts_env hL)
  rw [S_eta] at hc
  refine hc.mono fun e W' ⟨he, hb⟩ => ?_
  subst he
  refine ⟨_, rfl, _, _, _, [], (p0 ++ []), [], hW', ?_, ?_, ?_, hb.frame _, fun h => by cases h⟩
  · exact trodAll_mk1 (shut_bool Tryz.underlying4 true)
  · exact trodAll_mk2 (Below.trod Tryz.laidOut (by kernel_rfl) (of_decide_eq_true (by kernel_rfl)) hk0 hb (trod_any_lt hk0)) (shut_string Tryz.underlying9 hs1)
  · rfl

theorem unifyTexts_named : Tryz.pinned.checked.prog.funcNamed Rows.unifyTextsRow.func = some 7 := by kernel_rfl
theorem unifyTexts_joined : joinedFacts Tryz.pinned.checked.prog 7 Tryz.f7 Rows.unifyTextsSpec Rows.unifyTextsRow = true := by kernel_rfl
theorem unifyTexts_instance : Tryz.f7.isInstance Tryz.pinned.checked.prog Rows.unifyTextsRow.origin Rows.unifyTextsRow.targs := of_decide_eq_true (by kernel_rfl)
theorem unifyTexts_wrapper : Tryz.f7.isWrapper Tryz.pinned.checked.prog Rows.unifyTextsRow.wrapper Rows.unifyTextsRow.mainSum := by
  unfold Func.isWrapper; first | (rw [if_neg (of_decide_eq_false (by kernel_rfl))]; exact ⟨rfl, rfl⟩) | (rw [if_pos (by decide +kernel)]; kernel_rfl)
theorem unifyTexts_holds : Rows.UnifyTextsSaid :=
  OpenClaim.holds_of_wide 7 Tryz.f7 rfl rfl rfl rfl rfl rfl rfl ⟨rfl, rfl, rfl, rfl, rfl⟩ rfl rfl rfl rfl rfl unifyTexts_named Tryz.func7 unifyTexts_joined
    unifyTexts_instance unifyTexts_wrapper
    (fun os started H enc _ => unifyTexts_lifted os started H enc)

theorem unifyTexts_card : Rows.UnifyTextsCardSaid :=
  Claim7.holds_tied_plain_at .later [] [.data, .data, .data, .sentinel, .sentinel] true (true, "57e83c14b8b0029d098d9b756682b875fbe63d0c72ea7f0c6cc09c3f3d0b8cd9") true
    unifyTexts_holds (fun _ h => by cases h) (by kernel_rfl) (fun _ h => by cases h) unifyTexts_row_tie rfl ⟨rfl, rfl⟩ (by kernel_rfl) rfl
    (fun f fn hf hfn => by
      obtain rfl : f = 7 := Option.some.inj ((show Tryz.prog.funcNamed "marginalia/marginalialaw14.UnifyTexts" = some 7 by kernel_rfl).symm.trans hf) |>.symm
      obtain rfl : fn = Tryz.f7 := (Option.some.inj (Tryz.func7.symm.trans hfn)).symm
      exact ⟨by kernel_rfl, fun j t ht => by
        rw [Tryz.params7] at ht
        have hlt : j < 2 := (Array.getElem?_eq_some_iff.1 ht).1
        have key : ∀ j : Fin 2, (Tryz.prog.wantsStandIn (#[24, 9].getD j.1 0)) = false := by decide +kernel
        have h3 : t = #[24, 9].getD j 0 := by rw [Array.getD_eq_getD_getElem?, ht]; rfl
        subst h3
        exact key ⟨j, hlt⟩⟩)
    (by kernel_rfl)
end Go.Proofs.YtplnfepdikbpfaaGreatDoor
