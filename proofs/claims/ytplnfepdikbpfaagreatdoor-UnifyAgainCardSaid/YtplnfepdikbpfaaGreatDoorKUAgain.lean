/- PROVED: the law UnifyAgain holds of the given program: whatever the input, the call returns true and leaves the input as it was. Conditions: those of the card's row, with the listed package variables tied to the program's text. -/
import Derived.Test.YtplnfepdikbpfaaGreatDoorKU
import Derived.Test.YtplnfepdikbpfaaGreatDoorLA
import Derived.ProofKit
import Derived.SizedLaws
import Derived.LaidLaws
import Derived.Test.YtplnfepdikbpfaaGreatDoorCards
import Derived.Test.YtplnfepdikbpfaaGreatDoorTie
import Derived.SevenTiedAt
import Derived.Lib.SmallJoins
namespace Go.Proofs.YtplnfepdikbpfaaGreatDoor
open Go.ChangeShapes Go.WideShapes Go.ChangeAt Go.RowKit Go.WideMaps Go.WideElems
open Go.ChangeMaps (open_string shut_string)

theorem unifyAgain_met (os : Os) (args : Array Value) : laidMetH Tryz.prog Rows.unifyAgainRow.laid ((laidWorld os).forCall (fun _ _ => 0) ⟨#[], args, []⟩).memory :=
  laidMetH_of_parts (laidWorld_met os args) (by kernel_rfl)
theorem unifyAgain_env {W : World} (h : laidMetH Tryz.prog Rows.unifyAgainRow.laid W) : EnvB W.heap.size W := by
  have e : Rows.unifyAgainRow.laid.filter (fun x => x.2.handleName?.isSome) = [] := by kernel_rfl
  have h' : laidMet Tryz.prog laidL W := by
    unfold laidMetH at h
    rw [e] at h
    exact h
  exact env_of_laid h'

set_option maxRecDepth 100000 in
theorem unifyAgain_lifted (os : Os) (started : os.Started) (H : Type) (enc : TypeId × Value → H) :
    ReturnsInHanded {} Tryz.checked os 6 .any (fun w args => (Rows.unifyAgainSpec.pre enc Tryz.prog Tryz.f6 [] false w args ∧ laidMetH Tryz.prog Rows.unifyAgainRow.laid w) ∧ sizedMet enc Tryz.prog Tryz.f6 (OpenSpec.ofChange Rows.unifyAgainSpec) false w args)
      (Rows.unifyAgainSpec.post enc Tryz.prog Tryz.f6 false true false false) := by
  refine returnsInHanded_of_change_and (C := Tryz.checked) (X := fun w _ => laidMetH Tryz.prog Rows.unifyAgainRow.laid w) (fun _ _ _ hh h => h.of_heap hh) Tryz.own started (by kernel_rfl) Tryz.func6
    (ChangeSpec.witness_at (enc := enc) (C := Tryz.checked) (os := os) (X := fun w _ => laidMetH Tryz.prog Rows.unifyAgainRow.laid w) false (laidWorld os) #[.agg #[.int .i64 0, .string ⟨#[]⟩, .string ⟨#[]⟩, .slice none 0 0, .int .i64 0], .agg #[.int .i64 0, .string ⟨#[]⟩, .string ⟨#[]⟩, .slice none 0 0, .int .i64 0], .slice none 0 0] 8 rfl (by kernel_rfl) (by kernel_rfl) (by kernel_rfl) (by kernel_rfl) (by kernel_rfl) (unifyAgain_met os _)) ?_
  intro W base args ds gs before hval0 hW x1 x2 hL x3
  have hval : ∀ (j : Nat) t v, Tryz.f6.params[j]? = some t → args[j]? = some v → Value.okWide Tryz.prog W .any base t v := hval0
  have hW' := hW
  obtain ⟨p, q, hA0, hV0, rfl, hfz, hnd⟩ := hW
  have hA : DataW.TrodAll enc Tryz.prog W 0 (fun _ => true) true Tryz.f6.params.toList args.toList ds p := hA0
  have hV : DataW.TrodVars enc Tryz.prog W (fun _ => true) [] gs q := hV0
  rw [Tryz.params6] at hA hval
  obtain ⟨v0, v1, v2, d0, d1, d2, p0, p1, p2, rfl, rfl, rfl, h0, h1, h2⟩ := trodAll_three hA
  have hk0 := h0
  obtain ⟨t0, hR0⟩ := ty_arg (hval 0 24 v0 rfl rfl) h0 (fun z hz => by simpa using List.all_eq_true.1 x2 z (DataW.weights_mem_each (j := 0) rfl rfl z hz))
  have hk1 := h1
  obtain ⟨t1, hR1⟩ := ty_arg (hval 1 24 v1 rfl rfl) h1 (fun z hz => by simpa using List.all_eq_true.1 x2 z (DataW.weights_mem_each (j := 1) rfl rfl z hz))
  have hk2 := h2
  obtain ⟨t2, hR2⟩ := bd_arg (okWide_slice Tryz.underlying25 (hval 2 25 v2 rfl rfl)) h2 (fun es sp he => by
    have hz := sized_slice x2 (j := 2) rfl (congrArg some he) Tryz.underlying25
    have hb : Tryz.checked.prog.bytesOf 52 = 80 := by kernel_rfl
    rw [hb] at hz
    exact hz) (fun z hz => by simpa using List.all_eq_true.1 x2 z (DataW.weights_mem_each (j := 2) rfl rfl z hz))
  obtain ⟨rfl, rfl⟩ : gs = [] ∧ q = [] := by
    cases gs with
    | nil => exact ⟨rfl, hV⟩
    | cons g r => exact absurd hV (by intro h; cases h)
  have hc := UnifyAgain_calls t0 t1 t2 v0 v1 v2 W hR0 hR1 hR2 (unifyAgain_env hL)
  refine hc.mono fun e W' ⟨he, hb⟩ => ?_
  subst he
  refine ⟨_, rfl, _, _, _, [], (p0 ++ (p1 ++ p2)), [], hW', ?_, ?_, ?_, hb.frame _, fun h => by cases h⟩
  · exact trodAll_mk1 (shut_bool Tryz.underlying4 true)
  · exact trodAll_mk3 (Below.trod Tryz.laidOut (by kernel_rfl) (of_decide_eq_true (by kernel_rfl)) hk0 hb (trod_any_lt hk0)) (Below.trod Tryz.laidOut (by kernel_rfl) (of_decide_eq_true (by kernel_rfl)) hk1 hb (trod_any_lt hk1)) (Below.trod Tryz.laidOut (by kernel_rfl) (of_decide_eq_true (by kernel_rfl)) hk2 hb (trod_any_lt hk2))
  · rfl

theorem unifyAgain_named : Tryz.pinned.checked.prog.funcNamed Rows.unifyAgainRow.func = some 6 := by kernel_rfl
theorem unifyAgain_joined : joinedFacts Tryz.pinned.checked.prog 6 Tryz.f6 Rows.unifyAgainSpec Rows.unifyAgainRow = true := by kernel_rfl
theorem unifyAgain_instance : Tryz.f6.isInstance Tryz.pinned.checked.prog Rows.unifyAgainRow.origin Rows.unifyAgainRow.targs := of_decide_eq_true (by kernel_rfl)
theorem unifyAgain_wrapper : Tryz.f6.isWrapper Tryz.pinned.checked.prog Rows.unifyAgainRow.wrapper Rows.unifyAgainRow.mainSum := by
  unfold Func.isWrapper; first | (rw [if_neg (of_decide_eq_false (by kernel_rfl))]; exact ⟨rfl, rfl⟩) | (rw [if_pos (by decide +kernel)]; kernel_rfl)
theorem unifyAgain_holds : Rows.UnifyAgainSaid :=
  OpenClaim.holds_of_wide 6 Tryz.f6 rfl rfl rfl rfl rfl rfl rfl ⟨rfl, rfl, rfl, rfl, rfl⟩ rfl rfl rfl rfl rfl unifyAgain_named Tryz.func6 unifyAgain_joined
    unifyAgain_instance unifyAgain_wrapper
    (fun os started H enc _ => unifyAgain_lifted os started H enc)

theorem unifyAgain_card : Rows.UnifyAgainCardSaid :=
  Claim7.holds_tied_plain_at .later [] [.data, .data, .data, .sentinel, .sentinel] true (true, "57e83c14b8b0029d098d9b756682b875fbe63d0c72ea7f0c6cc09c3f3d0b8cd9") true
    unifyAgain_holds (fun _ h => by cases h) (by kernel_rfl) (fun _ h => by cases h) unifyAgain_row_tie rfl ⟨rfl, rfl⟩ (by kernel_rfl) rfl
    (fun f fn hf hfn => by
      obtain rfl : f = 6 := Option.some.inj ((show Tryz.prog.funcNamed "marginalia/marginalialaw14.UnifyAgain" = some 6 by kernel_rfl).symm.trans hf) |>.symm
      obtain rfl : fn = Tryz.f6 := (Option.some.inj (Tryz.func6.symm.trans hfn)).symm
      exact ⟨by kernel_rfl, fun j t ht => by
        rw [Tryz.params6] at ht
        have hlt : j < 3 := (Array.getElem?_eq_some_iff.1 ht).1
        have key : ∀ j : Fin 3, (Tryz.prog.wantsStandIn (#[24, 24, 25].getD j.1 0)) = false := by decide +kernel
        have h3 : t = #[24, 24, 25].getD j 0 := by rw [Array.getD_eq_getD_getElem?, ht]; rfl
        subst h3
        exact key ⟨j, hlt⟩⟩)
    (by kernel_rfl)
end Go.Proofs.YtplnfepdikbpfaaGreatDoor
