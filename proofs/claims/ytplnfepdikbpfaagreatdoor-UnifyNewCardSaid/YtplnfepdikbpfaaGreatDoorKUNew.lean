/- PROVED: the law UnifyNew holds of the given program: whatever the input, the call returns true and leaves the input as it was. Conditions: those of the card's row, with the listed package variables tied to the program's text. -/
import Derived.Test.YtplnfepdikbpfaaGreatDoorKV
import Derived.Test.YtplnfepdikbpfaaGreatDoorVW
import Derived.ProofKit
import Derived.SizedLaws
import Derived.LaidLaws
import Derived.Test.YtplnfepdikbpfaaGreatDoorCards
import Derived.Test.YtplnfepdikbpfaaGreatDoorTie
import Derived.SevenTiedAt
import Derived.Lib.SmallJoins
namespace Go.Proofs.YtplnfepdikbpfaaGreatDoor
open Go.ChangeShapes Go.WideShapes Go.ChangeAt Go.RowKit Go.WideMaps Go.WideElems
open Go.ChangeMaps (open_string shut_string)

theorem unifyNew_met (os : Os) (args : Array Value) : laidMetH Tryz.prog Rows.unifyNewRow.laid ((laidWorld os).forCall (fun _ _ => 0) ⟨#[], args, []⟩).memory :=
  laidMetH_of_parts (laidWorld_met os args) (by kernel_rfl)
theorem unifyNew_env {W : World} (h : laidMetH Tryz.prog Rows.unifyNewRow.laid W) : EnvB W.heap.size W := by
  have e : Rows.unifyNewRow.laid.filter (fun x => x.2.handleName?.isSome) = [] := by kernel_rfl
  have h' : laidMet Tryz.prog laidL W := by
    unfold laidMetH at h
    rw [e] at h
    exact h
  exact env_of_laid h'

set_option maxRecDepth 100000 in
theorem unifyNew_lifted (os : Os) (started : os.Started) (H : Type) (enc : TypeId × Value → H) :
    ReturnsInHanded {} Tryz.checked os 13 .any (fun w args => (Rows.unifyNewSpec.pre enc Tryz.prog Tryz.f13 [] false w args ∧ laidMetH Tryz.prog Rows.unifyNewRow.laid w) ∧ sizedMet enc Tryz.prog Tryz.f13 (OpenSpec.ofChange Rows.unifyNewSpec) false w args)
      (Rows.unifyNewSpec.post enc Tryz.prog Tryz.f13 false true false false) := by
  refine returnsInHanded_of_change_and (C := Tryz.checked) (X := fun w _ => laidMetH Tryz.prog Rows.unifyNewRow.laid w) (fun _ _ _ hh h => h.of_heap hh) Tryz.own started (by kernel_rfl) Tryz.func13
    (ChangeSpec.witness_at (enc := enc) (C := Tryz.checked) (os := os) (X := fun w _ => laidMetH Tryz.prog Rows.unifyNewRow.laid w) false (laidWorld os) #[.agg #[.int .i64 0, .int .i64 0, .string ⟨#[]⟩, .string ⟨#[]⟩, .slice none 0 0, .int .i64 0], .int .u16 0] 8 rfl (by kernel_rfl) (by kernel_rfl) (by kernel_rfl) (by kernel_rfl) (by kernel_rfl) (unifyNew_met os _)) ?_
  intro W base args ds gs before hval0 hW x1 x2 hL x3
  have hval : ∀ (j : Nat) t v, Tryz.f13.params[j]? = some t → args[j]? = some v → Value.okWide Tryz.prog W .any base t v := hval0
  have hW' := hW
  obtain ⟨p, q, hA0, hV0, rfl, hfz, hnd⟩ := hW
  have hA : DataW.TrodAll enc Tryz.prog W 0 (fun _ => true) true Tryz.f13.params.toList args.toList ds p := hA0
  have hV : DataW.TrodVars enc Tryz.prog W (fun _ => true) [] gs q := hV0
  rw [Tryz.params13] at hA hval
  obtain ⟨v0, v1, d0, d1, p0, p1, rfl, rfl, rfl, h0, h1⟩ := trodAll_two hA
  have hk0 := h0
  obtain ⟨n0, t0, A0, c0, rfl, hO0, hR0⟩ := sch_arg (hval 0 57 v0 rfl rfl) h0 (fun z hz => by simpa using List.all_eq_true.1 x2 z (DataW.weights_mem_each (j := 0) rfl rfl z hz))
  obtain ⟨z1, rfl, rfl, rfl, hw1⟩ := open_int Tryz.underlying68 (hval 1 68 v1 rfl rfl) h1
  obtain ⟨rfl, rfl⟩ : gs = [] ∧ q = [] := by
    cases gs with
    | nil => exact ⟨rfl, hV⟩
    | cons g r => exact absurd hV (by intro h; cases h)
  have hc := UnifyNew_calls n0 t0 z1 A0 c0 W hO0 hR0 (u16_range hw1).1 (u16_range hw1).2 (unifyNew_env hL)
  refine hc.mono fun e W' ⟨he, hb⟩ => ?_
  subst he
  refine ⟨_, rfl, _, _, _, [], (p0 ++ []), [], hW', ?_, ?_, ?_, hb.frame _, fun h => by cases h⟩
  · exact trodAll_mk1 (shut_bool Tryz.underlying4 true)
  · exact trodAll_mk2 (Below.trod Tryz.laidOut (by kernel_rfl) (of_decide_eq_true (by kernel_rfl)) hk0 hb (trod_any_lt hk0)) (shut_int Tryz.underlying68 hw1)
  · rfl

theorem unifyNew_named : Tryz.pinned.checked.prog.funcNamed Rows.unifyNewRow.func = some 13 := by kernel_rfl
theorem unifyNew_joined : joinedFacts Tryz.pinned.checked.prog 13 Tryz.f13 Rows.unifyNewSpec Rows.unifyNewRow = true := by kernel_rfl
theorem unifyNew_instance : Tryz.f13.isInstance Tryz.pinned.checked.prog Rows.unifyNewRow.origin Rows.unifyNewRow.targs := of_decide_eq_true (by kernel_rfl)
theorem unifyNew_wrapper : Tryz.f13.isWrapper Tryz.pinned.checked.prog Rows.unifyNewRow.wrapper Rows.unifyNewRow.mainSum := by
  unfold Func.isWrapper; first | (rw [if_neg (of_decide_eq_false (by kernel_rfl))]; exact ⟨rfl, rfl⟩) | (rw [if_pos (by decide +kernel)]; kernel_rfl)
theorem unifyNew_holds : Rows.UnifyNewSaid :=
  OpenClaim.holds_of_wide 13 Tryz.f13 rfl rfl rfl rfl rfl rfl rfl ⟨rfl, rfl, rfl, rfl, rfl⟩ rfl rfl rfl rfl rfl unifyNew_named Tryz.func13 unifyNew_joined
    unifyNew_instance unifyNew_wrapper
    (fun os started H enc _ => unifyNew_lifted os started H enc)

theorem unifyNew_card : Rows.UnifyNewCardSaid :=
  Claim7.holds_tied_plain_at .later [] [.data, .data, .data, .sentinel, .sentinel] true (true, "57e83c14b8b0029d098d9b756682b875fbe63d0c72ea7f0c6cc09c3f3d0b8cd9") true
    unifyNew_holds (fun _ h => by cases h) (by kernel_rfl) (fun _ h => by cases h) unifyNew_row_tie rfl ⟨rfl, rfl⟩ (by kernel_rfl) rfl
    (fun f fn hf hfn => by
      obtain rfl : f = 13 := Option.some.inj ((show Tryz.prog.funcNamed "marginalia/marginalialaw14.UnifyNew" = some 13 by kernel_rfl).symm.trans hf) |>.symm
      obtain rfl : fn = Tryz.f13 := (Option.some.inj (Tryz.func13.symm.trans hfn)).symm
      exact ⟨by kernel_rfl, fun j t ht => by
        rw [Tryz.params13] at ht
        have hlt : j < 2 := (Array.getElem?_eq_some_iff.1 ht).1
        have key : ∀ j : Fin 2, (Tryz.prog.wantsStandIn (#[57, 68].getD j.1 0)) = false := by decide +kernel
        have h3 : t = #[57, 68].getD j 0 := by rw [Array.getD_eq_getD_getElem?, ht]; rfl
        subst h3
        exact key ⟨j, hlt⟩⟩)
    (by kernel_rfl)
end Go.Proofs.YtplnfepdikbpfaaGreatDoor
