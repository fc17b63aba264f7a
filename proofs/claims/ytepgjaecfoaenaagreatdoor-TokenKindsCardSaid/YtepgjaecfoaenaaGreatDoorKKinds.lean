/- PROVED: the law TokenKinds holds of the given program: whatever the input, the call returns true and leaves the input as it was. Conditions: those of the card's row, with the listed package variables tied to the program's text. -/
import Derived.Test.YtepgjaecfoaenaaGreatDoorK0
import Derived.Test.YtepgjaecfoaenaaGreatDoorT9
import Derived.Test.YtepgjaecfoaenaaGreatDoorK2
import Derived.ProofKit
import Derived.SizedLaws
import Derived.LaidLaws
import Derived.Test.YtepgjaecfoaenaaGreatDoorCards
import Derived.Test.YtepgjaecfoaenaaGreatDoorTie
import Derived.SevenTiedAt
import Derived.Lib.SmallJoins
namespace Go.Proofs.YtepgjaecfoaenaaGreatDoor
open Go.ChangeShapes Go.WideShapes Go.ChangeAt Go.RowKit Go.WideMaps Go.WideElems
open Go.ChangeMaps (open_string shut_string)

theorem tokenKinds_met (os : Os) (args : Array Value) : laidMetH Tryz.prog Rows.tokenKindsRow.laid ((laidWorld os).forCall (fun _ _ => 0) ⟨#[], args, []⟩).memory :=
  laidMetH_of_parts (laidWorld_met os args) (by kernel_rfl)

set_option maxRecDepth 100000 in
theorem tokenKinds_lifted (os : Os) (started : os.Started) (H : Type) (enc : TypeId × Value → H) :
    ReturnsInHanded {} Tryz.checked os 10 .any (fun w args => (Rows.tokenKindsSpec.pre enc Tryz.prog Tryz.f10 [] false w args ∧ laidMetH Tryz.prog Rows.tokenKindsRow.laid w) ∧ sizedMet enc Tryz.prog Tryz.f10 (OpenSpec.ofChange Rows.tokenKindsSpec) false w args)
      (Rows.tokenKindsSpec.post enc Tryz.prog Tryz.f10 false true false false) := by
  refine returnsInHanded_of_change_and (C := Tryz.checked) (X := fun w _ => laidMetH Tryz.prog Rows.tokenKindsRow.laid w) (fun _ _ _ hh h => h.of_heap hh) Tryz.own started (by kernel_rfl) Tryz.func10
    (ChangeSpec.witness_at (enc := enc) (C := Tryz.checked) (os := os) (X := fun w _ => laidMetH Tryz.prog Rows.tokenKindsRow.laid w) false (laidWorld os) #[.slice none 0 0, .agg #[.int .i64 0, .string ⟨#[]⟩], .agg #[.int .i64 0, .string ⟨#[]⟩]] 8 rfl (by kernel_rfl) (by kernel_rfl) (by kernel_rfl) (by kernel_rfl) (by kernel_rfl) (tokenKinds_met os _)) ?_
  intro W base args ds gs before hval0 hW x1 x2 hL x3
  have hval : ∀ (j : Nat) t v, Tryz.f10.params[j]? = some t → args[j]? = some v → Value.okWide Tryz.prog W .any base t v := hval0
  have hW' := hW
  obtain ⟨p, q, hA0, hV0, rfl, hfz, hnd⟩ := hW
  have hA : DataW.TrodAll enc Tryz.prog W 0 (fun _ => true) true Tryz.f10.params.toList args.toList ds p := hA0
  have hV : DataW.TrodVars enc Tryz.prog W (fun _ => true) [] gs q := hV0
  rw [Tryz.params10] at hA hval
  obtain ⟨v0, v1, v2, d0, d1, d2, p0, p1, p2, rfl, rfl, rfl, h0, h1, h2⟩ := trodAll_three hA
  have hk1 := h1
  obtain ⟨a1, b1, y1, z1, n1, rfl, rfl, rfl, hy1, hz1⟩ := Joins.open_agg2 Tryz.underlying23 (by kernel_rfl) (by kernel_rfl) (hval 1 23 v1 rfl rfl) h1
  obtain ⟨i1, e1, rfl, _⟩ := DataW.trod_int Tryz.underlying3 hy1
  obtain rfl : a1 = .int .i64 i1 := by simpa using e1
  obtain ⟨s1, g1, rfl, hs1⟩ := DataW.trod_string Tryz.underlying9 hz1
  obtain rfl : b1 = .string s1 := by simpa using g1
  have hk2 := h2
  obtain ⟨a2, b2, y2, z2, n2, rfl, rfl, rfl, hy2, hz2⟩ := Joins.open_agg2 Tryz.underlying23 (by kernel_rfl) (by kernel_rfl) (hval 2 23 v2 rfl rfl) h2
  obtain ⟨i2, e2, rfl, _⟩ := DataW.trod_int Tryz.underlying3 hy2
  obtain rfl : a2 = .int .i64 i2 := by simpa using e2
  obtain ⟨s2, g2, rfl, hs2⟩ := DataW.trod_string Tryz.underlying9 hz2
  obtain rfl : b2 = .string s2 := by simpa using g2
  have hk0 := h0
  obtain ⟨ts0, hR0⟩ := toks_of_trod (okWide_slice Tryz.underlying37 (hval 0 37 v0 rfl rfl)) h0 (fun elems spare he => by
    have hz := sized_slice x2 (j := 0) rfl (congrArg some he) Tryz.underlying37
    have hb : Tryz.checked.prog.bytesOf 23 = 24 := by kernel_rfl
    rw [hb] at hz
    unfold reachBytes at hz
    omega)
  obtain ⟨rfl, rfl⟩ : gs = [] ∧ q = [] := by
    cases gs with
    | nil => exact ⟨rfl, hV⟩
    | cons g r => exact absurd hV (by intro h; cases h)
  have hc := Kinds_calls v0 ts0 i1 s1.data.toList i2 s2.data.toList W hR0 (by have e : s1.data.toList.length = s1.size := Array.length_toList; have := hs1; unfold maxLen at this; omega) (by have e : s2.data.toList.length = s2.size := Array.length_toList; have := hs2; unfold maxLen at this; omega)
  rw [S_eta, S_eta] at hc
  refine hc.mono fun e W' ⟨he, hb⟩ => ?_
  subst he
  refine ⟨_, rfl, _, _, _, [], (p0 ++ ([] ++ [])), [], hW', ?_, ?_, ?_, hb.frame _, fun h => by cases h⟩
  · exact trodAll_mk1 (shut_bool Tryz.underlying4 true)
  · exact trodAll_mk3 (Below.trod Tryz.laidOut (by kernel_rfl) (of_decide_eq_true (by kernel_rfl)) hk0 hb (trod_token_lt hk0)) (Below.trod Tryz.laidOut (by kernel_rfl) (of_decide_eq_true (by kernel_rfl)) hk1 hb (fun x hx => by simp at hx)) (Below.trod Tryz.laidOut (by kernel_rfl) (of_decide_eq_true (by kernel_rfl)) hk2 hb (fun x hx => by simp at hx))
  · rfl

theorem tokenKinds_holds : Rows.TokenKindsSaid :=
  OpenClaim.holds_of_wide 10 Tryz.f10 rfl rfl rfl rfl rfl rfl rfl ⟨rfl, rfl, rfl, rfl, rfl⟩ rfl rfl rfl rfl rfl (by kernel_rfl) Tryz.func10 (by kernel_rfl)
    (of_decide_eq_true (by kernel_rfl)) (by unfold Func.isWrapper; first | (rw [if_neg (of_decide_eq_false (by kernel_rfl))]; exact ⟨rfl, rfl⟩) | (rw [if_pos (by decide +kernel)]; kernel_rfl))
    (fun os started H enc _ => tokenKinds_lifted os started H enc)

theorem tokenKinds_card : Rows.TokenKindsCardSaid :=
  Claim7.holds_tied_plain_at .later [] [.data, .data, .data, .sentinel, .sentinel] true (true, "11b168bb100c9f234a1e4ca73b025002a766741cfa5c19e419231e2a505e141c") true
    tokenKinds_holds (fun _ h => by cases h) (by kernel_rfl) (fun _ h => by cases h) tokenKinds_row_tie rfl ⟨rfl, rfl⟩ (by kernel_rfl) rfl
    (fun f fn hf hfn => by
      obtain rfl : f = 10 := Option.some.inj ((show Tryz.prog.funcNamed "marginalia/marginalialaw03.TokenKinds" = some 10 by kernel_rfl).symm.trans hf) |>.symm
      obtain rfl : fn = Tryz.f10 := (Option.some.inj (Tryz.func10.symm.trans hfn)).symm
      exact ⟨by kernel_rfl, fun j t ht => by
        rw [Tryz.params10] at ht
        have hlt : j < 3 := (Array.getElem?_eq_some_iff.1 ht).1
        have key : ∀ j : Fin 3, (Tryz.prog.wantsStandIn (#[37, 23, 23].getD j.1 0)) = false := by decide +kernel
        have h3 : t = #[37, 23, 23].getD j 0 := by rw [Array.getD_eq_getD_getElem?, ht]; rfl
        subst h3
        exact key ⟨j, hlt⟩⟩)
    (by kernel_rfl)
end Go.Proofs.YtepgjaecfoaenaaGreatDoor
