/- PROVED: the law TokenQuotes holds of the given program: whatever the input, the call returns true and leaves the input as it was. Conditions: those of the card's row, with the listed package variables tied to the program's text. -/
import Derived.Test.YtepgjaecfoaenaaGreatDoorK0
import Derived.Test.YtepgjaecfoaenaaGreatDoorT7
import Derived.ProofKit
import Derived.SizedLaws
import Derived.LaidLaws
import Derived.Test.YtepgjaecfoaenaaGreatDoorCards
import Derived.Test.YtepgjaecfoaenaaGreatDoorTie
import Derived.SevenTiedAt
import Derived.Lib.SmallJoins
namespace Go.Proofs.YtepgjaecfoaenaaGreatDoor
open Go.ChangeShapes Go.WideShapes Go.ChangeAt Go.RowKit Go.WideMaps Go.WideElems
open Go.ChangeMaps (open_string shut_string)

theorem tokenQuotes_met (os : Os) (args : Array Value) : laidMetH Tryz.prog Rows.tokenQuotesRow.laid ((laidWorld os).forCall (fun _ _ => 0) ⟨#[], args, []⟩).memory :=
  laidMetH_of_parts (laidWorld_met os args) (by kernel_rfl)

theorem errV_of_laid {W : World} (h : laidMetH Tryz.prog Rows.tokenQuotesRow.laid W) : ErrV W := by
  have e : Rows.tokenQuotesRow.laid.filter (fun x => x.2.handleName?.isSome) = [] := by kernel_rfl
  have h' : laidMet Tryz.prog laidL W := by
    unfold laidMetH at h
    rw [e] at h
    exact h
  obtain ⟨ps, hv, -, -⟩ := h'
  unfold laidL at hv
  obtain ⟨g0, t0, cs0, f0, p0, q0, hg0, ht0, hv0, hd0, hr0, e0⟩ := hv
  obtain ⟨g1, t1, cs1, f1, p1, q1, hg1, ht1, hv1, hd1, hr1, e1⟩ := hr0
  obtain ⟨g2, t2, cs2, f2, p2, q2, hg2, ht2, hv2, hd2, hr2, e2⟩ := hr1
  obtain ⟨g3, t3, cs3, f3, p3, q3, hg3, ht3, hv3, hd3, hr3, e3⟩ := hr2
  have k1 : Tryz.prog.globalNamed "strconv.ErrRange" = some 1 := by kernel_rfl
  have k2 : (Tryz.prog.globals[1]?).map (·.type) = some 63 := by kernel_rfl
  obtain rfl := Option.some.inj (k1.symm.trans hg3)
  obtain rfl := Option.some.inj (k2.symm.trans ht3)
  obtain ⟨f, u, v, hcs, -, -⟩ := iface_of_trod Tryz.underlying63 hd3
  exact ⟨u, v, by rw [hv3]; congr 1; exact Array.ext' hcs⟩

set_option maxRecDepth 100000 in
theorem tokenQuotes_lifted (os : Os) (started : os.Started) (H : Type) (enc : TypeId × Value → H) :
    ReturnsInHanded {} Tryz.checked os 3 .any (fun w args => (Rows.tokenQuotesSpec.pre enc Tryz.prog Tryz.f3 [] false w args ∧ laidMetH Tryz.prog Rows.tokenQuotesRow.laid w) ∧ sizedMet enc Tryz.prog Tryz.f3 (OpenSpec.ofChange Rows.tokenQuotesSpec) false w args)
      (Rows.tokenQuotesSpec.post enc Tryz.prog Tryz.f3 false true false false) := by
  refine returnsInHanded_of_change_and (C := Tryz.checked) (X := fun w _ => laidMetH Tryz.prog Rows.tokenQuotesRow.laid w) (fun _ _ _ hh h => h.of_heap hh) Tryz.own started (by kernel_rfl) Tryz.func3
    (ChangeSpec.witness_at (enc := enc) (C := Tryz.checked) (os := os) (X := fun w _ => laidMetH Tryz.prog Rows.tokenQuotesRow.laid w) false (laidWorld os) #[.string ⟨#[]⟩, .agg #[.int .i64 0, .string ⟨#[]⟩]] 8 rfl (by kernel_rfl) (by kernel_rfl) (by kernel_rfl) (by kernel_rfl) (by kernel_rfl) (tokenQuotes_met os _)) ?_
  intro W base args ds gs before hval0 hW x1 x2 hL x3
  have hval : ∀ (j : Nat) t v, Tryz.f3.params[j]? = some t → args[j]? = some v → Value.okWide Tryz.prog W .any base t v := hval0
  have hW' := hW
  obtain ⟨p, q, hA0, hV0, rfl, hfz, hnd⟩ := hW
  have hA : DataW.TrodAll enc Tryz.prog W 0 (fun _ => true) true Tryz.f3.params.toList args.toList ds p := hA0
  have hV : DataW.TrodVars enc Tryz.prog W (fun _ => true) [] gs q := hV0
  rw [Tryz.params3] at hA hval
  obtain ⟨v0, v1, d0, d1, p0, p1, rfl, rfl, rfl, h0, h1⟩ := trodAll_two hA
  obtain ⟨s0, rfl, rfl, rfl, hs0⟩ := open_string Tryz.underlying9 (hval 0 9 v0 rfl rfl) h0
  have hk1 := h1
  obtain ⟨a1, b1, y1, z1, n1, rfl, rfl, rfl, hy1, hz1⟩ := Joins.open_agg2 Tryz.underlying23 (by kernel_rfl) (by kernel_rfl) (hval 1 23 v1 rfl rfl) h1
  obtain ⟨i1, e1, rfl, _⟩ := DataW.trod_int Tryz.underlying3 hy1
  obtain rfl : a1 = .int .i64 i1 := by simpa using e1
  obtain ⟨s1, g1, rfl, hs1⟩ := DataW.trod_string Tryz.underlying9 hz1
  obtain rfl : b1 = .string s1 := by simpa using g1
  obtain ⟨rfl, rfl⟩ : gs = [] ∧ q = [] := by
    cases gs with
    | nil => exact ⟨rfl, hV⟩
    | cons g r => exact absurd hV (by intro h; cases h)
  have hc := Quotes_calls s0.data.toList i1 s1.data.toList W (by have e : s0.data.toList.length = s0.size := Array.length_toList; have := hs0; unfold maxLen at this; omega) (by have e : s1.data.toList.length = s1.size := Array.length_toList; have := hs1; unfold maxLen at this; omega) (errV_of_laid hL)
  rw [S_eta, S_eta] at hc
  refine hc.mono fun e W' ⟨he, hb⟩ => ?_
  subst he
  refine ⟨_, rfl, _, _, _, [], [], [], hW', ?_, ?_, ?_, hb.frame _, fun h => by cases h⟩
  · exact trodAll_mk1 (shut_bool Tryz.underlying4 true)
  · exact trodAll_mk2 (shut_string Tryz.underlying9 hs0) (Below.trod Tryz.laidOut (by kernel_rfl) (of_decide_eq_true (by kernel_rfl)) hk1 hb (fun x hx => by simp at hx))
  · rfl

theorem tokenQuotes_holds : Rows.TokenQuotesSaid :=
  OpenClaim.holds_of_wide 3 Tryz.f3 rfl rfl rfl rfl rfl rfl rfl ⟨rfl, rfl, rfl, rfl, rfl⟩ rfl rfl rfl rfl rfl (by kernel_rfl) Tryz.func3 (by kernel_rfl)
    (of_decide_eq_true (by kernel_rfl)) (by unfold Func.isWrapper; first | (rw [if_neg (of_decide_eq_false (by kernel_rfl))]; exact ⟨rfl, rfl⟩) | (rw [if_pos (by decide +kernel)]; kernel_rfl))
    (fun os started H enc _ => tokenQuotes_lifted os started H enc)

theorem tokenQuotes_card : Rows.TokenQuotesCardSaid :=
  Claim7.holds_tied_plain_at .later [] [.data, .data, .data, .sentinel, .sentinel] true (true, "11b168bb100c9f234a1e4ca73b025002a766741cfa5c19e419231e2a505e141c") true
    tokenQuotes_holds (fun _ h => by cases h) (by kernel_rfl) (fun _ h => by cases h) tokenQuotes_row_tie rfl ⟨rfl, rfl⟩ (by kernel_rfl) rfl
    (fun f fn hf hfn => by
      obtain rfl : f = 3 := Option.some.inj ((show Tryz.prog.funcNamed "marginalia/marginalialaw03.TokenQuotes" = some 3 by kernel_rfl).symm.trans hf) |>.symm
      obtain rfl : fn = Tryz.f3 := (Option.some.inj (Tryz.func3.symm.trans hfn)).symm
      exact ⟨by kernel_rfl, fun j t ht => by
        rw [Tryz.params3] at ht
        have hlt : j < 2 := (Array.getElem?_eq_some_iff.1 ht).1
        have key : ∀ j : Fin 2, (Tryz.prog.wantsStandIn (#[9, 23].getD j.1 0)) = false := by decide +kernel
        have h3 : t = #[9, 23].getD j 0 := by rw [Array.getD_eq_getD_getElem?, ht]; rfl
        subst h3
        exact key ⟨j, hlt⟩⟩)
    (by kernel_rfl)
end Go.Proofs.YtepgjaecfoaenaaGreatDoor
