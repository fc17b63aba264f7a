/- The law TokenQuotes. Condition: strconv.ErrRange holds an error. -/
import Derived.Test.YtepgjaecfoaenaaGreatDoorS9
import Derived.Test.YtepgjaecfoaenaaGreatDoorT4
import Derived.Deep.DeepCutAuto
namespace Go.Proofs.YtepgjaecfoaenaaGreatDoor
open Go.RowKit
set_option linter.unusedVariables false
set_option linter.unusedSimpArgs false

theorem numRes_no {t : Tok} (h : t.kind ≠ 5 ∨ isTokB t = false) : numRes t = (0, false, 4) := by unfold numRes; rw [if_pos h]
theorem numRes_yes {t : Tok} (hk : t.kind = 5) (h : isTokB t = true) : numRes t = ((numR t.text).1, (numR t.text).2, 0) := by
  unfold numRes numR; rw [if_neg (by simp [hk, h])]
  split <;> rfl

set_option maxRecDepth 100000 in
set_option maxHeartbeats 16000000 in
theorem Quotes_calls (l : List UInt8) (kd : Int) (r : List UInt8) (w : World) (hs : l.length ≤ 9223372036854775807) (hr : r.length ≤ 9223372036854775807) (hv : ErrV w) :
    Calls Tryz.prog 3 #[.string (S l), .agg #[.int .i64 kd, .string (S r)]] w fun e w' => e = .returned (.bool true) ∧ Below w.heap.size w w' := by
  obtain ⟨a, hA⟩ : ∃ a, a = l.take 20001 := ⟨_, rfl⟩
  obtain ⟨b, hB⟩ : ∃ b, b = r.take 20001 := ⟨_, rfl⟩
  have la : a.length ≤ 20001 := by rw [hA, List.length_take]; omega
  have lb : b.length ≤ 20001 := by rw [hB, List.length_take]; omega
  have HA := Lib.hid hA; have HB := Lib.hid hB; clear hA hB
  obtain ⟨W0, hW0⟩ : ∃ W0, W0 = w.alloc (.cells #[.int .i64 kd, .string (S r)] 23) := ⟨_, rfl⟩
  have hb0 : Below w.heap.size w W0 := by rw [hW0]; exact bel_alloc (Below.refl _ _) _
  have hz0 : w.heap.size < W0.heap.size := by rw [hW0]; simp
  have p0 : W0.cell? ⟨w.heap.size, 0, none⟩ = some (.int .i64 kd) := by rw [hW0]; simp
  have p1 : W0.cell? ⟨w.heap.size, 1, none⟩ = some (.string (S r)) := by rw [hW0]; simp
  have KB : ∀ W : World, Below W0.heap.size W0 W → Below W0.heap.size W0 W ∧ W.cell? ⟨w.heap.size, 0, none⟩ = some (.int .i64 kd) ∧ W.cell? ⟨w.heap.size, 1, none⟩ = some (.string (S r)) :=
    fun W h => ⟨h, (h.cell (p := ⟨w.heap.size, 0, none⟩) hz0).trans p0, (h.cell (p := ⟨w.heap.size, 1, none⟩) hz0).trans p1⟩
  have KH := Lib.hid KB
  clear KB
  go_enter Tryz.func3, Tryz.ntmps3
  go_wp2_with fail
  rw [← hW0]
  clear hW0
  go_cut [5, 6] (fun y x wx => y = .string (S a) ∧ ∃ m : Nat, x = .pointer (some ⟨m, 0, none⟩) ∧ wx.cell? ⟨m, 0, none⟩ = some (.int .i64 kd) ∧ wx.cell? ⟨m, 1, none⟩ = some (.string (S b)) ∧ Below w.heap.size w wx ∧ m < wx.heap.size)
  case first =>
    go_region_held3 (fun W => Below W0.heap.size W0 W ∧ W.cell? ⟨w.heap.size, 0, none⟩ = some (.int .i64 kd) ∧ W.cell? ⟨w.heap.size, 1, none⟩ = some (.string (S r)))
      (first
        | assumption
        | exact KH.out _ (Below.refl _ _).drew
        | exact KH.out _ (bel_then (And.left (by assumption)) hb2)
        | exact KH.out _ (bel_alloc hq2 _)
        | exact KH.out _ (bel_set (bel_set hq2 _ _ (Nat.le_refl _)) _ _ (Nat.le_refl _))
        | exact KH.out _ (bel_alloc (And.left (by assumption)) _)
        | exact KH.out _ (bel_set (bel_set (bel_alloc hq2 _) _ _ hz2) _ _ hz2)
        | exact KH.out _ (bel_set (bel_alloc hq2 _) _ _ hz2))
      (first
        | (go_at_call 12; refine (Short_same l _ (by omega)).mono ?_; rw [← HA.out]; rintro e w1 ⟨rfl, rfl⟩)
        | (go_at_call 13; refine (One_calls kd r _ (by omega)).mono ?_; rw [← HB.out]; rintro e w2 ⟨rfl, hb2⟩; have hq2 : Below W0.heap.size W0 w2 := bel_then (And.left (by assumption)) hb2; have hz2 := hq2.size; obtain ⟨hcc, hff⟩ := bcell hb2))
    all_goals
      first
        | (obtain ⟨m, wx, hm, hwx⟩ : ∃ (m : Nat) (wx : World), m = w2.heap.size ∧ wx = w2.alloc (.cells #[.int .i64 kd, .string (S b)] 23) := ⟨_, _, rfl, rfl⟩
           have x0 : wx.cell? ⟨m, 0, none⟩ = some (.int .i64 kd) := by rw [hm, hwx]; simp
           have x1 : wx.cell? ⟨m, 1, none⟩ = some (.string (S b)) := by rw [hm, hwx]; simp
           have hbx : Below w.heap.size w wx := by rw [hwx]; exact bel_alloc (bel_then hb0 hq2) _
           have hmz : m < wx.heap.size := by rw [hm, hwx]; simp
           rw [← hwx, ← hm])
        | (obtain ⟨m, wx, hm, hwx⟩ : ∃ (m : Nat) (wx : World), m = W0.heap.size ∧ wx = (w2.setCell ⟨W0.heap.size, 0, none⟩ (.int .i64 kd)).setCell ⟨W0.heap.size, 1, none⟩ (.string (S b)) := ⟨_, _, rfl, rfl⟩
           have q0 : w2.cell? ⟨W0.heap.size, 0, none⟩ = some (.int .i64 0) := by rw [hcc _ _ (by simp)]; simp
           have q1 : w2.cell? ⟨W0.heap.size, 1, none⟩ = some (.string ⟨#[]⟩) := by rw [hcc _ _ (by simp)]; simp
           have x0 : wx.cell? ⟨m, 0, none⟩ = some (.int .i64 kd) := by
             rw [hm, hwx, World.cell?_setCell_other _ _ _ _ (by simp)]; exact World.cell?_setCell_same _ _ _ q0
           have x1 : wx.cell? ⟨m, 1, none⟩ = some (.string (S b)) := by
             rw [hm, hwx]; exact World.cell?_setCell_same _ _ _ ((World.cell?_setCell_other _ _ _ _ (by simp)).trans q1)
           have hbx : Below w.heap.size w wx := by rw [hwx]; exact bel_set (bel_set (bel_then hb0 hq2) _ _ (Nat.le_of_lt hz0)) _ _ (Nat.le_of_lt hz0)
           have hmz : m < wx.heap.size := by rw [hm, hwx]; have := hb2.size; simp at this; simp; omega
           rw [← hwx, ← hm])
    all_goals go_wp2_with fail
    all_goals go_meet
    all_goals exact ⟨rfl, m, rfl, x0, x1, hbx, hmz⟩
  case rest =>
    obtain ⟨rfl, m, rfl, x0, x1, hbx, hmz⟩ := hcut
    obtain ⟨wx, rfl⟩ : ∃ wx, wx = wc := ⟨_, rfl⟩
    have XC := Lib.hid (fun (W : World) (h : Below wx.heap.size wx W) => (⟨(h.cell (p := ⟨m, 0, none⟩) hmz).trans x0, (h.cell (p := ⟨m, 1, none⟩) hmz).trans x1⟩ : W.cell? ⟨m, 0, none⟩ = some (.int .i64 kd) ∧ W.cell? ⟨m, 1, none⟩ = some (.string (S b))))
    have EV : ErrV wx := hv.below hbx
    clear x0 x1
    go_wp2_with fail
    refine (Quote_calls a wx (by omega)).mono ?_
    obtain ⟨Q, E, hQ⟩ : ∃ Q E, quoteRes a = (Q, E) := ⟨_, _, rfl⟩
    rw [hQ]
    rintro e w3 ⟨rfl, hb3⟩
    have e1 := (XC.out w3 hb3).1
    have e2 := (XC.out w3 hb3).2
    have HQ := Lib.hid hQ; clear hQ
    go_wp2_with fail
    refine (Unquote_calls ⟨kd, b⟩ w3).mono ?_
    obtain ⟨U, F, hU⟩ : ∃ U F, unquoteRes ⟨kd, b⟩ = (U, F) := ⟨_, _, rfl⟩
    rw [hU]
    rintro e w4 ⟨rfl, hb4⟩
    have hb34 := bel_then hb3 hb4
    clear e1 e2
    have e1 := (XC.out w4 hb34).1
    have e2 := (XC.out w4 hb34).2
    have HU := Lib.hid hU; clear hU
    go_wp2_with fail
    refine (Number_calls ⟨kd, b⟩ w4 (fun _ => EV.below hb34)).mono ?_
    obtain ⟨N, O, G, hN⟩ : ∃ N O G, numRes ⟨kd, b⟩ = (N, O, G) := ⟨_, _, _, rfl⟩
    rw [hN]
    rintro e w5 ⟨rfl, hb5⟩
    have hb35 := bel_then hb34 hb5
    clear e1 e2 hb3 hb4 hb34 hb5
    have HN := Lib.hid hN; clear hN
    go_wp2_with fail
    refine (RQuote_calls a w5 (by omega)).mono ?_
    obtain ⟨W, hW⟩ : ∃ W, W = 34 :: escL a ++ [34] := ⟨_, rfl⟩
    rw [← hW]
    rintro e w6 ⟨rfl, hb6⟩
    have hb36 := bel_then hb35 hb6
    have hA : (decide ((W.length : Int) > 20000) = false ∧ Q = W ∧ E = 0) ∨ (decide ((W.length : Int) > 20000) = true ∧ Q = [] ∧ E = 3) := by
      have hq := HQ.out
      have hwl : W.length = (escL a).length + 2 := by rw [hW]; simp
      by_cases h : (escL a).length + 2 ≤ 20000
      · rw [quote_ok h, ← hW] at hq
        simp only [Prod.mk.injEq] at hq
        exact .inl ⟨by rw [decide_eq_false_iff_not]; omega, hq.1.symm, hq.2.symm⟩
      · rw [quote_no h] at hq
        simp only [Prod.mk.injEq] at hq
        exact .inr ⟨by rw [decide_eq_true_eq]; omega, hq.1.symm, hq.2.symm⟩
    have hBB : (isTokB ⟨kd, b⟩ = false ∧ U = [] ∧ F = 4 ∧ N = 0 ∧ O = false ∧ G = 4) ∨ (isTokB ⟨kd, b⟩ = true ∧ kd = 6 ∧ (∃ c, b = 34 :: escL c ++ [34] ∧ U = c ∧ F = 0 ∧ (escL c).length ≤ 20000) ∧ N = 0 ∧ O = false ∧ G = 4)
        ∨ (isTokB ⟨kd, b⟩ = true ∧ kd = 5 ∧ U = [] ∧ F = 4 ∧ N = (numR b).1 ∧ O = (numR b).2 ∧ G = 0) ∨ (isTokB ⟨kd, b⟩ = true ∧ (kd != 6) = true ∧ (kd != 5) = true ∧ U = [] ∧ F = 4 ∧ N = 0 ∧ O = false ∧ G = 4) := by
      have hu := HU.out
      have hn := HN.out
      cases ht : isTokB ⟨kd, b⟩ with
      | false =>
        rw [unquote_no (.inr ht)] at hu
        rw [numRes_no (.inr ht)] at hn
        simp only [Prod.mk.injEq] at hu hn
        exact .inl ⟨rfl, hu.1.symm, hu.2.symm, hn.1.symm, hn.2.1.symm, hn.2.2.symm⟩
      | true =>
        by_cases h6 : kd = 6
        · obtain ⟨c, hc, hr⟩ := unquote_text (t := ⟨kd, b⟩) h6 ht
          rw [hr] at hu
          rw [numRes_no (.inl (by show kd ≠ 5; omega))] at hn
          simp only [Prod.mk.injEq] at hu hn
          have hbl := (isTok_next ht).2.1
          have hc' : b = 34 :: escL c ++ [34] := hc
          have hl3 : b.length ≤ 20000 := hbl
          exact .inr (.inl ⟨rfl, h6, ⟨c, hc', hu.1.symm, hu.2.symm, by rw [hc'] at hl3; simp at hl3; omega⟩, hn.1.symm, hn.2.1.symm, hn.2.2.symm⟩)
        · rw [unquote_no (.inl h6)] at hu
          by_cases h5 : kd = 5
          · rw [numRes_yes (t := ⟨kd, b⟩) h5 ht] at hn
            simp only [Prod.mk.injEq] at hu hn
            exact .inr (.inr (.inl ⟨rfl, h5, hu.1.symm, hu.2.symm, hn.1.symm, hn.2.1.symm, hn.2.2.symm⟩))
          · rw [numRes_no (.inl h5)] at hn
            simp only [Prod.mk.injEq] at hu hn
            exact .inr (.inr (.inr ⟨rfl, by simp [h6], by simp [h5], hu.1.symm, hu.2.symm, hn.1.symm, hn.2.1.symm, hn.2.2.symm⟩))
    clear hW HQ HU HN hb35 hb6 EV
    rcases hA with ⟨g1, rfl, rfl⟩ | ⟨g1, rfl, rfl⟩
    all_goals
      have e1 := (XC.out w6 hb36).1
      have e2 := (XC.out w6 hb36).2
      go_wp2_with fail
      refine (RIsToken_calls ⟨kd, b⟩ w6 (by show b.length ≤ _; omega)).mono ?_
      clear e1 e2
      rcases hBB with ⟨hT, rfl, rfl, rfl, rfl, rfl⟩ | ⟨hT, hk6, ⟨c, hc, rfl, rfl, hcl⟩, rfl, rfl, rfl⟩ | ⟨hT, hk5, rfl, rfl, hN1, hO1, rfl⟩ | ⟨hT, hk6, hk5, rfl, rfl, rfl, rfl, rfl⟩
      · rw [hT]
        rintro e w7 ⟨rfl, hb7⟩
        have hb37 := bel_then hb36 hb7
        have e1 := (XC.out w7 hb37).1
        have e2 := (XC.out w7 hb37).2
        go_wp2_with fail
        refine (RIsToken_calls ⟨kd, b⟩ w7 (by show b.length ≤ _; omega)).mono ?_
        rw [hT]
        rintro e w8 ⟨rfl, hb8⟩
        go_wp2_with fail
        refine (alive_calls _).mono ?_
        rintro e w9 ⟨rfl, hb9⟩
        go_wp2
        go_ret
        exact ⟨rfl, bel_then (bel_then (bel_then hbx hb37) hb8) hb9⟩
      · rw [hT]
        subst hk6
        have HCB := Lib.hid hc; clear hc
        rintro e w7 ⟨rfl, hb7⟩
        have hb37 := bel_then hb36 hb7
        have e1 := (XC.out w7 hb37).1
        have e2 := (XC.out w7 hb37).2
        rw [HCB.out] at e2
        go_wp2_with fail
        refine (RUnquote_calls U w7 hcl).mono ?_
        rintro e w8 ⟨rfl, hb8⟩
        have hb38 := bel_then hb37 hb8
        clear e1 e2
        have e1 := (XC.out w8 hb38).1
        have e2 := (XC.out w8 hb38).2
        go_wp2_with fail
        refine (RIsToken_calls ⟨6, b⟩ w8 (by show b.length ≤ _; omega)).mono ?_
        rw [hT]
        rintro e w9 ⟨rfl, hb9⟩
        have hb39 := bel_then hb38 hb9
        clear e1 e2
        have e1 := (XC.out w9 hb39).1
        have e2 := (XC.out w9 hb39).2
        go_wp2_with fail
        refine (alive_calls _).mono ?_
        rintro e w10 ⟨rfl, hb10⟩
        go_wp2
        go_ret
        exact ⟨rfl, bel_then (bel_then hbx hb39) hb10⟩
      · rw [hT]
        subst hk5
        have HN1 := Lib.hid hN1; have HO1 := Lib.hid hO1; clear hN1 hO1
        have hdg := (digits_of (t := ⟨5, b⟩) rfl hT).2.2
        rintro e w7 ⟨rfl, hb7⟩
        have hb37 := bel_then hb36 hb7
        have e1 := (XC.out w7 hb37).1
        have e2 := (XC.out w7 hb37).2
        go_wp2_with fail
        refine (RIsToken_calls ⟨5, b⟩ w7 (by show b.length ≤ _; omega)).mono ?_
        rw [hT]
        rintro e w8 ⟨rfl, hb8⟩
        have hb38 := bel_then hb37 hb8
        clear e1 e2
        have e1 := (XC.out w8 hb38).1
        have e2 := (XC.out w8 hb38).2
        go_wp2_with fail
        refine (RNumber_calls b w8 lb (fun k hk => hdg _ (by rw [at_, List.getD_eq_getElem?_getD, List.getElem?_eq_getElem hk]; exact List.getElem_mem _))).mono ?_
        rw [← HN1.out, ← HO1.out]
        rintro e w9 ⟨rfl, rfl⟩
        have b1 : (N == N) = true := by simp
        have b2 : (O == O) = true := by simp
        go_wp2_with fail
        refine (alive_calls _).mono ?_
        rintro e w10 ⟨rfl, hb10⟩
        go_wp2
        go_ret
        exact ⟨rfl, bel_then (bel_then hbx hb38) hb10⟩
      · rw [hT]
        rintro e w7 ⟨rfl, hb7⟩
        have hb37 := bel_then hb36 hb7
        have e1 := (XC.out w7 hb37).1
        have e2 := (XC.out w7 hb37).2
        go_wp2_with fail
        refine (RIsToken_calls ⟨kd, b⟩ w7 (by show b.length ≤ _; omega)).mono ?_
        rw [hT]
        rintro e w8 ⟨rfl, hb8⟩
        have hb38 := bel_then hb37 hb8
        clear e1 e2
        have e1 := (XC.out w8 hb38).1
        have e2 := (XC.out w8 hb38).2
        go_wp2_with fail
        refine (alive_calls _).mono ?_
        rintro e w9 ⟨rfl, hb9⟩
        go_wp2
        go_ret
        exact ⟨rfl, bel_then (bel_then hbx hb38) hb9⟩

end Go.Proofs.YtepgjaecfoaenaaGreatDoor
