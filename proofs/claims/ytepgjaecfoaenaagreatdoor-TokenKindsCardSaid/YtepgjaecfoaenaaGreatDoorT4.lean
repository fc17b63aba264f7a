/- The law TokenStrings. -/
import Derived.Test.YtepgjaecfoaenaaGreatDoorT3
import Derived.Test.YtepgjaecfoaenaaGreatDoorP9
namespace Go.Proofs.YtepgjaecfoaenaaGreatDoor
open Go.RowKit
set_option linter.unusedVariables false
set_option linter.unusedSimpArgs false

theorem Short_same (l : List UInt8) (w : World) (hs : l.length ≤ 9223372036854775807) :
    Calls Tryz.prog 12 #[.string (S l)] w fun e w' => e = .returned (.string (S (l.take 20001))) ∧ w = w' := by
  go_enter Tryz.func12, Tryz.ntmps12
  go_wp2
  go_ret
  exact ⟨by rw [take_min]; rfl, rfl⟩

set_option maxRecDepth 100000 in
set_option maxHeartbeats 4000000 in
theorem Strings_calls (l : List UInt8) (kd : Int) (r : List UInt8) (w : World) (hs : l.length ≤ 9223372036854775807) (hr : r.length ≤ 9223372036854775807) :
    Calls Tryz.prog 4 #[.string (S l), .agg #[.int .i64 kd, .string (S r)]] w fun e w' => e = .returned (.bool true) ∧ Below w.heap.size w w' := by
  obtain ⟨a, hA⟩ : ∃ a, a = l.take 20001 := ⟨_, rfl⟩
  obtain ⟨b, hB⟩ : ∃ b, b = r.take 20001 := ⟨_, rfl⟩
  have la : a.length ≤ 20001 := by rw [hA, List.length_take]; omega
  have HA := Lib.hid hA; have HB := Lib.hid hB; clear hA hB
  obtain ⟨W0, hW0⟩ : ∃ W0, W0 = w.alloc (.cells #[.int .i64 kd, .string (S r)] 23) := ⟨_, rfl⟩
  have hb0 : Below w.heap.size w W0 := by rw [hW0]; exact bel_alloc (Below.refl _ _) _
  have hz0 : w.heap.size < W0.heap.size := by rw [hW0]; simp
  have p0 : W0.cell? ⟨w.heap.size, 0, none⟩ = some (.int .i64 kd) := by rw [hW0]; simp
  have p1 : W0.cell? ⟨w.heap.size, 1, none⟩ = some (.string (S r)) := by rw [hW0]; simp
  have KB : ∀ W : World, Below W0.heap.size W0 W → Below W0.heap.size W0 W ∧ W.cell? ⟨w.heap.size, 0, none⟩ = some (.int .i64 kd) ∧ W.cell? ⟨w.heap.size, 1, none⟩ = some (.string (S r)) :=
    fun W h => ⟨h, (h.cell (p := ⟨w.heap.size, 0, none⟩) hz0).trans p0, (h.cell (p := ⟨w.heap.size, 1, none⟩) hz0).trans p1⟩
  have KH := Lib.hid KB
  clear KB
  go_enter Tryz.func4, Tryz.ntmps4
  go_wp2_with fail
  rw [← hW0]
  clear hW0
  go_region_held3 (fun W => Below W0.heap.size W0 W ∧ W.cell? ⟨w.heap.size, 0, none⟩ = some (.int .i64 kd) ∧ W.cell? ⟨w.heap.size, 1, none⟩ = some (.string (S r)))
    (first
      | assumption
      | exact KH.out _ (Below.refl _ _).drew
      | exact KH.out _ (bel_then (And.left (by assumption)) hb2)
      | exact KH.out _ (bel_alloc hq2 _)
      | exact KH.out _ (bel_set (bel_set hq2 _ _ (Nat.le_refl _)) _ _ (Nat.le_refl _))
      | exact KH.out _ (bel_alloc (And.left (by assumption)) _)
      | exact KH.out _ (bel_set (bel_set (bel_alloc hq2 _) _ _ hz2) _ _ hz2)
      | exact KH.out _ (bel_set (bel_alloc hq2 _) _ _ hz2))
    (first
      | (go_at_call 12; refine (Short_same l _ (by omega)).mono ?_; rw [← HA.out]; rintro e w1 ⟨rfl, rfl⟩)
      | (go_at_call 13; refine (One_calls kd r _ (by omega)).mono ?_; rw [← HB.out]; rintro e w2 ⟨rfl, hb2⟩; have hq2 : Below W0.heap.size W0 w2 := bel_then (And.left (by assumption)) hb2; have hz2 := hq2.size; obtain ⟨hcc, hff⟩ := bcell hb2))
  all_goals
    first
      | (obtain ⟨m, wx, hm, hwx⟩ : ∃ (m : Nat) (wx : World), m = w2.heap.size ∧ wx = w2.alloc (.cells #[.int .i64 kd, .string (S b)] 23) := ⟨_, _, rfl, rfl⟩
         have x0 : wx.cell? ⟨m, 0, none⟩ = some (.int .i64 kd) := by rw [hm, hwx]; simp
         have x1 : wx.cell? ⟨m, 1, none⟩ = some (.string (S b)) := by rw [hm, hwx]; simp
         have hbx : Below w.heap.size w wx := by rw [hwx]; exact bel_alloc (bel_then hb0 hq2) _
         have hmz : m < wx.heap.size := by rw [hm, hwx]; simp
         rw [← hwx, ← hm])
      | (obtain ⟨m, wx, hm, hwx⟩ : ∃ (m : Nat) (wx : World), m = W0.heap.size ∧ wx = (w2.setCell ⟨W0.heap.size, 0, none⟩ (.int .i64 kd)).setCell ⟨W0.heap.size, 1, none⟩ (.string (S b)) := ⟨_, _, rfl, rfl⟩
         have q0 : w2.cell? ⟨W0.heap.size, 0, none⟩ = some (.int .i64 0) := by rw [hcc _ _ (by simp)]; simp
         have q1 : w2.cell? ⟨W0.heap.size, 1, none⟩ = some (.string ⟨#[]⟩) := by rw [hcc _ _ (by simp)]; simp
         have x0 : wx.cell? ⟨m, 0, none⟩ = some (.int .i64 kd) := by
           rw [hm, hwx, World.cell?_setCell_other _ _ _ _ (by simp)]; exact World.cell?_setCell_same _ _ _ q0
         have x1 : wx.cell? ⟨m, 1, none⟩ = some (.string (S b)) := by
           rw [hm, hwx]; exact World.cell?_setCell_same _ _ _ ((World.cell?_setCell_other _ _ _ _ (by simp)).trans q1)
         have hbx : Below w.heap.size w wx := by rw [hwx]; exact bel_set (bel_set (bel_then hb0 hq2) _ _ (Nat.le_of_lt hz0)) _ _ (Nat.le_of_lt hz0)
         have hmz : m < wx.heap.size := by rw [hm, hwx]; have := hb2.size; simp at this; simp; omega
         rw [← hwx, ← hm])
    clear hcc hff hb2 hz2 hq2 hm hwx
    try clear q0 q1
    go_wp2_with fail
    refine (Quote_calls a wx (by omega)).mono ?_
    by_cases hq : (escL a).length + 2 ≤ 20000
    · rw [quote_ok hq]
      obtain ⟨qt, hqt⟩ : ∃ qt, qt = 34 :: escL a ++ [34] := ⟨_, rfl⟩
      have Q1 := unquote_quoted a hq
      have Q2 := quoted_tok a hq
      rw [← hqt] at Q1 Q2 ⊢
      have H1 := Lib.hid Q1; have H2 := Lib.hid Q2
      clear Q1 Q2 hqt hq
      rintro e w3 ⟨rfl, hb3⟩
      go_wp2_with fail
      refine (Unquote_calls ⟨6, qt⟩ _).mono ?_
      rw [H1.out]
      rintro e w4 ⟨rfl, hb4⟩
      have y0 : w4.cell? ⟨w3.heap.size, 0, none⟩ = some (.int .i64 6) := by rw [hb4.cell (p := ⟨w3.heap.size, 0, none⟩) (by simp)]; simp
      have y1 : w4.cell? ⟨w3.heap.size, 1, none⟩ = some (.string (S qt)) := by rw [hb4.cell (p := ⟨w3.heap.size, 1, none⟩) (by simp)]; simp
      go_wp2_with fail
      refine (IsToken_calls ⟨6, qt⟩ _).mono ?_
      rw [H2.out]
      rintro e w5 ⟨rfl, hb5⟩
      have hb35 : Below wx.heap.size wx w5 := bel_then (bel_then (bel_alloc hb3 _) hb4) hb5
      obtain ⟨wy, rfl⟩ : ∃ wy, wy = w5 := ⟨_, rfl⟩
      have z0 : wy.cell? ⟨m, 0, none⟩ = some (.int .i64 kd) := by rw [hb35.cell (p := ⟨m, 0, none⟩) hmz]; exact x0
      have z1 : wy.cell? ⟨m, 1, none⟩ = some (.string (S b)) := by rw [hb35.cell (p := ⟨m, 1, none⟩) hmz]; exact x1
      have hby := bel_then hbx hb35
      have hmy : m < wy.heap.size := by have := hb35.size; omega
      clear hb3 hb4 hb5 hb35 y0 y1 x0 x1 hbx hmz
      go_wp2_with fail
      refine (Unquote_calls ⟨kd, b⟩ wy).mono ?_
      by_cases hk : kd = 6 ∧ isTokB ⟨kd, b⟩ = true
      · obtain ⟨c, hc, hr⟩ := unquote_text (t := ⟨kd, b⟩) hk.1 hk.2
        have hc' : b = 34 :: escL c ++ [34] := hc
        have hcl : (escL c).length + 2 ≤ 20000 := by
          have := (isTok_next hk.2).2.1
          have h2 : b.length ≤ 20000 := this
          rw [hc'] at h2; simp at h2; omega
        have hcc2 : c.length ≤ (escL c).length := by rw [escL_length]; omega
        have hqc := quote_ok hcl
        rw [← hc'] at hqc
        have HQ := Lib.hid hqc
        rw [hr]
        clear hk hc hr hc' hqc
        rintro e w6 ⟨rfl, hb6⟩
        go_wp2_with fail
        refine (Quote_calls c w6 (by omega)).mono ?_
        rw [HQ.out]
        rintro e w7 ⟨rfl, hb7⟩
        have hb67 := bel_then hb6 hb7
        have u1 : w7.cell? ⟨m, 1, none⟩ = some (.string (S b)) := by rw [hb67.cell (p := ⟨m, 1, none⟩) hmy]; exact z1
        have u2 : (b == b) = true := by simp
        go_wp2_with fail
        refine (alive_calls _).mono ?_
        rintro e w8 ⟨rfl, hb8⟩
        go_wp2
        go_ret
        exact ⟨rfl, bel_then (bel_then hby hb67) hb8⟩
      · rw [unquote_no (t := ⟨kd, b⟩) (by
          by_cases h6 : kd = 6
          · right; cases hi : isTokB ⟨kd, b⟩ with
            | false => rfl
            | true => exact absurd ⟨h6, hi⟩ hk
          · exact .inl h6)]
        clear hk
        rintro e w6 ⟨rfl, hb6⟩
        go_wp2_with fail
        refine (alive_calls _).mono ?_
        rintro e w8 ⟨rfl, hb8⟩
        go_wp2
        go_ret
        exact ⟨rfl, bel_then (bel_then hby hb6) hb8⟩
    · rw [quote_no hq]
      have ea := escL_length a
      have ec := cntE_le a
      have g1 : decide (2 * (a.length : Int) + 2 ≤ 20000) = false := by rw [decide_eq_false_iff_not]; omega
      have g2 : IntKind.i64.wrap (2 * (a.length : Int)) = 2 * (a.length : Int) := wrapI _ (by omega)
      have g3 : IntKind.i64.wrap (2 * (a.length : Int) + 2) = 2 * (a.length : Int) + 2 := wrapI _ (by omega)
      clear ea ec hq
      rintro e wy ⟨rfl, hb35⟩
      have z0 : wy.cell? ⟨m, 0, none⟩ = some (.int .i64 kd) := by rw [hb35.cell (p := ⟨m, 0, none⟩) hmz]; exact x0
      have z1 : wy.cell? ⟨m, 1, none⟩ = some (.string (S b)) := by rw [hb35.cell (p := ⟨m, 1, none⟩) hmz]; exact x1
      have hby := bel_then hbx hb35
      have hmy : m < wy.heap.size := by have := hb35.size; omega
      clear hb35 x0 x1 hbx hmz
      go_wp2_with fail
      refine (Unquote_calls ⟨kd, b⟩ wy).mono ?_
      by_cases hk : kd = 6 ∧ isTokB ⟨kd, b⟩ = true
      · obtain ⟨c, hc, hr⟩ := unquote_text (t := ⟨kd, b⟩) hk.1 hk.2
        have hc' : b = 34 :: escL c ++ [34] := hc
        have hcl : (escL c).length + 2 ≤ 20000 := by
          have := (isTok_next hk.2).2.1
          have h2 : b.length ≤ 20000 := this
          rw [hc'] at h2; simp at h2; omega
        have hcc2 : c.length ≤ (escL c).length := by rw [escL_length]; omega
        have hqc := quote_ok hcl
        rw [← hc'] at hqc
        have HQ := Lib.hid hqc
        rw [hr]
        clear hk hc hr hc' hqc
        rintro e w6 ⟨rfl, hb6⟩
        go_wp2_with fail
        refine (Quote_calls c w6 (by omega)).mono ?_
        rw [HQ.out]
        rintro e w7 ⟨rfl, hb7⟩
        have hb67 := bel_then hb6 hb7
        have u1 : w7.cell? ⟨m, 1, none⟩ = some (.string (S b)) := by rw [hb67.cell (p := ⟨m, 1, none⟩) hmy]; exact z1
        have u2 : (b == b) = true := by simp
        go_wp2_with fail
        refine (alive_calls _).mono ?_
        rintro e w8 ⟨rfl, hb8⟩
        go_wp2
        go_ret
        exact ⟨rfl, bel_then (bel_then hby hb67) hb8⟩
      · rw [unquote_no (t := ⟨kd, b⟩) (by
          by_cases h6 : kd = 6
          · right; cases hi : isTokB ⟨kd, b⟩ with
            | false => rfl
            | true => exact absurd ⟨h6, hi⟩ hk
          · exact .inl h6)]
        clear hk
        rintro e w6 ⟨rfl, hb6⟩
        go_wp2_with fail
        refine (alive_calls _).mono ?_
        rintro e w8 ⟨rfl, hb8⟩
        go_wp2
        go_ret
        exact ⟨rfl, bel_then (bel_then hby hb6) hb8⟩

end Go.Proofs.YtepgjaecfoaenaaGreatDoor
