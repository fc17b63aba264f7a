/- The walk of genericReplacer's WriteString and Replace at the pairs of Unquote. Condition: at most 20000 bytes. -/
import Derived.Test.YtepgjaecfoaenaaGreatDoorRL
import Derived.Deep.RegionWith
namespace Go.Proofs.YtepgjaecfoaenaaGreatDoor
open Go.RowKit
set_option linter.unusedVariables false
set_option linter.unusedSimpArgs false

/-- A step of one byte. -/
theorem step_one (l : List UInt8) (i last : Nat) (A : List UInt8) (hi : i < l.length) (hl : last ≤ i) (hn : (lookV (l.drop i)).2.2 = false) (h : A ++ (l.take i).drop last ++ unq (l.drop i) = unq l) :
    A ++ (l.take (i + 1)).drop last ++ unq (l.drop (i + 1)) = unq l := by
  rw [← h, drop_at l i hi]
  rw [drop_at l i hi] at hn
  rw [unq_cons _ _ hn, take_byte l i hi, List.drop_append_of_le_length (by simp; omega)]
  simp
/-- A step of a pair. -/
theorem step_two (l : List UInt8) (i last : Nat) (A : List UInt8) (hn : (lookV (l.drop i)).2.2 = true) (h : A ++ (l.take i).drop last ++ unq (l.drop i) = unq l) :
    A ++ (l.take i).drop last ++ (lookV (l.drop i)).1 ++ (l.take (i + 2)).drop (i + 2) ++ unq (l.drop (i + 2)) = unq l := by
  obtain ⟨h1, h2, h3, h4, h5⟩ := unq_pair _ hn
  have e : (l.take (i + 2)).drop (i + 2) = [] := List.drop_eq_nil_of_le (by rw [List.length_take]; omega)
  rw [← h, h1, List.drop_drop, e]
  simp

theorem BufW.below {B K : Nat} {A : List UInt8} {w w' : World} (h : BufW B K A w) (hb : Below w.heap.size w w') : BufW B K A w' := by
  obtain ⟨v, h1, h2, h3, h4⟩ := h
  exact ⟨v, by rw [hb.block K (Array.getElem?_eq_some_iff.1 h1).1]; exact h1, h2, own_below h3 hb, h4⟩

set_option maxRecDepth 100000 in
set_option maxHeartbeats 40000000 in
theorem gen_WriteString (B R K : Nat) (l : List UInt8) (w0 w : World) (hS : GS B R w0) (hw : Below w0.heap.size w0 w) (hbuf : BufW w0.heap.size K [] w) (hl : l.length ≤ 20000) :
    Calls Tryz.prog 167 #[.pointer (some ⟨R, 0, none⟩), .iface 197 (.pointer (some ⟨K, 0, none⟩)), .string (S l)] w
      fun e w' => (∃ x : Int, e = .returned (.tuple #[.int .i64 x, .nilIface])) ∧ BufW w0.heap.size K (unq l) w' ∧ Below w0.heap.size w0 w' := by
  have HS := Lib.hid hS
  obtain ⟨hB, T, m, t, a, b, n, h1, h2, h3, h4, h5, h6, hR, hT, hM, hS', hA, hBn, hN⟩ := hS
  have hRl := World.rowIs.lt hR
  have hTl := World.rowIs.lt hT
  have R1 := Lib.hid (show w0.cell? ⟨R, 1, none⟩ = some (.int .i64 0) from World.rowIs.cell hR (by decide))
  have R4 := Lib.hid (show w0.cell? ⟨R, 4, none⟩ = some (.slice (some ⟨T, 0, none⟩) 3 3) from World.rowIs.cell hR (by decide))
  have R5 := Lib.hid (show w0.cell? ⟨R, 5, none⟩ = some (.int .i64 3) from World.rowIs.cell hR (by decide))
  have RM := Lib.hid (fun c => hR.cellAt c)
  have T0 := Lib.hid (show w0.cell? ⟨T, 0, none⟩ = some (.pointer none) from World.rowIs.cell hT (by decide))
  have T1 := Lib.hid (show w0.cell? ⟨T, 1, none⟩ = some (.pointer (some ⟨m, 0, none⟩)) from World.rowIs.cell hT (by decide))
  have T2 := Lib.hid (show w0.cell? ⟨T, 2, none⟩ = some (.pointer none) from World.rowIs.cell hT (by decide))
  clear hR hT hM hS' hA hBn hN
  go_enter Tryz.func167, Tryz.ntmps167
  go_wp2_with (go_at_call 168; refine (getStringWriter_calls _ _).mono ?_; rintro e wa ⟨rfl, hba⟩)
  obtain ⟨wo, rfl⟩ : ∃ wo : World, wo = wa := ⟨_, rfl⟩
  go_loopw [6, 7, 9, 10, 11, 12] (fun n err last wn pme i wr => ∃ (k j : Nat) (x y : Int) (A : List UInt8), k ≤ l.length + 1 ∧ j ≤ k ∧ j ≤ l.length ∧ n = .int .i64 x ∧ err = .nilIface ∧ last = .int .i64 j ∧ wn = .int .i64 y ∧ pme = .bool false ∧ i = .int .i64 k ∧
    Hid (A ++ (l.take k).drop j ++ unq (l.drop k) = unq l) ∧ A.length ≤ 20000 ∧ BufW w0.heap.size K A wr ∧ Below w0.heap.size w0 wr) (fun _ _ _ _ _ i _ => l.length + 1 - (intOf i).toNat)
  case atStart =>
    have hb1 : Below w0.heap.size w0 wo := hw.trans (hba.mono hw.size)
    refine ⟨0, 0, 0, 0, [], by omega, by omega, by omega, rfl, rfl, rfl, rfl, rfl, rfl, Lib.hid (by simp), by simp, ?_, hb1⟩
    exact hbuf.below hba
  case round =>
    obtain ⟨k, j, x, y, A, hk, hjk, hjl, rfl, rfl, rfl, rfl, rfl, rfl, hinv, hA, hbf, hb⟩ := hrel
    by_cases hgt : k = l.length + 1
    · subst hgt
      have hout : A ++ l.drop j = unq l := by
        rw [← hinv.out, List.drop_eq_nil_of_le (show l.length ≤ l.length + 1 by omega), List.take_of_length_le (show l.length ≤ l.length + 1 by omega)]
        simp [unq]
      by_cases hj : j = l.length
      · have hjb : ((j : Int) != (l.length : Int)) = false := by simp; omega
        have hA2 : A = unq l := by rw [← hout, List.drop_eq_nil_of_le (by omega)]; simp
        subst hA2
        clear hout hinv
        go_wp2
        go_ret2
        exact ⟨⟨_, rfl⟩, hbf, hb⟩
      · have hjb : ((j : Int) != (l.length : Int)) = true := by simp; omega
        have hjl2 : (j : Int) ≤ (l.length : Int) := by omega
        have HO := Lib.hid hout; clear hout hinv
        have hm := fun (W : World) (d : Nat) => method_asw ⟨K, 0, none⟩ W d
        have hna := fun (W : World) (d : Nat) => nilAhead_asw ⟨K, 0, none⟩ W d
        have hbf' : BufW w0.heap.size K A wr.drew := hbf
        have hsz1 : w0.heap.size ≤ wr.drew.heap.size := hb.size
        have hd0 : (wr.drew).heap.size = wr.heap.size := rfl
        go_wp2_with fail
        go_region_with (go_at_call 186; refine (asw_WriteString w0.heap.size K A _ _ hbf' (by simp; omega) hsz1).mono ?_; rintro e w2 ⟨rfl, hbf2, hb2⟩)
        have hbw2 : Below w0.heap.size w0 w2 := hb.drew.trans hb2
        rw [HO.out] at hbf2
        go_wp2
        go_ret2
        exact ⟨⟨_, rfl⟩, hbf2, hbw2⟩
    · by_cases hend : k = l.length
      · have hne : ((k : Int) != (l.length : Int)) = false := by simp; omega
        have hdn : l.drop k = [] := List.drop_eq_nil_of_le (by omega)
        have hf : (lookV (l.drop k)).2.2 = false := by rw [hdn]; rfl
        have HI : Hid (A ++ (l.take (k + 1)).drop j ++ unq (l.drop (k + 1)) = unq l) := Lib.hid (by
          rw [← hinv.out, hdn, List.drop_eq_nil_of_le (show l.length ≤ k + 1 by omega), List.take_of_length_le (show l.length ≤ k + 1 by omega), List.take_of_length_le (show l.length ≤ k by omega)])
        have hk0 : (0 : Int) ≤ (k : Int) := by omega
        have hkl : (k : Int) ≤ (l.length : Int) := by omega
        clear hdn hend hgt
        go_wp2_with fail
        refine (lookup_calls B R (l.drop k) _ (HS.out.below hb) (by simp; omega)).mono ?_
        rintro e w1 ⟨rfl, hb1⟩
        have hbw : Below w0.heap.size w0 w1 := hb.trans (hb1.mono hb.size)
        have hbf1 : BufW w0.heap.size K A w1 := hbf.below hb1
        go_wp2_with fail
        refine ⟨⟨k + 1, j, x, y, A, by omega, by omega, hjl, rfl, rfl, rfl, rfl, rfl, rfl, HI, hA, hbf1, hbw⟩, by simp [intOf]; omega⟩
      · have hlt : k < l.length := by omega
        have r1 : wr.cell? ⟨R, 1, none⟩ = some (.int .i64 0) := by rw [hb.cell (p := ⟨R, 1, none⟩) hRl]; exact R1.out
        have r4 : wr.cell? ⟨R, 4, none⟩ = some (.slice (some ⟨T, 0, none⟩) 3 3) := by rw [hb.cell (p := ⟨R, 4, none⟩) hRl]; exact R4.out
        have r5 : wr.cell? ⟨R, 5, none⟩ = some (.int .i64 3) := by rw [hb.cell (p := ⟨R, 5, none⟩) hRl]; exact R5.out
        have rm : wr.cell? ⟨R, 6 + (at_ l k).toNat, none⟩ = some (.int .u8 (mapOf (at_ l k).toNat)) := by rw [hb.cell (p := ⟨R, 6 + (at_ l k).toNat, none⟩) hRl]; exact RM.out _
        have hk0 : (0 : Int) ≤ (k : Int) := by omega
        have hkl : (k : Int) < (l.length : Int) := by omega
        have hcb := (at_ l k).toNat_lt
        have hcb2 : ((at_ l k).toNat : Int) < 256 := by omega
        have hne : ((k : Int) != (l.length : Int)) = true := by simp; omega
        by_cases h92 : at_ l k = 92
        · have e : mapOf (at_ l k).toNat = 1 := by rw [h92]; rfl
          rw [e] at rm
          have t1 : wr.cell? ⟨T, 1, none⟩ = some (.pointer (some ⟨m, 0, none⟩)) := by rw [hb.cell (p := ⟨T, 1, none⟩) hTl]; exact T1.out
          have H92 := Lib.hid h92; clear h92 e
          go_wp2_with fail
          go_quiet (fail)
          go_wp2_with fail
          refine (lookup_calls B R (l.drop k) _ (HS.out.below (bel_drewN hb _)) (by simp; omega)).mono ?_
          rintro e w1 ⟨rfl, hb1⟩
          have hbw : Below w0.heap.size w0 w1 := (bel_drewN hb nq).trans (hb1.mono hb.size)
          have hbf1 : BufW w0.heap.size K A w1 := (hbf.below (bel_drewN0 wr nq)).below hb1
          cases hf : (lookV (l.drop k)).2.2 with
          | false =>
            have HI := Lib.hid (step_one l k j A hlt hjk hf hinv.out)
            clear r1 r4 r5 rm t1
            go_wp2_with fail
            refine ⟨⟨k + 1, j, x, y, A, by omega, by omega, hjl, rfl, rfl, rfl, rfl, rfl, rfl, HI, hA, hbf1, hbw⟩, by simp [intOf]; omega⟩
          | true =>
            obtain ⟨q1, q2, q3, q4, q5⟩ := unq_pair _ hf
            have HI := Lib.hid (step_two l k j A hf hinv.out)
            have HQ := Lib.hid (And.intro q1 (And.intro q2 q4))
            have hjl2 : (j : Int) ≤ (l.length : Int) := by omega
            have hjk2 : (j : Int) ≤ (k : Int) := by omega
            have hkl2 : (k : Int) ≤ (l.length : Int) := by omega
            clear r1 r4 r5 rm t1 q1 q2 q4 q5
            have hm := fun (W : World) (d : Nat) => method_asw ⟨K, 0, none⟩ W d
            have hna := fun (W : World) (d : Nat) => nilAhead_asw ⟨K, 0, none⟩ W d
            have hbf1' : BufW w0.heap.size K A w1.drew := hbf1
            have hsz1 : w0.heap.size ≤ w1.drew.heap.size := hbw.size
            go_wp2_with fail
            go_region_with (go_at_call 186; refine (asw_WriteString w0.heap.size K A _ _ hbf1' (by simp; omega) hsz1).mono ?_; rintro e w2 ⟨rfl, hbf2, hb2⟩)
            have hbw2 : Below w0.heap.size w0 w2 := hbw.drew.trans hb2
            have HB2 := Lib.hid (And.intro hbf2 hbw2)
            clear hbf1 hbf1' hsz1 hbw hb2 hbf2 hbw2 hb1
            go_wp2_with fail
            obtain ⟨hbf2, hbw2⟩ := HB2.out
            refine (asw_WriteString w0.heap.size K _ _ _ hbf2 (by have := HQ.out.2.1; simp; omega) hbw2.size).mono ?_
            rintro e w3 ⟨rfl, hbf3, hb3⟩
            have hbw3 := hbw2.trans hb3
            have HB3 := Lib.hid (And.intro hbf3 hbw3)
            have hlen : (A ++ (l.take k).drop j ++ (lookV (l.drop k)).1).length ≤ 20000 := by
              have e1 := congrArg List.length HI.out
              have e2 := unq_length l
              simp only [List.length_append] at e1 ⊢
              omega
            have HL := Lib.hid hlen
            have hk2 : k + 2 ≤ l.length := by have := HQ.out.2.2; simp at this; omega
            clear hbf2 hbw2 HB2 hbf3 hbw3 hb3 hlen
            go_wp2_with fail
            refine ⟨⟨k + 2, k + 2, _, _, _, by omega, by omega, hk2, rfl, rfl, rfl, rfl, rfl, rfl, HI, HL.out, HB3.out.1, HB3.out.2⟩, by simp [intOf]; omega⟩
        · have hno : (lookV (l.drop k)).2.2 = false := by rw [drop_at l k hlt, lookV_out _ _ h92]
          have HI := Lib.hid (step_one l k j A hlt hjk hno hinv.out)
          clear hno
          by_cases h34 : at_ l k = 34
          · have e : mapOf (at_ l k).toNat = 0 := by rw [h34]; rfl
            rw [e] at rm
            have t0 : wr.cell? ⟨T, 0, none⟩ = some (.pointer none) := by rw [hb.cell (p := ⟨T, 0, none⟩) hTl]; exact T0.out
            clear h34 h92 e
            go_wp2_with fail
            go_quiet (fail)
            go_wp2_with fail
            refine ⟨⟨k + 1, j, x, y, A, by omega, by omega, hjl, rfl, rfl, rfl, rfl, rfl, rfl, HI, hA, hbf.below (bel_drewN0 wr _), bel_drewN hb _⟩, by simp [intOf]; omega⟩
          · by_cases h110 : at_ l k = 110
            · have e : mapOf (at_ l k).toNat = 2 := by rw [h110]; rfl
              rw [e] at rm
              have t2 : wr.cell? ⟨T, 2, none⟩ = some (.pointer none) := by rw [hb.cell (p := ⟨T, 2, none⟩) hTl]; exact T2.out
              clear h110 h34 h92 e
              go_wp2_with fail
              go_quiet (fail)
              go_wp2_with fail
              refine ⟨⟨k + 1, j, x, y, A, by omega, by omega, hjl, rfl, rfl, rfl, rfl, rfl, rfl, HI, hA, hbf.below (bel_drewN0 wr _), bel_drewN hb _⟩, by simp [intOf]; omega⟩
            · have e := mapOf_other _ h34 h92 h110
              rw [e] at rm
              clear h110 h34 h92 e
              go_wp2_with fail
              go_quiet (fail)
              go_wp2_with fail
              refine ⟨⟨k + 1, j, x, y, A, by omega, by omega, hjl, rfl, rfl, rfl, rfl, rfl, rfl, HI, hA, hbf.below (bel_drewN0 wr _), bel_drewN hb _⟩, by simp [intOf]; omega⟩

end Go.Proofs.YtepgjaecfoaenaaGreatDoor
