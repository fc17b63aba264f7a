/- The law TokenNeighbours. -/
import Derived.Test.YtepgjaecfoaenaaGreatDoorS2
import Derived.Test.YtepgjaecfoaenaaGreatDoorA
namespace Go.Proofs.YtepgjaecfoaenaaGreatDoor
open Go.RowKit
set_option linter.unusedVariables false
set_option linter.unusedSimpArgs false

theorem tok_get {ts : List Tok} {k : Nat} (h : k < ts.length) : ts[k]? = some (tokAt ts k) := by simp [tokAt, List.getElem?_eq_getElem h]
theorem text_le {ts : List Tok} {t : Tok} (h : t ∈ ts) : t.text.length ≤ (textOf ts).length := by
  induction ts with
  | nil => cases h
  | cons a ts ih =>
    rw [textOf_cons, List.length_append]
    rcases List.mem_cons.1 h with rfl | h
    · omega
    · have := ih h; omega
theorem law_len {l : List UInt8} {k : Nat} (hk : k < (lex l).length) : (tokAt (lex l) k).text.length ≤ l.length := by
  have := text_le (List.mem_of_getElem? (tok_get hk))
  rwa [lex_text _ l (Nat.le_refl _)] at this
theorem law_10 {l : List UInt8} {k n : Nat} (hk : k < (lex l).length) (h1 : (tokAt (lex l) k).kind ≠ 1) (hn : n < (tokAt (lex l) k).text.length) : at_ (tokAt (lex l) k).text n ≠ 10 := by
  have h := lex_10 _ l (Nat.le_refl _) (tokAt (lex l) k) (List.mem_of_getElem? (tok_get hk)) h1
  intro e
  apply h
  rw [← e, at_, List.getD_eq_getElem?_getD, List.getElem?_eq_getElem hn]
  exact List.getElem_mem _
theorem law_pair {l : List UInt8} {k : Nat} (hk : k + 1 < (lex l).length) : pairB (tokAt (lex l) k) (tokAt (lex l) (k + 1)) = true :=
  lex_pair _ l (Nat.le_refl _) k _ _ (tok_get (by omega)) (tok_get hk)

set_option maxRecDepth 100000 in
set_option maxHeartbeats 4000000 in
theorem Neighbours_calls (l : List UInt8) (w : World) (hs : l.length ≤ 9223372036854775000) :
    Calls Tryz.prog 6 #[.string (S l)] w fun e w' => e = .returned (.bool true) ∧ Below w.heap.size w w' := by
  by_cases hlong : 20000 < (l.take 20001).length
  · go_enter Tryz.func6, Tryz.ntmps6
    go_wp2_with fail
    refine (Short_calls l w (by omega)).mono ?_
    rintro e w1 ⟨rfl, hb1⟩
    go_wp2_with fail
    refine (Lex_long (l.take 20001) w1 hlong (by simp; omega)).mono ?_
    rintro e w2 ⟨v, rfl, hown, hb2⟩
    clear hown
    go_wp2_with fail
    refine (alive_calls _).mono ?_
    rintro e w3 ⟨rfl, hb3⟩
    go_wp2
    go_ret
    exact ⟨rfl, bel_then (bel_then hb1 hb2) hb3⟩
  · go_enter Tryz.func6, Tryz.ntmps6
    go_wp2_with fail
    refine (Short_calls l w (by omega)).mono ?_
    rintro e w1 ⟨rfl, hb1⟩
    go_wp2_with fail
    refine (Lex_calls (l.take 20001) w1 (by omega)).mono ?_
    rintro e w2 ⟨v, rfl, hown, hb2⟩
    have hbl := bel_then hb1 hb2
    clear hb1 hb2
    obtain ⟨s, hS⟩ : ∃ s, s = l.take 20001 := ⟨_, rfl⟩
    rw [← hS] at hown hlong
    clear hS
    have hlen := lex_length s
    have hread := hown.read (by omega)
    clear hown
    obtain ⟨A, c, rfl, hl0, hc0⟩ := hread
    obtain ⟨ts, hts⟩ : ∃ ts, ts = lex s := ⟨_, rfl⟩
    have L1 := Lib.hid (fun (k n : Nat) (hk : k < ts.length) (h1 : (tokAt ts k).kind ≠ 1) (hn : n < (tokAt ts k).text.length) => show at_ (tokAt ts k).text n ≠ 10 by rw [hts] at hk h1 hn ⊢; exact law_10 hk h1 hn)
    have L3 := Lib.hid (fun (k : Nat) (hk : k < ts.length) => show (tokAt ts k).text.length ≤ s.length by rw [hts] at hk ⊢; exact law_len hk)
    have L2 := Lib.hid (fun (k : Nat) (hk : k + 1 < ts.length) => show pairB (tokAt ts k) (tokAt ts (k + 1)) = true by rw [hts] at hk ⊢; exact law_pair hk)
    rw [← hts] at hlen hl0 hc0 ⊢
    clear hts
    have HC := Lib.hid hc0; clear hc0
    go_wp2_with fail
    obtain ⟨wo, rfl⟩ : ∃ wo : World, wo = w2 := ⟨_, rfl⟩
    go_loopw [6] (fun i wr => ∃ k : Nat, k ≤ ts.length ∧ i = .int .i64 k ∧ Below wo.heap.size wo wr) (fun i _ => ts.length - (intOf i).toNat)
    case atStart => exact ⟨0, by omega, rfl, Below.refl _ _⟩
    case round =>
      obtain ⟨k, hk, rfl, hb⟩ := hrel
      by_cases hlt : k < ts.length
      · obtain ⟨b, off, rfl, hb0, hcc⟩ := HC.out (by omega)
        obtain ⟨g1, g2⟩ := hcc k hlt
        have E1 := Lib.hid (show wr.cell? ⟨b, off + k * 2, none⟩ = some (.int .i64 (tokAt ts k).kind) by rw [hb.cell (p := ⟨b, _, none⟩) hb0]; exact g1)
        have E2 := Lib.hid (show wr.cell? ⟨b, off + k * 2 + 1, none⟩ = some (.string (S (tokAt ts k).text)) by rw [hb.cell (p := ⟨b, _, none⟩) hb0]; exact g2)
        have E3 := Lib.hid (fun (j : Nat) (hj : j < ts.length) => show wr.cell? ⟨b, off + j * 2, none⟩ = some (.int .i64 (tokAt ts j).kind) by rw [hb.cell (p := ⟨b, _, none⟩) hb0]; exact (hcc j hj).1)
        have hsz := hb.size
        clear g1 g2 hcc
        obtain ⟨wm, rfl⟩ : ∃ wm : World, wm = wr := ⟨_, rfl⟩
        have e1 := E1.out
        go_wp2_with fail
        clear e1
        go_loopw [8] (fun i wr => ∃ n : Nat, n ≤ (tokAt ts k).text.length ∧ i = .int .i64 n ∧ Below wm.heap.size wm wr) (fun i _ => (tokAt ts k).text.length - (intOf i).toNat)
        case atStart => exact ⟨0, by omega, rfl, Below.refl _ _⟩
        case round =>
          obtain ⟨n, hn, rfl, hbi⟩ := hrel
          have hbm : b < wm.heap.size := by omega
          have htl := L3.out k hlt
          have e1 : wr.cell? ⟨b, off + k * 2, none⟩ = some (.int .i64 (tokAt ts k).kind) := by rw [hbi.cell (p := ⟨b, _, none⟩) hbm]; exact E1.out
          have e2 : wr.cell? ⟨b, off + k * 2 + 1, none⟩ = some (.string (S (tokAt ts k).text)) := by rw [hbi.cell (p := ⟨b, _, none⟩) hbm]; exact E2.out
          by_cases hgo : n < (tokAt ts k).text.length ∧ (tokAt ts k).kind ≠ 1
          · obtain ⟨hnt, h1⟩ := hgo
            have h1b : ((tokAt ts k).kind != 1) = true := by simp [h1]
            have hno := L1.out k n hlt h1 hnt
            have hnob : (((at_ (tokAt ts k).text n).toNat : Int) == 10) = false := by
              rw [beq_eq_false_iff_ne]; intro e; apply hno; exact UInt8.toNat_inj.1 (by have e10 : (10 : UInt8).toNat = 10 := rfl; omega)
            have hnt2 : (n : Int) < ((tokAt ts k).text.length : Int) := by omega
            clear hno h1
            go_wp2_with fail
            refine ⟨⟨n + 1, by omega, by go_num, hbi⟩, by simp [intOf]; omega⟩
          · have hst : (decide (n < (tokAt ts k).text.length) && ((tokAt ts k).kind != 1)) = false := by
              by_cases ha : n < (tokAt ts k).text.length
              · have hb1 : (tokAt ts k).kind = 1 := Decidable.byContradiction fun e => hgo ⟨ha, e⟩
                simp [hb1]
              · simp [ha]
            have hbe := bel_then hb hbi
            cases k with
            | zero =>
              by_cases hnt : n < (tokAt ts 0).text.length
              · have h1b : ((tokAt ts 0).kind != 1) = false := by simpa [hnt] using hst
                have hnt2 : decide ((n : Int) < ((tokAt ts 0).text.length : Int)) = true := by simp; omega
                clear hst hgo hnt
                go_wp2_with fail
                all_goals exact ⟨⟨1, by omega, rfl, hbe⟩, by simp [intOf]; omega⟩
              · clear hst hgo
                go_wp2_with fail
                all_goals exact ⟨⟨1, by omega, rfl, hbe⟩, by simp [intOf]; omega⟩
            | succ j =>
              have hp := L2.out j hlt
              have e3 : wr.cell? ⟨b, off + j * 2, none⟩ = some (.int .i64 (tokAt ts j).kind) := by rw [hbi.cell (p := ⟨b, _, none⟩) hbm]; exact E3.out j (by omega)
              have j0 : (0 : Int) ≤ (j : Int) := by omega
              have j1 : (j : Int) < (ts.length : Int) := by omega
              have j3 : (((j : Int) + 1) == 0) = false := by simp; omega
              have HP := Lib.hid hp; clear hp
              by_cases hnt : n < (tokAt ts (j + 1)).text.length
              · have h1b : ((tokAt ts (j + 1)).kind != 1) = false := by simpa [hnt] using hst
                have hnt2 : decide ((n : Int) < ((tokAt ts (j + 1)).text.length : Int)) = true := by simp; omega
                clear hst hgo hnt
                go_wp2_with fail
                all_goals first
                  | exact ⟨⟨j + 2, by omega, rfl, hbe⟩, by simp [intOf]; omega⟩
                  | (exfalso; have hq := HP.out; simp_all [pairB])
              · clear hst hgo
                go_wp2_with fail
                all_goals first
                  | exact ⟨⟨j + 2, by omega, rfl, hbe⟩, by simp [intOf]; omega⟩
                  | (exfalso; have hq := HP.out; simp_all [pairB])
      · have hbb := bel_then hbl hb
        go_wp2_with fail
        refine (alive_calls _).mono ?_
        rintro e w3 ⟨rfl, hb3⟩
        go_wp2
        go_ret
        exact ⟨rfl, bel_then hbb hb3⟩

end Go.Proofs.YtepgjaecfoaenaaGreatDoor
