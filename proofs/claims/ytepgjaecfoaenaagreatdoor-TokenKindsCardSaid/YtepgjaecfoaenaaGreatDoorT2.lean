/- The law TokenWhole. -/
import Derived.Test.YtepgjaecfoaenaaGreatDoorT1
import Derived.Test.YtepgjaecfoaenaaGreatDoorPB
import Derived.Test.YtepgjaecfoaenaaGreatDoorS3
import Derived.Deep.RegionHeld3
import Derived.Lib.QuietBelow
namespace Go.Proofs.YtepgjaecfoaenaaGreatDoor
open Go.RowKit
set_option linter.unusedVariables false
set_option linter.unusedSimpArgs false

theorem law_tok {l : List UInt8} {k : Nat} (hl : l.length ≤ 20000) (hk : k < (lex l).length) : isTokB (tokAt (lex l) k) = true :=
  lex_isTok _ l (Nat.le_refl _) hl _ (List.mem_of_getElem? (tok_get hk))
theorem law_pos {l : List UInt8} {k : Nat} (hk : k < (lex l).length) : 0 < (tokAt (lex l) k).text.length :=
  lex_pos _ l (Nat.le_refl _) _ (List.mem_of_getElem? (tok_get hk))
theorem law_apart {l : List UInt8} {k : Nat} (hl : l.length ≤ 20000) (hk : k + 1 < (lex l).length) : apartB (tokAt (lex l) k) (tokAt (lex l) (k + 1)) = true :=
  lex_apart _ l (Nat.le_refl _) hl k _ _ (tok_get (by omega)) (tok_get hk)

/-- The tokens' cells, as a loop's round reads them. -/
structure TokIn (w : World) (b off : Nat) (t : Tok) (k : Nat) : Prop where
  lt : b < w.heap.size
  kind : w.cell? ⟨b, off + k * 2, none⟩ = some (.int .i64 t.kind)
  text : w.cell? ⟨b, off + k * 2 + 1, none⟩ = some (.string (S t.text))
theorem TokIn.below {w W : World} {b off k : Nat} {t : Tok} (h : TokIn w b off t k) {n : Nat} (hn : n = w.heap.size) (hb : Below n w W) : TokIn W b off t k := by
  subst hn
  have := hb.size
  have := h.lt
  exact ⟨by omega, by rw [hb.cell (p := ⟨b, _, none⟩) h.lt]; exact h.kind, by rw [hb.cell (p := ⟨b, _, none⟩) h.lt]; exact h.text⟩

set_option maxRecDepth 100000 in
set_option maxHeartbeats 4000000 in
theorem Whole_calls (l : List UInt8) (w : World) (hs : l.length ≤ 9223372036854775000) :
    Calls Tryz.prog 7 #[.string (S l)] w fun e w' => e = .returned (.bool true) ∧ Below w.heap.size w w' := by
  by_cases hlong : 20000 < (l.take 20001).length
  · go_enter Tryz.func7, Tryz.ntmps7
    go_wp2_with fail
    refine (Short_calls l w (by omega)).mono ?_
    rintro e w1 ⟨rfl, hb1⟩
    go_wp2_with fail
    refine (Lex_long (l.take 20001) w1 hlong (by simp; omega)).mono ?_
    rintro e w2 ⟨v, rfl, hown, hb2⟩
    clear hown
    have hlb : decide (((l.take 20001).length : Int) > 20000) = true := by simp only [decide_eq_true_eq]; omega
    clear hlong
    obtain ⟨s, hS⟩ : ∃ s, s = l.take 20001 := ⟨_, rfl⟩
    rw [← hS] at hlb ⊢
    clear hS
    go_wp2_with fail
    refine (alive_calls _).mono ?_
    rintro e w3 ⟨rfl, hb3⟩
    go_wp2
    go_ret
    exact ⟨rfl, bel_then (bel_then hb1 hb2) hb3⟩
  · go_enter Tryz.func7, Tryz.ntmps7
    go_wp2_with fail
    refine (Short_calls l w (by omega)).mono ?_
    rintro e w1 ⟨rfl, hb1⟩
    go_wp2_with fail
    refine (Lex_calls (l.take 20001) w1 (by omega)).mono ?_
    rintro e w2 ⟨v, rfl, hown, hb2⟩
    have hbl := bel_then hb1 hb2
    clear hb1 hb2
    obtain ⟨s, hS⟩ : ∃ s, s = l.take 20001 := ⟨_, rfl⟩
    rw [← hS] at hown hlong ⊢
    clear hS
    have hlen := lex_length s
    have hread := hown.read (by omega)
    clear hown
    have HR := Lib.hid hread
    have hl2 : s.length ≤ 20000 := by omega
    clear hlong
    obtain ⟨A, c, rfl, hl0, hc0⟩ := hread
    clear hc0
    go_wp2_with fail
    refine (Text_calls _ (lex s) w2 HR.out).mono ?_
    rw [textErr_lex s hl2, textRes_lex s hl2]
    rintro e w3 ⟨rfl, hb3⟩
    have hbl3 := bel_then hbl hb3
    go_wp2_with fail
    refine (Lex_calls s w3 hl2).mono ?_
    rintro e w4 ⟨v2, rfl, hown2, hb4⟩
    have hbl4 := bel_then hbl3 hb4
    have HR2 := Lib.hid ((HR.out.below hb3).below hb4)
    have HR3 := Lib.hid (hown2.read (by omega))
    clear hown2 HR hb3 hb4 hbl hbl3
    go_wp2_with fail
    refine (Same_calls v2 _ (lex s) (lex s) w4 HR3.out HR2.out).mono ?_
    rw [show decide (lex s = lex s) = true from decide_eq_true rfl]
    rintro e w5 ⟨rfl, hb5⟩
    have hbl := bel_then hbl4 hb5
    have hread := HR2.out.below hb5
    clear HR2 HR3 hbl4 hb5
    obtain ⟨A', c', heq, _, hc0⟩ := hread
    obtain ⟨rfl, -, rfl⟩ : A = A' ∧ True ∧ c = c' := by cases heq; exact ⟨rfl, trivial, rfl⟩
    clear heq
    obtain ⟨ts, hts⟩ : ∃ ts, ts = lex s := ⟨_, rfl⟩
    have L1 := Lib.hid (fun (k : Nat) (hk : k < ts.length) => show isTokB (tokAt ts k) = true by rw [hts] at hk ⊢; exact law_tok hl2 hk)
    have L2 := Lib.hid (fun (k : Nat) (hk : k + 1 < ts.length) => show apartB (tokAt ts k) (tokAt ts (k + 1)) = true by rw [hts] at hk ⊢; exact law_apart hl2 hk)
    have L3 := Lib.hid (fun (k : Nat) (hk : k < ts.length) => show ((tokAt ts k).text == ([] : List UInt8)) = false by
      rw [hts] at hk ⊢; have := law_pos hk; cases hx : (tokAt (lex s) k).text <;> simp [hx] at this ⊢)
    rw [← hts] at hlen hl0 hc0 ⊢
    clear hts
    have HC := Lib.hid hc0; clear hc0
    go_wp2_with fail
    obtain ⟨wo, rfl⟩ : ∃ wo : World, wo = w5 := ⟨_, rfl⟩
    go_loopw [10] (fun i wr => ∃ k : Nat, k ≤ ts.length ∧ i = .int .i64 k ∧ Below wo.heap.size wo wr) (fun i _ => ts.length - (intOf i).toNat)
    case atStart => exact ⟨0, by omega, rfl, Below.refl _ _⟩
    case round =>
      obtain ⟨k, hk, rfl, hb⟩ := hrel
      by_cases hgo : k < ts.length ∧ k < 200
      · obtain ⟨hlt, h200⟩ := hgo
        obtain ⟨b, off, rfl, hb0, hcc⟩ := HC.out (by omega)
        have hsz := hb.size
        have T1 : TokIn wr b off (tokAt ts k) k := TokIn.below (w := wo) ⟨hb0, (hcc k hlt).1, (hcc k hlt).2⟩ rfl hb
        have e1 := T1.kind
        have e2 := T1.text
        have e3 := L3.out k hlt
        have k1 : (k : Int) < (ts.length : Int) := by omega
        have HB := Lib.hid (hcc k hlt)
        cases k with
        | zero =>
          have K : ∀ W : World, Below wo.heap.size wo W → W.cell? ⟨b, off, none⟩ = some (.int .i64 (tokAt ts 0).kind) ∧ W.cell? ⟨b, off + 1, none⟩ = some (.string (S (tokAt ts 0).text)) :=
            fun W hW => ⟨by rw [hW.cell (p := ⟨b, _, none⟩) hb0]; simpa using HB.out.1, by rw [hW.cell (p := ⟨b, _, none⟩) hb0]; simpa using HB.out.2⟩
          have KH := Lib.hid K
          clear K hcc T1
          have v0 : ((0 : Nat) : Int).toNat = 0 := rfl
          have z0 : decide ((0 : Int) > 0) = false := rfl
          have z1 : (0 : Int) < (ts.length : Int) := by omega
          have z2 : (0 : Int) ≤ 0 := Int.le_refl 0
          rw [Int.natCast_zero]
          go_wp2_with fail
          have r1 := cell_regrown (KH.out _ hb).1
          have r2 := cell_regrown (KH.out _ hb).2
          have cT : ∀ d os, Calls Tryz.prog 22 #[.agg #[.int .i64 (tokAt ts 0).kind, .string (S (tokAt ts 0).text)]] (Sort.grow (redrawn wr d) os) fun e w'' => e = .returned (.bool true) ∧ ∃ p : Regrown, w'' = Sort.grow (redrawn wr p.d) p.os :=
            fun d os => Calls.regrown_of (by have := IsToken_calls (tokAt ts 0) (Sort.grow (redrawn wr d) os); rw [L1.out 0 hlt] at this; exact this)
          refine wp_region_quiet_below (by first | assumption | kernel_rfl) (by kernel_rfl) ?_
          repeat (go_big_quiet_step (first | (go_at_call 22; exact cT _ _)))
          refine wpQuiet_nil ?_
          intro _ hw'
          obtain ⟨⟨dq, osq⟩, hw''⟩ := hw'
          subst hw''
          have hbe := bel_then hb (below_regrown wr dq osq)
          go_wp2_with fail
          exact ⟨⟨1, by omega, rfl, hbe⟩, by first | (simp [intOf]; done) | (simp [intOf]; omega)⟩
        | succ j =>
          have HB0 := Lib.hid (hcc j (by omega))
          have K : ∀ W : World, Below wo.heap.size wo W → W.cell? ⟨b, off + (j + 1) * 2, none⟩ = some (.int .i64 (tokAt ts (j + 1)).kind) ∧ W.cell? ⟨b, off + (j + 1) * 2 + 1, none⟩ = some (.string (S (tokAt ts (j + 1)).text)) ∧ W.cell? ⟨b, off + j * 2, none⟩ = some (.int .i64 (tokAt ts j).kind) ∧ W.cell? ⟨b, off + j * 2 + 1, none⟩ = some (.string (S (tokAt ts j).text)) :=
            fun W hW => ⟨by rw [hW.cell (p := ⟨b, _, none⟩) hb0]; exact HB.out.1, by rw [hW.cell (p := ⟨b, _, none⟩) hb0]; exact HB.out.2, by rw [hW.cell (p := ⟨b, _, none⟩) hb0]; exact HB0.out.1, by rw [hW.cell (p := ⟨b, _, none⟩) hb0]; exact HB0.out.2⟩
          have KH := Lib.hid K
          clear K hcc T1 e1 e2
          have j0 : (0 : Int) ≤ (j : Int) := by omega
          have j1 : (j : Int) < (ts.length : Int) := by omega
          have j3 : decide (((j : Int) + 1) > 0) = true := decide_eq_true (by omega)
          have j5 : (0 : Int) ≤ (j : Int) + 1 := by omega
          have j6 : (j : Int) + 1 < (ts.length : Int) := by omega
          have j7 : ((j : Int) + 1).toNat = j + 1 := by omega
          have j8 : IntKind.i64.wrap (j : Int) = (j : Int) := wrapI _ (by omega)
          have j4 : IntKind.i64.wrap ((j : Int) + 1 - 1) = (j : Int) := by rw [wrapI _ (by omega)]; omega
          go_wp2_with fail
          go_region_held3 (fun W => W.cell? ⟨b, off + (j + 1) * 2, none⟩ = some (.int .i64 (tokAt ts (j + 1)).kind) ∧ W.cell? ⟨b, off + (j + 1) * 2 + 1, none⟩ = some (.string (S (tokAt ts (j + 1)).text)) ∧ W.cell? ⟨b, off + j * 2, none⟩ = some (.int .i64 (tokAt ts j).kind) ∧ W.cell? ⟨b, off + j * 2 + 1, none⟩ = some (.string (S (tokAt ts j).text)))
            (first | exact KH.out _ hbe7 | exact KH.out _ hbe | exact KH.out _ (bel_drew hb))
            (first
              | (go_at_call 22; refine (IsToken_calls (tokAt ts (j + 1)) _).mono ?_; rw [L1.out (j + 1) hlt]; rintro e w6 ⟨rfl, hb6⟩; have hbe := bel_then (bel_drew hb) hb6)
              | (go_at_call 26; refine (Apart_calls (tokAt ts j) (tokAt ts (j + 1)) _).mono ?_; rw [L2.out j hlt]; rintro e w7 ⟨rfl, hb7⟩; have hbe7 := bel_then hbe hb7))
          all_goals go_wp2_with fail
          all_goals exact ⟨⟨j + 2, by omega, rfl, hbe7⟩, by simp [intOf]; omega⟩
      · have hbb := bel_then hbl hb
        have hst : (decide ((k : Int) < (ts.length : Int)) && decide ((k : Int) < 200)) = false := by
          simp only [Bool.and_eq_false_iff, decide_eq_false_iff_not]; omega
        by_cases hlt : k < ts.length
        · have h2 : ¬ (k : Int) < 200 := by omega
          clear hgo hst
          go_wp2_with fail
          refine (alive_calls _).mono ?_
          rintro e w3 ⟨rfl, hb3⟩
          go_wp2
          go_ret
          exact ⟨rfl, bel_then hbb hb3⟩
        · clear hgo hst
          go_wp2_with fail
          refine (alive_calls _).mono ?_
          rintro e w3 ⟨rfl, hb3⟩
          go_wp2
          go_ret
          exact ⟨rfl, bel_then hbb hb3⟩

end Go.Proofs.YtepgjaecfoaenaaGreatDoor
