/- The walks of unify's Instance and its closures. Condition: the scheme's type reads. -/
import Derived.Test.YtplnfepdikbpfaaGreatDoorVL
namespace Go.Proofs.YtplnfepdikbpfaaGreatDoor
open Go.RowKit
set_option linter.unusedVariables false
set_option linter.unusedSimpArgs false
attribute [local go_sem ↓] Go.wp_at_zero Go.wp_at_succ

theorem six_cells6 {W : World} {r : Nat} {T : TypeId} {a b c d e f : Value} (h : W.heap[r]? = some (.cells #[a, b, c, d, e, f] T (0, 0))) : W.cell? ⟨r, 0, none⟩ = some a ∧ W.cell? ⟨r, 1, none⟩ = some b ∧ W.cell? ⟨r, 2, none⟩ = some c ∧ W.cell? ⟨r, 3, none⟩ = some d ∧ W.cell? ⟨r, 4, none⟩ = some e ∧ W.cell? ⟨r, 5, none⟩ = some f ∧ ∀ o, W.frozen? ⟨r, o, none⟩ = false := by
  refine ⟨?_, ?_, ?_, ?_, ?_, ?_, fun o => ?_⟩ <;> simp [World.cell?, World.frozen?, h]

/-- The closure that asks whether a variable is too great. -/
theorem inst1_calls (v n : Int) (q : Nat) (w : World) (h0 : w.cell? ⟨q, 0, none⟩ = some (.int .i64 n)) :
    Calls Tryz.prog 74 #[.int .i64 v, .pointer (some ⟨q, 0, none⟩)] w fun e w' => e = .returned (.bool (decide (v ≥ n))) ∧ w' = w := by
  go_enter Tryz.func74, Tryz.ntmps74
  go_wp2
  go_ret
  exact ⟨rfl, rfl⟩
/-- The closure that adds. -/
theorem inst2_calls (v n : Int) (q : Nat) (w : World) (h0 : w.cell? ⟨q, 0, none⟩ = some (.int .i64 n)) (h1 : 0 ≤ v) (h2 : v ≤ 1048576) (h3 : 0 ≤ n) (h4 : n ≤ 1048576) :
    Calls Tryz.prog 76 #[.int .i64 v, .pointer (some ⟨q, 0, none⟩)] w fun e w' => e = .returned (.int .i64 (v + n)) ∧ w' = w := by
  go_enter Tryz.func76, Tryz.ntmps76
  go_wp2
  go_ret
  exact ⟨by go_num, rfl⟩
theorem inst1_enters (args : Array Value) (w : World) : (callFunc 74 args).run Tryz.prog w = .ok (.enter 74 args) w := by go_simp
theorem inst2_enters (args : Array Value) (w : World) : (callFunc 76 args).run Tryz.prog w = .ok (.enter 76 args) w := by go_simp
theorem inst1_pred {q : Nat} {n : Int} {w : World} (h0 : w.cell? ⟨q, 0, none⟩ = some (.int .i64 n)) (l : List Int) : PredIs 74 #[.pointer (some ⟨q, 0, none⟩)] (fun v => decide (v ≥ n)) l w :=
  ⟨inst1_enters, fun v _ => inst1_calls v n q w h0⟩
def InF (first v : Int) : Prop := InV v ∧ v + first ≤ 1048576
theorem inst2_of {q : Nat} {n : Int} {w : World} (hq : q < w.heap.size) (h0 : w.cell? ⟨q, 0, none⟩ = some (.int .i64 n)) (h3 : 0 ≤ n) : OfIs' 76 #[.pointer (some ⟨q, 0, none⟩)] (· + n) (InF n) w.heap.size w :=
  ⟨inst2_enters, Nat.le_refl _, fun W hW v hv => (inst2_calls v n q W ((hW.cell (p := ⟨q, 0, none⟩) hq).trans h0) hv.1.1 hv.1.2 h3 (by have := hv.2; have := hv.1.1; omega)).mono fun e w' h => ⟨h.1, by rw [h.2]; exact Below.refl _ _⟩⟩

/-- What Instance's error is. -/
def instE (n : Int) (t : Ty) (first : Int) : Int :=
  if (formedB t && decide (0 ≤ n) && !((varsT t []).any fun v => decide (v ≥ n))) = false then 4
  else if first < 0 then 2
  else if ((varsT t []).any fun v => decide (first > 1048576 - v)) = true then 7 else 0
abbrev zeroV : Value := .agg #[.int .i64 0, .string ⟨#[]⟩, .string ⟨#[]⟩, .slice none 0 0, .int .i64 0]
def InstAns (w : World) (n : Int) (t : Ty) (first : Int) (e : Ending) (w' : World) : Prop :=
  Below w.heap.size w w' ∧ ((instE n t first = 0 ∧ ∃ A c, e = .returned (.tuple #[tyV (renT (· + first) t) (.slice A (renT (· + first) t).args.length c), .int .i64 0]) ∧ Ok1 (renT (· + first) t) ∧ RdL (fun b => w.heap.size ≤ b ∧ b < w'.heap.size) w' (.slice A (renT (· + first) t).args.length c) (renT (· + first) t).args) ∨
    (instE n t first ≠ 0 ∧ e = .returned (.tuple #[zeroV, .int .i64 (instE n t first)])))

set_option maxRecDepth 100000 in
set_option maxHeartbeats 8000000 in
theorem Instance_calls (n : Int) (t : Ty) (first : Int) (A : Option Addr) (c : Nat) (w : World) (h1 : Ok1 t) (hr : Rd w (.slice A t.args.length c) t.args) :
    Calls Tryz.prog 36 #[.agg #[.int .i64 n, .int .i64 t.kind, .string (S t.mod), .string (S t.name), .slice A t.args.length c, .int .i64 t.var], .int .i64 first] w (InstAns w n t first) := by
  obtain ⟨w3, hw3⟩ : ∃ w3, w3 = ((w.alloc (.cells #[.int .i64 n, .int .i64 t.kind, .string (S t.mod), .string (S t.name), .slice A t.args.length c, .int .i64 t.var] 57)).alloc (.cells #[.int .i64 first] 3)).alloc (.cells #[.int .i64 0, .string ⟨#[]⟩, .string ⟨#[]⟩, .slice none 0 0, .int .i64 0] 24) := ⟨_, rfl⟩
  obtain ⟨q2, hq2⟩ : ∃ q, q = w.heap.size := ⟨_, rfl⟩
  obtain ⟨q3, hq3⟩ : ∃ q, q = w.heap.size + 1 := ⟨_, rfl⟩
  obtain ⟨q4, hq4⟩ : ∃ q, q = w.heap.size + 1 + 1 := ⟨_, rfl⟩
  have B3 := Lib.hid (show Below w.heap.size w w3 by rw [hw3]; exact bel_alloc (bel_alloc (bel_alloc (Below.refl _ _) _) _) _)
  have blk2 := Lib.hid (show w3.heap[q2]? = some (.cells #[.int .i64 n, .int .i64 t.kind, .string (S t.mod), .string (S t.name), .slice A t.args.length c, .int .i64 t.var] 57 (0, 0)) by
    rw [hw3, hq2]; exact (((gb_alloc _ _ none).block w.heap.size (by simp; omega) (by simp)).trans ((gb_alloc _ _ none).block w.heap.size (by simp) (by simp))).trans (MapKept.heap_alloc w _).1)
  have blk3 := Lib.hid (show w3.heap[q3]? = some (.cells #[.int .i64 first] 3 (0, 0)) by
    have h := (MapKept.heap_alloc (w.alloc (.cells #[.int .i64 n, .int .i64 t.kind, .string (S t.mod), .string (S t.name), .slice A t.args.length c, .int .i64 t.var] 57)) (.cells #[.int .i64 first] 3)).1
    rw [World.size_alloc] at h
    rw [hw3, hq3]; exact ((gb_alloc _ _ none).block (w.heap.size + 1) (by simp) (by simp)).trans h)
  have blk4 := Lib.hid (show w3.heap[q4]? = some (.cells #[.int .i64 0, .string ⟨#[]⟩, .string ⟨#[]⟩, .slice none 0 0, .int .i64 0] 24 (0, 0)) by
    have h := (MapKept.heap_alloc ((w.alloc (.cells #[.int .i64 n, .int .i64 t.kind, .string (S t.mod), .string (S t.name), .slice A t.args.length c, .int .i64 t.var] 57)).alloc (.cells #[.int .i64 first] 3)) (.cells #[.int .i64 0, .string ⟨#[]⟩, .string ⟨#[]⟩, .slice none 0 0, .int .i64 0] 24)).1
    rw [World.size_alloc, World.size_alloc] at h
    rw [hw3, hq4]; exact h)
  have HQ := Lib.hid (show q2 = w.heap.size ∧ q3 = w.heap.size + 1 ∧ q4 = w.heap.size + 1 + 1 ∧ w3.heap.size = w.heap.size + 3 from ⟨hq2, hq3, hq4, by rw [hw3]; simp⟩)
  have hcall := IsFormed_calls t _ w3 (RdV.below ⟨h1, A, c, rfl, hr⟩ B3.out)
  unfold tyV at hcall
  have HR := Lib.hid hr; have H1 := Lib.hid h1
  obtain ⟨b0, b1, b2, b3, b4, b5, bf⟩ := six_cells6 blk2.out
  obtain ⟨z0, z1, z2, z3, z4, zf⟩ := five_cells blk4.out
  clear hr h1
  cases hf : formedB t with
  | false =>
    rw [hf] at hcall
    have HE := Lib.hid (show instE n t first = 4 by unfold instE; rw [hf]; simp)
    clear hf
    go_enter Tryz.func36, Tryz.ntmps36
    go_wp2_with fail
    rw [← hw3, ← hq4, ← hq3, ← hq2]
    clear hw3 hq2 hq3 hq4
    refine hcall.mono ?_
    rintro e w4 ⟨rfl, hb4⟩
    have B4 := Lib.hid (B3.out.trans (hb4.mono B3.out.size))
    have blk44 := Lib.hid ((hb4.block q4 (lt_of_block blk4.out)).trans blk4.out)
    clear hb4 hcall b0 b1 b2 b3 b4 b5 bf z0 z1 z2 z3 z4 zf
    obtain ⟨z0, z1, z2, z3, z4, zf⟩ := five_cells blk44.out
    go_wp2
    refine bodyPost_ret (results_cell_tmp rfl _ _ q4 24 #[.int .i64 0, .string ⟨#[]⟩, .string ⟨#[]⟩, .slice none 0 0, .int .i64 0] (0, 0) _ (by rfl) (p5w_blk blk44.out) Tryz.underlying24 rfl sizeTy (.int .i64 4) (by rfl)) rfl ?_
    exact ⟨bel5 B4.out (by have := HQ.out; omega) _ _ _ _ _, .inr ⟨by rw [HE.out]; decide, by rw [HE.out]⟩⟩
  | true =>
    rw [hf] at hcall
    have HF := Lib.hid hf
    have HP := Lib.hid (formed_few hf)
    have HALL := Lib.hid (formed_all hf)
    clear hf
    go_enter Tryz.func36, Tryz.ntmps36
    go_wp2_with fail
    rw [← hw3, ← hq4, ← hq3, ← hq2]
    clear hw3 hq2 hq3 hq4
    refine hcall.mono ?_
    rintro e w4 ⟨rfl, hb4⟩
    have B4 := Lib.hid (B3.out.trans (hb4.mono B3.out.size))
    have blk24 := Lib.hid ((hb4.block q2 (lt_of_block blk2.out)).trans blk2.out)
    have blk34 := Lib.hid ((hb4.block q3 (lt_of_block blk3.out)).trans blk3.out)
    have blk44 := Lib.hid ((hb4.block q4 (lt_of_block blk4.out)).trans blk4.out)
    clear hb4 hcall b0 b1 b2 b3 b4 b5 bf z0 z1 z2 z3 z4 zf
    obtain ⟨z0, z1, z2, z3, z4, zf⟩ := five_cells blk44.out
    obtain ⟨b0, b1, b2, b3, b4, b5, bf⟩ := six_cells6 blk24.out
    by_cases hn : n < 0
    · have d0 : decide (n < 0) = true := decide_eq_true hn
      have HE := Lib.hid (show instE n t first = 4 by unfold instE; rw [show decide (0 ≤ n) = false from decide_eq_false (by omega)]; simp)
      clear hn
      go_wp2
      refine bodyPost_ret (results_cell_tmp rfl _ _ q4 24 #[.int .i64 0, .string ⟨#[]⟩, .string ⟨#[]⟩, .slice none 0 0, .int .i64 0] (0, 0) _ (by rfl) (p5w_blk blk44.out) Tryz.underlying24 rfl sizeTy (.int .i64 4) (by rfl)) rfl ?_
      exact ⟨bel5 B4.out (by have := HQ.out; omega) _ _ _ _ _, .inr ⟨by rw [HE.out]; decide, by rw [HE.out]⟩⟩
    · have d0 : decide (n < 0) = false := decide_eq_false hn
      have HN := Lib.hid (show 0 ≤ n by omega)
      have hv2 := vars_calls t w4 w.heap.size none 0 _ [] (OwnI.nil _ _) ⟨H1.out, A, c, rfl, HR.out.turn (fun b h => h) (fun b o h => B4.out.cell (p := ⟨b, o, none⟩) h)⟩ B4.out.size (by have := HP.out; simp; omega)
      unfold tyV at hv2
      simp only [List.length_nil] at hv2
      obtain ⟨l, hl⟩ : ∃ l, l = varsT t [] := ⟨_, rfl⟩
      have HL := Lib.hid hl
      have HLL := Lib.hid (show l.length ≤ 4000 by have h := (varsT_len t []).2; have := HP.out; rw [hl]; simp at h; omega)
      rw [← hl] at hv2
      clear hl hn
      go_wp2_with fail
      refine hv2.mono ?_
      rintro e w5 ⟨A5, c5, rfl, hown5, hT5, how5⟩
      have hb5 : Below w4.heap.size w4 w5 := hT5.below (Nat.le_refl _) (fun z h => by simp [Value.ownBlock] at h)
      have B5 := Lib.hid (B4.out.trans (hb5.mono B4.out.size))
      have blk25 := Lib.hid ((hb5.block q2 (lt_of_block blk24.out)).trans blk24.out)
      have blk35 := Lib.hid ((hb5.block q3 (lt_of_block blk34.out)).trans blk34.out)
      have blk45 := Lib.hid ((hb5.block q4 (lt_of_block blk44.out)).trans blk44.out)
      have hcf := ContainsFuncI hown5 (by have := HLL.out; omega) (inst1_pred (six_cells6 blk25.out).1 l)
      clear hv2 hown5 hT5 how5 hb5 b0 b1 b2 b3 b4 b5 bf z0 z1 z2 z3 z4 zf
      obtain ⟨z0, z1, z2, z3, z4, zf⟩ := five_cells blk45.out
      obtain ⟨b0, b1, b2, b3, b4, b5, bf⟩ := six_cells6 blk25.out
      cases hany : (l.any fun v => decide (v ≥ n)) with
      | true =>
        rw [hany] at hcf
        have HE := Lib.hid (show instE n t first = 4 by unfold instE; rw [← HL.out, hany]; simp)
        clear hany
        go_wp2_with fail
        refine hcf.mono ?_
        rintro e w6 ⟨rfl, hw6⟩
        have hw7 := hw6.symm
        subst hw7
        clear hw6 hcf
        go_wp2
        refine bodyPost_ret (results_cell_tmp rfl _ _ q4 24 #[.int .i64 0, .string ⟨#[]⟩, .string ⟨#[]⟩, .slice none 0 0, .int .i64 0] (0, 0) _ (by rfl) (p5w_blk blk45.out) Tryz.underlying24 rfl sizeTy (.int .i64 4) (by rfl)) rfl ?_
        exact ⟨bel5 B5.out (by have := HQ.out; omega) _ _ _ _ _, .inr ⟨by rw [HE.out]; decide, by rw [HE.out]⟩⟩
      | false =>
        rw [hany] at hcf
        have HA := Lib.hid hany
        clear hany
        go_wp2_with fail
        refine hcf.mono ?_
        rintro e w6 ⟨rfl, hw6⟩
        have hw7 := hw6.symm
        subst hw7
        clear hw6 hcf
        have HG := Lib.hid (show (formedB t && decide (0 ≤ n) && !((varsT t []).any fun v => decide (v ≥ n))) = true by rw [HF.out, ← HL.out, HA.out, decide_eq_true HN.out]; rfl)
        have f0 := cell_of_one blk35.out
        by_cases hfi : first < 0
        · have d1 : decide (first < 0) = true := decide_eq_true hfi
          have HE := Lib.hid (show instE n t first = 2 by unfold instE; rw [HG.out, if_neg (by decide), if_pos hfi])
          clear hfi
          go_wp2
          refine bodyPost_ret (results_cell_tmp rfl _ _ q4 24 #[.int .i64 0, .string ⟨#[]⟩, .string ⟨#[]⟩, .slice none 0 0, .int .i64 0] (0, 0) _ (by rfl) (p5w_blk blk45.out) Tryz.underlying24 rfl sizeTy (.int .i64 2) (by rfl)) rfl ?_
          exact ⟨bel5 B5.out (by have := HQ.out; omega) _ _ _ _ _, .inr ⟨by rw [HE.out]; decide, by rw [HE.out]⟩⟩
        · have d1 : decide (first < 0) = false := decide_eq_false hfi
          have HFI := Lib.hid (show 0 ≤ first by omega)
          have hv6 := vars_calls t w5 w.heap.size none 0 _ [] (OwnI.nil _ _) ⟨H1.out, A, c, rfl, HR.out.turn (fun b h => h) (fun b o h => B5.out.cell (p := ⟨b, o, none⟩) h)⟩ B5.out.size (by have := HP.out; simp; omega)
          unfold tyV at hv6
          simp only [List.length_nil] at hv6
          rw [← HL.out] at hv6
          clear hfi
          go_wp2_with fail
          refine hv6.mono ?_
          rintro e w6 ⟨A6, c6, rfl, hown6, hT6, how6⟩
          have hb6 : Below w5.heap.size w5 w6 := hT6.below (Nat.le_refl _) (fun z h => by simp [Value.ownBlock] at h)
          have B6 := Lib.hid (B5.out.trans (hb6.mono B5.out.size))
          have blk26 := Lib.hid ((hb6.block q2 (lt_of_block blk25.out)).trans blk25.out)
          have blk36 := Lib.hid ((hb6.block q3 (lt_of_block blk35.out)).trans blk35.out)
          have blk46 := Lib.hid ((hb6.block q4 (lt_of_block blk45.out)).trans blk45.out)
          have HO := Lib.hid hown6
          clear hv6 hown6 hT6 how6 hb6 b0 b1 b2 b3 b4 b5 bf z0 z1 z2 z3 z4 zf f0
          obtain ⟨z0, z1, z2, z3, z4, zf⟩ := five_cells blk46.out
          obtain ⟨b0, b1, b2, b3, b4, b5, bf⟩ := six_cells6 blk26.out
          have f0 := cell_of_one blk36.out
          have hll := HLL.out
          go_wp2_with fail
          go_loopw [32] (fun i wr => ∃ (k : Nat), k ≤ l.length ∧ i = .int .i64 k ∧ Hid ((l.any fun v => decide (first > 1048576 - v)) = ((l.drop k).any fun v => decide (first > 1048576 - v))) ∧ wr = w6) (fun i _ => l.length - (intOf i).toNat)
          case atStart => exact ⟨0, Nat.zero_le _, rfl, Lib.hid rfl, rfl⟩
          case round =>
            obtain ⟨k, hk, rfl, hE, rfl⟩ := hrel
            by_cases hlt : k < l.length
            · obtain ⟨b, rfl, hcell⟩ := own_at HO.out k hlt
              have hdrop : l.drop k = l.getD k 0 :: l.drop (k + 1) := by
                rw [List.drop_eq_getElem_cons hlt]
                congr 1
                simp [List.getD_eq_getElem?_getD, List.getElem?_eq_getElem hlt]
              obtain ⟨z, hz⟩ : ∃ z, z = l.getD k 0 := ⟨_, rfl⟩
              have hin : InV z := by
                have hm : l.getD k 0 ∈ l := by simp [List.getD_eq_getElem?_getD, List.getElem?_eq_getElem hlt]
                rw [hz]
                exact (vars_all t).2 HALL.out _ (by rw [← HL.out]; exact hm)
              rw [← hz] at hcell hdrop
              have HE := Lib.hid (hE.out.trans (congrArg (List.any · (fun v => decide (first > 1048576 - v))) hdrop))
              obtain ⟨zi0, zi1⟩ := hin
              have i0 : (0 : Int) ≤ (k : Int) := by omega
              have i1 : (k : Int) < (l.length : Int) := by omega
              clear hdrop hz hE
              by_cases hpz : first > 1048576 - z
              · have d2 : decide (first > 1048576 - z) = true := decide_eq_true hpz
                have HE7 := Lib.hid (show instE n t first = 7 by unfold instE; rw [HG.out, if_neg (by decide), if_neg (by have := HFI.out; omega), if_pos (by rw [← HL.out, HE.out]; simp [hpz])])
                clear hpz
                go_wp2
                (try simp only [Exit.inBlock, Exit.then])
                refine bodyPost_ret (results_cell_tmp rfl _ _ q4 24 #[.int .i64 0, .string ⟨#[]⟩, .string ⟨#[]⟩, .slice none 0 0, .int .i64 0] (0, 0) _ (by rfl) (p5w_blk blk46.out) Tryz.underlying24 rfl sizeTy (.int .i64 7) (by rfl)) rfl ?_
                exact ⟨bel5 B6.out (by have := HQ.out; omega) _ _ _ _ _, .inr ⟨by rw [HE7.out]; decide, by rw [HE7.out]⟩⟩
              · have d2 : decide (first > 1048576 - z) = false := decide_eq_false hpz
                have HS := Lib.hid (show (l.any fun v => decide (first > 1048576 - v)) = ((l.drop (k + 1)).any fun v => decide (first > 1048576 - v)) by rw [HE.out]; simp [hpz])
                clear hpz
                go_wp2
                go_roundw
                case rel => exact ⟨k + 1, by omega, by go_num, HS, trivial⟩
                case measure => simp [intOf]; omega
            · have hkk : k = l.length := by omega
              have HE0 := Lib.hid (show (l.any fun v => decide (first > 1048576 - v)) = false by rw [hE.out, hkk]; simp)
              have lt1 : ¬ ((l.length : Int) < (l.length : Int)) := by omega
              subst hkk
              clear hE hlt
              have hIE := Lib.hid (show instE n t first = 0 by unfold instE; rw [HG.out, if_neg (by decide), if_neg (by have := HFI.out; omega), if_neg (by rw [← HL.out, HE0.out]; decide)])
              have hav : allV (InF first) t := (vars_all t).1 fun v hv => by
                have h1 := (vars_all t).2 HALL.out v hv
                refine ⟨h1, ?_⟩
                have h2 := List.any_eq_false.1 HE0.out v (by rw [HL.out]; exact hv)
                simp at h2
                omega
              have hren := ren_calls (inst2_of (lt_of_block blk36.out) f0 HFI.out) t _ _ (RdV.below ⟨H1.out, A, c, rfl, HR.out⟩ B6.out) (Below.refl _ _) hav (by have := HP.out; omega)
              unfold tyV at hren
              obtain ⟨t', ht'⟩ : ∃ t', t' = renT (· + first) t := ⟨_, rfl⟩
              have HT := Lib.hid ht'
              rw [← ht'] at hren
              clear hav ht'
              go_wp2_with fail
              refine hren.mono ?_
              rintro e w7 ⟨A7, c7, rfl, ⟨hok7, hrd7⟩, hb7⟩
              have B7 := Lib.hid (B6.out.trans (hb7.mono B6.out.size))
              have blk47 := Lib.hid ((hb7.block q4 (lt_of_block blk46.out)).trans blk46.out)
              have HOK := Lib.hid hok7; have HRD := Lib.hid hrd7
              have HS6 := Lib.hid B6.out.size
              have HL4 := Lib.hid (lt_of_block blk46.out)
              clear hren hok7 hrd7 hb7 b0 b1 b2 b3 b4 b5 bf z0 z1 z2 z3 z4 zf f0
              obtain ⟨z0, z1, z2, z3, z4, zf⟩ := five_cells blk47.out
              unfold tyV
              go_wp2
              (try simp only [Exit.inBlock, Exit.then])
              refine bodyPost_ret (results_cell_tmp rfl _ _ q4 24 #[.int .i64 t'.kind, .string (S t'.mod), .string (S t'.name), .slice A7 t'.args.length c7, .int .i64 t'.var] (0, 0) _ (by rfl) (p5w_blk blk47.out) Tryz.underlying24 rfl sizeTy (.int .i64 0) (by rfl)) rfl ?_
              have hs6 := HS6.out
              have hl4 := HL4.out
              have gp := p5w_gb w7 q4 (.int .i64 t'.kind) (.string (S t'.mod)) (.string (S t'.name)) (.slice A7 t'.args.length c7) (.int .i64 t'.var)
              have s2 := gp.size
              refine ⟨bel5 B7.out (by have := HQ.out; omega) _ _ _ _ _, .inl ⟨hIE.out, A7, c7, ?_, ?_, ?_⟩⟩
              · rw [← HT.out]; rfl
              · rw [← HT.out]; exact HOK.out
              · rw [← HT.out]
                exact HRD.out.turn (fun b hb => ⟨Nat.le_trans hs6 hb.1, Nat.lt_of_lt_of_le hb.2 s2⟩) (fun b o hb => World.cell?_of_block (gp.block b hb.2 (fun e => by have := Option.some.inj e; omega)))

end Go.Proofs.YtplnfepdikbpfaaGreatDoor
