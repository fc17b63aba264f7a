/- The walk of unify's Normal. Condition: the type reads. -/
import Derived.Test.YtplnfepdikbpfaaGreatDoorVM
namespace Go.Proofs.YtplnfepdikbpfaaGreatDoor
open Go.RowKit
set_option linter.unusedVariables false
set_option linter.unusedSimpArgs false
attribute [local go_sem ↓] Go.wp_at_zero Go.wp_at_succ

/-- A block of one type reads as a row of one. -/
theorem rd_one {ok : Nat → Prop} {w : World} {g : Nat} {t : Ty} {A : Option Addr} {c : Nat} (h1 : Ok1 t) (hg : ok g) (hb : w.heap[g]? = some (.cells #[.int .i64 t.kind, .string (S t.mod), .string (S t.name), .slice A t.args.length c, .int .i64 t.var] 24 (0, 0))) (hr : RdL ok w (.slice A t.args.length c) t.args) :
    RdL ok w (.slice (some ⟨g, 0, none⟩) [t].length 1) [t] := by
  obtain ⟨b0, b1, b2, b3, b4, bf⟩ := five_cells hb
  refine ⟨_, 1, rfl, by simp, fun _ => ⟨g, 0, rfl, hg, ?_⟩⟩
  simp only [RdF]
  refine ⟨?_, trivial⟩
  exact (RdT_def ok w g 0 t).2 ⟨b0, b1, b2, h1, ⟨_, b3, hr⟩, b4⟩

/-- What Normal answers. -/
def NormAns (w : World) (t : Ty) (e : Ending) (w' : World) : Prop :=
  Below w.heap.size w w' ∧ ((formedB t = true ∧ ∃ A c, e = .returned (.tuple #[tyV (normT t) (.slice A (normT t).args.length c), .int .i64 0]) ∧ Ok1 (normT t) ∧ RdL (fun b => w.heap.size ≤ b ∧ b < w'.heap.size) w' (.slice A (normT t).args.length c) (normT t).args) ∨
    (formedB t = false ∧ e = .returned (.tuple #[zeroV, .int .i64 4])))

set_option maxRecDepth 100000 in
set_option maxHeartbeats 8000000 in
theorem Normal_calls (t : Ty) (v : Value) (w : World) (hv : RdV w v t) : Calls Tryz.prog 39 #[v] w (NormAns w t) := by
  obtain ⟨h1, A, c, rfl, hr⟩ := hv
  unfold tyV
  obtain ⟨w2, hw2⟩ : ∃ w2, w2 = (w.alloc (.cells #[.int .i64 t.kind, .string (S t.mod), .string (S t.name), .slice A t.args.length c, .int .i64 t.var] 24)).alloc (.cells #[.int .i64 0, .string ⟨#[]⟩, .string ⟨#[]⟩, .slice none 0 0, .int .i64 0] 24) := ⟨_, rfl⟩
  obtain ⟨q2, hq2⟩ : ∃ q, q = w.heap.size := ⟨_, rfl⟩
  obtain ⟨q4, hq4⟩ : ∃ q, q = w.heap.size + 1 := ⟨_, rfl⟩
  have B2 := Lib.hid (show Below w.heap.size w w2 by rw [hw2]; exact bel_alloc (bel_alloc (Below.refl _ _) _) _)
  have blk2 := Lib.hid (show w2.heap[q2]? = some (.cells #[.int .i64 t.kind, .string (S t.mod), .string (S t.name), .slice A t.args.length c, .int .i64 t.var] 24 (0, 0)) by
    rw [hw2, hq2]; exact ((gb_alloc _ _ none).block w.heap.size (by simp) (by simp)).trans (MapKept.heap_alloc w _).1)
  have blk4 := Lib.hid (show w2.heap[q4]? = some (.cells #[.int .i64 0, .string ⟨#[]⟩, .string ⟨#[]⟩, .slice none 0 0, .int .i64 0] 24 (0, 0)) by
    have h := (MapKept.heap_alloc (w.alloc (.cells #[.int .i64 t.kind, .string (S t.mod), .string (S t.name), .slice A t.args.length c, .int .i64 t.var] 24)) (.cells #[.int .i64 0, .string ⟨#[]⟩, .string ⟨#[]⟩, .slice none 0 0, .int .i64 0] 24)).1
    rw [World.size_alloc] at h
    rw [hw2, hq4]; exact h)
  have HQ := Lib.hid (show q2 = w.heap.size ∧ q4 = w.heap.size + 1 ∧ w2.heap.size = w.heap.size + 2 from ⟨hq2, hq4, by rw [hw2]; simp⟩)
  have hcall := IsFormed_calls t _ w2 (RdV.below ⟨h1, A, c, rfl, hr⟩ B2.out)
  unfold tyV at hcall
  have HR := Lib.hid hr; have H1 := Lib.hid h1
  obtain ⟨b0, b1, b2, b3, b4, bf⟩ := five_cells blk2.out
  clear hr h1
  cases hf : formedB t with
  | false =>
    rw [hf] at hcall
    have HF := Lib.hid hf
    clear hf
    go_enter Tryz.func39, Tryz.ntmps39
    go_wp2_with fail
    rw [← hw2, ← hq4, ← hq2]
    clear hw2 hq2 hq4
    refine hcall.mono ?_
    rintro e w4 ⟨rfl, hb4⟩
    have B4 := Lib.hid (B2.out.trans (hb4.mono B2.out.size))
    have blk44 := Lib.hid ((hb4.block q4 (lt_of_block blk4.out)).trans blk4.out)
    clear hb4 hcall b0 b1 b2 b3 b4 bf
    obtain ⟨z0, z1, z2, z3, z4, zf⟩ := five_cells blk44.out
    go_wp2
    refine bodyPost_ret (results_cell_tmp rfl _ _ q4 24 #[.int .i64 0, .string ⟨#[]⟩, .string ⟨#[]⟩, .slice none 0 0, .int .i64 0] (0, 0) _ (by rfl) (p5w_blk blk44.out) Tryz.underlying24 rfl sizeTy (.int .i64 4) (by rfl)) rfl ?_
    exact ⟨bel5 B4.out (by have := HQ.out; omega) _ _ _ _ _, .inr ⟨HF.out, rfl⟩⟩
  | true =>
    rw [hf] at hcall
    have HF := Lib.hid hf
    have HP := Lib.hid (formed_few hf)
    clear hf
    go_enter Tryz.func39, Tryz.ntmps39
    go_wp2_with fail
    rw [← hw2, ← hq4, ← hq2]
    clear hw2 hq2 hq4
    refine hcall.mono ?_
    rintro e w4 ⟨rfl, hb4⟩
    have B4 := Lib.hid (B2.out.trans (hb4.mono B2.out.size))
    have blk24 := Lib.hid ((hb4.block q2 (lt_of_block blk2.out)).trans blk2.out)
    have blk44 := Lib.hid ((hb4.block q4 (lt_of_block blk4.out)).trans blk4.out)
    clear hb4 hcall b0 b1 b2 b3 b4 bf
    obtain ⟨b0, b1, b2, b3, b4, bf⟩ := five_cells blk24.out
    obtain ⟨w5, hw5⟩ : ∃ w5, w5 = w4.alloc (.cells #[.int .i64 t.kind, .string (S t.mod), .string (S t.name), .slice A t.args.length c, .int .i64 t.var] 24) := ⟨_, rfl⟩
    obtain ⟨g, hg⟩ : ∃ g, g = w4.heap.size := ⟨_, rfl⟩
    have Y5 : Below w4.heap.size w4 w5 := by rw [hw5]; exact bel_alloc (Below.refl _ _) _
    have B5 := Lib.hid (B4.out.trans (Y5.mono B4.out.size))
    have blk5 : w5.heap[g]? = some (.cells #[.int .i64 t.kind, .string (S t.mod), .string (S t.name), .slice A t.args.length c, .int .i64 t.var] 24 (0, 0)) := by rw [hw5, hg]; exact (MapKept.heap_alloc w4 _).1
    have blk45 := Lib.hid ((Y5.block q4 (lt_of_block blk44.out)).trans blk44.out)
    have hn := Normals_calls [t] (some ⟨g, 0, none⟩) 1 w5 (rd_one H1.out (lt_of_block blk5) blk5 (HR.out.turn (fun b h => Nat.lt_of_lt_of_le h B5.out.size) (fun b o h => B5.out.cell (p := ⟨b, o, none⟩) h))) (by have := HP.out; simp [partsL]; omega)
    simp only [List.length_singleton] at hn
    clear Y5 blk5
    go_wp2_with fail
    rw [← hw5, ← hg]
    clear hw5 hg
    refine hn.mono ?_
    rintro e w6 ⟨A6, c6, BB, rfl, hBB, hown, hb6⟩
    have B6 := Lib.hid (B5.out.trans (hb6.mono B5.out.size))
    have blk46 := Lib.hid ((hb6.block q4 (lt_of_block blk45.out)).trans blk45.out)
    have HSZ := Lib.hid (show w.heap.size ≤ BB from Nat.le_trans B5.out.size hBB)
    have e1 : [t].map (renT (fun v => Lib.idxOf (varsL [t] []) v)) = [normT t] := by simp [normT, varsL_cons, varsL_nil]
    rw [e1] at hown
    have hrd : RdL (fun b => BB ≤ b ∧ b < w6.heap.size) w6 (.slice A6 [normT t].length c6) [normT t] := hown.read (by simp) _ (fun b h1 h2 => ⟨h1, h2⟩) (fun b hb => hown.lt b hb)
    obtain ⟨-, -, hxx⟩ := hrd.at_
    obtain ⟨e2, off, rfl, he0, hc⟩ := hxx (by simp)
    obtain ⟨A2, c2, g1, g2, g3, g4, g5, g6, g7⟩ := hc 0 (by simp)
    have ett : tyAt [normT t] 0 = normT t := rfl
    rw [ett] at g1 g2 g3 g4 g5 g6 g7
    obtain ⟨t', ht'⟩ : ∃ t', t' = normT t := ⟨_, rfl⟩
    have HT := Lib.hid ht'
    rw [← ht'] at g1 g2 g3 g4 g5 g6 g7
    simp only [Nat.zero_mul, Nat.add_zero] at g1 g2 g3 g4 g5
    have HOK := Lib.hid g7; have HRD := Lib.hid g6
    clear hn hown hb6 hrd hxx hc ett ht' e1 g6 g7 b0 b1 b2 b3 b4 bf
    obtain ⟨z0, z1, z2, z3, z4, zf⟩ := five_cells blk46.out
    go_wp2
    refine bodyPost_ret (results_cell_tmp rfl _ _ q4 24 #[.int .i64 t'.kind, .string (S t'.mod), .string (S t'.name), .slice A2 t'.args.length c2, .int .i64 t'.var] (0, 0) _ (by rfl) (p5w_blk blk46.out) Tryz.underlying24 rfl sizeTy (.int .i64 0) (by rfl)) rfl ?_
    have hs6 := HSZ.out
    have gp := p5w_gb w6 q4 (.int .i64 t'.kind) (.string (S t'.mod)) (.string (S t'.name)) (.slice A2 t'.args.length c2) (.int .i64 t'.var)
    have s2 := gp.size
    have hq4b : q4 < BB := Nat.lt_of_lt_of_le (lt_of_block blk45.out) hBB
    refine ⟨bel5 B6.out (by have := HQ.out; omega) _ _ _ _ _, .inl ⟨HF.out, A2, c2, ?_, ?_, ?_⟩⟩
    · rw [← HT.out]; rfl
    · rw [← HT.out]; exact HOK.out
    · rw [← HT.out]
      exact HRD.out.turn (fun b hb => ⟨Nat.le_trans hs6 hb.1, Nat.lt_of_lt_of_le hb.2 s2⟩) (fun b o hb => World.cell?_of_block (gp.block b hb.2 (fun e => by have := Option.some.inj e; omega)))

end Go.Proofs.YtplnfepdikbpfaaGreatDoor
