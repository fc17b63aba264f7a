/- The walk of the reference reader's read. Condition: the reader is a block of its own; at most 20000 bytes. -/
import Derived.Test.YtplnfepdikbpfaaGreatDoorY5
namespace Go.Proofs.YtplnfepdikbpfaaGreatDoor
open Go.RowKit
set_option linter.unusedVariables false
set_option linter.unusedSimpArgs false
attribute [local go_sem ↓] Go.wp_at_zero Go.wp_at_succ

/-- What read's result is, written into its block. -/
theorem read_end {w X : World} {r k p : Nat} {L : List UInt8} {bad : Bool} {d : Int} {q : Nat} {x0 x1 x2 x3 x4 : Value} (hq : w.heap.size ≤ q) (hr : r < w.heap.size) (hb : X.heap[q]? = some (.cells #[x0, x1, x2, x3, x4] 24 (0, 0))) (hg : w.grownBy X (some r)) {k' p' : Nat} {b' : Bool} (hR : RRdr X r L k' p' b') (hk' : k' ≤ L.length)
    {t : Ty} {f : Nat} (hf : rreadF f (L.drop k) p bad d = some (t, L.drop k', p', b')) {A : Option Addr} {c : Nat} (h1 : Ok1 t) (hrd : RdL (fun b => w.heap.size ≤ b ∧ b < X.heap.size ∧ b ≠ q) X (.slice A t.args.length c) t.args) :
    RReadPost w r L k p bad d (.returned (.agg #[.int .i64 t.kind, .string (S t.mod), .string (S t.name), .slice A t.args.length c, .int .i64 t.var])) (p5w X q (.int .i64 t.kind) (.string (S t.mod)) (.string (S t.name)) (.slice A t.args.length c) (.int .i64 t.var)) := by
  have gp := p5w_gb X q (.int .i64 t.kind) (.string (S t.mod)) (.string (S t.name)) (.slice A t.args.length c) (.int .i64 t.var)
  refine ⟨f, t, p', b', k', _, hf, rfl, ⟨h1, A, c, rfl, hrd.turn (fun b h => ⟨h.1, Nat.lt_of_lt_of_le h.2.1 gp.size⟩) (fun b o h => World.cell?_of_block (gp.block b h.2.1 (fun e => h.2.2 (Option.some.inj e))))⟩, hk', hR.grown gp (fun e => by have := Option.some.inj e; omega), gb_own hg gp (fun z e => by have := Option.some.inj e; omega)⟩
theorem ok_plain (k v : Int) (xs : List Ty) : Ok1 (.mk k [] [] xs v) := ⟨by simp [Ty.mod], by simp [Ty.name]⟩
theorem u8_sub_wrap : ∀ c : UInt8, IntKind.u8.wrap ((c.toNat : Int) - 48) = ((c - 48).toNat : Int) := u8_all (by decide +kernel)
theorem sizeT5 : (Tryz.prog.info? 24).map (·.size) = some 5 := by kernel_rfl

set_option maxRecDepth 100000 in
set_option maxHeartbeats 16000000 in
theorem rread_bad (d : Int) (hd1 : 1 ≤ d) (hd2 : d ≤ 101) (r k p : Nat) (L : List UInt8) (bad : Bool) (w : World) (h : RRdr w r L k p bad) (hk : k ≤ L.length) (hL : L.length ≤ 20000) (hp : p ≤ 5000) (hb : bad = true ∨ 100 < d ∨ 4000 < p + 1) :
    Calls Tryz.prog 62 #[.pointer (some ⟨r, 0, none⟩), .int .i64 d] w (RReadPost w r L k p bad d) := by
  obtain ⟨w0, hw0⟩ : ∃ w0, w0 = w.setCell ⟨r, 2, none⟩ (.int .i64 ((p : Int) + 1)) := ⟨_, rfl⟩
  obtain ⟨q4, hq4⟩ : ∃ q, q = w.heap.size := ⟨_, rfl⟩
  obtain ⟨w1, hw1⟩ : ∃ w1, w1 = w0.alloc (.cells #[.int .i64 0, .string ⟨#[]⟩, .string ⟨#[]⟩, .slice none 0 0, .int .i64 0] 24) := ⟨_, rfl⟩
  have hrl := h.cells.2.2.2.2.2
  have hs0 : w0.heap.size = w.heap.size := by rw [hw0]; simp
  have R0 := Lib.hid (show RRdr w0 r L k (p + 1) bad by rw [hw0]; exact h.setParts (p + 1))
  have R1 := Lib.hid (show RRdr w1 r L k (p + 1) bad from R0.out.called (by rw [hw1]; exact bel_alloc (Below.refl _ _) _))
  have GW := Lib.hid (show w.grownBy w1 (some r) from gb_trans (show w.grownBy w0 (some r) by rw [hw0]; exact gb_set _ _ _ _) (show w0.grownBy w1 (some r) by rw [hw1]; exact gb_alloc _ _ _))
  have HBQ := Lib.hid (show ∀ X, w1.grownBy X (some r) → X.heap[q4]? = some (.cells #[.int .i64 0, .string ⟨#[]⟩, .string ⟨#[]⟩, .slice none 0 0, .int .i64 0] 24 (0, 0)) from fun X hX => by
    have h2 : w1.heap[q4]? = some (.cells #[.int .i64 0, .string ⟨#[]⟩, .string ⟨#[]⟩, .slice none 0 0, .int .i64 0] 24 (0, 0)) := by rw [hw1, hq4, ← hs0]; exact (MapKept.heap_alloc w0 _).1
    exact (hX.block q4 (lt_of_block h2) (fun e => by have := Option.some.inj e; omega)).trans h2)
  have HSZ := Lib.hid (show w.heap.size ≤ q4 ∧ r < w.heap.size ∧ q4 < w1.heap.size ∧ w.heap.size < w1.heap.size from ⟨by omega, hrl, lt_of_block (HBQ.out w1 (gb_refl _ _)), by have := lt_of_block (HBQ.out w1 (gb_refl _ _)); omega⟩)
  obtain ⟨c0, c1, c2, c3, cf, -⟩ := h.cells
  have lr : r < w.heap.size + 1 := by omega
  have HQ4 := Lib.hid hq4; have HW0 := Lib.hid hw0; have HW1 := Lib.hid hw1
  clear hq4 hw0 hw1 hs0
  have HP := Lib.hid (show RReadPost w r L k p bad d (.returned (.agg #[.int .i64 0, .string ⟨#[]⟩, .string ⟨#[]⟩, .slice none 0 0, .int .i64 0])) ((w0.setCell ⟨r, 3, none⟩ (.bool true)).alloc (.cells #[.int .i64 0, .string ⟨#[]⟩, .string ⟨#[]⟩, .slice none 0 0, .int .i64 0] 24)) from
    ⟨1, .mk 0 [] [] [] 0, p + 1, true, k, _, by rw [rreadF, if_pos hb], rfl, ⟨ok_plain _ _ _, none, 0, rfl, RdL_nil _ _⟩, hk, (R0.out.setBad true).called (bel_alloc (Below.refl _ _) _), gb_trans (show w.grownBy (w0.setCell ⟨r, 3, none⟩ (.bool true)) (some r) by rw [HW0.out]; exact gb_trans (gb_set _ _ _ _) (gb_set _ _ _ _)) (gb_alloc _ _ _)⟩)
  have t0 : bad = true ∨ (bad = false ∧ decide (d > 100) = true) ∨ (bad = false ∧ decide (d > 100) = false ∧ decide ((p : Int) + 1 > 4000) = true) := by
    cases bad with
    | true => exact .inl rfl
    | false =>
      by_cases h1 : 100 < d
      · exact .inr (.inl ⟨rfl, decide_eq_true h1⟩)
      · refine .inr (.inr ⟨rfl, decide_eq_false h1, decide_eq_true ?_⟩)
        have := hb.resolve_left (by simp)
        omega
  clear h hb
  rcases t0 with rfl | ⟨rfl, t1⟩ | ⟨rfl, t1, t2⟩
  · go_enter Tryz.func62, Tryz.ntmps62
    go_wp2_with fail
    rw [← HW0.out]
    have hq : w.heap.size = (w0.setCell ⟨r, 3, none⟩ (.bool true)).heap.size := by rw [HW0.out]; simp
    refine bodyPost_ret (results_cell_row rfl _ _ w.heap.size 24 #[.int .i64 0, .string ⟨#[]⟩, .string ⟨#[]⟩, .slice none 0 0, .int .i64 0] (0, 0) _ (by rfl) (by rw [hq]; exact (MapKept.heap_alloc _ _).1) Tryz.underlying24 rfl sizeTy) rfl ?_
    exact HP.out
  · go_enter Tryz.func62, Tryz.ntmps62
    go_wp2_with fail
    rw [← HW0.out]
    have hq : w.heap.size = (w0.setCell ⟨r, 3, none⟩ (.bool true)).heap.size := by rw [HW0.out]; simp
    refine bodyPost_ret (results_cell_row rfl _ _ w.heap.size 24 #[.int .i64 0, .string ⟨#[]⟩, .string ⟨#[]⟩, .slice none 0 0, .int .i64 0] (0, 0) _ (by rfl) (by rw [hq]; exact (MapKept.heap_alloc _ _).1) Tryz.underlying24 rfl sizeTy) rfl ?_
    exact HP.out
  · go_enter Tryz.func62, Tryz.ntmps62
    go_wp2_with fail
    rw [← HW0.out]
    have hq : w.heap.size = (w0.setCell ⟨r, 3, none⟩ (.bool true)).heap.size := by rw [HW0.out]; simp
    refine bodyPost_ret (results_cell_row rfl _ _ w.heap.size 24 #[.int .i64 0, .string ⟨#[]⟩, .string ⟨#[]⟩, .slice none 0 0, .int .i64 0] (0, 0) _ (by rfl) (by rw [hq]; exact (MapKept.heap_alloc _ _).1) Tryz.underlying24 rfl sizeTy) rfl ?_
    exact HP.out


set_option maxRecDepth 100000 in
set_option maxHeartbeats 32000000 in
theorem rread_fn (d : Int) (hd1 : 1 ≤ d) (hd2 : d ≤ 100) (ih : RReadAt (d + 1)) (r k p : Nat) (L : List UInt8) (w : World) (h : RRdr w r L k p false) (hk : k ≤ L.length) (hL : L.length ≤ 20000) (hp : p + 1 ≤ 4000) (hs : skipB (L.drop k) [40] = true) :
    Calls Tryz.prog 62 #[.pointer (some ⟨r, 0, none⟩), .int .i64 d] w (RReadPost w r L k p false d) := by
  obtain ⟨w0, hw0⟩ : ∃ w0, w0 = w.setCell ⟨r, 2, none⟩ (.int .i64 ((p : Int) + 1)) := ⟨_, rfl⟩
  obtain ⟨q4, hq4⟩ : ∃ q, q = w.heap.size := ⟨_, rfl⟩
  obtain ⟨w1, hw1⟩ : ∃ w1, w1 = w0.alloc (.cells #[.int .i64 0, .string ⟨#[]⟩, .string ⟨#[]⟩, .slice none 0 0, .int .i64 0] 24) := ⟨_, rfl⟩
  have hrl := h.cells.2.2.2.2.2
  have hs0 : w0.heap.size = w.heap.size := by rw [hw0]; simp
  have R0 := Lib.hid (show RRdr w0 r L k (p + 1) false by rw [hw0]; exact h.setParts (p + 1))
  have R1 := Lib.hid (show RRdr w1 r L k (p + 1) false from R0.out.called (by rw [hw1]; exact bel_alloc (Below.refl _ _) _))
  have GW := Lib.hid (show w.grownBy w1 (some r) from gb_trans (show w.grownBy w0 (some r) by rw [hw0]; exact gb_set _ _ _ _) (show w0.grownBy w1 (some r) by rw [hw1]; exact gb_alloc _ _ _))
  have HBQ := Lib.hid (show ∀ X, w1.grownBy X (some r) → X.heap[q4]? = some (.cells #[.int .i64 0, .string ⟨#[]⟩, .string ⟨#[]⟩, .slice none 0 0, .int .i64 0] 24 (0, 0)) from fun X hX => by
    have h2 : w1.heap[q4]? = some (.cells #[.int .i64 0, .string ⟨#[]⟩, .string ⟨#[]⟩, .slice none 0 0, .int .i64 0] 24 (0, 0)) := by rw [hw1, hq4, ← hs0]; exact (MapKept.heap_alloc w0 _).1
    exact (hX.block q4 (lt_of_block h2) (fun e => by have := Option.some.inj e; omega)).trans h2)
  have HSZ := Lib.hid (show w.heap.size ≤ q4 ∧ r < w.heap.size ∧ q4 < w1.heap.size ∧ w.heap.size < w1.heap.size from ⟨by omega, hrl, lt_of_block (HBQ.out w1 (gb_refl _ _)), by have := lt_of_block (HBQ.out w1 (gb_refl _ _)); omega⟩)
  obtain ⟨c0, c1, c2, c3, cf, -⟩ := h.cells
  have lr : r < w.heap.size + 1 := by omega
  have HQ4 := Lib.hid hq4; have HW0 := Lib.hid hw0; have HW1 := Lib.hid hw1
  clear hq4 hw0 hw1 hs0
  have t1 : decide (d > 100) = false := decide_eq_false (by omega)
  have t2 : decide ((p : Int) + 1 > 4000) = false := decide_eq_false (by omega)
  have HNB := Lib.hid (show ¬ (false = true ∨ 100 < d ∨ 4000 < p + 1) by simp; omega)
  have HS := Lib.hid hs
  have hic := ris_calls L k (p + 1) r false [40] w1 R1.out hk hL (by simp)
  rw [hs] at hic
  clear h hs
  go_enter Tryz.func62, Tryz.ntmps62
  go_wp2_with fail
  rw [← HW0.out, ← HQ4.out, ← HW1.out]
  refine hic.mono ?_
  rintro e w2 ⟨rfl, hb⟩
  have R2 := Lib.hid (R1.out.called hb)
  have G2 := Lib.hid (show w1.grownBy w2 (some r) from gb_below hb _)
  clear hic hb c0 c1 c2 c3 cf lr
  have hsc := rskip_calls L k (p + 1) r false [40] w2 R2.out hk hL (by simp)
  go_wp2_with fail
  refine hsc.mono ?_
  rintro e w3 ⟨rfl, k3, hk3, hk4, hr3, hg3⟩
  have R3 := Lib.hid (show RRdr w3 r L k3 (p + 1) false by rw [HS.out] at hr3; exact hr3)
  have G3 := Lib.hid (gb_trans G2.out hg3)
  have HK3 := Lib.hid hk3
  clear hsc hr3 hg3 hk3
  have hlc := rlist_calls (d + 1) (by omega) (by omega) ih r k3 (p + 1) L [41, 32, 45, 62, 32] (by simp) false w3 R3.out hk4 hL hp
  go_wp2_with fail
  refine hlc.mono ?_
  rintro e w4 ⟨f4, ts, p4, b4, k4, v4, hF4, rfl, own4, hlen4, hk44, hr4, hg4⟩
  have HF4 := Lib.hid hF4; have HO4 := Lib.hid own4
  have G4 := Lib.hid (gb_trans G3.out hg4)
  have S34 := Lib.hid hg4.size
  have hpb4 := (rread_bound f4).2 _ _ _ _ _ _ _ _ _ _ (by omega) hF4
  have hcall := ih r k4 p4 L b4 w4 hr4 hk44 hL (by omega)
  clear hlc hF4 own4 hr4 hg4 hpb4
  go_wp2_with fail
  refine hcall.mono ?_
  rintro e w5 ⟨f5, t5, p5, b5, k5, va, hF5, rfl, hval, hk5, hr5, hg5⟩
  have HF5 := Lib.hid hF5; have R5 := Lib.hid hr5
  have G5 := Lib.hid (gb_trans G4.out hg5)
  obtain ⟨h1, A5, c5, rfl, hrd⟩ := hval
  have hz := HSZ.out
  have s3 := G3.out.size
  have s34 := S34.out
  have s45 := hg5.size
  have hown4 : ∀ z, v4.ownBlock = some z → w3.heap.size ≤ z ∧ z < w4.heap.size := HO4.out.lt
  have HO5 := Lib.hid (HO4.out.grown hg5 (fun z e => by
    obtain rfl := Option.some.inj e
    exact ⟨by omega, fun e2 => by have := (hown4 _ e2).1; omega⟩))
  have HT := Lib.hid (show Ok1 t5 ∧ RdL (fun b => w3.heap.size ≤ b ∧ b < w5.heap.size ∧ v4.ownBlock ≠ some b) w5 (.slice A5 t5.args.length c5) t5.args from
    ⟨h1, hrd.weak (fun b hb => ⟨by omega, hb.2, fun e2 => by have := (hown4 _ e2).2; omega⟩)⟩)
  have hb35 : w3.heap.size ≤ w5.heap.size := by omega
  have hacc : ts.length ≤ 1000000 := by omega
  have BLK5 := Lib.hid (HBQ.out w5 G5.out)
  have HWN := Lib.hid hown4
  have hq5 : q4 < w3.heap.size := by omega
  have HQ5 := Lib.hid hq5
  clear hcall hF5 hr5 hg5 h1 hrd hz s3 s34 s45 hown4 hq5
  unfold tyV
  go_wp2_with (at_builtin; refine ty_append (fun b => w3.heap.size ≤ b) w3.heap.size rfl (.tmp 44) (.tmp 49) rfl _ ts t5 A5 c5 rfl w5.heap.size rfl rfl HO5.out HT.out hb35 hacc ?_; intro v6 w6 hown6 hgr6 hat6; obtain ⟨A6, c6, hv6, -⟩ := hown6.length; subst hv6; obtain ⟨nl, hnl⟩ : ∃ nl, nl = (ts ++ [t5]).length := ⟨_, rfl⟩; rw [← hnl] at hown6 ⊢; have HNL := Lib.hid hnl; clear hnl; have BLK6 := Lib.hid ((hgr6.block q4 (lt_of_block BLK5.out) (fun e => by have h1 := (HWN.out q4 e.symm).1; have h2 := HQ5.out; omega)).trans BLK5.out); obtain ⟨z0, z1, z2, z3, z4, zf⟩ := five_cells BLK6.out; have HO6 := Lib.hid hown6; have HG6 := Lib.hid hgr6; clear hown6 hgr6 hat6)
  (try simp only [Exit.inBlock, Exit.then])
  refine bodyPost_ret (results_cell_row rfl _ _ q4 24 #[.int .i64 5, .string ⟨#[]⟩, .string ⟨#[]⟩, .slice A6 nl c6, .int .i64 0] (0, 0) _ (by rfl) (p5w_blk BLK6.out) Tryz.underlying24 rfl sizeTy) rfl ?_
  have hz := HSZ.out
  have hnl := HNL.out
  subst hnl
  have GW5 := gb_trans GW.out G5.out
  have GW6 := gb_own GW5 HG6.out (fun z e => by have h1 := (HWN.out z e).1; have h2 := HQ5.out; omega)
  have hR6 := R5.out.grown HG6.out (fun e => by have h1 := (HWN.out r e).1; have h2 := HQ5.out; omega)
  refine read_end (t := .mk 5 [] [] (ts ++ [t5]) 0) (f := max f4 f5 + 1) hz.1 hz.2.1 BLK6.out GW6 hR6 hk5 ?_ (ok_plain _ _ _) ?_
  · rw [rreadF, if_neg HNB.out, if_pos HS.out, ← HK3.out, rlistF_le (Nat.le_max_left f4 f5) HF4.out]
    simp only
    rw [rreadF_le (Nat.le_max_right f4 f5) HF5.out]
    rfl
  · exact HO6.out.read (by simp; omega) _ (fun b h1 h2 => ⟨by have := HQ5.out; omega, h2, by have := HQ5.out; omega⟩) (fun b hb => by have h1 := HO6.out.lt b hb; have := HQ5.out; exact ⟨by omega, h1.2, by omega⟩)


set_option maxRecDepth 100000 in
set_option maxHeartbeats 32000000 in
theorem rread_made (d : Int) (hd1 : 1 ≤ d) (hd2 : d ≤ 100) (ih : RReadAt (d + 1)) (r k p : Nat) (L : List UInt8) (w : World) (h : RRdr w r L k p false) (hk : k ≤ L.length) (hL : L.length ≤ 20000) (hp : p + 1 ≤ 4000) (hs : skipB (L.drop k) [40] = false) (hs2 : skipB ((L.drop k).drop (wordN (L.drop k))) [46] = true) :
    Calls Tryz.prog 62 #[.pointer (some ⟨r, 0, none⟩), .int .i64 d] w (RReadPost w r L k p false d) := by
  obtain ⟨w0, hw0⟩ : ∃ w0, w0 = w.setCell ⟨r, 2, none⟩ (.int .i64 ((p : Int) + 1)) := ⟨_, rfl⟩
  obtain ⟨q4, hq4⟩ : ∃ q, q = w.heap.size := ⟨_, rfl⟩
  obtain ⟨w1, hw1⟩ : ∃ w1, w1 = w0.alloc (.cells #[.int .i64 0, .string ⟨#[]⟩, .string ⟨#[]⟩, .slice none 0 0, .int .i64 0] 24) := ⟨_, rfl⟩
  have hrl := h.cells.2.2.2.2.2
  have hs0 : w0.heap.size = w.heap.size := by rw [hw0]; simp
  have R0 := Lib.hid (show RRdr w0 r L k (p + 1) false by rw [hw0]; exact h.setParts (p + 1))
  have R1 := Lib.hid (show RRdr w1 r L k (p + 1) false from R0.out.called (by rw [hw1]; exact bel_alloc (Below.refl _ _) _))
  have GW := Lib.hid (show w.grownBy w1 (some r) from gb_trans (show w.grownBy w0 (some r) by rw [hw0]; exact gb_set _ _ _ _) (show w0.grownBy w1 (some r) by rw [hw1]; exact gb_alloc _ _ _))
  have HBQ := Lib.hid (show ∀ X, w1.grownBy X (some r) → X.heap[q4]? = some (.cells #[.int .i64 0, .string ⟨#[]⟩, .string ⟨#[]⟩, .slice none 0 0, .int .i64 0] 24 (0, 0)) from fun X hX => by
    have h2 : w1.heap[q4]? = some (.cells #[.int .i64 0, .string ⟨#[]⟩, .string ⟨#[]⟩, .slice none 0 0, .int .i64 0] 24 (0, 0)) := by rw [hw1, hq4, ← hs0]; exact (MapKept.heap_alloc w0 _).1
    exact (hX.block q4 (lt_of_block h2) (fun e => by have := Option.some.inj e; omega)).trans h2)
  have HSZ := Lib.hid (show w.heap.size ≤ q4 ∧ r < w.heap.size ∧ q4 < w1.heap.size ∧ w.heap.size < w1.heap.size from ⟨by omega, hrl, lt_of_block (HBQ.out w1 (gb_refl _ _)), by have := lt_of_block (HBQ.out w1 (gb_refl _ _)); omega⟩)
  obtain ⟨c0, c1, c2, c3, cf, -⟩ := h.cells
  have lr : r < w.heap.size + 1 := by omega
  have HQ4 := Lib.hid hq4; have HW0 := Lib.hid hw0; have HW1 := Lib.hid hw1
  clear hq4 hw0 hw1 hs0
  have t1 : decide (d > 100) = false := decide_eq_false (by omega)
  have t2 : decide ((p : Int) + 1 > 4000) = false := decide_eq_false (by omega)
  have HNB := Lib.hid (show ¬ (false = true ∨ 100 < d ∨ 4000 < p + 1) by simp; omega)
  have HS := Lib.hid (show ¬ skipB (L.drop k) [40] = true by rw [hs]; simp)
  have hic := ris_calls L k (p + 1) r false [40] w1 R1.out hk hL (by simp)
  rw [hs] at hic
  clear h hs
  go_enter Tryz.func62, Tryz.ntmps62
  go_wp2_with fail
  rw [← HW0.out, ← HQ4.out, ← HW1.out]
  refine hic.mono ?_
  rintro e w2 ⟨rfl, hb⟩
  have R2 := Lib.hid (R1.out.called hb)
  have G2 := Lib.hid (show w1.grownBy w2 (some r) from gb_below hb _)
  clear hic hb c0 c1 c2 c3 cf lr
  have hwc := rword_calls L k (p + 1) r false w2 R2.out hk hL
  go_wp2_with fail
  refine hwc.mono ?_
  rintro e w3 ⟨rfl, hr3, hg3⟩
  obtain ⟨k3, hk3⟩ : ∃ k3, k3 = k + wordN (L.drop k) := ⟨_, rfl⟩
  obtain ⟨wd, hwd⟩ : ∃ wd, wd = (L.drop k).take (wordN (L.drop k)) := ⟨_, rfl⟩
  have hk3l : k3 ≤ L.length := by have := wordN_le (L.drop k); rw [List.length_drop] at this; omega
  have HD3 := Lib.hid (show (L.drop k).drop (wordN (L.drop k)) = L.drop k3 by rw [List.drop_drop, hk3])
  rw [← hk3] at hr3
  rw [← hwd]
  have HWD := Lib.hid hwd
  have R3 := Lib.hid hr3
  have G3 := Lib.hid (gb_trans G2.out hg3)
  clear hwc hr3 hg3 hk3 hwd
  have hic := ris_calls L k3 (p + 1) r false [46] w3 R3.out hk3l hL (by simp)
  go_wp2_with fail
  refine hic.mono ?_
  rintro e w4 ⟨rfl, hb⟩
  have R4 := Lib.hid (R3.out.called hb)
  have G4 := Lib.hid (gb_trans G3.out (gb_below hb (some r)))
  clear hic hb
  rw [HD3.out] at hs2
  rw [hs2]
  have HS2 := Lib.hid hs2
  clear hs2
  have hsc := rskip_calls L k3 (p + 1) r false [46] w4 R4.out hk3l hL (by simp)
  go_wp2_with fail
  refine hsc.mono ?_
  rintro e w5 ⟨rfl, k5, hk5, hk5l, hr5, hg5⟩
  have R5 := Lib.hid (show RRdr w5 r L k5 (p + 1) false by rw [HS2.out] at hr5; exact hr5)
  have G5 := Lib.hid (gb_trans G4.out hg5)
  have HK5 := Lib.hid hk5
  clear hsc hr5 hg5 hk5
  have hwc := rword_calls L k5 (p + 1) r false w5 R5.out hk5l hL
  go_wp2_with fail
  refine hwc.mono ?_
  rintro e w6 ⟨rfl, hr6, hg6⟩
  obtain ⟨k6, hk6⟩ : ∃ k6, k6 = k5 + wordN (L.drop k5) := ⟨_, rfl⟩
  obtain ⟨nm, hnm⟩ : ∃ nm, nm = (L.drop k5).take (wordN (L.drop k5)) := ⟨_, rfl⟩
  have hk6l : k6 ≤ L.length := by have := wordN_le (L.drop k5); rw [List.length_drop] at this; omega
  have HD6 := Lib.hid (show (L.drop k5).drop (wordN (L.drop k5)) = L.drop k6 by rw [List.drop_drop, hk6])
  rw [← hk6] at hr6
  rw [← hnm]
  have HNM := Lib.hid hnm
  have R6 := Lib.hid hr6
  have G6 := Lib.hid (gb_trans G5.out hg6)
  clear hwc hr6 hg6 hk6 hnm
  obtain ⟨w7, hw7⟩ : ∃ w7, w7 = w6.alloc (.cells #[.int .i64 4, .string (S wd), .string (S nm), .slice none 0 0, .int .i64 0] 24) := ⟨_, rfl⟩
  obtain ⟨q7, hq7⟩ : ∃ q, q = w6.heap.size := ⟨_, rfl⟩
  have R7 := Lib.hid (show RRdr w7 r L k6 (p + 1) false from R6.out.called (by rw [hw7]; exact bel_alloc (Below.refl _ _) _))
  have G67 := Lib.hid (show w6.grownBy w7 (some r) by rw [hw7]; exact gb_alloc _ _ _)
  have BK7 := Lib.hid (show w7.heap[q7]? = some (.cells #[.int .i64 4, .string (S wd), .string (S nm), .slice none 0 0, .int .i64 0] 24 (0, 0)) by rw [hw7, hq7]; exact (MapKept.heap_alloc w6 _).1)
  have HQ7 := Lib.hid (show r < q7 ∧ q4 < q7 ∧ q7 < w7.heap.size from ⟨by have := HSZ.out; have := G6.out.size; omega, by have := HSZ.out; have := G6.out.size; omega, lt_of_block BK7.out⟩)
  have HB7 := Lib.hid (show ∀ X, w7.grownBy X (some r) → X.heap[q7]? = some (.cells #[.int .i64 4, .string (S wd), .string (S nm), .slice none 0 0, .int .i64 0] 24 (0, 0)) from fun X hX => (hX.block q7 HQ7.out.2.2 (fun e => by have := Option.some.inj e; have := HQ7.out.1; omega)).trans BK7.out)
  have G7 := Lib.hid (gb_trans G6.out G67.out)
  have HOK := Lib.hid (show ∀ ts, Ok1 (.mk 4 wd nm ts 0) from fun ts => by
    have h1 : wd.length ≤ L.length := by rw [HWD.out, List.length_take, List.length_drop]; omega
    have h2 : nm.length ≤ L.length := by rw [HNM.out, List.length_take, List.length_drop]; omega
    exact ⟨by simp only [Ty.mod]; omega, by simp only [Ty.name]; omega⟩)
  have hic := ris_calls L k6 (p + 1) r false [91] w7 R7.out hk6l hL (by simp)
  go_wp2_with fail
  rw [← hw7, ← hq7]
  clear hw7 hq7
  refine hic.mono ?_
  rintro e w8 ⟨rfl, hb⟩
  have R8 := Lib.hid (R7.out.called hb)
  have G78 := Lib.hid (show w7.grownBy w8 (some r) from gb_below hb _)
  clear hic hb
  have HE0 := Lib.hid (show (skipL ((L.drop k).drop (wordN (L.drop k))) [46]) = L.drop k5 by rw [HD3.out, HK5.out])
  cases hs3 : skipB (L.drop k6) [91] with
  | true =>
    have HS3 := Lib.hid hs3
    clear hs3
    have hsc := rskip_calls L k6 (p + 1) r false [91] w8 R8.out hk6l hL (by simp)
    go_wp2_with fail
    refine hsc.mono ?_
    rintro e w9 ⟨rfl, k9, hk9, hk9l, hr9, hg9⟩
    have R9 := Lib.hid (show RRdr w9 r L k9 (p + 1) false by rw [HS3.out] at hr9; exact hr9)
    have G79 := Lib.hid (gb_trans G78.out hg9)
    have HK9 := Lib.hid hk9
    clear hsc hr9 hg9 hk9
    have hlc := rlist_calls (d + 1) (by omega) (by omega) ih r k9 (p + 1) L [93] (by simp) false w9 R9.out hk9l hL hp
    go_wp2_with fail
    refine hlc.mono ?_
    rintro e w10 ⟨f4, ts, p4, b4, k4, v4, hF4, rfl, own4, hlen4, hk44, hr4, hg4⟩
    obtain ⟨A6, c6, hv6, -⟩ := own4.length
    subst hv6
    obtain ⟨nl, hnl⟩ : ∃ nl, nl = ts.length := ⟨_, rfl⟩
    rw [← hnl] at own4 ⊢
    have HNL := Lib.hid hnl; have HF4 := Lib.hid hF4; have HO4 := Lib.hid own4; have R10 := Lib.hid hr4
    have G710 := Lib.hid (gb_trans G79.out hg4)
    have BK10 := Lib.hid (HB7.out w10 G710.out)
    have BQ10 := Lib.hid (HBQ.out w10 (gb_trans G7.out G710.out))
    have S910 := Lib.hid (show q7 < w9.heap.size by have := HQ7.out; have := G79.out.size; omega)
    have HLN := Lib.hid hlen4
    have hne : q7 ≠ q4 := by have := HQ7.out; omega
    have hl7 := lt_of_block BK10.out
    have hl4 := lt_of_block BQ10.out
    clear hlc hnl hF4 own4 hr4 hg4 hlen4
    obtain ⟨y0, y1, y2, y3, y4, yf⟩ := five_cells BK10.out
    obtain ⟨z0, z1, z2, z3, z4, zf⟩ := five_cells BQ10.out
    go_wp2_with fail
    obtain ⟨X, hX⟩ : ∃ X, X = w10.setCell ⟨q7, 3, none⟩ (.slice A6 nl c6) := ⟨_, rfl⟩
    rw [← hX]
    have GX := gb_set w10 q7 3 (.slice A6 nl c6)
    rw [← hX] at GX
    have BQX := (GX.block q4 hl4 (fun e => hne (Option.some.inj e).symm)).trans BQ10.out
    (try simp only [Exit.inBlock, Exit.then])
    refine bodyPost_ret (results_cell_row rfl _ _ q4 24 #[.int .i64 4, .string (S wd), .string (S nm), .slice A6 nl c6, .int .i64 0] (0, 0) _ (by rfl) (p5w_blk BQX) Tryz.underlying24 rfl sizeTy) rfl ?_
    have hz := HSZ.out
    have hnl := HNL.out
    subst hnl
    have hq7 := HQ7.out
    refine read_end (t := .mk 4 wd nm ts 0) (f := f4 + 1) hz.1 hz.2.1 BQX (gb_own (gb_trans GW.out (gb_trans G7.out G710.out)) GX (fun z e => by have := Option.some.inj e; omega)) (R10.out.grown GX (fun e => by have := Option.some.inj e; omega)) hk44 ?_ (HOK.out _) ?_
    · rw [rreadF, if_neg HNB.out, if_neg HS.out, HE0.out, HD6.out, HD3.out, if_pos HS2.out, if_pos HS3.out, ← HK9.out, HF4.out, ← HWD.out, ← HNM.out]
    · have hrd := HO4.out.read (by have := HLN.out; omega) (fun b => w9.heap.size ≤ b ∧ b < w10.heap.size) (fun b h1 h2 => ⟨h1, h2⟩) (fun b hb => HO4.out.lt b hb)
      have h9 := S910.out
      exact hrd.turn (fun b hb => ⟨by omega, Nat.lt_of_lt_of_le hb.2 GX.size, by omega⟩) (fun b o hb => World.cell?_of_block (GX.block b hb.2 (fun e => by have := Option.some.inj e; omega)))
  | false =>
    have HS3 := Lib.hid (show ¬ skipB (L.drop k6) [91] = true by rw [hs3]; simp)
    clear hs3
    have BK8 := Lib.hid (HB7.out w8 G78.out)
    have BQ8 := Lib.hid (HBQ.out w8 (gb_trans G7.out G78.out))
    have hne : q7 ≠ q4 := by have := HQ7.out; omega
    obtain ⟨y0, y1, y2, y3, y4, yf⟩ := five_cells BK8.out
    obtain ⟨z0, z1, z2, z3, z4, zf⟩ := five_cells BQ8.out
    go_wp2
    (try simp only [Exit.inBlock, Exit.then])
    refine bodyPost_ret (results_cell_row rfl _ _ q4 24 #[.int .i64 4, .string (S wd), .string (S nm), .slice none 0 0, .int .i64 0] (0, 0) _ (by rfl) (p5w_blk BQ8.out) Tryz.underlying24 rfl sizeTy) rfl ?_
    have hz := HSZ.out
    refine read_end (t := .mk 4 wd nm [] 0) (f := 1) hz.1 hz.2.1 BQ8.out (gb_trans GW.out (gb_trans G7.out G78.out)) R8.out hk6l ?_ (HOK.out _) (RdL_nil _ _)
    rw [rreadF, if_neg HNB.out, if_neg HS.out, HE0.out, HD6.out, HD3.out, if_pos HS2.out, if_neg HS3.out, ← HWD.out, ← HNM.out]


set_option maxRecDepth 100000 in
set_option maxHeartbeats 32000000 in
theorem rread_leaf (d : Int) (hd1 : 1 ≤ d) (hd2 : d ≤ 100) (ih : RReadAt (d + 1)) (r k p : Nat) (L : List UInt8) (w : World) (h : RRdr w r L k p false) (hk : k ≤ L.length) (hL : L.length ≤ 20000) (hp : p + 1 ≤ 4000) (hs : skipB (L.drop k) [40] = false) (hs2 : skipB ((L.drop k).drop (wordN (L.drop k))) [46] = false) :
    Calls Tryz.prog 62 #[.pointer (some ⟨r, 0, none⟩), .int .i64 d] w (RReadPost w r L k p false d) := by
  obtain ⟨w0, hw0⟩ : ∃ w0, w0 = w.setCell ⟨r, 2, none⟩ (.int .i64 ((p : Int) + 1)) := ⟨_, rfl⟩
  obtain ⟨q4, hq4⟩ : ∃ q, q = w.heap.size := ⟨_, rfl⟩
  obtain ⟨w1, hw1⟩ : ∃ w1, w1 = w0.alloc (.cells #[.int .i64 0, .string ⟨#[]⟩, .string ⟨#[]⟩, .slice none 0 0, .int .i64 0] 24) := ⟨_, rfl⟩
  have hrl := h.cells.2.2.2.2.2
  have hs0 : w0.heap.size = w.heap.size := by rw [hw0]; simp
  have R0 := Lib.hid (show RRdr w0 r L k (p + 1) false by rw [hw0]; exact h.setParts (p + 1))
  have R1 := Lib.hid (show RRdr w1 r L k (p + 1) false from R0.out.called (by rw [hw1]; exact bel_alloc (Below.refl _ _) _))
  have GW := Lib.hid (show w.grownBy w1 (some r) from gb_trans (show w.grownBy w0 (some r) by rw [hw0]; exact gb_set _ _ _ _) (show w0.grownBy w1 (some r) by rw [hw1]; exact gb_alloc _ _ _))
  have HBQ := Lib.hid (show ∀ X, w1.grownBy X (some r) → X.heap[q4]? = some (.cells #[.int .i64 0, .string ⟨#[]⟩, .string ⟨#[]⟩, .slice none 0 0, .int .i64 0] 24 (0, 0)) from fun X hX => by
    have h2 : w1.heap[q4]? = some (.cells #[.int .i64 0, .string ⟨#[]⟩, .string ⟨#[]⟩, .slice none 0 0, .int .i64 0] 24 (0, 0)) := by rw [hw1, hq4, ← hs0]; exact (MapKept.heap_alloc w0 _).1
    exact (hX.block q4 (lt_of_block h2) (fun e => by have := Option.some.inj e; omega)).trans h2)
  have HSZ := Lib.hid (show w.heap.size ≤ q4 ∧ r < w.heap.size ∧ q4 < w1.heap.size ∧ w.heap.size < w1.heap.size from ⟨by omega, hrl, lt_of_block (HBQ.out w1 (gb_refl _ _)), by have := lt_of_block (HBQ.out w1 (gb_refl _ _)); omega⟩)
  obtain ⟨c0, c1, c2, c3, cf, -⟩ := h.cells
  have lr : r < w.heap.size + 1 := by omega
  have HQ4 := Lib.hid hq4; have HW0 := Lib.hid hw0; have HW1 := Lib.hid hw1
  clear hq4 hw0 hw1 hs0
  have t1 : decide (d > 100) = false := decide_eq_false (by omega)
  have t2 : decide ((p : Int) + 1 > 4000) = false := decide_eq_false (by omega)
  have HNB := Lib.hid (show ¬ (false = true ∨ 100 < d ∨ 4000 < p + 1) by simp; omega)
  have HS := Lib.hid (show ¬ skipB (L.drop k) [40] = true by rw [hs]; simp)
  have hic := ris_calls L k (p + 1) r false [40] w1 R1.out hk hL (by simp)
  rw [hs] at hic
  clear h hs
  go_enter Tryz.func62, Tryz.ntmps62
  go_wp2_with fail
  rw [← HW0.out, ← HQ4.out, ← HW1.out]
  refine hic.mono ?_
  rintro e w2 ⟨rfl, hb⟩
  have R2 := Lib.hid (R1.out.called hb)
  have G2 := Lib.hid (show w1.grownBy w2 (some r) from gb_below hb _)
  clear hic hb c0 c1 c2 c3 cf lr
  have hwc := rword_calls L k (p + 1) r false w2 R2.out hk hL
  go_wp2_with fail
  refine hwc.mono ?_
  rintro e w3 ⟨rfl, hr3, hg3⟩
  obtain ⟨k3, hk3⟩ : ∃ k3, k3 = k + wordN (L.drop k) := ⟨_, rfl⟩
  obtain ⟨wd, hwd⟩ : ∃ wd, wd = (L.drop k).take (wordN (L.drop k)) := ⟨_, rfl⟩
  have hk3l : k3 ≤ L.length := by have := wordN_le (L.drop k); rw [List.length_drop] at this; omega
  have HD3 := Lib.hid (show (L.drop k).drop (wordN (L.drop k)) = L.drop k3 by rw [List.drop_drop, hk3])
  rw [← hk3] at hr3
  rw [← hwd]
  have HWD := Lib.hid hwd
  have R3 := Lib.hid hr3
  have G3 := Lib.hid (gb_trans G2.out hg3)
  clear hwc hr3 hg3 hk3 hwd
  have hic := ris_calls L k3 (p + 1) r false [46] w3 R3.out hk3l hL (by simp)
  go_wp2_with fail
  refine hic.mono ?_
  rintro e w4 ⟨rfl, hb⟩
  have R4 := Lib.hid (R3.out.called hb)
  have G4 := Lib.hid (gb_trans G3.out (gb_below hb (some r)))
  clear hic hb
  have HF := Lib.hid (show rreadF 1 (L.drop k) p false d = some ((rleaf wd).1, L.drop k3, p + 1, (rleaf wd).2) by rw [rreadF, if_neg HNB.out, if_neg HS.out, if_neg (by rw [hs2]; simp), HD3.out, HWD.out])
  rw [HD3.out] at hs2
  rw [hs2]
  clear hs2
  have BQ4 := Lib.hid (HBQ.out w4 G4.out)
  obtain ⟨z0, z1, z2, z3, z4, zf⟩ := five_cells BQ4.out
  obtain ⟨c0, c1, c2, c3, cf, -⟩ := R4.out.cells
  have HWL := Lib.hid (show wd.length ≤ 20000 by rw [HWD.out, List.length_take, List.length_drop]; omega)
  by_cases e1 : wd = [73, 110, 116]
  · have HL := Lib.hid (show rleaf wd = (.mk 1 [] [] [] 0, false) by rw [e1]; rfl)
    have q1 : (wd == [73, 110, 116]) = true := by rw [e1]; rfl
    clear e1
    go_wp2
    (try simp only [Exit.inBlock, Exit.then])
    refine bodyPost_ret (results_cell_row rfl _ _ q4 24 #[.int .i64 1, .string ⟨#[]⟩, .string ⟨#[]⟩, .slice none 0 0, .int .i64 0] (0, 0) _ (by rfl) (p5w_blk BQ4.out) Tryz.underlying24 rfl sizeTy) rfl ?_
    exact read_end (t := .mk 1 [] [] [] 0) (f := 1) HSZ.out.1 HSZ.out.2.1 BQ4.out (gb_trans GW.out G4.out) R4.out hk3l (by rw [HF.out, HL.out]) (ok_plain _ _ _) (RdL_nil _ _)
  · have q1 : (wd == [73, 110, 116]) = false := by simpa using e1
    by_cases e2 : wd = [66, 111, 111, 108]
    · have HL := Lib.hid (show rleaf wd = (.mk 2 [] [] [] 0, false) by rw [e2]; rfl)
      have q2 : (wd == [66, 111, 111, 108]) = true := by rw [e2]; rfl
      clear e1 e2
      go_wp2
      (try simp only [Exit.inBlock, Exit.then])
      refine bodyPost_ret (results_cell_row rfl _ _ q4 24 #[.int .i64 2, .string ⟨#[]⟩, .string ⟨#[]⟩, .slice none 0 0, .int .i64 0] (0, 0) _ (by rfl) (p5w_blk BQ4.out) Tryz.underlying24 rfl sizeTy) rfl ?_
      exact read_end (t := .mk 2 [] [] [] 0) (f := 1) HSZ.out.1 HSZ.out.2.1 BQ4.out (gb_trans GW.out G4.out) R4.out hk3l (by rw [HF.out, HL.out]) (ok_plain _ _ _) (RdL_nil _ _)
    · have q2 : (wd == [66, 111, 111, 108]) = false := by simpa using e2
      by_cases e3 : wd = [84, 101, 120, 116]
      · have HL := Lib.hid (show rleaf wd = (.mk 3 [] [] [] 0, false) by rw [e3]; rfl)
        have q3 : (wd == [84, 101, 120, 116]) = true := by rw [e3]; rfl
        clear e1 e2 e3
        go_wp2
        (try simp only [Exit.inBlock, Exit.then])
        refine bodyPost_ret (results_cell_row rfl _ _ q4 24 #[.int .i64 3, .string ⟨#[]⟩, .string ⟨#[]⟩, .slice none 0 0, .int .i64 0] (0, 0) _ (by rfl) (p5w_blk BQ4.out) Tryz.underlying24 rfl sizeTy) rfl ?_
        exact read_end (t := .mk 3 [] [] [] 0) (f := 1) HSZ.out.1 HSZ.out.2.1 BQ4.out (gb_trans GW.out G4.out) R4.out hk3l (by rw [HF.out, HL.out]) (ok_plain _ _ _) (RdL_nil _ _)
      · have q3 : (wd == [84, 101, 120, 116]) = false := by simpa using e3
        have HR0 := Lib.hid (show rleaf wd = if wd.length = 0 ∨ 1048576 < rnum 0 (wd.drop 1) then (.mk 0 [] [] [] 0, true) else (.mk 6 [] [] [] (26 * rnum 0 (wd.drop 1) + ((at_ wd 0).toNat : Int) - 97), false) by rw [rleaf, if_neg e1, if_neg e2, if_neg e3])
        have hwl := HWL.out
        clear e1 e2 e3
        go_wp2_with fail
        go_loopw [8, 9] (fun u8 u9 wr => ∃ (i : Nat) (z : Int), u8 = .int .i64 z ∧ u9 = .int .i64 (i : Int) ∧ 1 ≤ i ∧ i ≤ wd.length + 1 ∧ 0 ≤ z ∧ z ≤ 10486015 ∧ Hid (rnum 0 (wd.drop 1) = rnum z (wd.drop i)) ∧ wr = w4) (fun _ u9 _ => wd.length + 1 - (intOf u9).toNat)
        case atStart => exact ⟨1, 0, rfl, rfl, by omega, by omega, by omega, by omega, Lib.hid rfl, rfl⟩
        case round =>
          obtain ⟨i, z, rfl, rfl, hi1, hi2, hz0, hz1, hE, rfl⟩ := hrel
          have i0 : (0 : Int) ≤ (i : Int) := by omega
          have hout : ¬ (i < wd.length ∧ z ≤ 1048576) → rnum 0 (wd.drop 1) = z := fun hn => by
            rw [hE.out]
            by_cases h1 : i < wd.length
            · have h2 : ¬ z ≤ 1048576 := fun h2 => hn ⟨h1, h2⟩
              rw [List.drop_eq_getElem_cons h1, rnum, if_neg h2]
            · rw [List.drop_eq_nil_of_le (by omega)]; rfl
          have HOUT := Lib.hid hout
          clear hout
          by_cases hlt : i < wd.length
          · have i1 : (i : Int) < (wd.length : Int) := by omega
            by_cases hz : z ≤ 1048576
            · have tz : decide (z ≤ 1048576) = true := decide_eq_true hz
              obtain ⟨g, hg⟩ : ∃ g, g = (at_ wd i - 48).toNat := ⟨_, rfl⟩
              have us : IntKind.u8.wrap (((at_ wd i).toNat : Int) - 48) = (g : Int) := by rw [hg]; exact u8_sub_wrap _
              have hg2 : g < 256 := by rw [hg]; exact (at_ wd i - 48).toNat_lt
              have g0 : (0 : Int) ≤ (g : Int) := by omega
              have g1 : (g : Int) < 256 := by omega
              have HE2 := Lib.hid (show rnum 0 (wd.drop 1) = rnum (10 * z + (g : Int)) (wd.drop (i + 1)) by
                rw [hE.out, List.drop_eq_getElem_cons hlt, rnum, if_pos hz, hg]
                congr 3
                simp [at_, List.getD_eq_getElem?_getD, List.getElem?_eq_getElem hlt])
              clear hg hg2 hE
              go_wp2
              go_roundw
              case rel => exact ⟨i + 1, 10 * z + (g : Int), by go_num, by go_num, by omega, by omega, by omega, by omega, HE2, trivial⟩
              case measure => simp [intOf]; omega
            · have tz : decide (z ≤ 1048576) = false := decide_eq_false hz
              have hzz := HOUT.out (fun h => hz h.2)
              have HL := Lib.hid (show rleaf wd = (.mk 0 [] [] [] 0, true) by rw [HR0.out, if_pos (.inr (by omega))])
              have ty : decide (z > 1048576) = true := decide_eq_true (by omega)
              have tl : ((wd.length : Int) == 0) = false := by rw [beq_eq_false_iff_ne]; omega
              clear hzz hE hz hlt
              have hne : r ≠ q4 := by have := HSZ.out; omega
              go_wp2
              obtain ⟨X, hX⟩ : ∃ X, X = wr.setCell ⟨r, 3, none⟩ (.bool true) := ⟨_, rfl⟩
              rw [← hX]
              have GX : w1.grownBy X (some r) := by rw [hX]; exact gb_trans G4.out (gb_set _ _ _ _)
              have RX : RRdr X r L k3 (p + 1) true := by rw [hX]; exact R4.out.setBad true
              have BQX := HBQ.out X GX
              (try simp only [Exit.inBlock, Exit.then])
              refine bodyPost_ret (results_cell_row rfl _ _ q4 24 #[.int .i64 0, .string ⟨#[]⟩, .string ⟨#[]⟩, .slice none 0 0, .int .i64 0] (0, 0) _ (by rfl) (p5w_blk BQX) Tryz.underlying24 rfl sizeTy) rfl ?_
              exact read_end (t := .mk 0 [] [] [] 0) (f := 1) HSZ.out.1 HSZ.out.2.1 BQX (gb_trans GW.out GX) RX hk3l (by rw [HF.out, HL.out]) (ok_plain _ _ _) (RdL_nil _ _)
          · have i1 : ¬ ((i : Int) < (wd.length : Int)) := by omega
            have hzz := HOUT.out (fun h => hlt h.1)
            by_cases hl0 : wd.length = 0
            · have HL := Lib.hid (show rleaf wd = (.mk 0 [] [] [] 0, true) by rw [HR0.out, if_pos (.inl hl0)])
              have tl : ((wd.length : Int) == 0) = true := by simp [hl0]
              clear hzz hE hl0 hlt
              have hne : r ≠ q4 := by have := HSZ.out; omega
              go_wp2
              obtain ⟨X, hX⟩ : ∃ X, X = wr.setCell ⟨r, 3, none⟩ (.bool true) := ⟨_, rfl⟩
              rw [← hX]
              have GX : w1.grownBy X (some r) := by rw [hX]; exact gb_trans G4.out (gb_set _ _ _ _)
              have RX : RRdr X r L k3 (p + 1) true := by rw [hX]; exact R4.out.setBad true
              have BQX := HBQ.out X GX
              (try simp only [Exit.inBlock, Exit.then])
              refine bodyPost_ret (results_cell_row rfl _ _ q4 24 #[.int .i64 0, .string ⟨#[]⟩, .string ⟨#[]⟩, .slice none 0 0, .int .i64 0] (0, 0) _ (by rfl) (p5w_blk BQX) Tryz.underlying24 rfl sizeTy) rfl ?_
              exact read_end (t := .mk 0 [] [] [] 0) (f := 1) HSZ.out.1 HSZ.out.2.1 BQX (gb_trans GW.out GX) RX hk3l (by rw [HF.out, HL.out]) (ok_plain _ _ _) (RdL_nil _ _)
            · have tl : ((wd.length : Int) == 0) = false := by simpa using hl0
              by_cases hz : z ≤ 1048576
              · have ty : decide (z > 1048576) = false := decide_eq_false (by omega)
                have HL := Lib.hid (show rleaf wd = (.mk 6 [] [] [] (26 * z + ((at_ wd 0).toNat : Int) - 97), false) by rw [HR0.out, if_neg (by rw [hzz]; omega), hzz])
                have l0 : (0 : Int) < (wd.length : Int) := by omega
                obtain ⟨g, hg⟩ : ∃ g, g = (at_ wd 0).toNat := ⟨_, rfl⟩
                have g0 : (0 : Int) ≤ (g : Int) := by omega
                have g1 : (g : Int) < 256 := by have := (at_ wd 0).toNat_lt; omega
                have hv : (g : Int) = ((at_ wd 0).toNat : Int) := by rw [hg]
                have HL := Lib.hid (show rleaf wd = (.mk 6 [] [] [] (26 * z + (g : Int) - 97), false) by rw [HL.out, hv])
                rw [hg] at g0 g1
                have HG := Lib.hid hg
                clear hzz hE hl0 hg hv hz hlt
                go_wp2
                (try simp only [Exit.inBlock, Exit.then])
                refine bodyPost_ret (results_cell_row rfl _ _ q4 24 #[.int .i64 6, .string ⟨#[]⟩, .string ⟨#[]⟩, .slice none 0 0, .int .i64 (26 * z + ((at_ wd 0).toNat : Int) - 97)] (0, 0) _ (by rfl) (p5w_blk BQ4.out) Tryz.underlying24 rfl sizeTy) rfl ?_
                exact read_end (t := .mk 6 [] [] [] (26 * z + ((at_ wd 0).toNat : Int) - 97)) (f := 1) HSZ.out.1 HSZ.out.2.1 BQ4.out (gb_trans GW.out G4.out) R4.out hk3l (by rw [HF.out, HL.out, HG.out]) (ok_plain _ _ _) (RdL_nil _ _)
              · have HL := Lib.hid (show rleaf wd = (.mk 0 [] [] [] 0, true) by rw [HR0.out, if_pos (.inr (by omega))])
                have ty : decide (z > 1048576) = true := decide_eq_true (by omega)
                clear hzz hE hl0 hz hlt
                have hne : r ≠ q4 := by have := HSZ.out; omega
                go_wp2
                obtain ⟨X, hX⟩ : ∃ X, X = wr.setCell ⟨r, 3, none⟩ (.bool true) := ⟨_, rfl⟩
                rw [← hX]
                have GX : w1.grownBy X (some r) := by rw [hX]; exact gb_trans G4.out (gb_set _ _ _ _)
                have RX : RRdr X r L k3 (p + 1) true := by rw [hX]; exact R4.out.setBad true
                have BQX := HBQ.out X GX
                (try simp only [Exit.inBlock, Exit.then])
                refine bodyPost_ret (results_cell_row rfl _ _ q4 24 #[.int .i64 0, .string ⟨#[]⟩, .string ⟨#[]⟩, .slice none 0 0, .int .i64 0] (0, 0) _ (by rfl) (p5w_blk BQX) Tryz.underlying24 rfl sizeTy) rfl ?_
                exact read_end (t := .mk 0 [] [] [] 0) (f := 1) HSZ.out.1 HSZ.out.2.1 BQX (gb_trans GW.out GX) RX hk3l (by rw [HF.out, HL.out]) (ok_plain _ _ _) (RdL_nil _ _)

theorem rread_at : ∀ (n : Nat) (d : Int), 1 ≤ d → d ≤ 101 → (101 - d).toNat ≤ n → RReadAt d := by
  intro n
  induction n with
  | zero =>
    intro d hd1 hd2 hn r k p L bad w h hk hL hp
    exact rread_bad d hd1 hd2 r k p L bad w h hk hL hp (.inr (.inl (by omega)))
  | succ n ih =>
    intro d hd1 hd2 hn r k p L bad w h hk hL hp
    by_cases hb : bad = true ∨ 100 < d ∨ 4000 < p + 1
    · exact rread_bad d hd1 hd2 r k p L bad w h hk hL hp hb
    · obtain ⟨hb1, hb2, hb3⟩ : bad = false ∧ d ≤ 100 ∧ p + 1 ≤ 4000 := by
        simp only [not_or] at hb
        exact ⟨by simpa using hb.1, by omega, by omega⟩
      subst hb1
      have ih2 := ih (d + 1) (by omega) (by omega) (by omega)
      cases hs : skipB (L.drop k) [40] with
      | true => exact rread_fn d hd1 hb2 ih2 r k p L w h hk hL hb3 hs
      | false =>
        cases hs2 : skipB ((L.drop k).drop (wordN (L.drop k))) [46] with
        | true => exact rread_made d hd1 hb2 ih2 r k p L w h hk hL hb3 hs hs2
        | false => exact rread_leaf d hd1 hb2 ih2 r k p L w h hk hL hb3 hs hs2
theorem rread_calls : RReadAt 1 := rread_at 100 1 (by omega) (by omega) (by omega)

end Go.Proofs.YtplnfepdikbpfaaGreatDoor
