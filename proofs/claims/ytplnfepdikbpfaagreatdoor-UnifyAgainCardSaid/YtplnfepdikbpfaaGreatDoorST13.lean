/- The walk of law14's alive: it is true. Condition: the world's tables (EnvB). -/
import Derived.Test.YtplnfepdikbpfaaGreatDoorPW
import Derived.Test.YtplnfepdikbpfaaGreatDoorST11
import Derived.Test.YtplnfepdikbpfaaGreatDoorBD
import Derived.Test.YtplnfepdikbpfaaGreatDoorSU
import Derived.Test.YtplnfepdikbpfaaGreatDoorUZ
namespace Go.Proofs.YtplnfepdikbpfaaGreatDoor
open Go.RowKit
open Go.Proofs.YtplnfepdikbpfaaGreatDoorW.PrintLast
set_option linter.unusedVariables false
set_option linter.unusedSimpArgs false
attribute [local go_sem ↓] Go.wp_at_zero Go.wp_at_succ

set_option maxRecDepth 100000 in
set_option maxHeartbeats 4000000 in
theorem v_calls (n : Int) (w : World) : Calls Tryz.prog 34 #[.int .i64 n] w fun e w' => e = .returned (.agg #[.int .i64 6, .string ⟨#[]⟩, .string ⟨#[]⟩, .slice none 0 0, .int .i64 n]) ∧ Below w.heap.size w w' := by
  go_enter Tryz.func34, Tryz.ntmps34
  go_wp2
  refine bodyPost_ret (results_cell_row rfl _ _ w.heap.size 24 #[.int .i64 6, .string ⟨#[]⟩, .string ⟨#[]⟩, .slice none 0 0, .int .i64 n] (0, 0) _ (by rfl) (MapKept.heap_alloc w _).1 Tryz.underlying24 rfl sizeTy) rfl ?_
  exact ⟨rfl, bel_alloc (Below.refl _ _) _⟩
set_option maxRecDepth 100000 in
set_option maxHeartbeats 4000000 in
theorem fn_calls (A : Option Addr) (n c : Nat) (w : World) : Calls Tryz.prog 54 #[.slice A n c] w fun e w' => e = .returned (.agg #[.int .i64 5, .string ⟨#[]⟩, .string ⟨#[]⟩, .slice A n c, .int .i64 0]) ∧ Below w.heap.size w w' := by
  go_enter Tryz.func54, Tryz.ntmps54
  go_wp2
  refine bodyPost_ret (results_cell_row rfl _ _ w.heap.size 24 #[.int .i64 5, .string ⟨#[]⟩, .string ⟨#[]⟩, .slice A n c, .int .i64 0] (0, 0) _ (by rfl) (MapKept.heap_alloc w _).1 Tryz.underlying24 rfl sizeTy) rfl ?_
  exact ⟨rfl, bel_alloc (Below.refl _ _) _⟩

theorem cells_of_blk {W : World} {g : Nat} {c : Array Value} {T : TypeId} (h : W.heap[g]? = some (.cells c T (0, 0))) (j : Nat) (u : Value) (hu : c.toList[j]? = some u) : W.cell? ⟨g, 0 + j, none⟩ = some u := by
  simp [World.cell?, h]
  rw [← hu, Array.getElem?_toList]
/-- A new block of types reads. -/
theorem rd_new (L : List TyI) (w : World) (hL : ∀ x ∈ L, Ok1 x.1 ∧ Rd w (.slice x.2.1 x.1.args.length x.2.2) x.1.args) (hn : L.length ≤ 1000) (T : TypeId) :
    Rd (w.alloc (.cells (tyCells L).toArray T)) (.slice (some ⟨w.heap.size, 0, none⟩) L.length L.length) (L.map (·.1)) := by
  have hb := (MapKept.heap_alloc w (.cells (tyCells L).toArray T)).1
  refine ⟨some ⟨w.heap.size, 0, none⟩, L.length, by simp, ⟨by simp; omega, by simp⟩, fun _ => ⟨w.heap.size, 0, rfl, by simp, RdF_of fun k hk' => ?_⟩⟩
  have hkL : k < L.length := by simpa using hk'
  have e : tyAt (L.map (·.1)) k = L[k].1 := by simp [tyAt, List.getD_eq_getElem?_getD, List.getElem?_eq_getElem hkL]
  have hx := hL _ (List.getElem_mem hkL)
  have cc : ∀ j u, j < 5 → [Value.int .i64 L[k].1.kind, .string (S L[k].1.mod), .string (S L[k].1.name), .slice L[k].2.1 L[k].1.args.length L[k].2.2, .int .i64 L[k].1.var][j]? = some u → (w.alloc (.cells (tyCells L).toArray T)).cell? ⟨w.heap.size, 0 + (k * 5 + j), none⟩ = some u := fun j u hj hu => cells_of_blk hb _ _ (by rw [List.toList_toArray, tyCells_at L k hkL j hj]; exact hu)
  rw [e, RdT_def]
  refine ⟨cc 0 _ (by omega) rfl, cc 1 _ (by omega) rfl, cc 2 _ (by omega) rfl, hx.1, ⟨_, cc 3 _ (by omega) rfl, hx.2.below (bel_alloc (Below.refl _ _) _)⟩, cc 4 _ (by omega) rfl⟩
/-- A new block of pairs reads. -/
theorem rdB_new (L : List BdI) (w : World) (hL : ∀ x ∈ L, Ok1 x.2.1 ∧ Rd w (.slice x.2.2.1 x.2.1.args.length x.2.2.2) x.2.1.args) (hn : L.length ≤ 1000) (T : TypeId) :
    RdBw (w.alloc (.cells (bdCells L).toArray T)) (.slice (some ⟨w.heap.size, 0, none⟩) L.length L.length) (L.map bdOf) := by
  have hb := (MapKept.heap_alloc w (.cells (bdCells L).toArray T)).1
  refine ⟨some ⟨w.heap.size, 0, none⟩, L.length, by simp, ⟨by simp; omega, by simp⟩, fun _ => ⟨w.heap.size, 0, rfl, by simp, fun k x hx => ?_⟩⟩
  rw [List.getElem?_map] at hx
  obtain ⟨y, hy, rfl⟩ := Option.map_eq_some_iff.1 hx
  obtain ⟨hkL, rfl⟩ := List.getElem?_eq_some_iff.1 hy
  have hx := hL _ (List.getElem_mem hkL)
  have cc : ∀ j u, j < 6 → (encB L[k])[j]? = some u → (w.alloc (.cells (bdCells L).toArray T)).cell? ⟨w.heap.size, 0 + (k * 6 + j), none⟩ = some u := fun j u hj hu => cells_of_blk hb _ _ (by rw [List.toList_toArray, bdCells_at L k hkL j hj]; exact hu)
  refine ⟨cc 0 _ (by omega) rfl, ?_⟩
  rw [RdT_def]
  have e : ∀ j, 0 + k * 6 + 1 + j = 0 + (k * 6 + (j + 1)) := fun j => by omega
  exact ⟨by have := cc 1 _ (by omega) rfl; rwa [← e 0] at this, by rw [e 1]; exact cc 2 _ (by omega) rfl, by rw [e 2]; exact cc 3 _ (by omega) rfl, hx.1, ⟨_, by rw [e 3]; exact cc 4 _ (by omega) rfl, hx.2.below (bel_alloc (Below.refl _ _) _)⟩, by rw [e 4]; exact cc 5 _ (by omega) rfl⟩
theorem bel_t {N : Nat} {w W X : World} (h : Below N w W) (k : Below W.heap.size W X) (hN : N ≤ w.heap.size) : Below N w X := h.trans (k.mono (Nat.le_trans hN h.size))
theorem bel_a (w : World) (o : Obj) : Below w.heap.size w (w.alloc o) := bel_alloc (Below.refl _ _) _
theorem ok_nil (k v : Int) (xs : List Ty) : Ok1 (.mk k [] [] xs v) := ⟨by simp [Ty.mod], by simp [Ty.name]⟩

set_option maxRecDepth 100000 in
set_option maxHeartbeats 64000000 in
theorem alive_calls (w : World) (he : EnvB w.heap.size w) : Calls Tryz.prog 19 #[] w fun e w' => e = .returned (.bool true) ∧ Below w.heap.size w w' := by
  obtain ⟨w1, hw1⟩ : ∃ w1, w1 = w.alloc (.cells #[.int .i64 1, .string ⟨#[]⟩, .string ⟨#[]⟩, .slice none 0 0, .int .i64 0] 24) := ⟨_, rfl⟩
  obtain ⟨q1, hq1⟩ : ∃ q1, q1 = w.heap.size := ⟨_, rfl⟩
  have BW := Lib.hid (show Below w.heap.size w w1 by rw [hw1]; exact bel_a _ _)
  have blk1 := Lib.hid (show w1.heap[q1]? = some (.cells #[.int .i64 1, .string ⟨#[]⟩, .string ⟨#[]⟩, .slice none 0 0, .int .i64 0] 24 (0, 0)) by rw [hw1, hq1]; exact (MapKept.heap_alloc w _).1)
  have K1 := Lib.hid (show ∀ X, Below w1.heap.size w1 X → X.cell? ⟨q1, 0, none⟩ = some (.int .i64 1) ∧ X.cell? ⟨q1, 1, none⟩ = some (.string ⟨#[]⟩) ∧ X.cell? ⟨q1, 2, none⟩ = some (.string ⟨#[]⟩) ∧ X.cell? ⟨q1, 3, none⟩ = some (.slice none 0 0) ∧ X.cell? ⟨q1, 4, none⟩ = some (.int .i64 0) from fun X hb => by
    obtain ⟨a0, a1, a2, a3, a4, -⟩ := five_cells blk1.out
    have la := lt_of_block blk1.out
    have ca : ∀ o, X.cell? ⟨q1, o, none⟩ = w1.cell? ⟨q1, o, none⟩ := fun o => hb.cell (p := ⟨q1, o, none⟩) la
    exact ⟨(ca 0).trans a0, (ca 1).trans a1, (ca 2).trans a2, (ca 3).trans a3, (ca 4).trans a4⟩)
  have HE := Lib.hid (show (∀ X, Below w1.heap.size w1 X → TabW X) ∧ (∀ X, Below w1.heap.size w1 X → EnvB X.heap.size X) from ⟨fun X h => (he X (bel_t BW.out h (Nat.le_refl _))).1, fun X h W hW => he W (bel_t (bel_t BW.out h (Nat.le_refl _)) hW (Nat.le_refl _))⟩)
  have Bw1 := Lib.hid (Below.refl w1.heap.size w1)
  clear he
  go_enter Tryz.func19, Tryz.ntmps19
  go_wp2_with fail
  rw [← hw1, ← hq1]
  clear hw1 hq1
  have Ba0 := Lib.hid (show Below w1.heap.size w1 w1.drew from bel_t Bw1.out (belD _ _) (Nat.le_refl _))
  refine start_ (n := 16) (S := fun w' => w'.cell? ⟨q1, 0, none⟩ = some (.int .i64 1) ∧ w'.cell? ⟨q1, 1, none⟩ = some (.string ⟨#[]⟩) ∧ w'.cell? ⟨q1, 2, none⟩ = some (.string ⟨#[]⟩) ∧ w'.cell? ⟨q1, 3, none⟩ = some (.slice none 0 0) ∧ w'.cell? ⟨q1, 4, none⟩ = some (.int .i64 0)) (ds := []) (bs 16 0) (by kernel_rfl) rfl rfl ⟨(K1.out _ Ba0.out).1, (K1.out _ Ba0.out).2.1, (K1.out _ Ba0.out).2.2.1, (K1.out _ Ba0.out).2.2.2.1, (K1.out _ Ba0.out).2.2.2.2⟩ (fun hHeld => ?_)
  refine tk 5 19 (bs 16 32) hHeld ?_
  refine one_ (i := 0) (N := some 14) (bs 16 33) rfl rfl (by kernel_rfl) (by decide) (fun K hK => ?_)
  refine goes_ Tryz.func34 (by kernel_rfl) rfl #[.int .i64 0] (by rfl) rfl rfl (by simp only [List.map_toArray, List.map_cons, List.map_nil]; rfl) ?_
  with_reducible refine (v_calls 0 w1.drew).mono ?_
  rintro e ua1 ⟨rfl, hb⟩
  refine ⟨_, rfl, ?_⟩
  have Ba1 := Lib.hid (show Below w1.heap.size w1 ua1 from bel_t Ba0.out hb (Nat.le_refl _))
  clear hb
  refine hK.out _ _ ⟨(K1.out _ Ba1.out).1, (K1.out _ Ba1.out).2.1, (K1.out _ Ba1.out).2.2.1, (K1.out _ Ba1.out).2.2.2.1, (K1.out _ Ba1.out).2.2.2.2⟩ (fun hHeld => ?_)
  clear hK K
  refine norm_ (a' := ?_) ?_ ?_
  rotate_left
  · show Act.put _ (some 14) _ = _; simp only [Act.put, List.setIfInBounds_toArray, List.set_cons_zero, List.set_cons_succ, i64_w, i32_w]; rfl
  refine one_ (i := 1) (N := some 15) (bs 16 35) rfl rfl (by kernel_rfl) (by decide) (fun K hK => ?_)
  refine goes_ Tryz.func34 (by kernel_rfl) rfl #[.int .i64 1] (by rfl) rfl rfl (by simp only [List.map_toArray, List.map_cons, List.map_nil]; rfl) ?_
  with_reducible refine (v_calls 1 ua1).mono ?_
  rintro e ua2 ⟨rfl, hb⟩
  refine ⟨_, rfl, ?_⟩
  have Ba2 := Lib.hid (show Below w1.heap.size w1 ua2 from bel_t Ba1.out hb (Nat.le_refl _))
  clear hb
  refine hK.out _ _ ⟨(K1.out _ Ba2.out).1, (K1.out _ Ba2.out).2.1, (K1.out _ Ba2.out).2.2.1, (K1.out _ Ba2.out).2.2.2.1, (K1.out _ Ba2.out).2.2.2.2⟩ (fun hHeld => ?_)
  clear hK K
  refine norm_ (a' := ?_) ?_ ?_
  rotate_left
  · show Act.put _ (some 15) _ = _; simp only [Act.put, List.setIfInBounds_toArray, List.set_cons_zero, List.set_cons_succ, i64_w, i32_w]; rfl
  refine one_ (i := 2) (N := some 16) (bs 16 39) rfl rfl (by kernel_rfl) (by decide) (fun K hK => ?_)
  refine goes_ Tryz.func34 (by kernel_rfl) rfl #[.int .i64 0] (by rfl) rfl rfl (by simp only [List.map_toArray, List.map_cons, List.map_nil]; rfl) ?_
  with_reducible refine (v_calls 0 ua2).mono ?_
  rintro e ua3 ⟨rfl, hb⟩
  refine ⟨_, rfl, ?_⟩
  have Ba3 := Lib.hid (show Below w1.heap.size w1 ua3 from bel_t Ba2.out hb (Nat.le_refl _))
  clear hb
  refine hK.out _ _ ⟨(K1.out _ Ba3.out).1, (K1.out _ Ba3.out).2.1, (K1.out _ Ba3.out).2.2.1, (K1.out _ Ba3.out).2.2.2.1, (K1.out _ Ba3.out).2.2.2.2⟩ (fun hHeld => ?_)
  clear hK K
  refine norm_ (a' := ?_) ?_ ?_
  rotate_left
  · show Act.put _ (some 16) _ = _; simp only [Act.put, List.setIfInBounds_toArray, List.set_cons_zero, List.set_cons_succ, i64_w, i32_w]; rfl
  refine one_ (i := 3) (N := some 17) (bs 16 47) rfl rfl (by kernel_rfl) (by decide) (fun K hK => ?_)
  refine value_ (w1 := ?_) (v := ?_) (by rfl) rfl ?_ ?_
  rotate_left 2
  · go_simp
    constructor
    · rfl
    · rfl
  change K _ (ua3.alloc (.cells (tyCells [((vT 0, none, 0) : TyI), ((vT 1, none, 0) : TyI), ((vT 0, none, 0) : TyI)]).toArray 24))
  have hb := bel_a ua3 (.cells (tyCells [((vT 0, none, 0) : TyI), ((vT 1, none, 0) : TyI), ((vT 0, none, 0) : TyI)]).toArray 24)
  have RA := Lib.hid (show Rd (ua3.alloc (.cells (tyCells [((vT 0, none, 0) : TyI), ((vT 1, none, 0) : TyI), ((vT 0, none, 0) : TyI)]).toArray 24)) (.slice (some ⟨ua3.heap.size, 0, none⟩) ([((vT 0, none, 0) : TyI), ((vT 1, none, 0) : TyI), ((vT 0, none, 0) : TyI)]).length ([((vT 0, none, 0) : TyI), ((vT 1, none, 0) : TyI), ((vT 0, none, 0) : TyI)]).length) (([((vT 0, none, 0) : TyI), ((vT 1, none, 0) : TyI), ((vT 0, none, 0) : TyI)]).map (·.1)) from rd_new [((vT 0, none, 0) : TyI), ((vT 1, none, 0) : TyI), ((vT 0, none, 0) : TyI)] ua3 (fun x hx => by simp only [List.mem_cons, List.mem_nil_iff, or_false, List.not_mem_nil] at hx; rcases hx with rfl | rfl | rfl <;> exact ⟨ok_nil _ _ _, RdL_nil _ _⟩) (by simp) 24)
  obtain ⟨ua4, hua4⟩ : ∃ x, x = ua3.alloc (.cells (tyCells [((vT 0, none, 0) : TyI), ((vT 1, none, 0) : TyI), ((vT 0, none, 0) : TyI)]).toArray 24) := ⟨_, rfl⟩
  obtain ⟨ga4, hga4⟩ : ∃ x, x = ua3.heap.size := ⟨_, rfl⟩
  rw [← hua4, ← hga4] at RA
  rw [← hua4, ← hga4]
  rw [← hua4] at hb
  clear hua4 hga4
  have Ba4 := Lib.hid (show Below w1.heap.size w1 ua4 from bel_t Ba3.out hb (Nat.le_refl _))
  clear hb
  refine hK.out _ _ ⟨(K1.out _ Ba4.out).1, (K1.out _ Ba4.out).2.1, (K1.out _ Ba4.out).2.2.1, (K1.out _ Ba4.out).2.2.2.1, (K1.out _ Ba4.out).2.2.2.2⟩ (fun hHeld => ?_)
  clear hK K
  refine norm_ (a' := ?_) ?_ ?_
  rotate_left
  · show Act.put _ (some 17) _ = _; simp only [Act.put, List.setIfInBounds_toArray, List.set_cons_zero, List.set_cons_succ, i64_w, i32_w]; rfl
  refine one_ (i := 4) (N := some 18) (bs 16 63) rfl rfl (by kernel_rfl) (by decide) (fun K hK => ?_)
  refine goes_ Tryz.func54 (by kernel_rfl) rfl #[.slice (some ⟨ga4, 0, none⟩) 3 3] (by rfl) rfl rfl (by simp only [List.map_toArray, List.map_cons, List.map_nil]; rfl) ?_
  with_reducible refine (fn_calls _ _ _ ua4).mono ?_
  rintro e ua5 ⟨rfl, hb⟩
  refine ⟨_, rfl, ?_⟩
  have Ba5 := Lib.hid (show Below w1.heap.size w1 ua5 from bel_t Ba4.out hb (Nat.le_refl _))
  have RA := Lib.hid (RA.out.below hb)
  clear hb
  refine hK.out _ _ ⟨(K1.out _ Ba5.out).1, (K1.out _ Ba5.out).2.1, (K1.out _ Ba5.out).2.2.1, (K1.out _ Ba5.out).2.2.2.1, (K1.out _ Ba5.out).2.2.2.2⟩ (fun hHeld => ?_)
  clear hK K
  refine norm_ (a' := ?_) ?_ ?_
  rotate_left
  · show Act.put _ (some 18) _ = _; simp only [Act.put, List.setIfInBounds_toArray, List.set_cons_zero, List.set_cons_succ, i64_w, i32_w]; rfl
  refine one_ (i := 6) (N := some 20) (bs 16 127) rfl rfl (by kernel_rfl) (by decide) (fun K hK => ?_)
  refine goes_ Tryz.func34 (by kernel_rfl) rfl #[.int .i64 2] (by rfl) rfl rfl (by simp only [List.map_toArray, List.map_cons, List.map_nil]; rfl) ?_
  with_reducible refine (v_calls 2 ua5).mono ?_
  rintro e ua6 ⟨rfl, hb⟩
  refine ⟨_, rfl, ?_⟩
  have Ba6 := Lib.hid (show Below w1.heap.size w1 ua6 from bel_t Ba5.out hb (Nat.le_refl _))
  have RA := Lib.hid (RA.out.below hb)
  clear hb
  refine hK.out _ _ ⟨(K1.out _ Ba6.out).1, (K1.out _ Ba6.out).2.1, (K1.out _ Ba6.out).2.2.1, (K1.out _ Ba6.out).2.2.2.1, (K1.out _ Ba6.out).2.2.2.2⟩ (fun hHeld => ?_)
  clear hK K
  refine norm_ (a' := ?_) ?_ ?_
  rotate_left
  · show Act.put _ (some 20) _ = _; simp only [Act.put, List.setIfInBounds_toArray, List.set_cons_zero, List.set_cons_succ, i64_w, i32_w]; rfl
  refine one_ (i := 7) (N := some 21) (bs 16 255) rfl rfl (by kernel_rfl) (by decide) (fun K hK => ?_)
  refine goes_ Tryz.func34 (by kernel_rfl) rfl #[.int .i64 2] (by rfl) rfl rfl (by simp only [List.map_toArray, List.map_cons, List.map_nil]; rfl) ?_
  with_reducible refine (v_calls 2 ua6).mono ?_
  rintro e ua7 ⟨rfl, hb⟩
  refine ⟨_, rfl, ?_⟩
  have Ba7 := Lib.hid (show Below w1.heap.size w1 ua7 from bel_t Ba6.out hb (Nat.le_refl _))
  have RA := Lib.hid (RA.out.below hb)
  clear hb
  refine hK.out _ _ ⟨(K1.out _ Ba7.out).1, (K1.out _ Ba7.out).2.1, (K1.out _ Ba7.out).2.2.1, (K1.out _ Ba7.out).2.2.2.1, (K1.out _ Ba7.out).2.2.2.2⟩ (fun hHeld => ?_)
  clear hK K
  refine norm_ (a' := ?_) ?_ ?_
  rotate_left
  · show Act.put _ (some 21) _ = _; simp only [Act.put, List.setIfInBounds_toArray, List.set_cons_zero, List.set_cons_succ, i64_w, i32_w]; rfl
  refine one_ (i := 8) (N := some 22) (bs 16 511) rfl rfl (by kernel_rfl) (by decide) (fun K hK => ?_)
  refine value_ (w1 := ?_) (v := ?_) (by rfl) rfl ?_ ?_
  rotate_left 2
  · go_simp
    constructor
    · rfl
    · rfl
  change K _ (ua7.alloc (.cells (tyCells [((iT, none, 0) : TyI), ((vT 2, none, 0) : TyI), ((vT 2, none, 0) : TyI)]).toArray 24))
  have hb := bel_a ua7 (.cells (tyCells [((iT, none, 0) : TyI), ((vT 2, none, 0) : TyI), ((vT 2, none, 0) : TyI)]).toArray 24)
  have RB := Lib.hid (show Rd (ua7.alloc (.cells (tyCells [((iT, none, 0) : TyI), ((vT 2, none, 0) : TyI), ((vT 2, none, 0) : TyI)]).toArray 24)) (.slice (some ⟨ua7.heap.size, 0, none⟩) ([((iT, none, 0) : TyI), ((vT 2, none, 0) : TyI), ((vT 2, none, 0) : TyI)]).length ([((iT, none, 0) : TyI), ((vT 2, none, 0) : TyI), ((vT 2, none, 0) : TyI)]).length) (([((iT, none, 0) : TyI), ((vT 2, none, 0) : TyI), ((vT 2, none, 0) : TyI)]).map (·.1)) from rd_new [((iT, none, 0) : TyI), ((vT 2, none, 0) : TyI), ((vT 2, none, 0) : TyI)] ua7 (fun x hx => by simp only [List.mem_cons, List.mem_nil_iff, or_false, List.not_mem_nil] at hx; rcases hx with rfl | rfl | rfl <;> exact ⟨ok_nil _ _ _, RdL_nil _ _⟩) (by simp) 24)
  obtain ⟨ua8, hua8⟩ : ∃ x, x = ua7.alloc (.cells (tyCells [((iT, none, 0) : TyI), ((vT 2, none, 0) : TyI), ((vT 2, none, 0) : TyI)]).toArray 24) := ⟨_, rfl⟩
  obtain ⟨ga8, hga8⟩ : ∃ x, x = ua7.heap.size := ⟨_, rfl⟩
  rw [← hua8, ← hga8] at RB
  rw [← hua8, ← hga8]
  rw [← hua8] at hb
  clear hua8 hga8
  have Ba8 := Lib.hid (show Below w1.heap.size w1 ua8 from bel_t Ba7.out hb (Nat.le_refl _))
  have RA := Lib.hid (RA.out.below hb)
  clear hb
  refine hK.out _ _ ⟨(K1.out _ Ba8.out).1, (K1.out _ Ba8.out).2.1, (K1.out _ Ba8.out).2.2.1, (K1.out _ Ba8.out).2.2.2.1, (K1.out _ Ba8.out).2.2.2.2⟩ (fun hHeld => ?_)
  clear hK K
  refine norm_ (a' := ?_) ?_ ?_
  rotate_left
  · show Act.put _ (some 22) _ = _; simp only [Act.put, List.setIfInBounds_toArray, List.set_cons_zero, List.set_cons_succ, i64_w, i32_w]; rfl
  refine one_ (i := 9) (N := some 23) (bs 16 1023) rfl rfl (by kernel_rfl) (by decide) (fun K hK => ?_)
  refine goes_ Tryz.func54 (by kernel_rfl) rfl #[.slice (some ⟨ga8, 0, none⟩) 3 3] (by rfl) rfl rfl (by simp only [List.map_toArray, List.map_cons, List.map_nil]; rfl) ?_
  with_reducible refine (fn_calls _ _ _ ua8).mono ?_
  rintro e ua9 ⟨rfl, hb⟩
  refine ⟨_, rfl, ?_⟩
  have Ba9 := Lib.hid (show Below w1.heap.size w1 ua9 from bel_t Ba8.out hb (Nat.le_refl _))
  have RA := Lib.hid (RA.out.below hb)
  have RB := Lib.hid (RB.out.below hb)
  clear hb
  refine hK.out _ _ ⟨(K1.out _ Ba9.out).1, (K1.out _ Ba9.out).2.1, (K1.out _ Ba9.out).2.2.1, (K1.out _ Ba9.out).2.2.2.1, (K1.out _ Ba9.out).2.2.2.2⟩ (fun hHeld => ?_)
  clear hK K
  refine norm_ (a' := ?_) ?_ ?_
  rotate_left
  · show Act.put _ (some 23) _ = _; simp only [Act.put, List.setIfInBounds_toArray, List.set_cons_zero, List.set_cons_succ, i64_w, i32_w]; rfl
  refine one_ (i := 10) (N := some 24) (bs 16 2047) rfl rfl (by kernel_rfl) (by decide) (fun K hK => ?_)
  have RVA := Lib.hid (show RdV ua9 (.agg #[.int .i64 5, .string ⟨#[]⟩, .string ⟨#[]⟩, .slice (some ⟨ga4, 0, none⟩) 3 3, .int .i64 0]) tA1 from ⟨ok_nil _ _ _, some ⟨ga4, 0, none⟩, 3, rfl, RA.out⟩)
  have RVB := Lib.hid (show RdV ua9 (.agg #[.int .i64 5, .string ⟨#[]⟩, .string ⟨#[]⟩, .slice (some ⟨ga8, 0, none⟩) 3 3, .int .i64 0]) tB1 from ⟨ok_nil _ _ _, some ⟨ga8, 0, none⟩, 3, rfl, RB.out⟩)
  refine goes_ Tryz.func16 (by kernel_rfl) rfl #[.agg #[.int .i64 5, .string ⟨#[]⟩, .string ⟨#[]⟩, .slice (some ⟨ga4, 0, none⟩) 3 3, .int .i64 0], .agg #[.int .i64 5, .string ⟨#[]⟩, .string ⟨#[]⟩, .slice (some ⟨ga8, 0, none⟩) 3 3, .int .i64 0], .slice none 0 0] (by rfl) rfl rfl (by simp only [List.map_toArray, List.map_cons, List.map_nil]; rfl) ?_
  with_reducible refine (Unify_nil tA1 tB1 _ _ ua9 RVA.out RVB.out 0 lS uis1).mono ?_
  rintro e ua10 ⟨v1, rfl, hrb, hb⟩
  refine ⟨_, rfl, ?_⟩
  have Ba10 := Lib.hid (show Below w1.heap.size w1 ua10 from bel_t Ba9.out hb (Nat.le_refl _))
  have RA := Lib.hid (RA.out.below hb)
  have RB := Lib.hid (RB.out.below hb)
  clear hb
  clear RVA RVB
  have RS := Lib.hid (show RdBw ua10 v1 lS from hrb.turn (fun b h => h.2) (fun b o h => rfl))
  clear hrb
  refine hK.out _ _ ⟨(K1.out _ Ba10.out).1, (K1.out _ Ba10.out).2.1, (K1.out _ Ba10.out).2.2.1, (K1.out _ Ba10.out).2.2.2.1, (K1.out _ Ba10.out).2.2.2.2⟩ (fun hHeld => ?_)
  clear hK K
  refine norm_ (a' := ?_) ?_ ?_
  rotate_left
  · show Act.put _ (some 24) _ = _; simp only [Act.put, List.setIfInBounds_toArray, List.set_cons_zero, List.set_cons_succ, i64_w, i32_w]; rfl
  refine pu 11 13 (bs 16 4095) ?_
  refine pu 12 25 (bs 16 8191) ?_
  refine pu 13 26 (bs 16 16383) ?_
  refine pu 14 2 (bs 16 32767) ?_
  refine pu 15 3 (bs 16 65535) ?_
  refine done_ (by kernel_rfl) ?_
  clear hHeld
  obtain ⟨w2, hw2⟩ : ∃ w2, w2 = ua10 := ⟨_, rfl⟩
  rw [← hw2]
  rw [← hw2] at RS
  have Bw2 := Lib.hid (show Below w1.heap.size w1 w2 by rw [hw2]; exact Ba10.out)
  clear hw2
  go_wp2_with fail
  have Bb0 := Lib.hid (show Below w1.heap.size w1 w2.drew from bel_t Bw2.out (belD _ _) (Nat.le_refl _))
  have RS := Lib.hid (show _ from RS.out.below (belD _ w2))
  refine start_ (n := 11) (S := fun w' => w'.cell? ⟨q1, 0, none⟩ = some (.int .i64 1) ∧ w'.cell? ⟨q1, 1, none⟩ = some (.string ⟨#[]⟩) ∧ w'.cell? ⟨q1, 2, none⟩ = some (.string ⟨#[]⟩) ∧ w'.cell? ⟨q1, 3, none⟩ = some (.slice none 0 0) ∧ w'.cell? ⟨q1, 4, none⟩ = some (.int .i64 0)) (ds := []) (bs 11 0) (by kernel_rfl) rfl rfl ⟨(K1.out _ Bb0.out).1, (K1.out _ Bb0.out).2.1, (K1.out _ Bb0.out).2.2.1, (K1.out _ Bb0.out).2.2.2.1, (K1.out _ Bb0.out).2.2.2.2⟩ (fun hHeld => ?_)
  refine tk 2 30 (bs 11 4) hHeld ?_
  refine one_ (i := 0) (N := some 28) (bs 11 5) rfl rfl (by kernel_rfl) (by decide) (fun K hK => ?_)
  refine goes_ Tryz.func34 (by kernel_rfl) rfl #[.int .i64 0] (by rfl) rfl rfl (by simp only [List.map_toArray, List.map_cons, List.map_nil]; rfl) ?_
  with_reducible refine (v_calls 0 w2.drew).mono ?_
  rintro e ub1 ⟨rfl, hb⟩
  refine ⟨_, rfl, ?_⟩
  have Bb1 := Lib.hid (show Below w1.heap.size w1 ub1 from bel_t Bb0.out hb (Nat.le_refl _))
  have RS := Lib.hid (RS.out.below hb)
  clear hb
  refine hK.out _ _ ⟨(K1.out _ Bb1.out).1, (K1.out _ Bb1.out).2.1, (K1.out _ Bb1.out).2.2.1, (K1.out _ Bb1.out).2.2.2.1, (K1.out _ Bb1.out).2.2.2.2⟩ (fun hHeld => ?_)
  clear hK K
  refine norm_ (a' := ?_) ?_ ?_
  rotate_left
  · show Act.put _ (some 28) _ = _; simp only [Act.put, List.setIfInBounds_toArray, List.set_cons_zero, List.set_cons_succ, i64_w, i32_w]; rfl
  refine one_ (i := 1) (N := some 29) (bs 11 7) rfl rfl (by kernel_rfl) (by decide) (fun K hK => ?_)
  refine goes_ Tryz.func34 (by kernel_rfl) rfl #[.int .i64 0] (by rfl) rfl rfl (by simp only [List.map_toArray, List.map_cons, List.map_nil]; rfl) ?_
  with_reducible refine (v_calls 0 ub1).mono ?_
  rintro e ub2 ⟨rfl, hb⟩
  refine ⟨_, rfl, ?_⟩
  have Bb2 := Lib.hid (show Below w1.heap.size w1 ub2 from bel_t Bb1.out hb (Nat.le_refl _))
  have RS := Lib.hid (RS.out.below hb)
  clear hb
  refine hK.out _ _ ⟨(K1.out _ Bb2.out).1, (K1.out _ Bb2.out).2.1, (K1.out _ Bb2.out).2.2.1, (K1.out _ Bb2.out).2.2.2.1, (K1.out _ Bb2.out).2.2.2.2⟩ (fun hHeld => ?_)
  clear hK K
  refine norm_ (a' := ?_) ?_ ?_
  rotate_left
  · show Act.put _ (some 29) _ = _; simp only [Act.put, List.setIfInBounds_toArray, List.set_cons_zero, List.set_cons_succ, i64_w, i32_w]; rfl
  refine one_ (i := 3) (N := some 31) (bs 11 15) rfl rfl (by kernel_rfl) (by decide) (fun K hK => ?_)
  refine value_ (w1 := ?_) (v := ?_) (by rfl) rfl ?_ ?_
  rotate_left 2
  · go_simp
    constructor
    · rfl
    · rfl
  change K _ (ub2.alloc (.cells (tyCells [((vT 0, none, 0) : TyI), ((iT, none, 0) : TyI)]).toArray 24))
  have hb := bel_a ub2 (.cells (tyCells [((vT 0, none, 0) : TyI), ((iT, none, 0) : TyI)]).toArray 24)
  have RA := Lib.hid (show Rd (ub2.alloc (.cells (tyCells [((vT 0, none, 0) : TyI), ((iT, none, 0) : TyI)]).toArray 24)) (.slice (some ⟨ub2.heap.size, 0, none⟩) ([((vT 0, none, 0) : TyI), ((iT, none, 0) : TyI)]).length ([((vT 0, none, 0) : TyI), ((iT, none, 0) : TyI)]).length) (([((vT 0, none, 0) : TyI), ((iT, none, 0) : TyI)]).map (·.1)) from rd_new [((vT 0, none, 0) : TyI), ((iT, none, 0) : TyI)] ub2 (fun x hx => by simp only [List.mem_cons, List.mem_nil_iff, or_false, List.not_mem_nil] at hx; rcases hx with rfl | rfl <;> exact ⟨ok_nil _ _ _, RdL_nil _ _⟩) (by simp) 24)
  obtain ⟨ub3, hub3⟩ : ∃ x, x = ub2.alloc (.cells (tyCells [((vT 0, none, 0) : TyI), ((iT, none, 0) : TyI)]).toArray 24) := ⟨_, rfl⟩
  obtain ⟨gb3, hgb3⟩ : ∃ x, x = ub2.heap.size := ⟨_, rfl⟩
  rw [← hub3, ← hgb3] at RA
  rw [← hub3, ← hgb3]
  rw [← hub3] at hb
  clear hub3 hgb3
  have Bb3 := Lib.hid (show Below w1.heap.size w1 ub3 from bel_t Bb2.out hb (Nat.le_refl _))
  have RS := Lib.hid (RS.out.below hb)
  clear hb
  refine hK.out _ _ ⟨(K1.out _ Bb3.out).1, (K1.out _ Bb3.out).2.1, (K1.out _ Bb3.out).2.2.1, (K1.out _ Bb3.out).2.2.2.1, (K1.out _ Bb3.out).2.2.2.2⟩ (fun hHeld => ?_)
  clear hK K
  refine norm_ (a' := ?_) ?_ ?_
  rotate_left
  · show Act.put _ (some 31) _ = _; simp only [Act.put, List.setIfInBounds_toArray, List.set_cons_zero, List.set_cons_succ, i64_w, i32_w]; rfl
  refine one_ (i := 4) (N := some 32) (bs 11 31) rfl rfl (by kernel_rfl) (by decide) (fun K hK => ?_)
  refine goes_ Tryz.func54 (by kernel_rfl) rfl #[.slice (some ⟨gb3, 0, none⟩) 2 2] (by rfl) rfl rfl (by simp only [List.map_toArray, List.map_cons, List.map_nil]; rfl) ?_
  with_reducible refine (fn_calls _ _ _ ub3).mono ?_
  rintro e ub4 ⟨rfl, hb⟩
  refine ⟨_, rfl, ?_⟩
  have Bb4 := Lib.hid (show Below w1.heap.size w1 ub4 from bel_t Bb3.out hb (Nat.le_refl _))
  have RS := Lib.hid (RS.out.below hb)
  have RA := Lib.hid (RA.out.below hb)
  clear hb
  refine hK.out _ _ ⟨(K1.out _ Bb4.out).1, (K1.out _ Bb4.out).2.1, (K1.out _ Bb4.out).2.2.1, (K1.out _ Bb4.out).2.2.2.1, (K1.out _ Bb4.out).2.2.2.2⟩ (fun hHeld => ?_)
  clear hK K
  refine norm_ (a' := ?_) ?_ ?_
  rotate_left
  · show Act.put _ (some 32) _ = _; simp only [Act.put, List.setIfInBounds_toArray, List.set_cons_zero, List.set_cons_succ, i64_w, i32_w]; rfl
  refine one_ (i := 5) (N := some 33) (bs 11 63) rfl rfl (by kernel_rfl) (by decide) (fun K hK => ?_)
  have RVA := Lib.hid (show RdV ub4 (.agg #[.int .i64 6, .string ⟨#[]⟩, .string ⟨#[]⟩, .slice none 0 0, .int .i64 0]) (vT 0) from ⟨ok_nil _ _ _, none, 0, rfl, RdL_nil _ _⟩)
  have RVB := Lib.hid (show RdV ub4 (.agg #[.int .i64 5, .string ⟨#[]⟩, .string ⟨#[]⟩, .slice (some ⟨gb3, 0, none⟩) 2 2, .int .i64 0]) tB2 from ⟨ok_nil _ _ _, some ⟨gb3, 0, none⟩, 2, rfl, RA.out⟩)
  refine goes_ Tryz.func16 (by kernel_rfl) rfl #[.agg #[.int .i64 6, .string ⟨#[]⟩, .string ⟨#[]⟩, .slice none 0 0, .int .i64 0], .agg #[.int .i64 5, .string ⟨#[]⟩, .string ⟨#[]⟩, .slice (some ⟨gb3, 0, none⟩) 2 2, .int .i64 0], .slice none 0 0] (by rfl) rfl rfl (by simp only [List.map_toArray, List.map_cons, List.map_nil]; rfl) ?_
  with_reducible refine (Unify_nil (vT 0) tB2 _ _ ub4 RVA.out RVB.out 13 [] uis2).mono ?_
  rintro e ub5 ⟨v2, rfl, hrb, hb⟩
  refine ⟨_, rfl, ?_⟩
  have Bb5 := Lib.hid (show Below w1.heap.size w1 ub5 from bel_t Bb4.out hb (Nat.le_refl _))
  have RS := Lib.hid (RS.out.below hb)
  have RA := Lib.hid (RA.out.below hb)
  clear hb
  clear RVA RVB
  clear hrb
  refine hK.out _ _ ⟨(K1.out _ Bb5.out).1, (K1.out _ Bb5.out).2.1, (K1.out _ Bb5.out).2.2.1, (K1.out _ Bb5.out).2.2.2.1, (K1.out _ Bb5.out).2.2.2.2⟩ (fun hHeld => ?_)
  clear hK K
  refine norm_ (a' := ?_) ?_ ?_
  rotate_left
  · show Act.put _ (some 33) _ = _; simp only [Act.put, List.setIfInBounds_toArray, List.set_cons_zero, List.set_cons_succ, i64_w, i32_w]; rfl
  refine pu 6 27 (bs 11 127) ?_
  refine pu 7 34 (bs 11 255) ?_
  refine pu 8 35 (bs 11 511) ?_
  refine pu 9 4 (bs 11 1023) ?_
  refine pu 10 5 (bs 11 2047) ?_
  refine done_ (by kernel_rfl) ?_
  clear hHeld
  obtain ⟨w3, hw3⟩ : ∃ w3, w3 = ub5 := ⟨_, rfl⟩
  rw [← hw3]
  rw [← hw3] at RS
  have Bw3 := Lib.hid (show Below w1.heap.size w1 w3 by rw [hw3]; exact Bb5.out)
  clear hw3
  go_wp2_with fail
  have Bc0 := Lib.hid (show Below w1.heap.size w1 w3.drew from bel_t Bw3.out (belD _ _) (Nat.le_refl _))
  have RS := Lib.hid (show _ from RS.out.below (belD _ w3))
  refine start_ (n := 10) (S := fun w' => w'.cell? ⟨q1, 0, none⟩ = some (.int .i64 1) ∧ w'.cell? ⟨q1, 1, none⟩ = some (.string ⟨#[]⟩) ∧ w'.cell? ⟨q1, 2, none⟩ = some (.string ⟨#[]⟩) ∧ w'.cell? ⟨q1, 3, none⟩ = some (.slice none 0 0) ∧ w'.cell? ⟨q1, 4, none⟩ = some (.int .i64 0)) (ds := []) (bs 10 0) (by kernel_rfl) rfl rfl ⟨(K1.out _ Bc0.out).1, (K1.out _ Bc0.out).2.1, (K1.out _ Bc0.out).2.2.1, (K1.out _ Bc0.out).2.2.2.1, (K1.out _ Bc0.out).2.2.2.2⟩ (fun hHeld => ?_)
  refine tk 0 37 (bs 10 1) hHeld ?_
  refine tk 1 38 (bs 10 3) hHeld ?_
  refine one_ (i := 2) (N := some 39) (bs 10 7) rfl rfl (by kernel_rfl) (by decide) (fun K hK => ?_)
  refine value_ (w1 := ?_) (v := ?_) (by rfl) rfl ?_ ?_
  rotate_left 2
  · go_simp
    constructor
    · rfl
    · rfl
  change K _ (w3.drew.alloc (.cells (tyCells [((iT, none, 0) : TyI)]).toArray 24))
  have hb := bel_a w3.drew (.cells (tyCells [((iT, none, 0) : TyI)]).toArray 24)
  have RA := Lib.hid (show Rd (w3.drew.alloc (.cells (tyCells [((iT, none, 0) : TyI)]).toArray 24)) (.slice (some ⟨w3.heap.size, 0, none⟩) ([((iT, none, 0) : TyI)]).length ([((iT, none, 0) : TyI)]).length) (([((iT, none, 0) : TyI)]).map (·.1)) from rd_new [((iT, none, 0) : TyI)] w3.drew (fun x hx => by simp only [List.mem_cons, List.mem_nil_iff, or_false, List.not_mem_nil] at hx; subst hx; exact ⟨ok_nil _ _ _, RdL_nil _ _⟩) (by simp) 24)
  obtain ⟨uc1, huc1⟩ : ∃ x, x = w3.drew.alloc (.cells (tyCells [((iT, none, 0) : TyI)]).toArray 24) := ⟨_, rfl⟩
  obtain ⟨gc1, hgc1⟩ : ∃ x, x = w3.heap.size := ⟨_, rfl⟩
  rw [← huc1, ← hgc1] at RA
  rw [← huc1, ← hgc1]
  rw [← huc1] at hb
  clear huc1 hgc1
  have Bc1 := Lib.hid (show Below w1.heap.size w1 uc1 from bel_t Bc0.out hb (Nat.le_refl _))
  have RS := Lib.hid (RS.out.below hb)
  clear hb
  refine hK.out _ _ ⟨(K1.out _ Bc1.out).1, (K1.out _ Bc1.out).2.1, (K1.out _ Bc1.out).2.2.1, (K1.out _ Bc1.out).2.2.2.1, (K1.out _ Bc1.out).2.2.2.2⟩ (fun hHeld => ?_)
  clear hK K
  refine norm_ (a' := ?_) ?_ ?_
  rotate_left
  · show Act.put _ (some 39) _ = _; simp only [Act.put, List.setIfInBounds_toArray, List.set_cons_zero, List.set_cons_succ, i64_w, i32_w]; rfl
  refine one_ (i := 3) (N := some 40) (bs 10 15) rfl rfl (by kernel_rfl) (by decide) (fun K hK => ?_)
  refine goes_ Tryz.func54 (by kernel_rfl) rfl #[.slice (some ⟨gc1, 0, none⟩) 1 1] (by rfl) rfl rfl (by simp only [List.map_toArray, List.map_cons, List.map_nil]; rfl) ?_
  with_reducible refine (fn_calls _ _ _ uc1).mono ?_
  rintro e uc2 ⟨rfl, hb⟩
  refine ⟨_, rfl, ?_⟩
  have Bc2 := Lib.hid (show Below w1.heap.size w1 uc2 from bel_t Bc1.out hb (Nat.le_refl _))
  have RS := Lib.hid (RS.out.below hb)
  have RA := Lib.hid (RA.out.below hb)
  clear hb
  refine hK.out _ _ ⟨(K1.out _ Bc2.out).1, (K1.out _ Bc2.out).2.1, (K1.out _ Bc2.out).2.2.1, (K1.out _ Bc2.out).2.2.2.1, (K1.out _ Bc2.out).2.2.2.2⟩ (fun hHeld => ?_)
  clear hK K
  refine norm_ (a' := ?_) ?_ ?_
  rotate_left
  · show Act.put _ (some 40) _ = _; simp only [Act.put, List.setIfInBounds_toArray, List.set_cons_zero, List.set_cons_succ, i64_w, i32_w]; rfl
  refine one_ (i := 4) (N := some 41) (bs 10 31) rfl rfl (by kernel_rfl) (by decide) (fun K hK => ?_)
  have RVA := Lib.hid (show RdV uc2 (.agg #[.int .i64 1, .string ⟨#[]⟩, .string ⟨#[]⟩, .slice none 0 0, .int .i64 0]) iT from ⟨ok_nil _ _ _, none, 0, rfl, RdL_nil _ _⟩)
  have RVB := Lib.hid (show RdV uc2 (.agg #[.int .i64 5, .string ⟨#[]⟩, .string ⟨#[]⟩, .slice (some ⟨gc1, 0, none⟩) 1 1, .int .i64 0]) tB3 from ⟨ok_nil _ _ _, some ⟨gc1, 0, none⟩, 1, rfl, RA.out⟩)
  refine goes_ Tryz.func16 (by kernel_rfl) rfl #[.agg #[.int .i64 1, .string ⟨#[]⟩, .string ⟨#[]⟩, .slice none 0 0, .int .i64 0], .agg #[.int .i64 5, .string ⟨#[]⟩, .string ⟨#[]⟩, .slice (some ⟨gc1, 0, none⟩) 1 1, .int .i64 0], .slice none 0 0] (by rfl) rfl rfl (by simp only [List.map_toArray, List.map_cons, List.map_nil]; rfl) ?_
  with_reducible refine (Unify_nil iT tB3 _ _ uc2 RVA.out RVB.out 10 [] uis3).mono ?_
  rintro e uc3 ⟨v3, rfl, hrb, hb⟩
  refine ⟨_, rfl, ?_⟩
  have Bc3 := Lib.hid (show Below w1.heap.size w1 uc3 from bel_t Bc2.out hb (Nat.le_refl _))
  have RS := Lib.hid (RS.out.below hb)
  have RA := Lib.hid (RA.out.below hb)
  clear hb
  clear RVA RVB
  clear hrb
  refine hK.out _ _ ⟨(K1.out _ Bc3.out).1, (K1.out _ Bc3.out).2.1, (K1.out _ Bc3.out).2.2.1, (K1.out _ Bc3.out).2.2.2.1, (K1.out _ Bc3.out).2.2.2.2⟩ (fun hHeld => ?_)
  clear hK K
  refine norm_ (a' := ?_) ?_ ?_
  rotate_left
  · show Act.put _ (some 41) _ = _; simp only [Act.put, List.setIfInBounds_toArray, List.set_cons_zero, List.set_cons_succ, i64_w, i32_w]; rfl
  refine pu 5 36 (bs 10 63) ?_
  refine pu 6 42 (bs 10 127) ?_
  refine pu 7 43 (bs 10 255) ?_
  refine pu 8 6 (bs 10 511) ?_
  refine pu 9 7 (bs 10 1023) ?_
  refine done_ (by kernel_rfl) ?_
  clear hHeld
  obtain ⟨w4, hw4⟩ : ∃ w4, w4 = uc3 := ⟨_, rfl⟩
  rw [← hw4]
  rw [← hw4] at RS
  have Bw4 := Lib.hid (show Below w1.heap.size w1 w4 by rw [hw4]; exact Bc3.out)
  clear hw4
  go_wp2_with fail
  have Bd0 := Lib.hid (show Below w1.heap.size w1 w4.drew from bel_t Bw4.out (belD _ _) (Nat.le_refl _))
  have RS := Lib.hid (show _ from RS.out.below (belD _ w4))
  refine start_ (n := 13) (S := fun w' => w'.cell? ⟨q1, 0, none⟩ = some (.int .i64 1) ∧ w'.cell? ⟨q1, 1, none⟩ = some (.string ⟨#[]⟩) ∧ w'.cell? ⟨q1, 2, none⟩ = some (.string ⟨#[]⟩) ∧ w'.cell? ⟨q1, 3, none⟩ = some (.slice none 0 0) ∧ w'.cell? ⟨q1, 4, none⟩ = some (.int .i64 0)) (ds := []) (bs 13 0) (by kernel_rfl) rfl rfl ⟨(K1.out _ Bd0.out).1, (K1.out _ Bd0.out).2.1, (K1.out _ Bd0.out).2.2.1, (K1.out _ Bd0.out).2.2.2.1, (K1.out _ Bd0.out).2.2.2.2⟩ (fun hHeld => ?_)
  refine tk 2 47 (bs 13 4) hHeld ?_
  refine join_ (σ := Nat) 8 (bs 13 31) (fun s => [(45, Value.agg #[.int .i64 6, .string ⟨#[]⟩, .string ⟨#[]⟩, .slice none 0 0, .int .i64 0]), (46, Value.agg #[.int .i64 6, .string ⟨#[]⟩, .string ⟨#[]⟩, .slice none 0 0, .int .i64 27]), (48, Value.slice (some ⟨s, 0, none⟩) 1 1), (49, Value.agg #[.int .i64 4, .string ⟨#[109]⟩, .string ⟨#[76]⟩, .slice (some ⟨s, 0, none⟩) 1 1, .int .i64 0])]) (fun s w' => Below w1.heap.size w1 w' ∧ Rd w' (.slice (some ⟨s, 0, none⟩) 1 1) [iT] ∧ RdBw w' v1 lS) ?_ ?_
  rotate_left
  · intro hCont
    refine two_ (i := 0) (j := 3) (Ni := some 45) (Nj := some 48) (bs 13 5) (bs 13 12) rfl rfl rfl rfl (by kernel_rfl) (by decide) (by decide) (fun K hK => ?_) (fun K hK => ?_)
    · skip
      refine goes_ Tryz.func34 (by kernel_rfl) rfl #[.int .i64 0] (by rfl) rfl rfl (by simp only [List.map_toArray, List.map_cons, List.map_nil]; rfl) ?_
      with_reducible refine (v_calls 0 w4.drew).mono ?_
      rintro e ud1 ⟨rfl, hb⟩
      refine ⟨_, rfl, ?_⟩
      have Bd1 := Lib.hid (show Below w1.heap.size w1 ud1 from bel_t Bd0.out hb (Nat.le_refl _))
      have RS := Lib.hid (RS.out.below hb)
      clear hb
      refine hK.out _ _ ⟨(K1.out _ Bd1.out).1, (K1.out _ Bd1.out).2.1, (K1.out _ Bd1.out).2.2.1, (K1.out _ Bd1.out).2.2.2.1, (K1.out _ Bd1.out).2.2.2.2⟩ (fun hHeld => ?_)
      clear hK K
      refine norm_ (a' := ?_) ?_ ?_
      rotate_left
      · show Act.put _ (some 45) _ = _; simp only [Act.put, List.setIfInBounds_toArray, List.set_cons_zero, List.set_cons_succ, i64_w, i32_w]; rfl
      refine two_ (i := 1) (j := 3) (Ni := some 46) (Nj := some 48) (bs 13 7) (bs 13 13) rfl rfl rfl rfl (by kernel_rfl) (by decide) (by decide) (fun K hK => ?_) (fun K hK => ?_)
      · skip
        refine goes_ Tryz.func34 (by kernel_rfl) rfl #[.int .i64 27] (by rfl) rfl rfl (by simp only [List.map_toArray, List.map_cons, List.map_nil]; rfl) ?_
        with_reducible refine (v_calls 27 ud1).mono ?_
        rintro e ud2 ⟨rfl, hb⟩
        refine ⟨_, rfl, ?_⟩
        have Bd2 := Lib.hid (show Below w1.heap.size w1 ud2 from bel_t Bd1.out hb (Nat.le_refl _))
        have RS := Lib.hid (RS.out.below hb)
        clear hb
        refine hK.out _ _ ⟨(K1.out _ Bd2.out).1, (K1.out _ Bd2.out).2.1, (K1.out _ Bd2.out).2.2.1, (K1.out _ Bd2.out).2.2.2.1, (K1.out _ Bd2.out).2.2.2.2⟩ (fun hHeld => ?_)
        clear hK K
        refine norm_ (a' := ?_) ?_ ?_
        rotate_left
        · show Act.put _ (some 46) _ = _; simp only [Act.put, List.setIfInBounds_toArray, List.set_cons_zero, List.set_cons_succ, i64_w, i32_w]; rfl
        refine one_ (i := 3) (N := some 48) (bs 13 15) rfl rfl (by kernel_rfl) (by decide) (fun K hK => ?_)
        refine value_ (w1 := ?_) (v := ?_) (by rfl) rfl ?_ ?_
        rotate_left 2
        · go_simp
          constructor
          · rfl
          · rfl
        change K _ (ud2.alloc (.cells (tyCells [((iT, none, 0) : TyI)]).toArray 24))
        have hb := bel_a ud2 (.cells (tyCells [((iT, none, 0) : TyI)]).toArray 24)
        have RI := Lib.hid (show Rd (ud2.alloc (.cells (tyCells [((iT, none, 0) : TyI)]).toArray 24)) (.slice (some ⟨ud2.heap.size, 0, none⟩) ([((iT, none, 0) : TyI)]).length ([((iT, none, 0) : TyI)]).length) (([((iT, none, 0) : TyI)]).map (·.1)) from rd_new [((iT, none, 0) : TyI)] ud2 (fun x hx => by simp only [List.mem_cons, List.mem_nil_iff, or_false, List.not_mem_nil] at hx; subst hx; exact ⟨ok_nil _ _ _, RdL_nil _ _⟩) (by simp) 24)
        obtain ⟨ud3, hud3⟩ : ∃ x, x = ud2.alloc (.cells (tyCells [((iT, none, 0) : TyI)]).toArray 24) := ⟨_, rfl⟩
        obtain ⟨gd3, hgd3⟩ : ∃ x, x = ud2.heap.size := ⟨_, rfl⟩
        rw [← hud3, ← hgd3] at RI
        rw [← hud3, ← hgd3]
        rw [← hud3] at hb
        clear hud3 hgd3
        have Bd3 := Lib.hid (show Below w1.heap.size w1 ud3 from bel_t Bd2.out hb (Nat.le_refl _))
        have RS := Lib.hid (RS.out.below hb)
        clear hb
        refine hK.out _ _ ⟨(K1.out _ Bd3.out).1, (K1.out _ Bd3.out).2.1, (K1.out _ Bd3.out).2.2.1, (K1.out _ Bd3.out).2.2.2.1, (K1.out _ Bd3.out).2.2.2.2⟩ (fun hHeld => ?_)
        clear hK K
        refine norm_ (a' := ?_) ?_ ?_
        rotate_left
        · show Act.put _ (some 48) _ = _; simp only [Act.put, List.setIfInBounds_toArray, List.set_cons_zero, List.set_cons_succ, i64_w, i32_w]; rfl
        refine pu 4 49 (bs 13 31) ?_
        exact norm_ (by simp only [putAll, Act.put, List.setIfInBounds_toArray, List.set_cons_zero, List.set_cons_succ]) (hCont gd3 _ ⟨Bd3.out, RI.out, RS.out⟩)
      · skip
        refine value_ (w1 := ?_) (v := ?_) (by rfl) rfl ?_ ?_
        rotate_left 2
        · go_simp
          constructor
          · rfl
          · rfl
        change K _ (ud1.alloc (.cells (tyCells [((iT, none, 0) : TyI)]).toArray 24))
        have hb := bel_a ud1 (.cells (tyCells [((iT, none, 0) : TyI)]).toArray 24)
        have RI := Lib.hid (show Rd (ud1.alloc (.cells (tyCells [((iT, none, 0) : TyI)]).toArray 24)) (.slice (some ⟨ud1.heap.size, 0, none⟩) ([((iT, none, 0) : TyI)]).length ([((iT, none, 0) : TyI)]).length) (([((iT, none, 0) : TyI)]).map (·.1)) from rd_new [((iT, none, 0) : TyI)] ud1 (fun x hx => by simp only [List.mem_cons, List.mem_nil_iff, or_false, List.not_mem_nil] at hx; subst hx; exact ⟨ok_nil _ _ _, RdL_nil _ _⟩) (by simp) 24)
        obtain ⟨ud2, hud2⟩ : ∃ x, x = ud1.alloc (.cells (tyCells [((iT, none, 0) : TyI)]).toArray 24) := ⟨_, rfl⟩
        obtain ⟨gd2, hgd2⟩ : ∃ x, x = ud1.heap.size := ⟨_, rfl⟩
        rw [← hud2, ← hgd2] at RI
        rw [← hud2, ← hgd2]
        rw [← hud2] at hb
        clear hud2 hgd2
        have Bd2 := Lib.hid (show Below w1.heap.size w1 ud2 from bel_t Bd1.out hb (Nat.le_refl _))
        have RS := Lib.hid (RS.out.below hb)
        clear hb
        refine hK.out _ _ ⟨(K1.out _ Bd2.out).1, (K1.out _ Bd2.out).2.1, (K1.out _ Bd2.out).2.2.1, (K1.out _ Bd2.out).2.2.2.1, (K1.out _ Bd2.out).2.2.2.2⟩ (fun hHeld => ?_)
        clear hK K
        refine norm_ (a' := ?_) ?_ ?_
        rotate_left
        · show Act.put _ (some 48) _ = _; simp only [Act.put, List.setIfInBounds_toArray, List.set_cons_zero, List.set_cons_succ, i64_w, i32_w]; rfl
        refine pu 4 49 (bs 13 29) ?_
        refine one_ (i := 1) (N := some 46) (bs 13 31) rfl rfl (by kernel_rfl) (by decide) (fun K hK => ?_)
        refine goes_ Tryz.func34 (by kernel_rfl) rfl #[.int .i64 27] (by rfl) rfl rfl (by simp only [List.map_toArray, List.map_cons, List.map_nil]; rfl) ?_
        with_reducible refine (v_calls 27 ud2).mono ?_
        rintro e ud3 ⟨rfl, hb⟩
        refine ⟨_, rfl, ?_⟩
        have Bd3 := Lib.hid (show Below w1.heap.size w1 ud3 from bel_t Bd2.out hb (Nat.le_refl _))
        have RS := Lib.hid (RS.out.below hb)
        have RI := Lib.hid (RI.out.below hb)
        clear hb
        refine hK.out _ _ ⟨(K1.out _ Bd3.out).1, (K1.out _ Bd3.out).2.1, (K1.out _ Bd3.out).2.2.1, (K1.out _ Bd3.out).2.2.2.1, (K1.out _ Bd3.out).2.2.2.2⟩ (fun hHeld => ?_)
        clear hK K
        refine norm_ (a' := ?_) ?_ ?_
        rotate_left
        · show Act.put _ (some 46) _ = _; simp only [Act.put, List.setIfInBounds_toArray, List.set_cons_zero, List.set_cons_succ, i64_w, i32_w]; rfl
        exact norm_ (by simp only [putAll, Act.put, List.setIfInBounds_toArray, List.set_cons_zero, List.set_cons_succ]) (hCont gd2 _ ⟨Bd3.out, RI.out, RS.out⟩)
    · skip
      refine value_ (w1 := ?_) (v := ?_) (by rfl) rfl ?_ ?_
      rotate_left 2
      · go_simp
        constructor
        · rfl
        · rfl
      change K _ (w4.drew.alloc (.cells (tyCells [((iT, none, 0) : TyI)]).toArray 24))
      have hb := bel_a w4.drew (.cells (tyCells [((iT, none, 0) : TyI)]).toArray 24)
      have RI := Lib.hid (show Rd (w4.drew.alloc (.cells (tyCells [((iT, none, 0) : TyI)]).toArray 24)) (.slice (some ⟨w4.heap.size, 0, none⟩) ([((iT, none, 0) : TyI)]).length ([((iT, none, 0) : TyI)]).length) (([((iT, none, 0) : TyI)]).map (·.1)) from rd_new [((iT, none, 0) : TyI)] w4.drew (fun x hx => by simp only [List.mem_cons, List.mem_nil_iff, or_false, List.not_mem_nil] at hx; subst hx; exact ⟨ok_nil _ _ _, RdL_nil _ _⟩) (by simp) 24)
      obtain ⟨ud1, hud1⟩ : ∃ x, x = w4.drew.alloc (.cells (tyCells [((iT, none, 0) : TyI)]).toArray 24) := ⟨_, rfl⟩
      obtain ⟨gd1, hgd1⟩ : ∃ x, x = w4.heap.size := ⟨_, rfl⟩
      rw [← hud1, ← hgd1] at RI
      rw [← hud1, ← hgd1]
      rw [← hud1] at hb
      clear hud1 hgd1
      have Bd1 := Lib.hid (show Below w1.heap.size w1 ud1 from bel_t Bd0.out hb (Nat.le_refl _))
      have RS := Lib.hid (RS.out.below hb)
      clear hb
      refine hK.out _ _ ⟨(K1.out _ Bd1.out).1, (K1.out _ Bd1.out).2.1, (K1.out _ Bd1.out).2.2.1, (K1.out _ Bd1.out).2.2.2.1, (K1.out _ Bd1.out).2.2.2.2⟩ (fun hHeld => ?_)
      clear hK K
      refine norm_ (a' := ?_) ?_ ?_
      rotate_left
      · show Act.put _ (some 48) _ = _; simp only [Act.put, List.setIfInBounds_toArray, List.set_cons_zero, List.set_cons_succ, i64_w, i32_w]; rfl
      refine pu 4 49 (bs 13 28) ?_
      refine one_ (i := 0) (N := some 45) (bs 13 29) rfl rfl (by kernel_rfl) (by decide) (fun K hK => ?_)
      refine goes_ Tryz.func34 (by kernel_rfl) rfl #[.int .i64 0] (by rfl) rfl rfl (by simp only [List.map_toArray, List.map_cons, List.map_nil]; rfl) ?_
      with_reducible refine (v_calls 0 ud1).mono ?_
      rintro e ud2 ⟨rfl, hb⟩
      refine ⟨_, rfl, ?_⟩
      have Bd2 := Lib.hid (show Below w1.heap.size w1 ud2 from bel_t Bd1.out hb (Nat.le_refl _))
      have RS := Lib.hid (RS.out.below hb)
      have RI := Lib.hid (RI.out.below hb)
      clear hb
      refine hK.out _ _ ⟨(K1.out _ Bd2.out).1, (K1.out _ Bd2.out).2.1, (K1.out _ Bd2.out).2.2.1, (K1.out _ Bd2.out).2.2.2.1, (K1.out _ Bd2.out).2.2.2.2⟩ (fun hHeld => ?_)
      clear hK K
      refine norm_ (a' := ?_) ?_ ?_
      rotate_left
      · show Act.put _ (some 45) _ = _; simp only [Act.put, List.setIfInBounds_toArray, List.set_cons_zero, List.set_cons_succ, i64_w, i32_w]; rfl
      refine one_ (i := 1) (N := some 46) (bs 13 31) rfl rfl (by kernel_rfl) (by decide) (fun K hK => ?_)
      refine goes_ Tryz.func34 (by kernel_rfl) rfl #[.int .i64 27] (by rfl) rfl rfl (by simp only [List.map_toArray, List.map_cons, List.map_nil]; rfl) ?_
      with_reducible refine (v_calls 27 ud2).mono ?_
      rintro e ud3 ⟨rfl, hb⟩
      refine ⟨_, rfl, ?_⟩
      have Bd3 := Lib.hid (show Below w1.heap.size w1 ud3 from bel_t Bd2.out hb (Nat.le_refl _))
      have RS := Lib.hid (RS.out.below hb)
      have RI := Lib.hid (RI.out.below hb)
      clear hb
      refine hK.out _ _ ⟨(K1.out _ Bd3.out).1, (K1.out _ Bd3.out).2.1, (K1.out _ Bd3.out).2.2.1, (K1.out _ Bd3.out).2.2.2.1, (K1.out _ Bd3.out).2.2.2.2⟩ (fun hHeld => ?_)
      clear hK K
      refine norm_ (a' := ?_) ?_ ?_
      rotate_left
      · show Act.put _ (some 46) _ = _; simp only [Act.put, List.setIfInBounds_toArray, List.set_cons_zero, List.set_cons_succ, i64_w, i32_w]; rfl
      exact norm_ (by simp only [putAll, Act.put, List.setIfInBounds_toArray, List.set_cons_zero, List.set_cons_succ]) (hCont gd1 _ ⟨Bd3.out, RI.out, RS.out⟩)
  rintro gI ud3 ⟨hF1, hF2, hF3⟩
  have Bd3 := Lib.hid hF1; have RI := Lib.hid hF2; have RS := Lib.hid hF3
  have hHeld := K1.out ud3 hF1
  clear hF1 hF2 hF3
  refine norm_ (a' := ?_) ?_ ?_
  rotate_left
  · simp only [putAll, Act.put, List.setIfInBounds_toArray, List.set_cons_zero, List.set_cons_succ]
    rfl
  refine one_ (i := 5) (N := some 50) (bs 13 63) rfl rfl (by kernel_rfl) (by decide) (fun K hK => ?_)
  refine value_ (w1 := ?_) (v := ?_) (by rfl) rfl ?_ ?_
  rotate_left 2
  · go_simp
    constructor
    · rfl
    · rfl
  change K _ (ud3.alloc (.cells (tyCells [((vT 0, none, 0) : TyI), ((vT 27, none, 0) : TyI), ((mT, some ⟨gI, 0, none⟩, 1) : TyI)]).toArray 24))
  have hb := bel_a ud3 (.cells (tyCells [((vT 0, none, 0) : TyI), ((vT 27, none, 0) : TyI), ((mT, some ⟨gI, 0, none⟩, 1) : TyI)]).toArray 24)
  have RT := Lib.hid (show Rd (ud3.alloc (.cells (tyCells [((vT 0, none, 0) : TyI), ((vT 27, none, 0) : TyI), ((mT, some ⟨gI, 0, none⟩, 1) : TyI)]).toArray 24)) (.slice (some ⟨ud3.heap.size, 0, none⟩) ([((vT 0, none, 0) : TyI), ((vT 27, none, 0) : TyI), ((mT, some ⟨gI, 0, none⟩, 1) : TyI)]).length ([((vT 0, none, 0) : TyI), ((vT 27, none, 0) : TyI), ((mT, some ⟨gI, 0, none⟩, 1) : TyI)]).length) (([((vT 0, none, 0) : TyI), ((vT 27, none, 0) : TyI), ((mT, some ⟨gI, 0, none⟩, 1) : TyI)]).map (·.1)) from rd_new [((vT 0, none, 0) : TyI), ((vT 27, none, 0) : TyI), ((mT, some ⟨gI, 0, none⟩, 1) : TyI)] ud3 (fun x hx => by simp only [List.mem_cons, List.mem_nil_iff, or_false, List.not_mem_nil] at hx; rcases hx with rfl | rfl | rfl; exact ⟨ok_nil _ _ _, RdL_nil _ _⟩; exact ⟨ok_nil _ _ _, RdL_nil _ _⟩; exact ⟨by simp [Ok1, mT, Ty.mod, Ty.name], RI.out⟩) (by simp) 24)
  obtain ⟨ud4, hud4⟩ : ∃ x, x = ud3.alloc (.cells (tyCells [((vT 0, none, 0) : TyI), ((vT 27, none, 0) : TyI), ((mT, some ⟨gI, 0, none⟩, 1) : TyI)]).toArray 24) := ⟨_, rfl⟩
  obtain ⟨gd4, hgd4⟩ : ∃ x, x = ud3.heap.size := ⟨_, rfl⟩
  rw [← hud4, ← hgd4] at RT
  rw [← hud4, ← hgd4]
  rw [← hud4] at hb
  clear hud4 hgd4
  have Bd4 := Lib.hid (show Below w1.heap.size w1 ud4 from bel_t Bd3.out hb (Nat.le_refl _))
  have RS := Lib.hid (RS.out.below hb)
  have RI := Lib.hid (RI.out.below hb)
  clear hb
  refine hK.out _ _ ⟨(K1.out _ Bd4.out).1, (K1.out _ Bd4.out).2.1, (K1.out _ Bd4.out).2.2.1, (K1.out _ Bd4.out).2.2.2.1, (K1.out _ Bd4.out).2.2.2.2⟩ (fun hHeld => ?_)
  clear hK K
  refine norm_ (a' := ?_) ?_ ?_
  rotate_left
  · show Act.put _ (some 50) _ = _; simp only [Act.put, List.setIfInBounds_toArray, List.set_cons_zero, List.set_cons_succ, i64_w, i32_w]; rfl
  refine one_ (i := 6) (N := some 51) (bs 13 127) rfl rfl (by kernel_rfl) (by decide) (fun K hK => ?_)
  refine goes_ Tryz.func54 (by kernel_rfl) rfl #[.slice (some ⟨gd4, 0, none⟩) 3 3] (by rfl) rfl rfl (by simp only [List.map_toArray, List.map_cons, List.map_nil]; rfl) ?_
  with_reducible refine (fn_calls _ _ _ ud4).mono ?_
  rintro e ud5 ⟨rfl, hb⟩
  refine ⟨_, rfl, ?_⟩
  have Bd5 := Lib.hid (show Below w1.heap.size w1 ud5 from bel_t Bd4.out hb (Nat.le_refl _))
  have RS := Lib.hid (RS.out.below hb)
  have RI := Lib.hid (RI.out.below hb)
  have RT := Lib.hid (RT.out.below hb)
  clear hb
  refine hK.out _ _ ⟨(K1.out _ Bd5.out).1, (K1.out _ Bd5.out).2.1, (K1.out _ Bd5.out).2.2.1, (K1.out _ Bd5.out).2.2.2.1, (K1.out _ Bd5.out).2.2.2.2⟩ (fun hHeld => ?_)
  clear hK K
  refine norm_ (a' := ?_) ?_ ?_
  rotate_left
  · show Act.put _ (some 51) _ = _; simp only [Act.put, List.setIfInBounds_toArray, List.set_cons_zero, List.set_cons_succ, i64_w, i32_w]; rfl
  refine one_ (i := 7) (N := some 52) (bs 13 255) rfl rfl (by kernel_rfl) (by decide) (fun K hK => ?_)
  have RVA := Lib.hid (show RdV ud5 (.agg #[.int .i64 5, .string ⟨#[]⟩, .string ⟨#[]⟩, .slice (some ⟨gd4, 0, none⟩) 3 3, .int .i64 0]) tT from ⟨ok_nil _ _ _, some ⟨gd4, 0, none⟩, 3, rfl, RT.out⟩)
  refine goes_ Tryz.func29 (by kernel_rfl) rfl #[.agg #[.int .i64 5, .string ⟨#[]⟩, .string ⟨#[]⟩, .slice (some ⟨gd4, 0, none⟩) 3 3, .int .i64 0]] (by rfl) rfl rfl (by simp only [List.map_toArray, List.map_cons, List.map_nil]; rfl) ?_
  with_reducible refine (text_alive _ ud5 RVA.out (HE.out.1 ud5 Bd5.out)).mono ?_
  rintro e ud6 ⟨rfl, hb⟩
  refine ⟨_, rfl, ?_⟩
  have Bd6 := Lib.hid (show Below w1.heap.size w1 ud6 from bel_t Bd5.out hb (Nat.le_refl _))
  have RS := Lib.hid (RS.out.below hb)
  have RI := Lib.hid (RI.out.below hb)
  have RT := Lib.hid (RT.out.below hb)
  clear hb
  clear RVA
  refine hK.out _ _ ⟨(K1.out _ Bd6.out).1, (K1.out _ Bd6.out).2.1, (K1.out _ Bd6.out).2.2.1, (K1.out _ Bd6.out).2.2.2.1, (K1.out _ Bd6.out).2.2.2.2⟩ (fun hHeld => ?_)
  clear hK K
  refine norm_ (a' := ?_) ?_ ?_
  rotate_left
  · show Act.put _ (some 52) _ = _; simp only [Act.put, List.setIfInBounds_toArray, List.set_cons_zero, List.set_cons_succ, i64_w, i32_w]; rfl
  refine pu 8 44 (bs 13 511) ?_
  refine pu 9 53 (bs 13 1023) ?_
  refine pu 10 54 (bs 13 2047) ?_
  refine pu 11 8 (bs 13 4095) ?_
  refine pu 12 9 (bs 13 8191) ?_
  refine done_ (by kernel_rfl) ?_
  clear hHeld
  obtain ⟨w5, hw5⟩ : ∃ w5, w5 = ud6 := ⟨_, rfl⟩
  rw [← hw5]
  rw [← hw5] at RS
  have Bw5 := Lib.hid (show Below w1.heap.size w1 w5 by rw [hw5]; exact Bd6.out)
  clear hw5
  have hpa := parse_alive w5 (HE.out.2 w5 Bw5.out)
  go_wp2_with fail
  refine hpa.mono ?_
  rintro e u5 ⟨AP, cP, rfl, hrp, hb⟩
  have Bu5 := Lib.hid (show Below w1.heap.size w1 u5 from bel_t Bw5.out hb (Nat.le_refl _))
  have RS := Lib.hid (RS.out.below hb)
  have RP := Lib.hid hrp
  clear hrp hb hpa
  go_wp2_with fail
  obtain ⟨w6, hw6⟩ : ∃ w6, w6 = u5.alloc (.cells #[.int .i64 5, .string ⟨#[]⟩, .string ⟨#[]⟩, .slice AP 2 cP, .int .i64 0] 24) := ⟨_, rfl⟩
  obtain ⟨q2, hq2⟩ : ∃ q2, q2 = u5.heap.size := ⟨_, rfl⟩
  rw [← hw6, ← hq2]
  have hb6 : Below u5.heap.size u5 w6 := by rw [hw6]; exact bel_a _ _
  have blk2 := Lib.hid (show w6.heap[q2]? = some (.cells #[.int .i64 5, .string ⟨#[]⟩, .string ⟨#[]⟩, .slice AP 2 cP, .int .i64 0] 24 (0, 0)) by rw [hw6, hq2]; exact (MapKept.heap_alloc u5 _).1)
  have RS := Lib.hid (RS.out.below hb6)
  have RP := Lib.hid (RP.out.below hb6)
  have Cw6 := Lib.hid (show Below w1.heap.size w1 w6 from bel_t Bu5.out hb6 (Nat.le_refl _))
  have Bw6 := Lib.hid (Below.refl w6.heap.size w6)
  clear hw6 hq2 hb6
  have K7 := Lib.hid (show ∀ X, Below w6.heap.size w6 X → X.cell? ⟨q1, 0, none⟩ = some (.int .i64 1) ∧ X.cell? ⟨q1, 1, none⟩ = some (.string ⟨#[]⟩) ∧ X.cell? ⟨q1, 2, none⟩ = some (.string ⟨#[]⟩) ∧ X.cell? ⟨q1, 3, none⟩ = some (.slice none 0 0) ∧ X.cell? ⟨q1, 4, none⟩ = some (.int .i64 0) ∧ X.cell? ⟨q2, 0, none⟩ = some (.int .i64 5) ∧ X.cell? ⟨q2, 1, none⟩ = some (.string ⟨#[]⟩) ∧ X.cell? ⟨q2, 2, none⟩ = some (.string ⟨#[]⟩) ∧ X.cell? ⟨q2, 3, none⟩ = some (.slice AP 2 cP) ∧ X.cell? ⟨q2, 4, none⟩ = some (.int .i64 0) from fun X hb => by
    obtain ⟨a0, a1, a2, a3, a4, -⟩ := five_cells blk2.out
    have la := lt_of_block blk2.out
    have ca : ∀ o, X.cell? ⟨q2, o, none⟩ = w6.cell? ⟨q2, o, none⟩ := fun o => hb.cell (p := ⟨q2, o, none⟩) la
    obtain ⟨c0, c1, c2, c3, c4⟩ := K1.out X (bel_t Cw6.out hb (Nat.le_refl _))
    exact ⟨c0, c1, c2, c3, c4, (ca 0).trans a0, (ca 1).trans a1, (ca 2).trans a2, (ca 3).trans a3, (ca 4).trans a4⟩)
  have Be0 := Lib.hid (show Below w6.heap.size w6 w6.drew from bel_t Bw6.out (belD _ _) (Nat.le_refl _))
  have RS := Lib.hid (show _ from RS.out.below (belD _ w6))
  have RP := Lib.hid (show _ from RP.out.below (belD _ w6))
  refine start_ (n := 42) (S := fun w' => w'.cell? ⟨q1, 0, none⟩ = some (.int .i64 1) ∧ w'.cell? ⟨q1, 1, none⟩ = some (.string ⟨#[]⟩) ∧ w'.cell? ⟨q1, 2, none⟩ = some (.string ⟨#[]⟩) ∧ w'.cell? ⟨q1, 3, none⟩ = some (.slice none 0 0) ∧ w'.cell? ⟨q1, 4, none⟩ = some (.int .i64 0) ∧ w'.cell? ⟨q2, 0, none⟩ = some (.int .i64 5) ∧ w'.cell? ⟨q2, 1, none⟩ = some (.string ⟨#[]⟩) ∧ w'.cell? ⟨q2, 2, none⟩ = some (.string ⟨#[]⟩) ∧ w'.cell? ⟨q2, 3, none⟩ = some (.slice AP 2 cP) ∧ w'.cell? ⟨q2, 4, none⟩ = some (.int .i64 0)) (ds := []) (bs 42 0) (by kernel_rfl) rfl rfl ⟨(K7.out _ Be0.out).1, (K7.out _ Be0.out).2.1, (K7.out _ Be0.out).2.2.1, (K7.out _ Be0.out).2.2.2.1, (K7.out _ Be0.out).2.2.2.2.1, (K7.out _ Be0.out).2.2.2.2.2.1, (K7.out _ Be0.out).2.2.2.2.2.2.1, (K7.out _ Be0.out).2.2.2.2.2.2.2.1, (K7.out _ Be0.out).2.2.2.2.2.2.2.2.1, (K7.out _ Be0.out).2.2.2.2.2.2.2.2.2⟩ (fun hHeld => ?_)
  refine pu 0 59 (bs 42 1) ?_
  refine pu 1 60 (bs 42 3) ?_
  refine pu 2 61 (bs 42 7) ?_
  refine pu 3 62 (bs 42 15) ?_
  refine tk 4 63 (bs 42 31) hHeld ?_
  refine pu 5 64 (bs 42 63) ?_
  refine tk 6 65 (bs 42 127) hHeld ?_
  refine pu 7 66 (bs 42 255) ?_
  refine tk 8 67 (bs 42 511) hHeld ?_
  refine pu 9 68 (bs 42 1023) ?_
  refine one_ (i := 10) (N := some 69) (bs 42 2047) rfl rfl (by kernel_rfl) (by decide) (fun K hK => ?_)
  refine value_ (w1 := ?_) (v := ?_) (by rfl) rfl ?_ ?_
  rotate_left 2
  · go_simp
    constructor
    · rfl
    · rfl
  change K _ (w6.drew.alloc (.cells (bdCells [((0, iT, none, 0) : BdI), ((1, iT, none, 0) : BdI), ((2, iT, none, 0) : BdI)]).toArray 52))
  have hb := bel_a w6.drew (.cells (bdCells [((0, iT, none, 0) : BdI), ((1, iT, none, 0) : BdI), ((2, iT, none, 0) : BdI)]).toArray 52)
  have RL := Lib.hid (show RdBw (w6.drew.alloc (.cells (bdCells [((0, iT, none, 0) : BdI), ((1, iT, none, 0) : BdI), ((2, iT, none, 0) : BdI)]).toArray 52)) (.slice (some ⟨w6.heap.size, 0, none⟩) ([((0, iT, none, 0) : BdI), ((1, iT, none, 0) : BdI), ((2, iT, none, 0) : BdI)]).length ([((0, iT, none, 0) : BdI), ((1, iT, none, 0) : BdI), ((2, iT, none, 0) : BdI)]).length) (([((0, iT, none, 0) : BdI), ((1, iT, none, 0) : BdI), ((2, iT, none, 0) : BdI)]).map bdOf) from rdB_new [((0, iT, none, 0) : BdI), ((1, iT, none, 0) : BdI), ((2, iT, none, 0) : BdI)] w6.drew (fun x hx => by simp only [List.mem_cons, List.mem_nil_iff, or_false, List.not_mem_nil] at hx; rcases hx with rfl | rfl | rfl <;> exact ⟨ok_nil _ _ _, RdL_nil _ _⟩) (by simp) 52)
  obtain ⟨ue1, hue1⟩ : ∃ x, x = w6.drew.alloc (.cells (bdCells [((0, iT, none, 0) : BdI), ((1, iT, none, 0) : BdI), ((2, iT, none, 0) : BdI)]).toArray 52) := ⟨_, rfl⟩
  obtain ⟨ge1, hge1⟩ : ∃ x, x = w6.heap.size := ⟨_, rfl⟩
  rw [← hue1, ← hge1] at RL
  rw [← hue1, ← hge1]
  rw [← hue1] at hb
  clear hue1 hge1
  have Be1 := Lib.hid (show Below w6.heap.size w6 ue1 from bel_t Be0.out hb (Nat.le_refl _))
  have RS := Lib.hid (RS.out.below hb)
  have RP := Lib.hid (RP.out.below hb)
  clear hb
  refine hK.out _ _ ⟨(K7.out _ Be1.out).1, (K7.out _ Be1.out).2.1, (K7.out _ Be1.out).2.2.1, (K7.out _ Be1.out).2.2.2.1, (K7.out _ Be1.out).2.2.2.2.1, (K7.out _ Be1.out).2.2.2.2.2.1, (K7.out _ Be1.out).2.2.2.2.2.2.1, (K7.out _ Be1.out).2.2.2.2.2.2.2.1, (K7.out _ Be1.out).2.2.2.2.2.2.2.2.1, (K7.out _ Be1.out).2.2.2.2.2.2.2.2.2⟩ (fun hHeld => ?_)
  clear hK K
  refine norm_ (a' := ?_) ?_ ?_
  rotate_left
  · show Act.put _ (some 69) _ = _; simp only [Act.put, List.setIfInBounds_toArray, List.set_cons_zero, List.set_cons_succ, i64_w, i32_w]; rfl
  refine one_ (i := 11) (N := some 70) (bs 42 4095) rfl rfl (by kernel_rfl) (by decide) (fun K hK => ?_)
  refine goes_ Tryz.func21 (by kernel_rfl) rfl #[v1, .slice (some ⟨ge1, 0, none⟩) 3 3] (by rfl) rfl rfl (by simp only [List.map_toArray, List.map_cons, List.map_nil]; rfl) ?_
  with_reducible refine (sameb_alive v1 _ ue1 RS.out RL.out).mono ?_
  rintro e ue2 ⟨rfl, hb⟩
  refine ⟨_, rfl, ?_⟩
  have Be2 := Lib.hid (show Below w6.heap.size w6 ue2 from bel_t Be1.out hb (Nat.le_refl _))
  have RS := Lib.hid (RS.out.below hb)
  have RP := Lib.hid (RP.out.below hb)
  have RL := Lib.hid (RL.out.below hb)
  clear hb
  refine hK.out _ _ ⟨(K7.out _ Be2.out).1, (K7.out _ Be2.out).2.1, (K7.out _ Be2.out).2.2.1, (K7.out _ Be2.out).2.2.2.1, (K7.out _ Be2.out).2.2.2.2.1, (K7.out _ Be2.out).2.2.2.2.2.1, (K7.out _ Be2.out).2.2.2.2.2.2.1, (K7.out _ Be2.out).2.2.2.2.2.2.2.1, (K7.out _ Be2.out).2.2.2.2.2.2.2.2.1, (K7.out _ Be2.out).2.2.2.2.2.2.2.2.2⟩ (fun hHeld => ?_)
  clear hK K
  refine norm_ (a' := ?_) ?_ ?_
  rotate_left
  · show Act.put _ (some 70) _ = _; simp only [Act.put, List.setIfInBounds_toArray, List.set_cons_zero, List.set_cons_succ, i64_w, i32_w]; rfl
  refine pu 12 71 (bs 42 8191) ?_
  refine pu 13 72 (bs 42 16383) ?_
  refine pu 14 73 (bs 42 32767) ?_
  refine pu 15 74 (bs 42 65535) ?_
  refine pu 16 75 (bs 42 131071) ?_
  refine pu 17 76 (bs 42 262143) ?_
  refine pu 18 77 (bs 42 524287) ?_
  refine pu 19 78 (bs 42 1048575) ?_
  refine pu 20 79 (bs 42 2097151) ?_
  refine pu 21 80 (bs 42 4194303) ?_
  refine pu 22 81 (bs 42 8388607) ?_
  refine pu 23 82 (bs 42 16777215) ?_
  refine pu 24 83 (bs 42 33554431) ?_
  refine pu 25 84 (bs 42 67108863) ?_
  refine pu 26 85 (bs 42 134217727) ?_
  refine pu 27 86 (bs 42 268435455) ?_
  refine pu 28 87 (bs 42 536870911) ?_
  refine pu 29 88 (bs 42 1073741823) ?_
  refine pu 30 89 (bs 42 2147483647) ?_
  refine pu 31 90 (bs 42 4294967295) ?_
  refine pu 32 91 (bs 42 8589934591) ?_
  refine pu 33 92 (bs 42 17179869183) ?_
  refine tk 34 93 (bs 42 34359738367) hHeld ?_
  refine one_ (i := 35) (N := some 94) (bs 42 68719476735) rfl rfl (by kernel_rfl) (by decide) (fun K hK => ?_)
  refine goes_ Tryz.func34 (by kernel_rfl) rfl #[.int .i64 0] (by rfl) rfl rfl (by simp only [List.map_toArray, List.map_cons, List.map_nil]; rfl) ?_
  with_reducible refine (v_calls 0 ue2).mono ?_
  rintro e ue3 ⟨rfl, hb⟩
  refine ⟨_, rfl, ?_⟩
  have Be3 := Lib.hid (show Below w6.heap.size w6 ue3 from bel_t Be2.out hb (Nat.le_refl _))
  have RS := Lib.hid (RS.out.below hb)
  have RP := Lib.hid (RP.out.below hb)
  have RL := Lib.hid (RL.out.below hb)
  clear hb
  refine hK.out _ _ ⟨(K7.out _ Be3.out).1, (K7.out _ Be3.out).2.1, (K7.out _ Be3.out).2.2.1, (K7.out _ Be3.out).2.2.2.1, (K7.out _ Be3.out).2.2.2.2.1, (K7.out _ Be3.out).2.2.2.2.2.1, (K7.out _ Be3.out).2.2.2.2.2.2.1, (K7.out _ Be3.out).2.2.2.2.2.2.2.1, (K7.out _ Be3.out).2.2.2.2.2.2.2.2.1, (K7.out _ Be3.out).2.2.2.2.2.2.2.2.2⟩ (fun hHeld => ?_)
  clear hK K
  refine norm_ (a' := ?_) ?_ ?_
  rotate_left
  · show Act.put _ (some 94) _ = _; simp only [Act.put, List.setIfInBounds_toArray, List.set_cons_zero, List.set_cons_succ, i64_w, i32_w]; rfl
  refine one_ (i := 36) (N := some 95) (bs 42 137438953471) rfl rfl (by kernel_rfl) (by decide) (fun K hK => ?_)
  refine goes_ Tryz.func34 (by kernel_rfl) rfl #[.int .i64 0] (by rfl) rfl rfl (by simp only [List.map_toArray, List.map_cons, List.map_nil]; rfl) ?_
  with_reducible refine (v_calls 0 ue3).mono ?_
  rintro e ue4 ⟨rfl, hb⟩
  refine ⟨_, rfl, ?_⟩
  have Be4 := Lib.hid (show Below w6.heap.size w6 ue4 from bel_t Be3.out hb (Nat.le_refl _))
  have RS := Lib.hid (RS.out.below hb)
  have RP := Lib.hid (RP.out.below hb)
  have RL := Lib.hid (RL.out.below hb)
  clear hb
  refine hK.out _ _ ⟨(K7.out _ Be4.out).1, (K7.out _ Be4.out).2.1, (K7.out _ Be4.out).2.2.1, (K7.out _ Be4.out).2.2.2.1, (K7.out _ Be4.out).2.2.2.2.1, (K7.out _ Be4.out).2.2.2.2.2.1, (K7.out _ Be4.out).2.2.2.2.2.2.1, (K7.out _ Be4.out).2.2.2.2.2.2.2.1, (K7.out _ Be4.out).2.2.2.2.2.2.2.2.1, (K7.out _ Be4.out).2.2.2.2.2.2.2.2.2⟩ (fun hHeld => ?_)
  clear hK K
  refine norm_ (a' := ?_) ?_ ?_
  rotate_left
  · show Act.put _ (some 95) _ = _; simp only [Act.put, List.setIfInBounds_toArray, List.set_cons_zero, List.set_cons_succ, i64_w, i32_w]; rfl
  refine one_ (i := 37) (N := some 96) (bs 42 274877906943) rfl rfl (by kernel_rfl) (by decide) (fun K hK => ?_)
  refine value_ (w1 := ?_) (v := ?_) (by rfl) rfl ?_ ?_
  rotate_left 2
  · go_simp
    constructor
    · rfl
    · rfl
  change K _ (ue4.alloc (.cells (tyCells [((vT 0, none, 0) : TyI), ((vT 0, none, 0) : TyI)]).toArray 24))
  have hb := bel_a ue4 (.cells (tyCells [((vT 0, none, 0) : TyI), ((vT 0, none, 0) : TyI)]).toArray 24)
  have RV := Lib.hid (show Rd (ue4.alloc (.cells (tyCells [((vT 0, none, 0) : TyI), ((vT 0, none, 0) : TyI)]).toArray 24)) (.slice (some ⟨ue4.heap.size, 0, none⟩) ([((vT 0, none, 0) : TyI), ((vT 0, none, 0) : TyI)]).length ([((vT 0, none, 0) : TyI), ((vT 0, none, 0) : TyI)]).length) (([((vT 0, none, 0) : TyI), ((vT 0, none, 0) : TyI)]).map (·.1)) from rd_new [((vT 0, none, 0) : TyI), ((vT 0, none, 0) : TyI)] ue4 (fun x hx => by simp only [List.mem_cons, List.mem_nil_iff, or_false, List.not_mem_nil] at hx; rcases hx with rfl | rfl <;> exact ⟨ok_nil _ _ _, RdL_nil _ _⟩) (by simp) 24)
  obtain ⟨ue5, hue5⟩ : ∃ x, x = ue4.alloc (.cells (tyCells [((vT 0, none, 0) : TyI), ((vT 0, none, 0) : TyI)]).toArray 24) := ⟨_, rfl⟩
  obtain ⟨ge5, hge5⟩ : ∃ x, x = ue4.heap.size := ⟨_, rfl⟩
  rw [← hue5, ← hge5] at RV
  rw [← hue5, ← hge5]
  rw [← hue5] at hb
  clear hue5 hge5
  have Be5 := Lib.hid (show Below w6.heap.size w6 ue5 from bel_t Be4.out hb (Nat.le_refl _))
  have RS := Lib.hid (RS.out.below hb)
  have RP := Lib.hid (RP.out.below hb)
  have RL := Lib.hid (RL.out.below hb)
  clear hb
  refine hK.out _ _ ⟨(K7.out _ Be5.out).1, (K7.out _ Be5.out).2.1, (K7.out _ Be5.out).2.2.1, (K7.out _ Be5.out).2.2.2.1, (K7.out _ Be5.out).2.2.2.2.1, (K7.out _ Be5.out).2.2.2.2.2.1, (K7.out _ Be5.out).2.2.2.2.2.2.1, (K7.out _ Be5.out).2.2.2.2.2.2.2.1, (K7.out _ Be5.out).2.2.2.2.2.2.2.2.1, (K7.out _ Be5.out).2.2.2.2.2.2.2.2.2⟩ (fun hHeld => ?_)
  clear hK K
  refine norm_ (a' := ?_) ?_ ?_
  rotate_left
  · show Act.put _ (some 96) _ = _; simp only [Act.put, List.setIfInBounds_toArray, List.set_cons_zero, List.set_cons_succ, i64_w, i32_w]; rfl
  refine one_ (i := 38) (N := some 97) (bs 42 549755813887) rfl rfl (by kernel_rfl) (by decide) (fun K hK => ?_)
  refine goes_ Tryz.func54 (by kernel_rfl) rfl #[.slice (some ⟨ge5, 0, none⟩) 2 2] (by rfl) rfl rfl (by simp only [List.map_toArray, List.map_cons, List.map_nil]; rfl) ?_
  with_reducible refine (fn_calls _ _ _ ue5).mono ?_
  rintro e ue6 ⟨rfl, hb⟩
  refine ⟨_, rfl, ?_⟩
  have Be6 := Lib.hid (show Below w6.heap.size w6 ue6 from bel_t Be5.out hb (Nat.le_refl _))
  have RS := Lib.hid (RS.out.below hb)
  have RP := Lib.hid (RP.out.below hb)
  have RL := Lib.hid (RL.out.below hb)
  have RV := Lib.hid (RV.out.below hb)
  clear hb
  refine hK.out _ _ ⟨(K7.out _ Be6.out).1, (K7.out _ Be6.out).2.1, (K7.out _ Be6.out).2.2.1, (K7.out _ Be6.out).2.2.2.1, (K7.out _ Be6.out).2.2.2.2.1, (K7.out _ Be6.out).2.2.2.2.2.1, (K7.out _ Be6.out).2.2.2.2.2.2.1, (K7.out _ Be6.out).2.2.2.2.2.2.2.1, (K7.out _ Be6.out).2.2.2.2.2.2.2.2.1, (K7.out _ Be6.out).2.2.2.2.2.2.2.2.2⟩ (fun hHeld => ?_)
  clear hK K
  refine norm_ (a' := ?_) ?_ ?_
  rotate_left
  · show Act.put _ (some 97) _ = _; simp only [Act.put, List.setIfInBounds_toArray, List.set_cons_zero, List.set_cons_succ, i64_w, i32_w]; rfl
  refine one_ (i := 39) (N := some 98) (bs 42 1099511627775) rfl rfl (by kernel_rfl) (by decide) (fun K hK => ?_)
  have RVA := Lib.hid (show RdV ue6 (.agg #[.int .i64 5, .string ⟨#[]⟩, .string ⟨#[]⟩, .slice AP 2 cP, .int .i64 0]) tP from ⟨ok_nil _ _ _, AP, cP, rfl, RP.out⟩)
  have RVB := Lib.hid (show RdV ue6 (.agg #[.int .i64 5, .string ⟨#[]⟩, .string ⟨#[]⟩, .slice (some ⟨ge5, 0, none⟩) 2 2, .int .i64 0]) tP from ⟨ok_nil _ _ _, some ⟨ge5, 0, none⟩, 2, rfl, RV.out⟩)
  refine goes_ Tryz.func24 (by kernel_rfl) rfl #[.agg #[.int .i64 5, .string ⟨#[]⟩, .string ⟨#[]⟩, .slice AP 2 cP, .int .i64 0], .agg #[.int .i64 5, .string ⟨#[]⟩, .string ⟨#[]⟩, .slice (some ⟨ge5, 0, none⟩) 2 2, .int .i64 0]] (by rfl) rfl rfl (by simp only [List.map_toArray, List.map_cons, List.map_nil]; rfl) ?_
  with_reducible refine (same_alive _ _ ue6 RVA.out RVB.out).mono ?_
  rintro e ue7 ⟨rfl, hb⟩
  refine ⟨_, rfl, ?_⟩
  have Be7 := Lib.hid (show Below w6.heap.size w6 ue7 from bel_t Be6.out hb (Nat.le_refl _))
  have RS := Lib.hid (RS.out.below hb)
  have RP := Lib.hid (RP.out.below hb)
  have RL := Lib.hid (RL.out.below hb)
  have RV := Lib.hid (RV.out.below hb)
  clear hb
  refine hK.out _ _ ⟨(K7.out _ Be7.out).1, (K7.out _ Be7.out).2.1, (K7.out _ Be7.out).2.2.1, (K7.out _ Be7.out).2.2.2.1, (K7.out _ Be7.out).2.2.2.2.1, (K7.out _ Be7.out).2.2.2.2.2.1, (K7.out _ Be7.out).2.2.2.2.2.2.1, (K7.out _ Be7.out).2.2.2.2.2.2.2.1, (K7.out _ Be7.out).2.2.2.2.2.2.2.2.1, (K7.out _ Be7.out).2.2.2.2.2.2.2.2.2⟩ (fun hHeld => ?_)
  clear hK K
  refine norm_ (a' := ?_) ?_ ?_
  rotate_left
  · show Act.put _ (some 98) _ = _; simp only [Act.put, List.setIfInBounds_toArray, List.set_cons_zero, List.set_cons_succ, i64_w, i32_w]; rfl
  refine pu 40 99 (bs 42 2199023255551) ?_
  refine pu 41 0 (bs 42 4398046511103) ?_
  refine done_ (by kernel_rfl) ?_
  clear hHeld
  go_wp2
  go_ret
  exact ⟨rfl, bel_t (bel_t BW.out Cw6.out (Nat.le_refl _)) Be7.out (Nat.le_refl _)⟩

end Go.Proofs.YtplnfepdikbpfaaGreatDoor
