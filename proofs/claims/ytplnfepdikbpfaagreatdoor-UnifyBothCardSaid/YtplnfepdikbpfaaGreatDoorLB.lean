/- The walk of law14's UnifyBoth: it is true. Condition: the types and the pairs read; the world's tables. -/
import Derived.Test.YtplnfepdikbpfaaGreatDoorPW
import Derived.Test.YtplnfepdikbpfaaGreatDoorLW
import Derived.Test.YtplnfepdikbpfaaGreatDoorUU
import Derived.Test.YtplnfepdikbpfaaGreatDoorHE
namespace Go.Proofs.YtplnfepdikbpfaaGreatDoor
open Go.RowKit
open Go.Proofs.YtplnfepdikbpfaaGreatDoorW.PrintLast
set_option linter.unusedVariables false
set_option linter.unusedSimpArgs false
attribute [local go_sem ↓] Go.wp_at_zero Go.wp_at_succ

theorem unans_both {a b : Ty} {L X X' : List (Int × Ty)} {e e' : Int} (h : UnAns a b L e X) (k : UnAns b a L e' X') : e = e' ∧ X = X' := by
  rcases h with ⟨h, rfl, rfl⟩ | ⟨h, h1, -⟩ <;> rcases k with ⟨k, rfl, rfl⟩ | ⟨k, k1, -⟩
  · exact ⟨rfl, rfl⟩
  · exact absurd ⟨k.2.1, k.1, k.2.2⟩ h
  · exact absurd ⟨h.2.1, h.1, h.2.2⟩ k
  · exact h1.one k1 (eqU_comm a b L)
theorem sameBd_self (L : List (Int × Ty)) : sameBd L L = true := by
  induction L with
  | nil => rfl
  | cons x L ih => rw [sameBd, ih, sameT_eq]; simp
theorem upost_few {w w' : World} {e : Int} {X : List (Int × Ty)} {en : Ending} (h : UPost w e X en w') : ∃ v, en = .returned (.tuple #[v, .int .i64 e]) ∧ RdBw w' v X ∧ Below w.heap.size w w' := by
  obtain ⟨v, h1, h2, h3⟩ := h
  exact ⟨v, h1, h2.turn (fun b h => h.2) (fun _ _ _ => rfl), h3⟩

set_option maxRecDepth 100000 in
set_option maxHeartbeats 64000000 in
theorem UnifyBoth_calls (ta tb : Ty) (L : List (Int × Ty)) (va vb sv : Value) (w : World) (hva : RdV w va ta) (hvb : RdV w vb tb) (hsv : RdBw w sv L) (he : EnvB w.heap.size w) :
    Calls Tryz.prog 5 #[va, vb, sv] w fun e w' => e = .returned (.bool true) ∧ Below w.heap.size w w' := by
  have HE := Lib.hid (show ∀ X, Below w.heap.size w X → EnvB X.heap.size X from fun X h W hW => he W (bel_t h hW (Nat.le_refl _)))
  obtain ⟨ha1, A, c, rfl, hra⟩ := id hva
  obtain ⟨hb1, B, d, rfl, hrb⟩ := id hvb
  obtain ⟨SA, sc, rfl, hll, -⟩ := id hsv
  have e1 : tyV ta (.slice A ta.args.length c) = .agg #[.int .i64 ta.kind, .string (S ta.mod), .string (S ta.name), .slice A ta.args.length c, .int .i64 ta.var] := rfl
  have e2 : tyV tb (.slice B tb.args.length d) = .agg #[.int .i64 tb.kind, .string (S tb.mod), .string (S tb.name), .slice B tb.args.length d, .int .i64 tb.var] := rfl
  rw [e1] at hva ⊢
  rw [e2] at hvb ⊢
  obtain ⟨w1, hw1⟩ : ∃ w1, w1 = (w.alloc (.cells (tyC ta A c) 24)).alloc (.cells (tyC tb B d) 24) := ⟨_, rfl⟩
  obtain ⟨q1, hq1⟩ : ∃ q, q = w.heap.size := ⟨_, rfl⟩
  obtain ⟨q2, hq2⟩ : ∃ q, q = w.heap.size + 1 := ⟨_, rfl⟩
  have B1 := Lib.hid (show Below w.heap.size w w1 by rw [hw1]; exact bel_alloc (bel_alloc (Below.refl _ _) _) _)
  have blkA := Lib.hid (show w1.heap[q1]? = some (.cells (tyC ta A c) 24 (0, 0)) by
    rw [hw1, hq1]; exact ((gb_alloc _ _ .none).block w.heap.size (by simp) (by simp)).trans (MapKept.heap_alloc w _).1)
  have blkB := Lib.hid (show w1.heap[q2]? = some (.cells (tyC tb B d) 24 (0, 0)) by
    have h := (MapKept.heap_alloc (w.alloc (.cells (tyC ta A c) 24)) (.cells (tyC tb B d) 24)).1
    rw [World.size_alloc] at h
    rw [hw1, hq2]; exact h)
  have KB := Lib.hid (show ∀ X, Below w1.heap.size w1 X → X.cell? ⟨q1, 0, none⟩ = some (.int .i64 ta.kind) ∧ X.cell? ⟨q1, 1, none⟩ = some (.string (S ta.mod)) ∧ X.cell? ⟨q1, 2, none⟩ = some (.string (S ta.name)) ∧ X.cell? ⟨q1, 3, none⟩ = some (.slice A ta.args.length c) ∧ X.cell? ⟨q1, 4, none⟩ = some (.int .i64 ta.var) ∧ X.cell? ⟨q2, 0, none⟩ = some (.int .i64 tb.kind) ∧ X.cell? ⟨q2, 1, none⟩ = some (.string (S tb.mod)) ∧ X.cell? ⟨q2, 2, none⟩ = some (.string (S tb.name)) ∧ X.cell? ⟨q2, 3, none⟩ = some (.slice B tb.args.length d) ∧ X.cell? ⟨q2, 4, none⟩ = some (.int .i64 tb.var) from fun X hb => by
    obtain ⟨a0, a1, a2, a3, a4, -⟩ := five_cells ((hb.block q1 (lt_of_block blkA.out)).trans blkA.out)
    obtain ⟨b0, b1, b2, b3, b4, -⟩ := five_cells ((hb.block q2 (lt_of_block blkB.out)).trans blkB.out)
    exact ⟨a0, a1, a2, a3, a4, b0, b1, b2, b3, b4⟩)
  obtain ⟨a, ha⟩ : ∃ a, a = cutA ta := ⟨_, rfl⟩
  obtain ⟨b, hb⟩ : ∃ b, b = cutA tb := ⟨_, rfl⟩
  obtain ⟨l, hl⟩ : ∃ l, l = lB L := ⟨_, rfl⟩
  have HLF := Lib.hid (show l.length ≤ 60 by rw [hl]; exact lB_few L)
  have HCA := Lib.hid (show ∀ X, Below w1.heap.size w1 X → Calls Tryz.prog 14 #[.agg #[.int .i64 ta.kind, .string (S ta.mod), .string (S ta.name), .slice A ta.args.length c, .int .i64 ta.var]] X fun e w' => ∃ u, e = .returned u ∧ XT a (fresh X w') w' u ∧ Below X.heap.size X w' from fun X h => by rw [ha]; exact lcut_rd ta _ X (hva.below (B1.out.trans (h.mono B1.out.size))))
  have HCB := Lib.hid (show ∀ X, Below w1.heap.size w1 X → Calls Tryz.prog 14 #[.agg #[.int .i64 tb.kind, .string (S tb.mod), .string (S tb.name), .slice B tb.args.length d, .int .i64 tb.var]] X fun e w' => ∃ u, e = .returned u ∧ XT b (fresh X w') w' u ∧ Below X.heap.size X w' from fun X h => by rw [hb]; exact lcut_rd tb _ X (hvb.below (B1.out.trans (h.mono B1.out.size))))
  have HCL := Lib.hid (show ∀ X, Below w1.heap.size w1 X → Calls Tryz.prog 26 #[.slice SA L.length sc, .int .i64 60, .int .i64 6000] X fun e w' => ∃ u, e = .returned u ∧ XB l (fresh X w') w' u ∧ Below X.heap.size X w' from fun X h => by rw [hl]; exact cutB_rd L _ X (hsv.below (B1.out.trans (h.mono B1.out.size))))
  clear ha hb hl
  clear he ha1 hra hb1 hrb hll e1 e2 hva hvb hsv
  obtain ⟨FR, hFR⟩ : ∃ FR : Value → Value → Value → Value → Value → Act, ∀ u1 u2 u3 p1 p2, FR u1 u2 u3 p1 p2 = (fun u1 u2 u3 p1 p2 => ⟨#[.agg #[.int .i64 ta.kind, .string (S ta.mod), .string (S ta.name), .slice A ta.args.length c, .int .i64 ta.var], .agg #[.int .i64 tb.kind, .string (S tb.mod), .string (S tb.name), .slice B tb.args.length d, .int .i64 tb.var], .slice SA L.length sc, .pointer (some ⟨q1, 0, none⟩), .pointer (some ⟨q2, 0, none⟩), undef, .bool false, p1, p2, undef, undef, undef, undef, undef, .agg #[.int .i64 ta.kind, .string (S ta.mod), .string (S ta.name), .slice A ta.args.length c, .int .i64 ta.var], u1, .agg #[.int .i64 tb.kind, .string (S tb.mod), .string (S tb.name), .slice B tb.args.length d, .int .i64 tb.var], u2, .slice SA L.length sc, u3, undef, undef, undef, undef, undef, undef, undef, undef, undef, undef, undef, undef, undef, undef, undef, undef, undef, undef, undef, undef, undef, undef, undef, undef, undef], []⟩) u1 u2 u3 p1 p2 := ⟨_, fun u1 u2 u3 p1 p2 => rfl⟩
  go_enter Tryz.func5, Tryz.ntmps5
  go_wp2_with fail
  rw [← hw1, ← hq2, ← hq1]
  clear hw1 hq1 hq2
  refine start_ (n := 11) (S := fun w' => w'.cell? ⟨q1, 0, none⟩ = some (.int .i64 ta.kind) ∧ w'.cell? ⟨q1, 1, none⟩ = some (.string (S ta.mod)) ∧ w'.cell? ⟨q1, 2, none⟩ = some (.string (S ta.name)) ∧ w'.cell? ⟨q1, 3, none⟩ = some (.slice A ta.args.length c) ∧ w'.cell? ⟨q1, 4, none⟩ = some (.int .i64 ta.var) ∧ w'.cell? ⟨q2, 0, none⟩ = some (.int .i64 tb.kind) ∧ w'.cell? ⟨q2, 1, none⟩ = some (.string (S tb.mod)) ∧ w'.cell? ⟨q2, 2, none⟩ = some (.string (S tb.name)) ∧ w'.cell? ⟨q2, 3, none⟩ = some (.slice B tb.args.length d) ∧ w'.cell? ⟨q2, 4, none⟩ = some (.int .i64 tb.var)) (ds := [8, 9, 10]) (bs 11 0) (by kernel_rfl) rfl rfl (KB.out _ (belD _ _)) (fun hHeld => ?_)
  refine tk 0 14 (bs 11 1) hHeld ?_
  refine tk 2 16 (bs 11 5) hHeld ?_
  refine pu 4 18 (bs 11 21) ?_
  refine wp_abs (fun G hin hout => ?_)
  have hkey : (∀ (u1 u2 u3 p1 p2 : Value) (W : World), LS w1 [(u1, XT a), (u2, XT b), (u3, XB l)] [p1, p2] W → G 3 (bs 11 255) (FR u1 u2 u3 p1 p2) W) → G 8 (bs 11 21) (FR undef undef undef undef undef) w1.drew := by
    intro hfull
    have st_2_3 : ∀ (u1 u2 p1 p2 : Value) (W : World), LS w1 [(u1, XT a), (u2, XT b)] [p1, p2] W → G 4 (bs 11 223) (FR u1 u2 undef p1 p2) W := fun u1 u2 p1 p2 W hL => by
      refine hin _ _ _ _ ?_
      simp only [hFR]
      refine one_ (i := 5) (N := some 19) (bs 11 255) rfl rfl (by kernel_rfl) (by decide) (fun K hK => ?_)
      · refine goes_ Tryz.func26 (by kernel_rfl) rfl #[.slice SA L.length sc, .int .i64 60, .int .i64 6000] (by rfl) rfl rfl (by simp only [List.map_toArray, List.map_cons, List.map_nil]; rfl) ?_
        refine (HCL.out W hL.b).mono ?_
        rintro e W2 ⟨u, rfl, hu, hb⟩
        refine ⟨_, rfl, ?_⟩
        have hL2 := hL.call hb (mono_bd _) hu
        refine hK.out _ _ (KB.out _ hL2.b) (fun _ => ?_)
        have h3 := hfull u1 u2 u p1 p2 W2 hL2
        simp only [hFR] at h3
        exact hout _ _ _ _ h3
    have st_3_1 : ∀ (u1 u2 u3 p1 : Value) (W : World), LS w1 [(u1, XT a), (u2, XT b), (u3, XB l)] [p1] W → G 4 (bs 11 127) (FR u1 u2 u3 p1 undef) W := fun u1 u2 u3 p1 W hL => by
      refine hin _ _ _ _ ?_
      simp only [hFR]
      refine one_ (i := 7) (N := some 8) (bs 11 255) rfl rfl (by kernel_rfl) (by decide) (fun K hK => ?_)
      · refine value_ (w1 := ?_) (v := ?_) (by rfl) rfl ?_ ?_
        rotate_left 2
        · go_simp; constructor; rfl; rfl
        have hL2 := LS.make [p1] [] hL
        refine hK.out _ _ (KB.out _ hL2.b) (fun _ => ?_)
        have h3 := hfull u1 u2 u3 p1 _ _ hL2
        simp only [hFR] at h3
        exact hout _ _ _ _ h3
    have st_3_2 : ∀ (u1 u2 u3 p2 : Value) (W : World), LS w1 [(u1, XT a), (u2, XT b), (u3, XB l)] [p2] W → G 4 (bs 11 191) (FR u1 u2 u3 undef p2) W := fun u1 u2 u3 p2 W hL => by
      refine hin _ _ _ _ ?_
      simp only [hFR]
      refine one_ (i := 6) (N := some 7) (bs 11 255) rfl rfl (by kernel_rfl) (by decide) (fun K hK => ?_)
      · refine value_ (w1 := ?_) (v := ?_) (by rfl) rfl ?_ ?_
        rotate_left 2
        · go_simp; constructor; rfl; rfl
        have hL2 := LS.make [] [p2] hL
        refine hK.out _ _ (KB.out _ hL2.b) (fun _ => ?_)
        have h3 := hfull u1 u2 u3 _ p2 _ hL2
        simp only [hFR] at h3
        exact hout _ _ _ _ h3
    have st_1_3 : ∀ (u1 p1 p2 : Value) (W : World), LS w1 [(u1, XT a)] [p1, p2] W → G 5 (bs 11 215) (FR u1 undef undef p1 p2) W := fun u1 p1 p2 W hL => by
      refine hin _ _ _ _ ?_
      simp only [hFR]
      refine one_ (i := 3) (N := some 17) (bs 11 223) rfl rfl (by kernel_rfl) (by decide) (fun K hK => ?_)
      · refine goes_ Tryz.func14 (by kernel_rfl) rfl #[.agg #[.int .i64 tb.kind, .string (S tb.mod), .string (S tb.name), .slice B tb.args.length d, .int .i64 tb.var]] (by rfl) rfl rfl (by simp only [List.map_toArray, List.map_cons, List.map_nil]; rfl) ?_
        refine (HCB.out W hL.b).mono ?_
        rintro e W2 ⟨u, rfl, hu, hb⟩
        refine ⟨_, rfl, ?_⟩
        have hL2 := hL.call hb (mono_ty _) hu
        refine hK.out _ _ (KB.out _ hL2.b) (fun _ => ?_)
        have h3 := st_2_3 u1 u p1 p2 W2 hL2
        simp only [hFR] at h3
        exact hout _ _ _ _ h3
    have st_2_1 : ∀ (u1 u2 p1 : Value) (W : World), LS w1 [(u1, XT a), (u2, XT b)] [p1] W → G 5 (bs 11 95) (FR u1 u2 undef p1 undef) W := fun u1 u2 p1 W hL => by
      refine hin _ _ _ _ ?_
      simp only [hFR]
      refine two_ (i := 5) (j := 7) (Ni := some 19) (Nj := some 8) (bs 11 127) (bs 11 223) rfl rfl rfl rfl (by kernel_rfl) (by decide) (by decide) (fun K hK => ?_) (fun K hK => ?_)
      · refine goes_ Tryz.func26 (by kernel_rfl) rfl #[.slice SA L.length sc, .int .i64 60, .int .i64 6000] (by rfl) rfl rfl (by simp only [List.map_toArray, List.map_cons, List.map_nil]; rfl) ?_
        refine (HCL.out W hL.b).mono ?_
        rintro e W2 ⟨u, rfl, hu, hb⟩
        refine ⟨_, rfl, ?_⟩
        have hL2 := hL.call hb (mono_bd _) hu
        refine hK.out _ _ (KB.out _ hL2.b) (fun _ => ?_)
        have h3 := st_3_1 u1 u2 u p1 W2 hL2
        simp only [hFR] at h3
        exact hout _ _ _ _ h3
      · refine value_ (w1 := ?_) (v := ?_) (by rfl) rfl ?_ ?_
        rotate_left 2
        · go_simp; constructor; rfl; rfl
        have hL2 := LS.make [p1] [] hL
        refine hK.out _ _ (KB.out _ hL2.b) (fun _ => ?_)
        have h3 := st_2_3 u1 u2 p1 _ _ hL2
        simp only [hFR] at h3
        exact hout _ _ _ _ h3
    have st_2_2 : ∀ (u1 u2 p2 : Value) (W : World), LS w1 [(u1, XT a), (u2, XT b)] [p2] W → G 5 (bs 11 159) (FR u1 u2 undef undef p2) W := fun u1 u2 p2 W hL => by
      refine hin _ _ _ _ ?_
      simp only [hFR]
      refine two_ (i := 5) (j := 6) (Ni := some 19) (Nj := some 7) (bs 11 191) (bs 11 223) rfl rfl rfl rfl (by kernel_rfl) (by decide) (by decide) (fun K hK => ?_) (fun K hK => ?_)
      · refine goes_ Tryz.func26 (by kernel_rfl) rfl #[.slice SA L.length sc, .int .i64 60, .int .i64 6000] (by rfl) rfl rfl (by simp only [List.map_toArray, List.map_cons, List.map_nil]; rfl) ?_
        refine (HCL.out W hL.b).mono ?_
        rintro e W2 ⟨u, rfl, hu, hb⟩
        refine ⟨_, rfl, ?_⟩
        have hL2 := hL.call hb (mono_bd _) hu
        refine hK.out _ _ (KB.out _ hL2.b) (fun _ => ?_)
        have h3 := st_3_2 u1 u2 u p2 W2 hL2
        simp only [hFR] at h3
        exact hout _ _ _ _ h3
      · refine value_ (w1 := ?_) (v := ?_) (by rfl) rfl ?_ ?_
        rotate_left 2
        · go_simp; constructor; rfl; rfl
        have hL2 := LS.make [] [p2] hL
        refine hK.out _ _ (KB.out _ hL2.b) (fun _ => ?_)
        have h3 := st_2_3 u1 u2 _ p2 _ hL2
        simp only [hFR] at h3
        exact hout _ _ _ _ h3
    have st_3_0 : ∀ (u1 u2 u3 : Value) (W : World), LS w1 [(u1, XT a), (u2, XT b), (u3, XB l)] [] W → G 5 (bs 11 63) (FR u1 u2 u3 undef undef) W := fun u1 u2 u3 W hL => by
      refine hin _ _ _ _ ?_
      simp only [hFR]
      refine two_ (i := 6) (j := 7) (Ni := some 7) (Nj := some 8) (bs 11 127) (bs 11 191) rfl rfl rfl rfl (by kernel_rfl) (by decide) (by decide) (fun K hK => ?_) (fun K hK => ?_)
      · refine value_ (w1 := ?_) (v := ?_) (by rfl) rfl ?_ ?_
        rotate_left 2
        · go_simp; constructor; rfl; rfl
        have hL2 := LS.make [] [] hL
        refine hK.out _ _ (KB.out _ hL2.b) (fun _ => ?_)
        have h3 := st_3_1 u1 u2 u3 _ _ hL2
        simp only [hFR] at h3
        exact hout _ _ _ _ h3
      · refine value_ (w1 := ?_) (v := ?_) (by rfl) rfl ?_ ?_
        rotate_left 2
        · go_simp; constructor; rfl; rfl
        have hL2 := LS.make [] [] hL
        refine hK.out _ _ (KB.out _ hL2.b) (fun _ => ?_)
        have h3 := st_3_2 u1 u2 u3 _ _ hL2
        simp only [hFR] at h3
        exact hout _ _ _ _ h3
    have st_0_3 : ∀ (p1 p2 : Value) (W : World), LS w1 [] [p1, p2] W → G 6 (bs 11 213) (FR undef undef undef p1 p2) W := fun p1 p2 W hL => by
      refine hin _ _ _ _ ?_
      simp only [hFR]
      refine one_ (i := 1) (N := some 15) (bs 11 215) rfl rfl (by kernel_rfl) (by decide) (fun K hK => ?_)
      · refine goes_ Tryz.func14 (by kernel_rfl) rfl #[.agg #[.int .i64 ta.kind, .string (S ta.mod), .string (S ta.name), .slice A ta.args.length c, .int .i64 ta.var]] (by rfl) rfl rfl (by simp only [List.map_toArray, List.map_cons, List.map_nil]; rfl) ?_
        refine (HCA.out W hL.b).mono ?_
        rintro e W2 ⟨u, rfl, hu, hb⟩
        refine ⟨_, rfl, ?_⟩
        have hL2 := hL.call hb (mono_ty _) hu
        refine hK.out _ _ (KB.out _ hL2.b) (fun _ => ?_)
        have h3 := st_1_3 u p1 p2 W2 hL2
        simp only [hFR] at h3
        exact hout _ _ _ _ h3
    have st_1_1 : ∀ (u1 p1 : Value) (W : World), LS w1 [(u1, XT a)] [p1] W → G 6 (bs 11 87) (FR u1 undef undef p1 undef) W := fun u1 p1 W hL => by
      refine hin _ _ _ _ ?_
      simp only [hFR]
      refine two_ (i := 3) (j := 7) (Ni := some 17) (Nj := some 8) (bs 11 95) (bs 11 215) rfl rfl rfl rfl (by kernel_rfl) (by decide) (by decide) (fun K hK => ?_) (fun K hK => ?_)
      · refine goes_ Tryz.func14 (by kernel_rfl) rfl #[.agg #[.int .i64 tb.kind, .string (S tb.mod), .string (S tb.name), .slice B tb.args.length d, .int .i64 tb.var]] (by rfl) rfl rfl (by simp only [List.map_toArray, List.map_cons, List.map_nil]; rfl) ?_
        refine (HCB.out W hL.b).mono ?_
        rintro e W2 ⟨u, rfl, hu, hb⟩
        refine ⟨_, rfl, ?_⟩
        have hL2 := hL.call hb (mono_ty _) hu
        refine hK.out _ _ (KB.out _ hL2.b) (fun _ => ?_)
        have h3 := st_2_1 u1 u p1 W2 hL2
        simp only [hFR] at h3
        exact hout _ _ _ _ h3
      · refine value_ (w1 := ?_) (v := ?_) (by rfl) rfl ?_ ?_
        rotate_left 2
        · go_simp; constructor; rfl; rfl
        have hL2 := LS.make [p1] [] hL
        refine hK.out _ _ (KB.out _ hL2.b) (fun _ => ?_)
        have h3 := st_1_3 u1 p1 _ _ hL2
        simp only [hFR] at h3
        exact hout _ _ _ _ h3
    have st_1_2 : ∀ (u1 p2 : Value) (W : World), LS w1 [(u1, XT a)] [p2] W → G 6 (bs 11 151) (FR u1 undef undef undef p2) W := fun u1 p2 W hL => by
      refine hin _ _ _ _ ?_
      simp only [hFR]
      refine two_ (i := 3) (j := 6) (Ni := some 17) (Nj := some 7) (bs 11 159) (bs 11 215) rfl rfl rfl rfl (by kernel_rfl) (by decide) (by decide) (fun K hK => ?_) (fun K hK => ?_)
      · refine goes_ Tryz.func14 (by kernel_rfl) rfl #[.agg #[.int .i64 tb.kind, .string (S tb.mod), .string (S tb.name), .slice B tb.args.length d, .int .i64 tb.var]] (by rfl) rfl rfl (by simp only [List.map_toArray, List.map_cons, List.map_nil]; rfl) ?_
        refine (HCB.out W hL.b).mono ?_
        rintro e W2 ⟨u, rfl, hu, hb⟩
        refine ⟨_, rfl, ?_⟩
        have hL2 := hL.call hb (mono_ty _) hu
        refine hK.out _ _ (KB.out _ hL2.b) (fun _ => ?_)
        have h3 := st_2_2 u1 u p2 W2 hL2
        simp only [hFR] at h3
        exact hout _ _ _ _ h3
      · refine value_ (w1 := ?_) (v := ?_) (by rfl) rfl ?_ ?_
        rotate_left 2
        · go_simp; constructor; rfl; rfl
        have hL2 := LS.make [] [p2] hL
        refine hK.out _ _ (KB.out _ hL2.b) (fun _ => ?_)
        have h3 := st_1_3 u1 _ p2 _ hL2
        simp only [hFR] at h3
        exact hout _ _ _ _ h3
    have st_2_0 : ∀ (u1 u2 : Value) (W : World), LS w1 [(u1, XT a), (u2, XT b)] [] W → G 6 (bs 11 31) (FR u1 u2 undef undef undef) W := fun u1 u2 W hL => by
      refine hin _ _ _ _ ?_
      simp only [hFR]
      refine three_ (i := 5) (j := 6) (k := 7) (Ni := some 19) (Nj := some 7) (Nk := some 8) (bs 11 63) (bs 11 95) (bs 11 159) rfl rfl rfl rfl rfl rfl (by kernel_rfl) (by decide) (by decide) (by decide) (fun K hK => ?_) (fun K hK => ?_) (fun K hK => ?_)
      · refine goes_ Tryz.func26 (by kernel_rfl) rfl #[.slice SA L.length sc, .int .i64 60, .int .i64 6000] (by rfl) rfl rfl (by simp only [List.map_toArray, List.map_cons, List.map_nil]; rfl) ?_
        refine (HCL.out W hL.b).mono ?_
        rintro e W2 ⟨u, rfl, hu, hb⟩
        refine ⟨_, rfl, ?_⟩
        have hL2 := hL.call hb (mono_bd _) hu
        refine hK.out _ _ (KB.out _ hL2.b) (fun _ => ?_)
        have h3 := st_3_0 u1 u2 u W2 hL2
        simp only [hFR] at h3
        exact hout _ _ _ _ h3
      · refine value_ (w1 := ?_) (v := ?_) (by rfl) rfl ?_ ?_
        rotate_left 2
        · go_simp; constructor; rfl; rfl
        have hL2 := LS.make [] [] hL
        refine hK.out _ _ (KB.out _ hL2.b) (fun _ => ?_)
        have h3 := st_2_1 u1 u2 _ _ hL2
        simp only [hFR] at h3
        exact hout _ _ _ _ h3
      · refine value_ (w1 := ?_) (v := ?_) (by rfl) rfl ?_ ?_
        rotate_left 2
        · go_simp; constructor; rfl; rfl
        have hL2 := LS.make [] [] hL
        refine hK.out _ _ (KB.out _ hL2.b) (fun _ => ?_)
        have h3 := st_2_2 u1 u2 _ _ hL2
        simp only [hFR] at h3
        exact hout _ _ _ _ h3
    have st_0_1 : ∀ (p1 : Value) (W : World), LS w1 [] [p1] W → G 7 (bs 11 85) (FR undef undef undef p1 undef) W := fun p1 W hL => by
      refine hin _ _ _ _ ?_
      simp only [hFR]
      refine two_ (i := 1) (j := 7) (Ni := some 15) (Nj := some 8) (bs 11 87) (bs 11 213) rfl rfl rfl rfl (by kernel_rfl) (by decide) (by decide) (fun K hK => ?_) (fun K hK => ?_)
      · refine goes_ Tryz.func14 (by kernel_rfl) rfl #[.agg #[.int .i64 ta.kind, .string (S ta.mod), .string (S ta.name), .slice A ta.args.length c, .int .i64 ta.var]] (by rfl) rfl rfl (by simp only [List.map_toArray, List.map_cons, List.map_nil]; rfl) ?_
        refine (HCA.out W hL.b).mono ?_
        rintro e W2 ⟨u, rfl, hu, hb⟩
        refine ⟨_, rfl, ?_⟩
        have hL2 := hL.call hb (mono_ty _) hu
        refine hK.out _ _ (KB.out _ hL2.b) (fun _ => ?_)
        have h3 := st_1_1 u p1 W2 hL2
        simp only [hFR] at h3
        exact hout _ _ _ _ h3
      · refine value_ (w1 := ?_) (v := ?_) (by rfl) rfl ?_ ?_
        rotate_left 2
        · go_simp; constructor; rfl; rfl
        have hL2 := LS.make [p1] [] hL
        refine hK.out _ _ (KB.out _ hL2.b) (fun _ => ?_)
        have h3 := st_0_3 p1 _ _ hL2
        simp only [hFR] at h3
        exact hout _ _ _ _ h3
    have st_0_2 : ∀ (p2 : Value) (W : World), LS w1 [] [p2] W → G 7 (bs 11 149) (FR undef undef undef undef p2) W := fun p2 W hL => by
      refine hin _ _ _ _ ?_
      simp only [hFR]
      refine two_ (i := 1) (j := 6) (Ni := some 15) (Nj := some 7) (bs 11 151) (bs 11 213) rfl rfl rfl rfl (by kernel_rfl) (by decide) (by decide) (fun K hK => ?_) (fun K hK => ?_)
      · refine goes_ Tryz.func14 (by kernel_rfl) rfl #[.agg #[.int .i64 ta.kind, .string (S ta.mod), .string (S ta.name), .slice A ta.args.length c, .int .i64 ta.var]] (by rfl) rfl rfl (by simp only [List.map_toArray, List.map_cons, List.map_nil]; rfl) ?_
        refine (HCA.out W hL.b).mono ?_
        rintro e W2 ⟨u, rfl, hu, hb⟩
        refine ⟨_, rfl, ?_⟩
        have hL2 := hL.call hb (mono_ty _) hu
        refine hK.out _ _ (KB.out _ hL2.b) (fun _ => ?_)
        have h3 := st_1_2 u p2 W2 hL2
        simp only [hFR] at h3
        exact hout _ _ _ _ h3
      · refine value_ (w1 := ?_) (v := ?_) (by rfl) rfl ?_ ?_
        rotate_left 2
        · go_simp; constructor; rfl; rfl
        have hL2 := LS.make [] [p2] hL
        refine hK.out _ _ (KB.out _ hL2.b) (fun _ => ?_)
        have h3 := st_0_3 _ p2 _ hL2
        simp only [hFR] at h3
        exact hout _ _ _ _ h3
    have st_1_0 : ∀ (u1 : Value) (W : World), LS w1 [(u1, XT a)] [] W → G 7 (bs 11 23) (FR u1 undef undef undef undef) W := fun u1 W hL => by
      refine hin _ _ _ _ ?_
      simp only [hFR]
      refine three_ (i := 3) (j := 6) (k := 7) (Ni := some 17) (Nj := some 7) (Nk := some 8) (bs 11 31) (bs 11 87) (bs 11 151) rfl rfl rfl rfl rfl rfl (by kernel_rfl) (by decide) (by decide) (by decide) (fun K hK => ?_) (fun K hK => ?_) (fun K hK => ?_)
      · refine goes_ Tryz.func14 (by kernel_rfl) rfl #[.agg #[.int .i64 tb.kind, .string (S tb.mod), .string (S tb.name), .slice B tb.args.length d, .int .i64 tb.var]] (by rfl) rfl rfl (by simp only [List.map_toArray, List.map_cons, List.map_nil]; rfl) ?_
        refine (HCB.out W hL.b).mono ?_
        rintro e W2 ⟨u, rfl, hu, hb⟩
        refine ⟨_, rfl, ?_⟩
        have hL2 := hL.call hb (mono_ty _) hu
        refine hK.out _ _ (KB.out _ hL2.b) (fun _ => ?_)
        have h3 := st_2_0 u1 u W2 hL2
        simp only [hFR] at h3
        exact hout _ _ _ _ h3
      · refine value_ (w1 := ?_) (v := ?_) (by rfl) rfl ?_ ?_
        rotate_left 2
        · go_simp; constructor; rfl; rfl
        have hL2 := LS.make [] [] hL
        refine hK.out _ _ (KB.out _ hL2.b) (fun _ => ?_)
        have h3 := st_1_1 u1 _ _ hL2
        simp only [hFR] at h3
        exact hout _ _ _ _ h3
      · refine value_ (w1 := ?_) (v := ?_) (by rfl) rfl ?_ ?_
        rotate_left 2
        · go_simp; constructor; rfl; rfl
        have hL2 := LS.make [] [] hL
        refine hK.out _ _ (KB.out _ hL2.b) (fun _ => ?_)
        have h3 := st_1_2 u1 _ _ hL2
        simp only [hFR] at h3
        exact hout _ _ _ _ h3
    have st_0_0 : ∀ (W : World), LS w1 [] [] W → G 8 (bs 11 21) (FR undef undef undef undef undef) W := fun W hL => by
      refine hin _ _ _ _ ?_
      simp only [hFR]
      refine three_ (i := 1) (j := 6) (k := 7) (Ni := some 15) (Nj := some 7) (Nk := some 8) (bs 11 23) (bs 11 85) (bs 11 149) rfl rfl rfl rfl rfl rfl (by kernel_rfl) (by decide) (by decide) (by decide) (fun K hK => ?_) (fun K hK => ?_) (fun K hK => ?_)
      · refine goes_ Tryz.func14 (by kernel_rfl) rfl #[.agg #[.int .i64 ta.kind, .string (S ta.mod), .string (S ta.name), .slice A ta.args.length c, .int .i64 ta.var]] (by rfl) rfl rfl (by simp only [List.map_toArray, List.map_cons, List.map_nil]; rfl) ?_
        refine (HCA.out W hL.b).mono ?_
        rintro e W2 ⟨u, rfl, hu, hb⟩
        refine ⟨_, rfl, ?_⟩
        have hL2 := hL.call hb (mono_ty _) hu
        refine hK.out _ _ (KB.out _ hL2.b) (fun _ => ?_)
        have h3 := st_1_0 u W2 hL2
        simp only [hFR] at h3
        exact hout _ _ _ _ h3
      · refine value_ (w1 := ?_) (v := ?_) (by rfl) rfl ?_ ?_
        rotate_left 2
        · go_simp; constructor; rfl; rfl
        have hL2 := LS.make [] [] hL
        refine hK.out _ _ (KB.out _ hL2.b) (fun _ => ?_)
        have h3 := st_0_1 _ _ hL2
        simp only [hFR] at h3
        exact hout _ _ _ _ h3
      · refine value_ (w1 := ?_) (v := ?_) (by rfl) rfl ?_ ?_
        rotate_left 2
        · go_simp; constructor; rfl; rfl
        have hL2 := LS.make [] [] hL
        refine hK.out _ _ (KB.out _ hL2.b) (fun _ => ?_)
        have h3 := st_0_2 _ _ hL2
        simp only [hFR] at h3
        exact hout _ _ _ _ h3
    exact st_0_0 w1.drew (LS.nil w1)
  suffices hfull : ∀ (u1 u2 u3 p1 p2 : Value) (W : World), LS w1 [(u1, XT a), (u2, XT b), (u3, XB l)] [p1, p2] W → G 3 (bs 11 255) (FR u1 u2 u3 p1 p2) W by
    have h3 := hkey hfull
    simp only [hFR] at h3
    exact h3
  clear hkey hHeld
  intro u1 u2 u3 p1 p2 W hL
  refine hin _ _ _ _ ?_
  simp only [hFR]
  obtain ⟨-, _, ⟨A1, c1, rfl, -, -⟩, -, -⟩ := hL.v (u1, XT a) (by simp)
  obtain ⟨-, _, ⟨A2, c2, rfl, -, -⟩, -, -⟩ := hL.v (u2, XT b) (by simp)
  obtain ⟨-, _, ⟨SA1, sc1, rfl, -, -⟩, -, -⟩ := hL.v (u3, XB l) (by simp)
  obtain ⟨r1, rfl, hp1, hz1⟩ := hL.p p1 (by simp)
  obtain ⟨r2, rfl, hp2, hz2⟩ := hL.p p2 (by simp)
  have n12 : r1 ≠ r2 := fun e => by have h := hL.d; simp at h <;> exact absurd e (by first | exact h | exact h.1 | exact h.2 | exact h.1.1 | exact h.1.2)
  have n21 : r2 ≠ r1 := fun e => n12 e.symm
  obtain ⟨W5, hW5⟩ : ∃ W5, W5 = (fil (fil W r1 a A1 c1) r2 b A2 c2) := ⟨_, rfl⟩
  have hg : ∀ (X : World) (q : Nat) (t : Ty) (A : Option Addr) (c : Nat), X.heap.size ≤ (fil X q t A c).heap.size := fun X q t A c => (p5w_gb X q _ _ _ _ _).size
  have blk1 := Lib.hid (show W5.heap[r1]? = some (.cells (tyC a A1 c1) 24 (0, 0)) by rw [hW5]; exact ((fil_other (Nat.lt_of_lt_of_le (lt_of_block hz1) (hg _ _ _ _ _)) n12).trans (fil_same hz1)))
  have blk2 := Lib.hid (show W5.heap[r2]? = some (.cells (tyC b A2 c2) 24 (0, 0)) by rw [hW5]; exact (fil_same ((fil_other (lt_of_block hz2) n21).trans hz2)))
  have hs5 : W.heap.size ≤ W5.heap.size := by rw [hW5]; exact Nat.le_trans (Nat.le_trans (Nat.le_refl _) (hg _ _ _ _ _)) (hg _ _ _ _ _)
  have hk5 : ∀ b, b < W.heap.size → (∀ u ∈ [Value.pointer (some ⟨r1, 0, none⟩), Value.pointer (some ⟨r2, 0, none⟩)], ∀ q, u = .pointer (some ⟨q, 0, none⟩) → b ≠ q) → W5.heap[b]? = W.heap[b]? := fun b hb hn => by
    rw [hW5]
    exact ((fil_other (Nat.lt_of_lt_of_le hb (hg _ _ _ _ _)) (hn _ (by simp) _ rfl))).trans (fil_other hb (hn _ (by simp) _ rfl))
  have HT1 := Lib.hid (show RdV W5 (.agg #[.int .i64 a.kind, .string (S a.mod), .string (S a.name), .slice A1 a.args.length c1, .int .i64 a.var]) a from by obtain ⟨ok, h1, h2⟩ := hL.get (X := XT a) (u := tyV a (.slice A1 a.args.length c1)) (by simp) hs5 hk5; exact h1.rdv h2)
  have HT2 := Lib.hid (show RdV W5 (.agg #[.int .i64 b.kind, .string (S b.mod), .string (S b.name), .slice A2 b.args.length c2, .int .i64 b.var]) b from by obtain ⟨ok, h1, h2⟩ := hL.get (X := XT b) (u := tyV b (.slice A2 b.args.length c2)) (by simp) hs5 hk5; exact h1.rdv h2)
  have HL5 := Lib.hid (show RdBw W5 (.slice SA1 l.length sc1) l from by obtain ⟨ok, h1, h2⟩ := hL.get (X := XB l) (u := .slice SA1 l.length sc1) (by simp) hs5 hk5; exact h1.rdb h2)
  have B5 := Lib.hid (show Below w.heap.size w W5 by rw [hW5]; exact (fil_bel (fil_bel (B1.out.trans (hL.b.mono B1.out.size)) (Nat.le_refl _) (Nat.le_trans B1.out.size hp1)) (Nat.le_refl _) (Nat.le_trans B1.out.size hp2)))
  have KP := Lib.hid (show ∀ X, Below W5.heap.size W5 X → X.cell? ⟨r1, 0, none⟩ = some (.int .i64 a.kind) ∧ X.cell? ⟨r1, 1, none⟩ = some (.string (S a.mod)) ∧ X.cell? ⟨r1, 2, none⟩ = some (.string (S a.name)) ∧ X.cell? ⟨r1, 3, none⟩ = some (.slice A1 a.args.length c1) ∧ X.cell? ⟨r1, 4, none⟩ = some (.int .i64 a.var) ∧ X.cell? ⟨r2, 0, none⟩ = some (.int .i64 b.kind) ∧ X.cell? ⟨r2, 1, none⟩ = some (.string (S b.mod)) ∧ X.cell? ⟨r2, 2, none⟩ = some (.string (S b.name)) ∧ X.cell? ⟨r2, 3, none⟩ = some (.slice A2 b.args.length c2) ∧ X.cell? ⟨r2, 4, none⟩ = some (.int .i64 b.var) from fun X hb => by
    obtain ⟨a00, a01, a02, a03, a04, -⟩ := five_cells ((hb.block r1 (lt_of_block blk1.out)).trans blk1.out)
    obtain ⟨a10, a11, a12, a13, a14, -⟩ := five_cells ((hb.block r2 (lt_of_block blk2.out)).trans blk2.out)
    exact ⟨a00, a01, a02, a03, a04, a10, a11, a12, a13, a14⟩)
  obtain ⟨z00, z01, z02, z03, z04, f0⟩ := five_cells hz1
  obtain ⟨z10, z11, z12, z13, z14, f1⟩ := five_cells hz2
  clear hL hs5 hk5 hg hp1 hp2 hz1 hz2
  have HW5 := Lib.hid (show W5 = ((((((((((W.setCell ⟨r1, 0, none⟩ (.int .i64 a.kind)).setCell ⟨r1, 1, none⟩ (.string (S a.mod))).setCell ⟨r1, 2, none⟩ (.string (S a.name))).setCell ⟨r1, 3, none⟩ (.slice A1 a.args.length c1)).setCell ⟨r1, 4, none⟩ (.int .i64 a.var)).setCell ⟨r2, 0, none⟩ (.int .i64 b.kind)).setCell ⟨r2, 1, none⟩ (.string (S b.mod))).setCell ⟨r2, 2, none⟩ (.string (S b.name))).setCell ⟨r2, 3, none⟩ (.slice A2 b.args.length c2)).setCell ⟨r2, 4, none⟩ (.int .i64 b.var)) from hW5)
  clear hW5
  unfold tyV
  refine last_ (i := 8) (N := none) (bs 11 511) rfl rfl (by kernel_rfl) (by decide) (fun K hK => ?_)
  refine skip_ (w1 := ?_) (by rfl) rfl ?_ ?_
  rotate_left
  · go_simp; all_goals rfl
  refine hK.out _ _ ?_
  clear hK K
  refine last_ (i := 9) (N := none) (bs 11 1023) rfl rfl (by kernel_rfl) (by decide) (fun K hK => ?_)
  refine skip_ (w1 := ?_) (by rfl) rfl ?_ ?_
  rotate_left
  · go_simp; all_goals rfl
  refine hK.out _ _ ?_
  clear hK K
  refine pu 10 9 (bs 11 2047) ?_
  refine done_ (by kernel_rfl) ?_
  rw [← HW5.out]
  clear HW5 hin hout G KB hFR FR z00 z01 z02 z03 z04 z10 z11 z12 z13 z14 f0 f1
  obtain ⟨k00, k01, k02, k03, k04, k10, k11, k12, k13, k14⟩ := KP.out W5 (Below.refl _ _)
  go_wp2_with fail
  refine (Unify_calls a b l _ _ _ W5 HT1.out HT2.out HL5.out (by have := HLF.out; omega)).mono ?_
  rintro e6 w6 ⟨en, X, hans, hup⟩
  obtain ⟨v6, rfl, hv6, hb6⟩ := upost_few hup
  have HANS := Lib.hid hans; have C6 := Lib.hid hb6
  have B6 := Lib.hid (show Below w.heap.size w w6 from B5.out.trans (hb6.mono B5.out.size))
  obtain ⟨XA, xc, rfl, -, -⟩ := id hv6
  have HV6 := Lib.hid hv6
  clear hans hup hv6 hb6 k00 k01 k02 k03 k04 k10 k11 k12 k13 k14
  obtain ⟨k00, k01, k02, k03, k04, k10, k11, k12, k13, k14⟩ := KP.out w6 C6.out
  go_wp2_with fail
  refine (Unify_calls b a l _ _ _ w6 (HT2.out.below C6.out) (HT1.out.below C6.out) (HL5.out.below C6.out) (by have := HLF.out; omega)).mono ?_
  rintro e7 w7 ⟨en', X', hans, hup⟩
  obtain ⟨rfl, rfl⟩ := unans_both HANS.out hans
  obtain ⟨v7, rfl, hv7, hb7⟩ := upost_few hup
  obtain ⟨YA, yc, rfl, -, -⟩ := id hv7
  have B7 := Lib.hid (show Below w.heap.size w w7 from B6.out.trans (hb7.mono B6.out.size))
  have hsb := SameBinds_calls X X _ _ w7 (HV6.out.below hb7) hv7
  rw [sameBd_self] at hsb
  have t1 : (en == en) = true := by simp
  clear hans hup hv7 hb7 k00 k01 k02 k03 k04 k10 k11 k12 k13 k14
  go_wp2_with fail
  refine hsb.mono ?_
  rintro e8 w8 ⟨rfl, hb8⟩
  have B8 := Lib.hid (show Below w.heap.size w w8 from B7.out.trans (hb8.mono B7.out.size))
  clear hsb hb8
  go_wp2_with fail
  refine (alive_calls w8 (HE.out w8 B8.out)).mono ?_
  rintro e9 w9 ⟨rfl, hb9⟩
  have B9 := Lib.hid (show Below w.heap.size w w9 from B8.out.trans (hb9.mono B8.out.size))
  clear hb9
  go_wp2
  go_ret
  exact ⟨rfl, B9.out⟩

end Go.Proofs.YtplnfepdikbpfaaGreatDoor
