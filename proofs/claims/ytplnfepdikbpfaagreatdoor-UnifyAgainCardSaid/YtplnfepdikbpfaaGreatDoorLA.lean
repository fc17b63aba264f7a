/- The walk of law14's UnifyAgain: it is true. Condition: the types and the pairs read; the world's tables. -/
import Derived.Test.YtplnfepdikbpfaaGreatDoorPW
import Derived.Test.YtplnfepdikbpfaaGreatDoorLW
namespace Go.Proofs.YtplnfepdikbpfaaGreatDoor
open Go.RowKit
open Go.Proofs.YtplnfepdikbpfaaGreatDoorW.PrintLast
set_option linter.unusedVariables false
set_option linter.unusedSimpArgs false
attribute [local go_sem ↓] Go.wp_at_zero Go.wp_at_succ

set_option maxRecDepth 100000 in
set_option maxHeartbeats 64000000 in
theorem UnifyAgain_calls (ta tb : Ty) (L : List (Int × Ty)) (va vb sv : Value) (w : World) (hva : RdV w va ta) (hvb : RdV w vb tb) (hsv : RdBw w sv L) (he : EnvB w.heap.size w) :
    Calls Tryz.prog 6 #[va, vb, sv] w fun e w' => e = .returned (.bool true) ∧ Below w.heap.size w w' := by
  have HE := Lib.hid (show ∀ X, Below w.heap.size w X → EnvB X.heap.size X from fun X h W hW => he W (bel_t h hW (Nat.le_refl _)))
  obtain ⟨hva1, A, c, rfl, hrva⟩ := id hva
  obtain ⟨hvb1, B, d, rfl, hrvb⟩ := id hvb
  obtain ⟨SA, sc, rfl, hll, -⟩ := id hsv
  have eva : tyV ta (.slice A ta.args.length c) = .agg #[.int .i64 ta.kind, .string (S ta.mod), .string (S ta.name), .slice A ta.args.length c, .int .i64 ta.var] := rfl
  rw [eva] at hva ⊢
  have evb : tyV tb (.slice B tb.args.length d) = .agg #[.int .i64 tb.kind, .string (S tb.mod), .string (S tb.name), .slice B tb.args.length d, .int .i64 tb.var] := rfl
  rw [evb] at hvb ⊢
  obtain ⟨w1, hw1⟩ : ∃ w1, w1 = ((w.alloc (.cells (tyC ta A c) 24)).alloc (.cells (tyC tb B d) 24)) := ⟨_, rfl⟩
  obtain ⟨q1, hq1⟩ : ∃ q, q = w.heap.size := ⟨_, rfl⟩
  obtain ⟨q2, hq2⟩ : ∃ q, q = w.heap.size + 1 := ⟨_, rfl⟩
  have B1 := Lib.hid (show Below w.heap.size w w1 by rw [hw1]; exact bel_alloc (bel_alloc (Below.refl _ _) _) _)
  have blkva := Lib.hid (show w1.heap[q1]? = some (.cells (tyC ta A c) 24 (0, 0)) by
    have h := (MapKept.heap_alloc w (.cells (tyC ta A c) 24)).1
    rw [hw1, hq1]; exact (((gb_alloc (w.alloc (.cells (tyC ta A c) 24)) (.cells (tyC tb B d) 24) .none).block _ (lt_of_block h) (by simp)).trans h))
  have blkvb := Lib.hid (show w1.heap[q2]? = some (.cells (tyC tb B d) 24 (0, 0)) by
    have h := (MapKept.heap_alloc (w.alloc (.cells (tyC ta A c) 24)) (.cells (tyC tb B d) 24)).1
    simp only [World.size_alloc] at h
    rw [hw1, hq2]; exact h)
  have KB := Lib.hid (show ∀ X, Below w1.heap.size w1 X → X.cell? ⟨q1, 0, none⟩ = some (.int .i64 ta.kind) ∧ X.cell? ⟨q1, 1, none⟩ = some (.string (S ta.mod)) ∧ X.cell? ⟨q1, 2, none⟩ = some (.string (S ta.name)) ∧ X.cell? ⟨q1, 3, none⟩ = some (.slice A ta.args.length c) ∧ X.cell? ⟨q1, 4, none⟩ = some (.int .i64 ta.var) ∧ X.cell? ⟨q2, 0, none⟩ = some (.int .i64 tb.kind) ∧ X.cell? ⟨q2, 1, none⟩ = some (.string (S tb.mod)) ∧ X.cell? ⟨q2, 2, none⟩ = some (.string (S tb.name)) ∧ X.cell? ⟨q2, 3, none⟩ = some (.slice B tb.args.length d) ∧ X.cell? ⟨q2, 4, none⟩ = some (.int .i64 tb.var) from fun X hb => by
    obtain ⟨k00, k01, k02, k03, k04, -⟩ := five_cells ((hb.block q1 (lt_of_block blkva.out)).trans blkva.out)
    obtain ⟨k10, k11, k12, k13, k14, -⟩ := five_cells ((hb.block q2 (lt_of_block blkvb.out)).trans blkvb.out)
    exact ⟨k00, k01, k02, k03, k04, k10, k11, k12, k13, k14⟩)
  obtain ⟨a, ha⟩ : ∃ a, a = cutA ta := ⟨_, rfl⟩
  obtain ⟨b, hb⟩ : ∃ a, a = cutA tb := ⟨_, rfl⟩
  obtain ⟨l, hl⟩ : ∃ l, l = someB L := ⟨_, rfl⟩
  have HLF := Lib.hid (show l.length ≤ 60 by rw [hl]; exact someB_few L)
  have HLS := Lib.hid (show Slv l by rw [hl]; exact someB_slv L)
  have HC0 := Lib.hid (show ∀ X, Below w1.heap.size w1 X → Calls Tryz.prog 14 #[.agg #[.int .i64 ta.kind, .string (S ta.mod), .string (S ta.name), .slice A ta.args.length c, .int .i64 ta.var]] X fun e w' => ∃ u, e = .returned u ∧ XT a (fresh X w') w' u ∧ Below X.heap.size X w' from fun X h => by rw [ha]; exact lcut_rd ta _ X (hva.below (B1.out.trans (h.mono B1.out.size))))
  have HC1 := Lib.hid (show ∀ X, Below w1.heap.size w1 X → Calls Tryz.prog 14 #[.agg #[.int .i64 tb.kind, .string (S tb.mod), .string (S tb.name), .slice B tb.args.length d, .int .i64 tb.var]] X fun e w' => ∃ u, e = .returned u ∧ XT b (fresh X w') w' u ∧ Below X.heap.size X w' from fun X h => by rw [hb]; exact lcut_rd tb _ X (hvb.below (B1.out.trans (h.mono B1.out.size))))
  have HCL := Lib.hid (show ∀ X, Below w1.heap.size w1 X → Calls Tryz.prog 27 #[.slice SA L.length sc] X fun e w' => ∃ u, e = .returned u ∧ XB l (fresh X w') w' u ∧ Below X.heap.size X w' from fun X h => by rw [hl]; exact some_rd L _ X (hsv.below (B1.out.trans (h.mono B1.out.size))))
  have HLW := Lib.hid (show wgtB l ≤ 6060 by rw [hl]; exact someB_wgt L)
  clear ha hb hl
  clear he hll hsv hva1 hrva eva hva hvb1 hrvb evb hvb
  obtain ⟨FR, hFR⟩ : ∃ FR : Value → Value → Value → Value → Value → Act, ∀ u1 u2 u3 p1 p2, FR u1 u2 u3 p1 p2 = (fun u1 u2 u3 p1 p2 => ⟨#[.agg #[.int .i64 ta.kind, .string (S ta.mod), .string (S ta.name), .slice A ta.args.length c, .int .i64 ta.var], .agg #[.int .i64 tb.kind, .string (S tb.mod), .string (S tb.name), .slice B tb.args.length d, .int .i64 tb.var], .slice SA L.length sc, .pointer (some ⟨q1, 0, none⟩), .pointer (some ⟨q2, 0, none⟩), undef, .bool false, p1, p2, undef, undef, undef, undef, undef, undef, undef, undef, undef, .agg #[.int .i64 ta.kind, .string (S ta.mod), .string (S ta.name), .slice A ta.args.length c, .int .i64 ta.var], u1, .agg #[.int .i64 tb.kind, .string (S tb.mod), .string (S tb.name), .slice B tb.args.length d, .int .i64 tb.var], u2, .slice SA L.length sc, u3, undef, undef, undef, undef, undef, undef, undef, undef, undef, undef, undef, undef, undef, undef, undef, undef, undef, undef, undef, undef, undef, undef, undef, undef, undef, undef, undef, undef, undef, undef, undef, undef, undef, undef, undef, undef, undef, undef, undef, undef, undef, undef, undef, undef, undef, undef, undef, undef, undef, undef, undef, undef, undef, undef, undef, undef, undef, undef, undef, undef, undef, undef, undef, undef, undef, undef, undef], []⟩) u1 u2 u3 p1 p2 := ⟨_, fun u1 u2 u3 p1 p2 => rfl⟩
  go_enter Tryz.func6, Tryz.ntmps6
  go_wp2_with fail
  rw [← hw1, ← hq2, ← hq1]
  clear hw1 hq1 hq2
  refine start_ (n := 11) (S := fun w' => w'.cell? ⟨q1, 0, none⟩ = some (.int .i64 ta.kind) ∧ w'.cell? ⟨q1, 1, none⟩ = some (.string (S ta.mod)) ∧ w'.cell? ⟨q1, 2, none⟩ = some (.string (S ta.name)) ∧ w'.cell? ⟨q1, 3, none⟩ = some (.slice A ta.args.length c) ∧ w'.cell? ⟨q1, 4, none⟩ = some (.int .i64 ta.var) ∧ w'.cell? ⟨q2, 0, none⟩ = some (.int .i64 tb.kind) ∧ w'.cell? ⟨q2, 1, none⟩ = some (.string (S tb.mod)) ∧ w'.cell? ⟨q2, 2, none⟩ = some (.string (S tb.name)) ∧ w'.cell? ⟨q2, 3, none⟩ = some (.slice B tb.args.length d) ∧ w'.cell? ⟨q2, 4, none⟩ = some (.int .i64 tb.var)) (ds := [8, 9, 10]) (bs 11 0) (by kernel_rfl) rfl rfl (KB.out _ (belD _ _)) (fun hHeld => ?_)
  refine tk 0 18 (bs 11 1) hHeld ?_
  refine tk 2 20 (bs 11 5) hHeld ?_
  refine pu 4 22 (bs 11 21) ?_
  refine wp_abs (fun G hin hout => ?_)
  have hkey : (∀ (u1 u2 u3 p1 p2 : Value) (W : World), LS w1 [(u1, XT a), (u2, XT b), (u3, XB l)] [p1, p2] W → G 3 (bs 11 255) (FR u1 u2 u3 p1 p2) W) → G 8 (bs 11 21) (FR undef undef undef undef undef) w1.drew := by
    intro hfull
    have st_2_3 : ∀ (u1 u2 p1 p2 : Value) (W : World), LS w1 [(u1, XT a), (u2, XT b)] [p1, p2] W → G 4 (bs 11 223) (FR u1 u2 undef p1 p2) W := fun u1 u2 p1 p2 W hL => by
      refine hin _ _ _ _ ?_
      simp only [hFR]
      refine one_ (i := 5) (N := some 23) (bs 11 255) rfl rfl (by kernel_rfl) (by decide) (fun K hK => ?_)
      · refine goes_ Tryz.func27 (by kernel_rfl) rfl #[.slice SA L.length sc] (by rfl) rfl rfl (by simp only [List.map_toArray, List.map_cons, List.map_nil]; rfl) ?_
        refine (HCL.out W hL.b).mono ?_
        rintro e W2 ⟨u, rfl, hu, hb⟩
        refine ⟨_, rfl, ?_⟩
        have hL2 := hL.call hb (mono_bd _) hu
        refine hK.out _ _ (KB.out _ hL2.b) (fun _ => ?_)
        have h3 := hfull u1 u2 u p1 p2 W2 hL2
        simp only [hFR] at h3
        exact hout _ _ _ _ h3
    have st_3_1 : ∀ (u1 u2 u3 p1 : Value) (W : World), LS w1 [(u1, XT a), (u2, XT b), (u3, XB l)] [p1] W → G 4 (bs 11 127) (FR u1 u2 u3 p1 undef) W := fun u1 u2 u3 p1 W hL => by
      refine hin _ _ _ _ ?_
      simp only [hFR]
      refine one_ (i := 7) (N := some 8) (bs 11 255) rfl rfl (by kernel_rfl) (by decide) (fun K hK => ?_)
      · refine value_ (w1 := ?_) (v := ?_) (by rfl) rfl ?_ ?_
        rotate_left 2
        · go_simp; constructor; rfl; rfl
        have hL2 := LS.make [p1] [] hL
        refine hK.out _ _ (KB.out _ hL2.b) (fun _ => ?_)
        have h3 := hfull u1 u2 u3 p1 _ _ hL2
        simp only [hFR] at h3
        exact hout _ _ _ _ h3
    have st_3_2 : ∀ (u1 u2 u3 p2 : Value) (W : World), LS w1 [(u1, XT a), (u2, XT b), (u3, XB l)] [p2] W → G 4 (bs 11 191) (FR u1 u2 u3 undef p2) W := fun u1 u2 u3 p2 W hL => by
      refine hin _ _ _ _ ?_
      simp only [hFR]
      refine one_ (i := 6) (N := some 7) (bs 11 255) rfl rfl (by kernel_rfl) (by decide) (fun K hK => ?_)
      · refine value_ (w1 := ?_) (v := ?_) (by rfl) rfl ?_ ?_
        rotate_left 2
        · go_simp; constructor; rfl; rfl
        have hL2 := LS.make [] [p2] hL
        refine hK.out _ _ (KB.out _ hL2.b) (fun _ => ?_)
        have h3 := hfull u1 u2 u3 _ p2 _ hL2
        simp only [hFR] at h3
        exact hout _ _ _ _ h3
    have st_1_3 : ∀ (u1 p1 p2 : Value) (W : World), LS w1 [(u1, XT a)] [p1, p2] W → G 5 (bs 11 215) (FR u1 undef undef p1 p2) W := fun u1 p1 p2 W hL => by
      refine hin _ _ _ _ ?_
      simp only [hFR]
      refine one_ (i := 3) (N := some 21) (bs 11 223) rfl rfl (by kernel_rfl) (by decide) (fun K hK => ?_)
      · refine goes_ Tryz.func14 (by kernel_rfl) rfl #[.agg #[.int .i64 tb.kind, .string (S tb.mod), .string (S tb.name), .slice B tb.args.length d, .int .i64 tb.var]] (by rfl) rfl rfl (by simp only [List.map_toArray, List.map_cons, List.map_nil]; rfl) ?_
        refine (HC1.out W hL.b).mono ?_
        rintro e W2 ⟨u, rfl, hu, hb⟩
        refine ⟨_, rfl, ?_⟩
        have hL2 := hL.call hb (mono_ty _) hu
        refine hK.out _ _ (KB.out _ hL2.b) (fun _ => ?_)
        have h3 := st_2_3 u1 u p1 p2 W2 hL2
        simp only [hFR] at h3
        exact hout _ _ _ _ h3
    have st_2_1 : ∀ (u1 u2 p1 : Value) (W : World), LS w1 [(u1, XT a), (u2, XT b)] [p1] W → G 5 (bs 11 95) (FR u1 u2 undef p1 undef) W := fun u1 u2 p1 W hL => by
      refine hin _ _ _ _ ?_
      simp only [hFR]
      refine two_ (i := 5) (j := 7) (Ni := some 23) (Nj := some 8) (bs 11 127) (bs 11 223) rfl rfl rfl rfl (by kernel_rfl) (by decide) (by decide) (fun K hK => ?_) (fun K hK => ?_)
      · refine goes_ Tryz.func27 (by kernel_rfl) rfl #[.slice SA L.length sc] (by rfl) rfl rfl (by simp only [List.map_toArray, List.map_cons, List.map_nil]; rfl) ?_
        refine (HCL.out W hL.b).mono ?_
        rintro e W2 ⟨u, rfl, hu, hb⟩
        refine ⟨_, rfl, ?_⟩
        have hL2 := hL.call hb (mono_bd _) hu
        refine hK.out _ _ (KB.out _ hL2.b) (fun _ => ?_)
        have h3 := st_3_1 u1 u2 u p1 W2 hL2
        simp only [hFR] at h3
        exact hout _ _ _ _ h3
      · refine value_ (w1 := ?_) (v := ?_) (by rfl) rfl ?_ ?_
        rotate_left 2
        · go_simp; constructor; rfl; rfl
        have hL2 := LS.make [p1] [] hL
        refine hK.out _ _ (KB.out _ hL2.b) (fun _ => ?_)
        have h3 := st_2_3 u1 u2 p1 _ _ hL2
        simp only [hFR] at h3
        exact hout _ _ _ _ h3
    have st_2_2 : ∀ (u1 u2 p2 : Value) (W : World), LS w1 [(u1, XT a), (u2, XT b)] [p2] W → G 5 (bs 11 159) (FR u1 u2 undef undef p2) W := fun u1 u2 p2 W hL => by
      refine hin _ _ _ _ ?_
      simp only [hFR]
      refine two_ (i := 5) (j := 6) (Ni := some 23) (Nj := some 7) (bs 11 191) (bs 11 223) rfl rfl rfl rfl (by kernel_rfl) (by decide) (by decide) (fun K hK => ?_) (fun K hK => ?_)
      · refine goes_ Tryz.func27 (by kernel_rfl) rfl #[.slice SA L.length sc] (by rfl) rfl rfl (by simp only [List.map_toArray, List.map_cons, List.map_nil]; rfl) ?_
        refine (HCL.out W hL.b).mono ?_
        rintro e W2 ⟨u, rfl, hu, hb⟩
        refine ⟨_, rfl, ?_⟩
        have hL2 := hL.call hb (mono_bd _) hu
        refine hK.out _ _ (KB.out _ hL2.b) (fun _ => ?_)
        have h3 := st_3_2 u1 u2 u p2 W2 hL2
        simp only [hFR] at h3
        exact hout _ _ _ _ h3
      · refine value_ (w1 := ?_) (v := ?_) (by rfl) rfl ?_ ?_
        rotate_left 2
        · go_simp; constructor; rfl; rfl
        have hL2 := LS.make [] [p2] hL
        refine hK.out _ _ (KB.out _ hL2.b) (fun _ => ?_)
        have h3 := st_2_3 u1 u2 _ p2 _ hL2
        simp only [hFR] at h3
        exact hout _ _ _ _ h3
    have st_3_0 : ∀ (u1 u2 u3 : Value) (W : World), LS w1 [(u1, XT a), (u2, XT b), (u3, XB l)] [] W → G 5 (bs 11 63) (FR u1 u2 u3 undef undef) W := fun u1 u2 u3 W hL => by
      refine hin _ _ _ _ ?_
      simp only [hFR]
      refine two_ (i := 6) (j := 7) (Ni := some 7) (Nj := some 8) (bs 11 127) (bs 11 191) rfl rfl rfl rfl (by kernel_rfl) (by decide) (by decide) (fun K hK => ?_) (fun K hK => ?_)
      · refine value_ (w1 := ?_) (v := ?_) (by rfl) rfl ?_ ?_
        rotate_left 2
        · go_simp; constructor; rfl; rfl
        have hL2 := LS.make [] [] hL
        refine hK.out _ _ (KB.out _ hL2.b) (fun _ => ?_)
        have h3 := st_3_1 u1 u2 u3 _ _ hL2
        simp only [hFR] at h3
        exact hout _ _ _ _ h3
      · refine value_ (w1 := ?_) (v := ?_) (by rfl) rfl ?_ ?_
        rotate_left 2
        · go_simp; constructor; rfl; rfl
        have hL2 := LS.make [] [] hL
        refine hK.out _ _ (KB.out _ hL2.b) (fun _ => ?_)
        have h3 := st_3_2 u1 u2 u3 _ _ hL2
        simp only [hFR] at h3
        exact hout _ _ _ _ h3
    have st_0_3 : ∀ (p1 p2 : Value) (W : World), LS w1 [] [p1, p2] W → G 6 (bs 11 213) (FR undef undef undef p1 p2) W := fun p1 p2 W hL => by
      refine hin _ _ _ _ ?_
      simp only [hFR]
      refine one_ (i := 1) (N := some 19) (bs 11 215) rfl rfl (by kernel_rfl) (by decide) (fun K hK => ?_)
      · refine goes_ Tryz.func14 (by kernel_rfl) rfl #[.agg #[.int .i64 ta.kind, .string (S ta.mod), .string (S ta.name), .slice A ta.args.length c, .int .i64 ta.var]] (by rfl) rfl rfl (by simp only [List.map_toArray, List.map_cons, List.map_nil]; rfl) ?_
        refine (HC0.out W hL.b).mono ?_
        rintro e W2 ⟨u, rfl, hu, hb⟩
        refine ⟨_, rfl, ?_⟩
        have hL2 := hL.call hb (mono_ty _) hu
        refine hK.out _ _ (KB.out _ hL2.b) (fun _ => ?_)
        have h3 := st_1_3 u p1 p2 W2 hL2
        simp only [hFR] at h3
        exact hout _ _ _ _ h3
    have st_1_1 : ∀ (u1 p1 : Value) (W : World), LS w1 [(u1, XT a)] [p1] W → G 6 (bs 11 87) (FR u1 undef undef p1 undef) W := fun u1 p1 W hL => by
      refine hin _ _ _ _ ?_
      simp only [hFR]
      refine two_ (i := 3) (j := 7) (Ni := some 21) (Nj := some 8) (bs 11 95) (bs 11 215) rfl rfl rfl rfl (by kernel_rfl) (by decide) (by decide) (fun K hK => ?_) (fun K hK => ?_)
      · refine goes_ Tryz.func14 (by kernel_rfl) rfl #[.agg #[.int .i64 tb.kind, .string (S tb.mod), .string (S tb.name), .slice B tb.args.length d, .int .i64 tb.var]] (by rfl) rfl rfl (by simp only [List.map_toArray, List.map_cons, List.map_nil]; rfl) ?_
        refine (HC1.out W hL.b).mono ?_
        rintro e W2 ⟨u, rfl, hu, hb⟩
        refine ⟨_, rfl, ?_⟩
        have hL2 := hL.call hb (mono_ty _) hu
        refine hK.out _ _ (KB.out _ hL2.b) (fun _ => ?_)
        have h3 := st_2_1 u1 u p1 W2 hL2
        simp only [hFR] at h3
        exact hout _ _ _ _ h3
      · refine value_ (w1 := ?_) (v := ?_) (by rfl) rfl ?_ ?_
        rotate_left 2
        · go_simp; constructor; rfl; rfl
        have hL2 := LS.make [p1] [] hL
        refine hK.out _ _ (KB.out _ hL2.b) (fun _ => ?_)
        have h3 := st_1_3 u1 p1 _ _ hL2
        simp only [hFR] at h3
        exact hout _ _ _ _ h3
    have st_1_2 : ∀ (u1 p2 : Value) (W : World), LS w1 [(u1, XT a)] [p2] W → G 6 (bs 11 151) (FR u1 undef undef undef p2) W := fun u1 p2 W hL => by
      refine hin _ _ _ _ ?_
      simp only [hFR]
      refine two_ (i := 3) (j := 6) (Ni := some 21) (Nj := some 7) (bs 11 159) (bs 11 215) rfl rfl rfl rfl (by kernel_rfl) (by decide) (by decide) (fun K hK => ?_) (fun K hK => ?_)
      · refine goes_ Tryz.func14 (by kernel_rfl) rfl #[.agg #[.int .i64 tb.kind, .string (S tb.mod), .string (S tb.name), .slice B tb.args.length d, .int .i64 tb.var]] (by rfl) rfl rfl (by simp only [List.map_toArray, List.map_cons, List.map_nil]; rfl) ?_
        refine (HC1.out W hL.b).mono ?_
        rintro e W2 ⟨u, rfl, hu, hb⟩
        refine ⟨_, rfl, ?_⟩
        have hL2 := hL.call hb (mono_ty _) hu
        refine hK.out _ _ (KB.out _ hL2.b) (fun _ => ?_)
        have h3 := st_2_2 u1 u p2 W2 hL2
        simp only [hFR] at h3
        exact hout _ _ _ _ h3
      · refine value_ (w1 := ?_) (v := ?_) (by rfl) rfl ?_ ?_
        rotate_left 2
        · go_simp; constructor; rfl; rfl
        have hL2 := LS.make [] [p2] hL
        refine hK.out _ _ (KB.out _ hL2.b) (fun _ => ?_)
        have h3 := st_1_3 u1 _ p2 _ hL2
        simp only [hFR] at h3
        exact hout _ _ _ _ h3
    have st_2_0 : ∀ (u1 u2 : Value) (W : World), LS w1 [(u1, XT a), (u2, XT b)] [] W → G 6 (bs 11 31) (FR u1 u2 undef undef undef) W := fun u1 u2 W hL => by
      refine hin _ _ _ _ ?_
      simp only [hFR]
      refine three_ (i := 5) (j := 6) (k := 7) (Ni := some 23) (Nj := some 7) (Nk := some 8) (bs 11 63) (bs 11 95) (bs 11 159) rfl rfl rfl rfl rfl rfl (by kernel_rfl) (by decide) (by decide) (by decide) (fun K hK => ?_) (fun K hK => ?_) (fun K hK => ?_)
      · refine goes_ Tryz.func27 (by kernel_rfl) rfl #[.slice SA L.length sc] (by rfl) rfl rfl (by simp only [List.map_toArray, List.map_cons, List.map_nil]; rfl) ?_
        refine (HCL.out W hL.b).mono ?_
        rintro e W2 ⟨u, rfl, hu, hb⟩
        refine ⟨_, rfl, ?_⟩
        have hL2 := hL.call hb (mono_bd _) hu
        refine hK.out _ _ (KB.out _ hL2.b) (fun _ => ?_)
        have h3 := st_3_0 u1 u2 u W2 hL2
        simp only [hFR] at h3
        exact hout _ _ _ _ h3
      · refine value_ (w1 := ?_) (v := ?_) (by rfl) rfl ?_ ?_
        rotate_left 2
        · go_simp; constructor; rfl; rfl
        have hL2 := LS.make [] [] hL
        refine hK.out _ _ (KB.out _ hL2.b) (fun _ => ?_)
        have h3 := st_2_1 u1 u2 _ _ hL2
        simp only [hFR] at h3
        exact hout _ _ _ _ h3
      · refine value_ (w1 := ?_) (v := ?_) (by rfl) rfl ?_ ?_
        rotate_left 2
        · go_simp; constructor; rfl; rfl
        have hL2 := LS.make [] [] hL
        refine hK.out _ _ (KB.out _ hL2.b) (fun _ => ?_)
        have h3 := st_2_2 u1 u2 _ _ hL2
        simp only [hFR] at h3
        exact hout _ _ _ _ h3
    have st_0_1 : ∀ (p1 : Value) (W : World), LS w1 [] [p1] W → G 7 (bs 11 85) (FR undef undef undef p1 undef) W := fun p1 W hL => by
      refine hin _ _ _ _ ?_
      simp only [hFR]
      refine two_ (i := 1) (j := 7) (Ni := some 19) (Nj := some 8) (bs 11 87) (bs 11 213) rfl rfl rfl rfl (by kernel_rfl) (by decide) (by decide) (fun K hK => ?_) (fun K hK => ?_)
      · refine goes_ Tryz.func14 (by kernel_rfl) rfl #[.agg #[.int .i64 ta.kind, .string (S ta.mod), .string (S ta.name), .slice A ta.args.length c, .int .i64 ta.var]] (by rfl) rfl rfl (by simp only [List.map_toArray, List.map_cons, List.map_nil]; rfl) ?_
        refine (HC0.out W hL.b).mono ?_
        rintro e W2 ⟨u, rfl, hu, hb⟩
        refine ⟨_, rfl, ?_⟩
        have hL2 := hL.call hb (mono_ty _) hu
        refine hK.out _ _ (KB.out _ hL2.b) (fun _ => ?_)
        have h3 := st_1_1 u p1 W2 hL2
        simp only [hFR] at h3
        exact hout _ _ _ _ h3
      · refine value_ (w1 := ?_) (v := ?_) (by rfl) rfl ?_ ?_
        rotate_left 2
        · go_simp; constructor; rfl; rfl
        have hL2 := LS.make [p1] [] hL
        refine hK.out _ _ (KB.out _ hL2.b) (fun _ => ?_)
        have h3 := st_0_3 p1 _ _ hL2
        simp only [hFR] at h3
        exact hout _ _ _ _ h3
    have st_0_2 : ∀ (p2 : Value) (W : World), LS w1 [] [p2] W → G 7 (bs 11 149) (FR undef undef undef undef p2) W := fun p2 W hL => by
      refine hin _ _ _ _ ?_
      simp only [hFR]
      refine two_ (i := 1) (j := 6) (Ni := some 19) (Nj := some 7) (bs 11 151) (bs 11 213) rfl rfl rfl rfl (by kernel_rfl) (by decide) (by decide) (fun K hK => ?_) (fun K hK => ?_)
      · refine goes_ Tryz.func14 (by kernel_rfl) rfl #[.agg #[.int .i64 ta.kind, .string (S ta.mod), .string (S ta.name), .slice A ta.args.length c, .int .i64 ta.var]] (by rfl) rfl rfl (by simp only [List.map_toArray, List.map_cons, List.map_nil]; rfl) ?_
        refine (HC0.out W hL.b).mono ?_
        rintro e W2 ⟨u, rfl, hu, hb⟩
        refine ⟨_, rfl, ?_⟩
        have hL2 := hL.call hb (mono_ty _) hu
        refine hK.out _ _ (KB.out _ hL2.b) (fun _ => ?_)
        have h3 := st_1_2 u p2 W2 hL2
        simp only [hFR] at h3
        exact hout _ _ _ _ h3
      · refine value_ (w1 := ?_) (v := ?_) (by rfl) rfl ?_ ?_
        rotate_left 2
        · go_simp; constructor; rfl; rfl
        have hL2 := LS.make [] [p2] hL
        refine hK.out _ _ (KB.out _ hL2.b) (fun _ => ?_)
        have h3 := st_0_3 _ p2 _ hL2
        simp only [hFR] at h3
        exact hout _ _ _ _ h3
    have st_1_0 : ∀ (u1 : Value) (W : World), LS w1 [(u1, XT a)] [] W → G 7 (bs 11 23) (FR u1 undef undef undef undef) W := fun u1 W hL => by
      refine hin _ _ _ _ ?_
      simp only [hFR]
      refine three_ (i := 3) (j := 6) (k := 7) (Ni := some 21) (Nj := some 7) (Nk := some 8) (bs 11 31) (bs 11 87) (bs 11 151) rfl rfl rfl rfl rfl rfl (by kernel_rfl) (by decide) (by decide) (by decide) (fun K hK => ?_) (fun K hK => ?_) (fun K hK => ?_)
      · refine goes_ Tryz.func14 (by kernel_rfl) rfl #[.agg #[.int .i64 tb.kind, .string (S tb.mod), .string (S tb.name), .slice B tb.args.length d, .int .i64 tb.var]] (by rfl) rfl rfl (by simp only [List.map_toArray, List.map_cons, List.map_nil]; rfl) ?_
        refine (HC1.out W hL.b).mono ?_
        rintro e W2 ⟨u, rfl, hu, hb⟩
        refine ⟨_, rfl, ?_⟩
        have hL2 := hL.call hb (mono_ty _) hu
        refine hK.out _ _ (KB.out _ hL2.b) (fun _ => ?_)
        have h3 := st_2_0 u1 u W2 hL2
        simp only [hFR] at h3
        exact hout _ _ _ _ h3
      · refine value_ (w1 := ?_) (v := ?_) (by rfl) rfl ?_ ?_
        rotate_left 2
        · go_simp; constructor; rfl; rfl
        have hL2 := LS.make [] [] hL
        refine hK.out _ _ (KB.out _ hL2.b) (fun _ => ?_)
        have h3 := st_1_1 u1 _ _ hL2
        simp only [hFR] at h3
        exact hout _ _ _ _ h3
      · refine value_ (w1 := ?_) (v := ?_) (by rfl) rfl ?_ ?_
        rotate_left 2
        · go_simp; constructor; rfl; rfl
        have hL2 := LS.make [] [] hL
        refine hK.out _ _ (KB.out _ hL2.b) (fun _ => ?_)
        have h3 := st_1_2 u1 _ _ hL2
        simp only [hFR] at h3
        exact hout _ _ _ _ h3
    have st_0_0 : ∀ (W : World), LS w1 [] [] W → G 8 (bs 11 21) (FR undef undef undef undef undef) W := fun W hL => by
      refine hin _ _ _ _ ?_
      simp only [hFR]
      refine three_ (i := 1) (j := 6) (k := 7) (Ni := some 19) (Nj := some 7) (Nk := some 8) (bs 11 23) (bs 11 85) (bs 11 149) rfl rfl rfl rfl rfl rfl (by kernel_rfl) (by decide) (by decide) (by decide) (fun K hK => ?_) (fun K hK => ?_) (fun K hK => ?_)
      · refine goes_ Tryz.func14 (by kernel_rfl) rfl #[.agg #[.int .i64 ta.kind, .string (S ta.mod), .string (S ta.name), .slice A ta.args.length c, .int .i64 ta.var]] (by rfl) rfl rfl (by simp only [List.map_toArray, List.map_cons, List.map_nil]; rfl) ?_
        refine (HC0.out W hL.b).mono ?_
        rintro e W2 ⟨u, rfl, hu, hb⟩
        refine ⟨_, rfl, ?_⟩
        have hL2 := hL.call hb (mono_ty _) hu
        refine hK.out _ _ (KB.out _ hL2.b) (fun _ => ?_)
        have h3 := st_1_0 u W2 hL2
        simp only [hFR] at h3
        exact hout _ _ _ _ h3
      · refine value_ (w1 := ?_) (v := ?_) (by rfl) rfl ?_ ?_
        rotate_left 2
        · go_simp; constructor; rfl; rfl
        have hL2 := LS.make [] [] hL
        refine hK.out _ _ (KB.out _ hL2.b) (fun _ => ?_)
        have h3 := st_0_1 _ _ hL2
        simp only [hFR] at h3
        exact hout _ _ _ _ h3
      · refine value_ (w1 := ?_) (v := ?_) (by rfl) rfl ?_ ?_
        rotate_left 2
        · go_simp; constructor; rfl; rfl
        have hL2 := LS.make [] [] hL
        refine hK.out _ _ (KB.out _ hL2.b) (fun _ => ?_)
        have h3 := st_0_2 _ _ hL2
        simp only [hFR] at h3
        exact hout _ _ _ _ h3
    exact st_0_0 w1.drew (LS.nil w1)
  suffices hfull : ∀ (u1 u2 u3 p1 p2 : Value) (W : World), LS w1 [(u1, XT a), (u2, XT b), (u3, XB l)] [p1, p2] W → G 3 (bs 11 255) (FR u1 u2 u3 p1 p2) W by
    have h3 := hkey hfull
    simp only [hFR] at h3
    exact h3
  clear hkey hHeld
  intro u1 u2 u3 p1 p2 W hL
  refine hin _ _ _ _ ?_
  simp only [hFR]
  obtain ⟨-, _, ⟨A1, c1, rfl, -, -⟩, -, -⟩ := hL.v (u1, XT a) (by simp)
  obtain ⟨-, _, ⟨A2, c2, rfl, -, -⟩, -, -⟩ := hL.v (u2, XT b) (by simp)
  obtain ⟨-, _, ⟨SA1, sc1, rfl, -, -⟩, -, -⟩ := hL.v (u3, XB l) (by simp)
  obtain ⟨r1, rfl, hp1, hz1⟩ := hL.p p1 (by simp)
  obtain ⟨r2, rfl, hp2, hz2⟩ := hL.p p2 (by simp)
  have n12 : r1 ≠ r2 := fun e => by have h := hL.d; simp at h <;> exact absurd e (by first | exact h | exact h.1 | exact h.2 | exact h.1.1 | exact h.1.2)
  have n21 : r2 ≠ r1 := fun e => n12 e.symm
  obtain ⟨W5, hW5⟩ : ∃ W5, W5 = (fil (fil W r1 a A1 c1) r2 b A2 c2) := ⟨_, rfl⟩
  have hg : ∀ (X : World) (q : Nat) (t : Ty) (A : Option Addr) (c : Nat), X.heap.size ≤ (fil X q t A c).heap.size := fun X q t A c => (p5w_gb X q _ _ _ _ _).size
  have blk1 := Lib.hid (show W5.heap[r1]? = some (.cells (tyC a A1 c1) 24 (0, 0)) by rw [hW5]; exact ((fil_other (Nat.lt_of_lt_of_le (lt_of_block hz1) (hg _ _ _ _ _)) n12).trans (fil_same hz1)))
  have blk2 := Lib.hid (show W5.heap[r2]? = some (.cells (tyC b A2 c2) 24 (0, 0)) by rw [hW5]; exact (fil_same ((fil_other (lt_of_block hz2) n21).trans hz2)))
  have hs5 : W.heap.size ≤ W5.heap.size := by rw [hW5]; exact Nat.le_trans (Nat.le_trans (Nat.le_refl _) (hg _ _ _ _ _)) (hg _ _ _ _ _)
  have hk5 : ∀ b, b < W.heap.size → (∀ u ∈ [Value.pointer (some ⟨r1, 0, none⟩), Value.pointer (some ⟨r2, 0, none⟩)], ∀ q, u = .pointer (some ⟨q, 0, none⟩) → b ≠ q) → W5.heap[b]? = W.heap[b]? := fun b hb hn => by
    rw [hW5]
    exact ((fil_other (Nat.lt_of_lt_of_le hb (hg _ _ _ _ _)) (hn _ (by simp) _ rfl))).trans (fil_other hb (hn _ (by simp) _ rfl))
  have HT1 := Lib.hid (show RdV W5 (.agg #[.int .i64 a.kind, .string (S a.mod), .string (S a.name), .slice A1 a.args.length c1, .int .i64 a.var]) a from by obtain ⟨ok, h1, h2⟩ := hL.get (X := XT a) (u := tyV a (.slice A1 a.args.length c1)) (by simp) hs5 hk5; exact h1.rdv h2)
  have HT2 := Lib.hid (show RdV W5 (.agg #[.int .i64 b.kind, .string (S b.mod), .string (S b.name), .slice A2 b.args.length c2, .int .i64 b.var]) b from by obtain ⟨ok, h1, h2⟩ := hL.get (X := XT b) (u := tyV b (.slice A2 b.args.length c2)) (by simp) hs5 hk5; exact h1.rdv h2)
  have HL5 := Lib.hid (show RdBw W5 (.slice SA1 l.length sc1) l from by obtain ⟨ok, h1, h2⟩ := hL.get (X := XB l) (u := .slice SA1 l.length sc1) (by simp) hs5 hk5; exact h1.rdb h2)
  have B5 := Lib.hid (show Below w.heap.size w W5 by rw [hW5]; exact (fil_bel (fil_bel (B1.out.trans (hL.b.mono B1.out.size)) (Nat.le_refl _) (Nat.le_trans B1.out.size hp1)) (Nat.le_refl _) (Nat.le_trans B1.out.size hp2)))
  have KP := Lib.hid (show ∀ X, Below W5.heap.size W5 X → X.cell? ⟨r1, 0, none⟩ = some (.int .i64 a.kind) ∧ X.cell? ⟨r1, 1, none⟩ = some (.string (S a.mod)) ∧ X.cell? ⟨r1, 2, none⟩ = some (.string (S a.name)) ∧ X.cell? ⟨r1, 3, none⟩ = some (.slice A1 a.args.length c1) ∧ X.cell? ⟨r1, 4, none⟩ = some (.int .i64 a.var) ∧ X.cell? ⟨r2, 0, none⟩ = some (.int .i64 b.kind) ∧ X.cell? ⟨r2, 1, none⟩ = some (.string (S b.mod)) ∧ X.cell? ⟨r2, 2, none⟩ = some (.string (S b.name)) ∧ X.cell? ⟨r2, 3, none⟩ = some (.slice A2 b.args.length c2) ∧ X.cell? ⟨r2, 4, none⟩ = some (.int .i64 b.var) from fun X hb => by
    obtain ⟨a00, a01, a02, a03, a04, -⟩ := five_cells ((hb.block r1 (lt_of_block blk1.out)).trans blk1.out)
    obtain ⟨a10, a11, a12, a13, a14, -⟩ := five_cells ((hb.block r2 (lt_of_block blk2.out)).trans blk2.out)
    exact ⟨a00, a01, a02, a03, a04, a10, a11, a12, a13, a14⟩)
  obtain ⟨z00, z01, z02, z03, z04, f0⟩ := five_cells hz1
  obtain ⟨z10, z11, z12, z13, z14, f1⟩ := five_cells hz2
  clear hL hs5 hk5 hg hp1 hp2 hz1 hz2
  have HW5 := Lib.hid (show W5 = ((((((((((W.setCell ⟨r1, 0, none⟩ (.int .i64 a.kind)).setCell ⟨r1, 1, none⟩ (.string (S a.mod))).setCell ⟨r1, 2, none⟩ (.string (S a.name))).setCell ⟨r1, 3, none⟩ (.slice A1 a.args.length c1)).setCell ⟨r1, 4, none⟩ (.int .i64 a.var)).setCell ⟨r2, 0, none⟩ (.int .i64 b.kind)).setCell ⟨r2, 1, none⟩ (.string (S b.mod))).setCell ⟨r2, 2, none⟩ (.string (S b.name))).setCell ⟨r2, 3, none⟩ (.slice A2 b.args.length c2)).setCell ⟨r2, 4, none⟩ (.int .i64 b.var)) from hW5)
  clear hW5
  unfold tyV
  refine last_ (i := 8) (N := none) (bs 11 511) rfl rfl (by kernel_rfl) (by decide) (fun K hK => ?_)
  refine skip_ (w1 := ?_) (by rfl) rfl ?_ ?_
  rotate_left
  · go_simp; all_goals rfl
  refine hK.out _ _ ?_
  clear hK K
  refine last_ (i := 9) (N := none) (bs 11 1023) rfl rfl (by kernel_rfl) (by decide) (fun K hK => ?_)
  refine skip_ (w1 := ?_) (by rfl) rfl ?_ ?_
  rotate_left
  · go_simp; all_goals rfl
  refine hK.out _ _ ?_
  clear hK K
  refine pu 10 9 (bs 11 2047) ?_
  refine done_ (by kernel_rfl) ?_
  rw [← HW5.out]
  clear HW5 hin hout G KB hFR FR z00 z01 z02 z03 z04 z10 z11 z12 z13 z14 f0 f1
  obtain ⟨k00, k01, k02, k03, k04, k10, k11, k12, k13, k14⟩ := KP.out W5 (Below.refl _ _)
  go_wp2_with fail
  refine (IsFormed_calls a _ W5 HT1.out).mono ?_
  rintro e6 w6 ⟨rfl, hb6⟩
  have D6 := Lib.hid hb6
  have C6 := Lib.hid (show Below W5.heap.size W5 w6 from hb6)
  have B6 := Lib.hid (show Below w.heap.size w w6 from B5.out.trans (C6.out.mono B5.out.size))
  clear hb6 k00 k01 k02 k03 k04 k10 k11 k12 k13 k14
  cases hfa : formedB a with
  | false =>
    clear hfa
    go_wp2_with fail
    refine (alive_calls w6 (HE.out w6 B6.out)).mono ?_
    rintro e9 w9 ⟨rfl, hb9⟩
    have B9 := Lib.hid (show Below w.heap.size w w9 from B6.out.trans (hb9.mono B6.out.size))
    clear hb9
    go_wp2
    go_ret
    exact ⟨rfl, B9.out⟩
  | true =>
    have HFA := Lib.hid hfa
    clear hfa
    obtain ⟨k00, k01, k02, k03, k04, k10, k11, k12, k13, k14⟩ := KP.out w6 C6.out
    go_wp2_with fail
    refine (IsFormed_calls b _ w6 (HT2.out.below C6.out)).mono ?_
    rintro e7 w7 ⟨rfl, hb7⟩
    have D7 := Lib.hid hb7
    have C7 := Lib.hid (show Below W5.heap.size W5 w7 from C6.out.trans (hb7.mono C6.out.size))
    have B7 := Lib.hid (show Below w.heap.size w w7 from B5.out.trans (C7.out.mono B5.out.size))
    clear hb7 k00 k01 k02 k03 k04 k10 k11 k12 k13 k14
    cases hfb : formedB b with
    | false =>
      clear hfb
      go_wp2_with fail
      refine (alive_calls w7 (HE.out w7 B7.out)).mono ?_
      rintro e9 w9 ⟨rfl, hb9⟩
      have B9 := Lib.hid (show Below w.heap.size w w9 from B7.out.trans (hb9.mono B7.out.size))
      clear hb9
      go_wp2
      go_ret
      exact ⟨rfl, B9.out⟩
    | true =>
      have HFB := Lib.hid hfb
      clear hfb
      obtain ⟨k00, k01, k02, k03, k04, k10, k11, k12, k13, k14⟩ := KP.out w7 C7.out
      go_wp2_with fail
      refine (Unify_calls a a l _ _ _ w7 (HT1.out.below C7.out) (HT1.out.below C7.out) (HL5.out.below C7.out) (by have := HLF.out; omega)).mono ?_
      rintro e8 w8 ⟨en8, X8, hans, hup⟩
      obtain ⟨v8, rfl, hv8, hb8⟩ := upost_few hup
      have hk := uans_self HLS.out (unans_ok HFA.out HFA.out (by have := HLF.out; omega) HLS.out hans).1
      obtain ⟨he, hx⟩ := hk
      subst he
      rw [hx] at hv8
      clear hx
      have D8 := Lib.hid hb8
      have C8 := Lib.hid (show Below W5.heap.size W5 w8 from C7.out.trans (hb8.mono C7.out.size))
      have B8 := Lib.hid (show Below w.heap.size w w8 from B5.out.trans (C8.out.mono B5.out.size))
      obtain ⟨XA8, xc8, rfl, -, -⟩ := id hv8
      have HV8 := Lib.hid hv8
      clear hans hup hv8 hb8 k00 k01 k02 k03 k04 k10 k11 k12 k13 k14
      have hsb := SameBinds_calls l l _ _ w8 (HV8.out) (HL5.out.below C8.out)
      rw [sameBd_self] at hsb
      go_wp2_with fail
      refine hsb.mono ?_
      rintro e9 w9 ⟨rfl, hb9⟩
      have D9 := Lib.hid hb9
      have C9 := Lib.hid (show Below W5.heap.size W5 w9 from C8.out.trans (hb9.mono C8.out.size))
      have B9 := Lib.hid (show Below w.heap.size w w9 from B5.out.trans (C9.out.mono B5.out.size))
      clear hsb hb9
      obtain ⟨k00, k01, k02, k03, k04, k10, k11, k12, k13, k14⟩ := KP.out w9 C9.out
      go_wp2_with fail
      refine (Unify_calls a b l _ _ _ w9 (HT1.out.below C9.out) (HT2.out.below C9.out) (HL5.out.below C9.out) (by have := HLF.out; omega)).mono ?_
      rintro e10 w10 ⟨en10, X10, hans, hup⟩
      obtain ⟨v10, rfl, hv10, hb10⟩ := upost_few hup
      have HU := Lib.hid (unans_ok HFA.out HFB.out (by have := HLF.out; omega) HLS.out hans)
      have hen := uans_e HU.out.1
      have D10 := Lib.hid hb10
      have C10 := Lib.hid (show Below W5.heap.size W5 w10 from C9.out.trans (hb10.mono C9.out.size))
      have B10 := Lib.hid (show Below w.heap.size w w10 from B5.out.trans (C10.out.mono B5.out.size))
      obtain ⟨XA10, xc10, rfl, -, -⟩ := id hv10
      have HV10 := Lib.hid hv10
      clear hans hup hv10 hb10 k00 k01 k02 k03 k04 k10 k11 k12 k13 k14
      rcases hen with rfl | rfl | rfl | rfl
      · skip
        go_wp2_with fail
        refine (alive_calls w10 (HE.out w10 B10.out)).mono ?_
        rintro e11 w11 ⟨rfl, hb11⟩
        have B11 := Lib.hid (show Below w.heap.size w w11 from B10.out.trans (hb11.mono B10.out.size))
        clear hb11
        go_wp2
        go_ret
        exact ⟨rfl, B11.out⟩
      · skip
        go_wp2_with fail
        refine (alive_calls w10 (HE.out w10 B10.out)).mono ?_
        rintro e11 w11 ⟨rfl, hb11⟩
        have B11 := Lib.hid (show Below w.heap.size w w11 from B10.out.trans (hb11.mono B10.out.size))
        clear hb11
        go_wp2
        go_ret
        exact ⟨rfl, B11.out⟩
      · skip
        go_wp2_with fail
        refine (alive_calls w10 (HE.out w10 B10.out)).mono ?_
        rintro e11 w11 ⟨rfl, hb11⟩
        have B11 := Lib.hid (show Below w.heap.size w w11 from B10.out.trans (hb11.mono B10.out.size))
        clear hb11
        go_wp2
        go_ret
        exact ⟨rfl, B11.out⟩
      have HY := Lib.hid (uans_slv HFA.out HFB.out HLW.out HU.out.1 HU.out.2)
      obtain ⟨k00, k01, k02, k03, k04, k10, k11, k12, k13, k14⟩ := KP.out w10 C10.out
      go_wp2_with fail
      refine (Unify_calls a b X10 _ _ _ w10 (HT1.out.below C10.out) (HT2.out.below C10.out) (HV10.out) (by have := HY.out.2; omega)).mono ?_
      rintro e11 w11 ⟨en11, X11, hans, hup⟩
      obtain ⟨v11, rfl, hv11, hb11⟩ := upost_few hup
      have hk := uans_again HY.out.1 HU.out.1 (unans_ok HFA.out HFB.out HY.out.2 HY.out.1 hans).1
      obtain ⟨he, hx⟩ := hk
      subst he
      rw [hx] at hv11
      clear hx
      have D11 := Lib.hid hb11
      have C11 := Lib.hid (show Below W5.heap.size W5 w11 from C10.out.trans (hb11.mono C10.out.size))
      have B11 := Lib.hid (show Below w.heap.size w w11 from B5.out.trans (C11.out.mono B5.out.size))
      obtain ⟨XA11, xc11, rfl, -, -⟩ := id hv11
      have HV11 := Lib.hid hv11
      clear hans hup hv11 hb11 k00 k01 k02 k03 k04 k10 k11 k12 k13 k14
      obtain ⟨k00, k01, k02, k03, k04, k10, k11, k12, k13, k14⟩ := KP.out w11 C11.out
      go_wp2_with fail
      refine (Unify_calls b a X10 _ _ _ w11 (HT2.out.below C11.out) (HT1.out.below C11.out) (HV10.out.below D11.out) (by have := HY.out.2; omega)).mono ?_
      rintro e12 w12 ⟨en12, X12, hans, hup⟩
      obtain ⟨v12, rfl, hv12, hb12⟩ := upost_few hup
      have hk := uans_again HY.out.1 HU.out.1 ((unans_ok HFB.out HFA.out HY.out.2 HY.out.1 hans).1.congr (fun A τ => eqU_comm b a _ A τ))
      obtain ⟨he, hx⟩ := hk
      subst he
      rw [hx] at hv12
      clear hx
      have D12 := Lib.hid hb12
      have C12 := Lib.hid (show Below W5.heap.size W5 w12 from C11.out.trans (hb12.mono C11.out.size))
      have B12 := Lib.hid (show Below w.heap.size w w12 from B5.out.trans (C12.out.mono B5.out.size))
      obtain ⟨XA12, xc12, rfl, -, -⟩ := id hv12
      have HV12 := Lib.hid hv12
      clear hans hup hv12 hb12 k00 k01 k02 k03 k04 k10 k11 k12 k13 k14
      have hsb := SameBinds_calls X10 X10 _ _ w12 (HV11.out.below D12.out) ((HV10.out.below D11.out).below D12.out)
      rw [sameBd_self] at hsb
      go_wp2_with fail
      refine hsb.mono ?_
      rintro e13 w13 ⟨rfl, hb13⟩
      have D13 := Lib.hid hb13
      have C13 := Lib.hid (show Below W5.heap.size W5 w13 from C12.out.trans (hb13.mono C12.out.size))
      have B13 := Lib.hid (show Below w.heap.size w w13 from B5.out.trans (C13.out.mono B5.out.size))
      clear hsb hb13
      have hsb := SameBinds_calls X10 X10 _ _ w13 (HV12.out.below D13.out) (((HV10.out.below D11.out).below D12.out).below D13.out)
      rw [sameBd_self] at hsb
      go_wp2_with fail
      refine hsb.mono ?_
      rintro e14 w14 ⟨rfl, hb14⟩
      have D14 := Lib.hid hb14
      have C14 := Lib.hid (show Below W5.heap.size W5 w14 from C13.out.trans (hb14.mono C13.out.size))
      have B14 := Lib.hid (show Below w.heap.size w w14 from B5.out.trans (C14.out.mono B5.out.size))
      clear hsb hb14
      go_wp2_with fail
      refine (alive_calls w14 (HE.out w14 B14.out)).mono ?_
      rintro e15 w15 ⟨rfl, hb15⟩
      have B15 := Lib.hid (show Below w.heap.size w w15 from B14.out.trans (hb15.mono B14.out.size))
      clear hb15
      go_wp2
      go_ret
      exact ⟨rfl, B15.out⟩

end Go.Proofs.YtplnfepdikbpfaaGreatDoor
