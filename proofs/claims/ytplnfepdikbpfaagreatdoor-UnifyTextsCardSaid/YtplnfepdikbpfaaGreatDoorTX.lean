/- The walk of law14's UnifyTexts: it is true. Condition: the type reads; the string's length; the world's tables. -/
import Derived.Test.YtplnfepdikbpfaaGreatDoorST13
import Derived.Test.YtplnfepdikbpfaaGreatDoorST14
namespace Go.Proofs.YtplnfepdikbpfaaGreatDoor
open Go.RowKit
set_option linter.unusedVariables false
set_option linter.unusedSimpArgs false
attribute [local go_sem ↓] Go.wp_at_zero Go.wp_at_succ

theorem parse_of_text {a : Ty} (h : formedB a = true) {r : Ty × Int} (hr : ParseIs (textT a) r) : (20000 < (textT a).length ∧ r.2 = 3) ∨ ((textT a).length ≤ 20000 ∧ r = (a, 0)) := by
  rcases hr with ⟨h1, rfl⟩ | ⟨h1, f, q, hf, rfl⟩
  · exact .inl ⟨h1, rfl⟩
  · refine .inr ⟨h1, ?_⟩
    obtain ⟨g, hg⟩ := parse_text h
    have h3 := readF_le (Nat.le_max_left f g) hf
    rw [readF_le (Nat.le_max_right f g) hg] at h3
    obtain rfl := Option.some.inj h3
    simp [parseR, h]
theorem parse_any {s : List UInt8} (hs : s.length ≤ 20000) {r : Ty × Int} (hr : ParseIs s r) : (formedB r.1 = true ∧ utxt r.1 = s ∧ uerr r.1 = 0 ∧ r.2 = 0) ∨ r.2 = 4 := by
  rcases hr with ⟨h1, -⟩ | ⟨h1, f, q, hf, rfl⟩
  · omega
  · unfold parseR
    split
    · rename_i h
      obtain ⟨q1, q2, q3⟩ := q
      obtain ⟨h2, h3, h4⟩ := h
      simp only at h2 h3 h4
      subst h2 h3
      have := text_parse hf
      exact .inl ⟨h4, by unfold utxt; rw [if_pos h4]; exact this, by unfold uerr; rw [if_pos h4], rfl⟩
    · exact .inr rfl
theorem take_min20000 (l : List UInt8) : (l.take (min (l.length : Int) 20000).toNat).length ≤ 20000 := by
  rw [List.length_take]; omega
theorem sameT_self (a : Ty) : sameT a a = true := by rw [sameT_eq]; simp
theorem rdv_of {ok : Nat → Prop} {w : World} {t : Ty} {A : Option Addr} {c : Nat} (h : Ok1 t ∧ RdL ok w (.slice A t.args.length c) t.args) (hk : ∀ b, ok b → b < w.heap.size) : RdV w (.agg #[.int .i64 t.kind, .string (S t.mod), .string (S t.name), .slice A t.args.length c, .int .i64 t.var]) t := ⟨h.1, A, c, rfl, h.2.weak hk⟩

set_option maxRecDepth 100000 in
set_option maxHeartbeats 64000000 in
theorem UnifyTexts_calls (t : Ty) (s : List UInt8) (v : Value) (w : World) (hv : RdV w v t) (hs : s.length ≤ 9223372036854775000) (he : EnvB w.heap.size w) :
    Calls Tryz.prog 7 #[v, .string (S s)] w fun e w' => e = .returned (.bool true) ∧ Below w.heap.size w w' := by
  have HE := Lib.hid (show ∀ X, Below w.heap.size w X → TabW X ∧ EnvB X.heap.size X from fun X h => ⟨(he X h).1, fun W hW => he W (bel_t h hW (Nat.le_refl _))⟩)
  obtain ⟨h1, A, c, rfl, hr⟩ := hv
  unfold tyV
  obtain ⟨w1, hw1⟩ : ∃ w1, w1 = w.alloc (.cells #[.int .i64 t.kind, .string (S t.mod), .string (S t.name), .slice A t.args.length c, .int .i64 t.var] 24) := ⟨_, rfl⟩
  have B1 := Lib.hid (show Below w.heap.size w w1 by rw [hw1]; exact bel_a _ _)
  have hlc := lcut_calls t _ w1 (RdV.below ⟨h1, A, c, rfl, hr⟩ B1.out)
  unfold tyV at hlc
  clear h1 hr he
  have m0 : (0 : Int) ≤ min (s.length : Int) 20000 := by omega
  have m1 : min (s.length : Int) 20000 ≤ (s.length : Int) := by omega
  go_enter Tryz.func7, Tryz.ntmps7
  go_wp2_with fail
  rw [← hw1]
  clear hw1
  refine hlc.mono ?_
  rintro e w2 ⟨A2, c2, rfl, hrd2, hb2⟩
  have B2 := Lib.hid (show Below w.heap.size w w2 from bel_t B1.out hb2 (Nat.le_refl _))
  obtain ⟨a, ha⟩ : ∃ a, a = cutA t := ⟨_, rfl⟩
  rw [← ha] at hrd2 ⊢
  have HRA := Lib.hid (show RdV w2 _ a from rdv_of hrd2 (fun b h => h.2))
  clear hb2 hrd2 hlc ha
  unfold tyV
  obtain ⟨w3, hw3⟩ : ∃ w3, w3 = w2.alloc (.cells #[.int .i64 a.kind, .string (S a.mod), .string (S a.name), .slice A2 a.args.length c2, .int .i64 a.var] 24) := ⟨_, rfl⟩
  obtain ⟨q5, hq5⟩ : ∃ q5, q5 = w2.heap.size := ⟨_, rfl⟩
  have blk5 := Lib.hid (show w3.heap[q5]? = some (.cells #[.int .i64 a.kind, .string (S a.mod), .string (S a.name), .slice A2 a.args.length c2, .int .i64 a.var] 24 (0, 0)) by rw [hw3, hq5]; exact (MapKept.heap_alloc w2 _).1)
  have Y3 := Lib.hid (show Below w2.heap.size w2 w3 by rw [hw3]; exact bel_a _ _)
  have B3 := Lib.hid (show Below w.heap.size w w3 from bel_t B2.out Y3.out (Nat.le_refl _))
  have K5 := Lib.hid (show ∀ X, Below w3.heap.size w3 X → X.heap[q5]? = some (.cells #[.int .i64 a.kind, .string (S a.mod), .string (S a.name), .slice A2 a.args.length c2, .int .i64 a.var] 24 (0, 0)) from fun X h => (h.block q5 (lt_of_block blk5.out)).trans blk5.out)
  go_wp2_with fail
  rw [← hw3, ← hq5]
  clear hw3 hq5
  refine (Text_calls' a _ w3 (HRA.out.below Y3.out) (HE.out w3 B3.out).1).mono ?_
  rintro e w4 ⟨rfl, hb4⟩
  have B4 := Lib.hid (show Below w.heap.size w w4 from bel_t B3.out hb4 (Nat.le_refl _))
  have C4 := Lib.hid hb4
  have Y4 := Lib.hid (show Below w2.heap.size w2 w4 from bel_t Y3.out hb4 (Nat.le_refl _))
  clear hb4
  cases hf : formedB a with
  | true =>
    have e1 : utxt a = textT a := by unfold utxt; rw [if_pos hf]
    have e2 : uerr a = 0 := by unfold uerr; rw [if_pos hf]
    rw [e1, e2]
    have hlt := (formed_text hf).2
    have hpc := Parse_calls (textT a) w4 (by omega) (HE.out w4 B4.out).2
    have HF := Lib.hid hf
    clear e1 e2 hf
    go_wp2_with fail
    refine hpc.mono ?_
    rintro e w5 ⟨r, vp, hr, rfl, hval, hb⟩
    have B5 := Lib.hid (show Below w.heap.size w w5 from bel_t B4.out hb (Nat.le_refl _))
    have C5 := Lib.hid (show Below w3.heap.size w3 w5 from bel_t C4.out hb (Nat.le_refl _))
    have Y5 := Lib.hid (show Below w2.heap.size w2 w5 from bel_t Y4.out hb (Nat.le_refl _))
    have hpt := parse_of_text HF.out hr
    obtain ⟨x, er⟩ := r
    obtain ⟨hokx, AP, cP, rfl, hrdx⟩ := hval
    have HRP := Lib.hid (show RdV w5 _ x from rdv_of ⟨hokx, hrdx⟩ (fun b h => h.2))
    simp only at hpt
    have HPT := Lib.hid hpt
    clear hpt hr hb hokx hrdx hpc
    unfold tyV
    obtain ⟨w6, hw6⟩ : ∃ w6, w6 = w5.alloc (.cells #[.int .i64 x.kind, .string (S x.mod), .string (S x.name), .slice AP x.args.length cP, .int .i64 x.var] 24) := ⟨_, rfl⟩
    have Z6 := Lib.hid (show Below w5.heap.size w5 w6 by rw [hw6]; exact bel_a _ _)
    have B6 := Lib.hid (show Below w.heap.size w w6 from bel_t B5.out Z6.out (Nat.le_refl _))
    have C6 := Lib.hid (show Below w3.heap.size w3 w6 from bel_t C5.out Z6.out (Nat.le_refl _))
    have Y6 := Lib.hid (show Below w2.heap.size w2 w6 from bel_t Y5.out Z6.out (Nat.le_refl _))
    rcases HPT.out with ⟨hl, he⟩ | ⟨hl, hxe⟩
    · subst he
      have l1 : ¬ (((textT a).length : Int) ≤ 20000) := by omega
      have HW6 := Lib.hid hw6
      clear hw6 hl hlt
      go_wp2_with fail
      rw [← HW6.out]
      have hpc := Parse_calls (s.take (min (s.length : Int) 20000).toNat) w6 (by have := take_min20000 s; omega) (HE.out w6 B6.out).2
      go_wp2_with fail
      refine hpc.mono ?_
      rintro e x1 ⟨r, vp, hr, rfl, hval, hb⟩
      have X1 := Lib.hid (show Below w.heap.size w x1 from bel_t B6.out hb (Nat.le_refl _))
      have hpa := parse_any (take_min20000 s) hr
      obtain ⟨x, er⟩ := r
      obtain ⟨hokx, AX, cX, rfl, hrdx⟩ := hval
      have HRX := Lib.hid (show RdV x1 _ x from rdv_of ⟨hokx, hrdx⟩ (fun b h => h.2))
      simp only at hpa
      have HPA := Lib.hid hpa
      clear hpa hr hb hokx hrdx hpc
      unfold tyV
      obtain ⟨x2, hx2⟩ : ∃ x2, x2 = x1.alloc (.cells #[.int .i64 x.kind, .string (S x.mod), .string (S x.name), .slice AX x.args.length cX, .int .i64 x.var] 24) := ⟨_, rfl⟩
      have blkx := Lib.hid (show x2.heap[x1.heap.size]? = some (.cells #[.int .i64 x.kind, .string (S x.mod), .string (S x.name), .slice AX x.args.length cX, .int .i64 x.var] 24 (0, 0)) by rw [hx2]; exact (MapKept.heap_alloc x1 _).1)
      have Y2 := Lib.hid (show Below x1.heap.size x1 x2 by rw [hx2]; exact bel_a _ _)
      have X2 := Lib.hid (show Below w.heap.size w x2 from bel_t X1.out Y2.out (Nat.le_refl _))
      have HX2 := Lib.hid hx2; clear hx2
      rcases HPA.out with ⟨hf, ht, hu, he⟩ | he
      · subst he
        have HF2 := Lib.hid hf; have HT2 := Lib.hid ht; have HU2 := Lib.hid hu
        clear hf ht hu
        go_wp2_with fail
        rw [← HX2.out]
        have htc := Text_calls' x _ x2 (HRX.out.below Y2.out) (HE.out x2 X2.out).1
        rw [HT2.out, HU2.out] at htc
        refine htc.mono ?_
        rintro e x3 ⟨rfl, hb⟩
        have X3 := Lib.hid (show Below w.heap.size w x3 from bel_t X2.out hb (Nat.le_refl _))
        have Y3 := Lib.hid (show Below x1.heap.size x1 x3 from bel_t Y2.out hb (Nat.le_refl _))
        have hbx : x3.heap[x1.heap.size]? = some (.cells #[.int .i64 x.kind, .string (S x.mod), .string (S x.name), .slice AX x.args.length cX, .int .i64 x.var] 24 (0, 0)) := (hb.block _ (lt_of_block blkx.out)).trans blkx.out
        obtain ⟨k0, k1, k2, k3, k4, -⟩ := five_cells hbx
        have hfc := IsFormed_calls x _ x3 (HRX.out.below Y3.out)
        rw [HF2.out] at hfc
        clear hb htc hbx
        go_wp2_with fail
        refine hfc.mono ?_
        rintro e x4 ⟨rfl, hb⟩
        have X4 := Lib.hid (show Below w.heap.size w x4 from bel_t X3.out hb (Nat.le_refl _))
        clear hb hfc k0 k1 k2 k3 k4
        go_wp2_with fail
        refine (alive_calls x4 (fun W hW => (HE.out W (bel_t X4.out hW (Nat.le_refl _))).2 W (Below.refl _ _))).mono ?_
        rintro e x5 ⟨rfl, hb⟩
        have X5 := Lib.hid (show Below w.heap.size w x5 from bel_t X4.out hb (Nat.le_refl _))
        clear hb
        go_wp2
        go_ret
        exact ⟨rfl, X5.out⟩
      · subst he
        go_wp2_with fail
        rw [← HX2.out]
        refine (alive_calls x2 (fun W hW => (HE.out W (bel_t X2.out hW (Nat.le_refl _))).2 W (Below.refl _ _))).mono ?_
        rintro e x5 ⟨rfl, hb⟩
        have X5 := Lib.hid (show Below w.heap.size w x5 from bel_t X2.out hb (Nat.le_refl _))
        clear hb
        go_wp2
        go_ret
        exact ⟨rfl, X5.out⟩
    · have hxa : x = a ∧ er = 0 := ⟨congrArg Prod.fst hxe, congrArg Prod.snd hxe⟩
      obtain ⟨rfl, rfl⟩ := hxa
      have l1 : ((textT x).length : Int) ≤ 20000 := by omega
      have lq : q5 < w5.heap.size := lt_of_block (K5.out w5 C5.out)
      have lq1 : q5 < w5.heap.size + 1 := by omega
      obtain ⟨k0, k1, k2, k3, k4, -⟩ := five_cells (K5.out w5 C5.out)
      have hsc := Same_calls x x _ _ w6 (HRP.out.below Z6.out) (HRA.out.below Y6.out)
      rw [sameT_self] at hsc
      have HW6 := Lib.hid hw6
      clear hw6 hl hlt hxe
      go_wp2_with fail
      rw [← HW6.out]
      refine hsc.mono ?_
      rintro e w7 ⟨rfl, hb⟩
      have B7 := Lib.hid (show Below w.heap.size w w7 from bel_t B6.out hb (Nat.le_refl _))
      clear hb hsc k0 k1 k2 k3 k4
      have hpc := Parse_calls (s.take (min (s.length : Int) 20000).toNat) w7 (by have := take_min20000 s; omega) (HE.out w7 B7.out).2
      go_wp2_with fail
      refine hpc.mono ?_
      rintro e x1 ⟨r, vp, hr, rfl, hval, hb⟩
      have X1 := Lib.hid (show Below w.heap.size w x1 from bel_t B7.out hb (Nat.le_refl _))
      have hpa := parse_any (take_min20000 s) hr
      obtain ⟨x, er⟩ := r
      obtain ⟨hokx, AX, cX, rfl, hrdx⟩ := hval
      have HRX := Lib.hid (show RdV x1 _ x from rdv_of ⟨hokx, hrdx⟩ (fun b h => h.2))
      simp only at hpa
      have HPA := Lib.hid hpa
      clear hpa hr hb hokx hrdx hpc
      unfold tyV
      obtain ⟨x2, hx2⟩ : ∃ x2, x2 = x1.alloc (.cells #[.int .i64 x.kind, .string (S x.mod), .string (S x.name), .slice AX x.args.length cX, .int .i64 x.var] 24) := ⟨_, rfl⟩
      have blkx := Lib.hid (show x2.heap[x1.heap.size]? = some (.cells #[.int .i64 x.kind, .string (S x.mod), .string (S x.name), .slice AX x.args.length cX, .int .i64 x.var] 24 (0, 0)) by rw [hx2]; exact (MapKept.heap_alloc x1 _).1)
      have Y2 := Lib.hid (show Below x1.heap.size x1 x2 by rw [hx2]; exact bel_a _ _)
      have X2 := Lib.hid (show Below w.heap.size w x2 from bel_t X1.out Y2.out (Nat.le_refl _))
      have HX2 := Lib.hid hx2; clear hx2
      rcases HPA.out with ⟨hf, ht, hu, he⟩ | he
      · subst he
        have HF2 := Lib.hid hf; have HT2 := Lib.hid ht; have HU2 := Lib.hid hu
        clear hf ht hu
        go_wp2_with fail
        rw [← HX2.out]
        have htc := Text_calls' x _ x2 (HRX.out.below Y2.out) (HE.out x2 X2.out).1
        rw [HT2.out, HU2.out] at htc
        refine htc.mono ?_
        rintro e x3 ⟨rfl, hb⟩
        have X3 := Lib.hid (show Below w.heap.size w x3 from bel_t X2.out hb (Nat.le_refl _))
        have Y3 := Lib.hid (show Below x1.heap.size x1 x3 from bel_t Y2.out hb (Nat.le_refl _))
        have hbx : x3.heap[x1.heap.size]? = some (.cells #[.int .i64 x.kind, .string (S x.mod), .string (S x.name), .slice AX x.args.length cX, .int .i64 x.var] 24 (0, 0)) := (hb.block _ (lt_of_block blkx.out)).trans blkx.out
        obtain ⟨k0, k1, k2, k3, k4, -⟩ := five_cells hbx
        have hfc := IsFormed_calls x _ x3 (HRX.out.below Y3.out)
        rw [HF2.out] at hfc
        clear hb htc hbx
        go_wp2_with fail
        refine hfc.mono ?_
        rintro e x4 ⟨rfl, hb⟩
        have X4 := Lib.hid (show Below w.heap.size w x4 from bel_t X3.out hb (Nat.le_refl _))
        clear hb hfc k0 k1 k2 k3 k4
        go_wp2_with fail
        refine (alive_calls x4 (fun W hW => (HE.out W (bel_t X4.out hW (Nat.le_refl _))).2 W (Below.refl _ _))).mono ?_
        rintro e x5 ⟨rfl, hb⟩
        have X5 := Lib.hid (show Below w.heap.size w x5 from bel_t X4.out hb (Nat.le_refl _))
        clear hb
        go_wp2
        go_ret
        exact ⟨rfl, X5.out⟩
      · subst he
        go_wp2_with fail
        rw [← HX2.out]
        refine (alive_calls x2 (fun W hW => (HE.out W (bel_t X2.out hW (Nat.le_refl _))).2 W (Below.refl _ _))).mono ?_
        rintro e x5 ⟨rfl, hb⟩
        have X5 := Lib.hid (show Below w.heap.size w x5 from bel_t X2.out hb (Nat.le_refl _))
        clear hb
        go_wp2
        go_ret
        exact ⟨rfl, X5.out⟩
  | false =>
    have e2 : uerr a = 4 := by unfold uerr; rw [hf]; rfl
    rw [e2]
    obtain ⟨k0, k1, k2, k3, k4, -⟩ := five_cells (K5.out w4 C4.out)
    have hfc := IsFormed_calls a _ w4 (HRA.out.below Y4.out)
    rw [hf] at hfc
    clear e2 hf
    go_wp2_with fail
    refine hfc.mono ?_
    rintro e w7 ⟨rfl, hb⟩
    have B7 := Lib.hid (show Below w.heap.size w w7 from bel_t B4.out hb (Nat.le_refl _))
    clear hb hfc k0 k1 k2 k3 k4
    have hpc := Parse_calls (s.take (min (s.length : Int) 20000).toNat) w7 (by have := take_min20000 s; omega) (HE.out w7 B7.out).2
    go_wp2_with fail
    refine hpc.mono ?_
    rintro e x1 ⟨r, vp, hr, rfl, hval, hb⟩
    have X1 := Lib.hid (show Below w.heap.size w x1 from bel_t B7.out hb (Nat.le_refl _))
    have hpa := parse_any (take_min20000 s) hr
    obtain ⟨x, er⟩ := r
    obtain ⟨hokx, AX, cX, rfl, hrdx⟩ := hval
    have HRX := Lib.hid (show RdV x1 _ x from rdv_of ⟨hokx, hrdx⟩ (fun b h => h.2))
    simp only at hpa
    have HPA := Lib.hid hpa
    clear hpa hr hb hokx hrdx hpc
    unfold tyV
    obtain ⟨x2, hx2⟩ : ∃ x2, x2 = x1.alloc (.cells #[.int .i64 x.kind, .string (S x.mod), .string (S x.name), .slice AX x.args.length cX, .int .i64 x.var] 24) := ⟨_, rfl⟩
    have blkx := Lib.hid (show x2.heap[x1.heap.size]? = some (.cells #[.int .i64 x.kind, .string (S x.mod), .string (S x.name), .slice AX x.args.length cX, .int .i64 x.var] 24 (0, 0)) by rw [hx2]; exact (MapKept.heap_alloc x1 _).1)
    have Y2 := Lib.hid (show Below x1.heap.size x1 x2 by rw [hx2]; exact bel_a _ _)
    have X2 := Lib.hid (show Below w.heap.size w x2 from bel_t X1.out Y2.out (Nat.le_refl _))
    have HX2 := Lib.hid hx2; clear hx2
    rcases HPA.out with ⟨hf, ht, hu, he⟩ | he
    · subst he
      have HF2 := Lib.hid hf; have HT2 := Lib.hid ht; have HU2 := Lib.hid hu
      clear hf ht hu
      go_wp2_with fail
      rw [← HX2.out]
      have htc := Text_calls' x _ x2 (HRX.out.below Y2.out) (HE.out x2 X2.out).1
      rw [HT2.out, HU2.out] at htc
      refine htc.mono ?_
      rintro e x3 ⟨rfl, hb⟩
      have X3 := Lib.hid (show Below w.heap.size w x3 from bel_t X2.out hb (Nat.le_refl _))
      have Y3 := Lib.hid (show Below x1.heap.size x1 x3 from bel_t Y2.out hb (Nat.le_refl _))
      have hbx : x3.heap[x1.heap.size]? = some (.cells #[.int .i64 x.kind, .string (S x.mod), .string (S x.name), .slice AX x.args.length cX, .int .i64 x.var] 24 (0, 0)) := (hb.block _ (lt_of_block blkx.out)).trans blkx.out
      obtain ⟨k0, k1, k2, k3, k4, -⟩ := five_cells hbx
      have hfc := IsFormed_calls x _ x3 (HRX.out.below Y3.out)
      rw [HF2.out] at hfc
      clear hb htc hbx
      go_wp2_with fail
      refine hfc.mono ?_
      rintro e x4 ⟨rfl, hb⟩
      have X4 := Lib.hid (show Below w.heap.size w x4 from bel_t X3.out hb (Nat.le_refl _))
      clear hb hfc k0 k1 k2 k3 k4
      go_wp2_with fail
      refine (alive_calls x4 (fun W hW => (HE.out W (bel_t X4.out hW (Nat.le_refl _))).2 W (Below.refl _ _))).mono ?_
      rintro e x5 ⟨rfl, hb⟩
      have X5 := Lib.hid (show Below w.heap.size w x5 from bel_t X4.out hb (Nat.le_refl _))
      clear hb
      go_wp2
      go_ret
      exact ⟨rfl, X5.out⟩
    · subst he
      go_wp2_with fail
      rw [← HX2.out]
      refine (alive_calls x2 (fun W hW => (HE.out W (bel_t X2.out hW (Nat.le_refl _))).2 W (Below.refl _ _))).mono ?_
      rintro e x5 ⟨rfl, hb⟩
      have X5 := Lib.hid (show Below w.heap.size w x5 from bel_t X2.out hb (Nat.le_refl _))
      clear hb
      go_wp2
      go_ret
      exact ⟨rfl, X5.out⟩

end Go.Proofs.YtplnfepdikbpfaaGreatDoor

