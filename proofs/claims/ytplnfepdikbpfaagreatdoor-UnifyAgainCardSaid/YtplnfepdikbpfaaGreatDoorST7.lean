/- The walk of the Store's build. Condition: the Store lies in memory; build's plain function answers. -/
import Derived.Test.YtplnfepdikbpfaaGreatDoorPW
import Derived.Test.YtplnfepdikbpfaaGreatDoorST4
import Derived.Test.YtplnfepdikbpfaaGreatDoorUK
namespace Go.Proofs.YtplnfepdikbpfaaGreatDoor
open Go.RowKit
open Go.Proofs.YtplnfepdikbpfaaGreatDoorW.PrintLast
set_option linter.unusedVariables false
set_option linter.unusedSimpArgs false
attribute [local go_sem ↓] Go.wp_at_zero Go.wp_at_succ

theorem sizeTy : (Tryz.prog.info? 24).map (·.size) = some 5 := by kernel_rfl
/-- The five cells of block r, written. -/
def p5w (W : World) (r : Nat) (a b c d e : Value) : World := ((((W.setCell ⟨r, 0, none⟩ a).setCell ⟨r, 1, none⟩ b).setCell ⟨r, 2, none⟩ c).setCell ⟨r, 3, none⟩ d).setCell ⟨r, 4, none⟩ e
theorem p5w_gb (W : World) (r : Nat) (a b c d e : Value) : W.grownBy (p5w W r a b c d e) (some r) :=
  gb_trans (gb_trans (gb_trans (gb_trans (gb_set _ _ _ _) (gb_set _ _ _ _)) (gb_set _ _ _ _)) (gb_set _ _ _ _)) (gb_set _ _ _ _)
theorem bel5 {w W : World} (h : Below w.heap.size w W) {r : Nat} (hr : w.heap.size ≤ r) (a b c d e : Value) : Below w.heap.size w (p5w W r a b c d e) :=
  bel_set (bel_set (bel_set (bel_set (bel_set h _ _ hr) _ _ hr) _ _ hr) _ _ hr) _ _ hr
theorem p5w_blk {W : World} {r : Nat} {T : TypeId} {x0 x1 x2 x3 x4 a b c d e : Value} (h : W.heap[r]? = some (.cells #[x0, x1, x2, x3, x4] T (0, 0))) : (p5w W r a b c d e).heap[r]? = some (.cells #[a, b, c, d, e] T (0, 0)) := by
  unfold p5w
  simp [World.setCell, Array.getElem?_modify, h]
theorem five_cells {W : World} {r : Nat} {T : TypeId} {a b c d e : Value} (h : W.heap[r]? = some (.cells #[a, b, c, d, e] T (0, 0))) : W.cell? ⟨r, 0, none⟩ = some a ∧ W.cell? ⟨r, 1, none⟩ = some b ∧ W.cell? ⟨r, 2, none⟩ = some c ∧ W.cell? ⟨r, 3, none⟩ = some d ∧ W.cell? ⟨r, 4, none⟩ = some e ∧ ∀ o, W.frozen? ⟨r, o, none⟩ = false := by
  refine ⟨?_, ?_, ?_, ?_, ?_, fun o => ?_⟩ <;> simp [World.cell?, World.frozen?, h]
theorem set3_blk {W : World} {r : Nat} {T : TypeId} {a b c d e : Value} (v : Value) (h : W.heap[r]? = some (.cells #[a, b, c, d, e] T (0, 0))) : (W.setCell ⟨r, 3, none⟩ v).heap[r]? = some (.cells #[a, b, c, v, e] T (0, 0)) := by
  simp [World.setCell, Array.getElem?_modify, h]

def BuildPost (w : World) (t : Ty) (e : Ending) (w' : World) : Prop :=
  ∃ A c, e = .returned (tyV t (.slice A t.args.length c)) ∧ (Ok1 t ∧ RdL (fun b => w.heap.size ≤ b ∧ b < w'.heap.size) w' (.slice A t.args.length c) t.args) ∧ Below w.heap.size w w'
theorem buildL_at (s : Sto) : ∀ (f : Nat) (ks : List Nat) (ats : List Ty), buildL f s ks = some ats → ats.length = ks.length ∧ ∀ j, j < ks.length → ∃ g, g < f ∧ buildF g s (ks.getD j 0) = some (tyAt ats j) := by
  intro f
  induction f with
  | zero => intro ks ats h; simp [buildL] at h
  | succ f ih =>
    intro ks ats h
    cases ks with
    | nil =>
      rw [buildL] at h
      obtain rfl := Option.some.inj h
      exact ⟨rfl, fun j hj => absurd hj (by simp)⟩
    | cons a ks =>
      rw [buildL] at h
      cases h1 : buildF f s a with
      | none => rw [h1] at h; cases h
      | some t =>
        cases h2 : buildL f s ks with
        | none => rw [h1, h2] at h; cases h
        | some ts =>
          rw [h1, h2] at h
          obtain rfl := Option.some.inj h
          obtain ⟨h3, h4⟩ := ih ks ts h2
          refine ⟨by simp [h3], fun j hj => ?_⟩
          cases j with
          | zero => exact ⟨f, by omega, by simpa [tyAt] using h1⟩
          | succ j =>
            obtain ⟨g, h5, h6⟩ := h4 j (by simpa using hj)
            exact ⟨g, by omega, by simpa [tyAt] using h6⟩

set_option maxRecDepth 100000 in
set_option maxHeartbeats 32000000 in
theorem build_calls (base p : Nat) (ok : Nat → Prop) (R : Rows) (s : Sto) : ∀ (f i : Nat) (t : Ty) (w : World), StoAt w base p ok R s → i < s.n → buildF f s i = some t →
    Calls Tryz.prog 89 #[.pointer (some ⟨p, 0, none⟩), .int .i64 (i : Int)] w (BuildPost w t) := by
  intro f
  induction f using Nat.strongRecOn with
  | _ f ih =>
  intro i ty w h hi hb
  obtain ⟨f, rfl⟩ : ∃ g, f = g + 1 := by
    cases f with
    | zero => simp [buildF] at hb
    | succ f => exact ⟨f, rfl⟩
  have IH := Lib.hid ih
  have hp := h.rows.plt
  have hfew := h.few
  have hra := Sto.rep_lt h.sok hi
  have hso := h.sok.solidLt _ hra
  rw [buildF] at hb
  obtain ⟨ra, hrae⟩ : ∃ ra, ra = s.repAt i := ⟨_, rfl⟩
  rw [← hrae] at hra hso hb
  obtain ⟨so, hsoe⟩ : ∃ so, so = s.solidAt ra := ⟨_, rfl⟩
  rw [← hsoe] at hso hb
  have H := Lib.hid h; have HB := Lib.hid hb; have HRA := Lib.hid hrae; have HSO := Lib.hid hsoe
  clear ih h hb hrae hsoe
  go_enter Tryz.func89, Tryz.ntmps89
  go_wp2_with fail
  obtain ⟨w2, hw2⟩ : ∃ w2, w2 = w.alloc (.cells #[.int .i64 0, .string ⟨#[]⟩, .string ⟨#[]⟩, .slice none 0 0, .int .i64 0] 24) := ⟨_, rfl⟩
  rw [← hw2]
  have HS2 := Lib.hid (show StoAt w2 base p ok R s by rw [hw2]; exact H.out.alloc _)
  have B2 := Lib.hid (show Below w.heap.size w w2 by rw [hw2]; exact bel_alloc (Below.refl _ _) _)
  have blk2 := Lib.hid (show w2.heap[w.heap.size]? = some (.cells #[.int .i64 0, .string ⟨#[]⟩, .string ⟨#[]⟩, .slice none 0 0, .int .i64 0] 24 (0, 0)) by rw [hw2]; exact (MapKept.heap_alloc w _).1)
  have hsz2 : w2.heap.size = w.heap.size + 1 := by rw [hw2]; simp
  clear hw2
  obtain ⟨r0, hr0⟩ : ∃ r0, r0 = w.heap.size := ⟨_, rfl⟩
  rw [← hr0] at blk2 ⊢
  refine (top_calls w2 base p ok R s HS2.out i hi).mono ?_
  rintro e w3 ⟨rfl, rfl⟩
  rw [← HRA.out]
  have hrs := HS2.out.rows.rs
  rw [HS2.out.solid, HS2.out.n.2.2.2] at hrs
  obtain ⟨gs, cs, es, -, -, hgs, hsoc, -⟩ := ints_cells hrs hra
  have p3 := HS2.out.rows.cells.2.2.2.1
  rw [es] at p3
  have cso : w2.cell? ⟨gs, ra, none⟩ = some (.int .i64 so) := by rw [HSO.out]; exact hsoc ra (-1) hra
  have hrl := HS2.out.rows.rl
  rw [HS2.out.least, HS2.out.n.2.2.1] at hrl
  obtain ⟨gl, cl, el, -, -, -, hlec, -⟩ := ints_cells hrl hra
  have p2 := HS2.out.rows.cells.2.2.1
  rw [el] at p2
  have cle : w2.cell? ⟨gl, ra, none⟩ = some (.int .i64 (s.leastAt ra)) := hlec ra 0 hra
  have i0 : (0 : Int) ≤ (ra : Int) := by omega
  have i1 : (ra : Int) < (s.n : Int) := by omega
  have Z0 := Lib.hid (five_cells blk2.out)
  have hrs2 := Lib.hid (show r0 < w2.heap.size by omega)
  have R0 := Lib.hid hr0; have HSZ2 := Lib.hid hsz2
  clear hr0 hsz2
  clear hrs hrl hsoc hlec es el
  by_cases hneg : so < 0
  · have q1 : decide (so < 0) = true := decide_eq_true hneg
    obtain ⟨a0, a1, a2, a3, a4, af⟩ := Z0.out
    go_wp2
    (try simp only [Exit.inBlock, Exit.then])
    refine bodyPost_ret (results_cell_row rfl _ _ r0 24 #[.int .i64 6, .string ⟨#[]⟩, .string ⟨#[]⟩, .slice none 0 0, .int .i64 (s.leastAt ra)] (0, 0) _ (by rfl) (p5w_blk blk2.out) Tryz.underlying24 rfl sizeTy) rfl ?_
    have hb := HB.out
    rw [if_pos hneg] at hb
    obtain rfl := Option.some.inj hb
    refine ⟨none, 0, rfl, ⟨⟨by simp [Ty.mod], by simp [Ty.name]⟩, RdL_nil _ _⟩, ?_⟩
    rw [R0.out] at *
    exact bel5 B2.out (Nat.le_refl _) _ _ _ _ _
  · have q1 : decide (so < 0) = false := decide_eq_false hneg
    obtain ⟨x, hx⟩ : ∃ x : Nat, so = (x : Int) := ⟨so.toNat, by omega⟩
    subst hx
    have hxn : x < s.n := by omega
    obtain ⟨gn, cn, en, hcn, hgn, hnode⟩ := HS2.out.node (show 0 < s.n by omega)
    obtain ⟨A1, c1', e10, e11, e12, e13, e14, e15, l1, l2, hk1⟩ := hnode x hxn
    obtain ⟨c1, hc1e⟩ : ∃ c1, c1 = c1' := ⟨_, rfl⟩
    rw [← hc1e] at e15 hk1
    have p0 := HS2.out.rows.cells.1
    rw [en] at p0
    have hp2 : p < w2.heap.size := HS2.out.rows.plt
    have K4 := Lib.hid (show ∀ X, Below w2.heap.size w2 X → X.cell? ⟨p, 0, none⟩ = some (.slice (some ⟨gn, 0, none⟩) s.n cn) ∧ X.cell? ⟨p, 3, none⟩ = some (.slice (some ⟨gs, 0, none⟩) s.n cs) ∧ X.cell? ⟨gs, ra, none⟩ = some (.int .i64 (x : Int)) ∧ X.cell? ⟨gn, x * 6, none⟩ = some (.int .i64 (s.ndAt x).kind) ∧ X.cell? ⟨gn, x * 6 + 1, none⟩ = some (.string (S (s.ndAt x).mod)) ∧ X.cell? ⟨gn, x * 6 + 2, none⟩ = some (.string (S (s.ndAt x).name)) ∧ X.cell? ⟨gn, x * 6 + 3, none⟩ = some (.slice none 0 0) ∧ X.cell? ⟨gn, x * 6 + 4, none⟩ = some (.int .i64 (s.ndAt x).var) ∧ X.cell? ⟨gn, x * 6 + 5, none⟩ = some (.slice A1 (s.ndAt x).kids.length c1) from fun X hb => by
      have hcc : ∀ o, X.cell? ⟨gn, o, none⟩ = w2.cell? ⟨gn, o, none⟩ := fun o => hb.cell (p := ⟨gn, o, none⟩) hgn
      exact ⟨(hb.cell (p := ⟨p, 0, none⟩) hp2).trans p0, (hb.cell (p := ⟨p, 3, none⟩) hp2).trans p3, (hb.cell (p := ⟨gs, ra, none⟩) hgs).trans cso, (hcc _).trans e10, (hcc _).trans e11, (hcc _).trans e12, (hcc _).trans e13, (hcc _).trans e14, (hcc _).trans e15⟩)
    have HK1 := Lib.hid hk1
    have HL := Lib.hid (And.intro l1 l2)
    have j0 : (0 : Int) ≤ (x : Int) := by omega
    have j1 : (x : Int) < (s.n : Int) := by omega
    have hst := HB.out
    rw [if_neg hneg, Int.toNat_natCast] at hst
    obtain ⟨ats, has, hty⟩ : ∃ ats, buildL f s (s.ndAt x).kids = some ats ∧ ty = .mk (s.ndAt x).kind (s.ndAt x).mod (s.ndAt x).name ats (s.ndAt x).var := by
      cases hL : buildL f s (s.ndAt x).kids with
      | none => rw [hL] at hst; cases hst
      | some ats => rw [hL] at hst; exact ⟨ats, rfl, (Option.some.inj hst).symm⟩
    have HTY := Lib.hid hty
    have HLA := Lib.hid (buildL_at s f _ _ has)
    clear hnode e10 e11 e12 e13 e14 e15 l1 l2 hk1 en p0 hc1e hst has hty p2 cle hneg
    go_wp2_with fail
    refine start_ (n := 15) (S := fun w' => w'.cell? ⟨p, 0, none⟩ = some (.slice (some ⟨gn, 0, none⟩) s.n cn) ∧ w'.cell? ⟨p, 3, none⟩ = some (.slice (some ⟨gs, 0, none⟩) s.n cs) ∧ w'.cell? ⟨gs, ra, none⟩ = some (.int .i64 (x : Int)) ∧ w'.cell? ⟨gn, x * 6, none⟩ = some (.int .i64 (s.ndAt x).kind) ∧ w'.cell? ⟨gn, x * 6 + 1, none⟩ = some (.string (S (s.ndAt x).mod)) ∧ w'.cell? ⟨gn, x * 6 + 2, none⟩ = some (.string (S (s.ndAt x).name)) ∧ w'.cell? ⟨gn, x * 6 + 3, none⟩ = some (.slice none 0 0) ∧ w'.cell? ⟨gn, x * 6 + 4, none⟩ = some (.int .i64 (s.ndAt x).var) ∧ w'.cell? ⟨gn, x * 6 + 5, none⟩ = some (.slice A1 (s.ndAt x).kids.length c1)) (ds := []) (bs 15 0) (by kernel_rfl) rfl rfl ⟨(K4.out _ (bel_drew (Below.refl w2.heap.size w2))).1, (K4.out _ (bel_drew (Below.refl w2.heap.size w2))).2.1, (K4.out _ (bel_drew (Below.refl w2.heap.size w2))).2.2.1, (K4.out _ (bel_drew (Below.refl w2.heap.size w2))).2.2.2.1, (K4.out _ (bel_drew (Below.refl w2.heap.size w2))).2.2.2.2.1, (K4.out _ (bel_drew (Below.refl w2.heap.size w2))).2.2.2.2.2.1, (K4.out _ (bel_drew (Below.refl w2.heap.size w2))).2.2.2.2.2.2.1, (K4.out _ (bel_drew (Below.refl w2.heap.size w2))).2.2.2.2.2.2.2.1, (K4.out _ (bel_drew (Below.refl w2.heap.size w2))).2.2.2.2.2.2.2.2⟩ (fun hHeld => ?_)
    refine pu 0 28 (bs 15 1) ?_
    refine pu 1 29 (bs 15 3) ?_
    refine pu 2 30 (bs 15 7) ?_
    refine pu 4 32 (bs 15 23) ?_
    refine pu 5 33 (bs 15 55) ?_
    refine pu 6 34 (bs 15 119) ?_
    refine pu 8 36 (bs 15 375) ?_
    refine tk 3 31 (bs 15 383) hHeld ?_
    refine tk 7 35 (bs 15 511) hHeld ?_
    refine pu 9 37 (bs 15 1023) ?_
    refine tk 10 38 (bs 15 2047) hHeld ?_
    refine pu 11 39 (bs 15 4095) ?_
    refine tk 12 40 (bs 15 8191) hHeld ?_
    refine one_ (i := 13) (N := some 5) (bs 15 16383) rfl rfl (by kernel_rfl) (by decide) (fun K hK => ?_)
    refine value_ (w1 := ?_) (v := ?_) (by rfl) rfl ?_ ?_
    rotate_left 2
    · go_simp
      constructor
      · rfl
      · rfl
    refine hK.out _ _ ⟨(K4.out _ (bel_alloc (bel_drew (Below.refl w2.heap.size w2)) _)).1, (K4.out _ (bel_alloc (bel_drew (Below.refl w2.heap.size w2)) _)).2.1, (K4.out _ (bel_alloc (bel_drew (Below.refl w2.heap.size w2)) _)).2.2.1, (K4.out _ (bel_alloc (bel_drew (Below.refl w2.heap.size w2)) _)).2.2.2.1, (K4.out _ (bel_alloc (bel_drew (Below.refl w2.heap.size w2)) _)).2.2.2.2.1, (K4.out _ (bel_alloc (bel_drew (Below.refl w2.heap.size w2)) _)).2.2.2.2.2.1, (K4.out _ (bel_alloc (bel_drew (Below.refl w2.heap.size w2)) _)).2.2.2.2.2.2.1, (K4.out _ (bel_alloc (bel_drew (Below.refl w2.heap.size w2)) _)).2.2.2.2.2.2.2.1, (K4.out _ (bel_alloc (bel_drew (Below.refl w2.heap.size w2)) _)).2.2.2.2.2.2.2.2⟩ (fun hHeld => ?_)
    clear hK K
    refine norm_ (a' := ?_) ?_ ?_
    rotate_left
    · show Act.put _ (some 5) _ = _; simp only [Act.put, List.setIfInBounds_toArray, List.set_cons_zero, List.set_cons_succ, i64_w, i32_w]; rfl
    refine one_ (i := 14) (N := none) (bs 15 32767) rfl rfl (by kernel_rfl) (by decide) (fun K hK => ?_)
    have blk4 : (w2.drew.alloc (.cells #[.int .i64 0, .string ⟨#[]⟩, .string ⟨#[]⟩, .slice none 0 0, .int .i64 0, .slice none 0 0] 130)).heap[w2.heap.size]? = some (.cells #[.int .i64 0, .string ⟨#[]⟩, .string ⟨#[]⟩, .slice none 0 0, .int .i64 0, .slice none 0 0] 130 (0, 0)) := (MapKept.heap_alloc w2.drew (.cells #[.int .i64 0, .string ⟨#[]⟩, .string ⟨#[]⟩, .slice none 0 0, .int .i64 0, .slice none 0 0] 130)).1
    refine step_store6 (by rfl) (by rfl) (.tmp 5) (.tmp 40) (by rfl) w2.heap.size _ _ _ _ _ _ (s.ndAt x).kind (S (s.ndAt x).mod) (S (s.ndAt x).name) (.slice none 0 0) (s.ndAt x).var A1 (s.ndAt x).kids.length c1 rfl rfl rfl rfl rfl rfl (by rfl) (by rfl) blk4 ?_
    change K _ (put6 (w2.drew.alloc (.cells #[.int .i64 0, .string ⟨#[]⟩, .string ⟨#[]⟩, .slice none 0 0, .int .i64 0, .slice none 0 0] 130)) w2.heap.size (.int .i64 (s.ndAt x).kind) (.string (S (s.ndAt x).mod)) (.string (S (s.ndAt x).name)) (.slice none 0 0) (.int .i64 (s.ndAt x).var) (.slice A1 (s.ndAt x).kids.length c1))
    obtain ⟨w4, hw4⟩ : ∃ w4, w4 = put6 (w2.drew.alloc (.cells #[.int .i64 0, .string ⟨#[]⟩, .string ⟨#[]⟩, .slice none 0 0, .int .i64 0, .slice none 0 0] 130)) w2.heap.size (.int .i64 (s.ndAt x).kind) (.string (S (s.ndAt x).mod)) (.string (S (s.ndAt x).name)) (.slice none 0 0) (.int .i64 (s.ndAt x).var) (.slice A1 (s.ndAt x).kids.length c1) := ⟨_, rfl⟩
    rw [← hw4]
    have B4 := Lib.hid (show Below w2.heap.size w2 w4 by rw [hw4]; exact bel6 (bel_alloc (bel_drew (Below.refl w2.heap.size w2)) _) (Nat.le_refl _) _ _ _ _ _ _)
    have blk4b := Lib.hid (show w4.heap[w2.heap.size]? = some (.cells #[.int .i64 (s.ndAt x).kind, .string (S (s.ndAt x).mod), .string (S (s.ndAt x).name), .slice none 0 0, .int .i64 (s.ndAt x).var, .slice A1 (s.ndAt x).kids.length c1] 130 (0, 0)) by rw [hw4]; exact put6_blk blk4)
    clear hw4 blk4
    refine hK.out _ _ ⟨(K4.out _ B4.out).1, (K4.out _ B4.out).2.1, (K4.out _ B4.out).2.2.1, (K4.out _ B4.out).2.2.2.1, (K4.out _ B4.out).2.2.2.2.1, (K4.out _ B4.out).2.2.2.2.2.1, (K4.out _ B4.out).2.2.2.2.2.2.1, (K4.out _ B4.out).2.2.2.2.2.2.2.1, (K4.out _ B4.out).2.2.2.2.2.2.2.2⟩ (fun hHeld => ?_)
    clear hK K
    refine done_ (by kernel_rfl) ?_
    clear K4 hHeld p3 cso
    obtain ⟨n0, n1, n2, n3, n4, n5, nf⟩ := six_cells blk4b.out
    have hl4 := lt_of_block blk4b.out
    go_wp2_with fail
    obtain ⟨w6, hw6⟩ : ∃ w6, w6 = w4.alloc (.cells #[.int .i64 (s.ndAt x).kind, .string (S (s.ndAt x).mod), .string (S (s.ndAt x).name), .slice none 0 0, .int .i64 (s.ndAt x).var] 24) := ⟨_, rfl⟩
    rw [← hw6]
    obtain ⟨q6, hq6⟩ : ∃ q6, q6 = w4.heap.size := ⟨_, rfl⟩
    rw [← hq6]
    obtain ⟨B, hB⟩ : ∃ B, B = w6.heap.size := ⟨_, rfl⟩
    have blk6 := Lib.hid (show w6.heap[q6]? = some (.cells #[.int .i64 (s.ndAt x).kind, .string (S (s.ndAt x).mod), .string (S (s.ndAt x).name), .slice none 0 0, .int .i64 (s.ndAt x).var] 24 (0, 0)) by rw [hw6, hq6]; exact (MapKept.heap_alloc w4 _).1)
    have B6 := Lib.hid (show Below w2.heap.size w2 w6 by rw [hw6]; exact bel_alloc B4.out _)
    have HSZ6 := Lib.hid (show q6 + 1 = B ∧ r0 < q6 ∧ B = w6.heap.size ∧ w2.heap.size ≤ q6 by have := HSZ2.out; have := hrs2.out; have := B4.out.size; rw [hB, hw6, hq6]; exact ⟨by simp, by omega, rfl, by omega⟩)
    have HS6 := Lib.hid (show StoAt w6 base p ok R s from HS2.out.bel B6.out)
    have blk0 := Lib.hid (show w6.heap[r0]? = some (.cells #[.int .i64 0, .string ⟨#[]⟩, .string ⟨#[]⟩, .slice none 0 0, .int .i64 0] 24 (0, 0)) from (B6.out.block r0 hrs2.out).trans blk2.out)
    obtain ⟨KS, hKS⟩ : ∃ KS, KS = (s.ndAt x).kids := ⟨_, rfl⟩
    obtain ⟨len, hle⟩ : ∃ len, len = KS.length := ⟨_, rfl⟩
    have hk1 : RdN (fun b => ok b ∧ ¬ R.own p b) w6 (.slice A1 (s.ndAt x).kids.length c1) (s.ndAt x).kids := HK1.out.turn (fun b h => h) (fun b o h => B6.out.cell (p := ⟨b, o, none⟩) (HS2.out.okl b h.1))
    have hla := HLA.out
    have hkl := HS2.out.sok.kids x hxn
    have hin : ∀ j, j < KS.length → KS.getD j 0 < s.n := fun j hj => by
      have h1 : KS.getD j 0 ∈ (s.ndAt x).kids := by rw [← hKS]; simp [List.getD_eq_getElem?_getD, List.getElem?_eq_getElem hj]
      have := hkl _ h1; omega
    rw [← hKS] at hk1 hla ⊢
    rw [← hle] at hk1 hla ⊢
    have hl1000 : len ≤ 1000 := by obtain ⟨_, _, _, _, h3, _⟩ := hk1; omega
    have HK6 := Lib.hid hk1; have HLA6 := Lib.hid hla; have HIN := Lib.hid hin; have HLE := Lib.hid hle; have HKS := Lib.hid hKS
    clear hw6 hB hq6 hk1 hla hkl hin hle hKS n0 n1 n2 n3 n4 n5 nf hl4 HLA HK1 blk4b B4 hgn hcn
    have lenk : (len : Int) ≤ 1000 := by omega
    go_loopw [46] (fun i wr => ∃ t : Nat, t ≤ len ∧ i = .int .i64 t ∧ ∃ AV cV, Hid (OwnTy (fun b => B ≤ b) wr B (.slice AV t cV) (ats.take t)) ∧ Hid (Tn (fun z => z = q6) w6 wr) ∧ Hid (wr.heap[q6]? = some (.cells #[.int .i64 (s.ndAt x).kind, .string (S (s.ndAt x).mod), .string (S (s.ndAt x).name), .slice AV t cV, .int .i64 (s.ndAt x).var] 24 (0, 0)))) (fun i _ => len - (intOf i).toNat)
    case atStart =>
      exact ⟨0, Nat.zero_le _, rfl, none, 0, Lib.hid (by rw [List.take_zero]; exact OwnTy.nil _ _ _), Lib.hid (Tn.refl _ _), blk6⟩
    case round =>
      obtain ⟨t, ht, rfl, AV, cV, HOI, HTI, blki⟩ := hrel
      have hszi := HTI.out.size
      by_cases hlt : t < len
      · obtain ⟨A1', c1'', he1, -, -, hr1⟩ := HK6.out
        rw [← HLE.out] at he1
        injection he1 with he1 _ he3
        subst he3
        obtain ⟨kb, ko, hA1, hok1, hc1⟩ := hr1 (by intro e; have := HLE.out; rw [e] at this; simp at this; omega)
        rw [hA1] at he1
        subst he1
        obtain ⟨kk, hkk⟩ : ∃ kk, kk = KS.getD t 0 := ⟨_, rfl⟩
        have f1 := hc1 t kk (by rw [hkk]; have : t < KS.length := by have := HLE.out; omega
                                simp [List.getD_eq_getElem?_getD, List.getElem?_eq_getElem this])
        have hkl1 := HS6.out.okl kb hok1.1
        have hk6 : kb ≠ q6 := fun e => by have := HS2.out.okl kb hok1.1; have := HSZ6.out; have := hrs2.out; have := HSZ2.out; omega
        have g1 : wr.cell? ⟨kb, ko + t, none⟩ = some (.int .i64 (kk : Int)) := (HTI.out.cell hkl1 hk6 _).trans f1
        obtain ⟨g, hg, hbk⟩ := HLA6.out.2 t (by have := HLE.out; omega)
        have HOL := Lib.hid (HOI.out.lt)
        have hSi : StoAt wr base p ok R s := HS6.out.turn HTI.out (fun k e hk => by
          subst e
          exact ⟨fun h => by have := HS2.out.okl _ h; have := HSZ6.out; have := hrs2.out; have := HSZ2.out; omega, fun h => by have := (HS2.out.lt _ h).2; have := HSZ6.out; have := hrs2.out; have := HSZ2.out; omega⟩)
        have HSD := Lib.hid (show StoAt wr.drew base p ok R s from hSi.bel (bel_drew (Below.refl _ _)))
        have HK := Lib.hid (show ∀ W, StoAt W base p ok R s → Calls Tryz.prog 89 #[.pointer (some ⟨p, 0, none⟩), .int .i64 (kk : Int)] W (BuildPost W (tyAt ats t)) from fun W hW => IH.out g (by omega) kk _ W hW (by rw [hkk]; exact HIN.out t (by have := HLE.out; omega)) (by rw [hkk]; exact hbk))
        have KQ := Lib.hid (show ∀ X, Tn (fun z => (Value.slice AV t cV).ownBlock = some z) wr X → X.cell? ⟨q6, 3, none⟩ = some (Value.slice AV t cV) ∧ X.frozen? ⟨q6, 3, none⟩ = false from fun X hT => by
          have h1 := lt_of_block blki.out
          have h2 : ¬ (Value.slice AV t cV).ownBlock = some q6 := fun e => by have := HOL.out q6 e; have := HSZ6.out; omega
          have h3 := (five_cells blki.out)
          exact ⟨(hT.cell h1 h2 3).trans h3.2.2.2.1, (hT.frozen h1 h2 3).trans (h3.2.2.2.2.2 3)⟩)
        have HTK := Lib.hid (show ∀ (w8 : World) (A8 : Option Addr) (c8 : Nat), Ok1 (tyAt ats t) → RdL (fun b => wr.drew.heap.size ≤ b ∧ b < w8.heap.size) w8 (.slice A8 (tyAt ats t).args.length c8) (tyAt ats t).args → Ok1 (tyAt ats t) ∧ RdL (fun b => B ≤ b ∧ b < w8.heap.size ∧ (Value.slice AV t cV).ownBlock ≠ some b) w8 (.slice A8 (tyAt ats t).args.length c8) (tyAt ats t).args from fun w8 A8 c8 h1 h2 => ⟨h1, h2.weak fun b hb => by
          have hb1 : wr.heap.size ≤ b := hb.1
          exact ⟨by have := HSZ6.out; omega, hb.2, fun e => by have := HOL.out b e; omega⟩⟩)
        have hat : ats.take (t + 1) = ats.take t ++ [tyAt ats t] := by
          have h : t < ats.length := by rw [HLA6.out.1]; exact hlt
          rw [List.take_succ_eq_append_getElem h]
          simp [tyAt, List.getD_eq_getElem?_getD, List.getElem?_eq_getElem h]
        have hltt : (ats.take t).length = t := by rw [List.length_take, HLA6.out.1]; omega
        have HLT := Lib.hid (show (ats.take t ++ [tyAt ats t]).length = t + 1 by rw [List.length_append, hltt]; rfl)
        have HLI := Lib.hid (show (ats.take t).length ≤ 1000000 by omega)
        have HAT := Lib.hid hat
        have HQL := Lib.hid (show q6 < wr.heap.size ∧ B ≤ wr.heap.size from ⟨lt_of_block blki.out, by have := HSZ6.out; omega⟩)
        have t0 : (0 : Int) ≤ (t : Int) := by omega
        have t1 : (t : Int) < (len : Int) := by omega
        clear hr1 hA1 hok1 hc1 f1 hkl1 hk6 hkk hbk hSi hat hltt hszi hg
        go_wp2_with fail
        refine start_ (n := 9) (S := fun w' => w'.cell? ⟨q6, 3, none⟩ = some (Value.slice AV t cV)) (ds := [8]) (bs 9 0) (by kernel_rfl) rfl rfl ((KQ.out _ (Tn.bel (bel_drew (Below.refl wr.heap.size wr)) (fun z => (Value.slice AV t cV).ownBlock = some z))).1) (fun hHeld => ?_)
        refine pu 0 50 (bs 9 1) ?_
        refine pu 2 52 (bs 9 5) ?_
        refine pu 3 53 (bs 9 13) ?_
        refine take_ (i := 1) (N := some 51) (v := ?_) (a' := ?_) (bs 9 15) rfl rfl (by kernel_rfl) (fun _ _ _ h => h) (Or.inl ⟨by rfl, ?_⟩) hHeld ?_ ?_
        rotate_left
        · intro w' s0; go_simp; with_reducible rfl
        rotate_left
        · simp only [Act.put, nA, nB, nC, i64_w, i32_w]; rfl
        refine one_ (i := 4) (N := some 54) (bs 9 31) rfl rfl (by kernel_rfl) (by decide) (fun K hK => ?_)
        refine goes_ Tryz.func89 (by kernel_rfl) rfl #[.pointer (some ⟨p, 0, none⟩), .int .i64 (kk : Int)] (by rfl) rfl rfl (by simp only [List.map_toArray, List.map_cons, List.map_nil]; rfl) ?_
        with_reducible refine (HK.out wr.drew HSD.out).mono ?_
        rintro e w8 ⟨A8, c8, rfl, ⟨hok8, hrd8⟩, hb8⟩
        refine ⟨_, rfl, ?_⟩
        have T8 := Lib.hid (show Tn (fun z => (Value.slice AV t cV).ownBlock = some z) wr w8 from Tn.bel (bel_then (bel_drew (Below.refl _ _)) hb8) _)
        have HO8 := Lib.hid (HOI.out.called (bel_then (bel_drew (Below.refl _ _)) hb8))
        have HT8 := Lib.hid (HTK.out w8 A8 c8 hok8 hrd8)
        have HZ8 := Lib.hid (show B ≤ w8.heap.size by have := T8.out.size; have := HQL.out; omega)
        clear hok8 hrd8 hb8
        unfold tyV
        refine hK.out _ _ ((KQ.out _ T8.out).1) (fun hHeld => ?_)
        clear hK K
        refine norm_ (a' := ?_) ?_ ?_
        rotate_left
        · show Act.put _ (some 54) _ = _; simp only [Act.put, List.setIfInBounds_toArray, List.set_cons_zero, List.set_cons_succ, i64_w, i32_w]; rfl
        refine one_ (i := 5) (N := some 55) (bs 9 63) rfl rfl (by kernel_rfl) (by decide) (fun K hK => ?_)
        refine value_ (w1 := ?_) (v := ?_) (by rfl) rfl ?_ ?_
        rotate_left 2
        · go_simp
          constructor
          · rfl
          · rfl
        refine hK.out _ _ ((KQ.out _ (T8.out.trans (Tn.alloc _ _ _))).1) (fun hHeld => ?_)
        clear hK K
        refine norm_ (a' := ?_) ?_ ?_
        rotate_left
        · show Act.put _ (some 55) _ = _; simp only [Act.put, List.setIfInBounds_toArray, List.set_cons_zero, List.set_cons_succ, i64_w, i32_w]; rfl
        refine one_ (i := 6) (N := some 56) (bs 9 127) rfl rfl (by kernel_rfl) (by decide) (fun K hK => ?_)
        refine step_ty (fun b => B ≤ b) B (by rfl) (.tmp 51) (.tmp 55) (by rfl) (Value.slice AV t cV) (ats.take t) (tyAt ats t) A8 c8 (by rfl) w8.heap.size (by rfl) (by rfl) HO8.out HT8.out HZ8.out HLI.out ?_
        intro v9 w9 hown9 hg9 hat9
        obtain ⟨A9, c9, hv90, -⟩ := hown9.length
        have hv9 := hv90.trans (congrArg (fun z => Value.slice A9 z c9) HLT.out)
        subst hv9
        clear hv90
        have T9 := Lib.hid (T8.out.trans (Tn.gb (O := fun z => (Value.slice AV t cV).ownBlock = some z) hg9 (fun z e => .inl e)))
        have c3w := (KQ.out w9 T9.out).1
        have f3w := (KQ.out w9 T9.out).2
        have HOWN9 := Lib.hid hown9; have HG9 := Lib.hid hg9; have HAT9 := Lib.hid hat9
        clear hown9 hg9 hat9
        refine hK.out _ _ ((KQ.out _ T9.out).1) (fun hHeld => ?_)
        clear hK K
        refine norm_ (a' := ?_) ?_ ?_
        rotate_left
        · show Act.put _ (some 56) _ = _; simp only [Act.put, List.setIfInBounds_toArray, List.set_cons_zero, List.set_cons_succ, i64_w, i32_w]; rfl
        refine pu 7 57 (bs 9 255) ?_
        refine last_ (i := 8) (N := none) (bs 9 511) rfl rfl (by kernel_rfl) (by decide) (fun K hK => ?_)
        refine skip_ (w1 := ?_) (by rfl) rfl ?_ ?_
        rotate_left
        · go_simp
          rfl
        refine hK.out _ _ ?_
        clear hK K
        refine done_ (by kernel_rfl) ?_
        obtain ⟨w10, hw10⟩ : ∃ w10, w10 = w9.setCell ⟨q6, 3, none⟩ (.slice A9 (t + 1) c9) := ⟨_, rfl⟩
        rw [← hw10]
        have ob9 : ∀ z, (Value.slice A9 (t + 1) c9).ownBlock = some z → z ≠ q6 := fun z e => by
          rcases HAT9.out with e2 | ⟨g2, e2, e3⟩
          · rw [e2] at e; have := HOL.out z e; have := HSZ6.out; omega
          · rw [e3] at e; have := Option.some.inj e; have := HQL.out; have := T8.out.size; omega
        have blk9 : w9.heap[q6]? = some (.cells #[.int .i64 (s.ndAt x).kind, .string (S (s.ndAt x).mod), .string (S (s.ndAt x).name), .slice AV t cV, .int .i64 (s.ndAt x).var] 24 (0, 0)) :=
          (T9.out.block q6 HQL.out.1 (fun e => by have := HOL.out q6 e; have := HSZ6.out; omega)).trans blki.out
        have hT10 : Tn (fun z => z = q6) w6 w10 := by
          rw [hw10]
          exact (HTI.out.then T9.out (fun z e => .inr (by have := HOL.out z e; have := HSZ6.out; omega))).trans (Tn.set _ _ _ _ (.inl rfl))
        have hO10 : OwnTy (fun b => B ≤ b) w10 B (.slice A9 (t + 1) c9) (ats.take (t + 1)) := by
          rw [HAT.out, hw10]
          exact HOWN9.out.grown (gb_set _ _ _ _) (fun k e => by have := Option.some.inj e; subst this; exact ⟨by have := HSZ6.out; omega, fun e2 => ob9 _ e2 rfl⟩)
        have blk10 : w10.heap[q6]? = some (.cells #[.int .i64 (s.ndAt x).kind, .string (S (s.ndAt x).mod), .string (S (s.ndAt x).name), .slice A9 (t + 1) c9, .int .i64 (s.ndAt x).var] 24 (0, 0)) := by
          rw [hw10]; exact set3_blk _ blk9
        have HT10 := Lib.hid hT10; have HO10 := Lib.hid hO10; have BLK10 := Lib.hid blk10
        clear hw10 ob9 blk9 hT10 hO10 blk10 c3w f3w KQ HK HTK HOWN9 HG9 HAT9 T8 HO8 HT8 T9 hHeld HSD
        go_wp2
        go_roundw
        case rel => exact ⟨t + 1, by omega, by go_num, A9, c9, HO10, HT10, BLK10⟩
        case measure => simp [intOf]; omega
      · obtain rfl : len = t := by omega
        obtain ⟨b0, b1, b2, b3, b4, bf⟩ := five_cells blki.out
        have hr06 : r0 < w6.heap.size := lt_of_block blk0.out
        have hr0q : r0 ≠ q6 := by have := HSZ6.out; omega
        have blkr : wr.heap[r0]? = some (.cells #[.int .i64 0, .string ⟨#[]⟩, .string ⟨#[]⟩, .slice none 0 0, .int .i64 0] 24 (0, 0)) := (HTI.out.block r0 hr06 hr0q).trans blk0.out
        obtain ⟨a0, a1, a2, a3, a4, af⟩ := five_cells blkr
        have BLKR := Lib.hid blkr
        have lt1 : ¬ ((len : Int) < (len : Int)) := by omega
        clear blkr hr06 hr0q
        go_wp2
        (try simp only [Exit.inBlock, Exit.then])
        refine bodyPost_ret (results_cell_row rfl _ _ r0 24 #[.int .i64 (s.ndAt x).kind, .string (S (s.ndAt x).mod), .string (S (s.ndAt x).name), .slice AV len cV, .int .i64 (s.ndAt x).var] (0, 0) _ (by rfl) (p5w_blk BLKR.out) Tryz.underlying24 rfl sizeTy) rfl ?_
        have hal : ats.length = len := HLA6.out.1
        have hO := HOI.out
        rw [List.take_of_length_le (by omega)] at hO
        have hBw : Below w.heap.size w (p5w wr r0 (.int .i64 (s.ndAt x).kind) (.string (S (s.ndAt x).mod)) (.string (S (s.ndAt x).name)) (.slice AV len cV) (.int .i64 (s.ndAt x).var)) := by
          have h1 : Below w.heap.size w wr := ((Tn.bel (bel_then B2.out B6.out) (fun _ => False)).then HTI.out (fun z e => .inr (by have := HSZ6.out; have := R0.out; omega))).below (Nat.le_refl _) (fun k e => e.elim)
          exact bel5 h1 (by have := R0.out; omega) _ _ _ _ _
        rw [HTY.out]
        have hrd : RdL (fun b => B ≤ b ∧ b < wr.heap.size) wr (.slice AV len cV) ats := hO.read (by omega) _ (fun b h1 h2 => ⟨h1, h2⟩) (fun b hb => hO.lt b hb)
        refine ⟨AV, cV, ?_, ⟨⟨HL.out.1, HL.out.2⟩, ?_⟩, hBw⟩
        · simp only [tyV, Ty.kind, Ty.mod, Ty.name, Ty.args, Ty.var, hal]
        · simp only [Ty.args, hal]
          refine hrd.turn (fun b hb => ⟨by have := HSZ6.out; have := R0.out; omega, ?_⟩) (fun b o hb => World.cell?_of_block ((p5w_gb wr r0 _ _ _ _ _).block b hb.2 (fun e => by have := Option.some.inj e; have := HSZ6.out; omega)))
          exact Nat.lt_of_lt_of_le hb.2 (p5w_gb wr r0 _ _ _ _ _).size

end Go.Proofs.YtplnfepdikbpfaaGreatDoor
