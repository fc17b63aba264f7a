/- The walk of the reference's Parse and of law14's UnifyParses: it is true. Condition: the string's length; the world's tables. -/
import Derived.Test.YtplnfepdikbpfaaGreatDoorY6
import Derived.Test.YtplnfepdikbpfaaGreatDoorST13
namespace Go.Proofs.YtplnfepdikbpfaaGreatDoor
open Go.RowKit
set_option linter.unusedVariables false
set_option linter.unusedSimpArgs false
attribute [local go_sem ↓] Go.wp_at_zero Go.wp_at_succ

def RParsePost (w : World) (s : List UInt8) (e : Ending) (w' : World) : Prop :=
  ∃ r v, RParseIs s r ∧ e = .returned (.tuple #[v, .bool r.2]) ∧ ValT (fun b => w.heap.size ≤ b ∧ b < w'.heap.size) w' v r.1 ∧ Below w.heap.size w w'

set_option maxRecDepth 100000 in
set_option maxHeartbeats 16000000 in
theorem RParse_calls (s : List UInt8) (w : World) (hs : s.length ≤ 20000) (he : ∀ X, Below w.heap.size w X → TabW X) :
    Calls Tryz.prog 25 #[.string (S s)] w (RParsePost w s) := by
  have HE := Lib.hid he
  obtain ⟨w1, hw1⟩ : ∃ w1, w1 = (w.alloc (.cells #[.int .i64 0, .string ⟨#[]⟩, .string ⟨#[]⟩, .slice none 0 0, .int .i64 0] 24)).alloc (.cells #[.string (S s), .int .i64 0, .int .i64 0, .bool false] 96) := ⟨_, rfl⟩
  obtain ⟨q2, hq2⟩ : ∃ q, q = w.heap.size := ⟨_, rfl⟩
  obtain ⟨q8, hq8⟩ : ∃ q, q = w.heap.size + 1 := ⟨_, rfl⟩
  have B1 := Lib.hid (show Below w.heap.size w w1 by rw [hw1]; exact bel_alloc (bel_alloc (Below.refl _ _) _) _)
  have R1 := Lib.hid (show RRdr w1 q8 s 0 0 false by
    have h := (MapKept.heap_alloc (w.alloc (.cells #[.int .i64 0, .string ⟨#[]⟩, .string ⟨#[]⟩, .slice none 0 0, .int .i64 0] 24)) (.cells #[.string (S s), .int .i64 0, .int .i64 0, .bool false] 96)).1
    rw [World.size_alloc] at h
    rw [hw1, hq8]; exact h)
  have BK1 := Lib.hid (show w1.heap[q2]? = some (.cells #[.int .i64 0, .string ⟨#[]⟩, .string ⟨#[]⟩, .slice none 0 0, .int .i64 0] 24 (0, 0)) by
    rw [hw1, hq2]; exact ((gb_alloc _ _ none).block w.heap.size (by simp) (by simp)).trans (MapKept.heap_alloc w _).1)
  have HSZ := Lib.hid (show w.heap.size ≤ q2 by omega)
  have HQ := Lib.hid (show q2 = w.heap.size ∧ q8 = w.heap.size + 1 from ⟨hq2, hq8⟩)
  have hcall := rread_calls q8 0 0 s false w1 R1.out (Nat.zero_le _) hs (by omega)
  clear he
  go_enter Tryz.func25, Tryz.ntmps25
  go_wp2_with fail
  rw [← hw1, ← hq8, ← hq2]
  clear hw1 hq8 hq2
  refine hcall.mono ?_
  rintro e w2 ⟨f, t, p', b', k', v, hF, rfl, hval, hk', hr2, hg2⟩
  rw [List.drop_zero] at hF
  obtain ⟨h1, A, c, rfl, hrd⟩ := hval
  have s1 := B1.out.size
  have B2 := Lib.hid (show Below w.heap.size w w2 from B1.out.trans (gb_bel hg2 s1 (by have := HQ.out; omega)))
  have HF := Lib.hid hF; have R2 := Lib.hid hr2
  have BK2 := Lib.hid ((hg2.block q2 (lt_of_block BK1.out) (fun e => by have := Option.some.inj e; have := HQ.out; omega)).trans BK1.out)
  have hq8s : q8 < w1.heap.size := R1.out.cells.2.2.2.2.2
  have H1 := Lib.hid h1
  have HRD := Lib.hid (show RdL (fun b => q8 < b ∧ b < w2.heap.size) w2 (.slice A t.args.length c) t.args from hrd.weak (fun b h => ⟨by omega, h.2⟩))
  have HRV := Lib.hid (show RdV w2 (.agg #[.int .i64 t.kind, .string (S t.mod), .string (S t.name), .slice A t.args.length c, .int .i64 t.var]) t from ⟨h1, A, c, rfl, hrd.weak (fun b h => h.2)⟩)
  have HIS := Lib.hid (show ¬ (b' = false ∧ s.drop k' = [] ∧ formedB t = true ∧ textT t = s) → RParseIs s (.mk 0 [] [] [] 0, false) from fun hn => ⟨f, t, _, p', b', HF.out, by rw [if_neg hn]⟩)
  have HYES := Lib.hid (show (b' = false ∧ s.drop k' = [] ∧ formedB t = true ∧ textT t = s) → RParseIs s (t, true) from fun hy => ⟨f, t, _, p', b', HF.out, by rw [if_pos hy]⟩)
  have HPT := Lib.hid ((rread_parts f).1 _ _ _ _ _ _ _ _ hF)
  clear hcall hF h1 hrd hr2 hg2 s1 hq8s
  unfold tyV
  obtain ⟨w3, hw3⟩ : ∃ w3, w3 = w2.alloc (.cells #[.int .i64 t.kind, .string (S t.mod), .string (S t.name), .slice A t.args.length c, .int .i64 t.var] 24) := ⟨_, rfl⟩
  obtain ⟨q5, hq5⟩ : ∃ q, q = w2.heap.size := ⟨_, rfl⟩
  have C3 := Lib.hid (show Below w2.heap.size w2 w3 by rw [hw3]; exact bel_a _ _)
  have B3 := Lib.hid (show Below w.heap.size w w3 from bel_t B2.out C3.out (Nat.le_refl _))
  have BK5 := Lib.hid (show w3.heap[q5]? = some (.cells #[.int .i64 t.kind, .string (S t.mod), .string (S t.name), .slice A t.args.length c, .int .i64 t.var] 24 (0, 0)) by rw [hw3, hq5]; exact (MapKept.heap_alloc w2 _).1)
  obtain ⟨c0, c1, c2, c3, cf, lq8⟩ := R2.out.cells
  obtain ⟨z0, z1, z2, z3, z4, zf⟩ := five_cells BK2.out
  have lq2 := lt_of_block BK2.out
  have HNE := Lib.hid (show q5 ≠ q2 by omega)
  cases b' with
  | true =>
    have HN := Lib.hid (HIS.out (by simp))
    clear hw3 hq5
    go_wp2
    (try simp only [Exit.inBlock, Exit.then])
    refine bodyPost_ret (results_cell_tmp rfl _ _ q2 24 #[.int .i64 0, .string ⟨#[]⟩, .string ⟨#[]⟩, .slice none 0 0, .int .i64 0] (0, 0) _ (by rfl) (((gb_alloc (p5w w2 q2 (.int .i64 0) (.string ⟨#[]⟩) (.string ⟨#[]⟩) (.slice none 0 0) (.int .i64 0)) (.cells #[.int .i64 t.kind, .string (S t.mod), .string (S t.name), .slice A t.args.length c, .int .i64 t.var] 24) none).block q2 (Nat.lt_of_lt_of_le lq2 (p5w_gb _ _ _ _ _ _ _).size) (by simp)).trans (p5w_blk BK2.out)) Tryz.underlying24 rfl sizeTy (.bool false) (by rfl)) rfl ?_
    exact ⟨(.mk 0 [] [] [] 0, false), _, HN.out, rfl, ⟨ok_plain _ _ _, none, 0, rfl, RdL_nil _ _⟩, bel_alloc (bel5 B2.out HSZ.out _ _ _ _ _) _⟩
  | false =>
    by_cases hkl : k' = s.length
    · have e0 : ((k' : Int) != (s.length : Int)) = false := by rw [hkl]; simp
      have hd0 : s.drop k' = [] := List.drop_eq_nil_of_le (by omega)
      have HD0 := Lib.hid hd0
      have hfc := RIsFormed_calls t _ w3 (by have := HPT.out; have := this.2 rfl; omega) (HRV.out.below C3.out)
      clear hkl hd0
      go_wp2_with fail
      rw [← hw3, ← hq5]
      clear hw3 hq5
      refine hfc.mono ?_
      rintro e w4 ⟨rfl, hb⟩
      have C4 := Lib.hid (show Below w2.heap.size w2 w4 from bel_t C3.out hb (Nat.le_refl _))
      have B4 := Lib.hid (show Below w.heap.size w w4 from bel_t B2.out C4.out (Nat.le_refl _))
      have BK4 := Lib.hid ((C4.out.block q2 lq2).trans BK2.out)
      have BK54 := Lib.hid ((hb.block q5 (lt_of_block BK5.out)).trans BK5.out)
      clear hb hfc c0 c1 c2 c3 cf z0 z1 z2 z3 z4 zf
      cases hff : formedB t with
      | false =>
        have HN := Lib.hid (HIS.out (fun h => by rw [hff] at h; cases h.2.2.1))
        clear hff
        obtain ⟨z0, z1, z2, z3, z4, zf⟩ := five_cells BK4.out
        go_wp2
        (try simp only [Exit.inBlock, Exit.then])
        refine bodyPost_ret (results_cell_tmp rfl _ _ q2 24 #[.int .i64 0, .string ⟨#[]⟩, .string ⟨#[]⟩, .slice none 0 0, .int .i64 0] (0, 0) _ (by rfl) (p5w_blk BK4.out) Tryz.underlying24 rfl sizeTy (.bool false) (by rfl)) rfl ?_
        exact ⟨(.mk 0 [] [] [] 0, false), _, HN.out, rfl, ⟨ok_plain _ _ _, none, 0, rfl, RdL_nil _ _⟩, bel5 B4.out HSZ.out _ _ _ _ _⟩
      | true =>
        have HFF := Lib.hid hff
        clear hff
        obtain ⟨y0, y1, y2, y3, y4, yf⟩ := five_cells BK54.out
        have htc := RText_ty_calls t _ w4 HFF.out (HRV.out.below C4.out) (HE.out w4 B4.out)
        go_wp2_with fail
        refine htc.mono ?_
        rintro e w5 ⟨rfl, hb⟩
        have C5 := Lib.hid (show Below w2.heap.size w2 w5 from bel_t C4.out hb (Nat.le_refl _))
        have B5 := Lib.hid (show Below w.heap.size w w5 from bel_t B4.out hb (Nat.le_refl _))
        have BK25 := Lib.hid ((C5.out.block q2 lq2).trans BK2.out)
        have BK55 := Lib.hid ((hb.block q5 (lt_of_block BK54.out)).trans BK54.out)
        clear hb htc y0 y1 y2 y3 y4 yf
        obtain ⟨z0, z1, z2, z3, z4, zf⟩ := five_cells BK25.out
        obtain ⟨y0, y1, y2, y3, y4, yf⟩ := five_cells BK55.out
        cases hte : (textT t == s) with
        | false =>
          have HN := Lib.hid (HIS.out (fun h => by rw [h.2.2.2] at hte; simp at hte))
          go_wp2
          (try simp only [Exit.inBlock, Exit.then])
          refine bodyPost_ret (results_cell_tmp rfl _ _ q2 24 #[.int .i64 0, .string ⟨#[]⟩, .string ⟨#[]⟩, .slice none 0 0, .int .i64 0] (0, 0) _ (by rfl) (p5w_blk BK25.out) Tryz.underlying24 rfl sizeTy (.bool false) (by rfl)) rfl ?_
          exact ⟨(.mk 0 [] [] [] 0, false), _, HN.out, rfl, ⟨ok_plain _ _ _, none, 0, rfl, RdL_nil _ _⟩, bel5 B5.out HSZ.out _ _ _ _ _⟩
        | true =>
          have HN := Lib.hid (HYES.out ⟨(by first | rfl | trivial), HD0.out, HFF.out, by simpa using hte⟩)
          have hne : q5 ≠ q2 := HNE.out
          go_wp2
          (try simp only [Exit.inBlock, Exit.then])
          refine bodyPost_ret (results_cell_tmp rfl _ _ q2 24 #[.int .i64 t.kind, .string (S t.mod), .string (S t.name), .slice A t.args.length c, .int .i64 t.var] (0, 0) _ (by rfl) (p5w_blk BK25.out) Tryz.underlying24 rfl sizeTy (.bool true) (by rfl)) rfl ?_
          have gp := p5w_gb w5 q2 (.int .i64 t.kind) (.string (S t.mod)) (.string (S t.name)) (.slice A t.args.length c) (.int .i64 t.var)
          have hq := HQ.out
          refine ⟨(t, true), _, HN.out, rfl, ⟨H1.out, A, c, rfl, (HRD.out.turn (fun b h => h) (fun b o h => C5.out.cell (p := ⟨b, o, none⟩) h.2)).turn (fun b h => ⟨by omega, Nat.lt_of_lt_of_le h.2 (Nat.le_trans C5.out.size gp.size)⟩) (fun b o h => World.cell?_of_block (gp.block b (Nat.lt_of_lt_of_le h.2 C5.out.size) (fun e => by have := Option.some.inj e; omega)))⟩, bel5 B5.out HSZ.out _ _ _ _ _⟩
    · have e0 : ((k' : Int) != (s.length : Int)) = true := by simp; omega
      have HN := Lib.hid (HIS.out (fun h => by have := congrArg List.length h.2.1; rw [List.length_drop] at this; simp at this; omega))
      clear hkl hw3 hq5
      go_wp2
      (try simp only [Exit.inBlock, Exit.then])
      refine bodyPost_ret (results_cell_tmp rfl _ _ q2 24 #[.int .i64 0, .string ⟨#[]⟩, .string ⟨#[]⟩, .slice none 0 0, .int .i64 0] (0, 0) _ (by rfl) (((gb_alloc (p5w w2 q2 (.int .i64 0) (.string ⟨#[]⟩) (.string ⟨#[]⟩) (.slice none 0 0) (.int .i64 0)) (.cells #[.int .i64 t.kind, .string (S t.mod), .string (S t.name), .slice A t.args.length c, .int .i64 t.var] 24) none).block q2 (Nat.lt_of_lt_of_le lq2 (p5w_gb _ _ _ _ _ _ _).size) (by simp)).trans (p5w_blk BK2.out)) Tryz.underlying24 rfl sizeTy (.bool false) (by rfl)) rfl ?_
      exact ⟨(.mk 0 [] [] [] 0, false), _, HN.out, rfl, ⟨ok_plain _ _ _, none, 0, rfl, RdL_nil _ _⟩, bel_alloc (bel5 B2.out HSZ.out _ _ _ _ _) _⟩

/-! ### The law -/
theorem take_min1 (l : List UInt8) : l.take (min (l.length : Int) 20001).toNat = l.take 20001 := by
  rcases Nat.le_total l.length 20001 with h | h
  · rw [List.take_of_length_le (by omega), List.take_of_length_le h]
  · rw [show (min (l.length : Int) 20001).toNat = 20001 by omega]
theorem RShort_calls (l : List UInt8) (w : World) (hs : l.length ≤ 9223372036854775000) :
    Calls Tryz.prog 22 #[.string (S l)] w fun e w' => e = .returned (.string (S (l.take 20001))) ∧ Below w.heap.size w w' := by
  go_enter Tryz.func22, Tryz.ntmps22
  go_wp2
  go_ret
  exact ⟨by rw [take_min1]; rfl, Below.refl _ _⟩
theorem parse_out {s : List UInt8} {r : Ty × Int} (hr : ParseIs s r) : (20000 < s.length ∧ r = (.mk 0 [] [] [] 0, 3)) ∨ (s.length ≤ 20000 ∧ ((formedB r.1 = true ∧ textT r.1 = s ∧ r = (r.1, 0)) ∨ r = (.mk 0 [] [] [] 0, 4))) := by
  rcases hr with ⟨h1, rfl⟩ | ⟨h1, f, q, hf, rfl⟩
  · exact .inl ⟨h1, rfl⟩
  · refine .inr ⟨h1, ?_⟩
    unfold parseR
    split
    · rename_i h
      obtain ⟨q1, q2, q3⟩ := q
      obtain ⟨h2, h3, h4⟩ := h
      simp only at h2 h3 h4
      subst h2 h3
      exact .inl ⟨h4, text_parse hf, rfl⟩
    · exact .inr rfl
theorem parse_in {a : Ty} (h : formedB a = true) {r : Ty × Int} (hl : (textT a).length ≤ 20000) (hr : ParseIs (textT a) r) : r = (a, 0) := by
  rcases hr with ⟨h1, rfl⟩ | ⟨h1, f, q, hf, rfl⟩
  · omega
  · obtain ⟨g, hg⟩ := parse_text h
    have h3 := readF_le (Nat.le_max_left f g) hf
    rw [readF_le (Nat.le_max_right f g) hg] at h3
    obtain rfl := Option.some.inj h3
    simp [parseR, h]
theorem sameT_refl (a : Ty) : sameT a a = true := by rw [sameT_eq]; simp
theorem zero_rdv (w : World) : RdV w (.agg #[.int .i64 0, .string ⟨#[]⟩, .string ⟨#[]⟩, .slice none 0 0, .int .i64 0]) (.mk 0 [] [] [] 0) := ⟨ok_plain _ _ _, none, 0, rfl, RdL_nil _ _⟩

set_option maxRecDepth 100000 in
set_option maxHeartbeats 16000000 in
theorem UnifyParses_calls (x : List UInt8) (w : World) (hx : x.length ≤ 9223372036854775000) (he : EnvB w.heap.size w) :
    Calls Tryz.prog 4 #[.string (S x)] w fun e w' => e = .returned (.bool true) ∧ Below w.heap.size w w' := by
  have HE := Lib.hid (show ∀ X, Below w.heap.size w X → TabW X ∧ EnvB X.heap.size X from fun X h => ⟨(he X h).1, fun W hW => he W (bel_t h hW (Nat.le_refl _))⟩)
  have hsc := RShort_calls x w hx
  clear he
  go_enter Tryz.func4, Tryz.ntmps4
  go_wp2_with fail
  refine hsc.mono ?_
  rintro e w1 ⟨rfl, hb⟩
  have B1 := Lib.hid hb
  have hsl : (x.take 20001).length ≤ 20001 := List.length_take_le _ _
  obtain ⟨s, hs⟩ : ∃ s, s = x.take 20001 := ⟨_, rfl⟩
  rw [← hs] at hsl ⊢
  clear hsc hb hs hx
  have hpc := Parse_calls s w1 (by omega) (HE.out w1 B1.out).2
  go_wp2_with fail
  refine hpc.mono ?_
  rintro e w2 ⟨r, vp, hr, rfl, hval, hb⟩
  have B2 := Lib.hid (show Below w.heap.size w w2 from bel_t B1.out hb (Nat.le_refl _))
  have HR := Lib.hid hr
  obtain ⟨t, er⟩ := r
  obtain ⟨h1, A, c, rfl, hrd⟩ := hval
  simp only at h1 hrd ⊢
  have HRV := Lib.hid (show RdV w2 (.agg #[.int .i64 t.kind, .string (S t.mod), .string (S t.name), .slice A t.args.length c, .int .i64 t.var]) t from ⟨h1, A, c, rfl, hrd.weak (fun b h => h.2)⟩)
  clear hpc hr h1 hrd hb
  unfold tyV
  obtain ⟨w3, hw3⟩ : ∃ w3, w3 = w2.alloc (.cells #[.int .i64 t.kind, .string (S t.mod), .string (S t.name), .slice A t.args.length c, .int .i64 t.var] 24) := ⟨_, rfl⟩
  obtain ⟨q4, hq4⟩ : ∃ q, q = w2.heap.size := ⟨_, rfl⟩
  have C3 := Lib.hid (show Below w2.heap.size w2 w3 by rw [hw3]; exact bel_a _ _)
  have B3 := Lib.hid (show Below w.heap.size w w3 from bel_t B2.out C3.out (Nat.le_refl _))
  have BK3 := Lib.hid (show w3.heap[q4]? = some (.cells #[.int .i64 t.kind, .string (S t.mod), .string (S t.name), .slice A t.args.length c, .int .i64 t.var] 24 (0, 0)) by rw [hw3, hq4]; exact (MapKept.heap_alloc w2 _).1)
  rcases parse_out HR.out with ⟨hl, hre⟩ | ⟨hl, hcase⟩
  · injection hre with ht her
    subst her
    have hl2 : (20000 : Int) < (s.length : Int) := by omega
    have hmc := RSame_calls t (.mk 0 [] [] [] 0) _ _ w3 (HRV.out.below C3.out) (zero_rdv w3)
    rw [ht] at hmc
    rw [sameT_refl] at hmc
    have HMC := Lib.hid hmc
    subst ht
    clear hl hmc
    go_wp2_with fail
    rw [← hw3]
    refine HMC.out.mono ?_
    rintro e w4 ⟨rfl, hb⟩
    have B4 := Lib.hid (show Below w.heap.size w w4 from bel_t B3.out hb (Nat.le_refl _))
    clear hb HMC
    go_wp2_with fail
    refine (alive_calls w4 (fun W hW => (HE.out W (bel_t B4.out hW (Nat.le_refl _))).2 W (Below.refl _ _))).mono ?_
    rintro e w9 ⟨rfl, hb⟩
    have B9 := Lib.hid (show Below w.heap.size w w9 from bel_t B4.out hb (Nat.le_refl _))
    clear hb
    go_wp2
    go_ret
    exact ⟨rfl, B9.out⟩
  · have hl2 : ¬ ((20000 : Int) < (s.length : Int)) := by omega
    have hrc := RParse_calls s w3 hl (fun X hX => (HE.out X (bel_t B3.out hX (Nat.le_refl _))).1)
    have HL := Lib.hid hl
    have HCASE := Lib.hid hcase
    clear hl hcase
    go_wp2_with fail
    rw [← hw3, ← hq4]
    clear hw3 hq4
    refine hrc.mono ?_
    rintro e w4 ⟨rr, vr, hrr, rfl, hval, hb⟩
    have C4 := Lib.hid (show Below w2.heap.size w2 w4 from bel_t C3.out hb (Nat.le_refl _))
    have B4 := Lib.hid (show Below w.heap.size w w4 from bel_t B3.out hb (Nat.le_refl _))
    have BK4 := Lib.hid ((hb.block q4 (lt_of_block BK3.out)).trans BK3.out)
    obtain ⟨u, ok⟩ := rr
    obtain ⟨h1, A2, c2, rfl, hrd⟩ := hval
    simp only at h1 hrd ⊢
    have HRU := Lib.hid (show RdV w4 (.agg #[.int .i64 u.kind, .string (S u.mod), .string (S u.name), .slice A2 u.args.length c2, .int .i64 u.var]) u from ⟨h1, A2, c2, rfl, hrd.weak (fun b h => h.2)⟩)
    have HRR := Lib.hid hrr
    clear hrc hrr h1 hrd hb
    unfold tyV
    obtain ⟨w5, hw5⟩ : ∃ w5, w5 = w4.alloc (.cells #[.int .i64 u.kind, .string (S u.mod), .string (S u.name), .slice A2 u.args.length c2, .int .i64 u.var] 24) := ⟨_, rfl⟩
    have C5 := Lib.hid (show Below w4.heap.size w4 w5 by rw [hw5]; exact bel_a _ _)
    have B5 := Lib.hid (show Below w.heap.size w w5 from bel_t B4.out C5.out (Nat.le_refl _))
    obtain ⟨y0, y1, y2, y3, y4, yf⟩ := five_cells BK4.out
    have lq4 := lt_of_block BK4.out
    cases ok with
    | false =>
      have hre : (t, er) = ((.mk 0 [] [] [] 0 : Ty), (4 : Int)) := by
        rcases HCASE.out with ⟨h2, h3, -⟩ | h2
        · have := rparse_of HRR.out h2 h3
          injection this with h4 h5
          cases h5
        · exact h2
      injection hre with ht her
      subst her
      have hmc := RSame_calls t (.mk 0 [] [] [] 0) _ _ w5 (HRV.out.below (bel_t C4.out C5.out (Nat.le_refl _))) (zero_rdv w5)
      rw [ht] at hmc
      rw [sameT_refl] at hmc
      have HMC := Lib.hid hmc
      subst ht
      clear hmc
      go_wp2_with fail
      rw [← hw5]
      clear hw5
      refine HMC.out.mono ?_
      rintro e w6 ⟨rfl, hb⟩
      have B6 := Lib.hid (show Below w.heap.size w w6 from bel_t B5.out hb (Nat.le_refl _))
      clear hb HMC
      go_wp2_with fail
      refine (alive_calls w6 (fun W hW => (HE.out W (bel_t B6.out hW (Nat.le_refl _))).2 W (Below.refl _ _))).mono ?_
      rintro e w9 ⟨rfl, hb⟩
      have B9 := Lib.hid (show Below w.heap.size w w9 from bel_t B6.out hb (Nat.le_refl _))
      clear hb
      go_wp2
      go_ret
      exact ⟨rfl, B9.out⟩
    | true =>
      have hut := rparse_true HRR.out rfl
      simp only at hut
      have hre : (t, er) = (u, (0 : Int)) := by
        have hr2 := HR.out
        rw [← hut.2] at hr2
        exact parse_in hut.1 (by rw [hut.2]; exact HL.out) hr2
      injection hre with ht her
      subst her
      have hmc := RSame_calls t u _ _ w5 (HRV.out.below (bel_t C4.out C5.out (Nat.le_refl _))) (HRU.out.below C5.out)
      rw [ht] at hmc
      rw [sameT_refl] at hmc
      have HMC := Lib.hid hmc
      subst ht
      clear hmc hut
      go_wp2_with fail
      rw [← hw5]
      clear hw5
      refine HMC.out.mono ?_
      rintro e w6 ⟨rfl, hb⟩
      have B6 := Lib.hid (show Below w.heap.size w w6 from bel_t B5.out hb (Nat.le_refl _))
      clear hb HMC
      go_wp2_with fail
      refine (alive_calls w6 (fun W hW => (HE.out W (bel_t B6.out hW (Nat.le_refl _))).2 W (Below.refl _ _))).mono ?_
      rintro e w9 ⟨rfl, hb⟩
      have B9 := Lib.hid (show Below w.heap.size w w9 from bel_t B6.out hb (Nat.le_refl _))
      clear hb
      go_wp2
      go_ret
      exact ⟨rfl, B9.out⟩

end Go.Proofs.YtplnfepdikbpfaaGreatDoor
