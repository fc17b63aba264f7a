/- The walks of the reference's cut and Cut, and of the law's cut. Condition: the type reads. The walks of the reference's Cut and of the law's cut. Condition: the type reads. -/
import Derived.Test.YtplnfepdikbpfaaGreatDoorPW
import Derived.Test.YtplnfepdikbpfaaGreatDoorBD
import Derived.Test.YtplnfepdikbpfaaGreatDoorST7
import Derived.Test.YtplnfepdikbpfaaGreatDoorUA
namespace Go.Proofs.YtplnfepdikbpfaaGreatDoor
open Go.RowKit
open Go.Proofs.YtplnfepdikbpfaaGreatDoorW.PrintLast
set_option linter.unusedVariables false
set_option linter.unusedSimpArgs false
attribute [local go_sem ↓] Go.wp_at_zero Go.wp_at_succ

def CutPost (w : World) (r : Ty × Int) (e : Ending) (w' : World) : Prop :=
  ∃ A c, e = .returned (.tuple #[tyV r.1 (.slice A r.1.args.length c), .int .i64 r.2]) ∧ (Ok1 r.1 ∧ RdL (fun b => w.heap.size ≤ b ∧ b < w'.heap.size) w' (.slice A r.1.args.length c) r.1.args) ∧ Below w.heap.size w w'
def CutAt (t : Ty) : Prop := ∀ (v : Value) (w : World) (left d : Int), RdV w v t → 1 ≤ left → left ≤ 30000 → 1 ≤ d → d ≤ 103 → Calls Tryz.prog 63 #[v, .int .i64 left, .int .i64 d] w (CutPost w (cutT t left d))
/-- What holds at the head of cut's loop. -/
structure CutIn (w1 : World) (B q8 : Nat) (k : Int) (m n : List UInt8) (v : Int) (xs : List Ty) (left d : Int) (wr : World) (t : Nat) (rest : Int) (acc : List Ty) (AV : Option Addr) (cV : Nat) : Prop where
  ht : t ≤ xs.length
  len : acc.length = t
  eq : cutL xs (left - 1) d = (acc ++ (cutL (xs.drop t) rest d).1, (cutL (xs.drop t) rest d).2)
  r0 : 0 ≤ rest
  few : rest + t ≤ 30000
  own : OwnTy (fun b => B ≤ b) wr B (.slice AV t cV) acc
  tn : Tn (fun z => z = q8) w1 wr
  blk : wr.heap[q8]? = some (.cells #[.int .i64 k, .string (S (m.take 200)), .string (S (n.take 200)), .slice AV t cV, .int .i64 v] 24 (0, 0))

set_option maxRecDepth 100000 in
set_option maxHeartbeats 32000000 in
theorem cut_calls (t : Ty) : CutAt t := by
  induction t using Ty.ind with
  | h k m n xs v ih =>
    intro va w left d hva hl1 hl2 hd1 hd2
    obtain ⟨h1, A, c, rfl, hr⟩ := hva
    simp only [tyV, Ty.kind, Ty.mod, Ty.name, Ty.args, Ty.var] at hr ⊢
    have IH := Lib.hid ih; have H1 := Lib.hid h1; have HR := Lib.hid hr
    clear ih h1 hr
    obtain ⟨w2, hw2⟩ : ∃ w2, w2 = (w.alloc (.cells #[.int .i64 k, .string (S m), .string (S n), .slice A xs.length c, .int .i64 v] 24)).alloc (.cells #[.int .i64 0, .string ⟨#[]⟩, .string ⟨#[]⟩, .slice none 0 0, .int .i64 0] 24) := ⟨_, rfl⟩
    obtain ⟨q3, hq3⟩ : ∃ q3, q3 = w.heap.size := ⟨_, rfl⟩
    obtain ⟨q6, hq6⟩ : ∃ q6, q6 = w.heap.size + 1 := ⟨_, rfl⟩
    have B2 := Lib.hid (show Below w.heap.size w w2 by rw [hw2]; exact bel_alloc (bel_alloc (Below.refl _ _) _) _)
    have hsz2 : w2.heap.size = w.heap.size + 2 := by rw [hw2]; simp
    have blk3 := Lib.hid (show w2.heap[q3]? = some (.cells #[.int .i64 k, .string (S m), .string (S n), .slice A xs.length c, .int .i64 v] 24 (0, 0)) by
      rw [hw2, hq3]; exact ((gb_alloc _ _ none).block w.heap.size (by simp) (by simp)).trans (MapKept.heap_alloc w _).1)
    have blk6 := Lib.hid (show w2.heap[q6]? = some (.cells #[.int .i64 0, .string ⟨#[]⟩, .string ⟨#[]⟩, .slice none 0 0, .int .i64 0] 24 (0, 0)) by
      have h := (MapKept.heap_alloc (w.alloc (.cells #[.int .i64 k, .string (S m), .string (S n), .slice A xs.length c, .int .i64 v] 24)) (.cells #[.int .i64 0, .string ⟨#[]⟩, .string ⟨#[]⟩, .slice none 0 0, .int .i64 0] 24)).1
      rw [World.size_alloc] at h
      rw [hw2, hq6]; exact h)
    have K1 := Lib.hid (show ∀ X, Below w2.heap.size w2 X → X.cell? ⟨q3, 0, none⟩ = some (.int .i64 k) ∧ X.cell? ⟨q3, 1, none⟩ = some (.string (S m)) ∧ X.cell? ⟨q3, 2, none⟩ = some (.string (S n)) ∧ X.cell? ⟨q3, 4, none⟩ = some (.int .i64 v) from fun X hb => by
      obtain ⟨a0, a1, a2, a3, a4, -⟩ := five_cells blk3.out
      have la := lt_of_block blk3.out
      have ca : ∀ o, X.cell? ⟨q3, o, none⟩ = w2.cell? ⟨q3, o, none⟩ := fun o => hb.cell (p := ⟨q3, o, none⟩) la
      exact ⟨(ca 0).trans a0, (ca 1).trans a1, (ca 2).trans a2, (ca 4).trans a4⟩)
    have m0 : (0 : Int) ≤ min (m.length : Int) 200 := by omega
    have m1 : min (m.length : Int) 200 ≤ (m.length : Int) := by omega
    have n0 : (0 : Int) ≤ min (n.length : Int) 200 := by omega
    have n1 : min (n.length : Int) 200 ≤ (n.length : Int) := by omega
    have HQ := Lib.hid (show q3 = w.heap.size ∧ q6 = w.heap.size + 1 ∧ w2.heap.size = w.heap.size + 2 from ⟨hq3, hq6, hsz2⟩)
    clear hsz2
    go_enter Tryz.func63, Tryz.ntmps63
    go_wp2_with fail
    rw [← hw2, ← hq6, ← hq3]
    clear hw2 hq3 hq6
    refine start_ (n := 21) (S := fun w' => w'.cell? ⟨q3, 0, none⟩ = some (.int .i64 k) ∧ w'.cell? ⟨q3, 1, none⟩ = some (.string (S m)) ∧ w'.cell? ⟨q3, 2, none⟩ = some (.string (S n)) ∧ w'.cell? ⟨q3, 4, none⟩ = some (.int .i64 v)) (ds := [20]) (bs 21 0) (by kernel_rfl) rfl rfl ⟨(K1.out _ (belD14 _ _)).1, (K1.out _ (belD14 _ _)).2.1, (K1.out _ (belD14 _ _)).2.2.1, (K1.out _ (belD14 _ _)).2.2.2⟩ (fun hHeld => ?_)
    refine pu 0 13 (bs 21 1) ?_
    refine pu 2 15 (bs 21 5) ?_
    refine pu 4 17 (bs 21 21) ?_
    refine pu 9 22 (bs 21 533) ?_
    refine pu 11 24 (bs 21 2581) ?_
    refine pu 16 29 (bs 21 68117) ?_
    refine tk 1 14 (bs 21 68119) hHeld ?_
    refine tk 3 16 (bs 21 68127) hHeld ?_
    refine tk 5 18 (bs 21 68159) hHeld ?_
    refine pu 6 19 (bs 21 68223) ?_
    refine pu 7 20 (bs 21 68351) ?_
    refine pu 8 21 (bs 21 68607) ?_
    refine tk 10 23 (bs 21 69631) hHeld ?_
    refine tk 12 25 (bs 21 73727) hHeld ?_
    refine pu 13 26 (bs 21 81919) ?_
    refine pu 14 27 (bs 21 98303) ?_
    refine pu 15 28 (bs 21 131071) ?_
    refine tk 17 30 (bs 21 262143) hHeld ?_
    refine pu 18 31 (bs 21 524287) ?_
    refine one_ (i := 19) (N := some 8) (bs 21 1048575) rfl rfl (by kernel_rfl) (by decide) (fun K hK => ?_)
    refine value_ (w1 := ?_) (v := ?_) (by rfl) rfl ?_ ?_
    rotate_left 2
    · go_simp
      constructor
      · rfl
      · rfl
    refine hK.out _ _ ⟨(K1.out _ ((belD14 w2.heap.size w2).trans ((bel_alloc (Below.refl w2.drew.heap.size w2.drew) _)))).1, (K1.out _ ((belD14 w2.heap.size w2).trans ((bel_alloc (Below.refl w2.drew.heap.size w2.drew) _)))).2.1, (K1.out _ ((belD14 w2.heap.size w2).trans ((bel_alloc (Below.refl w2.drew.heap.size w2.drew) _)))).2.2.1, (K1.out _ ((belD14 w2.heap.size w2).trans ((bel_alloc (Below.refl w2.drew.heap.size w2.drew) _)))).2.2.2⟩ (fun hHeld => ?_)
    clear hK K
    refine norm_ (a' := ?_) ?_ ?_
    rotate_left
    · show Act.put _ (some 8) _ = _; simp only [Act.put, nA, nB, nC, i64_w, i32_w]; rfl
    refine last_ (i := 20) (N := none) (bs 21 2097151) rfl rfl (by kernel_rfl) (by decide) (fun K hK => ?_)
    refine skip_ (w1 := ?_) (by rfl) rfl ?_ ?_
    rotate_left
    · go_simp
      rfl
    refine hK.out _ _ ?_
    clear hK K
    refine done_ (by kernel_rfl) ?_
    rw [take_min200, take_min200]
    obtain ⟨w4, hw4⟩ : ∃ w4, w4 = (w2.alloc (.cells #[.int .i64 k, .string (S (m.take 200)), .string (S (n.take 200)), .slice none 0 0, .int .i64 v] 24)).drew := ⟨_, rfl⟩
    obtain ⟨q8, hq8⟩ : ∃ q8, q8 = w2.heap.size := ⟨_, rfl⟩
    rw [← hw4, ← hq8]
    have blk8 := Lib.hid (show w4.heap[q8]? = some (.cells #[.int .i64 k, .string (S (m.take 200)), .string (S (n.take 200)), .slice none 0 0, .int .i64 v] 24 (0, 0)) by rw [hw4, hq8]; exact (MapKept.heap_alloc w2 _).1)
    have C4 := Lib.hid (show Below w2.heap.size w2 w4 by rw [hw4]; exact bel_drew (bel_alloc (Below.refl _ _) _))
    have B4 := Lib.hid (show Below w.heap.size w w4 from B2.out.trans (C4.out.mono B2.out.size))
    have HQ8 := Lib.hid (show q8 = w.heap.size + 2 ∧ w4.heap.size = w.heap.size + 3 from ⟨by rw [hq8]; exact HQ.out.2.2, by have h := HQ.out.2.2; rw [hw4]; simp [drew_size]; omega⟩)
    clear hw4 hq8 hHeld
    obtain ⟨B, hB⟩ : ∃ B, B = w4.heap.size := ⟨_, rfl⟩
    have HB := Lib.hid hB; clear hB
    go_wp2_with fail
    go_loopw [9, 10] (fun r i wr => ∃ (t : Nat) (rest : Int) (acc : List Ty) (AV : Option Addr) (cV : Nat), r = .int .i64 rest ∧ i = .int .i64 (t : Int) ∧ CutIn w4 B q8 k m n v xs left d wr t rest acc AV cV) (fun _ i _ => xs.length - (intOf i).toNat)
    case atStart =>
      exact ⟨0, left - 1, [], none, 0, by go_num, rfl, Nat.zero_le _, rfl, by simp, by omega, by omega, OwnTy.nil _ _ _, Tn.refl _ _, blk8.out⟩
    case round =>
      obtain ⟨t, rest, acc, AV, cV, rfl, rfl, hI⟩ := hrel
      have BR := Lib.hid (show Below w.heap.size w wr from ((Tn.bel B4.out (fun _ => False)).then hI.tn (fun z e => .inr (by have := HQ8.out; omega))).below (Nat.le_refl _) (fun z e => e.elim))
      have hcell : ∀ q o, q < w4.heap.size → q ≠ q8 → wr.cell? ⟨q, o, none⟩ = w4.cell? ⟨q, o, none⟩ := fun q o h1 h2 => hI.tn.cell h1 h2 o
      have hq := HQ.out
      have hq8 := HQ8.out
      obtain ⟨N, hN⟩ : ∃ N, N = xs.length := ⟨_, rfl⟩
      have HN := Lib.hid hN
      have p3 : wr.cell? ⟨q3, 3, none⟩ = some (.slice A N c) := by
        rw [hN, hcell q3 3 (by omega) (by omega), C4.out.cell (p := ⟨q3, 3, none⟩) (by show q3 < _; omega)]
        exact (five_cells blk3.out).2.2.2.1
      obtain ⟨b0, b1, b2, b3, b4, bf⟩ := five_cells hI.blk
      have hlen := hI.len
      have hfew := hI.few
      have hr0 := hI.r0
      have hxl : xs.length ≤ 9223372036854775000 := by obtain ⟨_, _, _, h, _⟩ := HR.out; exact h.1
      have blkr : wr.heap[q6]? = some (.cells #[.int .i64 0, .string ⟨#[]⟩, .string ⟨#[]⟩, .slice none 0 0, .int .i64 0] 24 (0, 0)) := (hI.tn.block q6 (by omega) (by omega)).trans ((C4.out.block q6 (by omega)).trans blk6.out)
      have hexit : ¬ (t < xs.length ∧ 0 < rest ∧ d ≤ 102) → cutT (.mk k m n xs v) left d = (.mk k (m.take 200) (n.take 200) acc v, rest) := fun hn => by
        rw [cutT_mk, hI.eq]
        have : cutL (xs.drop t) rest d = ([], rest) := by
          by_cases h1 : t < xs.length
          · exact cutL_stop _ _ _ (fun h2 => hn ⟨h1, h2⟩)
          · rw [List.drop_eq_nil_of_le (by omega), cutL_nil]
        rw [this]
        simp
      have hlast : ¬ (t < xs.length ∧ 0 < rest ∧ d ≤ 102) → CutPost w (cutT (.mk k m n xs v) left d) (.returned (.tuple #[.agg #[.int .i64 k, .string (S (m.take 200)), .string (S (n.take 200)), .slice AV t cV, .int .i64 v], .int .i64 rest])) (p5w wr q6 (.int .i64 k) (.string (S (m.take 200))) (.string (S (n.take 200))) (.slice AV t cV) (.int .i64 v)) := fun hn => by
        rw [hexit hn]
        have hrd : RdL (fun b => B ≤ b ∧ b < wr.heap.size) wr (.slice AV t cV) acc := hI.own.read (by omega) _ (fun b h1 h2 => ⟨h1, h2⟩) (fun b hb => hI.own.lt b hb)
        refine ⟨AV, cV, by simp only [tyV, Ty.kind, Ty.mod, Ty.name, Ty.args, Ty.var, hlen], ⟨⟨?_, ?_⟩, ?_⟩, bel5 BR.out (by omega) _ _ _ _ _⟩
        · simp only [Ty.mod]; have := List.length_take_le 200 m; omega
        · simp only [Ty.name]; have := List.length_take_le 200 n; omega
        · simp only [Ty.args, hlen]
          refine hrd.turn (fun b hb => ⟨by have := HB.out; omega, Nat.lt_of_lt_of_le hb.2 (p5w_gb wr q6 _ _ _ _ _).size⟩) (fun b o hb => World.cell?_of_block ((p5w_gb wr q6 _ _ _ _ _).block b hb.2 (fun e => by have := Option.some.inj e; have := HB.out; omega)))
      have HI := Lib.hid hI; have HLAST := Lib.hid hlast; have BLKR := Lib.hid blkr
      obtain ⟨z0, z1, z2, z3, z4, zf⟩ := five_cells blkr
      have htN : t ≤ N := by rw [hN]; exact HI.out.ht
      clear hI hlast hexit hcell blkr hq hq8 hlen hN hxl
      by_cases h1 : t < N
      · have t1 : decide ((t : Int) < (N : Int)) = true := decide_eq_true (by omega)
        by_cases h2 : 0 < rest
        · have t2 : decide (rest > 0) = true := decide_eq_true h2
          by_cases h3 : d ≤ 102
          · have t3 : decide (d ≤ 102) = true := decide_eq_true h3
            obtain ⟨-, hxx⟩ := (HR.out.below BR.out).at_
            obtain ⟨e1, off, rfl, he0, hc⟩ := hxx (by have := HN.out; omega)
            have h1' : t < xs.length := by have := HN.out; omega
            obtain ⟨A2, c2, g1, g2, g3, g4, g5, g6, g7⟩ := hc t h1'
            obtain ⟨tt, htt⟩ : ∃ tt, tt = tyAt xs t := ⟨_, rfl⟩
            rw [← htt] at g1 g2 g3 g4 g5 g6 g7
            have hcc := IH.out tt (by rw [htt]; exact tyAt_mem h1') _ wr rest (d + 1) ⟨g7, A2, c2, rfl, g6⟩ (by omega) (by omega) (by omega) (by omega)
            have HTT := Lib.hid htt
            have hst := cutL_step h1' ⟨h2, h3⟩ HI.out.eq
            rw [← htt] at hst
            have hb := cutT_b tt rest (d + 1) (by omega)
            obtain ⟨r, hr⟩ : ∃ r, r = cutT tt rest (d + 1) := ⟨_, rfl⟩
            rw [← hr] at hst hb hcc
            have HST := Lib.hid hst; have HBD := Lib.hid hb
            have i0 : (0 : Int) ≤ (t : Int) := by omega
            have i1 : (t : Int) < (N : Int) := by omega
            unfold tyV at hcc
            clear h1' hxx hc htt hst hb hr HLAST g6 g7 z0 z1 z2 z3 z4 zf b0 b1 b2 b4
            go_wp2_with fail
            refine hcc.mono ?_
            rintro e w5 ⟨A5, c5, rfl, ⟨hok5, hrd5⟩, hb5⟩
            have HOK5 := Lib.hid hok5; have HRD5 := Lib.hid hrd5; have HB5 := Lib.hid hb5
            have hszr := hb5.size
            have lq8 : q8 < wr.heap.size := lt_of_block HI.out.blk
            have b3' : w5.cell? ⟨q8, 3, none⟩ = some (.slice AV t cV) := (hb5.cell (p := ⟨q8, 3, none⟩) lq8).trans b3
            have bf' : w5.frozen? ⟨q8, 3, none⟩ = false := (hb5.frozen (p := ⟨q8, 3, none⟩) lq8).trans (bf 3)
            clear hok5 hrd5 hb5 b3 bf hcc
            obtain ⟨t', rest'⟩ := r
            obtain ⟨w6, hw6⟩ : ∃ w6, w6 = w5.alloc (.cells #[.int .i64 t'.kind, .string (S t'.mod), .string (S t'.name), .slice A5 t'.args.length c5, .int .i64 t'.var] 24) := ⟨_, rfl⟩
            simp only at *
            unfold tyV
            have hm := HBD.out
            have hrl : wr.heap.size ≤ w5.heap.size := hszr
            have hw4r := HI.out.tn.size
            have OW5 := Lib.hid (HI.out.own.called HB5.out)
            have ob : ∀ z, (Value.slice AV t cV).ownBlock = some z → B ≤ z ∧ z < wr.heap.size := HI.out.own.lt
            have HOB := Lib.hid ob
            have hBw : B ≤ wr.heap.size := by have := HB.out; omega
            have HT6 : Ok1 t' ∧ RdL (fun b => B ≤ b ∧ b < w6.heap.size ∧ (Value.slice AV t cV).ownBlock ≠ some b) w6 (.slice A5 t'.args.length c5) t'.args := ⟨HOK5.out, HRD5.out.turn (fun b hb => ⟨by omega, by rw [hw6]; simp; omega, fun e => by have := ob b e; omega⟩) (fun b o hb => by rw [hw6]; exact (bel_alloc (Below.refl w5.heap.size w5) _).cell (p := ⟨b, o, none⟩) hb.2)⟩
            have HO6 : OwnTy (fun b => B ≤ b) w6 B (.slice AV t cV) acc := by rw [hw6]; exact OW5.out.called (bel_alloc (Below.refl _ _) _)
            have HT6 := Lib.hid HT6; have HO6 := Lib.hid HO6; have HW6 := Lib.hid hw6
            have T6 := Lib.hid (show Tn (fun z => z = q8) w4 w6 by rw [hw6]; exact (HI.out.tn.trans (Tn.bel (bel_alloc HB5.out _) _)))
            have hB6 : B ≤ w6.heap.size := by rw [hw6]; simp; omega
            have hal : acc.length ≤ 1000000 := by have := HI.out.len; have := HI.out.few; have := HI.out.r0; omega
            have lq5 : q8 < w5.heap.size := by omega
            have lq6 : q8 < w5.heap.size + 1 := by omega
            have hq8o : (Value.slice AV t cV).ownBlock ≠ some q8 := fun e => by have h1 := (ob q8 e).1; have h2 := HQ8.out; have h3 := HB.out; omega
            have K9 := Lib.hid (show ∀ X, w6.grownBy X (Value.slice AV t cV).ownBlock → X.cell? ⟨q8, 3, none⟩ = some (.slice AV t cV) ∧ X.frozen? ⟨q8, 3, none⟩ = false ∧ X.heap[q8]? = some (.cells #[.int .i64 k, .string (S (m.take 200)), .string (S (n.take 200)), .slice AV t cV, .int .i64 v] 24 (0, 0)) from fun X hX => by
              have hb : X.heap[q8]? = some (.cells #[.int .i64 k, .string (S (m.take 200)), .string (S (n.take 200)), .slice AV t cV, .int .i64 v] 24 (0, 0)) := (hX.block q8 (by rw [HW6.out]; simp; omega) (Ne.symm hq8o)).trans (by rw [HW6.out]; exact ((bel_alloc (Below.refl w5.heap.size w5) _).block q8 lq5).trans ((HB5.out.block q8 lq8).trans HI.out.blk))
              exact ⟨(five_cells hb).2.2.2.1, (five_cells hb).2.2.2.2.2 3, hb⟩)
            have HLT := Lib.hid (show (acc ++ [t']).length = t + 1 by rw [List.length_append, HI.out.len]; rfl)
            have HQO := Lib.hid hq8o
            clear hw6 ob hrl hw4r hq8o
            go_wp2_with (at_builtin; rw [← HW6.out]; refine ty_append (fun b => B ≤ b) B rfl (.tmp 62) (.tmp 64) rfl (.slice AV t cV) acc t' A5 c5 rfl (w5.heap.size + 1) rfl (by rw [HW6.out]; simp) HO6.out HT6.out hB6 hal ?_; intro v9 w9 hown9 hg9 hat9; obtain ⟨A9, c9, hv90, -⟩ := hown9.length; have hv9 := hv90.trans (congrArg (fun z => Value.slice A9 z c9) HLT.out); subst hv9; clear hv90; have HOWN9 := Lib.hid hown9; have HG9 := Lib.hid hg9; have HAT9 := Lib.hid hat9; have c3w := (K9.out w9 hg9).1; have f3w := (K9.out w9 hg9).2.1; clear hown9 hg9 hat9)
            obtain ⟨w10, hw10⟩ : ∃ w10, w10 = w9.setCell ⟨q8, 3, none⟩ (.slice A9 (t + 1) c9) := ⟨_, rfl⟩
            rw [← hw10]
            have ob9 : ∀ z, (Value.slice A9 (t + 1) c9).ownBlock = some z → z ≠ q8 := fun z e => by
              rcases HAT9.out with e2 | ⟨g2, e2, e3⟩
              · rw [e2] at e; have h1 := (HOB.out z e).1; have h2 := HQ8.out; have h3 := HB.out; omega
              · rw [e3] at e; have h1 := Option.some.inj e; have h2 : w6.heap.size = w5.heap.size + 1 := by rw [HW6.out]; simp
                omega
            have hI10 : CutIn w4 B q8 k m n v xs left d w10 (t + 1) rest' (acc ++ [t']) A9 c9 := by
              refine ⟨by have := HN.out; omega, by rw [List.length_append, HI.out.len]; rfl, HST.out, by omega, by have := HI.out.few; omega, ?_, ?_, ?_⟩
              · rw [hw10]
                exact HOWN9.out.grown (gb_set _ _ _ _) (fun z e => by have := Option.some.inj e; subst this; exact ⟨by have h2 := HQ8.out; have h3 := HB.out; omega, fun e2 => ob9 _ e2 rfl⟩)
              · rw [hw10]
                exact (T6.out.then (Tn.gb (O := fun z => (Value.slice AV t cV).ownBlock = some z) HG9.out (fun z e => .inl e)) (fun z e => .inr (by have h1 := (HOB.out z e).1; have h3 := HB.out; omega))).trans (Tn.set _ _ _ _ (.inl rfl))
              · rw [hw10]
                exact set3_blk _ (K9.out w9 HG9.out).2.2
            have HI10 := Lib.hid hI10
            clear hw10 ob9 hI10 c3w f3w K9 HOWN9 HG9 HAT9 HO6 HT6 T6 HW6
            go_wp2
            go_roundw
            case rel => exact ⟨t + 1, rest', acc ++ [t'], A9, c9, by go_num, by go_num, HI10.out⟩
            case measure => have := HN.out; simp [intOf]; omega
          · have t3 : decide (d ≤ 102) = false := decide_eq_false h3
            have HF := Lib.hid (HLAST.out (fun h => h3 h.2.2))
            clear h3 HLAST
            go_wp2
            (try simp only [Exit.inBlock, Exit.then])
            refine bodyPost_ret (results_cell_tmp rfl _ _ q6 24 #[.int .i64 k, .string (S (m.take 200)), .string (S (n.take 200)), .slice AV t cV, .int .i64 v] (0, 0) _ (by rfl) (p5w_blk BLKR.out) Tryz.underlying24 rfl sizeTy (.int .i64 rest) (by rfl)) rfl HF.out
        · have t2 : decide (rest > 0) = false := decide_eq_false h2
          have HF := Lib.hid (HLAST.out (fun h => h2 h.2.1))
          clear h2 HLAST
          go_wp2
          (try simp only [Exit.inBlock, Exit.then])
          refine bodyPost_ret (results_cell_tmp rfl _ _ q6 24 #[.int .i64 k, .string (S (m.take 200)), .string (S (n.take 200)), .slice AV t cV, .int .i64 v] (0, 0) _ (by rfl) (p5w_blk BLKR.out) Tryz.underlying24 rfl sizeTy (.int .i64 rest) (by rfl)) rfl HF.out
      · have HF := Lib.hid (HLAST.out (fun h => h1 (by rw [HN.out]; exact h.1)))
        obtain rfl : t = N := by omega
        have lt1 : ¬ ((t : Int) < (t : Int)) := by omega
        clear h1 HLAST HN htN
        go_wp2
        (try simp only [Exit.inBlock, Exit.then])
        refine bodyPost_ret (results_cell_tmp rfl _ _ q6 24 #[.int .i64 k, .string (S (m.take 200)), .string (S (n.take 200)), .slice AV t cV, .int .i64 v] (0, 0) _ (by rfl) (p5w_blk BLKR.out) Tryz.underlying24 rfl sizeTy (.int .i64 rest) (by rfl)) rfl HF.out


end Go.Proofs.YtplnfepdikbpfaaGreatDoor

namespace Go.Proofs.YtplnfepdikbpfaaGreatDoor
open Go.RowKit
set_option linter.unusedVariables false
set_option linter.unusedSimpArgs false
attribute [local go_sem ↓] Go.wp_at_zero Go.wp_at_succ

/-- The type that a law looks at. -/
def cutA (t : Ty) : Ty := (cutT t 4100 1).1
def CutAPost (w : World) (t : Ty) (e : Ending) (w' : World) : Prop :=
  ∃ A c, e = .returned (tyV t (.slice A t.args.length c)) ∧ (Ok1 t ∧ RdL (fun b => w.heap.size ≤ b ∧ b < w'.heap.size) w' (.slice A t.args.length c) t.args) ∧ Below w.heap.size w w'

set_option maxRecDepth 100000 in
set_option maxHeartbeats 8000000 in
theorem Cut_calls (t : Ty) (v : Value) (w : World) (hv : RdV w v t) : Calls Tryz.prog 46 #[v] w (CutAPost w (cutA t)) := by
  obtain ⟨h1, A, c, rfl, hr⟩ := hv
  unfold tyV
  obtain ⟨w2, hw2⟩ : ∃ w2, w2 = (w.alloc (.cells #[.int .i64 t.kind, .string (S t.mod), .string (S t.name), .slice A t.args.length c, .int .i64 t.var] 24)).alloc (.cells #[.int .i64 0, .string ⟨#[]⟩, .string ⟨#[]⟩, .slice none 0 0, .int .i64 0] 24) := ⟨_, rfl⟩
  have B2 := Lib.hid (show Below w.heap.size w w2 by rw [hw2]; exact bel_alloc (bel_alloc (Below.refl _ _) _) _)
  obtain ⟨q2, hq2⟩ : ∃ q2, q2 = w.heap.size + 1 := ⟨_, rfl⟩
  have blk2 := Lib.hid (show w2.heap[q2]? = some (.cells #[.int .i64 0, .string ⟨#[]⟩, .string ⟨#[]⟩, .slice none 0 0, .int .i64 0] 24 (0, 0)) by
    have h := (MapKept.heap_alloc (w.alloc (.cells #[.int .i64 t.kind, .string (S t.mod), .string (S t.name), .slice A t.args.length c, .int .i64 t.var] 24)) (.cells #[.int .i64 0, .string ⟨#[]⟩, .string ⟨#[]⟩, .slice none 0 0, .int .i64 0] 24)).1
    rw [World.size_alloc] at h
    rw [hw2, hq2]; exact h)
  have hsz2 := Lib.hid (show w2.heap.size = w.heap.size + 2 ∧ q2 = w.heap.size + 1 from ⟨by rw [hw2]; simp, hq2⟩)
  have hcc := cut_calls t _ w2 4100 1 (RdV.below ⟨h1, A, c, rfl, hr⟩ B2.out) (by omega) (by omega) (by omega) (by omega)
  unfold tyV at hcc
  have H1 := Lib.hid h1; have HR := Lib.hid hr; clear h1 hr
  go_enter Tryz.func46, Tryz.ntmps46
  go_wp2_with fail
  rw [← hw2, ← hq2]
  clear hw2 hq2
  refine hcc.mono ?_
  rintro e w5 ⟨A5, c5, rfl, ⟨hok5, hrd5⟩, hb5⟩
  obtain ⟨r, hr⟩ : ∃ r, r = cutT t 4100 1 := ⟨_, rfl⟩
  have hca : cutA t = r.1 := by rw [hr]; rfl
  rw [← hr] at hok5 hrd5 ⊢
  obtain ⟨t', rest'⟩ := r
  simp only at hok5 hrd5 hca
  have HCA := Lib.hid hca
  have HOK5 := Lib.hid hok5; have HRD5 := Lib.hid hrd5; have HB5 := Lib.hid hb5
  have blk5 : w5.heap[q2]? = some (.cells #[.int .i64 0, .string ⟨#[]⟩, .string ⟨#[]⟩, .slice none 0 0, .int .i64 0] 24 (0, 0)) := (hb5.block q2 (lt_of_block blk2.out)).trans blk2.out
  have BLK5 := Lib.hid blk5
  clear hok5 hrd5 hb5 hcc hr hca blk5
  obtain ⟨w6, hw6⟩ : ∃ w6, w6 = w5.alloc (.cells #[.int .i64 t'.kind, .string (S t'.mod), .string (S t'.name), .slice A5 t'.args.length c5, .int .i64 t'.var] 24) := ⟨_, rfl⟩
  have blk6 := Lib.hid (show w6.heap[q2]? = some (.cells #[.int .i64 0, .string ⟨#[]⟩, .string ⟨#[]⟩, .slice none 0 0, .int .i64 0] 24 (0, 0)) by rw [hw6]; exact ((bel_alloc (Below.refl w5.heap.size w5) _).block q2 (lt_of_block BLK5.out)).trans BLK5.out)
  have blkn := Lib.hid (show w6.heap[w5.heap.size]? = some (.cells #[.int .i64 t'.kind, .string (S t'.mod), .string (S t'.name), .slice A5 t'.args.length c5, .int .i64 t'.var] 24 (0, 0)) by rw [hw6]; exact (MapKept.heap_alloc w5 _).1)
  obtain ⟨a0, a1, a2, a3, a4, af⟩ := five_cells BLK5.out
  have lq : q2 < w5.heap.size := lt_of_block BLK5.out
  have lq1 : q2 < w5.heap.size + 1 := by omega
  have HW6 := Lib.hid hw6
  clear hw6
  unfold tyV
  go_wp2_with fail
  have hbk : ((p5w w5 q2 (.int .i64 t'.kind) (.string (S t'.mod)) (.string (S t'.name)) (.slice A5 t'.args.length c5) (.int .i64 t'.var)).alloc (.cells #[.int .i64 t'.kind, .string (S t'.mod), .string (S t'.name), .slice A5 t'.args.length c5, .int .i64 t'.var] 24)).heap[q2]? = some (.cells #[.int .i64 t'.kind, .string (S t'.mod), .string (S t'.name), .slice A5 t'.args.length c5, .int .i64 t'.var] 24 (0, 0)) :=
    ((bel_alloc (Below.refl _ _) _).block q2 (Nat.lt_of_lt_of_le lq (p5w_gb w5 q2 _ _ _ _ _).size)).trans (p5w_blk BLK5.out)
  refine bodyPost_ret (results_cell_row rfl _ _ q2 24 #[.int .i64 t'.kind, .string (S t'.mod), .string (S t'.name), .slice A5 t'.args.length c5, .int .i64 t'.var] (0, 0) _ (by rfl) hbk Tryz.underlying24 rfl sizeTy) rfl ?_
  have hB5 : Below w.heap.size w w5 := B2.out.trans (HB5.out.mono B2.out.size)
  have hs2 := hsz2.out
  rw [HCA.out]
  refine ⟨A5, c5, rfl, ⟨HOK5.out, HRD5.out.turn (fun b hb => ⟨by omega, ?_⟩) (fun b o hb => ?_)⟩, ?_⟩
  · have := (p5w_gb w5 q2 (.int .i64 t'.kind) (.string (S t'.mod)) (.string (S t'.name)) (.slice A5 t'.args.length c5) (.int .i64 t'.var)).size
    exact Nat.lt_of_lt_of_le hb.2 (Nat.le_trans this (bel_alloc (Below.refl _ _) _).size)
  · have h1 := (p5w_gb w5 q2 (.int .i64 t'.kind) (.string (S t'.mod)) (.string (S t'.name)) (.slice A5 t'.args.length c5) (.int .i64 t'.var))
    exact ((bel_alloc (Below.refl _ _) _).cell (p := ⟨b, o, none⟩) (Nat.lt_of_lt_of_le hb.2 h1.size)).trans (World.cell?_of_block (h1.block b hb.2 (fun e => by have := Option.some.inj e; omega)))
  · exact bel_alloc (bel5 hB5 (by omega) _ _ _ _ _) _

set_option maxRecDepth 100000 in
set_option maxHeartbeats 8000000 in
theorem lcut_calls (t : Ty) (v : Value) (w : World) (hv : RdV w v t) : Calls Tryz.prog 14 #[v] w (CutAPost w (cutA t)) := by
  obtain ⟨h1, A, c, rfl, hr⟩ := hv
  unfold tyV
  obtain ⟨w2, hw2⟩ : ∃ w2, w2 = (w.alloc (.cells #[.int .i64 t.kind, .string (S t.mod), .string (S t.name), .slice A t.args.length c, .int .i64 t.var] 24)).alloc (.cells #[.int .i64 0, .string ⟨#[]⟩, .string ⟨#[]⟩, .slice none 0 0, .int .i64 0] 24) := ⟨_, rfl⟩
  have B2 := Lib.hid (show Below w.heap.size w w2 by rw [hw2]; exact bel_alloc (bel_alloc (Below.refl _ _) _) _)
  obtain ⟨q2, hq2⟩ : ∃ q2, q2 = w.heap.size + 1 := ⟨_, rfl⟩
  have blk2 := Lib.hid (show w2.heap[q2]? = some (.cells #[.int .i64 0, .string ⟨#[]⟩, .string ⟨#[]⟩, .slice none 0 0, .int .i64 0] 24 (0, 0)) by
    have h := (MapKept.heap_alloc (w.alloc (.cells #[.int .i64 t.kind, .string (S t.mod), .string (S t.name), .slice A t.args.length c, .int .i64 t.var] 24)) (.cells #[.int .i64 0, .string ⟨#[]⟩, .string ⟨#[]⟩, .slice none 0 0, .int .i64 0] 24)).1
    rw [World.size_alloc] at h
    rw [hw2, hq2]; exact h)
  have hsz2 := Lib.hid (show w2.heap.size = w.heap.size + 2 ∧ q2 = w.heap.size + 1 from ⟨by rw [hw2]; simp, hq2⟩)
  have hcc := Cut_calls t _ w2 (RdV.below ⟨h1, A, c, rfl, hr⟩ B2.out)
  have H1 := Lib.hid h1; have HR := Lib.hid hr; clear h1 hr
  unfold tyV at hcc
  go_enter Tryz.func14, Tryz.ntmps14
  go_wp2_with fail
  rw [← hw2, ← hq2]
  clear hw2 hq2
  refine hcc.mono ?_
  rintro e w5 ⟨A5, c5, rfl, ⟨hok5, hrd5⟩, hb5⟩
  obtain ⟨t', hca⟩ : ∃ r, r = cutA t := ⟨_, rfl⟩
  rw [← hca] at hok5 hrd5 ⊢
  have HCA := Lib.hid hca
  have HOK5 := Lib.hid hok5; have HRD5 := Lib.hid hrd5; have HB5 := Lib.hid hb5
  have blk5 : w5.heap[q2]? = some (.cells #[.int .i64 0, .string ⟨#[]⟩, .string ⟨#[]⟩, .slice none 0 0, .int .i64 0] 24 (0, 0)) := (hb5.block q2 (lt_of_block blk2.out)).trans blk2.out
  have BLK5 := Lib.hid blk5
  clear hok5 hrd5 hb5 hcc hca blk5
  obtain ⟨a0, a1, a2, a3, a4, af⟩ := five_cells BLK5.out
  unfold tyV
  go_wp2
  refine bodyPost_ret (results_cell_row rfl _ _ q2 24 #[.int .i64 t'.kind, .string (S t'.mod), .string (S t'.name), .slice A5 t'.args.length c5, .int .i64 t'.var] (0, 0) _ (by rfl) (p5w_blk BLK5.out) Tryz.underlying24 rfl sizeTy) rfl ?_
  have hB5 : Below w.heap.size w w5 := B2.out.trans (HB5.out.mono B2.out.size)
  have hs2 := hsz2.out
  rw [← HCA.out]
  refine ⟨A5, c5, rfl, ⟨HOK5.out, HRD5.out.turn (fun b hb => ⟨by omega, ?_⟩) (fun b o hb => ?_)⟩, ?_⟩
  · have := (p5w_gb w5 q2 (.int .i64 t'.kind) (.string (S t'.mod)) (.string (S t'.name)) (.slice A5 t'.args.length c5) (.int .i64 t'.var)).size
    exact Nat.lt_of_lt_of_le hb.2 this
  · have h1 := (p5w_gb w5 q2 (.int .i64 t'.kind) (.string (S t'.mod)) (.string (S t'.name)) (.slice A5 t'.args.length c5) (.int .i64 t'.var))
    exact World.cell?_of_block (h1.block b hb.2 (fun e => by have := Option.some.inj e; omega))
  · exact bel5 hB5 (by omega) _ _ _ _ _

end Go.Proofs.YtplnfepdikbpfaaGreatDoor
