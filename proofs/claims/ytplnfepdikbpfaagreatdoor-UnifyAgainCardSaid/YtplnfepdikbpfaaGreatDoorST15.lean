/- The walk of the reference's CutBinds. Condition: the slice of pairs reads; at most 30000 pairs and parts. The walks of the reference's find and bound. Condition: the pairs read, and rise. What it is that pairs are solved, plain: each pair for itself, then what it leans on. No program in sight. No condition. -/
import Derived.Test.YtplnfepdikbpfaaGreatDoorPW
import Derived.Test.YtplnfepdikbpfaaGreatDoorST14
namespace Go.Proofs.YtplnfepdikbpfaaGreatDoor
open Go.RowKit
open Go.Proofs.YtplnfepdikbpfaaGreatDoorW.PrintLast
set_option linter.unusedVariables false
set_option linter.unusedSimpArgs false
attribute [local go_sem ↓] Go.wp_at_zero Go.wp_at_succ

/-- A copy of pairs that is not large. -/
def cutBd : List (Int × Ty) → Nat → Int → List (Int × Ty)
  | [], _, _ => []
  | _ :: _, 0, _ => []
  | x :: xs, m + 1, left => if 0 < left then (x.1, (cutT x.2 left 1).1) :: cutBd xs m (cutT x.2 left 1).2 else []
theorem cutBd_stop {xs : List (Int × Ty)} {m : Nat} {left : Int} (h : xs = [] ∨ m = 0 ∨ left ≤ 0) : cutBd xs m left = [] := by
  cases xs with
  | nil => rw [cutBd]
  | cons x xs =>
    cases m with
    | zero => rw [cutBd]
    | succ m => rw [cutBd, if_neg (by rcases h with h | h | h; cases h; cases h; omega)]

theorem cells_blk {W : World} {g : Nat} {c : Array Value} {T : TypeId} (h : W.heap[g]? = some (.cells c T (0, 0))) (j : Nat) (u : Value) (hu : c.toList[j]? = some u) : W.cell? ⟨g, j, none⟩ = some u := by
  simp [World.cell?, h]
  rw [← hu, Array.getElem?_toList]
theorem bd_step {ops : Array Oper} {o : Oper} {a : Act} {K : Act → World → Prop} {Q : Exit → Act → World → Prop} {E : Prop} {W : World} (ok : Nat → Prop) (base : Nat) (hgd : o.guard = none) (s x : Operand)
    (ho : o.op = .call { callee := .builtin .append, args := #[s, x], argTypes := #[25, 25] })
    (v : Value) (bs : List (Int × Ty)) (n0 : Int) (t : Ty) (A : Option Addr) (c : Nat) (hs : a.eval s = v) (g : Nat) (hx : a.eval x = .slice (some ⟨g, 0, none⟩) 1 1) (hc : ∀ j u, (encB (n0, t, A, c))[j]? = some u → W.cell? ⟨g, j, none⟩ = some u)
    (HO : OwnBd ok W base v bs) (HT : Ok1 t ∧ RdL (fun b => ok b ∧ b < W.heap.size ∧ v.ownBlock ≠ some b) W (.slice A t.args.length c) t.args) (hbase : base ≤ W.heap.size) (hl : bs.length ≤ 1000000000)
    (h : ∀ v1 w1, OwnBd ok w1 base v1 (bs ++ [(n0, t)]) → W.grownBy w1 v.ownBlock → K (a.put o.dst v1) w1) : if Region.wanted o (yielded ops a.tmps) = true then Oper.wp Tryz.prog o a W K Q else E := by
  obtain ⟨i0, hi, hzz⟩ := Option.map_eq_some_iff.1 infoBd
  simp only [Prod.mk.injEq] at hzz
  obtain ⟨hz0, hz1, hz2⟩ := hzz
  obtain ⟨L, hL, h1, h2⟩ := HO
  have hLl : L.length = bs.length := by rw [← hL]; simp
  refine step_append_at W hgd s x 25 ho base 52 i0 _ 6 80 Tryz.underlying25 hi hz0 hz1 hz2 rfl (by decide) v L.length (bdCells L) hs h1 ⟨g, 0, none⟩ 1 1 (encB (n0, t, A, c)) hx rfl
    (fun j u hj => by
      have ha : (⟨g, 0, none⟩ : Addr).add j = ⟨g, j, none⟩ := by unfold Addr.add; split <;> simp_all
      rw [ha]; exact hc j u hj) (by intro u hu; simp [encB] at hu; rcases hu with rfl | rfl | rfl | rfl | rfl | rfl <;> rfl) (by simp only [maxLen]; omega) (by omega) hbase ?_
  intro v1 w1 hown hgW hat
  have hnew : ∀ b, b < W.heap.size → v.ownBlock ≠ some b → v1.ownBlock ≠ some b := by
    intro b hb hne
    rcases hat with e | e
    · rw [e]; exact hne
    · rw [e]; intro e2; simp at e2; omega
  refine h v1 w1 ⟨L ++ [(n0, t, A, c)], by simp [hL, bdOf], ?_, ?_⟩ hgW
  · rw [bdCells_append, List.length_append]
    exact hown
  · intro y hy
    rcases List.mem_append.1 hy with hy | hy
    · obtain ⟨g1, g2⟩ := h2 y hy
      exact ⟨g1, g2.turn (fun b hb => ⟨hb.1, Nat.lt_of_lt_of_le hb.2.1 hgW.size, hnew b hb.2.1 hb.2.2⟩) fun b o hb => World.cell?_of_block (hgW.block b hb.2.1 (Ne.symm hb.2.2))⟩
    · obtain rfl := List.mem_singleton.1 hy
      exact ⟨HT.1, HT.2.turn (fun b hb => ⟨hb.1, Nat.lt_of_lt_of_le hb.2.1 hgW.size, hnew b hb.2.1 hb.2.2⟩) fun b o hb => World.cell?_of_block (hgW.block b hb.2.1 (Ne.symm hb.2.2))⟩

/-- What holds at the head of CutBinds' loop. -/
structure CutBIn (w : World) (L : List (Int × Ty)) (m : Nat) (parts : Int) (wr : World) (v : Value) (left : Int) (i : Nat) (acc : List (Int × Ty)) : Prop where
  own : OwnBd (fun b => w.heap.size ≤ b) wr w.heap.size v acc
  len : acc.length = i
  le : i ≤ L.length ∧ i ≤ m ∧ 0 ≤ left ∧ left ≤ 30000
  eq : cutBd L m parts = acc ++ cutBd (L.drop i) (m - i) left
  b : Below w.heap.size w wr

set_option maxRecDepth 100000 in
set_option maxHeartbeats 16000000 in
theorem RCutBinds_calls (L : List (Int × Ty)) (v : Value) (w : World) (m : Nat) (parts : Int) (hv : RdBw w v L) (hm : m ≤ 30000) (hp0 : 0 ≤ parts) (hp1 : parts ≤ 30000) :
    Calls Tryz.prog 26 #[v, .int .i64 (m : Int), .int .i64 parts] w fun e w' => ∃ v', e = .returned v' ∧ OwnBd (fun b => w.heap.size ≤ b) w' w.heap.size v' (cutBd L m parts) ∧ Below w.heap.size w w' := by
  obtain ⟨A, c, rfl, hll, -⟩ := id hv
  have HV := Lib.hid hv
  clear hv
  go_enter Tryz.func26, Tryz.ntmps26
  go_wp2_with fail
  go_loopw [7, 8, 9] (fun v lf iv wr => ∃ (left : Int) (i : Nat) (acc : List (Int × Ty)), lf = .int .i64 left ∧ iv = .int .i64 (i : Int) ∧ Hid (CutBIn w L m parts wr v left i acc)) (fun _ _ iv _ => L.length - (intOf iv).toNat)
  case atStart => exact ⟨parts, 0, [], rfl, rfl, Lib.hid ⟨OwnBd.nil _ _ _, rfl, ⟨Nat.zero_le _, Nat.zero_le _, hp0, hp1⟩, by simp, Below.refl _ _⟩⟩
  case round =>
    obtain ⟨left, i, acc, rfl, rfl, hI⟩ := hrel
    obtain ⟨A0, c0, hv0, -⟩ := hI.out.own.length
    subst hv0
    obtain ⟨hi1, hi2, hl0, hl1⟩ := hI.out.le
    have hstop : (L.drop i = [] ∨ m - i = 0 ∨ left ≤ 0) → acc = cutBd L m parts := fun h => by rw [hI.out.eq, cutBd_stop h, List.append_nil]
    have HSTOP := Lib.hid hstop
    clear hstop
    have fin : acc = cutBd L m parts → ∃ v', Ending.returned (.slice A0 acc.length c0) = .returned v' ∧ OwnBd (fun b => w.heap.size ≤ b) wr w.heap.size v' (cutBd L m parts) ∧ Below w.heap.size w wr := fun h => ⟨_, rfl, h ▸ hI.out.own, hI.out.b⟩
    have FIN := Lib.hid fin
    clear fin
    by_cases h1 : i < L.length
    · have t1 : (i : Int) < (L.length : Int) := by omega
      by_cases h2 : i < m
      · have t2 : (i : Int) < (m : Int) := by omega
        by_cases h3 : 0 < left
        · have t3 : decide (left > 0) = true := decide_eq_true h3
          obtain ⟨x, hx⟩ : ∃ x, L[i]? = some x := ⟨L[i], List.getElem?_eq_getElem h1⟩
          obtain ⟨n0, t0⟩ := x
          have hrw : RdBw wr (.slice A L.length c) L := HV.out.below hI.out.b
          obtain ⟨-, hxx⟩ := hrw.at_
          obtain ⟨b, off, rfl, hbl, hc⟩ := hxx (by omega)
          obtain ⟨A2, c2, g0, g1, g2, g3, g4, g5, g6, g7⟩ := hc i (n0, t0) hx
          simp only at g0 g1 g2 g3 g4 g5 g6 g7
          have hcall := cut_calls t0 _ wr left 1 ⟨g7, A2, c2, rfl, g6⟩ (by omega) hl1 (by omega) (by omega)
          unfold tyV at hcall
          have hdr : L.drop i = (n0, t0) :: L.drop (i + 1) := by
            obtain ⟨h4, h5⟩ := List.getElem?_eq_some_iff.1 hx
            rw [List.drop_eq_getElem_cons h4, h5]
          have HEQ := Lib.hid (show cutBd L m parts = acc ++ ((n0, (cutT t0 left 1).1) :: cutBd (L.drop (i + 1)) (m - (i + 1)) (cutT t0 left 1).2) by
            rw [hI.out.eq, hdr, show m - i = (m - (i + 1)) + 1 by omega, cutBd, if_pos h3])
          have hcb := cutT_b t0 left 1 (by omega)
          obtain ⟨t, ht⟩ : ∃ t, t = (cutT t0 left 1).1 := ⟨_, rfl⟩
          obtain ⟨rest, hrest⟩ : ∃ z, z = (cutT t0 left 1).2 := ⟨_, rfl⟩
          have hb0 : cutT t0 left 1 = (t, rest) := by rw [ht, hrest]
          rw [← hrest] at hcb
          rw [hb0] at hcall
          have HEQ := Lib.hid (show cutBd L m parts = acc ++ ((n0, t) :: cutBd (L.drop (i + 1)) (m - (i + 1)) rest) by rw [ht, hrest]; exact HEQ.out)
          have hlen := hI.out.len
          have HCB := Lib.hid hcb
          have HLE := Lib.hid (show i + 1 ≤ L.length ∧ i + 1 ≤ m from ⟨h1, h2⟩)
          have hacc : acc.length ≤ 1000000000 := by omega
          clear hdr ht hrest hb0 hcb hlen
          have i0 : (0 : Int) ≤ (i : Int) := by omega
          have HG0 := Lib.hid g0
          clear hxx hc hrw hx g6 g7 h1 h2 h3
          go_wp2_with fail
          refine hcall.mono ?_
          rintro e w2 ⟨A1, c1, rfl, ⟨hok, hrd⟩, hb⟩
          simp only at hok hrd ⊢
          unfold tyV
          obtain ⟨w3, hw3⟩ : ∃ w3, w3 = w2.alloc (.cells #[.int .i64 t.kind, .string (S t.mod), .string (S t.name), .slice A1 t.args.length c1, .int .i64 t.var] 24) := ⟨_, rfl⟩
          obtain ⟨q10, hq10⟩ : ∃ q, q = w2.heap.size := ⟨_, rfl⟩
          have C3 := Lib.hid (show Below wr.heap.size wr w3 by rw [hw3]; exact bel_alloc hb _)
          have B3 := Lib.hid (show Below w.heap.size w w3 from hI.out.b.trans (C3.out.mono hI.out.b.size))
          have BK := Lib.hid (show w3.heap[q10]? = some (.cells #[.int .i64 t.kind, .string (S t.mod), .string (S t.name), .slice A1 t.args.length c1, .int .i64 t.var] 24 (0, 0)) by rw [hw3, hq10]; exact (MapKept.heap_alloc w2 _).1)
          have HO3 := Lib.hid (hI.out.own.called C3.out)
          have hs3 := B3.out.size
          have hsw := hI.out.b.size
          have hs23 : w2.heap.size ≤ w3.heap.size := by rw [hw3]; simp
          have HT3 := Lib.hid (show Ok1 t ∧ RdL (fun b => w.heap.size ≤ b ∧ b < w3.heap.size ∧ (Value.slice A0 acc.length c0).ownBlock ≠ some b) w3 (.slice A1 t.args.length c1) t.args from
            ⟨hok, hrd.turn (fun b h => ⟨by omega, by omega, fun e => by have := (hI.out.own.lt b e).2; omega⟩) (fun b o h => by rw [hw3]; exact (bel_alloc (Below.refl w2.heap.size w2) _).cell (p := ⟨b, o, none⟩) h.2)⟩)
          have KX := Lib.hid (show ∀ X, Below w3.heap.size w3 X → X.cell? ⟨b, off + i * 6, none⟩ = some (.int .i64 n0) ∧ X.cell? ⟨q10, 0, none⟩ = some (.int .i64 t.kind) ∧ X.cell? ⟨q10, 1, none⟩ = some (.string (S t.mod)) ∧ X.cell? ⟨q10, 2, none⟩ = some (.string (S t.name)) ∧ X.cell? ⟨q10, 3, none⟩ = some (.slice A1 t.args.length c1) ∧ X.cell? ⟨q10, 4, none⟩ = some (.int .i64 t.var) from fun X hX => by
            obtain ⟨a0, a1, a2, a3, a4, -⟩ := five_cells BK.out
            have la := lt_of_block BK.out
            have ca : ∀ o, X.cell? ⟨q10, o, none⟩ = w3.cell? ⟨q10, o, none⟩ := fun o => hX.cell (p := ⟨q10, o, none⟩) la
            refine ⟨?_, (ca 0).trans a0, (ca 1).trans a1, (ca 2).trans a2, (ca 3).trans a3, (ca 4).trans a4⟩
            rw [hX.cell (p := ⟨b, off + i * 6, none⟩) (Nat.lt_of_lt_of_le hbl C3.out.size), C3.out.cell (p := ⟨b, off + i * 6, none⟩) hbl]
            exact HG0.out)
          clear hcall hok hrd hb g0 g1 g2 g3 g4 g5
          go_wp2_with fail
          rw [← hw3, ← hq10]
          clear hw3 hq10 hs23
          refine start_ (n := 11) (S := fun w' => w'.cell? ⟨b, off + i * 6, none⟩ = some (.int .i64 n0) ∧ w'.cell? ⟨q10, 0, none⟩ = some (.int .i64 t.kind) ∧ w'.cell? ⟨q10, 1, none⟩ = some (.string (S t.mod)) ∧ w'.cell? ⟨q10, 2, none⟩ = some (.string (S t.name)) ∧ w'.cell? ⟨q10, 3, none⟩ = some (.slice A1 t.args.length c1) ∧ w'.cell? ⟨q10, 4, none⟩ = some (.int .i64 t.var)) (ds := [9]) (bs 11 0) (by kernel_rfl) rfl rfl ⟨(KX.out _ (belD14 _ _)).1, (KX.out _ (belD14 _ _)).2.1, (KX.out _ (belD14 _ _)).2.2.1, (KX.out _ (belD14 _ _)).2.2.2.1, (KX.out _ (belD14 _ _)).2.2.2.2.1, (KX.out _ (belD14 _ _)).2.2.2.2.2⟩ (fun hHeld => ?_)
          refine pu 0 38 (bs 11 1) ?_
          refine pu 1 39 (bs 11 3) ?_
          refine pu 2 40 (bs 11 7) ?_
          refine pu 3 41 (bs 11 15) ?_
          refine pu 4 42 (bs 11 31) ?_
          refine tk 5 43 (bs 11 63) hHeld ?_
          refine tk 6 44 (bs 11 127) hHeld ?_
          refine pu 7 45 (bs 11 255) ?_
          refine one_ (i := 8) (N := some 46) (bs 11 511) rfl rfl (by kernel_rfl) (by decide) (fun K hK => ?_)
          refine value_ (w1 := ?_) (v := ?_) (by rfl) rfl ?_ ?_
          rotate_left 2
          · go_simp
            constructor
            · rfl
            · rfl
          refine hK.out _ _ ⟨(KX.out _ (bel_drew (bel_alloc (Below.refl _ _) _))).1, (KX.out _ (bel_drew (bel_alloc (Below.refl _ _) _))).2.1, (KX.out _ (bel_drew (bel_alloc (Below.refl _ _) _))).2.2.1, (KX.out _ (bel_drew (bel_alloc (Below.refl _ _) _))).2.2.2.1, (KX.out _ (bel_drew (bel_alloc (Below.refl _ _) _))).2.2.2.2.1, (KX.out _ (bel_drew (bel_alloc (Below.refl _ _) _))).2.2.2.2.2⟩ (fun hHeld => ?_)
          clear hK K
          refine norm_ (a' := ?_) ?_ ?_
          rotate_left
          · show Act.put _ (some 46) _ = _; simp only [Act.put, List.setIfInBounds_toArray, List.set_cons_zero, List.set_cons_succ, i64_w, i32_w]; rfl
          refine last_ (i := 9) (N := some 47) (bs 11 1023) rfl rfl (by kernel_rfl) (by decide) (fun K hK => ?_)
          have hW : OwnBd (fun b => w.heap.size ≤ b) (w3.alloc (.cells #[.int .i64 n0, .int .i64 t.kind, .string (S t.mod), .string (S t.name), .slice A1 t.args.length c1, .int .i64 t.var] 52)).drew w.heap.size (.slice A0 acc.length c0) acc := HO3.out.called (bel_drew (bel_alloc (Below.refl _ _) _))
          refine bd_step (fun b => w.heap.size ≤ b) w.heap.size rfl (.tmp 38) (.tmp 46) rfl _ acc n0 t A1 c1 rfl w3.heap.size rfl (fun j u hj => cells_blk (W := (w3.alloc (.cells #[.int .i64 n0, .int .i64 t.kind, .string (S t.mod), .string (S t.name), .slice A1 t.args.length c1, .int .i64 t.var] 52)).drew) (MapKept.heap_alloc w3 (.cells #[.int .i64 n0, .int .i64 t.kind, .string (S t.mod), .string (S t.name), .slice A1 t.args.length c1, .int .i64 t.var] 52)).1 j u hj) hW ⟨HT3.out.1, HT3.out.2.turn (fun b h => ⟨h.1, by have := h.2.1; simp [drew_size]; omega, h.2.2⟩) (fun b o h => (bel_drew (bel_alloc (Below.refl w3.heap.size w3) (.cells #[.int .i64 n0, .int .i64 t.kind, .string (S t.mod), .string (S t.name), .slice A1 t.args.length c1, .int .i64 t.var] 52))).cell (p := ⟨b, o, none⟩) h.2.1)⟩ (by simp [drew_size]; omega) (by omega) ?_
          intro v5 w5 hown5 hg5
          have HO5 := Lib.hid hown5; have HG5 := Lib.hid hg5
          clear hown5 hg5 hW
          refine hK.out _ _ ?_
          clear hK K
          refine norm_ (a' := ?_) ?_ ?_
          rotate_left
          · show Act.put _ (some 47) _ = _; simp only [Act.put, List.setIfInBounds_toArray, List.set_cons_zero, List.set_cons_succ, i64_w, i32_w]; rfl
          refine pu 10 7 (bs 11 2047) ?_
          refine done_ (by kernel_rfl) ?_
          clear hHeld
          go_wp2
          go_roundw
          case rel =>
            refine ⟨rest, i + 1, acc ++ [(n0, t)], by first | rfl | go_num, by go_num, Lib.hid ⟨HO5.out, ?_, ⟨HLE.out.1, HLE.out.2, HCB.out.1, by have := HCB.out.2; omega⟩, by rw [HEQ.out]; simp, ?_⟩⟩
            · simp [hI.out.len]
            · exact (B3.out.trans ((bel_drew (bel_alloc (Below.refl w3.heap.size w3) _)).mono B3.out.size)).grown HG5.out (by simp [drew_size]; omega) (fun z e => (HO3.out.lt z e).1)
          case measure => simp [intOf]; have := HLE.out; omega
        · have t3 : decide (left > 0) = false := decide_eq_false h3
          have HP := Lib.hid (FIN.out (HSTOP.out (.inr (.inr (by omega)))))
          clear h1 h2 h3
          go_wp2
          go_ret
          exact HP.out
      · have t2 : ¬ ((i : Int) < (m : Int)) := by omega
        have HP := Lib.hid (FIN.out (HSTOP.out (.inr (.inl (by omega)))))
        clear h1 h2
        go_wp2
        go_ret
        exact HP.out
    · have t1 : ¬ ((i : Int) < (L.length : Int)) := by omega
      have HP := Lib.hid (FIN.out (HSTOP.out (.inl (List.drop_eq_nil_of_le (by omega)))))
      clear h1
      go_wp2
      go_ret
      exact HP.out

end Go.Proofs.YtplnfepdikbpfaaGreatDoor

namespace Go.Proofs.YtplnfepdikbpfaaGreatDoor
open Go.RowKit
set_option linter.unusedVariables false
set_option linter.unusedSimpArgs false
attribute [local go_sem ↓] Go.wp_at_zero Go.wp_at_succ

/-- The variable of pair i. -/
def keyB (L : List (Int × Ty)) (i : Nat) : Int := (L.getD i default).1
/-- The pairs rise. -/
def Rising (L : List (Int × Ty)) : Prop := ∀ i j, i < j → j < L.length → keyB L i < keyB L j
/-- The index of a variable's pair, or -1. -/
def FindIs (L : List (Int × Ty)) (v z : Int) : Prop := (∃ i : Nat, z = (i : Int) ∧ i < L.length ∧ keyB L i = v) ∨ (z = -1 ∧ ∀ i, i < L.length → keyB L i ≠ v)

set_option maxRecDepth 100000 in
set_option maxHeartbeats 8000000 in
theorem rfind_calls (L : List (Int × Ty)) (sv : Value) (v : Int) (w : World) (hv : RdBw w sv L) (hr : Rising L) (hl : L.length ≤ 1000000) :
    Calls Tryz.prog 111 #[sv, .int .i64 v] w fun e w' => (∃ z, e = .returned (.int .i64 z) ∧ FindIs L v z) ∧ w' = w := by
  obtain ⟨A, c, rfl, hll, -⟩ := id hv
  have HC := Lib.hid (show ∀ i, i < L.length → ∃ b off, A = some ⟨b, off, none⟩ ∧ w.cell? ⟨b, off + i * 6, none⟩ = some (.int .i64 (keyB L i)) from fun i hi => by
    obtain ⟨-, hxx⟩ := hv.at_
    obtain ⟨b, off, rfl, hbl, hc⟩ := hxx (by omega)
    obtain ⟨A2, c2, g0, -⟩ := hc i L[i] (List.getElem?_eq_getElem hi)
    refine ⟨b, off, rfl, ?_⟩
    rw [g0]
    simp [keyB, List.getD_eq_getElem?_getD, List.getElem?_eq_getElem hi])
  have HR := Lib.hid hr
  clear hv hr
  go_enter Tryz.func111, Tryz.ntmps111
  go_wp2_with fail
  go_loopw [5, 6] (fun lo hi wr => ∃ (a b : Nat), lo = .int .i64 (a : Int) ∧ hi = .int .i64 (b : Int) ∧ a ≤ b ∧ b ≤ L.length ∧ Hid ((∀ i, i < a → keyB L i < v) ∧ ∀ i, b ≤ i → i < L.length → ¬ keyB L i < v) ∧ wr = w) (fun lo hi _ => (intOf hi).toNat - (intOf lo).toNat)
  case atStart => exact ⟨0, L.length, rfl, rfl, Nat.zero_le _, Nat.le_refl _, Lib.hid ⟨fun i h => absurd h (by omega), fun i h1 h2 => by omega⟩, rfl⟩
  case round =>
    obtain ⟨a, b, rfl, rfl, hab, hbl, hI, rfl⟩ := hrel
    by_cases hlt : a < b
    · have t1 : (a : Int) < (b : Int) := by omega
      have s0 : (0 : Int) ≤ (a : Int) + (b : Int) := by omega
      obtain ⟨m, hm⟩ : ∃ m : Nat, m = (a + b) / 2 := ⟨_, rfl⟩
      have hmi : ((a : Int) + (b : Int)) / 2 = (m : Int) := by omega
      have hm1 : a ≤ m ∧ m < b := by omega
      obtain ⟨bb, off, hA, hc⟩ := HC.out m (by omega)
      subst hA
      obtain ⟨z, hz⟩ : ∃ z, z = keyB L m := ⟨_, rfl⟩
      rw [← hz] at hc
      have m0 : (0 : Int) ≤ (m : Int) := by omega
      have m1 : (m : Int) < (L.length : Int) := by omega
      by_cases hzv : z < v
      · have t2 : decide (z < v) = true := decide_eq_true hzv
        have HI2 := Lib.hid (show (∀ i, i < m + 1 → keyB L i < v) ∧ ∀ i, b ≤ i → i < L.length → ¬ keyB L i < v from ⟨fun i hi => by
          by_cases he : i = m
          · rw [he, ← hz]; exact hzv
          · have := HR.out i m (by omega) (by omega); omega, hI.out.2⟩)
        have HM := Lib.hid hm1
        clear hm hz hzv hI hm1 hlt
        go_wp2
        go_roundw
        case rel => exact ⟨m + 1, b, by go_num, rfl, by have := HM.out; omega, hbl, HI2, trivial⟩
        case measure => simp [intOf]; have := HM.out; omega
      · have t2 : decide (z < v) = false := decide_eq_false hzv
        have HI2 := Lib.hid (show (∀ i, i < a → keyB L i < v) ∧ ∀ i, m ≤ i → i < L.length → ¬ keyB L i < v from ⟨hI.out.1, fun i h1 h2 => by
          by_cases he : i = m
          · rw [he, ← hz]; exact hzv
          · have := HR.out m i (by omega) h2; omega⟩)
        have HM := Lib.hid hm1
        clear hm hz hzv hI hm1 hlt
        go_wp2
        go_roundw
        case rel => exact ⟨a, m, rfl, (by rw [hmi]), by have := HM.out; omega, by have := HM.out; omega, HI2, trivial⟩
        case measure => simp [intOf]; have := HM.out; omega
    · obtain rfl : a = b := by omega
      have t1 : ¬ ((a : Int) < (a : Int)) := by omega
      have a0 : (0 : Int) ≤ (a : Int) := by omega
      by_cases ha : a < L.length
      · have t2 : (a : Int) < (L.length : Int) := by omega
        obtain ⟨bb, off, hA, hc⟩ := HC.out a ha
        subst hA
        obtain ⟨z, hz⟩ : ∃ z, z = keyB L a := ⟨_, rfl⟩
        rw [← hz] at hc
        by_cases hzv : z = v
        · have t3 : (z == v) = true := by simpa using hzv
          have HP := Lib.hid (show FindIs L v (a : Int) from .inl ⟨a, rfl, ha, by rw [← hz]; exact hzv⟩)
          clear hz hzv hlt ha
          go_wp2
          go_ret
          exact ⟨⟨_, rfl, HP.out⟩, rfl⟩
        · have t3 : (z == v) = false := by simpa using hzv
          have HP := Lib.hid (show FindIs L v (-1) from .inr ⟨rfl, fun i hi e => by
            by_cases h1 : i < a
            · have := hI.out.1 i h1; omega
            · by_cases h2 : i = a
              · rw [h2, ← hz] at e; exact hzv e
              · have h3 := HR.out a i (by omega) hi
                have h4 := hI.out.2 a (Nat.le_refl _) ha
                omega⟩)
          clear hz hzv hlt ha
          go_wp2
          go_ret
          exact ⟨⟨_, rfl, HP.out⟩, rfl⟩
      · have t2 : ¬ ((a : Int) < (L.length : Int)) := by omega
        have HP := Lib.hid (show FindIs L v (-1) from .inr ⟨rfl, fun i hi e => by
          have := hI.out.1 i (by omega); omega⟩)
        clear hlt ha
        go_wp2
        go_ret
        exact ⟨⟨_, rfl, HP.out⟩, rfl⟩

/-- Is a variable one of the pairs'? -/
def hasB (L : List (Int × Ty)) (v : Int) : Bool := L.any fun x => x.1 == v
theorem find_has {L : List (Int × Ty)} {v z : Int} (h : FindIs L v z) : decide (z ≥ 0) = hasB L v := by
  rcases h with ⟨i, rfl, hi, e⟩ | ⟨rfl, hn⟩
  · rw [decide_eq_true (by omega)]
    symm
    refine List.any_eq_true.2 ⟨L[i], List.getElem_mem hi, ?_⟩
    rw [keyB] at e
    simp only [List.getD_eq_getElem?_getD, List.getElem?_eq_getElem hi, Option.getD_some] at e
    simpa using e
  · rw [decide_eq_false (by omega)]
    symm
    refine List.any_eq_false.2 fun x hx => ?_
    obtain ⟨i, hi, rfl⟩ := List.getElem_of_mem hx
    have := hn i hi
    rw [keyB] at this
    simp only [List.getD_eq_getElem?_getD, List.getElem?_eq_getElem hi, Option.getD_some] at this
    simpa using this
mutual
/-- Has a variable of a type a pair? -/
def bndT (L : List (Int × Ty)) : Ty → Bool
  | .mk k m n xs v => if k = 6 then hasB L v else bndL L xs
def bndL (L : List (Int × Ty)) : List Ty → Bool
  | [] => false
  | a :: xs => bndT L a || bndL L xs
end
theorem bndT_mk (L : List (Int × Ty)) (k : Int) (m n : List UInt8) (xs : List Ty) (v : Int) : bndT L (.mk k m n xs v) = if k = 6 then hasB L v else bndL L xs := by rw [bndT]
theorem bndL_drop (L : List (Int × Ty)) {xs : List Ty} {j : Nat} (h : j < xs.length) : bndL L (xs.drop j) = (bndT L (tyAt xs j) || bndL L (xs.drop (j + 1))) := by
  rw [List.drop_eq_getElem_cons h, tyAt_get h, bndL]

def RBoundAt (L : List (Int × Ty)) (t : Ty) : Prop := ∀ (v sv : Value) (w : World), RdV w v t → RdBw w sv L → Calls Tryz.prog 80 #[v, sv] w fun e w' => e = .returned (.bool (bndT L t)) ∧ Below w.heap.size w w'
set_option maxRecDepth 100000 in
set_option maxHeartbeats 8000000 in
theorem rbound_calls (L : List (Int × Ty)) (hr : Rising L) (hl : L.length ≤ 1000000) (t : Ty) : RBoundAt L t := by
  induction t using Ty.ind with
  | h k m n xs v ih =>
    intro va sv w hva hsv
    obtain ⟨h1, A, c, rfl, hrd⟩ := hva
    simp only [tyV, Ty.kind, Ty.mod, Ty.name, Ty.args, Ty.var] at hrd ⊢
    have hxl : xs.length ≤ 9223372036854775000 := by obtain ⟨_, _, _, h, _⟩ := hrd; exact h.1
    obtain ⟨w1, hw1⟩ : ∃ w1, w1 = w.alloc (.cells #[.int .i64 k, .string (S m), .string (S n), .slice A xs.length c, .int .i64 v] 24) := ⟨_, rfl⟩
    obtain ⟨q2, hq2⟩ : ∃ q2, q2 = w.heap.size := ⟨_, rfl⟩
    have B1 := Lib.hid (show Below w.heap.size w w1 by rw [hw1]; exact bel_alloc (Below.refl _ _) _)
    have blk2 := Lib.hid (show w1.heap[q2]? = some (.cells #[.int .i64 k, .string (S m), .string (S n), .slice A xs.length c, .int .i64 v] 24 (0, 0)) by rw [hw1, hq2]; exact (MapKept.heap_alloc w _).1)
    have HR := Lib.hid hrd
    have HSV := Lib.hid hsv
    have IH := Lib.hid ih
    obtain ⟨R, hR⟩ : ∃ R, R = bndT L (.mk k m n xs v) := ⟨_, rfl⟩
    rw [← hR]
    rw [bndT_mk] at hR
    clear hrd h1 ih hsv
    by_cases hk : k = 6
    · subst hk
      rw [if_pos rfl] at hR
      have HO := Lib.hid hR
      clear hR
      have hfc := rfind_calls L sv v w1 (HSV.out.below B1.out) hr hl
      go_enter Tryz.func80, Tryz.ntmps80
      go_wp2_with fail
      rw [← hw1, ← hq2]
      clear hw1 hq2
      refine hfc.mono ?_
      rintro e w2 ⟨⟨z, rfl, hz⟩, hw2⟩
      have hw3 := hw2.symm
      subst hw3
      have HZ := Lib.hid (find_has hz)
      clear hz hw2 hfc
      go_wp2
      go_ret
      exact ⟨by rw [HO.out, ← HZ.out]; rfl, B1.out⟩
    · rw [if_neg hk] at hR
      have f6 : (k == 6) = false := by simpa using hk
      have HO := Lib.hid hR
      obtain ⟨b0, b1, b2, b3, b4, -⟩ := five_cells blk2.out
      clear hR hk
      go_enter Tryz.func80, Tryz.ntmps80
      go_wp2_with fail
      rw [← hw1, ← hq2]
      clear hw1 hq2
      go_loopw [5] (fun i wr => ∃ (j : Nat), j ≤ xs.length ∧ i = .int .i64 (j : Int) ∧ Hid (bndL L xs = bndL L (xs.drop j)) ∧ Hid (Below w1.heap.size w1 wr)) (fun i _ => xs.length - (intOf i).toNat)
      case atStart => exact ⟨0, Nat.zero_le _, rfl, Lib.hid rfl, Lib.hid (Below.refl _ _)⟩
      case round =>
        obtain ⟨j, hj, rfl, hE, hB⟩ := hrel
        have c3 : wr.cell? ⟨q2, 3, none⟩ = some (.slice A xs.length c) := (hB.out.cell (p := ⟨q2, 3, none⟩) (lt_of_block blk2.out)).trans (five_cells blk2.out).2.2.2.1
        have BW := Lib.hid (show Below w.heap.size w wr from B1.out.trans (hB.out.mono B1.out.size))
        by_cases hlt : j < xs.length
        · have hrw : RdL (fun b => b < wr.heap.size) wr (.slice A xs.length c) xs := HR.out.below BW.out
          obtain ⟨-, -, hxx⟩ := hrw.at_
          have hx2 := hxx (Nat.lt_of_le_of_lt (Nat.zero_le _) hlt)
          obtain ⟨e1, off, rfl, he0, hc⟩ := hx2
          obtain ⟨A2, c2, g1, g2, g3, g4, g5, g6, g7⟩ := hc j hlt
          obtain ⟨tt, htt⟩ : ∃ tt, tt = tyAt xs j := ⟨_, rfl⟩
          rw [← htt] at g1 g2 g3 g4 g5 g6 g7
          have HE2 := Lib.hid (show bndL L xs = (bndT L tt || bndL L (xs.drop (j + 1))) by rw [hE.out, bndL_drop L hlt, ← htt])
          have hcall := IH.out tt (by rw [htt]; exact tyAt_mem hlt) _ sv wr ⟨g7, A2, c2, rfl, g6⟩ (HSV.out.below BW.out)
          unfold tyV at hcall
          have i0 : (0 : Int) ≤ (j : Int) := by omega
          have i1 : (j : Int) < (xs.length : Int) := by omega
          clear hxx hc htt hrw g6 g7 hE
          go_wp2_with fail
          refine hcall.mono ?_
          rintro e w6 ⟨rfl, hb⟩
          have B6 := Lib.hid (show Below w1.heap.size w1 w6 from hB.out.trans (hb.mono hB.out.size))
          have C6 := Lib.hid (show Below w.heap.size w w6 from BW.out.trans (hb.mono BW.out.size))
          clear hb hcall g1 g2 g3 g4 g5 c3
          cases hok : bndT L tt with
          | false =>
            have HE3 := Lib.hid (show bndL L xs = bndL L (xs.drop (j + 1)) by rw [HE2.out, hok]; rfl)
            clear hok
            go_wp2
            go_roundw
            case rel => exact ⟨j + 1, by omega, by go_num, HE3, B6⟩
            case measure => simp [intOf]; omega
          | true =>
            have HE3 := Lib.hid (show bndL L xs = true by rw [HE2.out, hok]; rfl)
            clear hok
            go_wp2
            go_ret
            exact ⟨by rw [HO.out, HE3.out]; rfl, C6.out⟩
        · obtain rfl : j = xs.length := by omega
          have lt1 : ¬ ((xs.length : Int) < (xs.length : Int)) := by omega
          have HE3 := Lib.hid (show bndL L xs = false by rw [hE.out, List.drop_length, bndL])
          clear hlt hE
          go_wp2
          go_ret
          exact ⟨by rw [HO.out, HE3.out]; rfl, BW.out⟩

end Go.Proofs.YtplnfepdikbpfaaGreatDoor

namespace Go.Proofs.YtplnfepdikbpfaaGreatDoor
open Go.RowKit
set_option linter.unusedVariables false
set_option linter.unusedSimpArgs false

def typB (L : List (Int × Ty)) (i : Nat) : Ty := (L.getD i default).2
/-- Pair i for itself: its variable may be, is greater than the one before, its type is formed. -/
def headS (L : List (Int × Ty)) (i : Nat) : Bool := decide (0 ≤ keyB L i) && decide (keyB L i ≤ 1048576) && (decide (i = 0) || decide (keyB L (i - 1) < keyB L i)) && formedB (typB L i)
/-- Pair i's type leans on no pair, and is no variable that is as great. -/
def tailS (L : List (Int × Ty)) (i : Nat) : Bool := !bndT L (typB L i) && !((typB L i).kind == 6 && decide (keyB L i ≤ (typB L i).var))
def upTo (f : Nat → Bool) (n : Nat) : Bool := (List.range n).all f
theorem upTo_zero (f : Nat → Bool) : upTo f 0 = true := rfl
theorem upTo_succ (f : Nat → Bool) (n : Nat) : upTo f (n + 1) = (upTo f n && f n) := by unfold upTo; rw [List.range_succ, List.all_append]; simp
theorem upTo_at {f : Nat → Bool} {n : Nat} (h : upTo f n = true) (i : Nat) (hi : i < n) : f i = true := List.all_eq_true.1 h i (List.mem_range.2 hi)
theorem upTo_false {f : Nat → Bool} {n i : Nat} (hi : i < n) (h : f i = false) : upTo f n = false := by
  cases hu : upTo f n with
  | false => rfl
  | true => rw [upTo_at hu i hi] at h; cases h
/-- Solved. -/
def solvedB (L : List (Int × Ty)) : Bool := upTo (headS L) L.length && upTo (tailS L) L.length
theorem rising_step {L : List (Int × Ty)} {n : Nat} (h : upTo (headS L) n = true) : ∀ i j, i < j → j < n → keyB L i < keyB L j := by
  intro i j hij
  induction j with
  | zero => omega
  | succ j ih =>
    intro hj
    have h1 := upTo_at h (j + 1) hj
    unfold headS at h1
    simp only [Bool.and_eq_true, Bool.or_eq_true, decide_eq_true_eq] at h1
    have h2 := h1.1.2.resolve_left (by omega)
    rw [Nat.add_sub_cancel] at h2
    by_cases he : i = j
    · rw [he]; exact h2
    · have := ih (by omega) (by omega)
      omega
theorem rising_of {L : List (Int × Ty)} (h : upTo (headS L) L.length = true) : Rising L := fun i j h1 h2 => rising_step h i j h1 h2
theorem solved_formed {L : List (Int × Ty)} (h : solvedB L = true) : Rising L ∧ (∀ i, i < L.length → formedB (typB L i) = true ∧ 0 ≤ keyB L i ∧ keyB L i ≤ 1048576) ∧ ∀ i, i < L.length → bndT L (typB L i) = false ∧ ¬ ((typB L i).kind = 6 ∧ keyB L i ≤ (typB L i).var) := by
  unfold solvedB at h
  rw [Bool.and_eq_true] at h
  refine ⟨rising_of h.1, fun i hi => ?_, fun i hi => ?_⟩
  · have h1 := upTo_at h.1 i hi
    unfold headS at h1
    simp only [Bool.and_eq_true, decide_eq_true_eq] at h1
    exact ⟨h1.2, h1.1.1.1, h1.1.1.2⟩
  · have h1 := upTo_at h.2 i hi
    unfold tailS at h1
    simp only [Bool.and_eq_true, Bool.not_eq_true', Bool.and_eq_false_iff, beq_eq_false_iff_ne, decide_eq_false_iff_not] at h1
    exact ⟨h1.1, fun h2 => by rcases h1.2 with h3 | h3; exact h3 h2.1; exact h3 h2.2⟩

end Go.Proofs.YtplnfepdikbpfaaGreatDoor
