/- A slice of pairs of a variable and a type in a row of memory of the call's own, and how it grows; how such a slice reads. Condition: fewer than 1000000000. The walk of the reference's SameBinds. Condition: both slices read. -/
import Derived.Test.YtplnfepdikbpfaaGreatDoorST9
namespace Go.Proofs.YtplnfepdikbpfaaGreatDoor
open Go.RowKit
set_option linter.unusedVariables false
set_option linter.unusedSimpArgs false

/-- A pair with its type's Args' address and capacity. -/
abbrev BdI := Int × TyI
def encB (x : BdI) : List Value := [.int .i64 x.1, .int .i64 x.2.1.kind, .string (S x.2.1.mod), .string (S x.2.1.name), .slice x.2.2.1 x.2.1.args.length x.2.2.2, .int .i64 x.2.1.var]
def bdCells (L : List BdI) : List Value := L.flatMap encB
theorem bdCells_append (a b : List BdI) : bdCells (a ++ b) = bdCells a ++ bdCells b := by simp [bdCells]
theorem bdCells_length (L : List BdI) : (bdCells L).length = L.length * 6 := by
  induction L with
  | nil => rfl
  | cons t L ih => simp [bdCells, encB] at ih ⊢; omega
theorem bdCells_at (L : List BdI) (k : Nat) (h : k < L.length) : ∀ j, j < 6 → (bdCells L)[k * 6 + j]? = (encB L[k])[j]? := by
  induction L generalizing k with
  | nil => simp at h
  | cons x L ih =>
    intro j hj
    have e : bdCells (x :: L) = encB x ++ bdCells L := rfl
    have el : (encB x).length = 6 := rfl
    cases k with
    | zero =>
      rw [e, List.getElem?_append_left (by omega)]
      simp
    | succ k =>
      rw [e, List.getElem?_append_right (by omega)]
      have := ih k (by simpa using h) j hj
      simp only [List.getElem_cons_succ]
      rw [← this]
      congr 1
      omega
/-- What is told. -/
abbrev bdOf (x : BdI) : Int × Ty := (x.1, x.2.1)

/-- The slice has these pairs, in a row of memory of the call's own; what they lean on lies elsewhere, in blocks that 'ok' names. -/
def OwnBd (ok : Nat → Prop) (w : World) (base : Nat) (v : Value) (bs : List (Int × Ty)) : Prop :=
  ∃ L : List BdI, L.map bdOf = bs ∧ w.ownsRow base 52 6 v L.length (bdCells L) ∧ ∀ x ∈ L, Ok1 x.2.1 ∧ RdL (fun b => ok b ∧ b < w.heap.size ∧ v.ownBlock ≠ some b) w (.slice x.2.2.1 x.2.1.args.length x.2.2.2) x.2.1.args
theorem OwnBd.nil (ok : Nat → Prop) (w : World) (base : Nat) : OwnBd ok w base (.slice none 0 0) [] := ⟨[], rfl, ⟨rfl, .inl ⟨rfl, rfl⟩⟩, fun x hx => nomatch hx⟩
theorem OwnBd.turn {ok : Nat → Prop} {w W : World} {base : Nat} {v : Value} {bs : List (Int × Ty)} {O : Nat → Prop} (h : OwnBd ok w base v bs) (hT : Tn O w W) (hr : ∀ k, O k → k < w.heap.size → ¬ ok k ∧ v.ownBlock ≠ some k) : OwnBd ok W base v bs := by
  obtain ⟨L, rfl, h1, h2⟩ := h
  refine ⟨L, rfl, row_turn h1 hT fun k e hO => (hr k hO (h1.lt k e).2).2 e, fun x hx => ⟨(h2 x hx).1, (h2 x hx).2.turn (fun b hb => ⟨hb.1, Nat.lt_of_lt_of_le hb.2.1 hT.size, hb.2.2⟩) fun b o hb => ?_⟩⟩
  exact hT.cell hb.2.1 (fun e => (hr b e hb.2.1).1 hb.1) o
theorem OwnBd.called {ok : Nat → Prop} {w W : World} {base : Nat} {v : Value} {bs : List (Int × Ty)} (h : OwnBd ok w base v bs) (hb : Below w.heap.size w W) : OwnBd ok W base v bs :=
  h.turn (Tn.bel hb (fun _ => False)) (fun k e => e.elim)
theorem OwnBd.lt {ok : Nat → Prop} {w : World} {base : Nat} {v : Value} {bs : List (Int × Ty)} (h : OwnBd ok w base v bs) : ∀ k, v.ownBlock = some k → base ≤ k ∧ k < w.heap.size := by
  obtain ⟨L, rfl, h1, h2⟩ := h
  exact h1.lt
theorem OwnBd.length {ok : Nat → Prop} {w : World} {base : Nat} {v : Value} {bs : List (Int × Ty)} (h : OwnBd ok w base v bs) : ∃ A c, v = .slice A bs.length c ∧ bs.length ≤ c := by
  obtain ⟨L, rfl, h1, h2⟩ := h
  rcases h1.2 with ⟨rfl, h0⟩ | ⟨g, cap, cur, rfl, hb, hh, hc, _⟩
  · exact ⟨none, 0, by simp [h0], by simp [h0]⟩
  · exact ⟨some ⟨g, 0, none⟩, cap, by simp, by simpa using hc⟩

theorem infoBd : (Tryz.prog.info? 52).map (fun i => (i.zero, i.size, i.bytes)) = some (some (.agg #[.int .i64 0, .int .i64 0, .string ⟨#[]⟩, .string ⟨#[]⟩, .slice none 0 0, .int .i64 0]), 6, 80) := by kernel_rfl

theorem bd_append {ops : Array Oper} {rest : List Oper} {o : Oper} {a : Act} {Q : Exit → Act → World → Prop} {W : World} (ok : Nat → Prop) (base : Nat) (hgd : o.guard = none) (s x : Operand)
    (ho : o.op = .call { callee := .builtin .append, args := #[s, x], argTypes := #[25, 25] })
    (v : Value) (bs : List (Int × Ty)) (n0 : Int) (t : Ty) (A : Option Addr) (c : Nat) (hs : a.eval s = v) (n : Nat) (hx : a.eval x = .slice (some ⟨n, 0, none⟩) 1 1) (hn : n = W.heap.size)
    (HO : OwnBd ok W base v bs) (HT : Ok1 t ∧ RdL (fun b => ok b ∧ b < W.heap.size ∧ v.ownBlock ≠ some b) W (.slice A t.args.length c) t.args) (hbase : base ≤ W.heap.size) (hl : bs.length ≤ 1000000000)
    (h : ∀ v1 w1, OwnBd ok w1 base v1 (bs ++ [(n0, t)]) → W.grownBy w1 v.ownBlock → (v1.ownBlock = v.ownBlock ∨ ∃ g, W.heap.size ≤ g ∧ v1.ownBlock = some g) → wpList Tryz.prog ops Q rest (a.put o.dst v1) w1) :
    wpList Tryz.prog ops Q (o :: rest) a (W.alloc (.cells #[.int .i64 n0, .int .i64 t.kind, .string (S t.mod), .string (S t.name), .slice A t.args.length c, .int .i64 t.var] 52)) := by
  subst hn
  obtain ⟨i0, hi, hzz⟩ := Option.map_eq_some_iff.1 infoBd
  simp only [Prod.mk.injEq] at hzz
  obtain ⟨hz0, hz1, hz2⟩ := hzz
  obtain ⟨L, hL, h1, h2⟩ := HO
  have hLl : L.length = bs.length := by rw [← hL]; simp
  refine wpList_append_own_at (W.alloc (.cells #[.int .i64 n0, .int .i64 t.kind, .string (S t.mod), .string (S t.name), .slice A t.args.length c, .int .i64 t.var] 52)) hgd s x 25 ho base 52 i0 _ 6 80 Tryz.underlying25 hi hz0 hz1 hz2 rfl (by decide) v L.length (bdCells L) hs (World.ownsRow.alloc h1 _) ⟨W.heap.size, 0, none⟩ 1 1 (encB (n0, t, A, c)) hx rfl
    (fun j u hj => by rcases j with _ | _ | _ | _ | _ | _ | j <;> simp [encB] at hj <;> subst hj <;> simp [Addr.add]) (by intro u hu; simp [encB] at hu; rcases hu with rfl | rfl | rfl | rfl | rfl | rfl <;> rfl) (by simp only [maxLen]; omega) (by omega) (by simp; omega) ?_
  intro v1 w1 hown hg _ hat
  have hgW : W.grownBy w1 v.ownBlock := gb_trans (gb_alloc W _ _) hg
  have hnew : ∀ b, b < W.heap.size → v.ownBlock ≠ some b → v1.ownBlock ≠ some b := by
    intro b hb hne
    rcases hat with e | e
    · rw [e]; exact hne
    · rw [e]; intro e2; simp at e2; omega
  refine h v1 w1 ⟨L ++ [(n0, t, A, c)], by simp [hL, bdOf], ?_, ?_⟩ hgW ?_
  · rw [bdCells_append, List.length_append]
    exact hown
  · intro y hy
    rcases List.mem_append.1 hy with hy | hy
    · obtain ⟨g1, g2⟩ := h2 y hy
      exact ⟨g1, g2.turn (fun b hb => ⟨hb.1, Nat.lt_of_lt_of_le hb.2.1 hgW.size, hnew b hb.2.1 hb.2.2⟩) fun b o hb => World.cell?_of_block (hgW.block b hb.2.1 (Ne.symm hb.2.2))⟩
    · obtain rfl := List.mem_singleton.1 hy
      exact ⟨HT.1, HT.2.turn (fun b hb => ⟨hb.1, Nat.lt_of_lt_of_le hb.2.1 hgW.size, hnew b hb.2.1 hb.2.2⟩) fun b o hb => World.cell?_of_block (hgW.block b hb.2.1 (Ne.symm hb.2.2))⟩
  · rcases hat with e | e
    · exact .inl e
    · exact .inr ⟨_, by simp, e⟩

/-- A slice value reads as these pairs, in blocks that 'ok' names. -/
def RdB (ok : Nat → Prop) (w : World) (v : Value) (bs : List (Int × Ty)) : Prop :=
  ∃ A c, v = .slice A bs.length c ∧ (bs.length ≤ 9223372036854775000 ∧ bs.length ≤ c) ∧ (bs ≠ [] → ∃ b o, A = some ⟨b, o, none⟩ ∧ ok b ∧ ∀ (k : Nat) x, bs[k]? = some x → w.cell? ⟨b, o + k * 6, none⟩ = some (.int .i64 x.1) ∧ RdT ok w b (o + k * 6 + 1) x.2)
theorem RdB.nil (ok : Nat → Prop) (w : World) : RdB ok w (.slice none 0 0) [] := ⟨none, 0, rfl, by simp, fun h => absurd rfl h⟩
theorem RdB.turn {ok ok' : Nat → Prop} {w W : World} {v : Value} {bs : List (Int × Ty)} (h : RdB ok w v bs) (hk : ∀ b, ok b → ok' b) (hc : ∀ b o, ok b → W.cell? ⟨b, o, none⟩ = w.cell? ⟨b, o, none⟩) : RdB ok' W v bs := by
  obtain ⟨A, c, rfl, h6, h7⟩ := h
  refine ⟨A, c, rfl, h6, fun hne => ?_⟩
  obtain ⟨b', o', rfl, hok, hF⟩ := h7 hne
  exact ⟨b', o', rfl, hk _ hok, fun k x hx => ⟨(hc b' _ hok).trans (hF k x hx).1, RdT_turn hk hc _ _ _ (fun j => hc b' j hok) (hF k x hx).2⟩⟩
theorem OwnBd.read {ok : Nat → Prop} {w : World} {base : Nat} {v : Value} {bs : List (Int × Ty)} (h : OwnBd ok w base v bs) (hn : bs.length ≤ 9223372036854775000) (ok' : Nat → Prop) (hk : ∀ b, ok b → b < w.heap.size → ok' b) (ho : ∀ b, v.ownBlock = some b → ok' b) : RdB ok' w v bs := by
  obtain ⟨L, rfl, h1, h2⟩ := h
  rcases id h1.2 with ⟨rfl, h0⟩ | ⟨g, cap, cur, rfl, hb, hh, hc, _⟩
  · have : L = [] := List.eq_nil_of_length_eq_zero h0
    subst this
    exact RdB.nil _ _
  · refine ⟨some ⟨g, 0, none⟩, cap, by simp, ⟨hn, by simpa using hc⟩, fun _ => ⟨g, 0, rfl, ho g rfl, fun k x hx => ?_⟩⟩
    rw [List.getElem?_map] at hx
    obtain ⟨y, hy, rfl⟩ := Option.map_eq_some_iff.1 hx
    obtain ⟨hkL, rfl⟩ := List.getElem?_eq_some_iff.1 hy
    have hcell : ∀ j u, (bdCells L)[j]? = some u → w.cell? ⟨g, 0 + j, none⟩ = some u := fun j u hj => by
      have hc0 := World.ownsRow.cells h1 (g := g) rfl j u hj
      have ha : (⟨g, 0, none⟩ : Addr).add j = ⟨g, 0 + j, none⟩ := by unfold Addr.add; split <;> simp_all
      rwa [ha] at hc0
    have hx := h2 _ (List.getElem_mem hkL)
    have cc : ∀ j u, j < 6 → (encB L[k])[j]? = some u → w.cell? ⟨g, 0 + (k * 6 + j), none⟩ = some u := fun j u hj hu => hcell _ _ (by rw [bdCells_at L k hkL j hj]; exact hu)
    refine ⟨cc 0 _ (by omega) rfl, ?_⟩
    rw [RdT_def]
    have e : ∀ j, 0 + k * 6 + 1 + j = 0 + (k * 6 + (j + 1)) := fun j => by omega
    refine ⟨by have := cc 1 _ (by omega) rfl; rwa [← e 0] at this, by rw [e 1]; exact cc 2 _ (by omega) rfl, by rw [e 2]; exact cc 3 _ (by omega) rfl, hx.1, ⟨_, by rw [e 3]; exact cc 4 _ (by omega) rfl, hx.2.weak (fun b hb => hk b hb.1 hb.2.1)⟩, by rw [e 4]; exact cc 5 _ (by omega) rfl⟩

end Go.Proofs.YtplnfepdikbpfaaGreatDoor

namespace Go.Proofs.YtplnfepdikbpfaaGreatDoor
open Go.RowKit
set_option linter.unusedVariables false
set_option linter.unusedSimpArgs false

abbrev RdBw (w : World) (v : Value) (bs : List (Int × Ty)) : Prop := RdB (fun b => b < w.heap.size) w v bs
theorem RdB.below {w W : World} {v : Value} {bs : List (Int × Ty)} (h : RdBw w v bs) (hb : Below w.heap.size w W) : RdBw W v bs :=
  h.turn (fun b h => Nat.lt_of_lt_of_le h hb.size) fun b o h => hb.cell (p := ⟨b, o, none⟩) h
theorem RdB.at_ {w : World} {A : Option Addr} {n c : Nat} {bs : List (Int × Ty)} (h : RdBw w (.slice A n c) bs) : n = bs.length ∧ (0 < n → ∃ b off, A = some ⟨b, off, none⟩ ∧ b < w.heap.size ∧ ∀ (k : Nat) x, bs[k]? = some x →
    ∃ A' c', w.cell? ⟨b, off + k * 6, none⟩ = some (.int .i64 x.1) ∧ w.cell? ⟨b, off + k * 6 + 1, none⟩ = some (.int .i64 x.2.kind) ∧ w.cell? ⟨b, off + k * 6 + 1 + 1, none⟩ = some (.string (S x.2.mod)) ∧ w.cell? ⟨b, off + k * 6 + 1 + 2, none⟩ = some (.string (S x.2.name)) ∧
      w.cell? ⟨b, off + k * 6 + 1 + 3, none⟩ = some (.slice A' x.2.args.length c') ∧ w.cell? ⟨b, off + k * 6 + 1 + 4, none⟩ = some (.int .i64 x.2.var) ∧ Rd w (.slice A' x.2.args.length c') x.2.args ∧ Ok1 x.2) := by
  obtain ⟨A', c', he, hl, hh⟩ := h
  simp only [Value.slice.injEq] at he
  obtain ⟨rfl, rfl, rfl⟩ := he
  refine ⟨rfl, fun h0 => ?_⟩
  obtain ⟨b, o, rfl, hb, hF⟩ := hh (by intro e; rw [e] at h0; simp at h0)
  refine ⟨b, o, rfl, hb, fun k x hk => ?_⟩
  have := hF k x hk
  rw [RdT_def] at this
  obtain ⟨h0, h1, h2, h3, h4, ⟨sl, h5, h6⟩, h7⟩ := this
  obtain ⟨A', c', rfl, -, -⟩ := id h6
  exact ⟨A', c', h0, h1, h2, h3, h5, h7, h6, h4⟩
/-- The same pairs. -/
def sameBd : List (Int × Ty) → List (Int × Ty) → Bool
  | [], [] => true
  | x :: xs, y :: ys => x.1 == y.1 && sameT x.2 y.2 && sameBd xs ys
  | _, _ => false
theorem sameBd_iff : ∀ {xs ys : List (Int × Ty)}, sameBd xs ys = true ↔ xs = ys
  | [], [] => by simp [sameBd]
  | [], y :: ys => by simp [sameBd]
  | x :: xs, [] => by simp [sameBd]
  | (x, t) :: xs, (y, u) :: ys => by
    simp only [sameBd, Bool.and_eq_true, beq_iff_eq, sameT_eq, decide_eq_true_eq, sameBd_iff, List.cons.injEq, Prod.mk.injEq]

set_option maxRecDepth 100000 in
set_option maxHeartbeats 8000000 in
theorem SameBinds_calls (xs ys : List (Int × Ty)) (va vb : Value) (w : World) (hx : RdBw w va xs) (hy : RdBw w vb ys) :
    Calls Tryz.prog 21 #[va, vb] w fun e w' => e = .returned (.bool (sameBd xs ys)) ∧ Below w.heap.size w w' := by
  obtain ⟨A, c, rfl, ⟨hlb, -⟩, -⟩ := id hx
  obtain ⟨A', c', rfl, -, -⟩ := id hy
  have HX := Lib.hid hx; have HY := Lib.hid hy; clear hx hy
  by_cases hlen : xs.length = ys.length
  · have k5 : ((xs.length : Int) != ys.length) = false := by simp [hlen]
    have HL := Lib.hid hlen; clear hlen
    go_enter Tryz.func21, Tryz.ntmps21
    go_wp2_with fail
    go_loopw [5] (fun i wr => ∃ k : Nat, k ≤ xs.length ∧ i = .int .i64 k ∧ Hid (xs.take k = ys.take k) ∧ Below w.heap.size w wr) (fun i _ => xs.length - (intOf i).toNat)
    case atStart => exact ⟨0, Nat.zero_le _, rfl, Lib.hid (by simp), Below.refl _ _⟩
    case round =>
      obtain ⟨j, hj, rfl, hE, hb⟩ := hrel
      have hsz := hb.size
      by_cases hlt : j < xs.length
      · have hlt' : j < ys.length := by rw [← HL.out]; exact hlt
        obtain ⟨-, hxx⟩ := (HX.out.below hb).at_
        obtain ⟨-, hyy⟩ := (HY.out.below hb).at_
        obtain ⟨b1, off, rfl, hb0, hc⟩ := hxx (by omega)
        obtain ⟨b2, off', rfl, hb0', hc'⟩ := hyy (by omega)
        obtain ⟨x, hxj⟩ : ∃ x, xs[j]? = some x := ⟨_, List.getElem?_eq_getElem hlt⟩
        obtain ⟨y, hyj⟩ : ∃ y, ys[j]? = some y := ⟨_, List.getElem?_eq_getElem hlt'⟩
        obtain ⟨A2, c2, g0, g1, g2, g3, g4, g5, g6, g7⟩ := hc j x hxj
        obtain ⟨A2', c2', g0', g1', g2', g3', g4', g5', g6', g7'⟩ := hc' j y hyj
        have HJ := Lib.hid (And.intro hxj hyj)
        clear hc hc' hxx hyy hxj hyj
        obtain ⟨p1, hp1⟩ : ∃ p1, p1 = off + j * 6 + 1 := ⟨_, rfl⟩
        obtain ⟨p2, hp2⟩ : ∃ p2, p2 = off' + j * 6 + 1 := ⟨_, rfl⟩
        go_wp2_with fail
        have i0 : (0 : Int) ≤ (j : Int) := by omega
        have i1 : (j : Int) < (xs.length : Int) := by omega
        have i2 : (j : Int) < (ys.length : Int) := by omega
        have r0 := cell_regrown g0
        have r1 := cell_regrown g1
        have r2 := cell_regrown g2
        have r3 := cell_regrown g3
        have r4 := cell_regrown g4
        have r5 := cell_regrown g5
        have r6 := cell_regrown g0'
        have r7 := cell_regrown g1'
        have r8 := cell_regrown g2'
        have r9 := cell_regrown g3'
        have r10 := cell_regrown g4'
        have r11 := cell_regrown g5'
        clear g0 g1 g2 g3 g4 g5 g0' g1' g2' g3' g4' g5'
        have cS : ∀ d os, Calls Tryz.prog 24 #[tyV x.2 (.slice A2 x.2.args.length c2), tyV y.2 (.slice A2' y.2.args.length c2')] (Sort.grow (redrawn wr d) os) fun e w'' => e = .returned (.bool (sameT x.2 y.2)) ∧ ∃ p : Regrown, w'' = Sort.grow (redrawn wr p.d) p.os :=
          fun d os => Calls.regrown_of (RSame_calls x.2 y.2 _ _ _ ⟨g7, A2, c2, rfl, g6.below (below_regrown wr d os)⟩ ⟨g7', A2', c2', rfl, g6'.below (below_regrown wr d os)⟩)
        by_cases hv : x.1 = y.1
        · have q1 : (x.1 != y.1) = false := by simp [hv]
          have HV := Lib.hid hv; clear hv
          refine wp_region_quiet_below (by first | assumption | kernel_rfl) (by kernel_rfl) ?_
          repeat (go_big_quiet_step (first | (go_at_call 24; exact cS _ _)))
          refine wpQuiet_nil ?_
          intro _ hw'
          obtain ⟨⟨dq, osq⟩, hw''⟩ := hw'
          subst hw''
          have hbr := bel_then hb (below_regrown wr dq osq)
          clear cS r0 r1 r2 r3 r4 r5 r6 r7 r8 r9 r10 r11 g6 g6'
          cases hs : sameT x.2 y.2 with
          | true =>
            have HS := Lib.hid hs; clear hs
            have hxy : xs.take (j + 1) = ys.take (j + 1) := by
              have e1 : x = y := Prod.ext HV.out (by have := HS.out; rwa [sameT_eq, decide_eq_true_eq] at this)
              rw [List.take_add_one, List.take_add_one, hE.out, HJ.out.1, HJ.out.2, e1]
            have HXY := Lib.hid hxy; clear hxy
            go_wp2
            go_roundw
            case rel => exact ⟨j + 1, by omega, by go_num, HXY, hbr⟩
            case measure => simp [intOf]; omega
          | false =>
            have HS := Lib.hid hs; clear hs
            have hne : sameBd xs ys = false := by
              cases hq : sameBd xs ys with
              | false => rfl
              | true =>
                rw [sameBd_iff] at hq
                have h1 := HJ.out.1
                rw [hq, HJ.out.2] at h1
                have := HS.out
                rw [Option.some.inj h1, sameT_eq] at this
                simp at this
            have HNE := Lib.hid hne; clear hne
            go_wp2
            go_ret
            exact ⟨ret_bool HNE.out.symm, hbr⟩
        · have q1 : (x.1 != y.1) = true := by simp [hv]
          have hne : sameBd xs ys = false := by
            cases hq : sameBd xs ys with
            | false => rfl
            | true =>
              rw [sameBd_iff] at hq
              have h1 := HJ.out.1
              rw [hq, HJ.out.2] at h1
              exact absurd (congrArg Prod.fst (Option.some.inj h1)).symm hv
          have HNE := Lib.hid hne; clear hne hv
          refine wp_region_quiet_below (by first | assumption | kernel_rfl) (by kernel_rfl) ?_
          repeat (go_big_quiet_step (first | (go_at_call 24; exact cS _ _)))
          refine wpQuiet_nil ?_
          intro _ hw'
          obtain ⟨⟨dq, osq⟩, hw''⟩ := hw'
          subst hw''
          have hbr := bel_then hb (below_regrown wr dq osq)
          clear cS r0 r1 r2 r3 r4 r5 r6 r7 r8 r9 r10 r11 g6 g6'
          go_wp2
          go_ret
          exact ⟨ret_bool HNE.out.symm, hbr⟩
      · have hkk : j = xs.length := by omega
        subst hkk
        have hq : sameBd xs ys = true := by
          rw [sameBd_iff]
          have := hE.out
          rw [List.take_length, HL.out, List.take_length] at this
          exact this
        have HQ := Lib.hid hq; clear hq
        go_wp2
        go_ret
        exact ⟨ret_bool HQ.out.symm, hb⟩
  · have k5 : ((xs.length : Int) != ys.length) = true := by rw [bne_iff_ne]; omega
    have hq : sameBd xs ys = false := by
      cases hq : sameBd xs ys with
      | false => rfl
      | true => rw [sameBd_iff] at hq; exact absurd (congrArg List.length hq) hlen
    have HQ := Lib.hid hq; clear hq hlen
    go_enter Tryz.func21, Tryz.ntmps21
    go_wp2_with fail
    go_ret
    exact ⟨ret_bool HQ.out.symm, Below.refl _ _⟩

end Go.Proofs.YtplnfepdikbpfaaGreatDoor
