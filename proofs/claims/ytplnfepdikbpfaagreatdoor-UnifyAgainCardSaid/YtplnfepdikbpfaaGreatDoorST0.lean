/- The unify package's Store in memory: what it says. No condition. The walks of the Store's top and of NewStore. Condition: the Store lies in memory. -/
import Derived.Test.YtplnfepdikbpfaaGreatDoorUF
namespace Go.Proofs.YtplnfepdikbpfaaGreatDoor
open Go.RowKit
open Go.Maps (Keyed)
set_option linter.unusedVariables false
set_option linter.unusedSimpArgs false

/-- 'up' leads to the part that stands for a class. -/
def Fst (up : List Nat) (s : Sto) : Prop := up.length = s.n ∧ ∃ rk : Nat → Nat, ∀ i, i < s.n → up.getD i i < s.n ∧ (up.getD i i = i → s.repAt i = i) ∧ (up.getD i i ≠ i → s.repAt i = s.repAt (up.getD i i) ∧ rk (up.getD i i) < rk i)
theorem Fst.root {up : List Nat} {s : Sto} (h : Fst up s) {i : Nat} (hi : i < s.n) : up.getD (s.repAt i) (s.repAt i) = s.repAt i := by
  obtain ⟨-, rk, h⟩ := h
  have : ∀ (n i : Nat), rk i ≤ n → i < s.n → up.getD (s.repAt i) (s.repAt i) = s.repAt i := by
    intro n
    induction n with
    | zero =>
      intro i hr hi
      obtain ⟨h1, h2, h3⟩ := h i hi
      by_cases e : up.getD i i = i
      · rw [h2 e]; exact e
      · have := (h3 e).2; omega
    | succ n ih =>
      intro i hr hi
      obtain ⟨h1, h2, h3⟩ := h i hi
      by_cases e : up.getD i i = i
      · rw [h2 e]; exact e
      · rw [(h3 e).1]; exact ih _ (by have := (h3 e).2; omega) h1
  exact this (rk i) i (Nat.le_refl _) hi
theorem Fst.self {up : List Nat} {s : Sto} (h : Fst up s) {i : Nat} (hi : i < s.n) (hr : s.repAt i = i) : up.getD i i = i := by
  have := h.root hi
  rwa [hr] at this
theorem Fst.empty : Fst [] Sto.empty := ⟨rfl, fun _ => 0, fun i h => absurd h (by simp [Sto.empty, Sto.n])⟩
theorem Fst.push {up : List Nat} {s : Sto} (h : Fst up s) (hs : s.rep.length = s.n) (d : Nd) (l so : Int) : Fst (up ++ [s.n]) (s.push d l so) := by
  obtain ⟨h0, rk, h⟩ := h
  refine ⟨by simp [Sto.n_push, h0], rk, fun i hi => ?_⟩
  rw [Sto.n_push] at hi ⊢
  rw [getD_snoc, h0, Sto.repAt_push hs _ _ _ i (by omega)]
  by_cases e : i = s.n
  · subst e
    rw [if_neg (by omega), if_pos rfl, if_pos rfl]
    exact ⟨by omega, fun _ => rfl, fun e => absurd rfl e⟩
  · obtain ⟨h1, h2, h3⟩ := h i (by omega)
    rw [if_pos (by omega), if_neg e, Sto.repAt_push hs _ _ _ _ (by omega), if_neg (by omega)]
    exact ⟨by omega, h2, h3⟩
theorem Fst.merge {up : List Nat} {s : Sto} (h : Fst up s) (hok : s.Ok) {a b : Nat} (ha : a < s.n) (hb : b < s.n) (hra : s.repAt a = a) (hrb : s.repAt b = b) (hab : a ≠ b) : Fst (up.set b a) (s.merge a b) := by
  have hua := h.self ha hra
  have hub := h.self hb hrb
  obtain ⟨h0, rk, h⟩ := h
  refine ⟨by simp [Sto.n_merge, h0], fun i => if s.repAt i = b then rk i + rk a + 1 else rk i, fun i hi => ?_⟩
  rw [Sto.n_merge] at hi ⊢
  rw [getD_set, h0, Sto.repAt_merge hok a b i hi]
  obtain ⟨h1, h2, h3⟩ := h i hi
  by_cases e : b = i
  · subst e
    rw [if_pos ⟨rfl, hb⟩, if_pos hrb, Sto.repAt_merge hok a b a ha, hra, if_neg hab]
    refine ⟨ha, fun e => absurd e hab, fun _ => ⟨rfl, ?_⟩⟩
    simp only [hra, hrb, if_neg hab, if_true]
    omega
  · rw [if_neg (fun x => e x.1)]
    refine ⟨h1, fun e2 => ?_, fun e2 => ?_⟩
    · rw [h2 e2, if_neg (Ne.symm e)]
    · obtain ⟨h4, h5⟩ := h3 e2
      rw [Sto.repAt_merge hok a b _ h1, ← h4]
      refine ⟨rfl, ?_⟩
      simp only [← h4]
      split <;> omega

/-- The cells of a part. -/
abbrev NdI := Nd × Option Addr × Nat
def ndCells (L : List NdI) : List Value := L.flatMap fun x => [.int .i64 x.1.kind, .string (S x.1.mod), .string (S x.1.name), .slice none 0 0, .int .i64 x.1.var, .slice x.2.1 x.1.kids.length x.2.2]
theorem ndCells_append (a b : List NdI) : ndCells (a ++ b) = ndCells a ++ ndCells b := by simp [ndCells]
theorem ndCells_length (L : List NdI) : (ndCells L).length = L.length * 6 := by
  induction L with
  | nil => rfl
  | cons t L ih => simp [ndCells] at ih ⊢; omega
theorem ndCells_at (L : List NdI) (k : Nat) (h : k < L.length) : ∀ j, j < 6 → (ndCells L)[k * 6 + j]? = [Value.int .i64 L[k].1.kind, .string (S L[k].1.mod), .string (S L[k].1.name), .slice none 0 0, .int .i64 L[k].1.var, .slice L[k].2.1 L[k].1.kids.length L[k].2.2][j]? := by
  induction L generalizing k with
  | nil => simp at h
  | cons x L ih =>
    intro j hj
    have e : ndCells (x :: L) = [Value.int .i64 x.1.kind, .string (S x.1.mod), .string (S x.1.name), .slice none 0 0, .int .i64 x.1.var, .slice x.2.1 x.1.kids.length x.2.2] ++ ndCells L := rfl
    cases k with
    | zero =>
      rw [e, List.getElem?_append_left (by simp; omega)]
      simp
    | succ k =>
      rw [e, List.getElem?_append_right (by simp; omega)]
      have := ih k (by simpa using h) j hj
      simp only [List.getElem_cons_succ]
      rw [← this]
      congr 1
      simp
      omega
/-- The cells of a trail. -/
abbrev Jn := Nat × Nat × Int × Int
def jnCells (L : List Jn) : List Value := L.flatMap fun x => [.int .i64 (x.1 : Int), .int .i64 (x.2.1 : Int), .int .i64 x.2.2.1, .int .i64 x.2.2.2]
theorem jnCells_append (a b : List Jn) : jnCells (a ++ b) = jnCells a ++ jnCells b := by simp [jnCells]
theorem jnCells_length (L : List Jn) : (jnCells L).length = L.length * 4 := by
  induction L with
  | nil => rfl
  | cons t L ih => simp [jnCells] at ih ⊢; omega

/-- The map tells the variables' parts. -/
def OfIs (D : DataW Unit) (s : Sto) : Prop := Maps.IsMap D ∧ ∀ v : Int, Maps.has D (.int .i64 v) = (s.ofAt v).isSome ∧ ∀ i, s.ofAt v = some i → ∀ z, D.atKey (.int .i64 v) z = .lit (.int .i64 (i : Int))

/-- The Store in memory; what its parts lean on lies in blocks that 'ok' names. -/
structure StoAt (w : World) (base p : Nat) (ok : Nat → Prop) (R : Rows) (s : Sto) : Prop where
  rows : RowsAt w base p R
  n : R.nn = s.n ∧ R.nu = s.n ∧ R.nl = s.n ∧ R.ns = s.n
  nd : ∃ L : List NdI, L.map (·.1) = s.nodes ∧ R.cn = ndCells L ∧ ∀ x ∈ L, x.1.mod.length ≤ 281474976710656 ∧ x.1.name.length ≤ 281474976710656 ∧ RdN (fun b => ok b ∧ ¬ R.own p b) w (.slice x.2.1 x.1.kids.length x.2.2) x.1.kids
  up : ∃ up : List Nat, R.cu = up.map (fun (i : Nat) => Value.int .i64 (i : Int)) ∧ Fst up s
  least : R.cl = s.least.map (Value.int .i64)
  solid : R.cs = s.solid.map (Value.int .i64)
  of : OfIs R.D s
  mm : R.mm ≤ s.n
  tr : ∃ tr : List Jn, R.ct = jnCells tr ∧ R.nt = tr.length ∧ R.nt + s.roots = s.n ∧ ∀ x ∈ tr, x.1 < s.n ∧ x.2.1 < s.n
  sok : s.Ok
  few : s.n ≤ 1000000000
  vals : ∀ i, i < s.n → -1 ≤ s.leastAt i ∧ s.leastAt i ≤ 1048576
  okl : ∀ b, ok b → b < w.heap.size

/-- Other blocks are written: the Store stays, where they are none of its own and none that its parts lean on. -/
theorem StoAt.turn {w W : World} {base p : Nat} {ok : Nat → Prop} {R : Rows} {s : Sto} {O : Nat → Prop} (h : StoAt w base p ok R s) (hT : Tn O w W) (hn : ∀ k, O k → k < w.heap.size → ¬ ok k ∧ ¬ R.own p k) : StoAt W base p ok R s := by
  refine ⟨h.rows.turn hT fun k hk hO => (hn k hO (h.rows.lt k hk).2).2 hk, h.n, ?_, h.up, h.least, h.solid, h.of, h.mm, h.tr, h.sok, h.few, h.vals, fun b hb => Nat.lt_of_lt_of_le (h.okl b hb) hT.size⟩
  obtain ⟨L, h1, h2, h3⟩ := h.nd
  refine ⟨L, h1, h2, fun x hx => ⟨(h3 x hx).1, (h3 x hx).2.1, (h3 x hx).2.2.turn (fun b hb => hb) fun b o hb => ?_⟩⟩
  have hbl := h.okl b hb.1
  exact hT.cell hbl (fun e => (hn b e hbl).1 hb.1) o
theorem StoAt.bel {w W : World} {base p : Nat} {ok : Nat → Prop} {R : Rows} {s : Sto} (h : StoAt w base p ok R s) (hb : Below w.heap.size w W) : StoAt W base p ok R s := h.turn (Tn.bel hb (fun _ => False)) (fun k e => e.elim)
theorem StoAt.alloc {w : World} {base p : Nat} {ok : Nat → Prop} {R : Rows} {s : Sto} (h : StoAt w base p ok R s) (o : Obj) : StoAt (w.alloc o) base p ok R s := h.bel (bel_alloc (Below.refl _ _) _)
theorem StoAt.lt {w : World} {base p : Nat} {ok : Nat → Prop} {R : Rows} {s : Sto} (h : StoAt w base p ok R s) : ∀ k, R.own p k → base ≤ k ∧ k < w.heap.size := h.rows.lt
theorem StoAt.weak {w : World} {base p : Nat} {ok ok' : Nat → Prop} {R : Rows} {s : Sto} (h : StoAt w base p ok R s) (hB : ∀ b, ok b → ok' b) (hw : ∀ b, ok' b → b < w.heap.size) : StoAt w base p ok' R s := by
  refine ⟨h.rows, h.n, ?_, h.up, h.least, h.solid, h.of, h.mm, h.tr, h.sok, h.few, h.vals, hw⟩
  obtain ⟨L, h1, h2, h3⟩ := h.nd
  exact ⟨L, h1, h2, fun x hx => ⟨(h3 x hx).1, (h3 x hx).2.1, (h3 x hx).2.2.turn (fun b hb => ⟨hB b hb.1, hb.2⟩) fun b o _ => rfl⟩⟩

/-- What the rows' cells are. -/
theorem StoAt.ups {w : World} {base p : Nat} {ok : Nat → Prop} {R : Rows} {s : Sto} (h : StoAt w base p ok R s) {i : Nat} (hi : i < s.n) : ∃ up g c, Fst up s ∧ R.vu = .slice (some ⟨g, 0, none⟩) s.n c ∧ s.n ≤ c ∧ (∀ j, j < s.n → w.cell? ⟨g, j, none⟩ = some (.int .i64 ((up.getD j j : Nat) : Int))) ∧ (∀ o, w.frozen? ⟨g, o, none⟩ = false) := by
  obtain ⟨up, h1, h2⟩ := h.up
  have hr := h.rows.ru
  rw [h.n.2.1] at hr
  obtain ⟨g, c, e, hc, -, -, hcell, hf⟩ := row_cells hr (by omega)
  refine ⟨up, g, c, h2, e, hc, fun j hj => hcell j _ ?_, hf⟩
  rw [h1]
  have : j < up.length := by rw [h2.1]; exact hj
  simp [List.getD_eq_getElem?_getD, List.getElem?_eq_getElem this]

end Go.Proofs.YtplnfepdikbpfaaGreatDoor

namespace Go.Proofs.YtplnfepdikbpfaaGreatDoor
open Go.RowKit
open Go.Maps (Keyed)
set_option linter.unusedVariables false
set_option linter.unusedSimpArgs false

set_option maxHeartbeats 1000000 in
theorem top_calls (w : World) (base p : Nat) (ok : Nat → Prop) (R : Rows) (s : Sto) (h : StoAt w base p ok R s) (i : Nat) (hi : i < s.n) :
    Calls Tryz.prog 85 #[.pointer (some ⟨p, 0, none⟩), .int .i64 (i : Int)] w fun e w' => e = .returned (.int .i64 (s.repAt i : Int)) ∧ w = w' := by
  obtain ⟨up, g, c, hF, e, hc, hcell, hf⟩ := h.ups hi
  have c1 := h.rows.cells.2.1
  rw [e] at c1
  have hfew := h.few
  obtain ⟨-, rk, hrk⟩ := hF
  have HC := Lib.hid hcell; have HK := Lib.hid hrk
  clear hcell hrk h hf e
  go_enter Tryz.func85, Tryz.ntmps85
  go_wp2
  go_loop [1] (fun v => ∃ j : Nat, j < s.n ∧ v = .int .i64 j ∧ Hid (s.repAt j = s.repAt i)) (fun v => rk (intOf v).toNat)
  case atStart => exact ⟨i, hi, rfl, Lib.hid rfl⟩
  case round =>
    obtain ⟨j, hj, rfl, hE⟩ := hrel
    have cj := HC.out j hj
    obtain ⟨h1, h2, h3⟩ := HK.out j hj
    have j0 : (0 : Int) ≤ (j : Int) := by omega
    have j1 : (j : Int) < (s.n : Int) := by omega
    by_cases e : up.getD j j = j
    · have HE := Lib.hid (h2 e)
      rw [e] at cj
      have k0 : ((j : Int) != (j : Int)) = false := by simp
      clear h1 h2 h3 e
      go_wp2
      go_ret
      have e1 : j = s.repAt i := HE.out.symm.trans hE.out
      exact ⟨congrArg (fun z : Nat => Ending.returned (.int .i64 (z : Int))) e1, rfl⟩
    · obtain ⟨h4, h5⟩ := h3 e
      obtain ⟨q, hq⟩ : ∃ q, q = up.getD j j := ⟨_, rfl⟩
      rw [← hq] at cj h4 h5 e h1
      have k0 : ((q : Int) != (j : Int)) = true := by rw [bne_iff_ne]; omega
      have H4 := Lib.hid h4; have H5 := Lib.hid h5; clear h4 h5 h2 h3 e hq
      go_wp2
      go_round
      case rel => exact ⟨q, h1, rfl, Lib.hid (H4.out ▸ hE.out)⟩
      case measure => simp only [intOf, Int.toNat_natCast]; exact H5.out

end Go.Proofs.YtplnfepdikbpfaaGreatDoor
