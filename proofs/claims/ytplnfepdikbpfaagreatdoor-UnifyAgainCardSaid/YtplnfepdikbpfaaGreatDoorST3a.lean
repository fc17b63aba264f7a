/- The Store in memory: a part is added; the variables' map is asked. No condition. Two slices grow in one statement: what the first append leaves, in whatever order the second one's element is laid. No condition. Two slices grow in one statement: the Store's rows behind it. No condition. -/
import Derived.Test.YtplnfepdikbpfaaGreatDoorST2
namespace Go.Proofs.YtplnfepdikbpfaaGreatDoor
open Go.RowKit
open Go.Maps (Keyed)
set_option linter.unusedVariables false
set_option linter.unusedSimpArgs false

theorem zeroI (w : World) : (zeroValue 3).run Tryz.prog w = .ok (.int .i64 0) w := by kernel_rfl
theorem intKeys : Keyed Tryz.prog 3 := Maps.int_keyed Tryz.underlying3
theorem wf_i64 {v : Int} (h0 : -1 ≤ v) (h1 : v ≤ 1000000000) : (Lit.int .i64 v).wf = true := WalkArith.wf_i64 (by omega)

theorem lit_inj {a b : Int} {D : DataW Unit} (h : D = .lit (.int .i64 a)) (h' : D = .lit (.int .i64 b)) : a = b := by
  have := h.symm.trans h'
  simpa using this
/-- The variables' map is asked. -/
theorem RowsAt.look {w : World} {base p : Nat} {R : Rows} {s : Sto} (h : RowsAt w base p R) (hD : OfIs R.D s) (v : Int) (h0 : -1 ≤ v) (h1 : v ≤ 1000000000) :
    ∃ c : Int, (∀ W, RowsAt W base p R → (Instr.lookup 79 (.map (some R.m)) (.int .i64 v) true).run Tryz.prog W = .ok (.tuple #[.int .i64 c, .bool (s.ofAt v).isSome]) W) ∧ (∀ i, s.ofAt v = some i → c = (i : Int)) := by
  have hkey := Maps.keyOf_int_mk Tryz.underlying3 (wf_i64 h0 h1)
  have one : ∀ W, RowsAt W base p R → ∃ c : Int, (Instr.lookup 79 (.map (some R.m)) (.int .i64 v) true).run Tryz.prog W = .ok (.tuple #[.int .i64 c, .bool (s.ofAt v).isSome]) W ∧ R.D.atKey (.int .i64 v) (.lit (.int .i64 0)) = .lit (.int .i64 c) := fun W hW => by
    obtain ⟨x, ps, hrun, hx⟩ := hW.rm.look_ok intKeys Tryz.underlying79 (zeroI W) (plainElem_int Tryz.underlying3 (by decide)) hkey
    obtain ⟨c, rfl, hc, -⟩ := plainElem_int_inv Tryz.underlying3 hx
    exact ⟨c, by rw [hrun, (hD.2 v).1], congrArg Prod.fst hc⟩
  obtain ⟨c, -, hc⟩ := one w h
  refine ⟨c, fun W hW => ?_, fun i hi => ?_⟩
  · obtain ⟨c', h2, h3⟩ := one W hW
    rw [lit_inj hc h3]; exact h2
  · exact lit_inj hc ((hD.2 v).2 i hi (.lit (.int .i64 0)))

theorem ofAt_name (s : Sto) (v u : Int) (i : Nat) (hv : s.ofAt v = none) : (s.name v i).ofAt u = if u = v then some i else s.ofAt u := by
  unfold Sto.ofAt at hv ⊢
  simp only [Sto.name, List.find?_append]
  have hv' : s.of.find? (fun x => x.1 == v) = none := by simpa using hv
  by_cases e : u = v
  · subst e
    rw [if_pos rfl, hv']
    simp
  · rw [if_neg e]
    cases s.of.find? (fun x => x.1 == u) with
    | some x => simp
    | none => simp [Ne.symm e]
theorem OfIs.name {D : DataW Unit} {s : Sto} (h : OfIs D s) (v : Int) (i : Nat) (hv : s.ofAt v = none) : OfIs (D.put (.int .i64 v) (.lit (.int .i64 (i : Int)))) (s.name v i) := by
  have hk : ∀ u : Int, WideAt.IsKeyLit (.int .i64 u) := fun u => trivial
  refine ⟨h.1.put _ _, fun u => ?_⟩
  rw [ofAt_name s v u i hv]
  by_cases e : u = v
  · subst e
    rw [if_pos rfl]
    exact ⟨Maps.has_put_same h.1 (hk u) _, fun j hj z => by rw [Maps.atKey_put_same h.1 (hk u)]; injection hj with hj; rw [hj]⟩
  · rw [if_neg e]
    have hne : (Lit.int .i64 u) ≠ .int .i64 v := fun e2 => by injection e2 with e2; exact e (by assumption)
    exact ⟨(Maps.has_put_other hne _).trans (h.2 u).1, fun j hj z => (Maps.atKey_put_other hne _ z).trans ((h.2 u).2 j hj z)⟩

/-- A part is added. -/
theorem StoAt.pushed {w W : World} {base p : Nat} {ok ok' : Nat → Prop} {R R3 : Rows} {s s' : Sto} (h : StoAt w base p ok R s) (hk1 : ∀ b, ok b → ok' b) (hk2 : ∀ b, ok' b → b < W.heap.size) (hR : RowsAt W base p R3) (hT : Tn (R.own p) w W) (hO : ∀ k, R3.own p k → R.own p k ∨ w.heap.size ≤ k)
    (d : Nd) (l so : Int) (A : Option Addr) (c : Nat) (e1 : s'.nodes = s.nodes ++ [d]) (e2 : s'.rep = s.rep ++ [s.n]) (e3 : s'.least = s.least ++ [l]) (e4 : s'.solid = s.solid ++ [so]) (hok : s'.Ok) (hl : -1 ≤ l ∧ l ≤ 1048576) (hfew : s.n + 1 ≤ 1000000000)
    (hn : R3.nn = s.n + 1 ∧ R3.nu = s.n + 1 ∧ R3.nl = s.n + 1 ∧ R3.ns = s.n + 1) (hcn : R3.cn = R.cn ++ [.int .i64 d.kind, .string (S d.mod), .string (S d.name), .slice none 0 0, .int .i64 d.var, .slice A d.kids.length c])
    (hmod : d.mod.length ≤ 281474976710656) (hnm : d.name.length ≤ 281474976710656) (hkids : RdN (fun b => ok' b ∧ ¬ R3.own p b) W (.slice A d.kids.length c) d.kids)
    (hcu : R3.cu = R.cu ++ [.int .i64 (s.n : Int)]) (hcl : R3.cl = R.cl ++ [.int .i64 l]) (hcs : R3.cs = R.cs ++ [.int .i64 so]) (hof : OfIs R3.D s') (hmm : R3.mm ≤ s.n + 1) (hct : R3.ct = R.ct ∧ R3.nt = R.nt) :
    StoAt W base p ok' R3 s' := by
  have en : s'.n = s.n + 1 := by unfold Sto.n; rw [e1]; simp
  have erep : ∀ i, s'.repAt i = (s.push d l so).repAt i := fun i => by unfold Sto.repAt; rw [e2]; rfl
  have eroots : s'.roots = s.roots + 1 := by
    rw [← Sto.roots_push h.sok d l so]
    unfold Sto.roots
    rw [en, Sto.n_push]
    exact List.countP_congr fun i hi => by rw [erep]
  obtain ⟨L, h1, h2, h3⟩ := h.nd
  obtain ⟨up, hu1, hu2⟩ := h.up
  obtain ⟨tr, ht1, ht2, ht3, ht4⟩ := h.tr
  refine ⟨hR, by rw [en]; exact hn, ⟨L ++ [(d, A, c)], by rw [e1, List.map_append, h1]; rfl, by rw [hcn, h2, ndCells_append]; rfl, fun x hx => ?_⟩, ⟨up ++ [s.n], by rw [hcu, hu1]; simp, ?_⟩, by rw [hcl, h.least, e3]; simp, by rw [hcs, h.solid, e4]; simp, hof, by rw [en]; exact hmm,
    ⟨tr, by rw [hct.1]; exact ht1, by rw [hct.2]; exact ht2, by rw [hct.2, en, eroots]; omega, fun x hx => by have := ht4 x hx; omega⟩, hok, by omega, fun i hi => ?_, hk2⟩
  · rcases List.mem_append.1 hx with hx | hx
    · obtain ⟨g1, g2, g3⟩ := h3 x hx
      refine ⟨g1, g2, g3.turn (fun b hb => ⟨hk1 b hb.1, fun e => ?_⟩) fun b o hb => hT.cell (h.okl b hb.1) hb.2 o⟩
      have := h.okl b hb.1
      rcases hO b e with e | e
      · exact hb.2 e
      · omega
    · rw [List.mem_singleton.1 hx]; exact ⟨hmod, hnm, hkids⟩
  · have := hu2.push h.sok.rep d l so
    obtain ⟨k1, rk, k2⟩ := this
    rw [Sto.n_push] at k1 k2
    refine ⟨by rw [en]; exact k1, rk, fun i hi => ?_⟩
    rw [en] at hi ⊢
    rw [erep, erep]
    exact k2 i hi
  · rw [en] at hi
    have e5 : s'.leastAt i = (s.push d l so).leastAt i := by unfold Sto.leastAt; rw [e3]; rfl
    rw [e5, Sto.leastAt_push h.sok.least _ _ _ i (by omega)]
    split
    · exact hl
    · exact h.vals i (by omega)

end Go.Proofs.YtplnfepdikbpfaaGreatDoor

namespace Go.Proofs.YtplnfepdikbpfaaGreatDoor
open Go.RowKit
set_option linter.unusedVariables false
set_option linter.unusedSimpArgs false

theorem drew_size (w : World) : w.drew.heap.size = w.heap.size := rfl
/-- Behind the first append: its slice, the block of its element, the block of the second one's element. -/
structure FA (w : World) (base : Nat) (T : TypeId) (sz : Nat) (v : Value) (n : Nat) (xs : List Value) (b : Value) (s : Value × Nat × Nat) (w' : World) : Prop where
  own : w'.ownsRow base T sz s.1 n xs
  tn : Tn (fun k => v.ownBlock = some k) w w'
  blk : w'.heap[s.2.2]? = some (.cells #[b] 3 (0, 0))
  le : w.heap.size ≤ s.2.2
  at_ : ∀ k, s.1.ownBlock = some k → v.ownBlock = some k ∨ w.heap.size ≤ k
  ne : s.1.ownBlock ≠ some s.2.2

theorem FA.one {w w8 : World} {base : Nat} {T : TypeId} {sz : Nat} {v v1 : Value} {n : Nat} {xs : List Value} {b : Value} {oA : Obj} (hv : ∀ k, v.ownBlock = some k → k < w.heap.size) (hown : w8.ownsRow base T sz v1 n xs) (hg : (w.drew.alloc oA).grownBy w8 v.ownBlock) (hat : v1.ownBlock = v.ownBlock ∨ v1.ownBlock = some (w.drew.alloc oA).heap.size) (nA : Nat) :
    FA w base T sz v n xs b (v1, nA, w8.heap.size) (w8.alloc (.cells #[b] 3)) := by
  have hz : w.heap.size + 1 ≤ w8.heap.size := by have := hg.size; simp [drew_size] at this; omega
  have h1 : Tn (fun k => v.ownBlock = some k) w w8 := ((Tn.bel (bel_drew (Below.refl _ _)) _).trans (Tn.alloc _ _ _)).trans (Tn.gb hg fun k e => .inl e)
  have hlt := hown.lt
  refine ⟨hown.alloc _, h1.trans (Tn.alloc _ _ _), (MapKept.heap_alloc w8 _).1, by simp only; omega, fun k e => ?_, fun e => ?_⟩
  · rcases hat with e2 | e2
    · exact .inl (e2 ▸ e)
    · simp only at e; rw [e2] at e; simp [drew_size] at e; exact .inr (by omega)
  · have := (hlt _ e).2; simp only at this; omega
theorem FA.two {w w8 : World} {base : Nat} {T : TypeId} {sz : Nat} {v v1 : Value} {n : Nat} {xs : List Value} {b : Value} {oA : Obj} (hv : ∀ k, v.ownBlock = some k → k < w.heap.size) (hown : w8.ownsRow base T sz v1 n xs) (hg : ((w.drew.alloc oA).alloc (.cells #[b] 3)).grownBy w8 v.ownBlock) (hat : v1.ownBlock = v.ownBlock ∨ v1.ownBlock = some ((w.drew.alloc oA).alloc (.cells #[b] 3)).heap.size) (nA : Nat) :
    FA w base T sz v n xs b (v1, nA, w.heap.size + 1) w8 := by
  have h1 : Tn (fun k => v.ownBlock = some k) w w8 := (((Tn.bel (bel_drew (Below.refl _ _)) _).trans (Tn.alloc _ _ _)).trans (Tn.alloc _ _ _)).trans (Tn.gb hg fun k e => .inl e)
  have hb := (MapKept.heap_alloc (w.drew.alloc oA) (.cells #[b] 3)).1
  have es : (w.drew.alloc oA).heap.size = w.heap.size + 1 := by simp [drew_size]
  rw [es] at hb
  refine ⟨hown, h1, (hg.block _ (by simp [drew_size]) (fun e => by have := hv (w.heap.size + 1) e.symm; omega)).trans hb, by simp only; omega, fun k e => ?_, fun e => ?_⟩
  · rcases hat with e2 | e2
    · exact .inl (e2 ▸ e)
    · simp only at e; rw [e2] at e; simp [drew_size] at e; exact .inr (by omega)
  · simp only at e
    rcases hat with e2 | e2
    · have := hv _ (e2 ▸ e); omega
    · rw [e2] at e; simp [drew_size] at e
theorem FA.three {w w8 : World} {base : Nat} {T : TypeId} {sz : Nat} {v v1 : Value} {n : Nat} {xs : List Value} {b : Value} {oA : Obj} (hv : ∀ k, v.ownBlock = some k → k < w.heap.size) (hown : w8.ownsRow base T sz v1 n xs) (hg : ((w.drew.alloc (.cells #[b] 3)).alloc oA).grownBy w8 v.ownBlock) (hat : v1.ownBlock = v.ownBlock ∨ v1.ownBlock = some ((w.drew.alloc (.cells #[b] 3)).alloc oA).heap.size) (nA : Nat) :
    FA w base T sz v n xs b (v1, nA, w.heap.size) w8 := by
  have h1 : Tn (fun k => v.ownBlock = some k) w w8 := (((Tn.bel (bel_drew (Below.refl _ _)) _).trans (Tn.alloc _ _ _)).trans (Tn.alloc _ _ _)).trans (Tn.gb hg fun k e => .inl e)
  have hb : (w.drew.alloc (.cells #[b] 3)).heap[w.heap.size]? = some (.cells #[b] 3 (0, 0)) := (MapKept.heap_alloc w.drew (.cells #[b] 3)).1
  have hb2 : ((w.drew.alloc (.cells #[b] 3)).alloc oA).heap[w.heap.size]? = some (.cells #[b] 3 (0, 0)) := ((gb_alloc (w.drew.alloc (.cells #[b] 3)) oA none).block _ (by simp [drew_size]) (by simp)).trans hb
  refine ⟨hown, h1, (hg.block _ (by simp [drew_size]; omega) (fun e => by have := hv w.heap.size e.symm; omega)).trans hb2, by simp, fun k e => ?_, fun e => ?_⟩
  · rcases hat with e2 | e2
    · exact .inl (e2 ▸ e)
    · simp only at e; rw [e2] at e; simp [drew_size] at e; exact .inr (by omega)
  · simp only at e
    rcases hat with e2 | e2
    · have := hv _ (e2 ▸ e); omega
    · rw [e2] at e; simp [drew_size] at e; omega

/-- What an element's block gives to an append. -/
theorem news_one {w : World} {b : Nat} {x : Value} {T : TypeId} (h : w.heap[b]? = some (.cells #[x] T (0, 0))) : ∀ j u, [x][j]? = some u → w.cell? ((⟨b, 0, none⟩ : Addr).add j) = some u := by
  intro j u hj
  rcases j with _ | j
  · simp at hj; subst hj; simp [Addr.add, World.cell?, h]
  · simp at hj

/-- Behind both appends, and both stores. -/
theorem FA.done {w w9 w10 : World} {base : Nat} {T T2 : TypeId} {sz sz2 : Nat} {v u v1 v2 : Value} {n m : Nat} {xs ys : List Value} {b : Value} {nA nB : Nat} (h : FA w base T sz v n xs b (v1, nA, nB) w9) (hown : w10.ownsRow base T2 sz2 v2 m ys) (hg : w9.grownBy w10 u.ownBlock) (hat : v2.ownBlock = u.ownBlock ∨ v2.ownBlock = some w9.heap.size)
    (huv : ∀ k, v.ownBlock = some k → u.ownBlock ≠ some k) (hu : ∀ k, u.ownBlock = some k → k < w.heap.size) :
    Tn (fun k => v.ownBlock = some k ∨ u.ownBlock = some k) w w10 ∧ w10.ownsRow base T sz v1 n xs ∧ (∀ k, v2.ownBlock = some k → u.ownBlock = some k ∨ w.heap.size ≤ k) ∧ (∀ k, v1.ownBlock = some k → v2.ownBlock ≠ some k) := by
  have hlt := h.own.lt
  have hne : ∀ k, v1.ownBlock = some k → u.ownBlock ≠ some k := fun k e e2 => by
    rcases h.at_ k e with e3 | e3
    · exact huv k e3 e2
    · have := hu k e2; omega
  have hz := h.tn.size
  refine ⟨(h.tn.mono fun k e => .inl (.inl e)).trans (Tn.gb hg fun k e => .inl (.inr e)), row_gb hg hne h.own, fun k e => ?_, fun k e e2 => ?_⟩
  · rcases hat with e3 | e3
    · exact .inl (e3 ▸ e)
    · rw [e3] at e; exact .inr (by have := Option.some.inj e; omega)
  · rcases hat with e3 | e3
    · exact hne k e (e3 ▸ e2)
    · rw [e3] at e2
      have := (hlt k e).2
      have := Option.some.inj e2
      omega

end Go.Proofs.YtplnfepdikbpfaaGreatDoor

namespace Go.Proofs.YtplnfepdikbpfaaGreatDoor
open Go.RowKit
set_option linter.unusedVariables false
set_option linter.unusedSimpArgs false

theorem RowsAt.pairNU {w w9 w10 : World} {base p : Nat} {R : Rows} {v1 v2 b : Value} {n0 n1 nA nB : Nat} {c0 c1 : List Value} (h : RowsAt w base p R) (hF : FA w base 130 6 R.vn n0 c0 b (v1, nA, nB) w9) (hown : w10.ownsRow base 3 1 v2 n1 c1) (hg : w9.grownBy w10 R.vu.ownBlock) (hat : v2.ownBlock = R.vu.ownBlock ∨ v2.ownBlock = some w9.heap.size) :
    RowsAt ((w10.setCell ⟨p, 0, none⟩ v1).setCell ⟨p, 1, none⟩ v2) base p { R with vn := v1, nn := n0, cn := c0, vu := v2, nu := n1, cu := c1 } ∧ Tn (R.own p) w ((w10.setCell ⟨p, 0, none⟩ v1).setCell ⟨p, 1, none⟩ v2) ∧ (∀ k, Rows.own { R with vn := v1, nn := n0, cn := c0, vu := v2, nu := n1, cu := c1 } p k → R.own p k ∨ w.heap.size ≤ k) := by
  have huv : ∀ k, R.vn.ownBlock = some k → R.vu.ownBlock ≠ some k := fun k e => (h.ap.n k e).2.2.1
  have hu : ∀ k, R.vu.ownBlock = some k → k < w.heap.size := fun k e => (h.ru.lt k e).2
  obtain ⟨hT, h0, ha1, hne⟩ := hF.done hown hg hat huv hu
  have lp := h.plt
  have hp0 : v1.ownBlock ≠ some p := fun e => by
    rcases hF.at_ p e with e2 | e2
    · exact (h.ap.n p e2).1 rfl
    · omega
  have hp1 : v2.ownBlock ≠ some p := fun e => by
    rcases ha1 p e with e2 | e2
    · exact (h.ap.u p e2).1 rfl
    · omega
  have hb0 : Blk6 w p R.vn R.vu R.vl R.vs (.map (some R.m)) R.vt := h.blk
  have hb10 : Blk6 w10 p R.vn R.vu R.vl R.vs (.map (some R.m)) R.vt := (hT.block p lp (fun e => by
    rcases e with e | e
    · exact (h.ap.n p e).1 rfl
    · exact (h.ap.u p e).1 rfl)).trans hb0
  refine h.putNU v1 v2 n0 n1 c0 c1 (((hT.mono fun k e => .inl (.inr e)).trans (Tn.set _ _ _ _ (.inl (.inl rfl)))).trans (Tn.set _ _ _ _ (.inl (.inl rfl)))) ((hb10.s0 v1).s1 v2) (row_setp p 1 _ hp0 (row_setp p 0 _ hp0 h0)) (row_setp p 1 _ hp1 (row_setp p 0 _ hp1 hown)) (fun k e => hF.at_ k e) ha1 hne

theorem RowsAt.pairLS {w w9 w10 : World} {base p : Nat} {R : Rows} {v1 v2 b : Value} {n0 n1 nA nB : Nat} {c0 c1 : List Value} (h : RowsAt w base p R) (hF : FA w base 3 1 R.vl n0 c0 b (v1, nA, nB) w9) (hown : w10.ownsRow base 3 1 v2 n1 c1) (hg : w9.grownBy w10 R.vs.ownBlock) (hat : v2.ownBlock = R.vs.ownBlock ∨ v2.ownBlock = some w9.heap.size) :
    RowsAt ((w10.setCell ⟨p, 2, none⟩ v1).setCell ⟨p, 3, none⟩ v2) base p { R with vl := v1, nl := n0, cl := c0, vs := v2, ns := n1, cs := c1 } ∧ Tn (R.own p) w ((w10.setCell ⟨p, 2, none⟩ v1).setCell ⟨p, 3, none⟩ v2) ∧ (∀ k, Rows.own { R with vl := v1, nl := n0, cl := c0, vs := v2, ns := n1, cs := c1 } p k → R.own p k ∨ w.heap.size ≤ k) := by
  have huv : ∀ k, R.vl.ownBlock = some k → R.vs.ownBlock ≠ some k := fun k e => (h.ap.l k e).2.2.1
  have hu : ∀ k, R.vs.ownBlock = some k → k < w.heap.size := fun k e => (h.rs.lt k e).2
  obtain ⟨hT, h0, ha1, hne⟩ := hF.done hown hg hat huv hu
  have lp := h.plt
  have hp0 : v1.ownBlock ≠ some p := fun e => by
    rcases hF.at_ p e with e2 | e2
    · exact (h.ap.l p e2).1 rfl
    · omega
  have hp1 : v2.ownBlock ≠ some p := fun e => by
    rcases ha1 p e with e2 | e2
    · exact (h.ap.s p e2).1 rfl
    · omega
  have hb0 : Blk6 w p R.vn R.vu R.vl R.vs (.map (some R.m)) R.vt := h.blk
  have hb10 : Blk6 w10 p R.vn R.vu R.vl R.vs (.map (some R.m)) R.vt := (hT.block p lp (fun e => by
    rcases e with e | e
    · exact (h.ap.l p e).1 rfl
    · exact (h.ap.s p e).1 rfl)).trans hb0
  refine h.putLS v1 v2 n0 n1 c0 c1 (((hT.mono fun k e => .inl (.inr e)).trans (Tn.set _ _ _ _ (.inl (.inl rfl)))).trans (Tn.set _ _ _ _ (.inl (.inl rfl)))) ((hb10.s2 v1).s3 v2) (row_setp p 3 _ hp0 (row_setp p 2 _ hp0 h0)) (row_setp p 3 _ hp1 (row_setp p 2 _ hp1 hown)) (fun k e => hF.at_ k e) ha1 hne

end Go.Proofs.YtplnfepdikbpfaaGreatDoor
