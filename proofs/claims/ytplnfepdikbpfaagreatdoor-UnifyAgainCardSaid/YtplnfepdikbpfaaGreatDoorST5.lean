/- The walk of the Store's back. Condition: the Store lies in memory; the trail is as long. -/
import Derived.Test.YtplnfepdikbpfaaGreatDoorPW
import Derived.Test.YtplnfepdikbpfaaGreatDoorST5b
namespace Go.Proofs.YtplnfepdikbpfaaGreatDoor
open Go.RowKit Go.Shelf
open Go.Proofs.YtplnfepdikbpfaaGreatDoorW.PrintLast
set_option linter.unusedVariables false
set_option linter.unusedSimpArgs false
attribute [local go_sem] Oper.semAt_some

/-- Between two rounds: the Store's cells as they were; its rows of ints as long; its other blocks as they were. -/
structure BkI (w : World) (p : Nat) (R : Rows) (N : Nat) (W : World) : Prop where
  tn : Tn (R.own p) w W
  pb : W.heap[p]? = w.heap[p]?
  ru : ∀ g, R.vu.ownBlock = some g → ∃ c T, W.heap[g]? = some (.cells c T (0, 0)) ∧ N ≤ c.size
  rl : ∀ g, R.vl.ownBlock = some g → ∃ c T, W.heap[g]? = some (.cells c T (0, 0)) ∧ N ≤ c.size
  rs : ∀ g, R.vs.ownBlock = some g → ∃ c T, W.heap[g]? = some (.cells c T (0, 0)) ∧ N ≤ c.size
  sz : w.heap.size + 2 ≤ W.heap.size
  bx : W.heap[w.heap.size]? = some (.cells #[.pointer (some ⟨p, 0, none⟩)] 70 (0, 0))
theorem row_gr {w : World} {base : Nat} {e : TypeId} {v : Value} {n : Nat} {xs : List Value} (h : w.ownsRow base e 1 v n xs) : ∀ g, v.ownBlock = some g → ∃ c T, w.heap[g]? = some (.cells c T (0, 0)) ∧ n ≤ c.size := by
  intro g hg
  obtain ⟨h1, ⟨rfl, rfl⟩ | ⟨g', cap, cur, rfl, h3, h4, h5, h6, h7, h8⟩⟩ := h
  · cases hg
  · obtain rfl : g' = g := by simpa [Value.ownBlock] using hg
    exact ⟨cur, _, h4, by omega⟩
theorem gr_blk {W W' : World} {N g : Nat} (h : ∃ c T, W.heap[g]? = some (.cells c T (0, 0)) ∧ N ≤ c.size) (e : W'.heap[g]? = W.heap[g]?) : ∃ c T, W'.heap[g]? = some (.cells c T (0, 0)) ∧ N ≤ c.size := by rw [e]; exact h
theorem gr_set {W : World} {N g q : Nat} (h : ∃ c T, W.heap[g]? = some (.cells c T (0, 0)) ∧ N ≤ c.size) (i : Nat) (v : Value) : ∃ c T, (W.setCell ⟨q, i, none⟩ v).heap[g]? = some (.cells c T (0, 0)) ∧ N ≤ c.size := by
  obtain ⟨c, T, h1, h2⟩ := h
  by_cases e : q = g
  · subst e
    exact ⟨c.setIfInBounds i v, T, by simp [World.setCell, Array.getElem?_modify, h1], by simpa using h2⟩
  · exact ⟨c, T, by simp [World.setCell, Array.getElem?_modify, h1, e], h2⟩
theorem gr_cell {W : World} {N g : Nat} (h : ∃ c T, W.heap[g]? = some (.cells c T (0, 0)) ∧ N ≤ c.size) : (∀ i, i < N → ∃ u, W.cell? ⟨g, i, none⟩ = some u) ∧ ∀ o, W.frozen? ⟨g, o, none⟩ = false := by
  obtain ⟨c, T, h1, h2⟩ := h
  exact ⟨fun i hi => ⟨c[i]'(by omega), by simp [World.cell?, h1, Array.getElem?_eq_getElem (show i < c.size by omega)]⟩, fun o => by simp [World.frozen?, h1]⟩
theorem BkI.gb {w W W' : World} {p : Nat} {R : Rows} {N : Nat} {row : Option Nat} (h : BkI w p R N W) (hp : ∀ k, R.own p k → k < w.heap.size) (hg : W.grownBy W' row) (hr : ∀ k, row = some k → w.heap.size < k) : BkI w p R N W' := by
  have hs := h.tn.size
  have hb : ∀ k, k ≤ w.heap.size → k < W.heap.size → W'.heap[k]? = W.heap[k]? := fun k hk hk2 => hg.block k hk2 (fun e => by have := hr k e.symm; omega)
  have lb := lt_of_block h.bx
  have ob : ∀ k, R.own p k → W'.heap[k]? = W.heap[k]? := fun k hk => hb k (Nat.le_of_lt (hp k hk)) (by have := hp k hk; omega)
  exact ⟨h.tn.then (Tn.gb hg (O := fun k => w.heap.size < k) (fun k e => .inl (hr k e))) (fun k e => .inr (Nat.le_of_lt e)), (ob p (.inl rfl)).trans h.pb,
    fun g e => gr_blk (h.ru g e) (ob g (.inr (.inr (.inr (.inl e))))), fun g e => gr_blk (h.rl g e) (ob g (.inr (.inr (.inr (.inr (.inl e)))))), fun g e => gr_blk (h.rs g e) (ob g (.inr (.inr (.inr (.inr (.inr (.inl e))))))), Nat.le_trans h.sz hg.size, (hb _ (Nat.le_refl _) lb).trans h.bx⟩
theorem BkI.set {w W : World} {p : Nat} {R : Rows} {N : Nat} (h : BkI w p R N W) (hp : ∀ k, R.own p k → k < w.heap.size) {q : Nat} (hq : R.own p q) (hne : q ≠ p) (i : Nat) (v : Value) : BkI w p R N (W.setCell ⟨q, i, none⟩ v) :=
  ⟨h.tn.trans (Tn.set _ _ _ _ (.inl hq)), ((gb_set W q i v).block p (by have := h.tn.size; have := hp p (.inl rfl); omega) (fun e => hne (Option.some.inj e).symm)).trans h.pb,
    fun g e => gr_set (h.ru g e) i v, fun g e => gr_set (h.rl g e) i v, fun g e => gr_set (h.rs g e) i v, Nat.le_trans h.sz (gb_set W q i v).size, ((gb_set W q i v).block _ (lt_of_block h.bx) (fun e => by have := Option.some.inj e; have := hp q hq; omega)).trans h.bx⟩
theorem BkI.drew {w W : World} {p : Nat} {R : Rows} {N : Nat} (h : BkI w p R N W) : BkI w p R N W.drew := ⟨h.tn.drew, h.pb, h.ru, h.rl, h.rs, h.sz, h.bx⟩
theorem jn_cells {w : World} {base p : Nat} {ok : Nat → Prop} {R : Rows} {s : Sto} (h : StoAt w base p ok R s) {tr : List Jn} (htc : R.ct = jnCells tr) (htr : R.nt = tr.length) {gt ct : Nat} (et : R.vt = .slice (some ⟨gt, 0, none⟩) R.nt ct) (n j : Nat) (x : Jn) (hx : (tr.drop n)[j]? = some x) :
    w.cell? ⟨gt, n * 4 + j * 4, none⟩ = some (.int .i64 (x.1 : Int)) ∧ w.cell? ⟨gt, n * 4 + j * 4 + 1, none⟩ = some (.int .i64 (x.2.1 : Int)) ∧ w.cell? ⟨gt, n * 4 + j * 4 + 2, none⟩ = some (.int .i64 x.2.2.1) ∧ w.cell? ⟨gt, n * 4 + j * 4 + 3, none⟩ = some (.int .i64 x.2.2.2) := by
  rw [List.getElem?_drop] at hx
  have hlt := (List.getElem?_eq_some_iff.1 hx).1
  obtain ⟨g, c, e, -, -, -, hc, -⟩ := row_cells h.rows.rt (by omega)
  rw [et] at e
  injection e with e
  injection e with e
  injection e with e
  subst e
  have key : ∀ (k : Nat) (l : List Jn), k < l.length → ∀ i, i < 4 → (jnCells l)[k * 4 + i]? = [Value.int .i64 ((l.getD k (0, 0, 0, 0)).1 : Int), .int .i64 ((l.getD k (0, 0, 0, 0)).2.1 : Int), .int .i64 (l.getD k (0, 0, 0, 0)).2.2.1, .int .i64 (l.getD k (0, 0, 0, 0)).2.2.2][i]? := by
    intro k l
    induction l generalizing k with
    | nil => intro h; simp at h
    | cons y l ih =>
      intro hk i hi
      have e : jnCells (y :: l) = [.int .i64 (y.1 : Int), .int .i64 (y.2.1 : Int), .int .i64 y.2.2.1, .int .i64 y.2.2.2] ++ jnCells l := rfl
      cases k with
      | zero => rw [e, List.getElem?_append_left (by simp; omega)]; simp
      | succ k =>
        rw [e, List.getElem?_append_right (by simp; omega)]
        have := ih k (by simpa using hk) i hi
        simp only [List.getD_cons_succ]
        rw [← this]
        congr 1
        simp
        omega
  have ex : tr.getD (n + j) (0, 0, 0, 0) = x := by simp [List.getD_eq_getElem?_getD, hx]
  have k0 := fun i hi u (hu : [Value.int .i64 (x.1 : Int), .int .i64 (x.2.1 : Int), .int .i64 x.2.2.1, .int .i64 x.2.2.2][i]? = some u) => hc ((n + j) * 4 + i) u (by rw [htc, key (n + j) tr hlt i hi, ex]; exact hu)
  have ea : n * 4 + j * 4 = (n + j) * 4 := by omega
  rw [ea]
  exact ⟨k0 0 (by omega) _ rfl, k0 1 (by omega) _ rfl, k0 2 (by omega) _ rfl, k0 3 (by omega) _ rfl⟩
theorem keepT_b {g Bs B : Nat} (hg : g < B) (hB : Bs < B) (W : World) (l : Nat) (o o' : Obj) (hl : B ≤ l) (h : W.heap[l]? = some o) (_ : o.isCells = false) (_ : o.isWalk = false) : KeepT g Bs W (W.putObj l o') := by
  have hlt := (Array.getElem?_eq_some_iff.1 h).1
  exact ⟨(grownBy_putObj' W l o').block g (by omega) (fun e => by have := Option.some.inj e; omega), (grownBy_putObj' W l o').block Bs (by omega) (fun e => by have := Option.some.inj e; omega)⟩

set_option maxRecDepth 100000 in
set_option maxHeartbeats 16000000 in
theorem back_nil (w : World) (base p : Nat) (ok : Nat → Prop) (R : Rows) (s : Sto) (h : StoAt w base p ok R s) (n : Nat) (tr : List Jn) (htc : R.ct = jnCells tr) (htr : R.nt = tr.length) (htN : ∀ x ∈ tr, x.1 < s.n ∧ x.2.1 < s.n) (htS : tr.length ≤ s.n) (hn : n ≤ tr.length) (et : R.vt = .slice none 0 0) (hn0 : n = 0) (ht0 : tr = []) :
    Calls Tryz.prog 87 #[.pointer (some ⟨p, 0, none⟩), .int .i64 (n : Int)] w fun e w' => (∃ v, e = .returned v) ∧ Tn (R.own p) w w' := by
  have p5 := h.rows.cells.2.2.2.2.2.1
  have hp := h.rows.plt
  have hfew := h.few
  have hown : ∀ k, R.own p k → k < w.heap.size := fun k hk => (h.lt k hk).2
  rw [et] at p5
  have H := Lib.hid h; have HOWN := Lib.hid hown; have HTN := Lib.hid htN
  clear h hown htN
  subst hn0 ht0
  refine (callsIn_wide (n := 3)).1 ?_
  refine callsIn_of_wp_marks Tryz.func87 rfl trivial ?_ rfl
  simp only [Tryz.ntmps87, List.size_toArray, List.length_cons, List.length_nil, Nat.reduceAdd, Nat.reduceSub, Array.replicate_succ, Array.replicate_zero, List.push_toArray, List.append_toArray, List.nil_append, List.cons_append]
  gi_wp2_with fail
  refine ⟨trivial, (backward_in _ _ _ _ _).mono ?_⟩
  rintro e w' ⟨rfl, rfl⟩
  gi_wp2_with fail
  obtain ⟨W0, hW0⟩ : ∃ W0, W0 = (w.alloc (.cells #[.pointer (some ⟨p, 0, none⟩)] 70)).alloc (.cells #[.slice none 0 0] 124) := ⟨_, rfl⟩
  rw [← hW0]
  have hsz0 : W0.heap.size = w.heap.size + 2 := by rw [hW0]; simp
  have hg0 : Below w.heap.size w W0 := by rw [hW0]; exact bel_alloc (bel_alloc (Below.refl _ _) _) _
  have hbx0 : W0.heap[w.heap.size]? = some (.cells #[.pointer (some ⟨p, 0, none⟩)] 70 (0, 0)) := by
    rw [hW0]
    exact ((gb_alloc _ _ none).block w.heap.size (by simp) (by simp)).trans (MapKept.heap_alloc w _).1
  have hbs0 : W0.cell? ⟨w.heap.size + 1, 0, none⟩ = some (.slice none 0 0) := by
    have h1 := (MapKept.heap_alloc (w.alloc (.cells #[.pointer (some ⟨p, 0, none⟩)] 70)) (.cells #[.slice none 0 0] 124)).1
    rw [← hW0] at h1
    simp only [World.size_alloc] at h1
    simp [World.cell?, h1]
  have hI0 : BkI w p R s.n W0 := ⟨Tn.bel hg0 _, hg0.block p hp, fun g e => gr_blk (H.out.n.2.1 ▸ row_gr H.out.rows.ru g e) (hg0.block g (HOWN.out g (.inr (.inr (.inr (.inl e)))))), fun g e => gr_blk (H.out.n.2.2.1 ▸ row_gr H.out.rows.rl g e) (hg0.block g (HOWN.out g (.inr (.inr (.inr (.inr (.inl e))))))), fun g e => gr_blk (H.out.n.2.2.2 ▸ row_gr H.out.rows.rs g e) (hg0.block g (HOWN.out g (.inr (.inr (.inr (.inr (.inr (.inl e)))))))), by omega, hbx0⟩
  have hgt0 : w.heap.size < W0.heap.size := by omega
  have hTV : TrV W0 w.heap.size (.slice none 0 0) [] := ⟨none, 0, rfl, fun h => absurd rfl h⟩
  clear hW0
  refine wpIn_rangeFunc_ownH (F := Fence.wide) rfl (by omega) (gf := 144) (lb := #[.pointer (some ⟨w.heap.size + 1, 0, none⟩)]) rfl trivial (enters_of Tryz.func144 (by kernel_rfl) rfl)
    (backward_stops _ (w.heap.size + 1) w.heap.size s.n (.slice none 0 0) ([]) (by simp) (fun x hx => nomatch hx) W0 (by omega) hgt0 hbs0 hTV) (fun h k => KeepT.trans h k) (keepT_b hgt0 (by omega)) (Below.refl _ _) (fun _ => rfl)
    (fun _ W => BkI w p R s.n W) (fun _ _ _ => False) (fun _ A B row h1 h2 h3 => h1.gb HOWN.out h2 (fun k e => by have := (h3 k e).1; omega)) (fun _ _ _ _ _ h _ _ => h) hI0
    (fun x a' W => ∃ q5, w.heap.size + 1 < q5 ∧ W.heap[q5]? = some (.cells #[.int .i64 (x.2.1.1 : Int), .int .i64 (x.2.1.2.1 : Int), .int .i64 x.2.1.2.2.1, .int .i64 x.2.1.2.2.2] 160 (0, 0)) ∧ a' = { tmps := #[.pointer (some ⟨p, 0, none⟩), .int .i64 ((0 : Nat) : Int), .pointer (some ⟨w.heap.size, 0, none⟩), undef, undef, .pointer (some ⟨q5, 0, none⟩), .pointer (some ⟨p, 0, none⟩), .pointer (some ⟨p, 0, none⟩), .pointer (some ⟨p, 5, none⟩), .slice none 0 0, .int .i64 ((0 : Nat) : Int), .slice none 0 0, .func (.func 144) #[] #[.pointer (some ⟨w.heap.size + 1, 0, none⟩)], .int .i64 x.1, .agg #[.int .i64 (x.2.1.1 : Int), .int .i64 (x.2.1.2.1 : Int), .int .i64 x.2.1.2.2.1, .int .i64 x.2.1.2.2.2], undef, undef, undef, undef, undef, undef, undef, undef, undef, undef, undef, undef, undef, undef, undef, undef, undef, undef, undef, undef, undef, undef, undef, undef, undef, undef, undef, undef, undef, undef, undef, undef, undef, undef, undef, undef], defers := [] })
    (fun x a' _ A B row h1 h2 h3 => by
      obtain ⟨q5, e1, e2, e3⟩ := h1
      refine ⟨q5, e1, (h2.block q5 (lt_of_block e2) (fun e => ?_)).trans e2, e3⟩
      obtain ⟨o, ho, hc⟩ := (h3 q5 e.symm).2
      rw [e2] at ho
      rw [← Option.some.inj ho] at hc
      cases hc) ?assign ?body ?done ?stop
  case assign =>
    rintro l pre ⟨ix, ⟨⟨ch, pa, le, so⟩, hx⟩⟩ W K hI hK
    have hszW := hI.sz
    have hgW : w.heap.size < W.heap.size := by omega
    dsimp only [stpEnc]
    gi_wp2
    exact hK _ _ ((KeepsOthers.alloc _ _).from _) ⟨(gb_alloc W _ none).block _ hgW (by simp), (gb_alloc W _ none).block _ (by omega) (by simp)⟩ (hI.gb HOWN.out (gb_alloc W _ none) (fun k e => by cases e)) ⟨W.heap.size, by omega, (MapKept.heap_alloc W _).1, rfl⟩
  case body =>
    rintro l pre ⟨ix, ⟨⟨ch, pa, le, so⟩, hx⟩⟩ a' W hl ⟨r, hr⟩ hI ⟨q5, hq5, hblk, rfl⟩ hlt2
    have hchN : ch < s.n := hx.1
    have hpaN : pa < s.n := hx.2
    have h0n : 0 < s.n := by omega
    have hru := H.out.rows.ru; rw [H.out.n.2.1] at hru
    have hrl := H.out.rows.rl; rw [H.out.n.2.2.1] at hrl
    have hrs := H.out.rows.rs; rw [H.out.n.2.2.2] at hrs
    obtain ⟨gu, cu, eu, -, -, -, -, -⟩ := row_cells hru h0n
    obtain ⟨gl, cl, el, -, -, -, -, -⟩ := row_cells hrl h0n
    obtain ⟨gs, cs, es, -, -, -, -, -⟩ := row_cells hrs h0n
    have bu : R.vu.ownBlock = some gu := by rw [eu]; rfl
    have bl : R.vl.ownBlock = some gl := by rw [el]; rfl
    have bS : R.vs.ownBlock = some gs := by rw [es]; rfl
    have ou : R.own p gu := .inr (.inr (.inr (.inl bu)))
    have ol : R.own p gl := .inr (.inr (.inr (.inr (.inl bl))))
    have os : R.own p gs := .inr (.inr (.inr (.inr (.inr (.inl bS)))))
    have nu := H.out.rows.ap.u gu bu
    have nl := H.out.rows.ap.l gl bl
    have ns := H.out.rows.ap.s gs bS
    have lu := HOWN.out gu ou
    have ll := HOWN.out gl ol
    have ls := HOWN.out gs os
    have cW : ∀ o, W.cell? ⟨p, o, none⟩ = w.cell? ⟨p, o, none⟩ := fun o => World.cell?_of_block hI.pb
    have p1 : W.cell? ⟨p, 1, none⟩ = some (.slice (some ⟨gu, 0, none⟩) s.n cu) := by rw [cW, H.out.rows.cells.2.1, eu]
    have p2 : W.cell? ⟨p, 2, none⟩ = some (.slice (some ⟨gl, 0, none⟩) s.n cl) := by rw [cW, H.out.rows.cells.2.2.1, el]
    have p3 : W.cell? ⟨p, 3, none⟩ = some (.slice (some ⟨gs, 0, none⟩) s.n cs) := by rw [cW, H.out.rows.cells.2.2.2.1, es]
    have b0 : W.cell? ⟨w.heap.size, 0, none⟩ = some (.pointer (some ⟨p, 0, none⟩)) := by have h := hI.bx; simp [World.cell?, h]
    have j0 : W.cell? ⟨q5, 0, none⟩ = some (.int .i64 (ch : Int)) := by simp [World.cell?, hblk]
    have j1 : W.cell? ⟨q5, 1, none⟩ = some (.int .i64 (pa : Int)) := by simp [World.cell?, hblk]
    have j2 : W.cell? ⟨q5, 2, none⟩ = some (.int .i64 le) := by simp [World.cell?, hblk]
    have j3 : W.cell? ⟨q5, 3, none⟩ = some (.int .i64 so) := by simp [World.cell?, hblk]
    obtain ⟨uu, hcu⟩ := (gr_cell (hI.ru gu bu)).1 ch hchN
    have hfu := (gr_cell (hI.ru gu bu)).2 ch
    have i0 : (0 : Int) ≤ (ch : Int) := by omega
    have i1 : (ch : Int) < (s.n : Int) := by omega
    have i2 : (0 : Int) ≤ (pa : Int) := by omega
    have i3 : (pa : Int) < (s.n : Int) := by omega
    have lq := lt_of_block hblk
    have hup : gu ≠ p := nu.1
    have hlp : gl ≠ p := nl.1
    have hsp : gs ≠ p := ns.1
    have hls : gl ≠ gs := fun e => nl.2.2.1 (by rw [e]; exact bS)
    have hgne : w.heap.size ≠ gu ∧ w.heap.size ≠ gl ∧ w.heap.size ≠ gs := by
      exact ⟨by omega, by omega, by omega⟩
    gi_wp2_with fail
    refine startIn_ (n := 10) (S := fun w' => w'.cell? ⟨w.heap.size, 0, none⟩ = some (.pointer (some ⟨p, 0, none⟩)) ∧ w'.cell? ⟨p, 1, none⟩ = some (.slice (some ⟨gu, 0, none⟩) s.n cu) ∧ w'.cell? ⟨q5, 0, none⟩ = some (.int .i64 (ch : Int))) (ds := [9]) (bs 10 0) (by kernel_rfl) rfl rfl ⟨b0, p1, j0⟩ (fun hHeld => ?_) (by rfl) (fun _ _ h => h)
    refine pu 4 19 (bs 10 16) ?_
    refine pu 6 21 (bs 10 80) ?_
    refine tk 0 15 (bs 10 81) hHeld ?_
    refine pu 1 16 (bs 10 83) ?_
    refine pu 2 17 (bs 10 87) ?_
    refine tk 3 18 (bs 10 95) hHeld ?_
    refine tk 5 20 (bs 10 127) hHeld ?_
    refine tk 7 22 (bs 10 255) hHeld ?_
    refine pu 8 23 (bs 10 511) ?_
    refine last_ (i := 9) (N := none) (bs 10 1023) rfl rfl (by kernel_rfl) (by decide) (fun K hK => ?_)
    refine skip_ (w1 := ?_) (by rfl) rfl ?_ ?_
    rotate_left
    · go_simp
      rfl
    refine hK.out _ _ ?_
    clear hK K
    refine done_ (by kernel_rfl) ?_
    obtain ⟨W3, hW3⟩ : ∃ W3, W3 = (W.setCell ⟨gu, ch, none⟩ (.int .i64 (ch : Int))).drew := ⟨_, rfl⟩
    rw [← hW3]
    have TU : Tn (fun z => z = gu) W W3 := by rw [hW3]; exact Tn.drew (Tn.set (O := fun z => z = gu) W gu ch _ (.inl rfl))
    have hI3 : BkI w p R s.n W3 := by rw [hW3]; exact (hI.set HOWN.out ou nu.1 _ _).drew
    have hKO3 : KeepsOthers W W3 := by rw [hW3]; exact (KeepsOthers.setCell _ _ _).trans (KeepsOthers.drew _)
    have K4 := Lib.hid (show ∀ X, Tn (fun z => z = gl ∨ z = gs) W3 X → X.cell? ⟨w.heap.size, 0, none⟩ = some (.pointer (some ⟨p, 0, none⟩)) ∧ X.cell? ⟨p, 2, none⟩ = some (.slice (some ⟨gl, 0, none⟩) s.n cl) ∧ X.cell? ⟨p, 3, none⟩ = some (.slice (some ⟨gs, 0, none⟩) s.n cs) ∧ X.cell? ⟨q5, 1, none⟩ = some (.int .i64 (pa : Int)) ∧ X.cell? ⟨q5, 2, none⟩ = some (.int .i64 le) ∧ X.cell? ⟨q5, 3, none⟩ = some (.int .i64 so) from fun X hT => by
      have s3 := TU.size
      have hs := hI.sz
      have go : ∀ q o, q < W.heap.size → q ≠ gu → q ≠ gl → q ≠ gs → X.cell? ⟨q, o, none⟩ = W.cell? ⟨q, o, none⟩ := fun q o h1 h2 h3 h4 => (hT.cell (by omega) (fun e => e.elim h3 h4) o).trans (TU.cell h1 h2 o)
      exact ⟨(go _ 0 (by omega) (by omega) (by omega) (by omega)).trans b0, (go p 2 (by omega) (Ne.symm hup) (Ne.symm hlp) (Ne.symm hsp)).trans p2, (go p 3 (by omega) (Ne.symm hup) (Ne.symm hlp) (Ne.symm hsp)).trans p3, (go q5 1 lq (by omega) (by omega) (by omega)).trans j1, (go q5 2 lq (by omega) (by omega) (by omega)).trans j2, (go q5 3 lq (by omega) (by omega) (by omega)).trans j3⟩)
    obtain ⟨ul, hcl⟩ := (gr_cell (hI3.rl gl bl)).1 pa hpaN
    have hfl := (gr_cell (hI3.rl gl bl)).2 pa
    obtain ⟨us, hcs⟩ := (gr_cell (hI3.rs gs bS)).1 pa hpaN
    have hfs := (gr_cell (hI3.rs gs bS)).2 pa
    clear hW3 p1 p2 p3 b0 j0 j1 j2 j3 hcu hfu hHeld
    gi_wp2_with fail
    refine startIn_ (n := 20) (S := fun w' => w'.cell? ⟨w.heap.size, 0, none⟩ = some (.pointer (some ⟨p, 0, none⟩)) ∧ w'.cell? ⟨p, 2, none⟩ = some (.slice (some ⟨gl, 0, none⟩) s.n cl) ∧ w'.cell? ⟨p, 3, none⟩ = some (.slice (some ⟨gs, 0, none⟩) s.n cs) ∧ w'.cell? ⟨q5, 1, none⟩ = some (.int .i64 (pa : Int)) ∧ w'.cell? ⟨q5, 2, none⟩ = some (.int .i64 le) ∧ w'.cell? ⟨q5, 3, none⟩ = some (.int .i64 so)) (ds := [19]) (bs 20 0) (by kernel_rfl) rfl rfl ⟨(K4.out _ (Tn.refl _ _).drew).1, (K4.out _ (Tn.refl _ _).drew).2.1, (K4.out _ (Tn.refl _ _).drew).2.2.1, (K4.out _ (Tn.refl _ _).drew).2.2.2.1, (K4.out _ (Tn.refl _ _).drew).2.2.2.2.1, (K4.out _ (Tn.refl _ _).drew).2.2.2.2.2⟩ (fun hHeld => ?_) (by rfl) (fun _ _ h => h)
    refine pu 4 28 (bs 20 16) ?_
    refine pu 10 34 (bs 20 1040) ?_
    refine pu 12 36 (bs 20 5136) ?_
    refine pu 14 38 (bs 20 21520) ?_
    refine tk 0 24 (bs 20 21521) hHeld ?_
    refine pu 1 25 (bs 20 21523) ?_
    refine pu 2 26 (bs 20 21527) ?_
    refine tk 3 27 (bs 20 21535) hHeld ?_
    refine tk 5 29 (bs 20 21567) hHeld ?_
    refine tk 6 30 (bs 20 21631) hHeld ?_
    refine pu 7 31 (bs 20 21759) ?_
    refine pu 8 32 (bs 20 22015) ?_
    refine tk 9 33 (bs 20 22527) hHeld ?_
    refine tk 11 35 (bs 20 24575) hHeld ?_
    refine tk 13 37 (bs 20 32767) hHeld ?_
    refine pu 16 40 (bs 20 98303) ?_
    refine tk 15 39 (bs 20 131071) hHeld ?_
    refine one_ (i := 17) (N := none) (bs 20 262143) rfl rfl (by kernel_rfl) (by decide) (fun K hK => ?_)
    refine skip_ (w1 := ?_) (by rfl) rfl ?_ ?_
    rotate_left
    · go_simp
      rfl
    refine hK.out _ _ ⟨(K4.out _ ((Tn.refl _ _).drew.trans (Tn.set _ _ _ _ (.inl (.inl rfl))))).1, (K4.out _ ((Tn.refl _ _).drew.trans (Tn.set _ _ _ _ (.inl (.inl rfl))))).2.1, (K4.out _ ((Tn.refl _ _).drew.trans (Tn.set _ _ _ _ (.inl (.inl rfl))))).2.2.1, (K4.out _ ((Tn.refl _ _).drew.trans (Tn.set _ _ _ _ (.inl (.inl rfl))))).2.2.2.1, (K4.out _ ((Tn.refl _ _).drew.trans (Tn.set _ _ _ _ (.inl (.inl rfl))))).2.2.2.2.1, (K4.out _ ((Tn.refl _ _).drew.trans (Tn.set _ _ _ _ (.inl (.inl rfl))))).2.2.2.2.2⟩ (fun hHeld => ?_)
    clear hK K
    refine pu 18 41 (bs 20 524287) ?_
    refine last_ (i := 19) (N := none) (bs 20 1048575) rfl rfl (by kernel_rfl) (by decide) (fun K hK => ?_)
    refine skip_ (w1 := ?_) (by rfl) rfl ?_ ?_
    rotate_left
    · go_simp
      rfl
    refine hK.out _ _ ?_
    clear hK K
    refine done_ (by kernel_rfl) ?_
    gi_wp2
    have hs := hI.sz
    refine ⟨?_, ?_, ?_⟩
    · exact (((hKO3.trans (KeepsOthers.setCell _ _ _)).trans (KeepsOthers.setCell _ _ _)).trans (KeepsOthers.drew _)).from _
    · have T : Tn (fun z => z = gu ∨ z = gl ∨ z = gs) W (((W3.setCell ⟨gl, pa, none⟩ (.int .i64 le)).setCell ⟨gs, pa, none⟩ (.int .i64 so)).drew) := (((TU.mono (fun z e => .inl (.inl e))).trans (Tn.set W3 gl pa (.int .i64 le) (.inl (.inr (.inl rfl))))).trans (Tn.set _ gs pa (.int .i64 so) (.inl (.inr (.inr rfl))))).drew
      have nT : ∀ k, k ≠ gu → k ≠ gl → k ≠ gs → ¬ (k = gu ∨ k = gl ∨ k = gs) := fun k a b c e => e.elim a (fun e => e.elim b c)
      exact ⟨T.block _ (by omega) (nT _ hgne.1 hgne.2.1 hgne.2.2), T.block _ (by omega) (nT _ (by omega) (by omega) (by omega))⟩
    · exact ((hI3.set HOWN.out ol nl.1 _ _).set HOWN.out os ns.1 _ _).drew
  case done =>
    rintro D ys W hD - hI hK
    have cW : ∀ o, W.cell? ⟨p, o, none⟩ = w.cell? ⟨p, o, none⟩ := fun o => World.cell?_of_block hI.pb
    have q5 : W.cell? ⟨p, 5, none⟩ = some (.slice none 0 0) := by rw [cW, p5]
    have f5 : W.frozen? ⟨p, 5, none⟩ = false := (World.frozen?_of_block hI.pb).trans (H.out.rows.cells.2.2.2.2.2.2 5)
    have b0 : W.cell? ⟨w.heap.size, 0, none⟩ = some (.pointer (some ⟨p, 0, none⟩)) := by have h := hI.bx; simp [World.cell?, h]
    have TW := hI.tn
    gi_wp2_with fail
    refine startWn_ (n := 10) (S := fun w' => w'.cell? ⟨w.heap.size, 0, none⟩ = some (.pointer (some ⟨p, 0, none⟩)) ∧ w'.cell? ⟨p, 5, none⟩ = some (.slice none 0 0)) (ds := [9]) (bs 10 0) (by kernel_rfl) rfl rfl ⟨b0, q5⟩ (fun hHeld => ?_)
    refine pu 5 47 (bs 10 32) ?_
    refine tk 0 42 (bs 10 33) hHeld ?_
    refine tk 1 43 (bs 10 35) hHeld ?_
    refine pu 2 44 (bs 10 39) ?_
    refine pu 3 45 (bs 10 47) ?_
    refine tk 4 46 (bs 10 63) hHeld ?_
    refine pu 6 48 (bs 10 127) ?_
    refine pu 7 49 (bs 10 255) ?_
    refine pu 8 50 (bs 10 511) ?_
    refine last_ (i := 9) (N := none) (bs 10 1023) rfl rfl (by kernel_rfl) (by decide) (fun K hK => ?_)
    refine skip_ (w1 := ?_) (by rfl) rfl ?_ ?_
    rotate_left
    · go_simp
      rfl
    refine hK.out _ _ ?_
    clear hK K
    refine done_ (by kernel_rfl) ?_
    gi_wp2
    have hlt := hI.sz
    refine ⟨by simp, .inl ⟨_, _, rfl, run_takeDeferred (by exact ((KeepsOthers.setCell _ _ _).trans (KeepsOthers.drew _)).same D _ hK rfl), ?_⟩⟩
    refine ⟨_, results_none rfl _ _ _, ⟨_, rfl⟩, ?_⟩
    exact Tn.then ((TW.trans (Tn.set _ _ _ _ (.inl (.inl rfl)))).drew) (Tn.gb (O := fun k => k = D) (grownBy_putObj' _ _ _) (fun k e => .inl (Option.some.inj e).symm)) (fun k e => .inr (by omega))
  case stop =>
    rintro D c pre W hD - hF hK
    exact hF.elim

set_option maxRecDepth 100000 in
set_option maxHeartbeats 16000000 in
theorem back_mid (w : World) (base p : Nat) (ok : Nat → Prop) (R : Rows) (s : Sto) (h : StoAt w base p ok R s) (n : Nat) (tr : List Jn) (htc : R.ct = jnCells tr) (htr : R.nt = tr.length) (htN : ∀ x ∈ tr, x.1 < s.n ∧ x.2.1 < s.n) (htS : tr.length ≤ s.n) (hn : n ≤ tr.length) (gt ct : Nat) (et : R.vt = .slice (some ⟨gt, 0, none⟩) R.nt ct) (hlt : n < ct) (hct : R.nt ≤ ct) :
    Calls Tryz.prog 87 #[.pointer (some ⟨p, 0, none⟩), .int .i64 (n : Int)] w fun e w' => (∃ v, e = .returned v) ∧ Tn (R.own p) w w' := by
  have p5 := h.rows.cells.2.2.2.2.2.1
  have hp := h.rows.plt
  have hfew := h.few
  have hown : ∀ k, R.own p k → k < w.heap.size := fun k hk => (h.lt k hk).2
  rw [et] at p5
  have H := Lib.hid h; have HOWN := Lib.hid hown; have HTN := Lib.hid htN
  clear h hown htN
  have n0 : (0 : Int) ≤ (n : Int) := by omega
  have n1 : (n : Int) ≤ (R.nt : Int) := by omega
  have n2 : (R.nt : Int) ≤ (ct : Int) := by omega
  have n3 : ct - n ≠ 0 := by omega
  have n4 : n ≤ ct := by omega
  refine (callsIn_wide (n := 3)).1 ?_
  refine callsIn_of_wp_marks Tryz.func87 rfl trivial ?_ rfl
  simp only [Tryz.ntmps87, List.size_toArray, List.length_cons, List.length_nil, Nat.reduceAdd, Nat.reduceSub, Array.replicate_succ, Array.replicate_zero, List.push_toArray, List.append_toArray, List.nil_append, List.cons_append]
  gi_wp2_with fail
  refine ⟨trivial, (backward_in _ _ _ _ _).mono ?_⟩
  rintro e w' ⟨rfl, rfl⟩
  gi_wp2_with fail
  obtain ⟨W0, hW0⟩ : ∃ W0, W0 = (w.alloc (.cells #[.pointer (some ⟨p, 0, none⟩)] 70)).alloc (.cells #[.slice (some ⟨gt, n * 4, none⟩) (tr.length - n) (ct - n)] 124) := ⟨_, rfl⟩
  rw [← hW0]
  have hsz0 : W0.heap.size = w.heap.size + 2 := by rw [hW0]; simp
  have hg0 : Below w.heap.size w W0 := by rw [hW0]; exact bel_alloc (bel_alloc (Below.refl _ _) _) _
  have hbx0 : W0.heap[w.heap.size]? = some (.cells #[.pointer (some ⟨p, 0, none⟩)] 70 (0, 0)) := by
    rw [hW0]
    exact ((gb_alloc _ _ none).block w.heap.size (by simp) (by simp)).trans (MapKept.heap_alloc w _).1
  have hbs0 : W0.cell? ⟨w.heap.size + 1, 0, none⟩ = some (.slice (some ⟨gt, n * 4, none⟩) (tr.length - n) (ct - n)) := by
    have h1 := (MapKept.heap_alloc (w.alloc (.cells #[.pointer (some ⟨p, 0, none⟩)] 70)) (.cells #[.slice (some ⟨gt, n * 4, none⟩) (tr.length - n) (ct - n)] 124)).1
    rw [← hW0] at h1
    simp only [World.size_alloc] at h1
    simp [World.cell?, h1]
  have hI0 : BkI w p R s.n W0 := ⟨Tn.bel hg0 _, hg0.block p hp, fun g e => gr_blk (H.out.n.2.1 ▸ row_gr H.out.rows.ru g e) (hg0.block g (HOWN.out g (.inr (.inr (.inr (.inl e)))))), fun g e => gr_blk (H.out.n.2.2.1 ▸ row_gr H.out.rows.rl g e) (hg0.block g (HOWN.out g (.inr (.inr (.inr (.inr (.inl e))))))), fun g e => gr_blk (H.out.n.2.2.2 ▸ row_gr H.out.rows.rs g e) (hg0.block g (HOWN.out g (.inr (.inr (.inr (.inr (.inr (.inl e)))))))), by omega, hbx0⟩
  have hgtl : gt < w.heap.size := HOWN.out gt (.inr (.inr (.inr (.inr (.inr (.inr (by rw [et]; rfl)))))))
  have hgt0 : gt < W0.heap.size := by omega
  have hTV : TrV W0 gt (.slice (some ⟨gt, n * 4, none⟩) (tr.length - n) (ct - n)) (tr.drop n) := by
    refine ⟨_, _, by rw [List.length_drop], fun hne => ⟨n * 4, rfl, fun j x hx => ?_⟩⟩
    obtain ⟨q0, q1, q2, q3⟩ := jn_cells H.out htc htr et n j x hx
    exact ⟨(hg0.cell (p := ⟨gt, _, none⟩) hgtl).trans q0, (hg0.cell (p := ⟨gt, _, none⟩) hgtl).trans q1, (hg0.cell (p := ⟨gt, _, none⟩) hgtl).trans q2, (hg0.cell (p := ⟨gt, _, none⟩) hgtl).trans q3⟩

  clear hW0
  refine wpIn_rangeFunc_ownH (F := Fence.wide) rfl (by omega) (gf := 144) (lb := #[.pointer (some ⟨w.heap.size + 1, 0, none⟩)]) rfl trivial (enters_of Tryz.func144 (by kernel_rfl) rfl)
    (backward_stops _ (w.heap.size + 1) gt s.n (.slice (some ⟨gt, n * 4, none⟩) (tr.length - n) (ct - n)) (tr.drop n) (by rw [List.length_drop]; omega) (fun x hx => HTN.out x (List.mem_of_mem_drop hx)) W0 (by omega) hgt0 hbs0 hTV) (fun h k => KeepT.trans h k) (keepT_b hgt0 (by omega)) (Below.refl _ _) (fun _ => rfl)
    (fun _ W => BkI w p R s.n W) (fun _ _ _ => False) (fun _ A B row h1 h2 h3 => h1.gb HOWN.out h2 (fun k e => by have := (h3 k e).1; omega)) (fun _ _ _ _ _ h _ _ => h) hI0
    (fun x a' W => ∃ q5, w.heap.size + 1 < q5 ∧ W.heap[q5]? = some (.cells #[.int .i64 (x.2.1.1 : Int), .int .i64 (x.2.1.2.1 : Int), .int .i64 x.2.1.2.2.1, .int .i64 x.2.1.2.2.2] 160 (0, 0)) ∧ a' = { tmps := #[.pointer (some ⟨p, 0, none⟩), .int .i64 (n : Int), .pointer (some ⟨w.heap.size, 0, none⟩), undef, undef, .pointer (some ⟨q5, 0, none⟩), .pointer (some ⟨p, 0, none⟩), .pointer (some ⟨p, 0, none⟩), .pointer (some ⟨p, 5, none⟩), .slice (some ⟨gt, 0, none⟩) tr.length ct, .int .i64 (n : Int), .slice (some ⟨gt, n * 4, none⟩) (tr.length - n) (ct - n), .func (.func 144) #[] #[.pointer (some ⟨w.heap.size + 1, 0, none⟩)], .int .i64 x.1, .agg #[.int .i64 (x.2.1.1 : Int), .int .i64 (x.2.1.2.1 : Int), .int .i64 x.2.1.2.2.1, .int .i64 x.2.1.2.2.2], undef, undef, undef, undef, undef, undef, undef, undef, undef, undef, undef, undef, undef, undef, undef, undef, undef, undef, undef, undef, undef, undef, undef, undef, undef, undef, undef, undef, undef, undef, undef, undef, undef, undef, undef, undef], defers := [] })
    (fun x a' _ A B row h1 h2 h3 => by
      obtain ⟨q5, e1, e2, e3⟩ := h1
      refine ⟨q5, e1, (h2.block q5 (lt_of_block e2) (fun e => ?_)).trans e2, e3⟩
      obtain ⟨o, ho, hc⟩ := (h3 q5 e.symm).2
      rw [e2] at ho
      rw [← Option.some.inj ho] at hc
      cases hc) ?assign ?body ?done ?stop
  case assign =>
    rintro l pre ⟨ix, ⟨⟨ch, pa, le, so⟩, hx⟩⟩ W K hI hK
    have hszW := hI.sz
    have hgW : gt < W.heap.size := by omega
    dsimp only [stpEnc]
    gi_wp2
    exact hK _ _ ((KeepsOthers.alloc _ _).from _) ⟨(gb_alloc W _ none).block _ hgW (by simp), (gb_alloc W _ none).block _ (by omega) (by simp)⟩ (hI.gb HOWN.out (gb_alloc W _ none) (fun k e => by cases e)) ⟨W.heap.size, by omega, (MapKept.heap_alloc W _).1, rfl⟩
  case body =>
    rintro l pre ⟨ix, ⟨⟨ch, pa, le, so⟩, hx⟩⟩ a' W hl ⟨r, hr⟩ hI ⟨q5, hq5, hblk, rfl⟩ hlt2
    have hchN : ch < s.n := hx.1
    have hpaN : pa < s.n := hx.2
    have h0n : 0 < s.n := by omega
    have hru := H.out.rows.ru; rw [H.out.n.2.1] at hru
    have hrl := H.out.rows.rl; rw [H.out.n.2.2.1] at hrl
    have hrs := H.out.rows.rs; rw [H.out.n.2.2.2] at hrs
    obtain ⟨gu, cu, eu, -, -, -, -, -⟩ := row_cells hru h0n
    obtain ⟨gl, cl, el, -, -, -, -, -⟩ := row_cells hrl h0n
    obtain ⟨gs, cs, es, -, -, -, -, -⟩ := row_cells hrs h0n
    have bu : R.vu.ownBlock = some gu := by rw [eu]; rfl
    have bl : R.vl.ownBlock = some gl := by rw [el]; rfl
    have bS : R.vs.ownBlock = some gs := by rw [es]; rfl
    have ou : R.own p gu := .inr (.inr (.inr (.inl bu)))
    have ol : R.own p gl := .inr (.inr (.inr (.inr (.inl bl))))
    have os : R.own p gs := .inr (.inr (.inr (.inr (.inr (.inl bS)))))
    have nu := H.out.rows.ap.u gu bu
    have nl := H.out.rows.ap.l gl bl
    have ns := H.out.rows.ap.s gs bS
    have lu := HOWN.out gu ou
    have ll := HOWN.out gl ol
    have ls := HOWN.out gs os
    have cW : ∀ o, W.cell? ⟨p, o, none⟩ = w.cell? ⟨p, o, none⟩ := fun o => World.cell?_of_block hI.pb
    have p1 : W.cell? ⟨p, 1, none⟩ = some (.slice (some ⟨gu, 0, none⟩) s.n cu) := by rw [cW, H.out.rows.cells.2.1, eu]
    have p2 : W.cell? ⟨p, 2, none⟩ = some (.slice (some ⟨gl, 0, none⟩) s.n cl) := by rw [cW, H.out.rows.cells.2.2.1, el]
    have p3 : W.cell? ⟨p, 3, none⟩ = some (.slice (some ⟨gs, 0, none⟩) s.n cs) := by rw [cW, H.out.rows.cells.2.2.2.1, es]
    have b0 : W.cell? ⟨w.heap.size, 0, none⟩ = some (.pointer (some ⟨p, 0, none⟩)) := by have h := hI.bx; simp [World.cell?, h]
    have j0 : W.cell? ⟨q5, 0, none⟩ = some (.int .i64 (ch : Int)) := by simp [World.cell?, hblk]
    have j1 : W.cell? ⟨q5, 1, none⟩ = some (.int .i64 (pa : Int)) := by simp [World.cell?, hblk]
    have j2 : W.cell? ⟨q5, 2, none⟩ = some (.int .i64 le) := by simp [World.cell?, hblk]
    have j3 : W.cell? ⟨q5, 3, none⟩ = some (.int .i64 so) := by simp [World.cell?, hblk]
    obtain ⟨uu, hcu⟩ := (gr_cell (hI.ru gu bu)).1 ch hchN
    have hfu := (gr_cell (hI.ru gu bu)).2 ch
    have i0 : (0 : Int) ≤ (ch : Int) := by omega
    have i1 : (ch : Int) < (s.n : Int) := by omega
    have i2 : (0 : Int) ≤ (pa : Int) := by omega
    have i3 : (pa : Int) < (s.n : Int) := by omega
    have lq := lt_of_block hblk
    have hup : gu ≠ p := nu.1
    have hlp : gl ≠ p := nl.1
    have hsp : gs ≠ p := ns.1
    have hls : gl ≠ gs := fun e => nl.2.2.1 (by rw [e]; exact bS)
    have hgne : gt ≠ gu ∧ gt ≠ gl ∧ gt ≠ gs := by
      have h1 := H.out.rows.ap.t gt (by rw [et]; rfl)
      exact ⟨fun e => nu.2.2.2.2 (by rw [← e, et]; rfl), fun e => nl.2.2.2 (by rw [← e, et]; rfl), fun e => ns.2.2 (by rw [← e, et]; rfl)⟩
    gi_wp2_with fail
    refine startIn_ (n := 10) (S := fun w' => w'.cell? ⟨w.heap.size, 0, none⟩ = some (.pointer (some ⟨p, 0, none⟩)) ∧ w'.cell? ⟨p, 1, none⟩ = some (.slice (some ⟨gu, 0, none⟩) s.n cu) ∧ w'.cell? ⟨q5, 0, none⟩ = some (.int .i64 (ch : Int))) (ds := [9]) (bs 10 0) (by kernel_rfl) rfl rfl ⟨b0, p1, j0⟩ (fun hHeld => ?_) (by rfl) (fun _ _ h => h)
    refine pu 4 19 (bs 10 16) ?_
    refine pu 6 21 (bs 10 80) ?_
    refine tk 0 15 (bs 10 81) hHeld ?_
    refine pu 1 16 (bs 10 83) ?_
    refine pu 2 17 (bs 10 87) ?_
    refine tk 3 18 (bs 10 95) hHeld ?_
    refine tk 5 20 (bs 10 127) hHeld ?_
    refine tk 7 22 (bs 10 255) hHeld ?_
    refine pu 8 23 (bs 10 511) ?_
    refine last_ (i := 9) (N := none) (bs 10 1023) rfl rfl (by kernel_rfl) (by decide) (fun K hK => ?_)
    refine skip_ (w1 := ?_) (by rfl) rfl ?_ ?_
    rotate_left
    · go_simp
      rfl
    refine hK.out _ _ ?_
    clear hK K
    refine done_ (by kernel_rfl) ?_
    obtain ⟨W3, hW3⟩ : ∃ W3, W3 = (W.setCell ⟨gu, ch, none⟩ (.int .i64 (ch : Int))).drew := ⟨_, rfl⟩
    rw [← hW3]
    have TU : Tn (fun z => z = gu) W W3 := by rw [hW3]; exact Tn.drew (Tn.set (O := fun z => z = gu) W gu ch _ (.inl rfl))
    have hI3 : BkI w p R s.n W3 := by rw [hW3]; exact (hI.set HOWN.out ou nu.1 _ _).drew
    have hKO3 : KeepsOthers W W3 := by rw [hW3]; exact (KeepsOthers.setCell _ _ _).trans (KeepsOthers.drew _)
    have K4 := Lib.hid (show ∀ X, Tn (fun z => z = gl ∨ z = gs) W3 X → X.cell? ⟨w.heap.size, 0, none⟩ = some (.pointer (some ⟨p, 0, none⟩)) ∧ X.cell? ⟨p, 2, none⟩ = some (.slice (some ⟨gl, 0, none⟩) s.n cl) ∧ X.cell? ⟨p, 3, none⟩ = some (.slice (some ⟨gs, 0, none⟩) s.n cs) ∧ X.cell? ⟨q5, 1, none⟩ = some (.int .i64 (pa : Int)) ∧ X.cell? ⟨q5, 2, none⟩ = some (.int .i64 le) ∧ X.cell? ⟨q5, 3, none⟩ = some (.int .i64 so) from fun X hT => by
      have s3 := TU.size
      have hs := hI.sz
      have go : ∀ q o, q < W.heap.size → q ≠ gu → q ≠ gl → q ≠ gs → X.cell? ⟨q, o, none⟩ = W.cell? ⟨q, o, none⟩ := fun q o h1 h2 h3 h4 => (hT.cell (by omega) (fun e => e.elim h3 h4) o).trans (TU.cell h1 h2 o)
      exact ⟨(go _ 0 (by omega) (by omega) (by omega) (by omega)).trans b0, (go p 2 (by omega) (Ne.symm hup) (Ne.symm hlp) (Ne.symm hsp)).trans p2, (go p 3 (by omega) (Ne.symm hup) (Ne.symm hlp) (Ne.symm hsp)).trans p3, (go q5 1 lq (by omega) (by omega) (by omega)).trans j1, (go q5 2 lq (by omega) (by omega) (by omega)).trans j2, (go q5 3 lq (by omega) (by omega) (by omega)).trans j3⟩)
    obtain ⟨ul, hcl⟩ := (gr_cell (hI3.rl gl bl)).1 pa hpaN
    have hfl := (gr_cell (hI3.rl gl bl)).2 pa
    obtain ⟨us, hcs⟩ := (gr_cell (hI3.rs gs bS)).1 pa hpaN
    have hfs := (gr_cell (hI3.rs gs bS)).2 pa
    clear hW3 p1 p2 p3 b0 j0 j1 j2 j3 hcu hfu hHeld
    gi_wp2_with fail
    refine startIn_ (n := 20) (S := fun w' => w'.cell? ⟨w.heap.size, 0, none⟩ = some (.pointer (some ⟨p, 0, none⟩)) ∧ w'.cell? ⟨p, 2, none⟩ = some (.slice (some ⟨gl, 0, none⟩) s.n cl) ∧ w'.cell? ⟨p, 3, none⟩ = some (.slice (some ⟨gs, 0, none⟩) s.n cs) ∧ w'.cell? ⟨q5, 1, none⟩ = some (.int .i64 (pa : Int)) ∧ w'.cell? ⟨q5, 2, none⟩ = some (.int .i64 le) ∧ w'.cell? ⟨q5, 3, none⟩ = some (.int .i64 so)) (ds := [19]) (bs 20 0) (by kernel_rfl) rfl rfl ⟨(K4.out _ (Tn.refl _ _).drew).1, (K4.out _ (Tn.refl _ _).drew).2.1, (K4.out _ (Tn.refl _ _).drew).2.2.1, (K4.out _ (Tn.refl _ _).drew).2.2.2.1, (K4.out _ (Tn.refl _ _).drew).2.2.2.2.1, (K4.out _ (Tn.refl _ _).drew).2.2.2.2.2⟩ (fun hHeld => ?_) (by rfl) (fun _ _ h => h)
    refine pu 4 28 (bs 20 16) ?_
    refine pu 10 34 (bs 20 1040) ?_
    refine pu 12 36 (bs 20 5136) ?_
    refine pu 14 38 (bs 20 21520) ?_
    refine tk 0 24 (bs 20 21521) hHeld ?_
    refine pu 1 25 (bs 20 21523) ?_
    refine pu 2 26 (bs 20 21527) ?_
    refine tk 3 27 (bs 20 21535) hHeld ?_
    refine tk 5 29 (bs 20 21567) hHeld ?_
    refine tk 6 30 (bs 20 21631) hHeld ?_
    refine pu 7 31 (bs 20 21759) ?_
    refine pu 8 32 (bs 20 22015) ?_
    refine tk 9 33 (bs 20 22527) hHeld ?_
    refine tk 11 35 (bs 20 24575) hHeld ?_
    refine tk 13 37 (bs 20 32767) hHeld ?_
    refine pu 16 40 (bs 20 98303) ?_
    refine tk 15 39 (bs 20 131071) hHeld ?_
    refine one_ (i := 17) (N := none) (bs 20 262143) rfl rfl (by kernel_rfl) (by decide) (fun K hK => ?_)
    refine skip_ (w1 := ?_) (by rfl) rfl ?_ ?_
    rotate_left
    · go_simp
      rfl
    refine hK.out _ _ ⟨(K4.out _ ((Tn.refl _ _).drew.trans (Tn.set _ _ _ _ (.inl (.inl rfl))))).1, (K4.out _ ((Tn.refl _ _).drew.trans (Tn.set _ _ _ _ (.inl (.inl rfl))))).2.1, (K4.out _ ((Tn.refl _ _).drew.trans (Tn.set _ _ _ _ (.inl (.inl rfl))))).2.2.1, (K4.out _ ((Tn.refl _ _).drew.trans (Tn.set _ _ _ _ (.inl (.inl rfl))))).2.2.2.1, (K4.out _ ((Tn.refl _ _).drew.trans (Tn.set _ _ _ _ (.inl (.inl rfl))))).2.2.2.2.1, (K4.out _ ((Tn.refl _ _).drew.trans (Tn.set _ _ _ _ (.inl (.inl rfl))))).2.2.2.2.2⟩ (fun hHeld => ?_)
    clear hK K
    refine pu 18 41 (bs 20 524287) ?_
    refine last_ (i := 19) (N := none) (bs 20 1048575) rfl rfl (by kernel_rfl) (by decide) (fun K hK => ?_)
    refine skip_ (w1 := ?_) (by rfl) rfl ?_ ?_
    rotate_left
    · go_simp
      rfl
    refine hK.out _ _ ?_
    clear hK K
    refine done_ (by kernel_rfl) ?_
    gi_wp2
    have hs := hI.sz
    refine ⟨?_, ?_, ?_⟩
    · exact (((hKO3.trans (KeepsOthers.setCell _ _ _)).trans (KeepsOthers.setCell _ _ _)).trans (KeepsOthers.drew _)).from _
    · have T : Tn (fun z => z = gu ∨ z = gl ∨ z = gs) W (((W3.setCell ⟨gl, pa, none⟩ (.int .i64 le)).setCell ⟨gs, pa, none⟩ (.int .i64 so)).drew) := (((TU.mono (fun z e => .inl (.inl e))).trans (Tn.set W3 gl pa (.int .i64 le) (.inl (.inr (.inl rfl))))).trans (Tn.set _ gs pa (.int .i64 so) (.inl (.inr (.inr rfl))))).drew
      have nT : ∀ k, k ≠ gu → k ≠ gl → k ≠ gs → ¬ (k = gu ∨ k = gl ∨ k = gs) := fun k a b c e => e.elim a (fun e => e.elim b c)
      exact ⟨T.block _ (by omega) (nT _ hgne.1 hgne.2.1 hgne.2.2), T.block _ (by omega) (nT _ (by omega) (by omega) (by omega))⟩
    · exact ((hI3.set HOWN.out ol nl.1 _ _).set HOWN.out os ns.1 _ _).drew
  case done =>
    rintro D ys W hD - hI hK
    have cW : ∀ o, W.cell? ⟨p, o, none⟩ = w.cell? ⟨p, o, none⟩ := fun o => World.cell?_of_block hI.pb
    have q5 : W.cell? ⟨p, 5, none⟩ = some (.slice (some ⟨gt, 0, none⟩) tr.length ct) := by rw [cW, p5]; rw [htr]
    have f5 : W.frozen? ⟨p, 5, none⟩ = false := (World.frozen?_of_block hI.pb).trans (H.out.rows.cells.2.2.2.2.2.2 5)
    have b0 : W.cell? ⟨w.heap.size, 0, none⟩ = some (.pointer (some ⟨p, 0, none⟩)) := by have h := hI.bx; simp [World.cell?, h]
    have TW := hI.tn
    gi_wp2_with fail
    refine startWn_ (n := 10) (S := fun w' => w'.cell? ⟨w.heap.size, 0, none⟩ = some (.pointer (some ⟨p, 0, none⟩)) ∧ w'.cell? ⟨p, 5, none⟩ = some (.slice (some ⟨gt, 0, none⟩) tr.length ct)) (ds := [9]) (bs 10 0) (by kernel_rfl) rfl rfl ⟨b0, q5⟩ (fun hHeld => ?_)
    refine pu 5 47 (bs 10 32) ?_
    refine tk 0 42 (bs 10 33) hHeld ?_
    refine tk 1 43 (bs 10 35) hHeld ?_
    refine pu 2 44 (bs 10 39) ?_
    refine pu 3 45 (bs 10 47) ?_
    refine tk 4 46 (bs 10 63) hHeld ?_
    refine pu 6 48 (bs 10 127) ?_
    refine pu 7 49 (bs 10 255) ?_
    refine pu 8 50 (bs 10 511) ?_
    refine last_ (i := 9) (N := none) (bs 10 1023) rfl rfl (by kernel_rfl) (by decide) (fun K hK => ?_)
    refine skip_ (w1 := ?_) (by rfl) rfl ?_ ?_
    rotate_left
    · go_simp
      rfl
    refine hK.out _ _ ?_
    clear hK K
    refine done_ (by kernel_rfl) ?_
    gi_wp2
    have hlt := hI.sz
    refine ⟨by simp, .inl ⟨_, _, rfl, run_takeDeferred (by exact ((KeepsOthers.setCell _ _ _).trans (KeepsOthers.drew _)).same D _ hK rfl), ?_⟩⟩
    refine ⟨_, results_none rfl _ _ _, ⟨_, rfl⟩, ?_⟩
    exact Tn.then ((TW.trans (Tn.set _ _ _ _ (.inl (.inl rfl)))).drew) (Tn.gb (O := fun k => k = D) (grownBy_putObj' _ _ _) (fun k e => .inl (Option.some.inj e).symm)) (fun k e => .inr (by omega))
  case stop =>
    rintro D c pre W hD - hF hK
    exact hF.elim

set_option maxRecDepth 100000 in
set_option maxHeartbeats 16000000 in
theorem back_end (w : World) (base p : Nat) (ok : Nat → Prop) (R : Rows) (s : Sto) (h : StoAt w base p ok R s) (n : Nat) (tr : List Jn) (htc : R.ct = jnCells tr) (htr : R.nt = tr.length) (htN : ∀ x ∈ tr, x.1 < s.n ∧ x.2.1 < s.n) (htS : tr.length ≤ s.n) (hn : n ≤ tr.length) (gt ct : Nat) (et : R.vt = .slice (some ⟨gt, 0, none⟩) R.nt ct) (hlt : n = ct) (hct : R.nt ≤ ct) :
    Calls Tryz.prog 87 #[.pointer (some ⟨p, 0, none⟩), .int .i64 (n : Int)] w fun e w' => (∃ v, e = .returned v) ∧ Tn (R.own p) w w' := by
  have p5 := h.rows.cells.2.2.2.2.2.1
  have hp := h.rows.plt
  have hfew := h.few
  have hown : ∀ k, R.own p k → k < w.heap.size := fun k hk => (h.lt k hk).2
  rw [et] at p5
  have H := Lib.hid h; have HOWN := Lib.hid hown; have HTN := Lib.hid htN
  clear h hown htN
  subst hlt
  have n0 : (0 : Int) ≤ (n : Int) := by omega
  have n1 : (n : Int) ≤ (R.nt : Int) := by omega
  have n2 : (R.nt : Int) ≤ (n : Int) := by omega
  refine (callsIn_wide (n := 3)).1 ?_
  refine callsIn_of_wp_marks Tryz.func87 rfl trivial ?_ rfl
  simp only [Tryz.ntmps87, List.size_toArray, List.length_cons, List.length_nil, Nat.reduceAdd, Nat.reduceSub, Array.replicate_succ, Array.replicate_zero, List.push_toArray, List.append_toArray, List.nil_append, List.cons_append]
  gi_wp2_with fail
  refine ⟨trivial, (backward_in _ _ _ _ _).mono ?_⟩
  rintro e w' ⟨rfl, rfl⟩
  gi_wp2_with fail
  obtain ⟨W0, hW0⟩ : ∃ W0, W0 = (w.alloc (.cells #[.pointer (some ⟨p, 0, none⟩)] 70)).alloc (.cells #[.slice (some ⟨gt, 0, none⟩) (tr.length - n) 0] 124) := ⟨_, rfl⟩
  rw [← hW0]
  have hsz0 : W0.heap.size = w.heap.size + 2 := by rw [hW0]; simp
  have hg0 : Below w.heap.size w W0 := by rw [hW0]; exact bel_alloc (bel_alloc (Below.refl _ _) _) _
  have hbx0 : W0.heap[w.heap.size]? = some (.cells #[.pointer (some ⟨p, 0, none⟩)] 70 (0, 0)) := by
    rw [hW0]
    exact ((gb_alloc _ _ none).block w.heap.size (by simp) (by simp)).trans (MapKept.heap_alloc w _).1
  have hbs0 : W0.cell? ⟨w.heap.size + 1, 0, none⟩ = some (.slice (some ⟨gt, 0, none⟩) (tr.length - n) 0) := by
    have h1 := (MapKept.heap_alloc (w.alloc (.cells #[.pointer (some ⟨p, 0, none⟩)] 70)) (.cells #[.slice (some ⟨gt, 0, none⟩) (tr.length - n) 0] 124)).1
    rw [← hW0] at h1
    simp only [World.size_alloc] at h1
    simp [World.cell?, h1]
  have hI0 : BkI w p R s.n W0 := ⟨Tn.bel hg0 _, hg0.block p hp, fun g e => gr_blk (H.out.n.2.1 ▸ row_gr H.out.rows.ru g e) (hg0.block g (HOWN.out g (.inr (.inr (.inr (.inl e)))))), fun g e => gr_blk (H.out.n.2.2.1 ▸ row_gr H.out.rows.rl g e) (hg0.block g (HOWN.out g (.inr (.inr (.inr (.inr (.inl e))))))), fun g e => gr_blk (H.out.n.2.2.2 ▸ row_gr H.out.rows.rs g e) (hg0.block g (HOWN.out g (.inr (.inr (.inr (.inr (.inr (.inl e)))))))), by omega, hbx0⟩
  have hgtl : gt < w.heap.size := HOWN.out gt (.inr (.inr (.inr (.inr (.inr (.inr (by rw [et]; rfl)))))))
  have hgt0 : gt < W0.heap.size := by omega
  have hTV : TrV W0 gt (.slice (some ⟨gt, 0, none⟩) (tr.length - n) 0) (tr.drop n) := by
    have hz : tr.drop n = [] := List.drop_eq_nil_of_le (by omega)
    exact ⟨_, _, by rw [List.length_drop], fun hne => absurd hz hne⟩

  clear hW0
  refine wpIn_rangeFunc_ownH (F := Fence.wide) rfl (by omega) (gf := 144) (lb := #[.pointer (some ⟨w.heap.size + 1, 0, none⟩)]) rfl trivial (enters_of Tryz.func144 (by kernel_rfl) rfl)
    (backward_stops _ (w.heap.size + 1) gt s.n (.slice (some ⟨gt, 0, none⟩) (tr.length - n) 0) (tr.drop n) (by rw [List.length_drop]; omega) (fun x hx => HTN.out x (List.mem_of_mem_drop hx)) W0 (by omega) hgt0 hbs0 hTV) (fun h k => KeepT.trans h k) (keepT_b hgt0 (by omega)) (Below.refl _ _) (fun _ => rfl)
    (fun _ W => BkI w p R s.n W) (fun _ _ _ => False) (fun _ A B row h1 h2 h3 => h1.gb HOWN.out h2 (fun k e => by have := (h3 k e).1; omega)) (fun _ _ _ _ _ h _ _ => h) hI0
    (fun x a' W => ∃ q5, w.heap.size + 1 < q5 ∧ W.heap[q5]? = some (.cells #[.int .i64 (x.2.1.1 : Int), .int .i64 (x.2.1.2.1 : Int), .int .i64 x.2.1.2.2.1, .int .i64 x.2.1.2.2.2] 160 (0, 0)) ∧ a' = { tmps := #[.pointer (some ⟨p, 0, none⟩), .int .i64 (n : Int), .pointer (some ⟨w.heap.size, 0, none⟩), undef, undef, .pointer (some ⟨q5, 0, none⟩), .pointer (some ⟨p, 0, none⟩), .pointer (some ⟨p, 0, none⟩), .pointer (some ⟨p, 5, none⟩), .slice (some ⟨gt, 0, none⟩) tr.length n, .int .i64 (n : Int), .slice (some ⟨gt, 0, none⟩) (tr.length - n) 0, .func (.func 144) #[] #[.pointer (some ⟨w.heap.size + 1, 0, none⟩)], .int .i64 x.1, .agg #[.int .i64 (x.2.1.1 : Int), .int .i64 (x.2.1.2.1 : Int), .int .i64 x.2.1.2.2.1, .int .i64 x.2.1.2.2.2], undef, undef, undef, undef, undef, undef, undef, undef, undef, undef, undef, undef, undef, undef, undef, undef, undef, undef, undef, undef, undef, undef, undef, undef, undef, undef, undef, undef, undef, undef, undef, undef, undef, undef, undef, undef], defers := [] })
    (fun x a' _ A B row h1 h2 h3 => by
      obtain ⟨q5, e1, e2, e3⟩ := h1
      refine ⟨q5, e1, (h2.block q5 (lt_of_block e2) (fun e => ?_)).trans e2, e3⟩
      obtain ⟨o, ho, hc⟩ := (h3 q5 e.symm).2
      rw [e2] at ho
      rw [← Option.some.inj ho] at hc
      cases hc) ?assign ?body ?done ?stop
  case assign =>
    rintro l pre ⟨ix, ⟨⟨ch, pa, le, so⟩, hx⟩⟩ W K hI hK
    have hszW := hI.sz
    have hgW : gt < W.heap.size := by omega
    dsimp only [stpEnc]
    gi_wp2
    exact hK _ _ ((KeepsOthers.alloc _ _).from _) ⟨(gb_alloc W _ none).block _ hgW (by simp), (gb_alloc W _ none).block _ (by omega) (by simp)⟩ (hI.gb HOWN.out (gb_alloc W _ none) (fun k e => by cases e)) ⟨W.heap.size, by omega, (MapKept.heap_alloc W _).1, rfl⟩
  case body =>
    rintro l pre ⟨ix, ⟨⟨ch, pa, le, so⟩, hx⟩⟩ a' W hl ⟨r, hr⟩ hI ⟨q5, hq5, hblk, rfl⟩ hlt2
    have hchN : ch < s.n := hx.1
    have hpaN : pa < s.n := hx.2
    have h0n : 0 < s.n := by omega
    have hru := H.out.rows.ru; rw [H.out.n.2.1] at hru
    have hrl := H.out.rows.rl; rw [H.out.n.2.2.1] at hrl
    have hrs := H.out.rows.rs; rw [H.out.n.2.2.2] at hrs
    obtain ⟨gu, cu, eu, -, -, -, -, -⟩ := row_cells hru h0n
    obtain ⟨gl, cl, el, -, -, -, -, -⟩ := row_cells hrl h0n
    obtain ⟨gs, cs, es, -, -, -, -, -⟩ := row_cells hrs h0n
    have bu : R.vu.ownBlock = some gu := by rw [eu]; rfl
    have bl : R.vl.ownBlock = some gl := by rw [el]; rfl
    have bS : R.vs.ownBlock = some gs := by rw [es]; rfl
    have ou : R.own p gu := .inr (.inr (.inr (.inl bu)))
    have ol : R.own p gl := .inr (.inr (.inr (.inr (.inl bl))))
    have os : R.own p gs := .inr (.inr (.inr (.inr (.inr (.inl bS)))))
    have nu := H.out.rows.ap.u gu bu
    have nl := H.out.rows.ap.l gl bl
    have ns := H.out.rows.ap.s gs bS
    have lu := HOWN.out gu ou
    have ll := HOWN.out gl ol
    have ls := HOWN.out gs os
    have cW : ∀ o, W.cell? ⟨p, o, none⟩ = w.cell? ⟨p, o, none⟩ := fun o => World.cell?_of_block hI.pb
    have p1 : W.cell? ⟨p, 1, none⟩ = some (.slice (some ⟨gu, 0, none⟩) s.n cu) := by rw [cW, H.out.rows.cells.2.1, eu]
    have p2 : W.cell? ⟨p, 2, none⟩ = some (.slice (some ⟨gl, 0, none⟩) s.n cl) := by rw [cW, H.out.rows.cells.2.2.1, el]
    have p3 : W.cell? ⟨p, 3, none⟩ = some (.slice (some ⟨gs, 0, none⟩) s.n cs) := by rw [cW, H.out.rows.cells.2.2.2.1, es]
    have b0 : W.cell? ⟨w.heap.size, 0, none⟩ = some (.pointer (some ⟨p, 0, none⟩)) := by have h := hI.bx; simp [World.cell?, h]
    have j0 : W.cell? ⟨q5, 0, none⟩ = some (.int .i64 (ch : Int)) := by simp [World.cell?, hblk]
    have j1 : W.cell? ⟨q5, 1, none⟩ = some (.int .i64 (pa : Int)) := by simp [World.cell?, hblk]
    have j2 : W.cell? ⟨q5, 2, none⟩ = some (.int .i64 le) := by simp [World.cell?, hblk]
    have j3 : W.cell? ⟨q5, 3, none⟩ = some (.int .i64 so) := by simp [World.cell?, hblk]
    obtain ⟨uu, hcu⟩ := (gr_cell (hI.ru gu bu)).1 ch hchN
    have hfu := (gr_cell (hI.ru gu bu)).2 ch
    have i0 : (0 : Int) ≤ (ch : Int) := by omega
    have i1 : (ch : Int) < (s.n : Int) := by omega
    have i2 : (0 : Int) ≤ (pa : Int) := by omega
    have i3 : (pa : Int) < (s.n : Int) := by omega
    have lq := lt_of_block hblk
    have hup : gu ≠ p := nu.1
    have hlp : gl ≠ p := nl.1
    have hsp : gs ≠ p := ns.1
    have hls : gl ≠ gs := fun e => nl.2.2.1 (by rw [e]; exact bS)
    have hgne : gt ≠ gu ∧ gt ≠ gl ∧ gt ≠ gs := by
      have h1 := H.out.rows.ap.t gt (by rw [et]; rfl)
      exact ⟨fun e => nu.2.2.2.2 (by rw [← e, et]; rfl), fun e => nl.2.2.2 (by rw [← e, et]; rfl), fun e => ns.2.2 (by rw [← e, et]; rfl)⟩
    gi_wp2_with fail
    refine startIn_ (n := 10) (S := fun w' => w'.cell? ⟨w.heap.size, 0, none⟩ = some (.pointer (some ⟨p, 0, none⟩)) ∧ w'.cell? ⟨p, 1, none⟩ = some (.slice (some ⟨gu, 0, none⟩) s.n cu) ∧ w'.cell? ⟨q5, 0, none⟩ = some (.int .i64 (ch : Int))) (ds := [9]) (bs 10 0) (by kernel_rfl) rfl rfl ⟨b0, p1, j0⟩ (fun hHeld => ?_) (by rfl) (fun _ _ h => h)
    refine pu 4 19 (bs 10 16) ?_
    refine pu 6 21 (bs 10 80) ?_
    refine tk 0 15 (bs 10 81) hHeld ?_
    refine pu 1 16 (bs 10 83) ?_
    refine pu 2 17 (bs 10 87) ?_
    refine tk 3 18 (bs 10 95) hHeld ?_
    refine tk 5 20 (bs 10 127) hHeld ?_
    refine tk 7 22 (bs 10 255) hHeld ?_
    refine pu 8 23 (bs 10 511) ?_
    refine last_ (i := 9) (N := none) (bs 10 1023) rfl rfl (by kernel_rfl) (by decide) (fun K hK => ?_)
    refine skip_ (w1 := ?_) (by rfl) rfl ?_ ?_
    rotate_left
    · go_simp
      rfl
    refine hK.out _ _ ?_
    clear hK K
    refine done_ (by kernel_rfl) ?_
    obtain ⟨W3, hW3⟩ : ∃ W3, W3 = (W.setCell ⟨gu, ch, none⟩ (.int .i64 (ch : Int))).drew := ⟨_, rfl⟩
    rw [← hW3]
    have TU : Tn (fun z => z = gu) W W3 := by rw [hW3]; exact Tn.drew (Tn.set (O := fun z => z = gu) W gu ch _ (.inl rfl))
    have hI3 : BkI w p R s.n W3 := by rw [hW3]; exact (hI.set HOWN.out ou nu.1 _ _).drew
    have hKO3 : KeepsOthers W W3 := by rw [hW3]; exact (KeepsOthers.setCell _ _ _).trans (KeepsOthers.drew _)
    have K4 := Lib.hid (show ∀ X, Tn (fun z => z = gl ∨ z = gs) W3 X → X.cell? ⟨w.heap.size, 0, none⟩ = some (.pointer (some ⟨p, 0, none⟩)) ∧ X.cell? ⟨p, 2, none⟩ = some (.slice (some ⟨gl, 0, none⟩) s.n cl) ∧ X.cell? ⟨p, 3, none⟩ = some (.slice (some ⟨gs, 0, none⟩) s.n cs) ∧ X.cell? ⟨q5, 1, none⟩ = some (.int .i64 (pa : Int)) ∧ X.cell? ⟨q5, 2, none⟩ = some (.int .i64 le) ∧ X.cell? ⟨q5, 3, none⟩ = some (.int .i64 so) from fun X hT => by
      have s3 := TU.size
      have hs := hI.sz
      have go : ∀ q o, q < W.heap.size → q ≠ gu → q ≠ gl → q ≠ gs → X.cell? ⟨q, o, none⟩ = W.cell? ⟨q, o, none⟩ := fun q o h1 h2 h3 h4 => (hT.cell (by omega) (fun e => e.elim h3 h4) o).trans (TU.cell h1 h2 o)
      exact ⟨(go _ 0 (by omega) (by omega) (by omega) (by omega)).trans b0, (go p 2 (by omega) (Ne.symm hup) (Ne.symm hlp) (Ne.symm hsp)).trans p2, (go p 3 (by omega) (Ne.symm hup) (Ne.symm hlp) (Ne.symm hsp)).trans p3, (go q5 1 lq (by omega) (by omega) (by omega)).trans j1, (go q5 2 lq (by omega) (by omega) (by omega)).trans j2, (go q5 3 lq (by omega) (by omega) (by omega)).trans j3⟩)
    obtain ⟨ul, hcl⟩ := (gr_cell (hI3.rl gl bl)).1 pa hpaN
    have hfl := (gr_cell (hI3.rl gl bl)).2 pa
    obtain ⟨us, hcs⟩ := (gr_cell (hI3.rs gs bS)).1 pa hpaN
    have hfs := (gr_cell (hI3.rs gs bS)).2 pa
    clear hW3 p1 p2 p3 b0 j0 j1 j2 j3 hcu hfu hHeld
    gi_wp2_with fail
    refine startIn_ (n := 20) (S := fun w' => w'.cell? ⟨w.heap.size, 0, none⟩ = some (.pointer (some ⟨p, 0, none⟩)) ∧ w'.cell? ⟨p, 2, none⟩ = some (.slice (some ⟨gl, 0, none⟩) s.n cl) ∧ w'.cell? ⟨p, 3, none⟩ = some (.slice (some ⟨gs, 0, none⟩) s.n cs) ∧ w'.cell? ⟨q5, 1, none⟩ = some (.int .i64 (pa : Int)) ∧ w'.cell? ⟨q5, 2, none⟩ = some (.int .i64 le) ∧ w'.cell? ⟨q5, 3, none⟩ = some (.int .i64 so)) (ds := [19]) (bs 20 0) (by kernel_rfl) rfl rfl ⟨(K4.out _ (Tn.refl _ _).drew).1, (K4.out _ (Tn.refl _ _).drew).2.1, (K4.out _ (Tn.refl _ _).drew).2.2.1, (K4.out _ (Tn.refl _ _).drew).2.2.2.1, (K4.out _ (Tn.refl _ _).drew).2.2.2.2.1, (K4.out _ (Tn.refl _ _).drew).2.2.2.2.2⟩ (fun hHeld => ?_) (by rfl) (fun _ _ h => h)
    refine pu 4 28 (bs 20 16) ?_
    refine pu 10 34 (bs 20 1040) ?_
    refine pu 12 36 (bs 20 5136) ?_
    refine pu 14 38 (bs 20 21520) ?_
    refine tk 0 24 (bs 20 21521) hHeld ?_
    refine pu 1 25 (bs 20 21523) ?_
    refine pu 2 26 (bs 20 21527) ?_
    refine tk 3 27 (bs 20 21535) hHeld ?_
    refine tk 5 29 (bs 20 21567) hHeld ?_
    refine tk 6 30 (bs 20 21631) hHeld ?_
    refine pu 7 31 (bs 20 21759) ?_
    refine pu 8 32 (bs 20 22015) ?_
    refine tk 9 33 (bs 20 22527) hHeld ?_
    refine tk 11 35 (bs 20 24575) hHeld ?_
    refine tk 13 37 (bs 20 32767) hHeld ?_
    refine pu 16 40 (bs 20 98303) ?_
    refine tk 15 39 (bs 20 131071) hHeld ?_
    refine one_ (i := 17) (N := none) (bs 20 262143) rfl rfl (by kernel_rfl) (by decide) (fun K hK => ?_)
    refine skip_ (w1 := ?_) (by rfl) rfl ?_ ?_
    rotate_left
    · go_simp
      rfl
    refine hK.out _ _ ⟨(K4.out _ ((Tn.refl _ _).drew.trans (Tn.set _ _ _ _ (.inl (.inl rfl))))).1, (K4.out _ ((Tn.refl _ _).drew.trans (Tn.set _ _ _ _ (.inl (.inl rfl))))).2.1, (K4.out _ ((Tn.refl _ _).drew.trans (Tn.set _ _ _ _ (.inl (.inl rfl))))).2.2.1, (K4.out _ ((Tn.refl _ _).drew.trans (Tn.set _ _ _ _ (.inl (.inl rfl))))).2.2.2.1, (K4.out _ ((Tn.refl _ _).drew.trans (Tn.set _ _ _ _ (.inl (.inl rfl))))).2.2.2.2.1, (K4.out _ ((Tn.refl _ _).drew.trans (Tn.set _ _ _ _ (.inl (.inl rfl))))).2.2.2.2.2⟩ (fun hHeld => ?_)
    clear hK K
    refine pu 18 41 (bs 20 524287) ?_
    refine last_ (i := 19) (N := none) (bs 20 1048575) rfl rfl (by kernel_rfl) (by decide) (fun K hK => ?_)
    refine skip_ (w1 := ?_) (by rfl) rfl ?_ ?_
    rotate_left
    · go_simp
      rfl
    refine hK.out _ _ ?_
    clear hK K
    refine done_ (by kernel_rfl) ?_
    gi_wp2
    have hs := hI.sz
    refine ⟨?_, ?_, ?_⟩
    · exact (((hKO3.trans (KeepsOthers.setCell _ _ _)).trans (KeepsOthers.setCell _ _ _)).trans (KeepsOthers.drew _)).from _
    · have T : Tn (fun z => z = gu ∨ z = gl ∨ z = gs) W (((W3.setCell ⟨gl, pa, none⟩ (.int .i64 le)).setCell ⟨gs, pa, none⟩ (.int .i64 so)).drew) := (((TU.mono (fun z e => .inl (.inl e))).trans (Tn.set W3 gl pa (.int .i64 le) (.inl (.inr (.inl rfl))))).trans (Tn.set _ gs pa (.int .i64 so) (.inl (.inr (.inr rfl))))).drew
      have nT : ∀ k, k ≠ gu → k ≠ gl → k ≠ gs → ¬ (k = gu ∨ k = gl ∨ k = gs) := fun k a b c e => e.elim a (fun e => e.elim b c)
      exact ⟨T.block _ (by omega) (nT _ hgne.1 hgne.2.1 hgne.2.2), T.block _ (by omega) (nT _ (by omega) (by omega) (by omega))⟩
    · exact ((hI3.set HOWN.out ol nl.1 _ _).set HOWN.out os ns.1 _ _).drew
  case done =>
    rintro D ys W hD - hI hK
    have cW : ∀ o, W.cell? ⟨p, o, none⟩ = w.cell? ⟨p, o, none⟩ := fun o => World.cell?_of_block hI.pb
    have q5 : W.cell? ⟨p, 5, none⟩ = some (.slice (some ⟨gt, 0, none⟩) tr.length n) := by rw [cW, p5]; rw [htr]
    have f5 : W.frozen? ⟨p, 5, none⟩ = false := (World.frozen?_of_block hI.pb).trans (H.out.rows.cells.2.2.2.2.2.2 5)
    have b0 : W.cell? ⟨w.heap.size, 0, none⟩ = some (.pointer (some ⟨p, 0, none⟩)) := by have h := hI.bx; simp [World.cell?, h]
    have TW := hI.tn
    gi_wp2_with fail
    refine startWn_ (n := 10) (S := fun w' => w'.cell? ⟨w.heap.size, 0, none⟩ = some (.pointer (some ⟨p, 0, none⟩)) ∧ w'.cell? ⟨p, 5, none⟩ = some (.slice (some ⟨gt, 0, none⟩) tr.length n)) (ds := [9]) (bs 10 0) (by kernel_rfl) rfl rfl ⟨b0, q5⟩ (fun hHeld => ?_)
    refine pu 5 47 (bs 10 32) ?_
    refine tk 0 42 (bs 10 33) hHeld ?_
    refine tk 1 43 (bs 10 35) hHeld ?_
    refine pu 2 44 (bs 10 39) ?_
    refine pu 3 45 (bs 10 47) ?_
    refine tk 4 46 (bs 10 63) hHeld ?_
    refine pu 6 48 (bs 10 127) ?_
    refine pu 7 49 (bs 10 255) ?_
    refine pu 8 50 (bs 10 511) ?_
    refine last_ (i := 9) (N := none) (bs 10 1023) rfl rfl (by kernel_rfl) (by decide) (fun K hK => ?_)
    refine skip_ (w1 := ?_) (by rfl) rfl ?_ ?_
    rotate_left
    · go_simp
      rfl
    refine hK.out _ _ ?_
    clear hK K
    refine done_ (by kernel_rfl) ?_
    gi_wp2
    have hlt := hI.sz
    refine ⟨by simp, .inl ⟨_, _, rfl, run_takeDeferred (by exact ((KeepsOthers.setCell _ _ _).trans (KeepsOthers.drew _)).same D _ hK rfl), ?_⟩⟩
    refine ⟨_, results_none rfl _ _ _, ⟨_, rfl⟩, ?_⟩
    exact Tn.then ((TW.trans (Tn.set _ _ _ _ (.inl (.inl rfl)))).drew) (Tn.gb (O := fun k => k = D) (grownBy_putObj' _ _ _) (fun k e => .inl (Option.some.inj e).symm)) (fun k e => .inr (by omega))
  case stop =>
    rintro D c pre W hD - hF hK
    exact hF.elim

theorem back_calls (w : World) (base p : Nat) (ok : Nat → Prop) (R : Rows) (s : Sto) (h : StoAt w base p ok R s) (n : Nat) (hn : n ≤ R.nt) :
    Calls Tryz.prog 87 #[.pointer (some ⟨p, 0, none⟩), .int .i64 (n : Int)] w fun e w' => (∃ v, e = .returned v) ∧ Tn (R.own p) w w' := by
  obtain ⟨tr, h1, h2, h3, h4⟩ := h.tr
  have hS : tr.length ≤ s.n := by omega
  rcases h.rows.rt.2 with ⟨e, e0⟩ | ⟨gt, ct, cur, e, h5, h6, h7, -⟩
  · have ht0 : tr = [] := List.eq_nil_of_length_eq_zero (by omega)
    exact back_nil w base p ok R s h n tr h1 h2 h4 hS (by omega) e (by omega) ht0
  · by_cases hlt : n < ct
    · exact back_mid w base p ok R s h n tr h1 h2 h4 hS (by omega) gt ct e hlt h7
    · exact back_end w base p ok R s h n tr h1 h2 h4 hS (by omega) gt ct e (by omega) h7

end Go.Proofs.YtplnfepdikbpfaaGreatDoor
