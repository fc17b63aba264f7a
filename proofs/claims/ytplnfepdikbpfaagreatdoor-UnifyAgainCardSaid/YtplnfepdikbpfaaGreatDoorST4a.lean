/- What the Store's meet leans on: the row of pairs still to be met, the parts in memory, a measure out of fuel. No condition. -/
import Derived.Test.YtplnfepdikbpfaaGreatDoorST3d
namespace Go.Proofs.YtplnfepdikbpfaaGreatDoor
open Go.RowKit
open Go.Proofs.YtplnfepdikbpfaaGreatDoorW.PrintLast
set_option linter.unusedVariables false
set_option linter.unusedSimpArgs false

/-- A number that every least one meets. -/
theorem least_nat (P : Nat → Prop) : ∀ k, P k → ∃ k, P k ∧ ∀ j, P j → k ≤ j := by
  intro k
  induction k using Nat.strongRecOn with
  | _ k ih =>
    intro hk
    by_cases h : ∃ j, j < k ∧ P j
    · obtain ⟨j, hj, hp⟩ := h
      exact ih j hj hp
    · exact ⟨k, hk, fun j hj => Nat.le_of_not_lt fun hlt => h ⟨j, hlt, hj⟩⟩
theorem fuel_of : ∃ f : (Nat → Prop) → Nat, ∀ P, (∃ k, P k) → P (f P) ∧ ∀ j, P j → f P ≤ j := by
  have h : ∀ P : Nat → Prop, ∃ k, (∃ k, P k) → P k ∧ ∀ j, P j → k ≤ j := fun P => by
    by_cases h : ∃ k, P k
    · obtain ⟨k, hk⟩ := h
      obtain ⟨k, h1, h2⟩ := least_nat P k hk
      exact ⟨k, fun _ => ⟨h1, h2⟩⟩
    · exact ⟨0, fun h' => absurd h' h⟩
  exact ⟨fun P => Classical.choose (h P), fun P hP => Classical.choose_spec (h P) hP⟩

theorem info2 : (Tryz.prog.info? 127).map (fun i => (i.zero, i.size, i.bytes)) = some (some (.agg #[.int .i64 0, .int .i64 0]), 2, 16) := by kernel_rfl
def workCells (l : List (Nat × Nat)) : List Value := l.flatMap fun x => [.int .i64 (x.1 : Int), .int .i64 (x.2 : Int)]
theorem workCells_append (a b : List (Nat × Nat)) : workCells (a ++ b) = workCells a ++ workCells b := by simp [workCells]
theorem workCells_length (l : List (Nat × Nat)) : (workCells l).length = l.length * 2 := by
  induction l with
  | nil => rfl
  | cons t L ih => simp [workCells] at ih ⊢; omega

/-- A shorter slice of a row. -/
theorem row_cut {w : World} {base : Nat} {e : TypeId} {sz : Nat} {A : Option Addr} {n c : Nat} {xs ys : List Value} (m : Nat) (h : w.ownsRow base e sz (.slice A n c) n (xs ++ ys)) (hx : xs.length = m * sz) (hm : m ≤ n) (hn : 0 < n) : w.ownsRow base e sz (.slice A m c) m xs := by
  obtain ⟨h1, ⟨h2, h3⟩ | ⟨g, cap, cur, e1, h3, h4, h5, h6, h7, h8⟩⟩ := h
  · omega
  · injection e1 with e1 e2 e3
    subst e1; subst e3
    refine ⟨hx, .inr ⟨g, c, cur, rfl, h3, h4, by omega, h6, h7, ?_⟩⟩
    have h9 : cur.toList.take (m * sz) = (cur.toList.take (n * sz)).take (m * sz) := by
      rw [List.take_take]
      congr 1
      have := Nat.mul_le_mul_right sz hm
      omega
    rw [h9, h8, ← hx, List.take_left]

/-- The parts in memory. -/
theorem StoAt.node {w : World} {base p : Nat} {ok : Nat → Prop} {R : Rows} {s : Sto} (h : StoAt w base p ok R s) (hn : 0 < s.n) : ∃ gn c, R.vn = .slice (some ⟨gn, 0, none⟩) s.n c ∧ s.n ≤ c ∧ gn < w.heap.size ∧ ∀ x, x < s.n →
    ∃ A c', w.cell? ⟨gn, x * 6, none⟩ = some (.int .i64 (s.ndAt x).kind) ∧ w.cell? ⟨gn, x * 6 + 1, none⟩ = some (.string (S (s.ndAt x).mod)) ∧ w.cell? ⟨gn, x * 6 + 2, none⟩ = some (.string (S (s.ndAt x).name)) ∧ w.cell? ⟨gn, x * 6 + 3, none⟩ = some (.slice none 0 0) ∧
      w.cell? ⟨gn, x * 6 + 4, none⟩ = some (.int .i64 (s.ndAt x).var) ∧ w.cell? ⟨gn, x * 6 + 5, none⟩ = some (.slice A (s.ndAt x).kids.length c') ∧ (s.ndAt x).mod.length ≤ 281474976710656 ∧ (s.ndAt x).name.length ≤ 281474976710656 ∧
      RdN (fun b => ok b ∧ ¬ R.own p b) w (.slice A (s.ndAt x).kids.length c') (s.ndAt x).kids := by
  obtain ⟨L, h1, h2, h3⟩ := h.nd
  have hr := h.rows.rn
  rw [h.n.1] at hr
  obtain ⟨g, c, e, hc, -, hg, hcell, -⟩ := row_cells hr hn
  refine ⟨g, c, e, hc, hg, fun x hx => ?_⟩
  have hl : L.length = s.n := by have := congrArg List.length h1; simpa [Sto.n] using this
  have hxL : x < L.length := by omega
  have ex : s.ndAt x = L[x].1 := by
    unfold Sto.ndAt
    rw [← h1]
    simp [List.getD_eq_getElem?_getD, List.getElem?_eq_getElem hxL]
  have hm := h3 _ (List.getElem_mem hxL)
  rw [ex]
  have cc : ∀ j u, j < 6 → [Value.int .i64 L[x].1.kind, .string (S L[x].1.mod), .string (S L[x].1.name), .slice none 0 0, .int .i64 L[x].1.var, .slice L[x].2.1 L[x].1.kids.length L[x].2.2][j]? = some u → w.cell? ⟨g, x * 6 + j, none⟩ = some u := fun j u hj hu => hcell _ _ (by rw [h2, ndCells_at L x hxL j hj]; exact hu)
  exact ⟨L[x].2.1, L[x].2.2, cc 0 _ (by omega) rfl, cc 1 _ (by omega) rfl, cc 2 _ (by omega) rfl, cc 3 _ (by omega) rfl, cc 4 _ (by omega) rfl, cc 5 _ (by omega) rfl, hm.1, hm.2.1, hm.2.2⟩

/-- Two new blocks in either order. -/
structure TwoNew (w : World) (c1 c2 : Array Value) (T : TypeId) (s : Nat × Nat) (w' : World) : Prop where
  h1 : w'.heap[s.1]? = some (.cells c1 T (0, 0))
  h2 : w'.heap[s.2]? = some (.cells c2 T (0, 0))
  l1 : w.heap.size ≤ s.1
  l2 : w.heap.size ≤ s.2
  ne : s.1 ≠ s.2
  b : Below w.heap.size w w'
theorem TwoNew.ab (w : World) (c1 c2 : Array Value) (T : TypeId) : TwoNew w c1 c2 T (w.heap.size, w.heap.size + 1) ((w.drew.alloc (.cells c1 T)).alloc (.cells c2 T)) := by
  have e1 : (w.drew.alloc (.cells c1 T)).heap[w.heap.size]? = some (.cells c1 T (0, 0)) := (MapKept.heap_alloc w.drew (.cells c1 T)).1
  have e2 := (MapKept.heap_alloc (w.drew.alloc (.cells c1 T)) (.cells c2 T)).1
  have es : (w.drew.alloc (.cells c1 T)).heap.size = w.heap.size + 1 := by simp [drew_size]
  rw [es] at e2
  exact ⟨((gb_alloc (w.drew.alloc (.cells c1 T)) (.cells c2 T) none).block _ (by simp [drew_size]) (by simp)).trans e1, e2, Nat.le_refl _, Nat.le_succ _, by simp, bel_alloc (bel_alloc (bel_drew (Below.refl _ _)) _) _⟩
theorem TwoNew.ba (w : World) (c1 c2 : Array Value) (T : TypeId) : TwoNew w c1 c2 T (w.heap.size + 1, w.heap.size) ((w.drew.alloc (.cells c2 T)).alloc (.cells c1 T)) := by
  have h := TwoNew.ab w c2 c1 T
  exact ⟨h.h2, h.h1, h.l2, h.l1, Ne.symm h.ne, h.b⟩
theorem TwoNew.cells {w w' : World} {c1 c2 : Array Value} {T : TypeId} {s : Nat × Nat} (h : TwoNew w c1 c2 T s w') : (∀ j, w'.cell? ⟨s.1, j, none⟩ = c1[j]?) ∧ (∀ j, w'.cell? ⟨s.2, j, none⟩ = c2[j]?) ∧ (∀ j, w'.frozen? ⟨s.1, j, none⟩ = false) ∧ (∀ j, w'.frozen? ⟨s.2, j, none⟩ = false) := by
  have h1 := h.h1
  have h2 := h.h2
  refine ⟨fun j => ?_, fun j => ?_, fun j => ?_, fun j => ?_⟩ <;> simp [World.cell?, World.frozen?, h1, h2]

/-- The six cells of block r, written. -/
def put6 (W : World) (r : Nat) (a b c d e f : Value) : World := (((((W.setCell ⟨r, 0, none⟩ a).setCell ⟨r, 1, none⟩ b).setCell ⟨r, 2, none⟩ c).setCell ⟨r, 3, none⟩ d).setCell ⟨r, 4, none⟩ e).setCell ⟨r, 5, none⟩ f
theorem put6_gb (W : World) (r : Nat) (a b c d e f : Value) : W.grownBy (put6 W r a b c d e f) (some r) :=
  gb_trans (gb_trans (gb_trans (gb_trans (gb_trans (gb_set _ _ _ _) (gb_set _ _ _ _)) (gb_set _ _ _ _)) (gb_set _ _ _ _)) (gb_set _ _ _ _)) (gb_set _ _ _ _)
theorem bel6 {w W : World} (h : Below w.heap.size w W) {r : Nat} (hr : w.heap.size ≤ r) (a b c d e f : Value) : Below w.heap.size w (put6 W r a b c d e f) :=
  bel_set (bel_set (bel_set (bel_set (bel_set (bel_set h _ _ hr) _ _ hr) _ _ hr) _ _ hr) _ _ hr) _ _ hr
theorem put6_blk {W : World} {r : Nat} {T : TypeId} {x0 x1 x2 x3 x4 x5 a b c d e f : Value} (h : W.heap[r]? = some (.cells #[x0, x1, x2, x3, x4, x5] T (0, 0))) : (put6 W r a b c d e f).heap[r]? = some (.cells #[a, b, c, d, e, f] T (0, 0)) := by
  unfold put6
  simp [World.setCell, Array.getElem?_modify, h]
theorem six_cells {W : World} {r : Nat} {T : TypeId} {a b c d e f : Value} (h : W.heap[r]? = some (.cells #[a, b, c, d, e, f] T (0, 0))) : W.cell? ⟨r, 0, none⟩ = some a ∧ W.cell? ⟨r, 1, none⟩ = some b ∧ W.cell? ⟨r, 2, none⟩ = some c ∧ W.cell? ⟨r, 3, none⟩ = some d ∧ W.cell? ⟨r, 4, none⟩ = some e ∧ W.cell? ⟨r, 5, none⟩ = some f ∧ ∀ o, W.frozen? ⟨r, o, none⟩ = false := by
  refine ⟨?_, ?_, ?_, ?_, ?_, ?_, fun o => ?_⟩ <;> simp [World.cell?, World.frozen?, h]

/-- A part is stored into a block of its own, at a step of a region that draws. -/
theorem step_store6 {ops : Array Oper} {o : Oper} {act : Act} {K : Act → World → Prop} {Q : Exit → Act → World → Prop} {W : World} (hgd : o.guard = none) (hN : o.dst = none) (ad v : Operand) (ho : o.op = .store 130 ad v) (r : Nat) (a b c d e f : Value) (k : Int) (m n : ByteArray) (sl : Value) (va : Int) (A : Option Addr) (z y : Nat)
    (ea : a = .int .i64 k) (eb : b = .string m) (ec : c = .string n) (ed : d = .slice none 0 0) (ee : e = .int .i64 va) (ef : f = .slice A z y)
    (had : act.eval ad = .pointer (some ⟨r, 0, none⟩)) (hv : act.eval v = .agg #[a, b, c, d, e, f]) {x0 x1 x2 x3 x4 x5 : Value} (hb : W.heap[r]? = some (.cells #[x0, x1, x2, x3, x4, x5] 130 (0, 0)))
    (h : K act (put6 W r a b c d e f)) : if Region.wanted o (yielded ops act.tmps) = true then Oper.wp Tryz.prog o act W K Q else K (act.put none undef) W := by
  have hw : Region.wanted o (yielded ops act.tmps) = true := by simp [Region.wanted, hgd]
  obtain ⟨h0, h1, h2, h3, h4, h5, hf⟩ := six_cells hb
  subst ea eb ec ed ee ef
  refine skip_ (w1 := put6 W r _ _ _ _ _ _) hw hN ?_ h
  unfold execOp put6
  simp only [ho, had, hv]
  go_simp

/-! ### meet's plain step -/
theorem meetF_zero (work : List (Nat × Nat)) (s : Sto) : meetF 0 work s = none := rfl
theorem meetF_nil (f : Nat) (s : Sto) : meetF (f + 1) [] s = some (true, s) := rfl
theorem meetF_snoc (f : Nat) (work : List (Nat × Nat)) (x : Nat × Nat) (s : Sto) : meetF (f + 1) (work ++ [x]) s =
    if s.repAt x.1 = s.repAt x.2 then meetF f work s
    else if s.solidAt (s.repAt x.1) < 0 ∨ s.solidAt (s.repAt x.2) < 0 then meetF f work (s.merge (s.repAt x.1) (s.repAt x.2))
    else if clashB (s.ndAt (s.solidAt (s.repAt x.1)).toNat) (s.ndAt (s.solidAt (s.repAt x.2)).toNat) = true then some (false, s.merge (s.repAt x.1) (s.repAt x.2))
    else meetF f (work ++ (s.ndAt (s.solidAt (s.repAt x.1)).toNat).kids.zip (s.ndAt (s.solidAt (s.repAt x.2)).toNat).kids) (s.merge (s.repAt x.1) (s.repAt x.2)) := by
  rw [meetF]
  simp only [List.getLast?_concat, List.dropLast_concat]

end Go.Proofs.YtplnfepdikbpfaaGreatDoor
