/- Frames: a world in which a set of blocks alone has turned; rows and maps of the call's own under them. No condition. The unify package's Store in memory: its rows, its map, how they are written. No condition. The unify package's Store in memory: two of its slices turned in one statement, in any order. No condition. An append at a step of a region that draws its order. No condition. -/
import Derived.Test.YtplnfepdikbpfaaGreatDoorUO
import Derived.Maps.Own
import Derived.Test.YtplnfepdikbpfaaGreatDoorUA
import Derived.Maps.OwnOps
import Derived.Maps.OwnSet
import Derived.Maps.AppendAt
import Derived.Deep.RegionHeld3
import Derived.Deep.DrawnRows
namespace Go.Proofs.YtplnfepdikbpfaaGreatDoor
open Go.RowKit
set_option linter.unusedVariables false
set_option linter.unusedSimpArgs false

/-- A row of Bools, told by a number. -/
def bs (n m : Nat) : Array Bool := ((List.range n).map fun i => m / 2 ^ i % 2 == 1).toArray
theorem nA {α : Type _} {l : List α} {i : Nat} {a : α} : l.toArray.setIfInBounds i a = (l.set i a).toArray := List.setIfInBounds_toArray _ _ _
theorem nB {α : Type _} {x : α} {xs : List α} {a : α} : (x :: xs).set 0 a = a :: xs := rfl
theorem nC {α : Type _} {x : α} {xs : List α} {i : Nat} {a : α} : (x :: xs).set (i + 1) a = x :: xs.set i a := rfl


/-- W is w with new blocks, and with writes to blocks of O alone. -/
structure Tn (O : Nat → Prop) (w W : World) : Prop where
  os : W.os = w.os
  tape : W.tape = w.tape
  output : W.output = w.output
  size : w.heap.size ≤ W.heap.size
  block : ∀ k, k < w.heap.size → ¬ O k → W.heap[k]? = w.heap[k]?
theorem Tn.refl (O : Nat → Prop) (w : World) : Tn O w w := ⟨rfl, rfl, rfl, Nat.le_refl _, fun _ _ _ => rfl⟩
theorem Tn.then {O O' : Nat → Prop} {w W X : World} (h : Tn O w W) (k : Tn O' W X) (ho : ∀ k, O' k → O k ∨ w.heap.size ≤ k) : Tn O w X :=
  ⟨k.os.trans h.os, k.tape.trans h.tape, k.output.trans h.output, Nat.le_trans h.size k.size, fun i hi hn =>
    (k.block i (Nat.lt_of_lt_of_le hi h.size) (fun e => (ho i e).elim hn (fun h' => absurd hi (by omega)))).trans (h.block i hi hn)⟩
theorem Tn.trans {O : Nat → Prop} {w W X : World} (h : Tn O w W) (k : Tn O W X) : Tn O w X := h.then k fun _ h => .inl h
theorem Tn.mono {O O' : Nat → Prop} {w W : World} (h : Tn O w W) (ho : ∀ k, O k → O' k ∨ w.heap.size ≤ k) : Tn O' w W := (Tn.refl O' w).then h ho
theorem Tn.gb {O : Nat → Prop} {w W : World} {r : Option Nat} (h : w.grownBy W r) (hr : ∀ k, r = some k → O k ∨ w.heap.size ≤ k) : Tn O w W :=
  ⟨h.os, h.tape, h.output, h.size, fun k hk hn => h.block k hk (fun e => (hr k e.symm).elim hn (fun h' => absurd hk (by omega)))⟩
theorem Tn.bel {w W : World} (h : Below w.heap.size w W) (O : Nat → Prop) : Tn O w W := Tn.gb (gb_below h none) fun k e => by cases e
theorem Tn.alloc (O : Nat → Prop) (w : World) (o : Obj) : Tn O w (w.alloc o) := Tn.bel (bel_alloc (Below.refl _ _) _) O
theorem Tn.set {O : Nat → Prop} (w : World) (p o : Nat) (v : Value) (h : O p ∨ w.heap.size ≤ p) : Tn O w (w.setCell ⟨p, o, none⟩ v) := Tn.gb (gb_set w p o v) fun k e => by cases e; exact h
theorem Tn.below {O : Nat → Prop} {w W : World} {B : Nat} (h : Tn O w W) (hB : B ≤ w.heap.size) (ho : ∀ k, O k → B ≤ k) : Below B w W :=
  ⟨h.os, h.tape, h.output, h.size, fun k hk => h.block k (Nat.lt_of_lt_of_le hk hB) (fun e => by have := ho k e; omega)⟩
theorem Tn.cell {O : Nat → Prop} {w W : World} {b : Nat} (h : Tn O w W) (hb : b < w.heap.size) (hn : ¬ O b) (o : Nat) : W.cell? ⟨b, o, none⟩ = w.cell? ⟨b, o, none⟩ := World.cell?_of_block (h.block b hb hn)
theorem Tn.frozen {O : Nat → Prop} {w W : World} {b : Nat} (h : Tn O w W) (hb : b < w.heap.size) (hn : ¬ O b) (o : Nat) : W.frozen? ⟨b, o, none⟩ = w.frozen? ⟨b, o, none⟩ := World.frozen?_of_block (h.block b hb hn)
theorem Tn.drew {O : Nat → Prop} {w W : World} (h : Tn O w W) : Tn O w W.drew := ⟨h.os, h.tape, h.output, h.size, h.block⟩
theorem Tn.drewN {O : Nat → Prop} {w W : World} (h : Tn O w W) (n : Nat) : Tn O w (W.drewN n) := ⟨h.os, h.tape, h.output, h.size, h.block⟩

theorem row_lt {w : World} {base : Nat} {e : TypeId} {sz : Nat} {v : Value} {n : Nat} {xs : List Value} (h : w.ownsRow base e sz v n xs) : ∀ k, v.ownBlock = some k → base ≤ k ∧ k < w.heap.size := h.lt
theorem row_turn {O : Nat → Prop} {w W : World} {base : Nat} {e : TypeId} {sz : Nat} {v : Value} {n : Nat} {xs : List Value} (h : w.ownsRow base e sz v n xs) (hT : Tn O w W) (hn : ∀ k, v.ownBlock = some k → ¬ O k) : W.ownsRow base e sz v n xs := by
  have hl := h.lt
  obtain ⟨h1, h2 | ⟨g, cap, cur, rfl, h3, h4, h5⟩⟩ := h
  · exact ⟨h1, .inl h2⟩
  · exact ⟨h1, .inr ⟨g, cap, cur, rfl, h3, (hT.block g (hl g rfl).2 (hn g rfl)).trans h4, h5⟩⟩
theorem map_turn {H : Type} {P : Program} {kt : TypeId} {R : Value → Option (DataW H × List MemPlace)} {O : Nat → Prop} {w W : World} {b n : Nat} {D : DataW H} (h : w.ownsMap P kt R b n D) (hT : Tn O w W) (hn : ¬ O b) : W.ownsMap P kt R b n D := by
  have hl := h.lt
  obtain ⟨es, clock, h1, h2⟩ := h
  exact ⟨es, clock, (hT.block b hl hn).trans h1, h2⟩
/-- The cells of a row. -/
theorem row_cells {w : World} {base : Nat} {e : TypeId} {sz : Nat} {v : Value} {n : Nat} {xs : List Value} (h : w.ownsRow base e sz v n xs) (hn : 0 < n) : ∃ g c, v = .slice (some ⟨g, 0, none⟩) n c ∧ n ≤ c ∧ base ≤ g ∧ g < w.heap.size ∧
    (∀ j u, xs[j]? = some u → w.cell? ⟨g, j, none⟩ = some u) ∧ (∀ o, w.frozen? ⟨g, o, none⟩ = false) := by
  have hl := h.lt
  have hc := fun g => World.ownsRow.cells h (g := g)
  rcases h.2 with ⟨-, h0⟩ | ⟨g, cap, cur, rfl, h3, h4, h5, -⟩
  · omega
  · refine ⟨g, cap, rfl, h5, h3, (hl g rfl).2, fun j u hj => ?_, fun o => by simp [World.frozen?, h4]⟩
    have := hc g rfl j u hj
    have ha : (⟨g, 0, none⟩ : Addr).add j = ⟨g, j, none⟩ := by unfold Addr.add; split <;> simp_all
    rwa [ha] at this
theorem row_shape {w : World} {base : Nat} {e : TypeId} {sz : Nat} {v : Value} {n : Nat} {xs : List Value} (h : w.ownsRow base e sz v n xs) : ∃ A c, v = .slice A n c ∧ n ≤ c ∧ (n = 0 ∨ ∃ g, A = some ⟨g, 0, none⟩) := by
  rcases h.2 with ⟨rfl, rfl⟩ | ⟨g, cap, cur, rfl, h3, h4, h5, -⟩
  · exact ⟨none, 0, rfl, Nat.le_refl _, .inl rfl⟩
  · exact ⟨some ⟨g, 0, none⟩, cap, rfl, h5, .inr ⟨g, rfl⟩⟩
theorem row_len {w : World} {base : Nat} {e : TypeId} {sz : Nat} {v : Value} {n : Nat} {xs : List Value} (h : w.ownsRow base e sz v n xs) : xs.length = n * sz := h.1

/-- A cell of a row is written. -/
theorem row_set {w : World} {base : Nat} {e : TypeId} {sz : Nat} {v : Value} {n : Nat} {xs : List Value} (h : w.ownsRow base e sz v n xs) {g : Nat} (hg : v.ownBlock = some g) (i : Nat) (u : Value) (hi : i < xs.length) :
    (w.setCell ⟨g, i, none⟩ u).ownsRow base e sz v n (xs.set i u) := by
  obtain ⟨h1, ⟨rfl, rfl⟩ | ⟨g', cap, cur, rfl, h3, h4, h5, h6, h7, h8⟩⟩ := h
  · cases hg
  · obtain rfl : g' = g := by simpa [Value.ownBlock] using hg
    refine ⟨by simpa using h1, .inr ⟨g', cap, cur.setIfInBounds i u, rfl, h3, ?_, h5, h6, by simpa using h7, ?_⟩⟩
    · simp [World.setCell, Array.getElem?_modify, h4]
    · rw [← h8, Array.toList_setIfInBounds, List.take_set]

/-- A slice of ints that lies somewhere. -/
def RdN (ok : Nat → Prop) (w : World) (v : Value) (l : List Nat) : Prop :=
  ∃ A c, v = .slice A l.length c ∧ l.length ≤ c ∧ l.length ≤ 1000 ∧ (l ≠ [] → ∃ b o, A = some ⟨b, o, none⟩ ∧ ok b ∧ ∀ (j u : Nat), l[j]? = some u → w.cell? ⟨b, o + j, none⟩ = some (.int .i64 (u : Int)))
theorem RdN.turn {ok ok' : Nat → Prop} {w W : World} {v : Value} {l : List Nat} (h : RdN ok w v l) (hk : ∀ b, ok b → ok' b) (hc : ∀ b o, ok b → W.cell? ⟨b, o, none⟩ = w.cell? ⟨b, o, none⟩) : RdN ok' W v l := by
  obtain ⟨A, c, h1, h2, h3, h4⟩ := h
  refine ⟨A, c, h1, h2, h3, fun hne => ?_⟩
  obtain ⟨b, o, h5, h6, h7⟩ := h4 hne
  exact ⟨b, o, h5, hk b h6, fun j u hj => (hc b _ h6).trans (h7 j u hj)⟩
theorem RdN.nil (ok : Nat → Prop) (w : World) : RdN ok w (.slice none 0 0) [] := ⟨none, 0, rfl, Nat.le_refl _, by simp, fun h => absurd rfl h⟩

end Go.Proofs.YtplnfepdikbpfaaGreatDoor

namespace Go.Proofs.YtplnfepdikbpfaaGreatDoor
open Go.RowKit
open Go.Maps (Keyed)
set_option linter.unusedVariables false
set_option linter.unusedSimpArgs false

/-- The Store's slices and its map: nodes, up, least, solid, trail; how many elements, which cells. -/
structure Rows where
  vn : Value
  vu : Value
  vl : Value
  vs : Value
  vt : Value
  m : Nat
  nn : Nat
  nu : Nat
  nl : Nat
  ns : Nat
  nt : Nat
  cn : List Value
  cu : List Value
  cl : List Value
  cs : List Value
  ct : List Value
  mm : Nat
  D : DataW Unit
/-- The blocks that are the Store's own. -/
def Rows.own (R : Rows) (p k : Nat) : Prop := k = p ∨ k = R.m ∨ R.vn.ownBlock = some k ∨ R.vu.ownBlock = some k ∨ R.vl.ownBlock = some k ∨ R.vs.ownBlock = some k ∨ R.vt.ownBlock = some k
/-- .. each another one. -/
structure Rows.Apart (R : Rows) (p : Nat) : Prop where
  pm : p ≠ R.m
  n : ∀ k, R.vn.ownBlock = some k → k ≠ p ∧ k ≠ R.m ∧ R.vu.ownBlock ≠ some k ∧ R.vl.ownBlock ≠ some k ∧ R.vs.ownBlock ≠ some k ∧ R.vt.ownBlock ≠ some k
  u : ∀ k, R.vu.ownBlock = some k → k ≠ p ∧ k ≠ R.m ∧ R.vl.ownBlock ≠ some k ∧ R.vs.ownBlock ≠ some k ∧ R.vt.ownBlock ≠ some k
  l : ∀ k, R.vl.ownBlock = some k → k ≠ p ∧ k ≠ R.m ∧ R.vs.ownBlock ≠ some k ∧ R.vt.ownBlock ≠ some k
  s : ∀ k, R.vs.ownBlock = some k → k ≠ p ∧ k ≠ R.m ∧ R.vt.ownBlock ≠ some k
  t : ∀ k, R.vt.ownBlock = some k → k ≠ p ∧ k ≠ R.m
structure RowsAt (w : World) (base p : Nat) (R : Rows) : Prop where
  blk : w.heap[p]? = some (.cells #[R.vn, R.vu, R.vl, R.vs, .map (some R.m), R.vt] 126 (0, 0))
  rn : w.ownsRow base 130 6 R.vn R.nn R.cn
  ru : w.ownsRow base 3 1 R.vu R.nu R.cu
  rl : w.ownsRow base 3 1 R.vl R.nl R.cl
  rs : w.ownsRow base 3 1 R.vs R.ns R.cs
  rt : w.ownsRow base 160 4 R.vt R.nt R.ct
  rm : w.ownsMap Tryz.prog 3 (plainElem Tryz.prog 3) R.m R.mm R.D
  bp : base ≤ p
  bm : base ≤ R.m
  ap : R.Apart p

theorem RowsAt.lt {w : World} {base p : Nat} {R : Rows} (h : RowsAt w base p R) : ∀ k, R.own p k → base ≤ k ∧ k < w.heap.size := by
  rintro k (rfl | rfl | e | e | e | e | e)
  · exact ⟨h.bp, lt_of_block h.blk⟩
  · exact ⟨h.bm, h.rm.lt⟩
  · exact h.rn.lt k e
  · exact h.ru.lt k e
  · exact h.rl.lt k e
  · exact h.rs.lt k e
  · exact h.rt.lt k e
theorem RowsAt.turn {w W : World} {base p : Nat} {R : Rows} {O : Nat → Prop} (h : RowsAt w base p R) (hT : Tn O w W) (hn : ∀ k, R.own p k → ¬ O k) : RowsAt W base p R := by
  have hl := h.lt
  refine ⟨(hT.block p (hl p (.inl rfl)).2 (hn p (.inl rfl))).trans h.blk, row_turn h.rn hT fun k e => hn k ?_, row_turn h.ru hT fun k e => hn k ?_, row_turn h.rl hT fun k e => hn k ?_, row_turn h.rs hT fun k e => hn k ?_, row_turn h.rt hT fun k e => hn k ?_, map_turn h.rm hT (hn _ (.inr (.inl rfl))), h.bp, h.bm, h.ap⟩
  · exact .inr (.inr (.inl e))
  · exact .inr (.inr (.inr (.inl e)))
  · exact .inr (.inr (.inr (.inr (.inl e))))
  · exact .inr (.inr (.inr (.inr (.inr (.inl e)))))
  · exact .inr (.inr (.inr (.inr (.inr (.inr e)))))
theorem RowsAt.bel {w W : World} {base p : Nat} {R : Rows} (h : RowsAt w base p R) (hb : Below w.heap.size w W) : RowsAt W base p R := h.turn (Tn.bel hb (fun _ => False)) fun k _ => id
theorem RowsAt.alloc {w : World} {base p : Nat} {R : Rows} (h : RowsAt w base p R) (o : Obj) : RowsAt (w.alloc o) base p R := h.bel (bel_alloc (Below.refl _ _) _)
theorem RowsAt.drew {w : World} {base p : Nat} {R : Rows} (h : RowsAt w base p R) : RowsAt w.drew base p R := h.bel (bel_drew (Below.refl _ _))
theorem RowsAt.plt {w : World} {base p : Nat} {R : Rows} (h : RowsAt w base p R) : p < w.heap.size := lt_of_block h.blk
/-- The cells of the Store itself. -/
theorem RowsAt.cells {w : World} {base p : Nat} {R : Rows} (h : RowsAt w base p R) : w.cell? ⟨p, 0, none⟩ = some R.vn ∧ w.cell? ⟨p, 1, none⟩ = some R.vu ∧ w.cell? ⟨p, 2, none⟩ = some R.vl ∧ w.cell? ⟨p, 3, none⟩ = some R.vs ∧ w.cell? ⟨p, 4, none⟩ = some (.map (some R.m)) ∧ w.cell? ⟨p, 5, none⟩ = some R.vt ∧ (∀ o, w.frozen? ⟨p, o, none⟩ = false) := by
  have hb := h.blk
  refine ⟨?_, ?_, ?_, ?_, ?_, ?_, fun o => ?_⟩ <;> simp [World.cell?, World.frozen?, hb]

/-! ### A cell of a row is written -/
theorem RowsAt.setU {w : World} {base p : Nat} {R : Rows} (h : RowsAt w base p R) {g : Nat} (hg : R.vu.ownBlock = some g) (i : Nat) (v : Value) (hi : i < R.cu.length) : RowsAt (w.setCell ⟨g, i, none⟩ v) base p { R with cu := R.cu.set i v } := by
  have hT : Tn (fun k => k = g) w (w.setCell ⟨g, i, none⟩ v) := Tn.set _ _ _ _ (.inl rfl)
  obtain ⟨a1, a2, a3, a4, a5⟩ := h.ap.u g hg
  have hl := h.lt
  exact ⟨(hT.block p h.plt (Ne.symm a1)).trans h.blk, row_turn h.rn hT fun k e => (by rintro rfl; exact (h.ap.n _ e).2.2.1 hg), row_set h.ru hg i v hi, row_turn h.rl hT fun k e => (by rintro rfl; exact a3 e), row_turn h.rs hT fun k e => (by rintro rfl; exact a4 e), row_turn h.rt hT fun k e => (by rintro rfl; exact a5 e), map_turn h.rm hT (Ne.symm a2), h.bp, h.bm, ⟨h.ap.pm, h.ap.n, h.ap.u, h.ap.l, h.ap.s, h.ap.t⟩⟩
theorem RowsAt.setL {w : World} {base p : Nat} {R : Rows} (h : RowsAt w base p R) {g : Nat} (hg : R.vl.ownBlock = some g) (i : Nat) (v : Value) (hi : i < R.cl.length) : RowsAt (w.setCell ⟨g, i, none⟩ v) base p { R with cl := R.cl.set i v } := by
  have hT : Tn (fun k => k = g) w (w.setCell ⟨g, i, none⟩ v) := Tn.set _ _ _ _ (.inl rfl)
  obtain ⟨a1, a2, a4, a5⟩ := h.ap.l g hg
  have hl := h.lt
  exact ⟨(hT.block p h.plt (Ne.symm a1)).trans h.blk, row_turn h.rn hT fun k e => (by rintro rfl; exact (h.ap.n _ e).2.2.2.1 hg), row_turn h.ru hT fun k e => (by rintro rfl; exact (h.ap.u _ e).2.2.1 hg), row_set h.rl hg i v hi, row_turn h.rs hT fun k e => (by rintro rfl; exact a4 e), row_turn h.rt hT fun k e => (by rintro rfl; exact a5 e), map_turn h.rm hT (Ne.symm a2), h.bp, h.bm, ⟨h.ap.pm, h.ap.n, h.ap.u, h.ap.l, h.ap.s, h.ap.t⟩⟩
theorem RowsAt.setS {w : World} {base p : Nat} {R : Rows} (h : RowsAt w base p R) {g : Nat} (hg : R.vs.ownBlock = some g) (i : Nat) (v : Value) (hi : i < R.cs.length) : RowsAt (w.setCell ⟨g, i, none⟩ v) base p { R with cs := R.cs.set i v } := by
  have hT : Tn (fun k => k = g) w (w.setCell ⟨g, i, none⟩ v) := Tn.set _ _ _ _ (.inl rfl)
  obtain ⟨a1, a2, a5⟩ := h.ap.s g hg
  have hl := h.lt
  exact ⟨(hT.block p h.plt (Ne.symm a1)).trans h.blk, row_turn h.rn hT fun k e => (by rintro rfl; exact (h.ap.n _ e).2.2.2.2.1 hg), row_turn h.ru hT fun k e => (by rintro rfl; exact (h.ap.u _ e).2.2.2.1 hg), row_turn h.rl hT fun k e => (by rintro rfl; exact (h.ap.l _ e).2.2.1 hg), row_set h.rs hg i v hi, row_turn h.rt hT fun k e => (by rintro rfl; exact a5 e), map_turn h.rm hT (Ne.symm a2), h.bp, h.bm, ⟨h.ap.pm, h.ap.n, h.ap.u, h.ap.l, h.ap.s, h.ap.t⟩⟩
/-- What a store into a row turns. -/
theorem RowsAt.turned {w W : World} {base p : Nat} {R R' : Rows} (h : RowsAt w base p R) (i o : Nat) (v : Value) (hi : R.own p i) : Tn (R.own p) w (w.setCell ⟨i, o, none⟩ v) := Tn.set _ _ _ _ (.inl hi)

/-! ### The slices, one by one -/
/-- The trail's slice is another one. -/
theorem RowsAt.putT {w W X : World} {base p : Nat} {R : Rows} (h : RowsAt w base p R) (v : Value) (n : Nat) (c : List Value) (hv : W.ownsRow base 160 4 v n c) (hg : w.grownBy W R.vt.ownBlock) (hat : v.ownBlock = R.vt.ownBlock ∨ ∃ g, w.heap.size ≤ g ∧ v.ownBlock = some g)
    (hX : X = W.setCell ⟨p, 5, none⟩ v) : RowsAt X base p { R with vt := v, nt := n, ct := c } ∧ Tn (R.own p) w X ∧ (∀ k, Rows.own { R with vt := v, nt := n, ct := c } p k → R.own p k ∨ w.heap.size ≤ k) := by
  subst hX
  have hl := h.lt
  have hnew : ∀ k, v.ownBlock = some k → R.vt.ownBlock = some k ∨ w.heap.size ≤ k := fun k e => by
    rcases hat with e2 | ⟨g, hg', e2⟩
    · exact .inl (e2 ▸ e)
    · rw [e2] at e; exact .inr (by have := Option.some.inj e; omega)
  have hvp : ∀ k, v.ownBlock = some k → k ≠ p ∧ k ≠ R.m := fun k e => by
    rcases hnew k e with e | e
    · exact h.ap.t k e
    · have := (hl p (.inl rfl)).2
      have := h.rm.lt
      omega
  have hT1 : Tn (fun k => R.vt.ownBlock = some k) w W := Tn.gb hg fun k e => .inl e
  have hT2 : Tn (fun k => k = p ∨ R.vt.ownBlock = some k) w (W.setCell ⟨p, 5, none⟩ v) := (hT1.mono fun k e => .inl (.inr e)).trans (Tn.set _ _ _ _ (.inl (.inl rfl)))
  have hTv : Tn (fun k => k = p) W (W.setCell ⟨p, 5, none⟩ v) := Tn.set _ _ _ _ (.inl rfl)
  have hb : W.heap[p]? = some (.cells #[R.vn, R.vu, R.vl, R.vs, .map (some R.m), R.vt] 126 (0, 0)) := (hT1.block p h.plt (fun e => (h.ap.t p e).1 rfl)).trans h.blk
  have nn : ∀ k, R.vt.ownBlock ≠ some k → k ≠ p → ¬ (k = p ∨ R.vt.ownBlock = some k) := fun k h1 h2 e => e.elim h2 h1
  refine ⟨⟨?_, row_turn h.rn hT2 fun k e => nn k (h.ap.n k e).2.2.2.2.2 (h.ap.n k e).1, row_turn h.ru hT2 fun k e => nn k (h.ap.u k e).2.2.2.2 (h.ap.u k e).1, row_turn h.rl hT2 fun k e => nn k (h.ap.l k e).2.2.2 (h.ap.l k e).1, row_turn h.rs hT2 fun k e => nn k (h.ap.s k e).2.2 (h.ap.s k e).1, row_turn hv hTv fun k e => (hvp k e).1,
    map_turn h.rm hT2 (nn _ (fun e => (h.ap.t _ e).2 rfl) (Ne.symm h.ap.pm)), h.bp, h.bm, ⟨h.ap.pm, fun k e => ?_, fun k e => ?_, fun k e => ?_, fun k e => ?_, hvp⟩⟩, ?_, ?_⟩
  · simp [World.setCell, Array.getElem?_modify, hb]
  · have := h.ap.n k e
    exact ⟨this.1, this.2.1, this.2.2.1, this.2.2.2.1, this.2.2.2.2.1, fun e2 => (hnew k e2).elim this.2.2.2.2.2 (fun h' => by have := hl k (.inr (.inr (.inl e))); omega)⟩
  · have := h.ap.u k e
    exact ⟨this.1, this.2.1, this.2.2.1, this.2.2.2.1, fun e2 => (hnew k e2).elim this.2.2.2.2 (fun h' => by have := hl k (.inr (.inr (.inr (.inl e)))); omega)⟩
  · have := h.ap.l k e
    exact ⟨this.1, this.2.1, this.2.2.1, fun e2 => (hnew k e2).elim this.2.2.2 (fun h' => by have := hl k (.inr (.inr (.inr (.inr (.inl e))))); omega)⟩
  · have := h.ap.s k e
    exact ⟨this.1, this.2.1, fun e2 => (hnew k e2).elim this.2.2 (fun h' => by have := hl k (.inr (.inr (.inr (.inr (.inr (.inl e)))))); omega)⟩
  · exact hT2.mono fun k e => .inl (e.elim .inl fun e => .inr (.inr (.inr (.inr (.inr (.inr e))))))
  · rintro k (e | e | e | e | e | e | e)
    · exact .inl (.inl e)
    · exact .inl (.inr (.inl e))
    · exact .inl (.inr (.inr (.inl e)))
    · exact .inl (.inr (.inr (.inr (.inl e))))
    · exact .inl (.inr (.inr (.inr (.inr (.inl e)))))
    · exact .inl (.inr (.inr (.inr (.inr (.inr (.inl e))))))
    · exact (hnew k e).imp (fun e => .inr (.inr (.inr (.inr (.inr (.inr e)))))) id

end Go.Proofs.YtplnfepdikbpfaaGreatDoor

namespace Go.Proofs.YtplnfepdikbpfaaGreatDoor
open Go.RowKit
open Go.Maps (Keyed)
set_option linter.unusedVariables false
set_option linter.unusedSimpArgs false

/-- The Store's block has these cells. -/
def Blk6 (w : World) (p : Nat) (a b c d e f : Value) : Prop := w.heap[p]? = some (.cells #[a, b, c, d, e, f] 126 (0, 0))
theorem Blk6.gb {w W : World} {p : Nat} {a b c d e f : Value} {r : Option Nat} (hg : w.grownBy W r) (hr : r ≠ some p) (h : Blk6 w p a b c d e f) : Blk6 W p a b c d e f := (hg.block p (lt_of_block h) (Ne.symm hr)).trans h
theorem Blk6.alloc {w : World} {p : Nat} {a b c d e f : Value} (o : Obj) (h : Blk6 w p a b c d e f) : Blk6 (w.alloc o) p a b c d e f := h.gb (gb_alloc w o none) (by simp)
theorem Blk6.drew {w : World} {p : Nat} {a b c d e f : Value} (h : Blk6 w p a b c d e f) : Blk6 w.drew p a b c d e f := h
theorem Blk6.s0 {w : World} {p : Nat} {a b c d e f : Value} (v : Value) (h : Blk6 w p a b c d e f) : Blk6 (w.setCell ⟨p, 0, none⟩ v) p v b c d e f := by unfold Blk6 at h ⊢; simp [World.setCell, Array.getElem?_modify, h]
theorem Blk6.s1 {w : World} {p : Nat} {a b c d e f : Value} (v : Value) (h : Blk6 w p a b c d e f) : Blk6 (w.setCell ⟨p, 1, none⟩ v) p a v c d e f := by unfold Blk6 at h ⊢; simp [World.setCell, Array.getElem?_modify, h]
theorem Blk6.s2 {w : World} {p : Nat} {a b c d e f : Value} (v : Value) (h : Blk6 w p a b c d e f) : Blk6 (w.setCell ⟨p, 2, none⟩ v) p a b v d e f := by unfold Blk6 at h ⊢; simp [World.setCell, Array.getElem?_modify, h]
theorem Blk6.s3 {w : World} {p : Nat} {a b c d e f : Value} (v : Value) (h : Blk6 w p a b c d e f) : Blk6 (w.setCell ⟨p, 3, none⟩ v) p a b c v e f := by unfold Blk6 at h ⊢; simp [World.setCell, Array.getElem?_modify, h]
theorem Blk6.s5 {w : World} {p : Nat} {a b c d e f : Value} (v : Value) (h : Blk6 w p a b c d e f) : Blk6 (w.setCell ⟨p, 5, none⟩ v) p a b c d e v := by unfold Blk6 at h ⊢; simp [World.setCell, Array.getElem?_modify, h]
theorem Blk6.cells {w : World} {p : Nat} {a b c d e f : Value} (h : Blk6 w p a b c d e f) : w.cell? ⟨p, 0, none⟩ = some a ∧ w.cell? ⟨p, 1, none⟩ = some b ∧ w.cell? ⟨p, 2, none⟩ = some c ∧ w.cell? ⟨p, 3, none⟩ = some d ∧ w.cell? ⟨p, 4, none⟩ = some e ∧ w.cell? ⟨p, 5, none⟩ = some f ∧ (∀ o, w.frozen? ⟨p, o, none⟩ = false) := by
  unfold Blk6 at h
  refine ⟨?_, ?_, ?_, ?_, ?_, ?_, fun o => ?_⟩ <;> simp [World.cell?, World.frozen?, h]

theorem row_setp {w : World} {base : Nat} {e : TypeId} {sz : Nat} {v : Value} {n : Nat} {xs : List Value} (p o : Nat) (u : Value) (hp : v.ownBlock ≠ some p) (h : w.ownsRow base e sz v n xs) : (w.setCell ⟨p, o, none⟩ u).ownsRow base e sz v n xs :=
  row_turn h (Tn.set (O := fun k => k = p) w p o u (.inl rfl)) fun k e => by rintro rfl; exact hp e
theorem row_gb {w W : World} {base : Nat} {e : TypeId} {sz : Nat} {v : Value} {n : Nat} {xs : List Value} {r : Option Nat} (hg : w.grownBy W r) (hr : ∀ k, v.ownBlock = some k → r ≠ some k) (h : w.ownsRow base e sz v n xs) : W.ownsRow base e sz v n xs :=
  row_turn h (Tn.gb (O := fun k => r = some k) hg fun k e => .inl e) fun k e => hr k e

/-- nodes and up. -/
theorem RowsAt.putNU {w W : World} {base p : Nat} {R : Rows} (h : RowsAt w base p R) (v0 v1 : Value) (n0 n1 : Nat) (c0 c1 : List Value)
    (hT : Tn (fun k => k = p ∨ R.vn.ownBlock = some k ∨ R.vu.ownBlock = some k) w W) (hb : Blk6 W p v0 v1 R.vl R.vs (.map (some R.m)) R.vt)
    (h0 : W.ownsRow base 130 6 v0 n0 c0) (h1 : W.ownsRow base 3 1 v1 n1 c1)
    (ha0 : ∀ k, v0.ownBlock = some k → R.vn.ownBlock = some k ∨ w.heap.size ≤ k) (ha1 : ∀ k, v1.ownBlock = some k → R.vu.ownBlock = some k ∨ w.heap.size ≤ k) (hne : ∀ k, v0.ownBlock = some k → v1.ownBlock ≠ some k) :
    RowsAt W base p { R with vn := v0, nn := n0, cn := c0, vu := v1, nu := n1, cu := c1 } ∧ Tn (R.own p) w W ∧ (∀ k, Rows.own { R with vn := v0, nn := n0, cn := c0, vu := v1, nu := n1, cu := c1 } p k → R.own p k ∨ w.heap.size ≤ k) := by
  have hl := h.lt
  have lp := hl p (.inl rfl)
  have lm := hl R.m (.inr (.inl rfl))
  have ll := fun k e => hl k (.inr (.inr (.inr (.inr (.inl e)))))
  have ls := fun k e => hl k (.inr (.inr (.inr (.inr (.inr (.inl e))))))
  have lt := fun k e => hl k (.inr (.inr (.inr (.inr (.inr (.inr e))))))
  refine ⟨⟨hb, h0, h1, row_turn h.rl hT fun k e => ?_, row_turn h.rs hT fun k e => ?_, row_turn h.rt hT fun k e => ?_, map_turn h.rm hT ?_, h.bp, h.bm, ⟨h.ap.pm, fun k e => ?_, fun k e => ?_, h.ap.l, h.ap.s, h.ap.t⟩⟩, ?_, ?_⟩
  · rintro (rfl | e2 | e2)
    · exact (h.ap.l _ e).1 rfl
    · exact (h.ap.n k e2).2.2.2.1 e
    · exact (h.ap.u k e2).2.2.1 e
  · rintro (rfl | e2 | e2)
    · exact (h.ap.s _ e).1 rfl
    · exact (h.ap.n k e2).2.2.2.2.1 e
    · exact (h.ap.u k e2).2.2.2.1 e
  · rintro (rfl | e2 | e2)
    · exact (h.ap.t _ e).1 rfl
    · exact (h.ap.n k e2).2.2.2.2.2 e
    · exact (h.ap.u k e2).2.2.2.2 e
  · rintro (e | e2 | e2)
    · exact h.ap.pm e.symm
    · exact (h.ap.n _ e2).2.1 rfl
    · exact (h.ap.u _ e2).2.1 rfl
  · rcases ha0 k e with e2 | e2
    · have := h.ap.n k e2
      exact ⟨this.1, this.2.1, hne k e, this.2.2.2⟩
    · exact ⟨by omega, by show k ≠ R.m; omega, hne k e, fun e3 => by have := ll k e3; omega, fun e3 => by have := ls k e3; omega, fun e3 => by have := lt k e3; omega⟩
  · rcases ha1 k e with e2 | e2
    · exact h.ap.u k e2
    · exact ⟨by omega, by show k ≠ R.m; omega, fun e3 => by have := ll k e3; omega, fun e3 => by have := ls k e3; omega, fun e3 => by have := lt k e3; omega⟩
  · exact hT.mono fun k e => .inl (by rcases e with e | e | e; exact .inl e; exact .inr (.inr (.inl e)); exact .inr (.inr (.inr (.inl e))))
  · rintro k (e | e | e | e | e | e | e)
    · exact .inl (.inl e)
    · exact .inl (.inr (.inl e))
    · exact (ha0 k e).imp (fun e => .inr (.inr (.inl e))) id
    · exact (ha1 k e).imp (fun e => .inr (.inr (.inr (.inl e)))) id
    · exact .inl (.inr (.inr (.inr (.inr (.inl e)))))
    · exact .inl (.inr (.inr (.inr (.inr (.inr (.inl e))))))
    · exact .inl (.inr (.inr (.inr (.inr (.inr (.inr e))))))
/-- least and solid. -/
theorem RowsAt.putLS {w W : World} {base p : Nat} {R : Rows} (h : RowsAt w base p R) (v0 v1 : Value) (n0 n1 : Nat) (c0 c1 : List Value)
    (hT : Tn (fun k => k = p ∨ R.vl.ownBlock = some k ∨ R.vs.ownBlock = some k) w W) (hb : Blk6 W p R.vn R.vu v0 v1 (.map (some R.m)) R.vt)
    (h0 : W.ownsRow base 3 1 v0 n0 c0) (h1 : W.ownsRow base 3 1 v1 n1 c1)
    (ha0 : ∀ k, v0.ownBlock = some k → R.vl.ownBlock = some k ∨ w.heap.size ≤ k) (ha1 : ∀ k, v1.ownBlock = some k → R.vs.ownBlock = some k ∨ w.heap.size ≤ k) (hne : ∀ k, v0.ownBlock = some k → v1.ownBlock ≠ some k) :
    RowsAt W base p { R with vl := v0, nl := n0, cl := c0, vs := v1, ns := n1, cs := c1 } ∧ Tn (R.own p) w W ∧ (∀ k, Rows.own { R with vl := v0, nl := n0, cl := c0, vs := v1, ns := n1, cs := c1 } p k → R.own p k ∨ w.heap.size ≤ k) := by
  have hl := h.lt
  have lp := hl p (.inl rfl)
  have lm := hl R.m (.inr (.inl rfl))
  have ln := fun k e => hl k (.inr (.inr (.inl e)))
  have lu := fun k e => hl k (.inr (.inr (.inr (.inl e))))
  have lt := fun k e => hl k (.inr (.inr (.inr (.inr (.inr (.inr e))))))
  refine ⟨⟨hb, row_turn h.rn hT fun k e => ?_, row_turn h.ru hT fun k e => ?_, h0, h1, row_turn h.rt hT fun k e => ?_, map_turn h.rm hT ?_, h.bp, h.bm, ⟨h.ap.pm, fun k e => ?_, fun k e => ?_, fun k e => ?_, fun k e => ?_, h.ap.t⟩⟩, ?_, ?_⟩
  · rintro (rfl | e2 | e2)
    · exact (h.ap.n _ e).1 rfl
    · exact (h.ap.n k e).2.2.2.1 e2
    · exact (h.ap.n k e).2.2.2.2.1 e2
  · rintro (rfl | e2 | e2)
    · exact (h.ap.u _ e).1 rfl
    · exact (h.ap.u k e).2.2.1 e2
    · exact (h.ap.u k e).2.2.2.1 e2
  · rintro (rfl | e2 | e2)
    · exact (h.ap.t _ e).1 rfl
    · exact (h.ap.l k e2).2.2.2 e
    · exact (h.ap.s k e2).2.2 e
  · rintro (e | e2 | e2)
    · exact h.ap.pm e.symm
    · exact (h.ap.l _ e2).2.1 rfl
    · exact (h.ap.s _ e2).2.1 rfl
  · have := h.ap.n k e
    exact ⟨this.1, this.2.1, this.2.2.1, fun e3 => (ha0 k e3).elim this.2.2.2.1 (fun h' => by have := ln k e; omega), fun e3 => (ha1 k e3).elim this.2.2.2.2.1 (fun h' => by have := ln k e; omega), this.2.2.2.2.2⟩
  · have := h.ap.u k e
    exact ⟨this.1, this.2.1, fun e3 => (ha0 k e3).elim this.2.2.1 (fun h' => by have := lu k e; omega), fun e3 => (ha1 k e3).elim this.2.2.2.1 (fun h' => by have := lu k e; omega), this.2.2.2.2⟩
  · rcases ha0 k e with e2 | e2
    · have := h.ap.l k e2
      exact ⟨this.1, this.2.1, hne k e, this.2.2.2⟩
    · exact ⟨by omega, by show k ≠ R.m; omega, hne k e, fun e3 => by have := lt k e3; omega⟩
  · rcases ha1 k e with e2 | e2
    · exact h.ap.s k e2
    · exact ⟨by omega, by show k ≠ R.m; omega, fun e3 => by have := lt k e3; omega⟩
  · exact hT.mono fun k e => .inl (by rcases e with e | e | e; exact .inl e; exact .inr (.inr (.inr (.inr (.inl e)))); exact .inr (.inr (.inr (.inr (.inr (.inl e))))))
  · rintro k (e | e | e | e | e | e | e)
    · exact .inl (.inl e)
    · exact .inl (.inr (.inl e))
    · exact .inl (.inr (.inr (.inl e)))
    · exact .inl (.inr (.inr (.inr (.inl e))))
    · exact (ha0 k e).imp (fun e => .inr (.inr (.inr (.inr (.inl e))))) id
    · exact (ha1 k e).imp (fun e => .inr (.inr (.inr (.inr (.inr (.inl e)))))) id
    · exact .inl (.inr (.inr (.inr (.inr (.inr (.inr e))))))
/-- The map turned. -/
theorem RowsAt.putM {w W : World} {base p : Nat} {R : Rows} (h : RowsAt w base p R) (mm : Nat) (D : DataW Unit) (hg : w.grownBy W (some R.m)) (hm : W.ownsMap Tryz.prog 3 (plainElem Tryz.prog 3) R.m mm D) :
    RowsAt W base p { R with mm := mm, D := D } ∧ Tn (R.own p) w W ∧ (∀ k, Rows.own { R with mm := mm, D := D } p k → R.own p k ∨ w.heap.size ≤ k) := by
  have hT : Tn (fun k => k = R.m) w W := Tn.gb hg fun k e => .inl (Option.some.inj e).symm
  refine ⟨⟨(hT.block p h.plt h.ap.pm).trans h.blk, row_turn h.rn hT fun k e => (h.ap.n k e).2.1, row_turn h.ru hT fun k e => (h.ap.u k e).2.1, row_turn h.rl hT fun k e => (h.ap.l k e).2.1, row_turn h.rs hT fun k e => (h.ap.s k e).2.1, row_turn h.rt hT fun k e => (h.ap.t k e).2, hm, h.bp, h.bm, ⟨h.ap.pm, h.ap.n, h.ap.u, h.ap.l, h.ap.s, h.ap.t⟩⟩, hT.mono fun k e => .inl (.inr (.inl e)), fun k e => .inl e⟩

end Go.Proofs.YtplnfepdikbpfaaGreatDoor

namespace Go.Proofs.YtplnfepdikbpfaaGreatDoor
open Go.RowKit
set_option linter.unusedVariables false
set_option linter.unusedSimpArgs false

section
variable {P : Program}
theorem step_append_at (w : World) {ops : Array Oper} {o : Oper} {a : Act} {K : Act → World → Prop} {Q : Exit → Act → World → Prop} {E : Prop} (hgd : o.guard = none) (s x : Operand) (t : TypeId)
    (ho : o.op = .call { callee := .builtin .append, args := #[s, x], argTypes := #[t, t] })
    (base : Nat) (e : TypeId) (i : TypeInfo) (z : Value) (size bytes : Nat) (ht : P.underlying t = some (.slice e)) (hi : P.info? e = some i) (hz : i.zero = some z)
    (hsize : i.size = size) (hby : i.bytes = bytes) (hzs : z.cells.size = size) (hsz : 0 < size)
    (v : Value) (n : Nat) (xs : List Value) (hs : a.eval s = v) (hown : w.ownsRow base e size v n xs)
    (ad : Addr) (m c : Nat) (news : List Value) (hx : a.eval x = .slice (some ad) m c) (hl : news.length = m * size) (hnews : ∀ j u, news[j]? = some u → w.cell? (ad.add j) = some u) (h1 : ∀ u ∈ news, u.oneCell' = true)
    (h63 : n + m ≤ maxLen) (hbytes : (n + m) * bytes ≤ 140737488355328) (hbase : base ≤ w.heap.size)
    (h : ∀ v' w', w'.ownsRow base e size v' (n + m) (xs ++ news) → w.grownBy w' v.ownBlock → (v'.ownBlock = v.ownBlock ∨ v'.ownBlock = some w.heap.size) → K (a.put o.dst v') w') :
    if Region.wanted o (yielded ops a.tmps) = true then Oper.wp P o a w K Q else E := by
  have hw : Region.wanted o (yielded ops a.tmps) = true := by simp [Region.wanted, hgd]
  rw [if_pos hw]
  obtain ⟨v', w', hr, h2, h3, h4, h5⟩ := run_append_own_at (P := P) w base t o.type e i z size bytes ht hi hz hsize hby hzs hsz v n xs hown ad m c news hl hnews h1 h63 hbytes hbase
  unfold Oper.wp execOp
  simp only [ho, resolve, invoke, builtin, Sem.run_bind, Sem.run_pure, Result.andThen_ok, List.map_toArray, List.map_cons, List.map_nil, hs, hx, hr]
  exact h v' w' h2 h3 h5
end

end Go.Proofs.YtplnfepdikbpfaaGreatDoor
