/- The law TokenKinds (under way). -/
import Derived.Test.YtepgjaecfoaenaaGreatDoorS13
import Derived.Test.YtepgjaecfoaenaaGreatDoorT7
import Derived.Deep.Light
namespace Go.Proofs.YtepgjaecfoaenaaGreatDoor
open Go.RowKit
set_option linter.unusedVariables false
set_option linter.unusedSimpArgs false

/-- The slice reads as these tokens, from a block between two marks. -/
def ReadTR (lo hi : Nat) (w : World) (v : Value) (ts : List Tok) : Prop :=
  hi ≤ w.heap.size ∧ ∃ A c, v = .slice A ts.length c ∧ ts.length ≤ 9223372036854775000 ∧
    (0 < ts.length → ∃ b off, A = some ⟨b, off, none⟩ ∧ lo ≤ b ∧ b < hi ∧
      ∀ k, k < ts.length → w.cell? ⟨b, off + k * 2, none⟩ = some (.int .i64 (tokAt ts k).kind) ∧ w.cell? ⟨b, off + k * 2 + 1, none⟩ = some (.string (S (tokAt ts k).text)))

theorem ReadTR.read {lo hi : Nat} {w : World} {v : Value} {ts : List Tok} (h : ReadTR lo hi w v ts) : ReadT w v ts := by
  obtain ⟨hw, A, c, rfl, hl, h⟩ := h
  refine ⟨A, c, rfl, hl, fun h0 => ?_⟩
  obtain ⟨b, off, rfl, -, h2, hc⟩ := h h0
  exact ⟨b, off, rfl, by omega, hc⟩
theorem ReadTR.turn {lo hi : Nat} {w W : World} {v : Value} {ts : List Tok} (h : ReadTR lo hi w v ts) (hs : w.heap.size ≤ W.heap.size) (hc : ∀ b o, lo ≤ b → b < hi → W.cell? ⟨b, o, none⟩ = w.cell? ⟨b, o, none⟩) : ReadTR lo hi W v ts := by
  obtain ⟨hw, A, c, rfl, hl, h⟩ := h
  refine ⟨by omega, A, c, rfl, hl, fun h0 => ?_⟩
  obtain ⟨b, off, rfl, h1, h2, hcc⟩ := h h0
  exact ⟨b, off, rfl, h1, h2, fun k hk => by rw [hc b _ h1 h2, hc b _ h1 h2]; exact hcc k hk⟩
theorem ReadTR.below {lo hi B : Nat} {w W : World} {v : Value} {ts : List Tok} (h : ReadTR lo hi w v ts) (hb : Below B w W) (hB : hi ≤ B) : ReadTR lo hi W v ts :=
  h.turn hb.size fun b o _ h2 => hb.cell (p := ⟨b, o, none⟩) (Nat.lt_of_lt_of_le h2 hB)
theorem ReadTR.called {lo hi : Nat} {w W : World} {v : Value} {ts : List Tok} (h : ReadTR lo hi w v ts) (hb : Below w.heap.size w W) : ReadTR lo hi W v ts := h.below hb h.1
theorem ReadTR.alloc {lo hi : Nat} {w : World} {v : Value} {ts : List Tok} (h : ReadTR lo hi w v ts) (o : Obj) : ReadTR lo hi (w.alloc o) v ts :=
  h.called (bel_alloc (Below.refl _ _) o)
theorem ReadTR.drew {lo hi : Nat} {w : World} {v : Value} {ts : List Tok} (h : ReadTR lo hi w v ts) : ReadTR lo hi w.drew v ts :=
  h.called (bel_drew (Below.refl _ _))
theorem ReadTR.set {lo hi : Nat} {w : World} {v : Value} {ts : List Tok} (h : ReadTR lo hi w v ts) (a : Addr) (u : Value) (ha : a.block < lo ∨ hi ≤ a.block) : ReadTR lo hi (w.setCell a u) v ts :=
  h.turn (by simp) fun b o h1 h2 => World.cell?_setCell_other _ _ _ _ (by intro e; rw [e] at ha; simp at ha; omega)
theorem OwnT.readR {w : World} {base : Nat} {v : Value} {ts : List Tok} (h : OwnT w base v ts) (hn : ts.length ≤ 9223372036854775000) : ReadTR base w.heap.size w v ts := by
  obtain ⟨A, c, hv, hl, hh⟩ := h.read hn
  refine ⟨Nat.le_refl _, A, c, hv, hl, fun h0 => ?_⟩
  obtain ⟨b, off, hA, h2, hc⟩ := hh h0
  refine ⟨b, off, hA, ?_, h2, hc⟩
  exact (World.ownsRow.lt h b (by rw [hv, hA]; rfl)).1

theorem OwnT.readX {w : World} {base : Nat} {v : Value} {ts : List Tok} (h : OwnT w base v ts) (hn : ts.length ≤ 9223372036854775000) : ∃ lo hi, ReadTR lo hi w v ts ∧ base ≤ lo ∧ hi ≤ w.heap.size :=
  ⟨_, _, h.readR hn, Nat.le_refl _, Nat.le_refl _⟩

theorem OwnI.read {w : World} {base : Nat} {v : Value} {xs : List Int} (h : OwnI w base v xs) : ∃ A c, v = .slice A xs.length c ∧
    (0 < xs.length → ∃ b, A = some ⟨b, 0, none⟩ ∧ b < w.heap.size ∧ ∀ k, k < xs.length → w.cell? ⟨b, k, none⟩ = some (.int .i64 (xs.getD k 0))) := by
  rcases h.2 with ⟨rfl, h0⟩ | ⟨g, cap, cur, rfl, hb, hh, h1, h2, h3, h4⟩
  · exact ⟨none, 0, by rw [h0], fun h => by omega⟩
  · refine ⟨_, cap, rfl, fun h0 => ⟨g, rfl, (Array.getElem?_eq_some_iff.1 hh).1, fun k hk => ?_⟩⟩
    have hc0 := World.ownsRow.cells h (g := g) rfl k (.int .i64 (xs.getD k 0)) (by simp [intCells, hk])
    have ha : (⟨g, 0, none⟩ : Addr).add k = ⟨g, k, none⟩ := by unfold Addr.add; split <;> simp_all
    rw [ha] at hc0
    exact hc0

theorem cell_old {W : World} {b k : Nat} {o : Obj} (h : b < W.heap.size) : (W.alloc o).cell? ⟨b, k, none⟩ = W.cell? ⟨b, k, none⟩ := (bel_alloc (Below.refl _ _) o).cell (p := ⟨b, k, none⟩) h
theorem set_same {W : World} {a : Addr} {v : Value} (h : (W.cell? a).isSome = true) : (W.setCell a v).cell? a = some v := by
  obtain ⟨u, hu⟩ := Option.isSome_iff_exists.1 h
  exact World.cell?_setCell_same _ _ _ hu
theorem has_set {W : World} {a b : Addr} {v : Value} (h : (W.cell? b).isSome = true) : ((W.setCell a v).cell? b).isSome = true := by
  obtain ⟨u, hu⟩ := Option.isSome_iff_exists.1 h
  obtain ⟨v', hv⟩ := cell?_setCell_some (p := a) (x := v) hu
  rw [hv]; rfl
theorem cell_new_has {W : World} {c : Array Value} {t : TypeId} {b i : Nat} (hb : b = W.heap.size) (h : (c[i]?).isSome = true) : ((W.alloc (.cells c t)).cell? ⟨b, i, none⟩).isSome = true := by subst hb; rw [World.cell?_alloc_new]; exact h
theorem has_drew {W : World} {a : Addr} (h : (W.cell? a).isSome = true) : (W.drew.cell? a).isSome = true := h
theorem has_old {W : World} {b k : Nat} {o : Obj} (hb : b < W.heap.size) (h : (W.cell? ⟨b, k, none⟩).isSome = true) : ((W.alloc o).cell? ⟨b, k, none⟩).isSome = true := by rw [cell_old hb]; exact h
theorem has_call {W W1 : World} {b k : Nat} (hc : Below W.heap.size W W1) (hb : b < W.heap.size) (h : (W.cell? ⟨b, k, none⟩).isSome = true) : (W1.cell? ⟨b, k, none⟩).isSome = true := by rw [hc.cell (p := ⟨b, k, none⟩) hb]; exact h
theorem cell_call {W W1 : World} {b k : Nat} {v : Value} (hc : Below W.heap.size W W1) (hb : b < W.heap.size) (h : W.cell? ⟨b, k, none⟩ = some v) : W1.cell? ⟨b, k, none⟩ = some v := by rw [hc.cell (p := ⟨b, k, none⟩) hb]; exact h
theorem cell_new {W : World} {c : Array Value} {t : TypeId} {i : Nat} {v : Value} (h : c[i]? = some v) : (W.alloc (.cells c t)).cell? ⟨W.heap.size, i, none⟩ = some v := by rw [World.cell?_alloc_new]; exact h
theorem cell_new' {W : World} {c : Array Value} {t : TypeId} {b i : Nat} {v : Value} (hb : b = W.heap.size) (h : c[i]? = some v) : (W.alloc (.cells c t)).cell? ⟨b, i, none⟩ = some v := by subst hb; exact cell_new h
theorem cell_keep {W : World} {b k : Nat} {o : Obj} {v : Value} (hb : b < W.heap.size) (h : W.cell? ⟨b, k, none⟩ = some v) : (W.alloc o).cell? ⟨b, k, none⟩ = some v := by rw [cell_old hb]; exact h
theorem set_other {W : World} {a b : Addr} {v u : Value} (hn : a ≠ b) (h : W.cell? b = some u) : (W.setCell a v).cell? b = some u := by rw [World.cell?_setCell_other _ _ _ _ hn]; exact h
theorem addr_ne {a b c d : Nat} (h : a ≠ c ∨ b ≠ d) : (⟨a, b, none⟩ : Addr) ≠ ⟨c, d, none⟩ := by intro e; simp only [Addr.mk.injEq] at e; omega
theorem size_a {W : World} {o : Obj} {n : Nat} (h : n ≤ W.heap.size) : n ≤ (W.alloc o).heap.size := by rw [World.size_alloc]; omega

set_option maxRecDepth 100000 in
set_option maxHeartbeats 8000000 in
theorem Kinds_calls (v : Value) (ts : List Tok) (ka : Int) (ra : List UInt8) (kb : Int) (rb : List UInt8) (w : World) (h : ReadT w v ts) (ha : ra.length ≤ 9223372036854775807) (hb : rb.length ≤ 9223372036854775807) :
    Calls Tryz.prog 10 #[v, .agg #[.int .i64 ka, .string (S ra)], .agg #[.int .i64 kb, .string (S rb)]] w fun e w' => e = .returned (.bool true) ∧ Below w.heap.size w w' := by
  obtain ⟨a, hA⟩ : ∃ a, a = ra.take 20001 := ⟨_, rfl⟩
  obtain ⟨b, hB⟩ : ∃ b, b = rb.take 20001 := ⟨_, rfl⟩
  have la : a.length ≤ 20001 := by rw [hA, List.length_take]; omega
  have lb : b.length ≤ 20001 := by rw [hB, List.length_take]; omega
  have HA := Lib.hid hA; have HB := Lib.hid hB; clear hA hB
  obtain ⟨W0, hW0⟩ : ∃ W0, W0 = (w.alloc (.cells #[.int .i64 ka, .string (S ra)] 23)).alloc (.cells #[.int .i64 kb, .string (S rb)] 23) := ⟨_, rfl⟩
  have hb0 : Below w.heap.size w W0 := by rw [hW0]; exact bel_alloc (bel_alloc (Below.refl _ _) _) _
  have p0 : W0.cell? ⟨w.heap.size, 0, none⟩ = some (.int .i64 ka) := by rw [hW0]; simp
  have p1 : W0.cell? ⟨w.heap.size, 1, none⟩ = some (.string (S ra)) := by rw [hW0]; simp
  have p2 : W0.cell? ⟨w.heap.size + 1, 0, none⟩ = some (.int .i64 kb) := by rw [hW0]; simp
  have p3 : W0.cell? ⟨w.heap.size + 1, 1, none⟩ = some (.string (S rb)) := by rw [hW0]; simp
  have hz0 : w.heap.size < W0.heap.size := by rw [hW0]; simp; omega
  have hzb : w.heap.size + 1 < W0.heap.size := by rw [hW0]; simp
  have KB : ∀ W : World, Below W0.heap.size W0 W → Below W0.heap.size W0 W ∧ W.cell? ⟨w.heap.size, 0, none⟩ = some (.int .i64 ka) ∧ W.cell? ⟨w.heap.size, 1, none⟩ = some (.string (S ra)) ∧ W.cell? ⟨w.heap.size + 1, 0, none⟩ = some (.int .i64 kb) ∧ W.cell? ⟨w.heap.size + 1, 1, none⟩ = some (.string (S rb)) :=
    fun W h => ⟨h, (h.cell (p := ⟨w.heap.size, 0, none⟩) hz0).trans p0, (h.cell (p := ⟨w.heap.size, 1, none⟩) hz0).trans p1, (h.cell (p := ⟨w.heap.size + 1, 0, none⟩) hzb).trans p2, (h.cell (p := ⟨w.heap.size + 1, 1, none⟩) hzb).trans p3⟩
  have KH := Lib.hid KB
  have HR := Lib.hid (h.below hb0)
  obtain ⟨A, c, rfl, -, -⟩ := h
  clear KB p0 p1 p2 p3
  go_enter Tryz.func10, Tryz.ntmps10
  go_wp2_with fail
  rw [← hW0]
  clear hW0
  go_cut [7, 8, 9] (fun l x y wx => ReadT wx l (cutL ts) ∧ ∃ m n : Nat, x = .pointer (some ⟨m, 0, none⟩) ∧ y = .pointer (some ⟨n, 0, none⟩) ∧ wx.cell? ⟨m, 0, none⟩ = some (.int .i64 ka) ∧ wx.cell? ⟨m, 1, none⟩ = some (.string (S a)) ∧ wx.cell? ⟨n, 0, none⟩ = some (.int .i64 kb) ∧ wx.cell? ⟨n, 1, none⟩ = some (.string (S b)) ∧ Below w.heap.size w wx ∧ m < wx.heap.size ∧ n < wx.heap.size)
  case first =>
    go_region_held3 (fun W => Below W0.heap.size W0 W ∧ W.cell? ⟨w.heap.size, 0, none⟩ = some (.int .i64 ka) ∧ W.cell? ⟨w.heap.size, 1, none⟩ = some (.string (S ra)) ∧ W.cell? ⟨w.heap.size + 1, 0, none⟩ = some (.int .i64 kb) ∧ W.cell? ⟨w.heap.size + 1, 1, none⟩ = some (.string (S rb)))
      ((refine KH.out _ ?_; repeat (with_reducible first | assumption | exact Below.refl _ _ | refine bel_drew ?_ | refine bel_alloc ?_ _ | refine bel_set ?_ _ _ ?_ | exact Nat.le_refl _ | exact Nat.le_succ _ | (show W0.heap.size ≤ _; simp; omega) | (simp; done))))
      (first
        | (go_at_call 33; refine (RCut_calls _ ts _ (HR.out.below (And.left (by assumption)))).mono ?_; rintro e w1 ⟨u, rfl, hown1, hb1⟩; obtain ⟨lo, hi, hr1, hlo, hhi⟩ := hown1.readX (by rw [cutL_length]; omega); clear hown1; (try simp at hlo); have hq1 : Below W0.heap.size W0 w1 := bel_then (And.left (by assumption)) hb1; have hz1 := hq1.size; obtain ⟨hcc1, hff1⟩ := bcell hb1; have hs1 := hb1.size; (try simp at hs1); (try have nW0w1a : W0.heap.size ≠ w1.heap.size := (by omega)); (try have nW0w1b : W0.heap.size + 1 ≠ w1.heap.size := (by omega)); (try have nW0w1c : W0.heap.size < w1.heap.size := (by omega)); (try have nW0w1d : W0.heap.size + 1 < w1.heap.size := (by omega)); (try have nW0w1e : w1.heap.size ≠ W0.heap.size := (by omega)); (try have nW0w1f : w1.heap.size ≠ W0.heap.size + 1 := (by omega)))
        | (go_at_call_of 13 (Value.int IntKind.i64 ka); refine (One_calls ka ra _ (by omega)).mono ?_; rw [← HA.out]; rintro e w2 ⟨rfl, hb2⟩; (have hr2 : ReadTR lo hi w2 u (cutL ts) := by (refine ReadTR.called ?_ hb2; repeat (with_reducible first | exact hr1 | refine ReadTR.drew ?_ | refine ReadTR.alloc ?_ _))); have hq2 : Below W0.heap.size W0 w2 := bel_then (And.left (by assumption)) hb2; have hz2 := hq2.size; obtain ⟨hcc2, hff2⟩ := bcell hb2; have hs2 := hb2.size; (try simp at hs2); have g21 : w1.heap.size ≤ w2.heap.size := (by omega); have g22 : w1.heap.size < w2.heap.size + 1 := (by omega); have g23 : W0.heap.size < w2.heap.size + 1 := (by omega); (try have nw1w2a : w1.heap.size ≠ w2.heap.size := (by omega)); (try have nw1w2b : w1.heap.size + 1 ≠ w2.heap.size := (by omega)); (try have nw1w2c : w1.heap.size < w2.heap.size := (by omega)); (try have nw1w2d : w1.heap.size + 1 < w2.heap.size := (by omega)); (try have nw1w2e : w2.heap.size ≠ w1.heap.size := (by omega)); (try have nw1w2f : w2.heap.size ≠ w1.heap.size + 1 := (by omega)); (try have nW0w2a : W0.heap.size ≠ w2.heap.size := (by omega)); (try have nW0w2b : W0.heap.size + 1 ≠ w2.heap.size := (by omega)); (try have nW0w2c : W0.heap.size < w2.heap.size := (by omega)); (try have nW0w2d : W0.heap.size + 1 < w2.heap.size := (by omega)); (try have nW0w2e : w2.heap.size ≠ W0.heap.size := (by omega)); (try have nW0w2f : w2.heap.size ≠ W0.heap.size + 1 := (by omega)))
        | (go_at_call_of 13 (Value.int IntKind.i64 kb); refine (One_calls kb rb _ (by omega)).mono ?_; rw [← HB.out]; rintro e w3 ⟨rfl, hb3⟩; (have hr3 : ReadTR lo hi w3 u (cutL ts) := by (refine ReadTR.called ?_ hb3; repeat (with_reducible first | exact hr2 | refine ReadTR.drew ?_ | refine ReadTR.alloc ?_ _))); have hq3 : Below W0.heap.size W0 w3 := bel_then (And.left (by assumption)) hb3; have hz3 := hq3.size; obtain ⟨hcc3, hff3⟩ := bcell hb3; have hs3 := hb3.size; (try simp at hs3); have g31 : w2.heap.size ≤ w3.heap.size := (by omega); have g32 : w1.heap.size ≤ w3.heap.size := (by omega); (try have nw2w3a : w2.heap.size ≠ w3.heap.size := (by omega)); (try have nw2w3b : w2.heap.size + 1 ≠ w3.heap.size := (by omega)); (try have nw2w3c : w2.heap.size < w3.heap.size := (by omega)); (try have nw2w3d : w2.heap.size + 1 < w3.heap.size := (by omega)); (try have nw2w3e : w3.heap.size ≠ w2.heap.size := (by omega)); (try have nw2w3f : w3.heap.size ≠ w2.heap.size + 1 := (by omega)); (try have nw1w3a : w1.heap.size ≠ w3.heap.size := (by omega)); (try have nw1w3b : w1.heap.size + 1 ≠ w3.heap.size := (by omega)); (try have nw1w3c : w1.heap.size < w3.heap.size := (by omega)); (try have nw1w3d : w1.heap.size + 1 < w3.heap.size := (by omega)); (try have nw1w3e : w3.heap.size ≠ w1.heap.size := (by omega)); (try have nw1w3f : w3.heap.size ≠ w1.heap.size + 1 := (by omega)); (try have nW0w3a : W0.heap.size ≠ w3.heap.size := (by omega)); (try have nW0w3b : W0.heap.size + 1 ≠ w3.heap.size := (by omega)); (try have nW0w3c : W0.heap.size < w3.heap.size := (by omega)); (try have nW0w3d : W0.heap.size + 1 < w3.heap.size := (by omega)); (try have nW0w3e : w3.heap.size ≠ W0.heap.size := (by omega)); (try have nW0w3f : w3.heap.size ≠ W0.heap.size + 1 := (by omega))))
    all_goals go_wp2_with fail
    all_goals go_meet
    all_goals go_light
    all_goals clear KH HA HB HR la lb ha hb
    all_goals (try clear nW0w1a)
    all_goals (try clear nW0w1b)
    all_goals (try clear nW0w1e)
    all_goals (try clear nW0w1f)
    all_goals (try clear nw1w2a)
    all_goals (try clear nw1w2b)
    all_goals (try clear nw1w2e)
    all_goals (try clear nw1w2f)
    all_goals (try clear nW0w2a)
    all_goals (try clear nW0w2b)
    all_goals (try clear nW0w2e)
    all_goals (try clear nW0w2f)
    all_goals (try clear nw2w3a)
    all_goals (try clear nw2w3b)
    all_goals (try clear nw2w3e)
    all_goals (try clear nw2w3f)
    all_goals (try clear nw1w3a)
    all_goals (try clear nw1w3b)
    all_goals (try clear nw1w3e)
    all_goals (try clear nw1w3f)
    all_goals (try clear nW0w3a)
    all_goals (try clear nW0w3b)
    all_goals (try clear nW0w3e)
    all_goals (try clear nW0w3f)
    all_goals refine ⟨?_, _, _, rfl, rfl, ?_, ?_, ?_, ?_, ?_, ?_, ?_⟩
    all_goals first
      | (with_reducible refine ReadTR.read (lo := lo) (hi := hi) ?_; repeat (with_reducible first | exact hr3 | refine ReadTR.drew ?_ | refine ReadTR.alloc ?_ _ | (refine ReadTR.set ?_ _ _ ?_; rotate_left 1; (focus first | omega | (simp only [World.size_alloc, World.size_setCell, World.size_drew]; done) | (simp only [World.size_alloc, World.size_setCell, World.size_drew]; omega)))))
      | (with_reducible refine bel_then hb0 ?_; repeat (with_reducible first | assumption | exact Below.refl _ _ | refine bel_drew ?_ | refine bel_alloc ?_ _ | refine bel_set ?_ _ _ ?_ | (show W0.heap.size ≤ _; dsimp only; omega)))
      | (show _ < _; (focus first | omega | (simp only [World.size_alloc, World.size_setCell, World.size_drew]; done) | (simp only [World.size_alloc, World.size_setCell, World.size_drew]; omega)))
      | (repeat (first
          | (with_reducible refine set_other (addr_ne ?_) ?_; (focus first | omega | (simp only [World.size_alloc, World.size_setCell, World.size_drew]; done) | (simp only [World.size_alloc, World.size_setCell, World.size_drew]; omega)))
          | ((with_reducible refine cell_new' ?_ ?_); (focus first | omega | (simp only [World.size_alloc, World.size_setCell, World.size_drew]; done) | (simp only [World.size_alloc, World.size_setCell, World.size_drew]; omega)); rfl)
          | (with_reducible refine cell_keep ?_ ?_; (focus first | omega | (simp only [World.size_alloc, World.size_setCell, World.size_drew]; done) | (simp only [World.size_alloc, World.size_setCell, World.size_drew]; omega)))
          | (with_reducible refine cell_call hb3 ?_ ?_; (focus first | omega | (simp only [World.size_alloc, World.size_setCell, World.size_drew]; done) | (simp only [World.size_alloc, World.size_setCell, World.size_drew]; omega)))
          | (with_reducible refine cell_call hb2 ?_ ?_; (focus first | omega | (simp only [World.size_alloc, World.size_setCell, World.size_drew]; done) | (simp only [World.size_alloc, World.size_setCell, World.size_drew]; omega)))
          | ((with_reducible refine set_same ?_); (repeat (first | (with_reducible refine has_set ?_) | (with_reducible refine has_drew ?_) | ((with_reducible refine cell_new_has ?_ ?_); (focus first | omega | (simp only [World.size_alloc, World.size_setCell, World.size_drew]; done) | (simp only [World.size_alloc, World.size_setCell, World.size_drew]; omega)); rfl) | (with_reducible refine has_old ?_ ?_; (focus first | omega | (simp only [World.size_alloc, World.size_setCell, World.size_drew]; done) | (simp only [World.size_alloc, World.size_setCell, World.size_drew]; omega))) | (with_reducible refine has_call hb3 ?_ ?_; (focus first | omega | (simp only [World.size_alloc, World.size_setCell, World.size_drew]; done) | (simp only [World.size_alloc, World.size_setCell, World.size_drew]; omega))) | (with_reducible refine has_call hb2 ?_ ?_; (focus first | omega | (simp only [World.size_alloc, World.size_setCell, World.size_drew]; done) | (simp only [World.size_alloc, World.size_setCell, World.size_drew]; omega))) | (with_reducible refine has_call hb1 ?_ ?_; (focus first | omega | (simp only [World.size_alloc, World.size_setCell, World.size_drew]; done) | (simp only [World.size_alloc, World.size_setCell, World.size_drew]; omega))))); done)))
  case rest =>
    obtain ⟨hrd, m, n, rfl, rfl, x0, x1, y0, y1, hbx, hmz, hnz⟩ := hcut
    obtain ⟨wx, rfl⟩ : ∃ wx, wx = wc := ⟨_, rfl⟩
    have HRD := Lib.hid hrd; clear hrd
    have r0 := cell_regrown x0
    have r1 := cell_regrown x1
    have r2 := cell_regrown y0
    have r3 := cell_regrown y1
    clear x0 x1 y0 y1
    have c1 : ∀ d os, Calls Tryz.prog 22 #[.agg #[.int .i64 ka, .string (S a)]] (Sort.grow (redrawn wx d) os) fun e w'' => e = .returned (.bool (isTokB ⟨ka, a⟩)) ∧ ∃ p : Regrown, w'' = Sort.grow (redrawn wx p.d) p.os :=
      fun d os => Calls.regrown_of (IsToken_calls ⟨ka, a⟩ _)
    have c2 : ∀ d os, Calls Tryz.prog 18 #[.agg #[.int .i64 ka, .string (S a)]] (Sort.grow (redrawn wx d) os) fun e w'' => e = .returned (.bool (isTokB ⟨ka, a⟩)) ∧ ∃ p : Regrown, w'' = Sort.grow (redrawn wx p.d) p.os :=
      fun d os => Calls.regrown_of (RIsToken_calls ⟨ka, a⟩ _ (by show a.length ≤ _; omega))
    have c3 : ∀ d os, Calls Tryz.prog 26 #[.agg #[.int .i64 ka, .string (S a)], .agg #[.int .i64 kb, .string (S b)]] (Sort.grow (redrawn wx d) os) fun e w'' => e = .returned (.bool (apartB ⟨ka, a⟩ ⟨kb, b⟩)) ∧ ∃ p : Regrown, w'' = Sort.grow (redrawn wx p.d) p.os :=
      fun d os => Calls.regrown_of (Apart_calls ⟨ka, a⟩ ⟨kb, b⟩ _)
    have c4 : ∀ d os, Calls Tryz.prog 34 #[.agg #[.int .i64 ka, .string (S a)], .agg #[.int .i64 kb, .string (S b)]] (Sort.grow (redrawn wx d) os) fun e w'' => e = .returned (.bool (apartB ⟨ka, a⟩ ⟨kb, b⟩)) ∧ ∃ p : Regrown, w'' = Sort.grow (redrawn wx p.d) p.os :=
      fun d os => Calls.regrown_of (RApart_calls ⟨ka, a⟩ ⟨kb, b⟩ _ (by show a.length ≤ _; omega) (by show b.length ≤ _; omega))
    have c5 : ∀ d os, Calls Tryz.prog 35 #[.agg #[.int .i64 ka, .string (S a)]] (Sort.grow (redrawn wx d) os) fun e w'' => e = .returned (.bool (isTriviaB ⟨ka, a⟩)) ∧ ∃ p : Regrown, w'' = Sort.grow (redrawn wx p.d) p.os :=
      fun d os => Calls.regrown_of (IsTrivia_calls ⟨ka, a⟩ _)
    have c6 : ∀ d os, Calls Tryz.prog 36 #[.agg #[.int .i64 ka, .string (S a)]] (Sort.grow (redrawn wx d) os) fun e w'' => e = .returned (.bool (isTriviaB ⟨ka, a⟩)) ∧ ∃ p : Regrown, w'' = Sort.grow (redrawn wx p.d) p.os :=
      fun d os => Calls.regrown_of (RTrivia_calls ⟨ka, a⟩ _)
    have c7 : ∀ d os, Calls Tryz.prog 37 #[.agg #[.int .i64 ka, .string (S a)]] (Sort.grow (redrawn wx d) os) fun e w'' => e = .returned (.bool (greatB ⟨ka, a⟩)) ∧ ∃ p : Regrown, w'' = Sort.grow (redrawn wx p.d) p.os :=
      fun d os => Calls.regrown_of (Great_calls ⟨ka, a⟩ _)
    have c8 : ∀ d os, Calls Tryz.prog 38 #[.agg #[.int .i64 ka, .string (S a)]] (Sort.grow (redrawn wx d) os) fun e w'' => e = .returned (.bool (greatB ⟨ka, a⟩)) ∧ ∃ p : Regrown, w'' = Sort.grow (redrawn wx p.d) p.os :=
      fun d os => Calls.regrown_of (RGreat_calls ⟨ka, a⟩ _)
    generalize isTokB ⟨ka, a⟩ = p1 at c1 c2
    generalize apartB ⟨ka, a⟩ ⟨kb, b⟩ = p2 at c3 c4
    generalize isTriviaB ⟨ka, a⟩ = p3 at c5 c6
    generalize greatB ⟨ka, a⟩ = p4 at c7 c8
    have e1 : (p1 != p1) = false := by simp
    have e2 : (p2 != p2) = false := by simp
    have e3 : (p3 != p3) = false := by simp
    have e4 : (p4 != p4) = false := by simp
    go_wp2_with fail
    refine wp_region_quiet_below (by first | assumption | kernel_rfl) (by kernel_rfl) ?_
    repeat (go_big_quiet_step (first | (go_at_call 22; exact c1 _ _) | (go_at_call 18; exact c2 _ _) | (go_at_call 26; exact c3 _ _) | (go_at_call 34; exact c4 _ _) | (go_at_call 35; exact c5 _ _) | (go_at_call 36; exact c6 _ _) | (go_at_call 37; exact c7 _ _) | (go_at_call 38; exact c8 _ _)))
    refine wpQuiet_nil ?_
    intro _ hw'
    obtain ⟨⟨dq, osq⟩, hw''⟩ := hw'
    subst hw''
    have hbr := below_regrown wx dq osq
    obtain ⟨wz, hwz⟩ : ∃ wz, wz = Sort.grow (redrawn wx dq) osq := ⟨_, rfl⟩
    rw [← hwz] at hbr ⊢
    clear hwz r0 r1 r2 r3 c1 c2 c3 c4 c5 c6 c7 c8
    go_wp2_with fail
    refine (Solid_calls _ (cutL ts) wz (HRD.out.below hbr) (by rw [cutL_length]; omega)).mono ?_
    rintro e w1 ⟨s, rfl, hs, hb1⟩
    have hbz1 := bel_then hbr hb1
    go_wp2_with fail
    refine (RSolid_calls _ (cutL ts) w1 (HRD.out.below hbz1) (by rw [cutL_length]; omega)).mono ?_
    rintro e w2 ⟨t, rfl, ht, hb2⟩
    have hz2 := bel_then (bel_then hbx hbz1) hb2
    obtain ⟨A1, c1, rfl, hc1⟩ := OwnI.read (own_below hs hb2)
    obtain ⟨A2, c2, rfl, hc2⟩ := OwnI.read ht
    have hl : (solidTo (cutL ts) (cutL ts).length).length ≤ 1000000 := by have := solidTo_le (cutL ts) (cutL ts).length; have := cutL_length ts; omega
    clear hs ht
    obtain ⟨xs, hxs⟩ : ∃ xs, xs = solidTo (cutL ts) (cutL ts).length := ⟨_, rfl⟩
    rw [← hxs] at hl hc1 hc2 ⊢
    clear hxs
    have e5 : ((xs.length : Int) != xs.length) = false := by simp
    have HC1 := Lib.hid hc1; have HC2 := Lib.hid hc2; clear hc1 hc2
    go_wp2_with fail
    obtain ⟨wo, rfl⟩ : ∃ wo : World, wo = w2 := ⟨_, rfl⟩
    go_loopw [12] (fun i wr => ∃ k : Nat, k ≤ xs.length ∧ i = .int .i64 k ∧ Below wo.heap.size wo wr) (fun i _ => xs.length - (intOf i).toNat)
    case atStart => exact ⟨0, Nat.zero_le _, rfl, Below.refl _ _⟩
    case round =>
      obtain ⟨k, hk, rfl, hb⟩ := hrel
      by_cases hlt : k < xs.length
      · obtain ⟨b1, rfl, hb1, hk1⟩ := HC1.out (by omega)
        obtain ⟨b2, rfl, hb2, hk2⟩ := HC2.out (by omega)
        have g1 : wr.cell? ⟨b1, k, none⟩ = some (.int .i64 (xs.getD k 0)) := by rw [hb.cell (p := ⟨b1, _, none⟩) hb1]; exact hk1 k hlt
        have g2 : wr.cell? ⟨b2, k, none⟩ = some (.int .i64 (xs.getD k 0)) := by rw [hb.cell (p := ⟨b2, _, none⟩) hb2]; exact hk2 k hlt
        have e6 : ((xs.getD k 0) != (xs.getD k 0)) = false := by simp
        clear hk1 hk2
        have i0 : (0 : Int) ≤ (k : Int) := by omega
        have i1 : (k : Int) < (xs.length : Int) := by omega
        go_wp2
        go_quiet (fail)
        go_wp2
        go_roundw
        case rel => exact ⟨k + 1, by omega, by go_num, bel_drewN hb _⟩
        case measure => simp [intOf]; omega
      · go_wp2_with fail
        refine (alive_calls _).mono ?_
        rintro e w5 ⟨rfl, hb5⟩
        go_wp2
        go_ret
        exact ⟨rfl, bel_then (bel_then hz2 hb) hb5⟩

end Go.Proofs.YtepgjaecfoaenaaGreatDoor
