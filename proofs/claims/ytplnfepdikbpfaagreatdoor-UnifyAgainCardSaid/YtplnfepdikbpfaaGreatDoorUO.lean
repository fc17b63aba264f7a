/- A slice of types in a row of memory of the call's own, and how it grows. Condition: fewer than a million. -/
import Derived.Test.YtplnfepdikbpfaaGreatDoorU3
namespace Go.Proofs.YtplnfepdikbpfaaGreatDoor
open Go.RowKit
set_option linter.unusedVariables false
set_option linter.unusedSimpArgs false

/-- A type with its Args' address and capacity. -/
abbrev TyI := Ty × Option Addr × Nat
def tyCells (L : List TyI) : List Value := L.flatMap fun x => [.int .i64 x.1.kind, .string (S x.1.mod), .string (S x.1.name), .slice x.2.1 x.1.args.length x.2.2, .int .i64 x.1.var]
theorem tyCells_append (a b : List TyI) : tyCells (a ++ b) = tyCells a ++ tyCells b := by simp [tyCells]
theorem tyCells_length (L : List TyI) : (tyCells L).length = L.length * 5 := by
  induction L with
  | nil => rfl
  | cons t L ih => simp [tyCells] at ih ⊢; omega
theorem tyCells_at (L : List TyI) (k : Nat) (h : k < L.length) : ∀ j, j < 5 → (tyCells L)[k * 5 + j]? = [Value.int .i64 L[k].1.kind, .string (S L[k].1.mod), .string (S L[k].1.name), .slice L[k].2.1 L[k].1.args.length L[k].2.2, .int .i64 L[k].1.var][j]? := by
  induction L generalizing k with
  | nil => simp at h
  | cons x L ih =>
    intro j hj
    have e : tyCells (x :: L) = [Value.int .i64 x.1.kind, .string (S x.1.mod), .string (S x.1.name), .slice x.2.1 x.1.args.length x.2.2, .int .i64 x.1.var] ++ tyCells L := rfl
    cases k with
    | zero =>
      rw [e, List.getElem?_append_left (by simp; omega)]
      simp
    | succ k =>
      rw [e, List.getElem?_append_right (by simp; omega)]
      have := ih k (by simpa using h) j hj
      simp only [List.getElem_cons_succ]
      rw [← this]
      congr 1
      simp
      omega

/-- The slice has these types, in a row of memory of the call's own; what they lean on lies elsewhere, in blocks that 'ok' names. -/
def OwnTy (ok : Nat → Prop) (w : World) (base : Nat) (v : Value) (ts : List Ty) : Prop :=
  ∃ L : List TyI, L.map (·.1) = ts ∧ w.ownsRow base 24 5 v L.length (tyCells L) ∧ ∀ x ∈ L, Ok1 x.1 ∧ RdL (fun b => ok b ∧ b < w.heap.size ∧ v.ownBlock ≠ some b) w (.slice x.2.1 x.1.args.length x.2.2) x.1.args
theorem OwnTy.nil (ok : Nat → Prop) (w : World) (base : Nat) : OwnTy ok w base (.slice none 0 0) [] := ⟨[], rfl, ⟨rfl, .inl ⟨rfl, rfl⟩⟩, fun x hx => nomatch hx⟩

theorem OwnTy.grown {ok : Nat → Prop} {w W : World} {base : Nat} {v : Value} {ts : List Ty} {r : Option Nat} (h : OwnTy ok w base v ts) (hg : w.grownBy W r) (hr : ∀ k, r = some k → ¬ ok k ∧ v.ownBlock ≠ some k) : OwnTy ok W base v ts := by
  obtain ⟨L, rfl, h1, h2⟩ := h
  refine ⟨L, rfl, h1.kept hg ?_, fun x hx => ⟨(h2 x hx).1, (h2 x hx).2.turn (fun b hb => ⟨hb.1, Nat.lt_of_lt_of_le hb.2.1 hg.size, hb.2.2⟩) fun b o hb => ?_⟩⟩
  · cases r with
    | none => cases v.ownBlock <;> simp
    | some k => exact .inr ((hr k rfl).2)
  · refine World.cell?_of_block (hg.block b hb.2.1 (fun e => ?_))
    exact (hr b e.symm).1 hb.1
theorem OwnTy.called {ok : Nat → Prop} {w W : World} {base : Nat} {v : Value} {ts : List Ty} (h : OwnTy ok w base v ts) (hb : Below w.heap.size w W) : OwnTy ok W base v ts :=
  h.grown (gb_below hb none) (fun k e => by cases e)
theorem OwnTy.lt {ok : Nat → Prop} {w : World} {base : Nat} {v : Value} {ts : List Ty} (h : OwnTy ok w base v ts) : ∀ k, v.ownBlock = some k → base ≤ k ∧ k < w.heap.size := by
  obtain ⟨L, rfl, h1, h2⟩ := h
  exact h1.lt
theorem OwnTy.length {ok : Nat → Prop} {w : World} {base : Nat} {v : Value} {ts : List Ty} (h : OwnTy ok w base v ts) : ∃ A c, v = .slice A ts.length c ∧ ts.length ≤ c := by
  obtain ⟨L, rfl, h1, h2⟩ := h
  rcases h1.2 with ⟨rfl, h0⟩ | ⟨g, cap, cur, rfl, hb, hh, hc, _⟩
  · exact ⟨none, 0, by simp [h0], by simp [h0]⟩
  · exact ⟨some ⟨g, 0, none⟩, cap, by simp, by simpa using hc⟩

/-- .. reads. -/
theorem OwnTy.read {ok : Nat → Prop} {w : World} {base : Nat} {v : Value} {ts : List Ty} (h : OwnTy ok w base v ts) (hn : ts.length ≤ 9223372036854775000) (ok' : Nat → Prop) (hk : ∀ b, ok b → b < w.heap.size → ok' b) (ho : ∀ b, v.ownBlock = some b → ok' b) : RdL ok' w v ts := by
  obtain ⟨L, rfl, h1, h2⟩ := h
  rcases id h1.2 with ⟨rfl, h0⟩ | ⟨g, cap, cur, rfl, hb, hh, hc, _⟩
  · have : L = [] := List.eq_nil_of_length_eq_zero h0
    subst this
    exact RdL_nil _ _
  · refine ⟨some ⟨g, 0, none⟩, cap, by simp, ⟨hn, by simpa using hc⟩, fun _ => ⟨g, 0, rfl, ho g rfl, RdF_of fun k hk' => ?_⟩⟩
    have hkL : k < L.length := by simpa using hk'
    have e : tyAt (L.map (·.1)) k = L[k].1 := by simp [tyAt, List.getD_eq_getElem?_getD, List.getElem?_eq_getElem hkL]
    have hcell : ∀ j u, (tyCells L)[j]? = some u → w.cell? ⟨g, 0 + j, none⟩ = some u := fun j u hj => by
      have hc0 := World.ownsRow.cells h1 (g := g) rfl j u hj
      have ha : (⟨g, 0, none⟩ : Addr).add j = ⟨g, 0 + j, none⟩ := by unfold Addr.add; split <;> simp_all
      rwa [ha] at hc0
    have hx := h2 _ (List.getElem_mem hkL)
    rw [e, RdT_def]
    have c0 := hcell (k * 5) _ (by have := tyCells_at L k hkL 0 (by omega); simpa using this)
    have c1 := hcell (k * 5 + 1) _ (by have := tyCells_at L k hkL 1 (by omega); simpa using this)
    have c2 := hcell (k * 5 + 2) _ (by have := tyCells_at L k hkL 2 (by omega); simpa using this)
    have c3 := hcell (k * 5 + 3) _ (by have := tyCells_at L k hkL 3 (by omega); simpa using this)
    have c4 := hcell (k * 5 + 4) _ (by have := tyCells_at L k hkL 4 (by omega); simpa using this)
    exact ⟨c0, by rw [Nat.add_assoc]; exact c1, by rw [Nat.add_assoc]; exact c2, hx.1, ⟨_, by rw [Nat.add_assoc]; exact c3, hx.2.weak (fun b hb => hk b hb.1 hb.2.1)⟩, by rw [Nat.add_assoc]; exact c4⟩

theorem infoTy : (Tryz.prog.info? 24).map (fun i => (i.zero, i.size, i.bytes)) = some (some (.agg #[.int .i64 0, .string ⟨#[]⟩, .string ⟨#[]⟩, .slice none 0 0, .int .i64 0]), 5, 72) := by kernel_rfl

theorem ty_append {ops : Array Oper} {rest : List Oper} {o : Oper} {a : Act} {Q : Exit → Act → World → Prop} {W : World} (ok : Nat → Prop) (base : Nat) (hgd : o.guard = none) (s x : Operand)
    (ho : o.op = .call { callee := .builtin .append, args := #[s, x], argTypes := #[22, 22] })
    (v : Value) (ts : List Ty) (t : Ty) (A : Option Addr) (c : Nat) (hs : a.eval s = v) (n : Nat) (hx : a.eval x = .slice (some ⟨n, 0, none⟩) 1 1) (hn : n = W.heap.size)
    (HO : OwnTy ok W base v ts) (HT : Ok1 t ∧ RdL (fun b => ok b ∧ b < W.heap.size ∧ v.ownBlock ≠ some b) W (.slice A t.args.length c) t.args) (hbase : base ≤ W.heap.size) (hl : ts.length ≤ 1000000)
    (h : ∀ v1 w1, OwnTy ok w1 base v1 (ts ++ [t]) → W.grownBy w1 v.ownBlock → (v1.ownBlock = v.ownBlock ∨ ∃ g, W.heap.size ≤ g ∧ v1.ownBlock = some g) → wpList Tryz.prog ops Q rest (a.put o.dst v1) w1) :
    wpList Tryz.prog ops Q (o :: rest) a (W.alloc (.cells #[.int .i64 t.kind, .string (S t.mod), .string (S t.name), .slice A t.args.length c, .int .i64 t.var] 24)) := by
  subst hn
  obtain ⟨i0, hi, hzz⟩ := Option.map_eq_some_iff.1 infoTy
  simp only [Prod.mk.injEq] at hzz
  obtain ⟨hz0, hz1, hz2⟩ := hzz
  obtain ⟨L, hL, h1, h2⟩ := HO
  have hLl : L.length = ts.length := by rw [← hL]; simp
  refine wpList_append_own_at (W.alloc (.cells #[.int .i64 t.kind, .string (S t.mod), .string (S t.name), .slice A t.args.length c, .int .i64 t.var] 24)) hgd s x 22 ho base 24 i0 _ 5 72 Tryz.underlying22 hi hz0 hz1 hz2 rfl (by decide) v L.length (tyCells L) hs (World.ownsRow.alloc h1 _) ⟨W.heap.size, 0, none⟩ 1 1 [.int .i64 t.kind, .string (S t.mod), .string (S t.name), .slice A t.args.length c, .int .i64 t.var] hx rfl
    (fun j u hj => by rcases j with _ | _ | _ | _ | _ | j <;> simp at hj <;> subst hj <;> simp [Addr.add]) (by intro u hu; simp at hu; rcases hu with rfl | rfl | rfl | rfl | rfl <;> rfl) (by simp only [maxLen]; omega) (by omega) (by simp; omega) ?_
  intro v1 w1 hown hg _ hat
  have hgW : W.grownBy w1 v.ownBlock := gb_trans (gb_alloc W _ _) hg
  have hnew : ∀ b, b < W.heap.size → v.ownBlock ≠ some b → v1.ownBlock ≠ some b := by
    intro b hb hne
    rcases hat with e | e
    · rw [e]; exact hne
    · rw [e]; intro e2; simp at e2; omega
  refine h v1 w1 ⟨L ++ [(t, A, c)], by simp [hL], ?_, ?_⟩ hgW ?_
  · rw [tyCells_append, List.length_append]
    exact hown
  · intro y hy
    rcases List.mem_append.1 hy with hy | hy
    · obtain ⟨g1, g2⟩ := h2 y hy
      exact ⟨g1, g2.turn (fun b hb => ⟨hb.1, Nat.lt_of_lt_of_le hb.2.1 hgW.size, hnew b hb.2.1 hb.2.2⟩) fun b o hb => World.cell?_of_block (hgW.block b hb.2.1 (Ne.symm hb.2.2))⟩
    · obtain rfl := List.mem_singleton.1 hy
      exact ⟨HT.1, HT.2.turn (fun b hb => ⟨hb.1, Nat.lt_of_lt_of_le hb.2.1 hgW.size, hnew b hb.2.1 hb.2.2⟩) fun b o hb => World.cell?_of_block (hgW.block b hb.2.1 (Ne.symm hb.2.2))⟩
  · rcases hat with e | e
    · exact .inl e
    · exact .inr ⟨_, by simp, e⟩

end Go.Proofs.YtplnfepdikbpfaaGreatDoor
