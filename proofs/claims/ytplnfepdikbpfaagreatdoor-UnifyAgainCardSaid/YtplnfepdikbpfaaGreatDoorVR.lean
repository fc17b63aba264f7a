/- The walk of unify's vars: the variables of a type, in the order in which they first occur, put behind a row of ints of the call's own. Condition: the type reads in blocks below the row's. -/
import Derived.Test.YtplnfepdikbpfaaGreatDoorST7
namespace Go.Proofs.YtplnfepdikbpfaaGreatDoor
open Go.RowKit
set_option linter.unusedVariables false
set_option linter.unusedSimpArgs false
attribute [local go_sem ↓] Go.wp_at_zero Go.wp_at_succ

mutual
/-- The variables of a type put behind a list. -/
def varsT : Ty → List Int → List Int
  | .mk k m n xs v, l => varsL xs (if k = 6 ∧ l.contains v = false then l ++ [v] else l)
def varsL : List Ty → List Int → List Int
  | [], l => l
  | a :: xs, l => varsL xs (varsT a l)
end
theorem varsT_mk (k : Int) (m n : List UInt8) (xs : List Ty) (v : Int) (l : List Int) : varsT (.mk k m n xs v) l = varsL xs (if k = 6 ∧ l.contains v = false then l ++ [v] else l) := by rw [varsT]
theorem varsL_nil (l : List Int) : varsL [] l = l := by rw [varsL]
theorem varsL_cons (a : Ty) (xs : List Ty) (l : List Int) : varsL (a :: xs) l = varsL xs (varsT a l) := by rw [varsL]
def VarsLen (t : Ty) : Prop := ∀ l : List Int, l.length ≤ (varsT t l).length ∧ (varsT t l).length ≤ l.length + partsT t
theorem varsL_len {xs : List Ty} (ih : ∀ a ∈ xs, VarsLen a) : ∀ l : List Int, l.length ≤ (varsL xs l).length ∧ (varsL xs l).length ≤ l.length + partsL xs := by
  induction xs with
  | nil => intro l; rw [varsL_nil]; simp [partsL]
  | cons a xs ih2 =>
    intro l
    rw [varsL_cons]
    have h1 := ih a (by simp) l
    have h2 := ih2 (fun b hb => ih b (by simp [hb])) (varsT a l)
    have e : partsL (a :: xs) = partsT a + partsL xs := by simp [partsL]
    omega
theorem varsT_len (t : Ty) : VarsLen t := by
  induction t using Ty.ind with
  | h k m n xs v ih =>
    intro l
    rw [varsT_mk]
    have e : partsT (.mk k m n xs v) = 1 + partsL xs := by simp [partsT]
    have h := varsL_len ih (if k = 6 ∧ l.contains v = false then l ++ [v] else l)
    by_cases hc : k = 6 ∧ l.contains v = false
    · rw [if_pos hc] at h ⊢
      simp only [List.length_append, List.length_singleton] at h
      omega
    · rw [if_neg hc] at h ⊢
      omega

/-- A row of ints. -/
abbrev OwnI (w : World) (base : Nat) (v : Value) (l : List Int) : Prop := w.ownsRow base 3 1 v l.length (l.map (Value.int .i64))
theorem OwnI.nil (w : World) (base : Nat) : OwnI w base (.slice none 0 0) [] := ⟨rfl, .inl ⟨rfl, rfl⟩⟩
theorem int_append {ops : Array Oper} {rest : List Oper} {o : Oper} {a : Act} {Q : Exit → Act → World → Prop} {W : World} (base : Nat) (hgd : o.guard = none) (s x : Operand)
    (ho : o.op = .call { callee := .builtin .append, args := #[s, x], argTypes := #[62, 62] })
    (v : Value) (l : List Int) (z : Int) (hs : a.eval s = v) (n : Nat) (hx : a.eval x = .slice (some ⟨n, 0, none⟩) 1 1) (hn : n = W.heap.size)
    (HO : OwnI W base v l) (hbase : base ≤ W.heap.size) (hl : l.length ≤ 1000000000)
    (h : ∀ v1 w1, OwnI w1 base v1 (l ++ [z]) → W.grownBy w1 v.ownBlock → (v1.ownBlock = v.ownBlock ∨ ∃ g, W.heap.size ≤ g ∧ v1.ownBlock = some g) → wpList Tryz.prog ops Q rest (a.put o.dst v1) w1) :
    wpList Tryz.prog ops Q (o :: rest) a (W.alloc (.cells #[.int .i64 z] 3)) := by
  subst hn
  obtain ⟨i0, hi, hzz⟩ := Option.map_eq_some_iff.1 infoI
  simp only [Prod.mk.injEq] at hzz
  obtain ⟨hz0, hz1, hz2⟩ := hzz
  refine wpList_append_own_at (W.alloc (.cells #[.int .i64 z] 3)) hgd s x 62 ho base 3 i0 _ 1 8 Tryz.underlying62 hi hz0 hz1 hz2 rfl (by decide) v l.length (l.map (Value.int .i64)) hs (World.ownsRow.alloc HO _) ⟨W.heap.size, 0, none⟩ 1 1 [.int .i64 z] hx rfl
    (fun j u hj => by rcases j with _ | j <;> simp at hj; subst hj; simp [Addr.add]) (by intro u hu; simp at hu; subst hu; rfl) (by simp only [maxLen]; omega) (by omega) (by simp; omega) ?_
  intro v1 w1 hown hg _ hat
  refine h v1 w1 (by unfold OwnI; rw [List.map_append, List.length_append]; exact hown) (gb_trans (gb_alloc W _ _) hg) ?_
  rcases hat with e | e
  · exact .inl e
  · exact .inr ⟨_, by simp, e⟩
theorem contains_row {w : World} {base : Nat} {v : Value} {l : List Int} (h : OwnI w base v l) (hl : l.length ≤ 1000000000) (x : Int) :
    Calls Tryz.prog 113 #[v, .int .i64 x] w fun e w' => e = .returned (.bool (l.contains x)) ∧ w' = w := by
  obtain ⟨A, c, rfl, -, hs⟩ := row_shape h
  rcases Nat.eq_zero_or_pos l.length with h0 | h0
  · have : l = [] := List.eq_nil_of_length_eq_zero h0
    subst this
    exact Tryz.slices_Contains_int_empty A c x w
  · obtain ⟨g, c', e, -, -, -, hc, -⟩ := row_cells h h0
    injection e with e1 e2 e3
    subst e1
    have h := Tryz.slices_Contains_int g 0 l.length c l x w (Nat.le_refl _) (by omega) (fun j hj => by
      rw [Nat.zero_add]
      exact hc j _ (by simp [List.getD_eq_getElem?_getD, List.getElem?_eq_getElem hj]))
    rw [List.take_length] at h
    exact h

def VarsPost (w : World) (base : Nat) (v : Value) (l : List Int) (e : Ending) (w' : World) : Prop :=
  ∃ A c, e = .returned (.slice A l.length c) ∧ OwnI w' base (.slice A l.length c) l ∧ Tn (fun z => v.ownBlock = some z) w w' ∧ ∀ z, (Value.slice A l.length c).ownBlock = some z → v.ownBlock = some z ∨ w.heap.size ≤ z
def VarsAt (t : Ty) : Prop := ∀ (w : World) (base : Nat) (A : Option Addr) (c : Nat) (va : Value) (l : List Int), OwnI w base (.slice A l.length c) l → ValT (fun b => b < base) w va t → base ≤ w.heap.size → l.length + partsT t ≤ 1000000 →
  Calls Tryz.prog 71 #[va, .slice A l.length c] w (VarsPost w base (.slice A l.length c) (varsT t l))
/-- What holds at the head of vars' loop. -/
structure VarsIn (w1 : World) (base : Nat) (O : Nat → Prop) (xs : List Ty) (lf : List Int) (wr : World) (t : Nat) (l : List Int) (A : Option Addr) (c : Nat) : Prop where
  ht : t ≤ xs.length
  eq : lf = varsL (xs.drop t) l
  own : OwnI wr base (.slice A l.length c) l
  tn : Tn O w1 wr
  ow : ∀ z, (Value.slice A l.length c).ownBlock = some z → O z ∨ w1.heap.size ≤ z
  few : l.length + partsL (xs.drop t) ≤ 1000000

set_option maxRecDepth 100000 in
set_option maxHeartbeats 16000000 in
theorem vars_calls (t : Ty) : VarsAt t := by
  induction t using Ty.ind with
  | h k m n xs v ih =>
    intro w base A c va l hrow hva hbase hfew
    obtain ⟨h1, A0, c0, rfl, hr⟩ := hva
    simp only [tyV, Ty.kind, Ty.mod, Ty.name, Ty.args, Ty.var] at hr ⊢
    have ep : partsT (.mk k m n xs v) = 1 + partsL xs := by simp [partsT]
    rw [ep] at hfew
    have hxl : xs.length ≤ 9223372036854775000 := by obtain ⟨_, _, _, h, _⟩ := hr; exact h.1
    obtain ⟨w1, hw1⟩ : ∃ w1, w1 = w.alloc (.cells #[.int .i64 k, .string (S m), .string (S n), .slice A0 xs.length c0, .int .i64 v] 24) := ⟨_, rfl⟩
    obtain ⟨q2, hq2⟩ : ∃ q2, q2 = w.heap.size := ⟨_, rfl⟩
    have B1 := Lib.hid (show Below w.heap.size w w1 by rw [hw1]; exact bel_alloc (Below.refl _ _) _)
    have blk2 := Lib.hid (show w1.heap[q2]? = some (.cells #[.int .i64 k, .string (S m), .string (S n), .slice A0 xs.length c0, .int .i64 v] 24 (0, 0)) by rw [hw1, hq2]; exact (MapKept.heap_alloc w _).1)
    have HQ := Lib.hid (show q2 = w.heap.size ∧ w1.heap.size = w.heap.size + 1 from ⟨hq2, by rw [hw1]; simp⟩)
    have hrow1 : OwnI w1 base (.slice A l.length c) l := row_turn hrow (Tn.bel B1.out (fun _ => False)) (fun _ _ e => e)
    have hol : ∀ z, (Value.slice A l.length c).ownBlock = some z → base ≤ z ∧ z < w.heap.size := row_lt hrow
    obtain ⟨b0, b1, b2, b3, b4, -⟩ := five_cells blk2.out
    have IH := Lib.hid ih; have HR := Lib.hid hr; have HFEW := Lib.hid hfew; have HROW := Lib.hid hrow1; have HOL := Lib.hid hol; have HBASE := Lib.hid hbase
    -- the loop and what follows, from any row that holds l1
    have hLen := varsL_len (xs := xs) (fun a _ => varsT_len a)
    have HLEN := Lib.hid hLen
    clear ih h1 hr hfew hrow hrow1 hol hbase ep hLen
    have hcc := contains_row HROW.out (by have := HFEW.out; omega) v
    have lcap : l.length ≤ 1000000000 := by have := HFEW.out; omega
    have lb1 : base ≤ w1.heap.size := by have := HBASE.out; have := HQ.out; omega
    have hgo : ∀ (wq : World) (l1 : List Int) (A1 : Option Addr) (c1 : Nat), varsT (.mk k m n xs v) l = varsL xs l1 → OwnI wq base (.slice A1 l1.length c1) l1 → Tn (fun z => (Value.slice A l.length c).ownBlock = some z) w1 wq → (∀ z, (Value.slice A1 l1.length c1).ownBlock = some z → (Value.slice A l.length c).ownBlock = some z ∨ w1.heap.size ≤ z) → l1.length ≤ l.length + 1 →
        VarsIn w1 base (fun z => (Value.slice A l.length c).ownBlock = some z) xs (varsT (.mk k m n xs v) l) wq 0 l1 A1 c1 := fun wq l1 A1 c1 h1 h2 h3 h4 h5 => ⟨Nat.zero_le _, by rw [List.drop_zero]; exact h1, h2, h3, h4, by rw [List.drop_zero]; have := HFEW.out; omega⟩
    have HGO := Lib.hid hgo
    clear hgo
    by_cases hk : k = 6
    · subst hk
      cases hct : l.contains v with
      | true =>
        rw [hct] at hcc
        have HIN := Lib.hid (HGO.out w1 l A c (by rw [varsT_mk, hct]; simp) HROW.out (Tn.refl _ _) (fun z e => .inl e) (by omega))
        clear hct
        go_enter Tryz.func71, Tryz.ntmps71
        go_wp2_with fail
        rw [← hw1, ← hq2]
        clear hw1 hq2
        refine hcc.mono ?_
        rintro e w3 ⟨rfl, hw3⟩
        have hw4 := hw3.symm
        subst hw4
        clear hw3
        clear hcc
        go_wp2_with fail
        go_loopw [1, 25] (fun u1v i wr => ∃ (t : Nat) (lt : List Int) (At : Option Addr) (ct : Nat), u1v = .slice At lt.length ct ∧ i = .int .i64 (t : Int) ∧ VarsIn w1 base (fun z => (Value.slice A l.length c).ownBlock = some z) xs (varsT (.mk 6 m n xs v) l) wr t lt At ct) (fun _ i _ => xs.length - (intOf i).toNat)
        case atStart => exact ⟨0, l, A, c, by first | rfl | simp, rfl, HIN.out⟩
        case round =>
          obtain ⟨t, lt, At, ct, rfl, rfl, hI⟩ := hrel
          have hcw : ∀ b o, b < base → wr.cell? ⟨b, o, none⟩ = w.cell? ⟨b, o, none⟩ := fun b o hb => (hI.tn.cell (by have := HBASE.out; have := HQ.out; omega) (fun e => by have := HOL.out b e; omega) o).trans (B1.out.cell (p := ⟨b, o, none⟩) (by have := HBASE.out; show b < _; omega))
          have hrw : RdL (fun b => b < base) wr (.slice A0 xs.length c0) xs := HR.out.turn (fun b h => h) (fun b o h => hcw b o h)
          have HI := Lib.hid hI
          clear hI hcw
          by_cases hlt : t < xs.length
          · obtain ⟨-, -, hxx⟩ := hrw.at_
            obtain ⟨e1, off, rfl, he0, hc⟩ := hxx (by omega)
            obtain ⟨A2, c2, g1, g2, g3, g4, g5, g6, g7⟩ := hc t hlt
            obtain ⟨tt, htt⟩ : ∃ tt, tt = tyAt xs t := ⟨_, rfl⟩
            rw [← htt] at g1 g2 g3 g4 g5 g6 g7
            have hdrop : xs.drop t = tt :: xs.drop (t + 1) := by
              rw [List.drop_eq_getElem_cons hlt, htt]
              congr 1
              simp [tyAt, List.getD_eq_getElem?_getD, List.getElem?_eq_getElem hlt]
            have hf := HI.out.few
            have he := HI.out.eq
            rw [hdrop] at hf he
            have epl : partsL (tt :: xs.drop (t + 1)) = partsT tt + partsL (xs.drop (t + 1)) := by simp [partsL]
            rw [epl] at hf
            rw [varsL_cons] at he
            have hvl := varsT_len tt lt
            have hw1r := HI.out.tn.size
            obtain ⟨w5, hw5⟩ : ∃ w5, w5 = wr.alloc (.cells #[.int .i64 tt.kind, .string (S tt.mod), .string (S tt.name), .slice A2 tt.args.length c2, .int .i64 tt.var] 24) := ⟨_, rfl⟩
            have Y5 := Lib.hid (show Below wr.heap.size wr w5 by rw [hw5]; exact bel_alloc (Below.refl _ _) _)
            have hbr : base ≤ wr.heap.size := by have := HBASE.out; have := HQ.out; omega
            have hcall := IH.out tt (by rw [htt]; exact tyAt_mem hlt) w5 base At ct _ lt (row_turn HI.out.own (Tn.bel Y5.out (fun _ => False)) (fun _ _ e => e)) ⟨g7, A2, c2, rfl, g6.turn (fun b h => h) (fun b o h => Y5.out.cell (p := ⟨b, o, none⟩) (Nat.lt_of_lt_of_le h hbr))⟩ (Nat.le_trans hbr Y5.out.size) (by omega)
            unfold tyV at hcall
            have HE := Lib.hid he; have HF := Lib.hid hf; have HVL := Lib.hid hvl; have HW5 := Lib.hid hw5
            have i0 : (0 : Int) ≤ (t : Int) := by omega
            have i1 : (t : Int) < (xs.length : Int) := by omega
            clear hxx hc htt hdrop hf he epl hvl hw5 g6 g7 hrw hw1r
            go_wp2_with fail
            rw [← HW5.out]
            refine hcall.mono ?_
            rintro e w6 ⟨A6, c6, rfl, hrow6, hT6, how6⟩
            have hI6 : VarsIn w1 base (fun z => (Value.slice A l.length c).ownBlock = some z) xs (varsT (.mk 6 m n xs v) l) w6 (t + 1) (varsT tt lt) A6 c6 := by
              have hsz := HI.out.tn.size
              have h5 := Y5.out.size
              refine ⟨by omega, HE.out, hrow6, ?_, fun z e => ?_, by have := HF.out; have := HVL.out; omega⟩
              · exact (HI.out.tn.trans (Tn.bel Y5.out _)).then hT6 (fun z e => HI.out.ow z e)
              · rcases how6 z e with e2 | e2
                · exact HI.out.ow z e2
                · exact .inr (by omega)
            have HI6 := Lib.hid hI6
            clear hrow6 hT6 how6 hI6 hcall g1 g2 g3 g4 g5
            go_wp2
            go_roundw
            case rel => exact ⟨t + 1, varsT tt lt, A6, c6, rfl, by go_num, HI6.out⟩
            case measure => simp [intOf]; omega
          · obtain rfl : t = xs.length := by have := HI.out.ht; omega
            have lt1 : ¬ ((xs.length : Int) < (xs.length : Int)) := by omega
            have he := HI.out.eq
            rw [List.drop_length, varsL_nil] at he
            have HP : VarsPost w base (.slice A l.length c) (varsT (.mk 6 m n xs v) l) (.returned (.slice At lt.length ct)) wr := by
              rw [he]
              have hs1 := HQ.out
              refine ⟨At, ct, rfl, HI.out.own, (Tn.bel B1.out _).trans HI.out.tn, fun z e => (HI.out.ow z e).imp id (fun h => by omega)⟩
            have HP := Lib.hid HP
            clear he hlt hrw
            go_wp2
            go_ret
            exact HP.out
      | false =>
        rw [hct] at hcc
        have HEQ := Lib.hid (show varsT (.mk 6 m n xs v) l = varsL xs (l ++ [v]) by rw [varsT_mk, hct]; simp)
        clear hct
        go_enter Tryz.func71, Tryz.ntmps71
        go_wp2_with fail
        rw [← hw1, ← hq2]
        have HW1 := Lib.hid hw1; have HQ2 := Lib.hid hq2
        clear hw1 hq2
        refine hcc.mono ?_
        rintro e w3 ⟨rfl, hw3⟩
        have hw4 := hw3.symm
        subst hw4
        clear hw3
        clear hcc
        have lq2 : q2 < w1.heap.size := lt_of_block blk2.out
        have hb2 := Lib.hid (show ∀ X, w1.grownBy X (Value.slice A l.length c).ownBlock → X.heap[q2]? = some (.cells #[.int .i64 6, .string (S m), .string (S n), .slice A0 xs.length c0, .int .i64 v] 24 (0, 0)) from fun X hX => (hX.block q2 lq2 (fun e => by have h1 := HOL.out q2 e.symm; have h2 := HQ.out; omega)).trans blk2.out)
        go_wp2_with (at_builtin; refine int_append base rfl (.tmp 17) (.tmp 20) rfl (.slice A l.length c) l v rfl w1.heap.size rfl rfl HROW.out lb1 lcap ?_; intro v4 w4 hown4 hg4 hat4; obtain ⟨A4, c4, hv40, -⟩ := row_shape hown4; have hv4 : v4 = .slice A4 (l.length + 1) c4 := hv40.trans (by simp); subst hv4; have c3 := (five_cells (hb2.out w4 hg4)).2.2.2.1; have HOWN4 := Lib.hid hown4; have HG4 := Lib.hid hg4; have HAT4 := Lib.hid hat4; clear hown4 hg4 hat4 hv40)
        have hIN : VarsIn w1 base (fun z => (Value.slice A l.length c).ownBlock = some z) xs (varsT (.mk 6 m n xs v) l) w4 0 (l ++ [v]) A4 c4 := by
          refine HGO.out w4 (l ++ [v]) A4 c4 HEQ.out (by have h := HOWN4.out; simpa using h) (Tn.gb HG4.out (fun z e => .inl e)) (fun z e => ?_) (by simp)
          have e' : (Value.slice A4 (l.length + 1) c4).ownBlock = some z := by simpa [Value.ownBlock] using e
          rcases HAT4.out with e2 | ⟨g, hg, e2⟩
          · exact .inl (by rw [← e2]; exact e')
          · rw [e2] at e'; have := Option.some.inj e'; exact .inr (by omega)
        have HIN := Lib.hid hIN
        clear hIN
        go_loopw [1, 25] (fun u1v i wr => ∃ (t : Nat) (lt : List Int) (At : Option Addr) (ct : Nat), u1v = .slice At lt.length ct ∧ i = .int .i64 (t : Int) ∧ VarsIn w1 base (fun z => (Value.slice A l.length c).ownBlock = some z) xs (varsT (.mk 6 m n xs v) l) wr t lt At ct) (fun _ i _ => xs.length - (intOf i).toNat)
        case atStart => exact ⟨0, l ++ [v], A4, c4, by simp, rfl, HIN.out⟩
        case round =>
          obtain ⟨t, lt, At, ct, rfl, rfl, hI⟩ := hrel
          have hcw : ∀ b o, b < base → wr.cell? ⟨b, o, none⟩ = w.cell? ⟨b, o, none⟩ := fun b o hb => (hI.tn.cell (by have := HBASE.out; have := HQ.out; omega) (fun e => by have := HOL.out b e; omega) o).trans (B1.out.cell (p := ⟨b, o, none⟩) (by have := HBASE.out; show b < _; omega))
          have hrw : RdL (fun b => b < base) wr (.slice A0 xs.length c0) xs := HR.out.turn (fun b h => h) (fun b o h => hcw b o h)
          have HI := Lib.hid hI
          clear hI hcw
          by_cases hlt : t < xs.length
          · obtain ⟨-, -, hxx⟩ := hrw.at_
            obtain ⟨e1, off, rfl, he0, hc⟩ := hxx (by omega)
            obtain ⟨A2, c2, g1, g2, g3, g4, g5, g6, g7⟩ := hc t hlt
            obtain ⟨tt, htt⟩ : ∃ tt, tt = tyAt xs t := ⟨_, rfl⟩
            rw [← htt] at g1 g2 g3 g4 g5 g6 g7
            have hdrop : xs.drop t = tt :: xs.drop (t + 1) := by
              rw [List.drop_eq_getElem_cons hlt, htt]
              congr 1
              simp [tyAt, List.getD_eq_getElem?_getD, List.getElem?_eq_getElem hlt]
            have hf := HI.out.few
            have he := HI.out.eq
            rw [hdrop] at hf he
            have epl : partsL (tt :: xs.drop (t + 1)) = partsT tt + partsL (xs.drop (t + 1)) := by simp [partsL]
            rw [epl] at hf
            rw [varsL_cons] at he
            have hvl := varsT_len tt lt
            have hw1r := HI.out.tn.size
            obtain ⟨w5, hw5⟩ : ∃ w5, w5 = wr.alloc (.cells #[.int .i64 tt.kind, .string (S tt.mod), .string (S tt.name), .slice A2 tt.args.length c2, .int .i64 tt.var] 24) := ⟨_, rfl⟩
            have Y5 := Lib.hid (show Below wr.heap.size wr w5 by rw [hw5]; exact bel_alloc (Below.refl _ _) _)
            have hbr : base ≤ wr.heap.size := by have := HBASE.out; have := HQ.out; omega
            have hcall := IH.out tt (by rw [htt]; exact tyAt_mem hlt) w5 base At ct _ lt (row_turn HI.out.own (Tn.bel Y5.out (fun _ => False)) (fun _ _ e => e)) ⟨g7, A2, c2, rfl, g6.turn (fun b h => h) (fun b o h => Y5.out.cell (p := ⟨b, o, none⟩) (Nat.lt_of_lt_of_le h hbr))⟩ (Nat.le_trans hbr Y5.out.size) (by omega)
            unfold tyV at hcall
            have HE := Lib.hid he; have HF := Lib.hid hf; have HVL := Lib.hid hvl; have HW5 := Lib.hid hw5
            have i0 : (0 : Int) ≤ (t : Int) := by omega
            have i1 : (t : Int) < (xs.length : Int) := by omega
            clear hxx hc htt hdrop hf he epl hvl hw5 g6 g7 hrw hw1r
            go_wp2_with fail
            rw [← HW5.out]
            refine hcall.mono ?_
            rintro e w6 ⟨A6, c6, rfl, hrow6, hT6, how6⟩
            have hI6 : VarsIn w1 base (fun z => (Value.slice A l.length c).ownBlock = some z) xs (varsT (.mk 6 m n xs v) l) w6 (t + 1) (varsT tt lt) A6 c6 := by
              have hsz := HI.out.tn.size
              have h5 := Y5.out.size
              refine ⟨by omega, HE.out, hrow6, ?_, fun z e => ?_, by have := HF.out; have := HVL.out; omega⟩
              · exact (HI.out.tn.trans (Tn.bel Y5.out _)).then hT6 (fun z e => HI.out.ow z e)
              · rcases how6 z e with e2 | e2
                · exact HI.out.ow z e2
                · exact .inr (by omega)
            have HI6 := Lib.hid hI6
            clear hrow6 hT6 how6 hI6 hcall g1 g2 g3 g4 g5
            go_wp2
            go_roundw
            case rel => exact ⟨t + 1, varsT tt lt, A6, c6, rfl, by go_num, HI6.out⟩
            case measure => simp [intOf]; omega
          · obtain rfl : t = xs.length := by have := HI.out.ht; omega
            have lt1 : ¬ ((xs.length : Int) < (xs.length : Int)) := by omega
            have he := HI.out.eq
            rw [List.drop_length, varsL_nil] at he
            have HP : VarsPost w base (.slice A l.length c) (varsT (.mk 6 m n xs v) l) (.returned (.slice At lt.length ct)) wr := by
              rw [he]
              have hs1 := HQ.out
              refine ⟨At, ct, rfl, HI.out.own, (Tn.bel B1.out _).trans HI.out.tn, fun z e => (HI.out.ow z e).imp id (fun h => by omega)⟩
            have HP := Lib.hid HP
            clear he hlt hrw
            go_wp2
            go_ret
            exact HP.out
    · have q1 : (k == 6) = false := by simp [hk]
      have HIN := Lib.hid (HGO.out w1 l A c (by rw [varsT_mk]; simp [hk]) HROW.out (Tn.refl _ _) (fun z e => .inl e) (by omega))
      clear hk hcc
      go_enter Tryz.func71, Tryz.ntmps71
      go_wp2_with fail
      rw [← hw1, ← hq2]
      clear hw1 hq2
      go_wp2_with fail
      go_loopw [1, 25] (fun u1v i wr => ∃ (t : Nat) (lt : List Int) (At : Option Addr) (ct : Nat), u1v = .slice At lt.length ct ∧ i = .int .i64 (t : Int) ∧ VarsIn w1 base (fun z => (Value.slice A l.length c).ownBlock = some z) xs (varsT (.mk k m n xs v) l) wr t lt At ct) (fun _ i _ => xs.length - (intOf i).toNat)
      case atStart => exact ⟨0, l, A, c, by first | rfl | simp, rfl, HIN.out⟩
      case round =>
        obtain ⟨t, lt, At, ct, rfl, rfl, hI⟩ := hrel
        have hcw : ∀ b o, b < base → wr.cell? ⟨b, o, none⟩ = w.cell? ⟨b, o, none⟩ := fun b o hb => (hI.tn.cell (by have := HBASE.out; have := HQ.out; omega) (fun e => by have := HOL.out b e; omega) o).trans (B1.out.cell (p := ⟨b, o, none⟩) (by have := HBASE.out; show b < _; omega))
        have hrw : RdL (fun b => b < base) wr (.slice A0 xs.length c0) xs := HR.out.turn (fun b h => h) (fun b o h => hcw b o h)
        have HI := Lib.hid hI
        clear hI hcw
        by_cases hlt : t < xs.length
        · obtain ⟨-, -, hxx⟩ := hrw.at_
          obtain ⟨e1, off, rfl, he0, hc⟩ := hxx (by omega)
          obtain ⟨A2, c2, g1, g2, g3, g4, g5, g6, g7⟩ := hc t hlt
          obtain ⟨tt, htt⟩ : ∃ tt, tt = tyAt xs t := ⟨_, rfl⟩
          rw [← htt] at g1 g2 g3 g4 g5 g6 g7
          have hdrop : xs.drop t = tt :: xs.drop (t + 1) := by
            rw [List.drop_eq_getElem_cons hlt, htt]
            congr 1
            simp [tyAt, List.getD_eq_getElem?_getD, List.getElem?_eq_getElem hlt]
          have hf := HI.out.few
          have he := HI.out.eq
          rw [hdrop] at hf he
          have epl : partsL (tt :: xs.drop (t + 1)) = partsT tt + partsL (xs.drop (t + 1)) := by simp [partsL]
          rw [epl] at hf
          rw [varsL_cons] at he
          have hvl := varsT_len tt lt
          have hw1r := HI.out.tn.size
          obtain ⟨w5, hw5⟩ : ∃ w5, w5 = wr.alloc (.cells #[.int .i64 tt.kind, .string (S tt.mod), .string (S tt.name), .slice A2 tt.args.length c2, .int .i64 tt.var] 24) := ⟨_, rfl⟩
          have Y5 := Lib.hid (show Below wr.heap.size wr w5 by rw [hw5]; exact bel_alloc (Below.refl _ _) _)
          have hbr : base ≤ wr.heap.size := by have := HBASE.out; have := HQ.out; omega
          have hcall := IH.out tt (by rw [htt]; exact tyAt_mem hlt) w5 base At ct _ lt (row_turn HI.out.own (Tn.bel Y5.out (fun _ => False)) (fun _ _ e => e)) ⟨g7, A2, c2, rfl, g6.turn (fun b h => h) (fun b o h => Y5.out.cell (p := ⟨b, o, none⟩) (Nat.lt_of_lt_of_le h hbr))⟩ (Nat.le_trans hbr Y5.out.size) (by omega)
          unfold tyV at hcall
          have HE := Lib.hid he; have HF := Lib.hid hf; have HVL := Lib.hid hvl; have HW5 := Lib.hid hw5
          have i0 : (0 : Int) ≤ (t : Int) := by omega
          have i1 : (t : Int) < (xs.length : Int) := by omega
          clear hxx hc htt hdrop hf he epl hvl hw5 g6 g7 hrw hw1r
          go_wp2_with fail
          rw [← HW5.out]
          refine hcall.mono ?_
          rintro e w6 ⟨A6, c6, rfl, hrow6, hT6, how6⟩
          have hI6 : VarsIn w1 base (fun z => (Value.slice A l.length c).ownBlock = some z) xs (varsT (.mk k m n xs v) l) w6 (t + 1) (varsT tt lt) A6 c6 := by
            have hsz := HI.out.tn.size
            have h5 := Y5.out.size
            refine ⟨by omega, HE.out, hrow6, ?_, fun z e => ?_, by have := HF.out; have := HVL.out; omega⟩
            · exact (HI.out.tn.trans (Tn.bel Y5.out _)).then hT6 (fun z e => HI.out.ow z e)
            · rcases how6 z e with e2 | e2
              · exact HI.out.ow z e2
              · exact .inr (by omega)
          have HI6 := Lib.hid hI6
          clear hrow6 hT6 how6 hI6 hcall g1 g2 g3 g4 g5
          go_wp2
          go_roundw
          case rel => exact ⟨t + 1, varsT tt lt, A6, c6, rfl, by go_num, HI6.out⟩
          case measure => simp [intOf]; omega
        · obtain rfl : t = xs.length := by have := HI.out.ht; omega
          have lt1 : ¬ ((xs.length : Int) < (xs.length : Int)) := by omega
          have he := HI.out.eq
          rw [List.drop_length, varsL_nil] at he
          have HP : VarsPost w base (.slice A l.length c) (varsT (.mk k m n xs v) l) (.returned (.slice At lt.length ct)) wr := by
            rw [he]
            have hs1 := HQ.out
            refine ⟨At, ct, rfl, HI.out.own, (Tn.bel B1.out _).trans HI.out.tn, fun z e => (HI.out.ow z e).imp id (fun h => by omega)⟩
          have HP := Lib.hid HP
          clear he hlt hrw
          go_wp2
          go_ret
          exact HP.out

end Go.Proofs.YtplnfepdikbpfaaGreatDoor
