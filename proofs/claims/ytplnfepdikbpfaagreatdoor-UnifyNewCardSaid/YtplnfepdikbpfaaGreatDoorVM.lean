/- The walks of unify's Normals and Normal. Condition: the type reads. -/
import Derived.Test.YtplnfepdikbpfaaGreatDoorVJ
namespace Go.Proofs.YtplnfepdikbpfaaGreatDoor
open Go.RowKit
set_option linter.unusedVariables false
set_option linter.unusedSimpArgs false
attribute [local go_sem ↓] Go.wp_at_zero Go.wp_at_succ

theorem index_row {w : World} {base : Nat} {v : Value} {l : List Int} (h : OwnI w base v l) (hl : l.length ≤ 1000000000) (x : Int) :
    Calls Tryz.prog 115 #[v, .int .i64 x] w fun e w' => e = .returned (.int .i64 (Lib.idxOf l x)) ∧ w' = w := by
  obtain ⟨A, c, rfl, -, hs⟩ := row_shape h
  rcases Nat.eq_zero_or_pos l.length with h0 | h0
  · have : l = [] := List.eq_nil_of_length_eq_zero h0
    subst this
    exact Tryz.slices_Index_int_empty A c x w
  · obtain ⟨g, c', e, -, -, -, hc, -⟩ := row_cells h h0
    injection e with e1 e2 e3
    subst e1
    have h := Tryz.slices_Index_int g 0 l.length c l x w (Nat.le_refl _) (by omega) (fun j hj => by
      rw [Nat.zero_add]
      exact hc j _ (by simp [List.getD_eq_getElem?_getD, List.getElem?_eq_getElem hj]))
    rw [List.take_length] at h
    exact h

/-- The closure that asks for the place of a variable. -/
theorem norm1_calls {w : World} {base q : Nat} {A : Option Addr} {c : Nat} {l : List Int} (h0 : w.cell? ⟨q, 0, none⟩ = some (.slice A l.length c)) (h : OwnI w base (.slice A l.length c) l) (hl : l.length ≤ 1000000000) (v : Int) :
    Calls Tryz.prog 114 #[.int .i64 v, .pointer (some ⟨q, 0, none⟩)] w fun e w' => e = .returned (.int .i64 (Lib.idxOf l v)) ∧ w' = w := by
  have hi := index_row h hl v
  clear h
  go_enter Tryz.func114, Tryz.ntmps114
  go_wp2_with fail
  refine hi.mono ?_
  rintro e w1 ⟨rfl, hw1⟩
  have hw2 := hw1.symm
  subst hw2
  clear hw1 hi
  go_wp2
  go_ret
  exact ⟨rfl, rfl⟩
theorem norm1_enters (args : Array Value) (w : World) : (callFunc 114 args).run Tryz.prog w = .ok (.enter 114 args) w := by go_simp
theorem norm1_of {w : World} {base q : Nat} {A : Option Addr} {c : Nat} {l : List Int} (hq : q < w.heap.size) (h0 : w.cell? ⟨q, 0, none⟩ = some (.slice A l.length c)) (h : OwnI w base (.slice A l.length c) l) (hl : l.length ≤ 1000000000) : OfIs' 114 #[.pointer (some ⟨q, 0, none⟩)] (fun v => Lib.idxOf l v) (fun _ => True) w.heap.size w :=
  ⟨norm1_enters, Nat.le_refl _, fun W hW v _ => (norm1_calls ((hW.cell (p := ⟨q, 0, none⟩) hq).trans h0) (row_turn h (Tn.bel hW (fun _ => False)) (fun _ _ e => e)) hl v).mono fun e w' h => ⟨h.1, by rw [h.2]; exact Below.refl _ _⟩⟩

mutual
theorem allV_true : ∀ t : Ty, allV (fun _ => True) t
  | .mk k m n xs v => by simp only [allV]; exact ⟨fun _ => trivial, allVL_true xs⟩
theorem allVL_true : ∀ xs : List Ty, allVL (fun _ => True) xs
  | [] => by simp [allVL]
  | a :: xs => by simp only [allVL]; exact ⟨allV_true a, allVL_true xs⟩
end
/-- What holds at the head of the loop that fetches the variables. -/
structure NmIn (w : World) (q : Nat) (xs : List Ty) (wr : World) (t : Nat) (lt : List Int) (A : Option Addr) (c : Nat) : Prop where
  ht : t ≤ xs.length
  eq : varsL xs [] = varsL (xs.drop t) lt
  own : OwnI wr (w.heap.size + 1) (.slice A lt.length c) lt
  blk : wr.heap[q]? = some (.cells #[.slice A lt.length c] 62 (0, 0))
  bel : Below w.heap.size w wr
  few : lt.length + partsL (xs.drop t) ≤ 1000000

/-- What Normals leaves. -/
def NormalsPost (w : World) (xs : List Ty) (e : Ending) (w' : World) : Prop :=
  ∃ A c B, e = .returned (.slice A xs.length c) ∧ w.heap.size ≤ B ∧ OwnTy (fun b => B ≤ b) w' B (.slice A xs.length c) (xs.map (renT (fun v => Lib.idxOf (varsL xs []) v))) ∧ Below w.heap.size w w'

set_option maxRecDepth 100000 in
set_option maxHeartbeats 16000000 in
theorem Normals_calls (xs : List Ty) (A : Option Addr) (c : Nat) (w : World) (hr : Rd w (.slice A xs.length c) xs) (hfew : partsL xs ≤ 1000000) :
    Calls Tryz.prog 79 #[.slice A xs.length c] w (NormalsPost w xs) := by
  have hxl : xs.length ≤ 9223372036854775000 := by obtain ⟨_, _, _, h, _⟩ := hr; exact h.1
  obtain ⟨w1, hw1⟩ : ∃ w1, w1 = w.alloc (.cells #[.slice none 0 0] 62) := ⟨_, rfl⟩
  obtain ⟨q, hq⟩ : ∃ q, q = w.heap.size := ⟨_, rfl⟩
  have HI0 := Lib.hid (show NmIn w q xs w1 0 [] none 0 from ⟨Nat.zero_le _, rfl, OwnI.nil _ _, by rw [hw1, hq]; exact (MapKept.heap_alloc w _).1, by rw [hw1]; exact bel_alloc (Below.refl _ _) _, by simp; omega⟩)
  have HR := Lib.hid hr; have HF := Lib.hid hfew; have HQ := Lib.hid hq
  clear hr hfew
  go_enter Tryz.func79, Tryz.ntmps79
  go_wp2_with fail
  rw [← hw1, ← hq]
  clear hw1 hq
  go_loopw [11] (fun i wr => ∃ (t : Nat) (lt : List Int) (At : Option Addr) (ct : Nat), i = .int .i64 (t : Int) ∧ NmIn w q xs wr t lt At ct) (fun i _ => xs.length - (intOf i).toNat)
  case atStart => exact ⟨0, [], none, 0, rfl, HI0.out⟩
  case round =>
    obtain ⟨t, lt, At, ct, rfl, hI⟩ := hrel
    have HI := Lib.hid hI
    clear hI
    by_cases hlt : t < xs.length
    · have hrw : RdL (fun b => b < w.heap.size + 1) wr (.slice A xs.length c) xs := HR.out.turn (fun b h => Nat.lt_succ_of_lt h) (fun b o h => HI.out.bel.cell (p := ⟨b, o, none⟩) h)
      obtain ⟨-, -, hxx⟩ := hrw.at_
      obtain ⟨e1, off, rfl, he0, hc⟩ := hxx (by omega)
      obtain ⟨A2, c2, g1, g2, g3, g4, g5, g6, g7⟩ := hc t hlt
      obtain ⟨tt, htt⟩ : ∃ tt, tt = tyAt xs t := ⟨_, rfl⟩
      rw [← htt] at g1 g2 g3 g4 g5 g6 g7
      have hdrop : xs.drop t = tt :: xs.drop (t + 1) := by
        rw [List.drop_eq_getElem_cons hlt, htt]
        congr 1
        simp [tyAt, List.getD_eq_getElem?_getD, List.getElem?_eq_getElem hlt]
      have hf := HI.out.few
      have he := HI.out.eq
      rw [hdrop] at hf he
      have epl : partsL (tt :: xs.drop (t + 1)) = partsT tt + partsL (xs.drop (t + 1)) := by simp [partsL]
      rw [epl] at hf
      rw [varsL_cons] at he
      have hvl := varsT_len tt lt
      obtain ⟨w5, hw5⟩ : ∃ w5, w5 = wr.alloc (.cells #[.int .i64 tt.kind, .string (S tt.mod), .string (S tt.name), .slice A2 tt.args.length c2, .int .i64 tt.var] 24) := ⟨_, rfl⟩
      have Y5 := Lib.hid (show Below wr.heap.size wr w5 by rw [hw5]; exact bel_alloc (Below.refl _ _) _)
      have hbr : w.heap.size + 1 ≤ wr.heap.size := by have := lt_of_block HI.out.blk; have := HQ.out; omega
      have hcall := vars_calls tt w5 (w.heap.size + 1) At ct _ lt (row_turn HI.out.own (Tn.bel Y5.out (fun _ => False)) (fun _ _ e => e)) ⟨g7, A2, c2, rfl, g6.turn (fun b h => h) (fun b o h => Y5.out.cell (p := ⟨b, o, none⟩) (Nat.lt_of_lt_of_le h hbr))⟩ (Nat.le_trans hbr Y5.out.size) (by omega)
      unfold tyV at hcall
      have b0 := cell_of_one HI.out.blk
      have bf := free_of_one HI.out.blk
      have lq : q < wr.heap.size := lt_of_block HI.out.blk
      have lq1 : q < wr.heap.size + 1 := Nat.lt_succ_of_lt lq
      have HE := Lib.hid he; have HF2 := Lib.hid hf; have HVL := Lib.hid hvl; have HW5 := Lib.hid hw5; have HBR := Lib.hid hbr
      have i0 : (0 : Int) ≤ (t : Int) := by omega
      have i1 : (t : Int) < (xs.length : Int) := by omega
      clear hxx hc htt hdrop hf he epl hvl hw5 g6 g7 hrw hbr
      go_wp2_with fail
      rw [← HW5.out]
      refine hcall.mono ?_
      rintro e w6 ⟨A6, c6, rfl, hrow6, hT6, how6⟩
      have hy5 := Y5.out.size
      have hb6 : Below w.heap.size w w6 := (HI.out.bel.trans (Y5.out.mono (by have := HBR.out; omega))).trans ((hT6.below (B := w.heap.size) (by have := HBR.out; omega) (fun z e => by have := (HI.out.own.lt z e).1; omega)))
      have blk6 : w6.heap[q]? = some (.cells #[.slice At lt.length ct] 62 (0, 0)) := (hT6.block q (Nat.lt_of_lt_of_le lq hy5) (fun e => by have := (HI.out.own.lt q e).1; have := HQ.out; omega)).trans ((Y5.out.block q lq).trans HI.out.blk)
      have c0 := cell_of_one blk6
      have cf := free_of_one blk6
      have hI7 : NmIn w q xs (w6.setCell ⟨q, 0, none⟩ (.slice A6 (varsT tt lt).length c6)) (t + 1) (varsT tt lt) A6 c6 := by
        refine ⟨by omega, HE.out, row_turn hrow6 (Tn.set (O := fun z => z = q) w6 q 0 _ (.inl rfl)) (fun z hz e => by have := (hrow6.lt z hz).1; have := HQ.out; omega), one_setCell blk6, bel_set hb6 _ _ (by have := HQ.out; show w.heap.size ≤ q; omega), by have := HF2.out; have := HVL.out; omega⟩
      have HI7 := Lib.hid hI7
      clear hrow6 hT6 how6 hb6 blk6 hI7 hcall g1 g2 g3 g4 g5 b0 bf hy5
      go_wp2
      go_roundw
      case rel => exact ⟨t + 1, varsT tt lt, A6, c6, by go_num, HI7.out⟩
      case measure => simp [intOf]; omega
    · obtain rfl : t = xs.length := by have := HI.out.ht; omega
      have lt1 : ¬ ((xs.length : Int) < (xs.length : Int)) := by omega
      have he := HI.out.eq
      rw [List.drop_length, varsL_nil] at he
      have HE := Lib.hid he
      have HLL := Lib.hid (show lt.length ≤ 1000000 by have := HI.out.few; omega)
      clear hlt he
      obtain ⟨w3, hw3⟩ : ∃ w3, w3 = wr := ⟨_, rfl⟩
      rw [← hw3] at HI ⊢
      clear hw3
      obtain ⟨B, hB⟩ : ∃ B, B = w3.heap.size := ⟨_, rfl⟩
      have HB := Lib.hid hB; clear hB
      obtain ⟨f, hf⟩ : ∃ f : Int → Int, f = fun v => Lib.idxOf lt v := ⟨_, rfl⟩
      have HFF := Lib.hid hf
      have HOF : Hid (OfIs' 114 #[.pointer (some ⟨q, 0, none⟩)] f (fun _ => True) w3.heap.size w3) := Lib.hid (by rw [hf]; exact norm1_of (lt_of_block HI.out.blk) (cell_of_one HI.out.blk) HI.out.own (by have := HLL.out; omega))
      clear hf
      have HM := HI; clear HI
      go_wp2_with fail
      go_loopw [6, 21] (fun u6v i wr => ∃ (t : Nat) (At : Option Addr) (ct : Nat), u6v = .slice At t ct ∧ i = .int .i64 (t : Int) ∧ RenIn w3 B f xs wr t At ct) (fun _ i _ => xs.length - (intOf i).toNat)
      case atStart => exact ⟨0, none, 0, rfl, rfl, Nat.zero_le _, OwnTy.nil _ _ _, Below.refl _ _⟩
      case round =>
        obtain ⟨t, At, ct, rfl, rfl, hI⟩ := hrel
        have HI := Lib.hid hI
        have BR := Lib.hid (show Below w.heap.size w wr from HM.out.bel.trans (hI.bel.mono (by have := HB.out; have := HM.out.bel.size; omega)))
        have HB5 := Lib.hid (show Below w3.heap.size w3 wr from hI.bel.mono (by have := HB.out; omega))
        clear hI
        by_cases hlt : t < xs.length
        · obtain ⟨-, hxx⟩ := (HR.out.below BR.out).at_
          obtain ⟨e1, off, rfl, he0, hc⟩ := hxx (by omega)
          obtain ⟨A2, c2, g1, g2, g3, g4, g5, g6, g7⟩ := hc t hlt
          obtain ⟨tt, htt⟩ : ∃ tt, tt = tyAt xs t := ⟨_, rfl⟩
          rw [← htt] at g1 g2 g3 g4 g5 g6 g7
          have hmem : tt ∈ xs := by rw [htt]; exact tyAt_mem hlt
          have htake : (xs.take (t + 1)).map (renT f) = (xs.take t).map (renT f) ++ [renT f tt] := by
            rw [List.take_succ_eq_append_getElem hlt, List.map_append, htt]
            simp [tyAt, List.getD_eq_getElem?_getD, List.getElem?_eq_getElem hlt]
          obtain ⟨w5, hw5⟩ : ∃ w5, w5 = wr.alloc (.cells #[.int .i64 tt.kind, .string (S tt.mod), .string (S tt.name), .slice A2 tt.args.length c2, .int .i64 tt.var] 24) := ⟨_, rfl⟩
          have Y5 := Lib.hid (show Below wr.heap.size wr w5 by rw [hw5]; exact bel_alloc (Below.refl _ _) _)
          have hb05 : Below w3.heap.size w3 w5 := HB5.out.trans (Y5.out.mono HB5.out.size)
          have hcall := ren_calls HOF.out tt _ w5 (RdV.below ⟨g7, A2, c2, rfl, g6⟩ Y5.out) hb05 (allV_true tt) (Nat.le_trans (partsL_mem tt hmem) HF.out)
          unfold tyV at hcall
          have HW5 := Lib.hid hw5; have HTK := Lib.hid htake
          obtain ⟨t', ht'⟩ : ∃ t', t' = renT f tt := ⟨_, rfl⟩
          rw [← ht'] at hcall htake
          have HTK := Lib.hid htake
          have i0 : (0 : Int) ≤ (t : Int) := by omega
          have i1 : (t : Int) < (xs.length : Int) := by omega
          clear hxx hc htt htake hw5 hb05 g6 g7 ht' hmem
          go_wp2_with fail
          rw [← HW5.out]
          refine hcall.mono ?_
          rintro e w6 ⟨A6, c6, rfl, ⟨hok6, hrd6⟩, hb6⟩
          have hBr : B ≤ wr.heap.size := by have := HI.out.bel.size; have := HB.out; omega
          have hy5 := Y5.out.size
          have hy6 := hb6.size
          have OW6 : OwnTy (fun b => B ≤ b) w6 B (.slice At t ct) ((xs.take t).map (renT f)) := (HI.out.own.called Y5.out).called hb6
          have hob : ∀ z, (Value.slice At t ct).ownBlock = some z → B ≤ z ∧ z < wr.heap.size := HI.out.own.lt
          have HT6 : Ok1 t' ∧ RdL (fun b => B ≤ b ∧ b < w6.heap.size ∧ (Value.slice At t ct).ownBlock ≠ some b) w6 (.slice A6 t'.args.length c6) t'.args := ⟨hok6, hrd6.weak (fun b hb => ⟨by omega, hb.2, fun e => by have := hob b e; omega⟩)⟩
          have hlen : ((xs.take t).map (renT f)).length = t := by rw [List.length_map, List.length_take]; omega
          have hlen2 : ((xs.take t).map (renT f) ++ [t']).length = t + 1 := by rw [List.length_append, hlen]; rfl
          have OW6 := Lib.hid OW6; have HT6 := Lib.hid HT6; have HOB := Lib.hid hob; have HLN := Lib.hid hlen2
          have BW6 := Lib.hid (show Below B w3 w6 from (HI.out.bel.trans (Y5.out.mono hBr)).trans (hb6.mono (by omega)))
          have hB6 : B ≤ w6.heap.size := by omega
          have hal : ((xs.take t).map (renT f)).length ≤ 1000000 := by rw [hlen]; have := HF.out; have := length_parts xs; omega
          clear hok6 hrd6 hb6 hob hlen hlen2 hcall g1 g2 g3 g4 g5 hy5 hy6
          unfold tyV
          go_wp2_with (at_builtin; refine ty_append (fun b => B ≤ b) B rfl (.tmp 25) (.tmp 29) rfl (.slice At t ct) ((xs.take t).map (renT f)) t' A6 c6 rfl w6.heap.size rfl rfl OW6.out HT6.out hB6 hal ?_; intro v9 w9 hown9 hg9 hat9; obtain ⟨A9, c9, hv90, -⟩ := hown9.length; have hv9 := hv90.trans (congrArg (fun z => Value.slice A9 z c9) HLN.out); subst hv9; clear hv90)
          have hI9 : RenIn w3 B f xs w9 (t + 1) A9 c9 := ⟨by omega, by rw [HTK.out]; exact hown9, BW6.out.trans ((Tn.gb (O := fun z => (Value.slice At t ct).ownBlock = some z) hg9 (fun z e => .inl e)).below hB6 (fun z h => (HOB.out z h).1))⟩
          have HI9 := Lib.hid hI9
          clear hI9 hown9 hg9 hat9
          go_roundw
          case rel => exact ⟨t + 1, A9, c9, rfl, by go_num, HI9.out⟩
          case measure => simp [intOf]; omega
        · obtain rfl : t = xs.length := by have := HI.out.ht; omega
          have lt2 : ¬ ((xs.length : Int) < (xs.length : Int)) := by omega
          have hown := HI.out.own
          rw [List.take_length] at hown
          have HP := Lib.hid (show NormalsPost w xs (.returned (.slice At xs.length ct)) wr from ⟨At, ct, B, rfl, by have := HB.out; have := HM.out.bel.size; omega, by rw [HE.out, ← HFF.out]; exact hown, BR.out⟩)
          clear hown hlt
          go_wp2
          go_ret
          exact HP.out

end Go.Proofs.YtplnfepdikbpfaaGreatDoor
