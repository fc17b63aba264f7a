/- The walk of unify's renamed. Condition: the type reads; the function that it is handed answers for each variable of the type, and leaves what is there. -/
import Derived.Test.YtplnfepdikbpfaaGreatDoorVR
import Derived.Test.YtplnfepdikbpfaaGreatDoorST14
namespace Go.Proofs.YtplnfepdikbpfaaGreatDoor
open Go.RowKit
set_option linter.unusedVariables false
set_option linter.unusedSimpArgs false
attribute [local go_sem ↓] Go.wp_at_zero Go.wp_at_succ

mutual
/-- A type with other variables. -/
def renT (f : Int → Int) : Ty → Ty
  | .mk k m n xs v => .mk k m n (renL f xs) (if k = 6 then f v else v)
def renL (f : Int → Int) : List Ty → List Ty
  | [] => []
  | a :: xs => renT f a :: renL f xs
end
theorem renT_mk (f : Int → Int) (k : Int) (m n : List UInt8) (xs : List Ty) (v : Int) : renT f (.mk k m n xs v) = .mk k m n (renL f xs) (if k = 6 then f v else v) := by rw [renT]
theorem renL_map (f : Int → Int) : ∀ xs : List Ty, renL f xs = xs.map (renT f)
  | [] => by rw [renL]; rfl
  | a :: xs => by rw [renL, renL_map f xs]; rfl
mutual
/-- All variables of a type are such. -/
def allV (P : Int → Prop) : Ty → Prop
  | .mk k m n xs v => (k = 6 → P v) ∧ allVL P xs
def allVL (P : Int → Prop) : List Ty → Prop
  | [] => True
  | a :: xs => allV P a ∧ allVL P xs
end
theorem allVL_mem {P : Int → Prop} : ∀ {xs : List Ty}, allVL P xs → ∀ a ∈ xs, allV P a
  | [], _, a, h => by simp at h
  | b :: xs, h, a, ha => by
    simp only [allVL] at h
    rcases List.mem_cons.1 ha with rfl | ha
    · exact h.1
    · exact allVL_mem h.2 a ha

/-- What renamed is handed: a function that answers f at each variable of P, in each world that keeps what lies below B0. -/
structure OfIs' (g : Nat) (cb : Array Value) (f : Int → Int) (P : Int → Prop) (B0 : Nat) (w0 : World) : Prop where
  eg : ∀ args w, (callFunc g args).run Tryz.prog w = .ok (.enter g args) w
  b0 : B0 ≤ w0.heap.size
  call : ∀ W, Below B0 w0 W → ∀ v, P v → Calls Tryz.prog g (#[.int .i64 v] ++ cb) W fun e W' => e = .returned (.int .i64 (f v)) ∧ Below W.heap.size W W'
def RenAt (g : Nat) (cb : Array Value) (f : Int → Int) (P : Int → Prop) (B0 : Nat) (w0 : World) (t : Ty) : Prop := ∀ (va : Value) (w : World), RdV w va t → Below B0 w0 w → allV P t → partsT t ≤ 1000000 →
  Calls Tryz.prog 75 #[va, .func (.func g) #[] cb] w (CutAPost w (renT f t))
/-- What holds at the head of renamed's loop. -/
structure RenIn (w3 : World) (B : Nat) (f : Int → Int) (xs : List Ty) (wr : World) (t : Nat) (A : Option Addr) (c : Nat) : Prop where
  ht : t ≤ xs.length
  own : OwnTy (fun b => B ≤ b) wr B (.slice A t c) ((xs.take t).map (renT f))
  bel : Below B w3 wr
theorem partsL_mem {xs : List Ty} : ∀ a ∈ xs, partsT a ≤ partsL xs := by
  induction xs with
  | nil => intro a h; simp at h
  | cons b xs ih =>
    intro a h
    have e : partsL (b :: xs) = partsT b + partsL xs := by simp [partsL]
    rcases List.mem_cons.1 h with rfl | h
    · omega
    · have := ih a h; omega

set_option maxRecDepth 100000 in
set_option maxHeartbeats 32000000 in
theorem ren_calls {g : Nat} {cb : Array Value} {f : Int → Int} {P : Int → Prop} {B0 : Nat} {w0 : World} (hof : OfIs' g cb f P B0 w0) (t : Ty) : RenAt g cb f P B0 w0 t := by
  induction t using Ty.ind with
  | h k m n xs v ih =>
    intro va w hva hb0 hav hfew
    obtain ⟨h1, A, c, rfl, hr⟩ := hva
    simp only [tyV, Ty.kind, Ty.mod, Ty.name, Ty.args, Ty.var] at hr ⊢
    have ep : partsT (.mk k m n xs v) = 1 + partsL xs := by simp [partsT]
    rw [ep] at hfew
    have hxl : xs.length ≤ 9223372036854775000 := by obtain ⟨_, _, _, h, _⟩ := hr; exact h.1
    simp only [allV] at hav
    obtain ⟨hv6, havl⟩ := hav
    obtain ⟨w2, hw2⟩ : ∃ w2, w2 = (w.alloc (.cells #[.int .i64 k, .string (S m), .string (S n), .slice A xs.length c, .int .i64 v] 24)).alloc (.cells #[.int .i64 0, .string ⟨#[]⟩, .string ⟨#[]⟩, .slice none 0 0, .int .i64 0] 24) := ⟨_, rfl⟩
    obtain ⟨q2, hq2⟩ : ∃ q2, q2 = w.heap.size := ⟨_, rfl⟩
    obtain ⟨q4, hq4⟩ : ∃ q4, q4 = w.heap.size + 1 := ⟨_, rfl⟩
    have B2 := Lib.hid (show Below w.heap.size w w2 by rw [hw2]; exact bel_alloc (bel_alloc (Below.refl _ _) _) _)
    have blk2 := Lib.hid (show w2.heap[q2]? = some (.cells #[.int .i64 k, .string (S m), .string (S n), .slice A xs.length c, .int .i64 v] 24 (0, 0)) by
      rw [hw2, hq2]; exact ((gb_alloc _ _ none).block w.heap.size (by simp) (by simp)).trans (MapKept.heap_alloc w _).1)
    have blk4 := Lib.hid (show w2.heap[q4]? = some (.cells #[.int .i64 0, .string ⟨#[]⟩, .string ⟨#[]⟩, .slice none 0 0, .int .i64 0] 24 (0, 0)) by
      have h := (MapKept.heap_alloc (w.alloc (.cells #[.int .i64 k, .string (S m), .string (S n), .slice A xs.length c, .int .i64 v] 24)) (.cells #[.int .i64 0, .string ⟨#[]⟩, .string ⟨#[]⟩, .slice none 0 0, .int .i64 0] 24)).1
      rw [World.size_alloc] at h
      rw [hw2, hq4]; exact h)
    have HQ := Lib.hid (show q2 = w.heap.size ∧ q4 = w.heap.size + 1 ∧ w2.heap.size = w.heap.size + 2 from ⟨hq2, hq4, by rw [hw2]; simp⟩)
    have IH := Lib.hid ih; have HR := Lib.hid hr; have H1 := Lib.hid (show Ok1 (.mk k m n (renL f xs) (if k = 6 then f v else v)) from h1); have HOF := Lib.hid hof; have HB0 := Lib.hid hb0; have HAV := Lib.hid havl; have HPL := Lib.hid (show partsL xs ≤ 1000000 by omega); have HXL := Lib.hid hxl
    have eg := hof.eg
    clear ih h1 hr hof hb0 havl hfew ep hxl
    by_cases hk : k = 6
    · subst hk
      have hvv := hv6 rfl
      obtain ⟨vv, hve⟩ : ∃ vv, vv = f v := ⟨_, rfl⟩
      have hcall := HOF.out.call w2 (HB0.out.trans (B2.out.mono (Nat.le_trans HOF.out.b0 HB0.out.size))) v hvv
      rw [← hve] at hcall
      have HVV := Lib.hid (show renT f (.mk 6 m n xs v) = .mk 6 m n (renL f xs) vv by rw [renT_mk, hve]; simp)
      have H1' := Lib.hid (show Ok1 (.mk 6 m n (renL f xs) vv) from H1.out)
      clear H1; have H1 := H1'; clear H1'
      obtain ⟨b0, b1, b2, b3, b4, bf⟩ := five_cells blk2.out
      clear hv6 hvv hve
      go_enter Tryz.func75, Tryz.ntmps75
      go_wp2_with fail
      rw [← hw2, ← hq4, ← hq2]
      clear hw2 hq2 hq4
      refine hcall.mono ?_
      rintro e wq ⟨rfl, hbq⟩
      have blkq := Lib.hid ((hbq.block q2 (lt_of_block blk2.out)).trans blk2.out)
      have blk4q := Lib.hid ((hbq.block q4 (lt_of_block blk4.out)).trans blk4.out)
      have BQ := Lib.hid (show Below w.heap.size w wq from B2.out.trans (hbq.mono B2.out.size))
      have hszq := hbq.size
      clear hbq hcall b0 b1 b2 b3 b4 bf
      obtain ⟨b0, b1, b2, b3, b4, bf⟩ := five_cells blkq.out
      obtain ⟨w3, hw3⟩ : ∃ w3, w3 = wq.setCell ⟨q2, 4, none⟩ (.int .i64 vv) := ⟨_, rfl⟩
      have blk23 := Lib.hid (show w3.heap[q2]? = some (.cells #[.int .i64 6, .string (S m), .string (S n), .slice A xs.length c, .int .i64 vv] 24 (0, 0)) by rw [hw3]; have h := blkq.out; simp [World.setCell, Array.getElem?_modify, h])
      have blk43 := Lib.hid (show w3.heap[q4]? = some (.cells #[.int .i64 0, .string ⟨#[]⟩, .string ⟨#[]⟩, .slice none 0 0, .int .i64 0] 24 (0, 0)) by rw [hw3]; exact ((gb_set wq q2 4 _).block q4 (lt_of_block blk4q.out) (fun e => by have := Option.some.inj e; have := HQ.out; omega)).trans blk4q.out)
      have B3 := Lib.hid (show Below w.heap.size w w3 by rw [hw3]; exact bel_set BQ.out _ _ (by have := HQ.out; show w.heap.size ≤ q2; omega))
      have HQ3 := Lib.hid (show q2 < w3.heap.size ∧ q4 < w3.heap.size from ⟨lt_of_block blk23.out, lt_of_block blk43.out⟩)
      have a3 := (five_cells blk23.out).2.2.2.1
      have HW3 := Lib.hid hw3; clear hw3
      obtain ⟨B, hB⟩ : ∃ B, B = w3.heap.size := ⟨_, rfl⟩
      have HB := Lib.hid hB; clear hB
      go_wp2_with fail
      rw [← HW3.out]
      clear b0 b1 b2 b3 b4 bf
      go_loopw [5, 19] (fun u5v i wr => ∃ (t : Nat) (At : Option Addr) (ct : Nat), u5v = .slice At t ct ∧ i = .int .i64 (t : Int) ∧ RenIn w3 B f xs wr t At ct) (fun _ i _ => xs.length - (intOf i).toNat)
      case atStart => exact ⟨0, none, 0, rfl, rfl, Nat.zero_le _, OwnTy.nil _ _ _, Below.refl _ _⟩
      case round =>
        obtain ⟨t, At, ct, rfl, rfl, hI⟩ := hrel
        have HI := Lib.hid hI
        have BR := Lib.hid (show Below w.heap.size w wr from B3.out.trans (hI.bel.mono (by have := HB.out; have := B3.out.size; omega)))
        clear hI
        by_cases hlt : t < xs.length
        · obtain ⟨-, hxx⟩ := (HR.out.below BR.out).at_
          obtain ⟨e1, off, rfl, he0, hc⟩ := hxx (by omega)
          obtain ⟨A2, c2, g1, g2, g3, g4, g5, g6, g7⟩ := hc t hlt
          obtain ⟨tt, htt⟩ : ∃ tt, tt = tyAt xs t := ⟨_, rfl⟩
          rw [← htt] at g1 g2 g3 g4 g5 g6 g7
          have hmem : tt ∈ xs := by rw [htt]; exact tyAt_mem hlt
          have htake : (xs.take (t + 1)).map (renT f) = (xs.take t).map (renT f) ++ [renT f tt] := by
            rw [List.take_succ_eq_append_getElem hlt, List.map_append, htt]
            simp [tyAt, List.getD_eq_getElem?_getD, List.getElem?_eq_getElem hlt]
          obtain ⟨w5, hw5⟩ : ∃ w5, w5 = wr.alloc (.cells #[.int .i64 tt.kind, .string (S tt.mod), .string (S tt.name), .slice A2 tt.args.length c2, .int .i64 tt.var] 24) := ⟨_, rfl⟩
          have Y5 := Lib.hid (show Below wr.heap.size wr w5 by rw [hw5]; exact bel_alloc (Below.refl _ _) _)
          have hb05 : Below B0 w0 w5 := (HB0.out.trans (BR.out.mono (Nat.le_trans HOF.out.b0 HB0.out.size))).trans (Y5.out.mono (Nat.le_trans (Nat.le_trans HOF.out.b0 HB0.out.size) BR.out.size))
          have hcall := IH.out tt hmem _ w5 (RdV.below ⟨g7, A2, c2, rfl, g6⟩ Y5.out) hb05 (allVL_mem HAV.out tt hmem) (Nat.le_trans (partsL_mem tt hmem) HPL.out)
          unfold tyV at hcall
          have HW5 := Lib.hid hw5; have HTK := Lib.hid htake
          obtain ⟨t', ht'⟩ : ∃ t', t' = renT f tt := ⟨_, rfl⟩
          rw [← ht'] at hcall htake
          have HTK := Lib.hid htake
          have i0 : (0 : Int) ≤ (t : Int) := by omega
          have i1 : (t : Int) < (xs.length : Int) := by omega
          clear hxx hc htt htake hw5 hb05 g6 g7 ht' hmem
          go_wp2_with fail
          rw [← HW5.out]
          refine hcall.mono ?_
          rintro e w6 ⟨A6, c6, rfl, ⟨hok6, hrd6⟩, hb6⟩
          have hBr : B ≤ wr.heap.size := by have := HI.out.bel.size; have := HB.out; omega
          have hy5 := Y5.out.size
          have hy6 := hb6.size
          have OW6 : OwnTy (fun b => B ≤ b) w6 B (.slice At t ct) ((xs.take t).map (renT f)) := (HI.out.own.called Y5.out).called hb6
          have hob : ∀ z, (Value.slice At t ct).ownBlock = some z → B ≤ z ∧ z < wr.heap.size := HI.out.own.lt
          have HT6 : Ok1 t' ∧ RdL (fun b => B ≤ b ∧ b < w6.heap.size ∧ (Value.slice At t ct).ownBlock ≠ some b) w6 (.slice A6 t'.args.length c6) t'.args := ⟨hok6, hrd6.weak (fun b hb => ⟨by omega, hb.2, fun e => by have := hob b e; omega⟩)⟩
          have hlen : ((xs.take t).map (renT f)).length = t := by rw [List.length_map, List.length_take]; omega
          have hlen2 : ((xs.take t).map (renT f) ++ [t']).length = t + 1 := by rw [List.length_append, hlen]; rfl
          have OW6 := Lib.hid OW6; have HT6 := Lib.hid HT6; have HOB := Lib.hid hob; have HLN := Lib.hid hlen2
          have BW6 := Lib.hid (show Below B w3 w6 from (HI.out.bel.trans (Y5.out.mono hBr)).trans (hb6.mono (by omega)))
          have hB6 : B ≤ w6.heap.size := by omega
          have hal : ((xs.take t).map (renT f)).length ≤ 1000000 := by rw [hlen]; have := HPL.out; have := length_parts xs; omega
          clear hok6 hrd6 hb6 hob hlen hlen2 hcall g1 g2 g3 g4 g5 hy5 hy6
          have hxl := HXL.out
          unfold tyV
          go_wp2_with (at_builtin; refine ty_append (fun b => B ≤ b) B rfl (.tmp 23) (.tmp 27) rfl (.slice At t ct) ((xs.take t).map (renT f)) t' A6 c6 rfl w6.heap.size rfl rfl OW6.out HT6.out hB6 hal ?_; intro v9 w9 hown9 hg9 hat9; obtain ⟨A9, c9, hv90, -⟩ := hown9.length; have hv9 := hv90.trans (congrArg (fun z => Value.slice A9 z c9) HLN.out); subst hv9; clear hv90)
          have hI9 : RenIn w3 B f xs w9 (t + 1) A9 c9 := ⟨by omega, by rw [HTK.out]; exact hown9, BW6.out.trans ((Tn.gb (O := fun z => (Value.slice At t ct).ownBlock = some z) hg9 (fun z e => .inl e)).below hB6 (fun z h => (HOB.out z h).1))⟩
          have HI9 := Lib.hid hI9
          clear hI9 hown9 hg9 hat9
          go_roundw
          case rel => exact ⟨t + 1, A9, c9, rfl, by go_num, HI9.out⟩
          case measure => simp [intOf]; omega
        · obtain rfl : t = xs.length := by have := HI.out.ht; omega
          have lt1 : ¬ ((xs.length : Int) < (xs.length : Int)) := by omega
          have hBr : B ≤ wr.heap.size := by have := HI.out.bel.size; have := HB.out; omega
          have hq2B : q2 < B := by have := HQ3.out; have := HB.out; omega
          have hq4B : q4 < B := by have := HQ3.out; have := HB.out; omega
          have blk2r := (HI.out.bel.block q2 hq2B).trans blk23.out
          have blk4r := (HI.out.bel.block q4 hq4B).trans blk43.out
          have BLK2 := Lib.hid blk2r; have BLK4 := Lib.hid blk4r
          obtain ⟨b0, b1, b2, b3, b4, bf⟩ := five_cells blk2r
          obtain ⟨z0, z1, z2, z3, z4, zf⟩ := five_cells blk4r
          have hq24 : q2 ≠ q4 := by have := HQ.out; omega
          have hq42 : q4 ≠ q2 := Ne.symm hq24
          have HQN := Lib.hid hq42
          have HQB := Lib.hid (And.intro hq2B hq4B); have HBR := Lib.hid hBr
          clear blk2r blk4r hlt hBr hq2B hq4B
          go_wp2
          (try simp only [Exit.inBlock, Exit.then])
          have hbk : ((p5w (wr.setCell ⟨q2, 3, none⟩ (.slice At xs.length ct)) q4 (.int .i64 6) (.string (S m)) (.string (S n)) (.slice At xs.length ct) (.int .i64 vv))).heap[q4]? = some (.cells #[.int .i64 6, .string (S m), .string (S n), .slice At xs.length ct, .int .i64 vv] 24 (0, 0)) :=
            p5w_blk (((gb_set wr q2 3 (.slice At xs.length ct)).block q4 (lt_of_block BLK4.out) (fun e => HQN.out (Option.some.inj e))).trans BLK4.out)
          refine bodyPost_ret (results_cell_row rfl _ _ q4 24 #[.int .i64 6, .string (S m), .string (S n), .slice At xs.length ct, .int .i64 vv] (0, 0) _ (by rfl) hbk Tryz.underlying24 rfl sizeTy) rfl ?_
          have hq := HQ.out
          have hb3 := HB.out
          have h3s := B3.out.size
          have hqb := HQB.out
          have hbr := HBR.out
          have hBw : Below w.heap.size w (p5w (wr.setCell ⟨q2, 3, none⟩ (.slice At xs.length ct)) q4 (.int .i64 6) (.string (S m)) (.string (S n)) (.slice At xs.length ct) (.int .i64 vv)) := bel5 (bel_set BR.out _ _ (by show w.heap.size ≤ q2; omega)) (by omega) _ _ _ _ _
          have hown := HI.out.own
          rw [List.take_length, ← renL_map] at hown
          have hln : (renL f xs).length = xs.length := by rw [renL_map, List.length_map]
          have hrd : RdL (fun b => B ≤ b ∧ b < wr.heap.size) wr (.slice At xs.length ct) (renL f xs) := hown.read (by rw [hln]; exact HXL.out) _ (fun b h1 h2 => ⟨h1, h2⟩) (fun b hb => hown.lt b hb)
          rw [HVV.out]
          refine ⟨At, ct, by simp only [tyV, Ty.kind, Ty.mod, Ty.name, Ty.args, Ty.var, hln], ⟨H1.out, ?_⟩, hBw⟩
          simp only [Ty.args, hln]
          obtain ⟨wz, hwz⟩ : ∃ wz, wz = wr.setCell ⟨q2, 3, none⟩ (.slice At xs.length ct) := ⟨_, rfl⟩
          have gz : wr.grownBy wz (some q2) := by rw [hwz]; exact gb_set wr q2 3 _
          have gp := p5w_gb wz q4 (.int .i64 6) (.string (S m)) (.string (S n)) (.slice At xs.length ct) (.int .i64 vv)
          rw [← hwz]
          obtain ⟨wf, hwf⟩ : ∃ wf, wf = p5w wz q4 (.int .i64 6) (.string (S m)) (.string (S n)) (.slice At xs.length ct) (.int .i64 vv) := ⟨_, rfl⟩
          show RdL (fun b => w.heap.size ≤ b ∧ b < (p5w wz q4 (.int .i64 6) (.string (S m)) (.string (S n)) (.slice At xs.length ct) (.int .i64 vv)).heap.size) (p5w wz q4 (.int .i64 6) (.string (S m)) (.string (S n)) (.slice At xs.length ct) (.int .i64 vv)) (.slice At xs.length ct) (renL f xs)
          rw [← hwf] at gp ⊢
          have s1 := gz.size
          have s2 := gp.size
          clear hwz hwf
          refine hrd.turn (fun b hb => ⟨by omega, by omega⟩) (fun b o hb => ?_)
          exact (World.cell?_of_block (gp.block b (by omega) (fun e => by have := Option.some.inj e; omega))).trans (World.cell?_of_block (gz.block b hb.2 (fun e => by have := Option.some.inj e; omega)))
    · have q1 : (k == 6) = false := by simp [hk]
      obtain ⟨vv, hve⟩ : ∃ vv, vv = v := ⟨_, rfl⟩
      have HVV := Lib.hid (show renT f (.mk k m n xs vv) = .mk k m n (renL f xs) vv by rw [renT_mk, if_neg hk])
      have H1 := Lib.hid (show Ok1 (.mk k m n (renL f xs) vv) from H1.out)
      rw [← hve] at blk2 hw2 ⊢
      obtain ⟨w3, hw3⟩ : ∃ w3, w3 = w2 := ⟨_, rfl⟩
      rw [← hw3] at blk2 blk4 B2 hw2
      have blk23 := blk2; have blk43 := blk4; have B3 := B2
      have HQ3 := Lib.hid (show q2 < w3.heap.size ∧ q4 < w3.heap.size from ⟨lt_of_block blk23.out, lt_of_block blk43.out⟩)
      obtain ⟨b0, b1, b2, b3, b4, bf⟩ := five_cells blk2.out
      clear hk hv6 hve hw3
      go_enter Tryz.func75, Tryz.ntmps75
      go_wp2_with fail
      rw [← hw2, ← hq4, ← hq2]
      clear hw2 hq2 hq4
      obtain ⟨B, hB⟩ : ∃ B, B = w3.heap.size := ⟨_, rfl⟩
      have HB := Lib.hid hB; clear hB
      go_wp2_with fail
      clear b0 b1 b2 b3 b4 bf
      go_loopw [5, 19] (fun u5v i wr => ∃ (t : Nat) (At : Option Addr) (ct : Nat), u5v = .slice At t ct ∧ i = .int .i64 (t : Int) ∧ RenIn w3 B f xs wr t At ct) (fun _ i _ => xs.length - (intOf i).toNat)
      case atStart => exact ⟨0, none, 0, rfl, rfl, Nat.zero_le _, OwnTy.nil _ _ _, Below.refl _ _⟩
      case round =>
        obtain ⟨t, At, ct, rfl, rfl, hI⟩ := hrel
        have HI := Lib.hid hI
        have BR := Lib.hid (show Below w.heap.size w wr from B3.out.trans (hI.bel.mono (by have := HB.out; have := B3.out.size; omega)))
        clear hI
        by_cases hlt : t < xs.length
        · obtain ⟨-, hxx⟩ := (HR.out.below BR.out).at_
          obtain ⟨e1, off, rfl, he0, hc⟩ := hxx (by omega)
          obtain ⟨A2, c2, g1, g2, g3, g4, g5, g6, g7⟩ := hc t hlt
          obtain ⟨tt, htt⟩ : ∃ tt, tt = tyAt xs t := ⟨_, rfl⟩
          rw [← htt] at g1 g2 g3 g4 g5 g6 g7
          have hmem : tt ∈ xs := by rw [htt]; exact tyAt_mem hlt
          have htake : (xs.take (t + 1)).map (renT f) = (xs.take t).map (renT f) ++ [renT f tt] := by
            rw [List.take_succ_eq_append_getElem hlt, List.map_append, htt]
            simp [tyAt, List.getD_eq_getElem?_getD, List.getElem?_eq_getElem hlt]
          obtain ⟨w5, hw5⟩ : ∃ w5, w5 = wr.alloc (.cells #[.int .i64 tt.kind, .string (S tt.mod), .string (S tt.name), .slice A2 tt.args.length c2, .int .i64 tt.var] 24) := ⟨_, rfl⟩
          have Y5 := Lib.hid (show Below wr.heap.size wr w5 by rw [hw5]; exact bel_alloc (Below.refl _ _) _)
          have hb05 : Below B0 w0 w5 := (HB0.out.trans (BR.out.mono (Nat.le_trans HOF.out.b0 HB0.out.size))).trans (Y5.out.mono (Nat.le_trans (Nat.le_trans HOF.out.b0 HB0.out.size) BR.out.size))
          have hcall := IH.out tt hmem _ w5 (RdV.below ⟨g7, A2, c2, rfl, g6⟩ Y5.out) hb05 (allVL_mem HAV.out tt hmem) (Nat.le_trans (partsL_mem tt hmem) HPL.out)
          unfold tyV at hcall
          have HW5 := Lib.hid hw5; have HTK := Lib.hid htake
          obtain ⟨t', ht'⟩ : ∃ t', t' = renT f tt := ⟨_, rfl⟩
          rw [← ht'] at hcall htake
          have HTK := Lib.hid htake
          have i0 : (0 : Int) ≤ (t : Int) := by omega
          have i1 : (t : Int) < (xs.length : Int) := by omega
          clear hxx hc htt htake hw5 hb05 g6 g7 ht' hmem
          go_wp2_with fail
          rw [← HW5.out]
          refine hcall.mono ?_
          rintro e w6 ⟨A6, c6, rfl, ⟨hok6, hrd6⟩, hb6⟩
          have hBr : B ≤ wr.heap.size := by have := HI.out.bel.size; have := HB.out; omega
          have hy5 := Y5.out.size
          have hy6 := hb6.size
          have OW6 : OwnTy (fun b => B ≤ b) w6 B (.slice At t ct) ((xs.take t).map (renT f)) := (HI.out.own.called Y5.out).called hb6
          have hob : ∀ z, (Value.slice At t ct).ownBlock = some z → B ≤ z ∧ z < wr.heap.size := HI.out.own.lt
          have HT6 : Ok1 t' ∧ RdL (fun b => B ≤ b ∧ b < w6.heap.size ∧ (Value.slice At t ct).ownBlock ≠ some b) w6 (.slice A6 t'.args.length c6) t'.args := ⟨hok6, hrd6.weak (fun b hb => ⟨by omega, hb.2, fun e => by have := hob b e; omega⟩)⟩
          have hlen : ((xs.take t).map (renT f)).length = t := by rw [List.length_map, List.length_take]; omega
          have hlen2 : ((xs.take t).map (renT f) ++ [t']).length = t + 1 := by rw [List.length_append, hlen]; rfl
          have OW6 := Lib.hid OW6; have HT6 := Lib.hid HT6; have HOB := Lib.hid hob; have HLN := Lib.hid hlen2
          have BW6 := Lib.hid (show Below B w3 w6 from (HI.out.bel.trans (Y5.out.mono hBr)).trans (hb6.mono (by omega)))
          have hB6 : B ≤ w6.heap.size := by omega
          have hal : ((xs.take t).map (renT f)).length ≤ 1000000 := by rw [hlen]; have := HPL.out; have := length_parts xs; omega
          clear hok6 hrd6 hb6 hob hlen hlen2 hcall g1 g2 g3 g4 g5 hy5 hy6
          have hxl := HXL.out
          unfold tyV
          go_wp2_with (at_builtin; refine ty_append (fun b => B ≤ b) B rfl (.tmp 23) (.tmp 27) rfl (.slice At t ct) ((xs.take t).map (renT f)) t' A6 c6 rfl w6.heap.size rfl rfl OW6.out HT6.out hB6 hal ?_; intro v9 w9 hown9 hg9 hat9; obtain ⟨A9, c9, hv90, -⟩ := hown9.length; have hv9 := hv90.trans (congrArg (fun z => Value.slice A9 z c9) HLN.out); subst hv9; clear hv90)
          have hI9 : RenIn w3 B f xs w9 (t + 1) A9 c9 := ⟨by omega, by rw [HTK.out]; exact hown9, BW6.out.trans ((Tn.gb (O := fun z => (Value.slice At t ct).ownBlock = some z) hg9 (fun z e => .inl e)).below hB6 (fun z h => (HOB.out z h).1))⟩
          have HI9 := Lib.hid hI9
          clear hI9 hown9 hg9 hat9
          go_roundw
          case rel => exact ⟨t + 1, A9, c9, rfl, by go_num, HI9.out⟩
          case measure => simp [intOf]; omega
        · obtain rfl : t = xs.length := by have := HI.out.ht; omega
          have lt1 : ¬ ((xs.length : Int) < (xs.length : Int)) := by omega
          have hBr : B ≤ wr.heap.size := by have := HI.out.bel.size; have := HB.out; omega
          have hq2B : q2 < B := by have := HQ3.out; have := HB.out; omega
          have hq4B : q4 < B := by have := HQ3.out; have := HB.out; omega
          have blk2r := (HI.out.bel.block q2 hq2B).trans blk23.out
          have blk4r := (HI.out.bel.block q4 hq4B).trans blk43.out
          have BLK2 := Lib.hid blk2r; have BLK4 := Lib.hid blk4r
          obtain ⟨b0, b1, b2, b3, b4, bf⟩ := five_cells blk2r
          obtain ⟨z0, z1, z2, z3, z4, zf⟩ := five_cells blk4r
          have hq24 : q2 ≠ q4 := by have := HQ.out; omega
          have hq42 : q4 ≠ q2 := Ne.symm hq24
          have HQN := Lib.hid hq42
          have HQB := Lib.hid (And.intro hq2B hq4B); have HBR := Lib.hid hBr
          clear blk2r blk4r hlt hBr hq2B hq4B
          go_wp2
          (try simp only [Exit.inBlock, Exit.then])
          have hbk : ((p5w (wr.setCell ⟨q2, 3, none⟩ (.slice At xs.length ct)) q4 (.int .i64 k) (.string (S m)) (.string (S n)) (.slice At xs.length ct) (.int .i64 vv))).heap[q4]? = some (.cells #[.int .i64 k, .string (S m), .string (S n), .slice At xs.length ct, .int .i64 vv] 24 (0, 0)) :=
            p5w_blk (((gb_set wr q2 3 (.slice At xs.length ct)).block q4 (lt_of_block BLK4.out) (fun e => HQN.out (Option.some.inj e))).trans BLK4.out)
          refine bodyPost_ret (results_cell_row rfl _ _ q4 24 #[.int .i64 k, .string (S m), .string (S n), .slice At xs.length ct, .int .i64 vv] (0, 0) _ (by rfl) hbk Tryz.underlying24 rfl sizeTy) rfl ?_
          have hq := HQ.out
          have hb3 := HB.out
          have h3s := B3.out.size
          have hqb := HQB.out
          have hbr := HBR.out
          have hBw : Below w.heap.size w (p5w (wr.setCell ⟨q2, 3, none⟩ (.slice At xs.length ct)) q4 (.int .i64 k) (.string (S m)) (.string (S n)) (.slice At xs.length ct) (.int .i64 vv)) := bel5 (bel_set BR.out _ _ (by show w.heap.size ≤ q2; omega)) (by omega) _ _ _ _ _
          have hown := HI.out.own
          rw [List.take_length, ← renL_map] at hown
          have hln : (renL f xs).length = xs.length := by rw [renL_map, List.length_map]
          have hrd : RdL (fun b => B ≤ b ∧ b < wr.heap.size) wr (.slice At xs.length ct) (renL f xs) := hown.read (by rw [hln]; exact HXL.out) _ (fun b h1 h2 => ⟨h1, h2⟩) (fun b hb => hown.lt b hb)
          rw [HVV.out]
          refine ⟨At, ct, by simp only [tyV, Ty.kind, Ty.mod, Ty.name, Ty.args, Ty.var, hln], ⟨H1.out, ?_⟩, hBw⟩
          simp only [Ty.args, hln]
          obtain ⟨wz, hwz⟩ : ∃ wz, wz = wr.setCell ⟨q2, 3, none⟩ (.slice At xs.length ct) := ⟨_, rfl⟩
          have gz : wr.grownBy wz (some q2) := by rw [hwz]; exact gb_set wr q2 3 _
          have gp := p5w_gb wz q4 (.int .i64 k) (.string (S m)) (.string (S n)) (.slice At xs.length ct) (.int .i64 vv)
          rw [← hwz]
          obtain ⟨wf, hwf⟩ : ∃ wf, wf = p5w wz q4 (.int .i64 k) (.string (S m)) (.string (S n)) (.slice At xs.length ct) (.int .i64 vv) := ⟨_, rfl⟩
          show RdL (fun b => w.heap.size ≤ b ∧ b < (p5w wz q4 (.int .i64 k) (.string (S m)) (.string (S n)) (.slice At xs.length ct) (.int .i64 vv)).heap.size) (p5w wz q4 (.int .i64 k) (.string (S m)) (.string (S n)) (.slice At xs.length ct) (.int .i64 vv)) (.slice At xs.length ct) (renL f xs)
          rw [← hwf] at gp ⊢
          have s1 := gz.size
          have s2 := gp.size
          clear hwz hwf
          refine hrd.turn (fun b hb => ⟨by omega, by omega⟩) (fun b o hb => ?_)
          exact (World.cell?_of_block (gp.block b (by omega) (fun e => by have := Option.some.inj e; omega))).trans (World.cell?_of_block (gz.block b hb.2 (fun e => by have := Option.some.inj e; omega)))

end Go.Proofs.YtplnfepdikbpfaaGreatDoor
