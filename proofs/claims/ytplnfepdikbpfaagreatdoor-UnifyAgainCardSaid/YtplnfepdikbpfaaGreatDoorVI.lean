/- The walks of slices.IndexFunc and ContainsFunc at ints, of unify's closures in Instance and Normals, and of Vars. -/
import Derived.Test.YtplnfepdikbpfaaGreatDoorVN
import Derived.Lib.SlKeysI
namespace Go.Proofs.YtplnfepdikbpfaaGreatDoor
open Go.RowKit
set_option linter.unusedVariables false
set_option linter.unusedSimpArgs false
attribute [local go_sem ↓] Go.wp_at_zero Go.wp_at_succ

/-- What IndexFunc is handed: a function that answers p at each number of a list, and leaves the world as it is. -/
structure PredIs (g : Nat) (cb : Array Value) (p : Int → Bool) (l : List Int) (w : World) : Prop where
  eg : ∀ args w, (callFunc g args).run Tryz.prog w = .ok (.enter g args) w
  call : ∀ v ∈ l, Calls Tryz.prog g (#[.int .i64 v] ++ cb) w fun e w' => e = .returned (.bool (p v)) ∧ w' = w

theorem own_at {w : World} {base : Nat} {A : Option Addr} {c : Nat} {l : List Int} (h : OwnI w base (.slice A l.length c) l) (k : Nat) (hk : k < l.length) :
    ∃ b, A = some ⟨b, 0, none⟩ ∧ w.cell? ⟨b, k, none⟩ = some (.int .i64 (l.getD k 0)) := by
  obtain ⟨g, c', e, h1, -, -, hc, -⟩ := row_cells h (by omega)
  injection e with e1 e2 e3
  subst e1
  refine ⟨g, rfl, ?_⟩
  have := hc k (.int .i64 (l.getD k 0)) (by simp [List.getD_eq_getElem?_getD, List.getElem?_eq_getElem hk])
  simpa using this

set_option maxRecDepth 100000 in
set_option maxHeartbeats 4000000 in
theorem IndexFuncI {g : Nat} {cb : Array Value} {p : Int → Bool} {l : List Int} {w : World} {base : Nat} {A : Option Addr} {c : Nat} (hown : OwnI w base (.slice A l.length c) l) (hlen : l.length ≤ 1000000000) (hp : PredIs g cb p l w) :
    Calls Tryz.prog 112 #[.slice A l.length c, .func (.func g) #[] cb] w fun e w' => (∃ z : Int, e = .returned (.int .i64 z) ∧ decide (z ≥ 0) = l.any p) ∧ w' = w := by
  have eg := hp.eg
  have HP := Lib.hid hp; have HO := Lib.hid hown
  clear hp hown
  go_enter Tryz.func112, Tryz.ntmps112
  go_wp2
  go_loopw [8] (fun i wr => ∃ (k : Nat), k ≤ l.length ∧ i = .int .i64 k ∧ Hid (l.any p = (l.drop k).any p) ∧ wr = w) (fun i _ => l.length - (intOf i).toNat)
  case atStart => exact ⟨0, Nat.zero_le _, rfl, Lib.hid rfl, rfl⟩
  case round =>
    obtain ⟨k, hk, rfl, hE, rfl⟩ := hrel
    by_cases hlt : k < l.length
    · obtain ⟨b, rfl, hcell⟩ := own_at HO.out k hlt
      have hdrop : l.drop k = l.getD k 0 :: l.drop (k + 1) := by
        rw [List.drop_eq_getElem_cons hlt]
        congr 1
        simp [List.getD_eq_getElem?_getD, List.getElem?_eq_getElem hlt]
      have hcall := HP.out.call (l.getD k 0) (by simp [List.getD_eq_getElem?_getD, List.getElem?_eq_getElem hlt])
      obtain ⟨z, hz⟩ : ∃ z, z = l.getD k 0 := ⟨_, rfl⟩
      rw [← hz] at hcall hcell hdrop
      have HE := Lib.hid (hE.out.trans (congrArg (List.any · p) hdrop))
      have i0 : (0 : Int) ≤ (k : Int) := by omega
      have i1 : (k : Int) < (l.length : Int) := by omega
      clear hdrop hz hE
      cases hpz : p z with
      | true =>
        rw [hpz] at hcall
        have HR := Lib.hid (show l.any p = true by rw [HE.out]; simp [hpz])
        clear hpz
        go_wp2_with fail
        refine hcall.mono ?_
        rintro e w1 ⟨rfl, hw1⟩
        have hw2 := hw1.symm
        subst hw2
        clear hw1 hcall
        go_wp2
        go_ret
        refine ⟨⟨_, rfl, ?_⟩, rfl⟩
        rw [HR.out]; simp
      | false =>
        rw [hpz] at hcall
        have HS := Lib.hid (show l.any p = (l.drop (k + 1)).any p by rw [HE.out]; simp [hpz])
        clear hpz
        go_wp2_with fail
        refine hcall.mono ?_
        rintro e w1 ⟨rfl, hw1⟩
        have hw2 := hw1.symm
        subst hw2
        clear hw1 hcall
        go_wp2
        go_roundw
        case rel => exact ⟨k + 1, by omega, by go_num, HS, trivial⟩
        case measure => simp [intOf]; omega
    · have hkk : k = l.length := by omega
      have HE := Lib.hid (show l.any p = false by rw [hE.out, hkk]; simp)
      have lt1 : ¬ ((l.length : Int) < (l.length : Int)) := by omega
      subst hkk
      clear hE hlt
      go_wp2
      go_ret
      refine ⟨⟨_, rfl, ?_⟩, rfl⟩
      rw [HE.out]; simp

theorem ContainsFuncI {g : Nat} {cb : Array Value} {p : Int → Bool} {l : List Int} {w : World} {base : Nat} {A : Option Addr} {c : Nat} (hown : OwnI w base (.slice A l.length c) l) (hlen : l.length ≤ 1000000000) (hp : PredIs g cb p l w) :
    Calls Tryz.prog 70 #[.slice A l.length c, .func (.func g) #[] cb] w fun e w' => e = .returned (.bool (l.any p)) ∧ w' = w := by
  have HC := Lib.hid (IndexFuncI hown hlen hp)
  clear hown hp
  obtain ⟨r, hr⟩ : ∃ r, r = l.any p := ⟨_, rfl⟩
  rw [← hr] at HC ⊢
  clear hr
  go_enter Tryz.func70, Tryz.ntmps70
  go_wp2_with fail
  refine HC.out.mono ?_
  rintro e w1 ⟨⟨z, rfl, hz⟩, hw1⟩
  have hw2 := hw1.symm
  subst hw2
  clear hw1 HC
  go_wp2
  go_ret
  exact ⟨rfl, rfl⟩

/-- A list of ints, sorted. -/
def sortI (l : List Int) : List Int := l.mergeSort fun x y => decide (x ≤ y)
theorem sortI_length (l : List Int) : (sortI l).length = l.length := by unfold sortI; exact List.length_mergeSort l

/-- Go's slices.Sort on a row of ints of the call's own. -/
theorem sortI_calls {w : World} {base : Nat} {A : Option Addr} {c : Nat} {l : List Int} (hown : OwnI w base (.slice A l.length c) l) (hlen : l.length ≤ 1000000000) :
    Calls Tryz.prog 81 #[.slice A l.length c] w fun e w' => e = .returned (.tuple #[]) ∧ OwnI w' base (.slice A l.length c) (sortI l) ∧ w.grownBy w' (Value.slice A l.length c).ownBlock := by
  rcases Nat.eq_zero_or_pos l.length with h0 | h0
  · have : l = [] := List.eq_nil_of_length_eq_zero h0
    subst this
    refine (Tryz.slices_Sort_int_none A c w).mono ?_
    rintro e w' ⟨rfl, rfl⟩
    exact ⟨rfl, by simpa [sortI] using hown, gb_refl _ _⟩
  · obtain ⟨h1, ⟨e0, h2⟩ | ⟨g, cap, cur, e, h3, h4, h5, h6, h7, h8⟩⟩ := hown
    · injection e0 with e1 e2 e3; omega
    · injection e with e1 e2 e3
      subst e1 e3
      rw [Nat.mul_one] at h8
      have hH : Go.Sort.Holds (Value.int .i64) w g 0 l.toArray := holds_of_block_i h4 h8
      have hs : (sortI l).length = l.length := sortI_length l
      refine (Tryz.slices_Sort_int g 0 c l w hH (lt_of_block h4) (by omega)).mono ?_
      rintro e w' ⟨rfl, n, os, rfl⟩
      refine ⟨rfl, ?_, grownBy_sorted_i _⟩
      unfold OwnI
      rw [hs]
      exact ownsRow_sorted_i hs h3 h4 h5 h6 h7

/-- What Vars answers. -/
def varsV (t : Ty) : List Int := sortI (varsT t [])
def VarsAns (w : World) (t : Ty) (e : Ending) (w' : World) : Prop :=
  (formedB t = true ∧ ∃ A c, e = .returned (.tuple #[.slice A (varsV t).length c, .int .i64 0]) ∧ OwnI w' w.heap.size (.slice A (varsV t).length c) (varsV t) ∧ Below w.heap.size w w') ∨
  (formedB t = false ∧ e = .returned (.tuple #[.slice none 0 0, .int .i64 4]) ∧ Below w.heap.size w w')
theorem formed_few {t : Ty} (h : formedB t = true) : partsT t ≤ 4000 := by
  unfold formedB at h
  rw [Bool.and_eq_true, decide_eq_true_eq] at h
  exact h.2

set_option maxRecDepth 100000 in
set_option maxHeartbeats 8000000 in
theorem Vars_calls (t : Ty) (v : Value) (w : World) (hv : RdV w v t) : Calls Tryz.prog 41 #[v] w (VarsAns w t) := by
  obtain ⟨h1, A, c, rfl, hr⟩ := hv
  unfold tyV
  obtain ⟨w1, hw1⟩ : ∃ w1, w1 = w.alloc (.cells #[.int .i64 t.kind, .string (S t.mod), .string (S t.name), .slice A t.args.length c, .int .i64 t.var] 24) := ⟨_, rfl⟩
  obtain ⟨q, hq⟩ : ∃ q, q = w.heap.size := ⟨_, rfl⟩
  have B1 := Lib.hid (show Below w.heap.size w w1 by rw [hw1]; exact bel_alloc (Below.refl _ _) _)
  have blk := Lib.hid (show w1.heap[q]? = some (.cells #[.int .i64 t.kind, .string (S t.mod), .string (S t.name), .slice A t.args.length c, .int .i64 t.var] 24 (0, 0)) by rw [hw1, hq]; exact (MapKept.heap_alloc w _).1)
  have hcall := IsFormed_calls t _ w1 ⟨h1, A, c, rfl, hr.turn (fun b h => Nat.lt_of_lt_of_le h B1.out.size) (fun b o h => B1.out.cell (p := ⟨b, o, none⟩) h)⟩
  unfold tyV at hcall
  have HR := Lib.hid hr; have H1 := Lib.hid h1; have HQ := Lib.hid hq
  obtain ⟨b0, b1, b2, b3, b4, bf⟩ := five_cells blk.out
  clear hr h1
  cases hf : formedB t with
  | false =>
    rw [hf] at hcall
    have HF := Lib.hid hf
    clear hf
    go_enter Tryz.func41, Tryz.ntmps41
    go_wp2_with fail
    rw [← hw1, ← hq]
    clear hw1 hq
    refine hcall.mono ?_
    rintro e w2 ⟨rfl, hb2⟩
    have B2 := Lib.hid (B1.out.trans (hb2.mono B1.out.size))
    clear hb2 hcall b0 b1 b2 b3 b4 bf
    go_wp2
    go_ret2
    exact .inr ⟨HF.out, rfl, B2.out⟩
  | true =>
    rw [hf] at hcall
    have HF := Lib.hid hf
    have HP := Lib.hid (formed_few hf)
    clear hf
    go_enter Tryz.func41, Tryz.ntmps41
    go_wp2_with fail
    rw [← hw1, ← hq]
    clear hw1 hq
    refine hcall.mono ?_
    rintro e w2 ⟨rfl, hb2⟩
    have B2 := Lib.hid (B1.out.trans (hb2.mono B1.out.size))
    have blk2 := Lib.hid ((hb2.block q (lt_of_block blk.out)).trans blk.out)
    clear hb2 hcall b0 b1 b2 b3 b4 bf
    obtain ⟨b0, b1, b2, b3, b4, bf⟩ := five_cells blk2.out
    have hv2 := vars_calls t w2 w.heap.size none 0 _ [] (OwnI.nil _ _) ⟨H1.out, A, c, rfl, HR.out.turn (fun b h => h) (fun b o h => B2.out.cell (p := ⟨b, o, none⟩) h)⟩ B2.out.size (by have := HP.out; simp; omega)
    unfold tyV at hv2
    simp only [List.length_nil] at hv2
    obtain ⟨l, hl⟩ : ∃ l, l = varsT t [] := ⟨_, rfl⟩
    have HL := Lib.hid hl
    have HLL := Lib.hid (show l.length ≤ 4000 by have h := (varsT_len t []).2; have := HP.out; rw [hl]; simp at h; omega)
    rw [← hl] at hv2
    clear hl
    go_wp2_with fail
    refine hv2.mono ?_
    rintro e w3 ⟨A3, c3, rfl, hown3, hT3, how3⟩
    have B3 := Lib.hid (show Below w.heap.size w w3 from B2.out.trans (hT3.below B2.out.size (fun z h => by simp [Value.ownBlock] at h)))
    have hs := sortI_calls hown3 (by have := HLL.out; omega)
    have HOW := Lib.hid (fun z e => (hown3.lt z e).1)
    clear hv2 hown3 hT3 how3 b0 b1 b2 b3 b4 bf
    go_wp2_with fail
    refine hs.mono ?_
    rintro e w4 ⟨rfl, hown4, hg4⟩
    have B4 := Lib.hid (show Below w.heap.size w w4 from B3.out.trans ((Tn.gb hg4 (fun z e => .inl e)).below B3.out.size (fun z h => HOW.out z h)))
    have HO4 := Lib.hid hown4
    clear hs hown4 hg4
    go_wp2
    go_ret2
    refine .inl ⟨HF.out, A3, c3, ?_, ?_, B4.out⟩
    · rw [varsV, ← HL.out, sortI_length]; rfl
    · rw [varsV, ← HL.out, sortI_length]; exact HO4.out

theorem six_cells6 {W : World} {r : Nat} {T : TypeId} {a b c d e f : Value} (h : W.heap[r]? = some (.cells #[a, b, c, d, e, f] T (0, 0))) : W.cell? ⟨r, 0, none⟩ = some a ∧ W.cell? ⟨r, 1, none⟩ = some b ∧ W.cell? ⟨r, 2, none⟩ = some c ∧ W.cell? ⟨r, 3, none⟩ = some d ∧ W.cell? ⟨r, 4, none⟩ = some e ∧ W.cell? ⟨r, 5, none⟩ = some f ∧ ∀ o, W.frozen? ⟨r, o, none⟩ = false := by
  refine ⟨?_, ?_, ?_, ?_, ?_, ?_, fun o => ?_⟩ <;> simp [World.cell?, World.frozen?, h]

end Go.Proofs.YtplnfepdikbpfaaGreatDoor
