/- genericReplacer's Replace at the pairs of Unquote. Condition: at most 20000 bytes. (*Replacer).Replace at the pairs of Unquote, and the token package's Unquote. -/
import Derived.Test.YtepgjaecfoaenaaGreatDoorL3
import Derived.Test.YtepgjaecfoaenaaGreatDoorX
namespace Go.Proofs.YtepgjaecfoaenaaGreatDoor
open Go.RowKit
set_option linter.unusedVariables false
set_option linter.unusedSimpArgs false

theorem method_gen (a : Addr) (w : World) (d : Nat) : (method (d + 1) 121 (.pointer (some a)) "Replace").run Tryz.prog w = .ok (166, .pointer (some a)) w := by kernel_rfl
theorem nilAhead_gen (a : Addr) (w : World) (d : Nat) : (nilAhead (d + 1) 121 (.pointer (some a)) "Replace").run Tryz.prog w = .ok (some false) w := by kernel_rfl
theorem conv_nil (w : World) : (convert 196 9 (.slice none 0 0)).run Tryz.prog w = .ok (.string ⟨#[]⟩) w := by kernel_rfl
theorem conv_own {w : World} {B : Nat} {v : Value} {A : List UInt8} (h : w.ownsRow B 5 1 v A.length (Lib.strCells (S A))) : (convert 196 9 v).run Tryz.prog w = .ok (.string (S A)) w := by
  rcases h.2 with ⟨rfl, h0⟩ | ⟨g, cap, cur, rfl, hb, hg, h1, h2, h3, h4⟩
  · obtain rfl : A = [] := List.length_eq_zero_iff.1 h0
    exact conv_nil w
  · refine run_convert_bytes_back w 196 9 5 ⟨g, 0, none⟩ cap A Tryz.underlying196 Tryz.underlying5 Tryz.underlying9 ?_
    intro j hj
    rw [World.ownsRow.cells h (g := g) rfl j (.int .u8 (A[j].toNat : Int)) (by simp [Lib.strCells, S_data, List.getElem?_eq_getElem hj])]
theorem make0_own (w : World) (N : Nat) (hN : N ≤ 20000) : (w.alloc (.cells (madeCells #[.int .u8 0] N) 5)).ownsRow w.heap.size 5 1 (.slice (some ⟨w.heap.size, 0, none⟩) 0 N) 0 [] :=
  ⟨rfl, .inr ⟨w.heap.size, N, _, rfl, Nat.le_refl _, heap_alloc_new w _, by omega, by unfold maxLen; omega, by rw [made_fill, List.size_toArray, fill_length _ _ (by simp), Nat.mul_one], rfl⟩⟩
theorem make0_run (w : World) (N : Nat) (hN : N ≤ 20000) : (Instr.makeSlice 196 (.int .i64 0) (.int .i64 N)).run Tryz.prog w = .ok (.slice (some ⟨w.heap.size, 0, none⟩) 0 N) (w.alloc (.cells (madeCells #[.int .u8 0] N) 5)) := by
  obtain ⟨i0, hi, hz0, hz1, hz2⟩ := info_parts infoByte
  have h := run_make (P := Tryz.prog) w 196 5 i0 (.int .u8 0) Tryz.underlying196 hi hz0 .i64 .i64 0 N (by omega) (by omega) (by rw [hz2]; omega) (by omega)
  rw [hz1] at h
  simpa [Value.cells] using h

set_option maxRecDepth 100000 in
set_option maxHeartbeats 4000000 in
theorem gen_Replace (B R : Nat) (l : List UInt8) (w : World) (hS : GS B R w) (hl : l.length ≤ 20000) :
    Calls Tryz.prog 166 #[.pointer (some ⟨R, 0, none⟩), .string (S l)] w fun e w' => e = .returned (.string (S (unq l))) ∧ Below w.heap.size w w' := by
  have HM := fun W => make0_run W l.length hl
  go_enter Tryz.func166, Tryz.ntmps166
  go_wp2_with fail
  have hbuf : BufW w.heap.size (w.heap.size + 1) [] ((w.alloc (.cells (madeCells #[.int .u8 0] l.length) 5)).alloc (.cells #[.slice (some ⟨w.heap.size, 0, none⟩) 0 l.length] 196)) :=
    ⟨_, by have := heap_alloc_new (w.alloc (.cells (madeCells #[.int .u8 0] l.length) 5)) (.cells #[.slice (some ⟨w.heap.size, 0, none⟩) 0 l.length] 196); rw [World.size_alloc] at this; exact this, by omega,
     own_below (make0_own w l.length hl) ((Below.refl _ _).alloc (Nat.le_refl _) _), by simp [Value.ownBlock]⟩
  refine (gen_WriteString B R (w.heap.size + 1) l w _ hS (bel_alloc (bel_alloc (Below.refl _ _) _) _) hbuf hl).mono ?_
  rintro e w' ⟨⟨x, rfl⟩, ⟨v, hrow, hB, hown, hne⟩, hb⟩
  have c0 : w'.cell? ⟨w.heap.size + 1, 0, none⟩ = some v := by rw [Lib.cell_of_heap hrow]; rfl
  have hcv := conv_own hown
  clear hbuf HM
  have HO := Lib.hid hown; clear hown hne hrow
  go_wp2
  go_ret
  exact ⟨rfl, hb⟩

end Go.Proofs.YtepgjaecfoaenaaGreatDoor

namespace Go.Proofs.YtepgjaecfoaenaaGreatDoor
open Go.RowKit
set_option linter.unusedVariables false
set_option linter.unusedSimpArgs false

set_option maxHeartbeats 1000000 in
theorem Replace_unquote (R g c : Nat) (l : List UInt8) (w : World) (hR : R < w.heap.size) (hg : g < w.heap.size) (hgR : g ≠ R) (hl : l.length ≤ 20000)
    (hrow : w.heap[R]? = some (.cells #[.int .u32 0, .int .i32 0, .int .u32 0, .nilIface, .slice (some ⟨g, 0, none⟩) 6 c] 87 (0, 0)))
    (hs : ∀ k, k < 6 → w.cell? ⟨g, k, none⟩ = some (.string (S (strAt unquoteL k)))) :
    Calls Tryz.prog 46 #[.pointer (some ⟨R, 0, none⟩), .string (S l)] w fun e w' => e = .returned (.string (S (unq l))) ∧ Below R w w' := by
  have hwl : (w.setCell ⟨R, 1, none⟩ (.int .i32 1)).heap.size = w.heap.size := by simp [World.setCell]
  have h0 : w.cell? ⟨R, 0, none⟩ = some (.int .u32 0) := by rw [cell_of_row _ _ _ _ _ _ hrow]; rfl
  have h1 : w.cell? ⟨R, 1, none⟩ = some (.int .i32 0) := by rw [cell_of_row _ _ _ _ _ _ hrow]; rfl
  have h3 : w.cell? ⟨R, 3, none⟩ = some .nilIface := by rw [cell_of_row _ _ _ _ _ _ hrow]; rfl
  have h4 : w.cell? ⟨R, 4, none⟩ = some (.slice (some ⟨g, 0, none⟩) 6 c) := by rw [cell_of_row _ _ _ _ _ _ hrow]; rfl
  have fz : ∀ j, w.frozen? ⟨R, j, none⟩ = false := fun j => frozen_of_row _ _ _ _ _ hrow
  have HB := Lib.hid (buildOnce_unquote R g c (w.setCell ⟨R, 1, none⟩ (.int .i32 1)) (by rw [hwl]; exact hR) (by rw [hwl]; exact hg)
    (by rw [World.cell?_setCell_other _ _ _ _ (by simp)]; exact h3) (by simp [fz]) (by simp [fz]) (by rw [World.cell?_setCell_other _ _ _ _ (by simp)]; exact h4)
    (fun k hk => by rw [World.cell?_setCell_other _ _ _ _ (by intro e; have := congrArg Addr.block e; simp at this; exact hgR this.symm)]; exact hs k hk))
  rw [hwl] at HB
  have HD := Lib.hid (Do_calls R (RepU w.heap.size) w hR h0 h1 (fz 0) (fz 1) HB.out)
  have K3 := Lib.hid (p := (w.cell? ⟨R, 3, none⟩).isSome) (by rw [h3]; rfl)
  clear HB h0 h1 h3 h4 fz hs hrow hwl
  go_enter Tryz.func46, Tryz.ntmps46
  go_wp2_with fail
  refine HD.out.mono ?_
  rintro e w' ⟨w2, t, q, rfl, hb, ⟨rfl, hS⟩, rfl⟩
  have hsz : R < w2.heap.size := by have := hb.size; simp [World.setCell] at this; omega
  have hb1 : Below R w w2 := ((Below.refl R w).setCell (Nat.le_refl _) _).trans (hb.mono (by omega))
  have j3 : (w2.cell? ⟨R, 3, none⟩).isSome := by
    rw [hb.cell (p := ⟨R, 3, none⟩) hR, World.cell?_setCell_other _ _ _ _ (by simp)]; exact K3.out
  obtain ⟨v3, hv3⟩ := Option.isSome_iff_exists.1 j3
  have hex : ∃ wn : World, wn = ((((w2.setCell ⟨R, 3, none⟩ (.iface 121 (.pointer (some ⟨q, 0, none⟩)))).setCell ⟨R, 4, none⟩ (.slice none 0 0)).drew.setCell ⟨R, 0, none⟩ (.int .u32 1)).setCell ⟨R, 1, none⟩ (.int .i32 0)) := ⟨_, rfl⟩
  obtain ⟨wn, hwn⟩ := hex
  have hSn : GS w.heap.size q wn := by
    rw [hwn]; exact ((((hS.other _ _ hR).other _ _ hR).drew.other _ _ hR).other _ _ hR)
  have c3 : wn.cell? ⟨R, 3, none⟩ = some (.iface 121 (.pointer (some ⟨q, 0, none⟩))) := by
    rw [hwn, World.cell?_setCell_other _ _ _ _ (by simp), World.cell?_setCell_other _ _ _ _ (by simp), World.cell?_drew, World.cell?_setCell_other _ _ _ _ (by simp)]
    exact World.cell?_setCell_same _ _ _ hv3
  have hbn : Below R w wn := by
    rw [hwn]; exact ((((hb1.setCell (Nat.le_refl _) _).setCell (Nat.le_refl _) _).drew.setCell (Nat.le_refl _) _).setCell (Nat.le_refl _) _)
  rw [← hwn]
  clear hwn hS hb hb1 hv3 j3 hsz
  have hm := method_gen ⟨q, 0, none⟩ wn
  have hna := nilAhead_gen ⟨q, 0, none⟩ wn
  go_wp2_with fail
  refine (gen_Replace w.heap.size q l wn hSn hl).mono ?_
  rintro e w' ⟨rfl, hb'⟩
  go_wp2
  go_ret
  exact ⟨rfl, hbn.trans (hb'.mono (by have := hbn.size; omega))⟩


/-- What Unquote returns. -/
def unquoteRes (t : Tok) : List UInt8 × Int := if t.kind ≠ 6 ∨ isTokB t = false then ([], 4) else (unq (t.text.take (t.text.length - 1)).tail, 0)

theorem text_two {t : Tok} (hk : t.kind = 6) (h : isTokB t = true) : 2 ≤ t.text.length ∧ t.text.length ≤ 20000 := by
  obtain ⟨h0, h1, h2⟩ := isTok_next h
  have hkk : (nextKN t.text).1 = 6 := by have := congrArg Tok.kind h2; simpa [nextT, hk] using this
  have hp := nextKN_pos t.text h0
  rw [(nextKN_text hkk).1] at hp
  refine ⟨?_, h1⟩
  rcases Nat.lt_or_ge t.text.length 2 with hlt | hge
  · exfalso
    have hd : t.text.drop 1 = [] := List.drop_eq_nil_of_le (by omega)
    simp only [quotedN, hd] at hp
    exact absurd hp (by decide)
  · exact hge

set_option maxRecDepth 100000 in
set_option maxHeartbeats 2000000 in
theorem Unquote_calls (t : Tok) (w : World) :
    Calls Tryz.prog 15 #[.agg #[.int .i64 t.kind, .string (S t.text)]] w fun e w' => e = .returned (.tuple #[.string (S (unquoteRes t).1), .int .i64 (unquoteRes t).2]) ∧ Below w.heap.size w w' := by
  by_cases hk : t.kind = 6
  · have hkb : (t.kind != 6) = false := by simp [hk]
    cases ht : isTokB t with
    | false =>
      have hr : unquoteRes t = ([], 4) := by unfold unquoteRes; rw [if_pos (.inr ht)]
      rw [hr]; clear hr hk
      have HT := Lib.hid ht; clear ht
      go_enter Tryz.func15, Tryz.ntmps15
      go_wp2_with (go_at_call 22; refine (IsToken_calls t _).mono ?_; rintro e w1 ⟨rfl, hb⟩; rw [HT.out])
      go_ret2
      exact ⟨rfl, bel_then (bel_alloc (Below.refl _ _) _) hb⟩
    | true =>
      obtain ⟨h2, hl⟩ := text_two hk ht
      have hr : unquoteRes t = (unq (t.text.take (t.text.length - 1)).tail, 0) := by unfold unquoteRes; rw [if_neg (by simp [hk, ht])]
      rw [hr]; clear hr hk
      have HT := Lib.hid ht; clear ht
      have hl2 : (2 : Int) ≤ (t.text.length : Int) := by omega
      go_enter Tryz.func15, Tryz.ntmps15
      go_wp2_with (go_at_call 22; refine (IsToken_calls t _).mono ?_; rintro e w1 ⟨rfl, hb⟩; rw [HT.out]; obtain ⟨hc, hf⟩ := bcell hb)
      refine (NewReplacer_calls w1.heap.size 6 6 unquoteL _ rfl rfl ?_).mono ?_
      · intro k hk
        have hk6 : k < 6 := hk
        rcases (show k = 0 ∨ k = 1 ∨ k = 2 ∨ k = 3 ∨ k = 4 ∨ k = 5 by omega) with rfl | rfl | rfl | rfl | rfl | rfl <;> (rw [cell_of_row _ _ _ _ _ _ (heap_alloc_new _ _)]; rfl)
      rintro e w' ⟨w2, v, rfl, hb2, hown, rfl⟩
      obtain ⟨g, c, rfl, hg, hcells⟩ := own_cells hown (by decide)
      have HC := Lib.hid hcells
      clear hown hcells hc hf
      have hbel0 := bel_then (bel_alloc (Below.refl w.heap.size w) (.cells #[.int .i64 t.kind, .string (S t.text)] 23)) hb
      have hbel := bel_then (bel_alloc hbel0 _) hb2
      clear hb hb2 hbel0
      go_wp2_with fail
      refine (Replace_unquote w2.heap.size g c _ _ (by simp) (by simp; omega) (by omega) (by simp; omega) (heap_alloc_new _ _) (fun k hk => by rw [World.cell?_of_block (heap_alloc_old w2 _ hg)]; exact HC.out k hk)).mono ?_
      rintro e w' ⟨rfl, hb'⟩
      have hbel' := hbel.trans (((Below.refl _ w2).alloc (Nat.le_refl _) _).trans hb' |>.mono hbel.size)
      go_wp2
      go_ret2
      exact ⟨rfl, hbel'⟩
  · have hkb : (t.kind != 6) = true := by simp [hk]
    have hr : unquoteRes t = ([], 4) := by unfold unquoteRes; rw [if_pos (.inl hk)]
    rw [hr]; clear hr hk
    go_enter Tryz.func15, Tryz.ntmps15
    go_wp2
    go_ret2
    exact ⟨rfl, bel_alloc (Below.refl _ _) _⟩

end Go.Proofs.YtepgjaecfoaenaaGreatDoor
