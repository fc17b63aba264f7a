/- strings.Replacer's Replace at the pairs of Quote, and the token package's Quote. Condition: none but that a string is no longer than an int can tell. -/
import Derived.Test.YtepgjaecfoaenaaGreatDoorQ2
import Derived.Test.YtepgjaecfoaenaaGreatDoorQ4
namespace Go.Proofs.YtepgjaecfoaenaaGreatDoor
open Go.RowKit
set_option linter.unusedVariables false
set_option linter.unusedSimpArgs false

theorem BS.other {B q : Nat} {done : List UInt8} {w : World} (h : BS B q done w) (a : Addr) (u : Value) (ha : a.block < B) : BS B q done (w.setCell a u) := by
  obtain ⟨arr, ao, n, c, h⟩ := h
  have hb : ∀ k, B ≤ k → (w.setCell a u).heap[k]? = w.heap[k]? := fun k hk => Below.heap_setCell _ _ _ _ (by omega)
  refine ⟨arr, ao, n, c, by rw [hb q h.base]; exact h.row, h.base, h.size, h.last, ?_, h.apart, h.left, fun b hbd => ?_⟩
  · exact World.ownsRow.kept h.own (row := some a.block) ⟨rfl, rfl, rfl, by simp [World.setCell], fun k _ hk => Below.heap_setCell _ _ _ _ (fun e => hk (by rw [e]))⟩ (by
      cases ho : (Value.slice ao n c).ownBlock with
      | none => exact .inl rfl
      | some k => exact .inr (fun e => by injection e with e; have := (World.ownsRow.lt h.own k ho).1; omega))
  · obtain ⟨g, c', h1, h2, h3, h4, h5, h6, h7⟩ := h.rows b hbd
    exact ⟨g, c', h1, h2, by simp only [World.setCell, Array.size_modify]; exact h3, h4, h5, by rw [World.cell?_of_block (hb g h2)]; exact h6, by rw [World.cell?_of_block (hb g h2)]; exact h7⟩
theorem BS.drew {B q : Nat} {done : List UInt8} {w : World} (h : BS B q done w) : BS B q done w.drew := by
  obtain ⟨arr, ao, n, c, h⟩ := h
  exact ⟨arr, ao, n, c, h.below ((Below.refl _ _).drew)⟩

def RepQ (B : Nat) (t : TypeId) (q : Nat) (w : World) : Prop := t = 129 ∧ BS B q [92, 34, 10] w

set_option maxHeartbeats 1000000 in
theorem buildOnce_quote (R g c : Nat) (w : World) (hR : R < w.heap.size) (hg : g < w.heap.size)
    (h3 : w.cell? ⟨R, 3, none⟩ = some .nilIface) (f3 : w.frozen? ⟨R, 3, none⟩ = false) (f4 : w.frozen? ⟨R, 4, none⟩ = false)
    (hold : w.cell? ⟨R, 4, none⟩ = some (.slice (some ⟨g, 0, none⟩) 6 c))
    (hs : ∀ k, k < 6 → w.cell? ⟨g, k, none⟩ = some (.string (S (strAt quoteL k)))) :
    Calls Tryz.prog 56 #[.pointer (some ⟨R, 0, none⟩)] w (BPost R (RepQ w.heap.size) w) := by
  have HB := Lib.hid (build_quote R g c w hR hg hold (hs 0 (by decide)) (hs 1 (by decide)) (hs 2 (by decide)) (hs 3 (by decide)) (hs 4 (by decide)) (hs 5 (by decide)))
  clear hs
  go_enter Tryz.func56, Tryz.ntmps56
  go_wp2_with fail
  refine HB.out.mono ?_
  rintro e w2 ⟨q, rfl, hS, hb⟩
  have k3 : w2.cell? ⟨R, 3, none⟩ = some .nilIface := by rw [hb.cell (p := ⟨R, 3, none⟩) hR]; exact h3
  have k4 : w2.cell? ⟨R, 4, none⟩ = some (.slice (some ⟨g, 0, none⟩) 6 c) := by rw [hb.cell (p := ⟨R, 4, none⟩) hR]; exact hold
  have z3 : w2.frozen? ⟨R, 3, none⟩ = false := by rw [hb.frozen (p := ⟨R, 3, none⟩) hR]; exact f3
  have z4 : w2.frozen? ⟨R, 4, none⟩ = false := by rw [hb.frozen (p := ⟨R, 4, none⟩) hR]; exact f4
  go_wp2
  go_end0
  exact ⟨w2, _, q, rfl, hb, ⟨rfl, hS⟩, rfl⟩

theorem method_bsr (a : Addr) (w : World) (d : Nat) : (method (d + 1) 129 (.pointer (some a)) "Replace").run Tryz.prog w = .ok (172, .pointer (some a)) w := by kernel_rfl
theorem nilAhead_bsr (a : Addr) (w : World) (d : Nat) : (nilAhead (d + 1) 129 (.pointer (some a)) "Replace").run Tryz.prog w = .ok (some false) w := by kernel_rfl

set_option maxHeartbeats 1000000 in
theorem Replace_quote (R g c : Nat) (l : List UInt8) (w : World) (hR : R < w.heap.size) (hg : g < w.heap.size) (hgR : g ≠ R) (hl : l.length ≤ 20000)
    (hrow : w.heap[R]? = some (.cells #[.int .u32 0, .int .i32 0, .int .u32 0, .nilIface, .slice (some ⟨g, 0, none⟩) 6 c] 87 (0, 0)))
    (hs : ∀ k, k < 6 → w.cell? ⟨g, k, none⟩ = some (.string (S (strAt quoteL k)))) :
    Calls Tryz.prog 46 #[.pointer (some ⟨R, 0, none⟩), .string (S l)] w fun e w' => e = .returned (.string (S (escL l))) ∧ Below R w w' := by
  have hwl : (w.setCell ⟨R, 1, none⟩ (.int .i32 1)).heap.size = w.heap.size := by simp [World.setCell]
  have h0 : w.cell? ⟨R, 0, none⟩ = some (.int .u32 0) := by rw [cell_of_row _ _ _ _ _ _ hrow]; rfl
  have h1 : w.cell? ⟨R, 1, none⟩ = some (.int .i32 0) := by rw [cell_of_row _ _ _ _ _ _ hrow]; rfl
  have h3 : w.cell? ⟨R, 3, none⟩ = some .nilIface := by rw [cell_of_row _ _ _ _ _ _ hrow]; rfl
  have h4 : w.cell? ⟨R, 4, none⟩ = some (.slice (some ⟨g, 0, none⟩) 6 c) := by rw [cell_of_row _ _ _ _ _ _ hrow]; rfl
  have fz : ∀ j, w.frozen? ⟨R, j, none⟩ = false := fun j => frozen_of_row _ _ _ _ _ hrow
  have HB := Lib.hid (buildOnce_quote R g c (w.setCell ⟨R, 1, none⟩ (.int .i32 1)) (by rw [hwl]; exact hR) (by rw [hwl]; exact hg)
    (by rw [World.cell?_setCell_other _ _ _ _ (by simp)]; exact h3) (by simp [fz]) (by simp [fz]) (by rw [World.cell?_setCell_other _ _ _ _ (by simp)]; exact h4)
    (fun k hk => by rw [World.cell?_setCell_other _ _ _ _ (by intro e; have := congrArg Addr.block e; simp at this; exact hgR this.symm)]; exact hs k hk))
  rw [hwl] at HB
  have HD := Lib.hid (Do_calls R (RepQ w.heap.size) w hR h0 h1 (fz 0) (fz 1) HB.out)
  have K3 := Lib.hid (p := (w.cell? ⟨R, 3, none⟩).isSome) (by rw [h3]; rfl)
  clear HB h0 h1 h3 h4 fz hs hrow hwl
  go_enter Tryz.func46, Tryz.ntmps46
  go_wp2_with fail
  refine HD.out.mono ?_
  rintro e w' ⟨w2, t, q, rfl, hb, ⟨rfl, hS⟩, rfl⟩
  have hsz : R < w2.heap.size := by have := hb.size; simp [World.setCell] at this; omega
  have hb1 : Below R w w2 := ((Below.refl R w).setCell (Nat.le_refl _) _).trans (hb.mono (by omega))
  have j3 : (w2.cell? ⟨R, 3, none⟩).isSome := by
    rw [hb.cell (p := ⟨R, 3, none⟩) hR, World.cell?_setCell_other _ _ _ _ (by simp)]; exact K3.out
  obtain ⟨v3, hv3⟩ := Option.isSome_iff_exists.1 j3
  have hex : ∃ wn : World, wn = ((((w2.setCell ⟨R, 3, none⟩ (.iface 129 (.pointer (some ⟨q, 0, none⟩)))).setCell ⟨R, 4, none⟩ (.slice none 0 0)).drew.setCell ⟨R, 0, none⟩ (.int .u32 1)).setCell ⟨R, 1, none⟩ (.int .i32 0)) := ⟨_, rfl⟩
  obtain ⟨wn, hwn⟩ := hex
  have hSn : BS w.heap.size q [92, 34, 10] wn := by
    rw [hwn]; exact ((((hS.other _ _ hR).other _ _ hR).drew.other _ _ hR).other _ _ hR)
  have c3 : wn.cell? ⟨R, 3, none⟩ = some (.iface 129 (.pointer (some ⟨q, 0, none⟩))) := by
    rw [hwn, World.cell?_setCell_other _ _ _ _ (by simp), World.cell?_setCell_other _ _ _ _ (by simp), World.cell?_drew, World.cell?_setCell_other _ _ _ _ (by simp)]
    exact World.cell?_setCell_same _ _ _ hv3
  have hbn : Below R w wn := by
    rw [hwn]; exact ((((hb1.setCell (Nat.le_refl _) _).setCell (Nat.le_refl _) _).drew.setCell (Nat.le_refl _) _).setCell (Nat.le_refl _) _)
  rw [← hwn]
  clear hwn hS hb hb1 hv3 j3 hsz
  have hm := method_bsr ⟨q, 0, none⟩ wn
  have hna := nilAhead_bsr ⟨q, 0, none⟩ wn
  go_wp2_with fail
  refine (bsr_Replace w.heap.size q l wn hSn hl).mono ?_
  rintro e w' ⟨rfl, hb'⟩
  go_wp2
  go_ret
  exact ⟨rfl, hbn.trans (hb'.mono (by have := hbn.size; omega))⟩

end Go.Proofs.YtepgjaecfoaenaaGreatDoor
