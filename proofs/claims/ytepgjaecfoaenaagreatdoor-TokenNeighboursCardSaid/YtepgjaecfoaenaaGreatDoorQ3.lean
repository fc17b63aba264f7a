/- The state of a byteStringReplacer that is being built, over the memory's changes. No program's walk. -/
import Derived.Test.YtepgjaecfoaenaaGreatDoorQ1
import Derived.Test.YtepgjaecfoaenaaGreatDoorP5
import Derived.Lib.ConvBytes
import Derived.Lib.SliceRun
import Derived.Lib.AtoiErrMem
import Derived.Maps.AppendAt
import Derived.Test.YtepgjaecfoaenaaGreatDoorQ5
import Derived.Laws.BytesArg
namespace Go.Proofs.YtepgjaecfoaenaaGreatDoor
open Go.RowKit
set_option linter.unusedVariables false
set_option linter.unusedSimpArgs false


@[go_sem] theorem at_head (a : UInt8) (l : List UInt8) : at_ (a :: l) 0 = a := rfl
/-- A slice of one byte, just made, as a string. -/
theorem conv_one (b : UInt8) (z : Int) (hz : z = (b.toNat : Int)) (W : World) (k : Nat) (hk : k = W.heap.size) :
    (convert 66 9 (.slice (some ⟨k, 0, none⟩) 1 1)).run Tryz.prog (W.alloc (.cells #[.int .u8 z] 5)) = .ok (.string (S [b])) (W.alloc (.cells #[.int .u8 z] 5)) := by
  subst hz; subst hk
  have := run_convert_bytes_arg (P := Tryz.prog) (W.alloc (.cells #[.int .u8 (b.toNat : Int)] 5)) 66 5 Tryz.underlying66 Tryz.underlying5 W.heap.size 0 1 1 [(b.toNat : Int)] rfl (fun i hi => by
    have : i = 0 := by omega
    subst this; simp) 9 Tryz.underlying9
  rw [this]
  simp [S, strOfNums]

/-- A row of bytes as a string. -/
theorem conv_row (w : World) (g n cap : Nat) (l : List UInt8) (hn : n = l.length) (hc : ∀ j, j < l.length → w.cell? ⟨g, j, none⟩ = some (.int .u8 (at_ l j).toNat)) :
    (convert 66 9 (.slice (some ⟨g, 0, none⟩) n cap)).run Tryz.prog w = .ok (.string (S l)) w := by
  subst hn
  have := run_convert_bytes_arg (P := Tryz.prog) w 66 5 Tryz.underlying66 Tryz.underlying5 g 0 l.length cap (l.map fun c => (c.toNat : Int)) (by simp) (fun i hi => by
    rw [Nat.zero_add, hc i hi]; simp [at_, List.getElem?_eq_getElem hi]) 9 Tryz.underlying9
  have hid : (fun n : Int => UInt8.ofNat n.toNat) ∘ (fun c : UInt8 => (c.toNat : Int)) = id := by funext c; simp
  rw [this]
  unfold S strOfNums
  rw [List.map_map, hid, List.map_id]
theorem conv_fill (w : World) (g : Nat) (l : List UInt8) (N : Nat) (hN : N = l.length) (t : TypeId) (hr : w.heap[g]? = some (.cells (fill l N).toArray t (0, 0))) :
    (convert 66 9 (.slice (some ⟨g, 0, none⟩) N N)).run Tryz.prog w = .ok (.string (S l)) w := by
  subst hN
  refine conv_row w g l.length l.length l rfl fun j hj => ?_
  rw [cell_of_row _ _ _ _ _ _ hr, fill_full]
  simp [Lib.byteCells, at_, List.getElem?_eq_getElem hj]

/-- Block q is a byteStringReplacer that replaces these bytes, by two each. -/
structure BSa (B q : Nat) (done : List UInt8) (arr : Array Value) (ao : Option Addr) (n c : Nat) (w : World) : Prop where
  row : w.heap[q]? = some (.cells arr 128 (0, 0))
  base : B ≤ q
  size : arr.size = 257
  last : arr[256]? = some (.slice ao n c)
  own : OwnS w B (.slice ao n c) (done.map fun b => [b])
  apart : (Value.slice ao n c).ownBlock ≠ some q
  left : ∀ b : UInt8, b ∉ done → arr[b.toNat]? = some (.slice none 0 0)
  rows : ∀ b ∈ done, ∃ g c', arr[b.toNat]? = some (.slice (some ⟨g, 0, none⟩) 2 c') ∧ B ≤ g ∧ g < w.heap.size ∧ g ≠ q ∧ (Value.slice ao n c).ownBlock ≠ some g ∧ w.cell? ⟨g, 0, none⟩ = some (.int .u8 92) ∧ w.cell? ⟨g, 1, none⟩ = some (.int .u8 (esc b).toNat)

def BS (B q : Nat) (done : List UInt8) (w : World) : Prop := ∃ arr ao n c, BSa B q done arr ao n c w

theorem BSa.lt {B q : Nat} {done : List UInt8} {arr : Array Value} {ao : Option Addr} {n c : Nat} {w : World} (h : BSa B q done arr ao n c w) : q < w.heap.size :=
  (Array.getElem?_eq_some_iff.1 h.row).1

theorem BSa.below {B q : Nat} {done : List UInt8} {arr : Array Value} {ao : Option Addr} {n c : Nat} {w w' : World} (h : BSa B q done arr ao n c w) (hb : Below w.heap.size w w') : BSa B q done arr ao n c w' where
  row := by rw [hb.block q h.lt]; exact h.row
  base := h.base
  size := h.size
  last := h.last
  own := own_below h.own hb
  apart := h.apart
  left := h.left
  rows := fun b hbd => by
    obtain ⟨g, c', h1, h2, h3, h4, h5, h6, h7⟩ := h.rows b hbd
    exact ⟨g, c', h1, h2, Nat.lt_of_lt_of_le h3 hb.size, h4, h5, by rw [hb.cell (p := ⟨g, 0, none⟩) h3]; exact h6, by rw [hb.cell (p := ⟨g, 1, none⟩) h3]; exact h7⟩

theorem BSa.row2 {B q : Nat} {done : List UInt8} {arr : Array Value} {ao : Option Addr} {n c : Nat} {w w2 : World} (h : BSa B q done arr ao n c w) (hg : w.grownBy w2 (Value.slice ao n c).ownBlock) :
    w2.heap[q]? = some (.cells arr 128 (0, 0)) := by
  rw [hg.block q h.lt (fun e => h.apart e.symm)]; exact h.row
theorem BSa.cells2 {B q : Nat} {done : List UInt8} {arr : Array Value} {ao : Option Addr} {n c : Nat} {w w2 : World} (h : BSa B q done arr ao n c w) (hg : w.grownBy w2 (Value.slice ao n c).ownBlock) (o : UInt8) (ho : o ∉ done) (v' : Value) (s : ByteArray) (m : Nat) (hm : m = o.toNat) :
    w2.cell? ⟨q, 256, none⟩ = some (.slice ao n c) ∧ w2.frozen? ⟨q, 256, none⟩ = false ∧
    (Lib.bytesWorld (w2.setCell ⟨q, 256, none⟩ v') 5 s).cell? ⟨q, m, none⟩ = some (.slice none 0 0) ∧ (Lib.bytesWorld (w2.setCell ⟨q, 256, none⟩ v') 5 s).frozen? ⟨q, m, none⟩ = false := by
  subst hm
  have hr := h.row2 hg
  have hlt : q < (w2.setCell ⟨q, 256, none⟩ v').heap.size := by simp only [World.setCell, Array.size_modify]; exact (Array.getElem?_eq_some_iff.1 hr).1
  have hr2 : (Lib.bytesWorld (w2.setCell ⟨q, 256, none⟩ v') 5 s).heap[q]? = some (.cells (arr.setIfInBounds 256 v') 128 (0, 0)) := by
    rw [(Lib.bytesWorld_below _ 5 s).block q hlt]; exact heap_setCell_same w2 q 256 arr 128 v' hr
  have ho256 : o.toNat < 256 := o.toNat_lt
  refine ⟨by rw [cell_of_row _ _ _ _ _ _ hr]; exact h.last, frozen_of_row _ _ _ _ _ hr, ?_, frozen_of_row _ _ _ _ _ hr2⟩
  rw [cell_of_row _ _ _ _ _ _ hr2, Array.getElem?_setIfInBounds, if_neg (by omega)]
  exact h.left o ho

/-- The list of bytes has one more. -/
theorem BSa.listed {B q : Nat} {done : List UInt8} {arr : Array Value} {ao ao' : Option Addr} {n c n' c' : Nat} {w w2 : World} {o : UInt8} (h : BSa B q done arr ao n c w)
    (hg : w.grownBy w2 (Value.slice ao n c).ownBlock) (hown : OwnS w2 B (.slice ao' n' c') ((done ++ [o]).map fun b => [b]))
    (hat : (Value.slice ao' n' c').ownBlock = (Value.slice ao n c).ownBlock ∨ ∃ k, (Value.slice ao' n' c').ownBlock = some k ∧ w.heap.size ≤ k) :
    let W := w2.setCell ⟨q, 256, none⟩ (.slice ao' n' c')
    W.heap[q]? = some (.cells (arr.setIfInBounds 256 (.slice ao' n' c')) 128 (0, 0)) ∧ OwnS W B (.slice ao' n' c') ((done ++ [o]).map fun b => [b]) ∧
    (Value.slice ao' n' c').ownBlock ≠ some q ∧
    (∀ b ∈ done, ∃ g c0, arr[b.toNat]? = some (.slice (some ⟨g, 0, none⟩) 2 c0) ∧ B ≤ g ∧ g < W.heap.size ∧ g ≠ q ∧ (Value.slice ao' n' c').ownBlock ≠ some g ∧ W.cell? ⟨g, 0, none⟩ = some (.int .u8 92) ∧ W.cell? ⟨g, 1, none⟩ = some (.int .u8 (esc b).toNat)) := by
  intro W
  have hlt := h.lt
  have hrow : w2.heap[q]? = some (.cells arr 128 (0, 0)) := by rw [hg.block q hlt (fun e => h.apart e.symm)]; exact h.row
  have hne : (Value.slice ao' n' c').ownBlock ≠ some q := by
    rcases hat with e | ⟨k, e, hk⟩
    · rw [e]; exact h.apart
    · rw [e]; intro e2; injection e2 with e2; omega
  refine ⟨heap_setCell_same w2 q 256 arr 128 _ hrow, ?_, hne, fun b hb => ?_⟩
  · refine World.ownsRow.kept hown (row := some q) ⟨rfl, rfl, rfl, by simp [W, World.setCell], fun k _ hk => Below.heap_setCell _ _ _ _ (fun e => hk (by simp [e]))⟩ (Or.inr hne)
  · obtain ⟨g, c0, h1, h2, h3, h4, h5, h6, h7⟩ := h.rows b hb
    have hW : W.heap[g]? = w.heap[g]? := by
      rw [heap_setCell_other _ _ _ _ h4, hg.block g h3 (fun e => h5 e.symm)]
    have hc : ∀ j, W.cell? ⟨g, j, none⟩ = w.cell? ⟨g, j, none⟩ := fun j => World.cell?_of_block hW
    refine ⟨g, c0, h1, h2, by simp [W, World.setCell]; exact Nat.lt_of_lt_of_le h3 hg.size, h4, ?_, by rw [hc]; exact h6, by rw [hc]; exact h7⟩
    rcases hat with e | ⟨k, e, hk⟩
    · rw [e]; exact h5
    · rw [e]; intro e2; injection e2 with e2; omega

/-- .. and one more row of two bytes. -/
theorem BSa.step {B q : Nat} {done : List UInt8} {arr : Array Value} {ao ao' : Option Addr} {n c n' c' : Nat} {w w2 : World} {o : UInt8} (h : BSa B q done arr ao n c w) (ho : o ∉ done)
    (hg : w.grownBy w2 (Value.slice ao n c).ownBlock) (hown : OwnS w2 B (.slice ao' n' c') ((done ++ [o]).map fun b => [b]))
    (hat : (Value.slice ao' n' c').ownBlock = (Value.slice ao n c).ownBlock ∨ ∃ k, (Value.slice ao' n' c').ownBlock = some k ∧ w.heap.size ≤ k) (k cap m : Nat) (hm : m = o.toNat) (hk : k = w2.heap.size) (hB : B ≤ w.heap.size) :
    BS B q (done ++ [o]) ((Lib.bytesWorld (w2.setCell ⟨q, 256, none⟩ (.slice ao' n' c')) 5 (S [92, esc o])).setCell ⟨q, m, none⟩ (.slice (some ⟨k, 0, none⟩) 2 cap)) := by
  subst hk; subst hm
  obtain ⟨e1, e2, e3, e4⟩ := h.listed hg hown hat
  generalize hW : w2.setCell ⟨q, 256, none⟩ (.slice ao' n' c') = W at *
  have hlt : q < W.heap.size := (Array.getElem?_eq_some_iff.1 e1).1
  have hks : w2.heap.size = W.heap.size := by rw [← hW]; simp [World.setCell]
  have hbb := Lib.bytesWorld_below W 5 (S [92, esc o])
  have hrow : (Lib.bytesWorld W 5 (S [92, esc o])).heap[q]? = some (.cells (arr.setIfInBounds 256 (.slice ao' n' c')) 128 (0, 0)) := by rw [hbb.block q hlt]; exact e1
  have ho256 : o.toNat < 256 := o.toNat_lt
  have hsz : arr.size = 257 := h.size
  rw [hks]
  refine ⟨_, ao', n', c', heap_setCell_same _ q o.toNat _ 128 _ hrow, h.base, by simp [hsz], ?_, ?_, e3, ?_, ?_⟩
  · rw [Array.getElem?_setIfInBounds, if_neg (by omega), Array.getElem?_setIfInBounds, if_pos rfl, if_pos (by omega)]
  · refine World.ownsRow.kept (own_below e2 hbb) (row := some q) ⟨rfl, rfl, rfl, by simp [World.setCell], fun k _ hk => Below.heap_setCell _ _ _ _ (fun e => hk (by simp [e]))⟩ (Or.inr e3)
  · intro b hb
    have hne : b ≠ o := fun e => hb (by simp [e])
    have hne2 : ¬ o.toNat = b.toNat := fun e => hne (UInt8.toNat_inj.1 e).symm
    have hb256 : b.toNat < 256 := b.toNat_lt
    rw [Array.getElem?_setIfInBounds, if_neg hne2, Array.getElem?_setIfInBounds, if_neg (by omega)]
    exact h.left b (fun hd => hb (by simp [hd]))
  · intro b hb
    by_cases hbo : b = o
    · subst hbo
      refine ⟨W.heap.size, cap, ?_, ?_, ?_, by omega, ?_, ?_, ?_⟩
      · rw [Array.getElem?_setIfInBounds, if_pos rfl, if_pos (by simp; omega)]
      · have := hg.size; omega
      · simp [World.setCell, Lib.bytesWorld_size]
      · intro e5
        have := (World.ownsRow.lt e2 _ e5).2
        omega
      · rw [World.cell?_setCell_other _ _ _ _ (by intro e; have := congrArg Addr.block e; simp at this; omega), Lib.bytesWorld_cell _ _ _ 0 (by rw [S_size]; simp), S_data]; rfl
      · rw [World.cell?_setCell_other _ _ _ _ (by intro e; have := congrArg Addr.block e; simp at this; omega), Lib.bytesWorld_cell _ _ _ 1 (by rw [S_size]; simp), S_data]; rfl
    · have hbd : b ∈ done := by simp at hb; exact hb.resolve_right hbo
      obtain ⟨g, c0, h1, h2, h3, h4, h5, h6, h7⟩ := e4 b hbd
      have hne2 : ¬ o.toNat = b.toNat := fun e => hbo (UInt8.toNat_inj.1 e).symm
      have hb256 : b.toNat < 256 := b.toNat_lt
      refine ⟨g, c0, ?_, h2, ?_, h4, h5, ?_, ?_⟩
      · rw [Array.getElem?_setIfInBounds, if_neg hne2, Array.getElem?_setIfInBounds, if_neg (by omega)]; exact h1
      · simp [World.setCell, Lib.bytesWorld_size]; omega
      · rw [World.cell?_setCell_other _ _ _ _ (by intro e; have := congrArg Addr.block e; simp at this; omega), hbb.cell (p := ⟨g, 0, none⟩) h3]; exact h6
      · rw [World.cell?_setCell_other _ _ _ _ (by intro e; have := congrArg Addr.block e; simp at this; omega), hbb.cell (p := ⟨g, 1, none⟩) h3]; exact h7

theorem BSa.below_step {q : Nat} {done : List UInt8} {arr : Array Value} {ao : Option Addr} {n c : Nat} {w0 w w2 : World} (h : BSa w0.heap.size q done arr ao n c w) (hb : Below w0.heap.size w0 w)
    (hg : w.grownBy w2 (Value.slice ao n c).ownBlock) (v' u : Value) (s : ByteArray) (m : Nat) :
    Below w0.heap.size w0 ((Lib.bytesWorld (w2.setCell ⟨q, 256, none⟩ v') 5 s).setCell ⟨q, m, none⟩ u) := by
  have h1 : Below w0.heap.size w0 w2 := hb.grown hg hb.size (own_base h.own)
  have h2 := bel_set h1 ⟨q, 256, none⟩ v' h.base
  exact bel_set (bel_then h2 (Lib.bytesWorld_below _ _ _)) _ _ h.base

theorem str_append {ops : Array Oper} {rest : List Oper} {o : Oper} {a : Act} {Q : Exit → Act → World → Prop} {W : World} (base : Nat) (hgd : o.guard = none) (s x : Operand)
    (ho : o.op = .call { callee := .builtin .append, args := #[s, x], argTypes := #[46, 46] })
    (v : Value) (xs : List (List UInt8)) (y : List UInt8) (hs : a.eval s = v) (n : Nat) (hx : a.eval x = .slice (some ⟨n, 0, none⟩) 1 1) (hn : n = W.heap.size)
    (HO : OwnS W base v xs) (hbase : base ≤ W.heap.size) (hl : xs.length ≤ 1000000)
    (h : ∀ v1 w1, OwnS w1 base v1 (xs ++ [y]) → W.grownBy w1 v.ownBlock → (v1.ownBlock = v.ownBlock ∨ ∃ k, v1.ownBlock = some k ∧ W.heap.size ≤ k) → wpList Tryz.prog ops Q rest (a.put o.dst v1) w1) :
    wpList Tryz.prog ops Q (o :: rest) a (W.alloc (.cells #[.string (S y)] 9)) := by
  subst hn
  obtain ⟨i0, hi, hzz⟩ := Option.map_eq_some_iff.1 infoStr
  simp only [Prod.mk.injEq] at hzz
  obtain ⟨hz0, hz1, hz2⟩ := hzz
  refine wpList_append_own_at (W.alloc (.cells #[.string (S y)] 9)) hgd s x 46 ho base 9 i0 _ 1 16 Tryz.underlying46 hi hz0 hz1 hz2 rfl (by decide) v xs.length (strsCells xs) hs (World.ownsRow.alloc HO _) ⟨W.heap.size, 0, none⟩ 1 1 [.string (S y)] hx rfl
    (fun j u hj => by rcases j with _ | j <;> simp at hj <;> subst hj <;> simp [Addr.add]) (by intro u hu; simp at hu; subst hu; rfl) (by simp only [maxLen]; omega) (by omega) (by simp; omega) ?_
  intro v1 w1 hown hg _ hat
  refine h v1 w1 ?_ (World.grownBy.trans (World.grownBy_alloc W _ _) hg) ?_
  · unfold OwnS strsCells
    rw [List.map_append, List.length_append]
    exact hown
  · rcases hat with e | e
    · exact .inl e
    · exact .inr ⟨_, e, by simp⟩

theorem own_slice {w : World} {base : Nat} {e : TypeId} {size n : Nat} {v : Value} {xs : List Value} (h : w.ownsRow base e size v n xs) : ∃ ao n' c, v = .slice ao n' c := by
  rcases h.2 with ⟨hv, _⟩ | ⟨g, cap, cur, hv, _⟩
  · exact ⟨_, _, _, hv⟩
  · exact ⟨_, _, _, hv⟩

end Go.Proofs.YtepgjaecfoaenaaGreatDoor
