/- A row of bytes that is filled from its beginning on. No program's walk. The state of a byteStringReplacer that is being built, over the memory's changes. No program's walk. strings.Replacer's build at the pairs of Quote: a byteStringReplacer. The walk of byteStringReplacer's Replace: the string with three bytes written as two. Condition: at most 20000 bytes. strings.Replacer's Replace at the pairs of Quote, and the token package's Quote. Condition: none but that a string is no longer than an int can tell. The walk of the token package's Quote. Condition: none but that a string is no longer than an int can tell. -/
import Derived.Test.YtepgjaecfoaenaaGreatDoorBase
import Derived.Lib.UnsafeStr
import Derived.Laws.CopyOwn
import Derived.Test.YtepgjaecfoaenaaGreatDoorOQ
import Derived.Test.YtepgjaecfoaenaaGreatDoorA
import Derived.Lib.ConvBytes
import Derived.Lib.SliceRun
import Derived.Lib.AtoiErrMem
import Derived.Maps.AppendAt
import Derived.Laws.BytesArg
import Derived.Deep.QuietTactic
import Derived.Deep.OwnRows
import Derived.Deep.RegionLaw
import Derived.Lib.Bytealg
namespace Go.Proofs.YtepgjaecfoaenaaGreatDoor
open Go.RowKit
set_option linter.unusedVariables false
set_option linter.unusedSimpArgs false

/-- The cells of a row of N bytes that begins with A. -/
def fill (A : List UInt8) (N : Nat) : List Value := Lib.byteCells A ++ List.replicate (N - A.length) (.int .u8 0)
theorem fill_length (A : List UInt8) (N : Nat) (h : A.length ≤ N) : (fill A N).length = N := by
  simp [fill, Lib.byteCells]; omega
theorem fill_nil (N : Nat) : fill [] N = List.replicate N (.int .u8 0) := by simp [fill, Lib.byteCells]
theorem fill_full (A : List UInt8) : fill A A.length = Lib.byteCells A := by simp [fill]
theorem fill_get (A : List UInt8) (N : Nat) (h : A.length < N) : (fill A N)[A.length]? = some (.int .u8 0) := by
  have hl : (Lib.byteCells A).length = A.length := Lib.byteCells_length A
  unfold fill
  rw [List.getElem?_append_right (by omega), hl, Nat.sub_self, List.getElem?_replicate, if_pos (by omega)]
theorem fill_splice (A bs : List UInt8) (N : Nat) (h : A.length + bs.length ≤ N) : splice (fill A N) A.length (Lib.byteCells bs) = fill (A ++ bs) N := by
  have hl : (Lib.byteCells A).length = A.length := Lib.byteCells_length A
  have hb : (Lib.byteCells bs).length = bs.length := Lib.byteCells_length bs
  have ha : Lib.byteCells (A ++ bs) = Lib.byteCells A ++ Lib.byteCells bs := by simp [Lib.byteCells]
  unfold splice fill
  rw [hb, ha, ← hl, List.take_left, ← List.drop_drop, List.drop_left, List.drop_replicate, List.append_assoc, hl, List.length_append]
  congr 3; omega
theorem fill_set (A : List UInt8) (b : UInt8) (N : Nat) (h : A.length < N) : (fill A N).set A.length (.int .u8 (b.toNat : Int)) = fill (A ++ [b]) N := by
  have hl : (Lib.byteCells A).length = A.length := Lib.byteCells_length A
  have ha : Lib.byteCells (A ++ [b]) = Lib.byteCells A ++ [.int .u8 (b.toNat : Int)] := by simp [Lib.byteCells]
  unfold fill
  rw [List.set_append_right _ _ (by omega), hl, Nat.sub_self, ha, List.append_assoc, List.length_append]
  obtain ⟨m, hm⟩ : ∃ m, N - A.length = m + 1 := ⟨N - A.length - 1, by omega⟩
  rw [hm, List.replicate_succ, List.set_cons_zero, show N - (A.length + [b].length) = m by simp; omega]; rfl

theorem made_fill (N : Nat) : madeCells #[.int .u8 0] N = (fill [] N).toArray := by
  rw [fill_nil]
  apply Array.ext'
  simp [madeCells]
  apply List.ext_getElem
  · simp
  · intro i h1 h2; simp [Nat.mod_one]

end Go.Proofs.YtepgjaecfoaenaaGreatDoor

namespace Go.Proofs.YtepgjaecfoaenaaGreatDoor
open Go.RowKit
set_option linter.unusedVariables false
set_option linter.unusedSimpArgs false


@[go_sem] theorem at_head (a : UInt8) (l : List UInt8) : at_ (a :: l) 0 = a := rfl
/-- A slice of one byte, just made, as a string. -/
theorem conv_one (b : UInt8) (z : Int) (hz : z = (b.toNat : Int)) (W : World) (k : Nat) (hk : k = W.heap.size) :
    (convert 66 9 (.slice (some ⟨k, 0, none⟩) 1 1)).run Tryz.prog (W.alloc (.cells #[.int .u8 z] 5)) = .ok (.string (S [b])) (W.alloc (.cells #[.int .u8 z] 5)) := by
  subst hz; subst hk
  have := run_convert_bytes_arg (P := Tryz.prog) (W.alloc (.cells #[.int .u8 (b.toNat : Int)] 5)) 66 5 Tryz.underlying66 Tryz.underlying5 W.heap.size 0 1 1 [(b.toNat : Int)] rfl (fun i hi => by
    have : i = 0 := by omega
    subst this; simp) 9 Tryz.underlying9
  rw [this]
  simp [S, strOfNums]

/-- A row of bytes as a string. -/
theorem conv_row (w : World) (g n cap : Nat) (l : List UInt8) (hn : n = l.length) (hc : ∀ j, j < l.length → w.cell? ⟨g, j, none⟩ = some (.int .u8 (at_ l j).toNat)) :
    (convert 66 9 (.slice (some ⟨g, 0, none⟩) n cap)).run Tryz.prog w = .ok (.string (S l)) w := by
  subst hn
  have := run_convert_bytes_arg (P := Tryz.prog) w 66 5 Tryz.underlying66 Tryz.underlying5 g 0 l.length cap (l.map fun c => (c.toNat : Int)) (by simp) (fun i hi => by
    rw [Nat.zero_add, hc i hi]; simp [at_, List.getElem?_eq_getElem hi]) 9 Tryz.underlying9
  have hid : (fun n : Int => UInt8.ofNat n.toNat) ∘ (fun c : UInt8 => (c.toNat : Int)) = id := by funext c; simp
  rw [this]
  unfold S strOfNums
  rw [List.map_map, hid, List.map_id]
theorem conv_fill (w : World) (g : Nat) (l : List UInt8) (N : Nat) (hN : N = l.length) (t : TypeId) (hr : w.heap[g]? = some (.cells (fill l N).toArray t (0, 0))) :
    (convert 66 9 (.slice (some ⟨g, 0, none⟩) N N)).run Tryz.prog w = .ok (.string (S l)) w := by
  subst hN
  refine conv_row w g l.length l.length l rfl fun j hj => ?_
  rw [cell_of_row _ _ _ _ _ _ hr, fill_full]
  simp [Lib.byteCells, at_, List.getElem?_eq_getElem hj]

/-- Block q is a byteStringReplacer that replaces these bytes, by two each. -/
structure BSa (B q : Nat) (done : List UInt8) (arr : Array Value) (ao : Option Addr) (n c : Nat) (w : World) : Prop where
  row : w.heap[q]? = some (.cells arr 128 (0, 0))
  base : B ≤ q
  size : arr.size = 257
  last : arr[256]? = some (.slice ao n c)
  own : OwnS w B (.slice ao n c) (done.map fun b => [b])
  apart : (Value.slice ao n c).ownBlock ≠ some q
  left : ∀ b : UInt8, b ∉ done → arr[b.toNat]? = some (.slice none 0 0)
  rows : ∀ b ∈ done, ∃ g c', arr[b.toNat]? = some (.slice (some ⟨g, 0, none⟩) 2 c') ∧ B ≤ g ∧ g < w.heap.size ∧ g ≠ q ∧ (Value.slice ao n c).ownBlock ≠ some g ∧ w.cell? ⟨g, 0, none⟩ = some (.int .u8 92) ∧ w.cell? ⟨g, 1, none⟩ = some (.int .u8 (esc b).toNat)

def BS (B q : Nat) (done : List UInt8) (w : World) : Prop := ∃ arr ao n c, BSa B q done arr ao n c w

theorem BSa.lt {B q : Nat} {done : List UInt8} {arr : Array Value} {ao : Option Addr} {n c : Nat} {w : World} (h : BSa B q done arr ao n c w) : q < w.heap.size :=
  (Array.getElem?_eq_some_iff.1 h.row).1

theorem BSa.below {B q : Nat} {done : List UInt8} {arr : Array Value} {ao : Option Addr} {n c : Nat} {w w' : World} (h : BSa B q done arr ao n c w) (hb : Below w.heap.size w w') : BSa B q done arr ao n c w' where
  row := by rw [hb.block q h.lt]; exact h.row
  base := h.base
  size := h.size
  last := h.last
  own := own_below h.own hb
  apart := h.apart
  left := h.left
  rows := fun b hbd => by
    obtain ⟨g, c', h1, h2, h3, h4, h5, h6, h7⟩ := h.rows b hbd
    exact ⟨g, c', h1, h2, Nat.lt_of_lt_of_le h3 hb.size, h4, h5, by rw [hb.cell (p := ⟨g, 0, none⟩) h3]; exact h6, by rw [hb.cell (p := ⟨g, 1, none⟩) h3]; exact h7⟩

theorem BSa.row2 {B q : Nat} {done : List UInt8} {arr : Array Value} {ao : Option Addr} {n c : Nat} {w w2 : World} (h : BSa B q done arr ao n c w) (hg : w.grownBy w2 (Value.slice ao n c).ownBlock) :
    w2.heap[q]? = some (.cells arr 128 (0, 0)) := by
  rw [hg.block q h.lt (fun e => h.apart e.symm)]; exact h.row
theorem BSa.cells2 {B q : Nat} {done : List UInt8} {arr : Array Value} {ao : Option Addr} {n c : Nat} {w w2 : World} (h : BSa B q done arr ao n c w) (hg : w.grownBy w2 (Value.slice ao n c).ownBlock) (o : UInt8) (ho : o ∉ done) (v' : Value) (s : ByteArray) (m : Nat) (hm : m = o.toNat) :
    w2.cell? ⟨q, 256, none⟩ = some (.slice ao n c) ∧ w2.frozen? ⟨q, 256, none⟩ = false ∧
    (Lib.bytesWorld (w2.setCell ⟨q, 256, none⟩ v') 5 s).cell? ⟨q, m, none⟩ = some (.slice none 0 0) ∧ (Lib.bytesWorld (w2.setCell ⟨q, 256, none⟩ v') 5 s).frozen? ⟨q, m, none⟩ = false := by
  subst hm
  have hr := h.row2 hg
  have hlt : q < (w2.setCell ⟨q, 256, none⟩ v').heap.size := by simp only [World.setCell, Array.size_modify]; exact (Array.getElem?_eq_some_iff.1 hr).1
  have hr2 : (Lib.bytesWorld (w2.setCell ⟨q, 256, none⟩ v') 5 s).heap[q]? = some (.cells (arr.setIfInBounds 256 v') 128 (0, 0)) := by
    rw [(Lib.bytesWorld_below _ 5 s).block q hlt]; exact heap_setCell_same w2 q 256 arr 128 v' hr
  have ho256 : o.toNat < 256 := o.toNat_lt
  refine ⟨by rw [cell_of_row _ _ _ _ _ _ hr]; exact h.last, frozen_of_row _ _ _ _ _ hr, ?_, frozen_of_row _ _ _ _ _ hr2⟩
  rw [cell_of_row _ _ _ _ _ _ hr2, Array.getElem?_setIfInBounds, if_neg (by omega)]
  exact h.left o ho

/-- The list of bytes has one more. -/
theorem BSa.listed {B q : Nat} {done : List UInt8} {arr : Array Value} {ao ao' : Option Addr} {n c n' c' : Nat} {w w2 : World} {o : UInt8} (h : BSa B q done arr ao n c w)
    (hg : w.grownBy w2 (Value.slice ao n c).ownBlock) (hown : OwnS w2 B (.slice ao' n' c') ((done ++ [o]).map fun b => [b]))
    (hat : (Value.slice ao' n' c').ownBlock = (Value.slice ao n c).ownBlock ∨ ∃ k, (Value.slice ao' n' c').ownBlock = some k ∧ w.heap.size ≤ k) :
    let W := w2.setCell ⟨q, 256, none⟩ (.slice ao' n' c')
    W.heap[q]? = some (.cells (arr.setIfInBounds 256 (.slice ao' n' c')) 128 (0, 0)) ∧ OwnS W B (.slice ao' n' c') ((done ++ [o]).map fun b => [b]) ∧
    (Value.slice ao' n' c').ownBlock ≠ some q ∧
    (∀ b ∈ done, ∃ g c0, arr[b.toNat]? = some (.slice (some ⟨g, 0, none⟩) 2 c0) ∧ B ≤ g ∧ g < W.heap.size ∧ g ≠ q ∧ (Value.slice ao' n' c').ownBlock ≠ some g ∧ W.cell? ⟨g, 0, none⟩ = some (.int .u8 92) ∧ W.cell? ⟨g, 1, none⟩ = some (.int .u8 (esc b).toNat)) := by
  intro W
  have hlt := h.lt
  have hrow : w2.heap[q]? = some (.cells arr 128 (0, 0)) := by rw [hg.block q hlt (fun e => h.apart e.symm)]; exact h.row
  have hne : (Value.slice ao' n' c').ownBlock ≠ some q := by
    rcases hat with e | ⟨k, e, hk⟩
    · rw [e]; exact h.apart
    · rw [e]; intro e2; injection e2 with e2; omega
  refine ⟨heap_setCell_same w2 q 256 arr 128 _ hrow, ?_, hne, fun b hb => ?_⟩
  · refine World.ownsRow.kept hown (row := some q) ⟨rfl, rfl, rfl, by simp [W, World.setCell], fun k _ hk => Below.heap_setCell _ _ _ _ (fun e => hk (by simp [e]))⟩ (Or.inr hne)
  · obtain ⟨g, c0, h1, h2, h3, h4, h5, h6, h7⟩ := h.rows b hb
    have hW : W.heap[g]? = w.heap[g]? := by
      rw [heap_setCell_other _ _ _ _ h4, hg.block g h3 (fun e => h5 e.symm)]
    have hc : ∀ j, W.cell? ⟨g, j, none⟩ = w.cell? ⟨g, j, none⟩ := fun j => World.cell?_of_block hW
    refine ⟨g, c0, h1, h2, by simp [W, World.setCell]; exact Nat.lt_of_lt_of_le h3 hg.size, h4, ?_, by rw [hc]; exact h6, by rw [hc]; exact h7⟩
    rcases hat with e | ⟨k, e, hk⟩
    · rw [e]; exact h5
    · rw [e]; intro e2; injection e2 with e2; omega

/-- .. and one more row of two bytes. -/
theorem BSa.step {B q : Nat} {done : List UInt8} {arr : Array Value} {ao ao' : Option Addr} {n c n' c' : Nat} {w w2 : World} {o : UInt8} (h : BSa B q done arr ao n c w) (ho : o ∉ done)
    (hg : w.grownBy w2 (Value.slice ao n c).ownBlock) (hown : OwnS w2 B (.slice ao' n' c') ((done ++ [o]).map fun b => [b]))
    (hat : (Value.slice ao' n' c').ownBlock = (Value.slice ao n c).ownBlock ∨ ∃ k, (Value.slice ao' n' c').ownBlock = some k ∧ w.heap.size ≤ k) (k cap m : Nat) (hm : m = o.toNat) (hk : k = w2.heap.size) (hB : B ≤ w.heap.size) :
    BS B q (done ++ [o]) ((Lib.bytesWorld (w2.setCell ⟨q, 256, none⟩ (.slice ao' n' c')) 5 (S [92, esc o])).setCell ⟨q, m, none⟩ (.slice (some ⟨k, 0, none⟩) 2 cap)) := by
  subst hk; subst hm
  obtain ⟨e1, e2, e3, e4⟩ := h.listed hg hown hat
  generalize hW : w2.setCell ⟨q, 256, none⟩ (.slice ao' n' c') = W at *
  have hlt : q < W.heap.size := (Array.getElem?_eq_some_iff.1 e1).1
  have hks : w2.heap.size = W.heap.size := by rw [← hW]; simp [World.setCell]
  have hbb := Lib.bytesWorld_below W 5 (S [92, esc o])
  have hrow : (Lib.bytesWorld W 5 (S [92, esc o])).heap[q]? = some (.cells (arr.setIfInBounds 256 (.slice ao' n' c')) 128 (0, 0)) := by rw [hbb.block q hlt]; exact e1
  have ho256 : o.toNat < 256 := o.toNat_lt
  have hsz : arr.size = 257 := h.size
  rw [hks]
  refine ⟨_, ao', n', c', heap_setCell_same _ q o.toNat _ 128 _ hrow, h.base, by simp [hsz], ?_, ?_, e3, ?_, ?_⟩
  · rw [Array.getElem?_setIfInBounds, if_neg (by omega), Array.getElem?_setIfInBounds, if_pos rfl, if_pos (by omega)]
  · refine World.ownsRow.kept (own_below e2 hbb) (row := some q) ⟨rfl, rfl, rfl, by simp [World.setCell], fun k _ hk => Below.heap_setCell _ _ _ _ (fun e => hk (by simp [e]))⟩ (Or.inr e3)
  · intro b hb
    have hne : b ≠ o := fun e => hb (by simp [e])
    have hne2 : ¬ o.toNat = b.toNat := fun e => hne (UInt8.toNat_inj.1 e).symm
    have hb256 : b.toNat < 256 := b.toNat_lt
    rw [Array.getElem?_setIfInBounds, if_neg hne2, Array.getElem?_setIfInBounds, if_neg (by omega)]
    exact h.left b (fun hd => hb (by simp [hd]))
  · intro b hb
    by_cases hbo : b = o
    · subst hbo
      refine ⟨W.heap.size, cap, ?_, ?_, ?_, by omega, ?_, ?_, ?_⟩
      · rw [Array.getElem?_setIfInBounds, if_pos rfl, if_pos (by simp; omega)]
      · have := hg.size; omega
      · simp [World.setCell, Lib.bytesWorld_size]
      · intro e5
        have := (World.ownsRow.lt e2 _ e5).2
        omega
      · rw [World.cell?_setCell_other _ _ _ _ (by intro e; have := congrArg Addr.block e; simp at this; omega), Lib.bytesWorld_cell _ _ _ 0 (by rw [S_size]; simp), S_data]; rfl
      · rw [World.cell?_setCell_other _ _ _ _ (by intro e; have := congrArg Addr.block e; simp at this; omega), Lib.bytesWorld_cell _ _ _ 1 (by rw [S_size]; simp), S_data]; rfl
    · have hbd : b ∈ done := by simp at hb; exact hb.resolve_right hbo
      obtain ⟨g, c0, h1, h2, h3, h4, h5, h6, h7⟩ := e4 b hbd
      have hne2 : ¬ o.toNat = b.toNat := fun e => hbo (UInt8.toNat_inj.1 e).symm
      have hb256 : b.toNat < 256 := b.toNat_lt
      refine ⟨g, c0, ?_, h2, ?_, h4, h5, ?_, ?_⟩
      · rw [Array.getElem?_setIfInBounds, if_neg hne2, Array.getElem?_setIfInBounds, if_neg (by omega)]; exact h1
      · simp [World.setCell, Lib.bytesWorld_size]; omega
      · rw [World.cell?_setCell_other _ _ _ _ (by intro e; have := congrArg Addr.block e; simp at this; omega), hbb.cell (p := ⟨g, 0, none⟩) h3]; exact h6
      · rw [World.cell?_setCell_other _ _ _ _ (by intro e; have := congrArg Addr.block e; simp at this; omega), hbb.cell (p := ⟨g, 1, none⟩) h3]; exact h7

theorem BSa.below_step {q : Nat} {done : List UInt8} {arr : Array Value} {ao : Option Addr} {n c : Nat} {w0 w w2 : World} (h : BSa w0.heap.size q done arr ao n c w) (hb : Below w0.heap.size w0 w)
    (hg : w.grownBy w2 (Value.slice ao n c).ownBlock) (v' u : Value) (s : ByteArray) (m : Nat) :
    Below w0.heap.size w0 ((Lib.bytesWorld (w2.setCell ⟨q, 256, none⟩ v') 5 s).setCell ⟨q, m, none⟩ u) := by
  have h1 : Below w0.heap.size w0 w2 := hb.grown hg hb.size (own_base h.own)
  have h2 := bel_set h1 ⟨q, 256, none⟩ v' h.base
  exact bel_set (bel_then h2 (Lib.bytesWorld_below _ _ _)) _ _ h.base

theorem str_append {ops : Array Oper} {rest : List Oper} {o : Oper} {a : Act} {Q : Exit → Act → World → Prop} {W : World} (base : Nat) (hgd : o.guard = none) (s x : Operand)
    (ho : o.op = .call { callee := .builtin .append, args := #[s, x], argTypes := #[46, 46] })
    (v : Value) (xs : List (List UInt8)) (y : List UInt8) (hs : a.eval s = v) (n : Nat) (hx : a.eval x = .slice (some ⟨n, 0, none⟩) 1 1) (hn : n = W.heap.size)
    (HO : OwnS W base v xs) (hbase : base ≤ W.heap.size) (hl : xs.length ≤ 1000000)
    (h : ∀ v1 w1, OwnS w1 base v1 (xs ++ [y]) → W.grownBy w1 v.ownBlock → (v1.ownBlock = v.ownBlock ∨ ∃ k, v1.ownBlock = some k ∧ W.heap.size ≤ k) → wpList Tryz.prog ops Q rest (a.put o.dst v1) w1) :
    wpList Tryz.prog ops Q (o :: rest) a (W.alloc (.cells #[.string (S y)] 9)) := by
  subst hn
  obtain ⟨i0, hi, hzz⟩ := Option.map_eq_some_iff.1 infoStr
  simp only [Prod.mk.injEq] at hzz
  obtain ⟨hz0, hz1, hz2⟩ := hzz
  refine wpList_append_own_at (W.alloc (.cells #[.string (S y)] 9)) hgd s x 46 ho base 9 i0 _ 1 16 Tryz.underlying46 hi hz0 hz1 hz2 rfl (by decide) v xs.length (strsCells xs) hs (World.ownsRow.alloc HO _) ⟨W.heap.size, 0, none⟩ 1 1 [.string (S y)] hx rfl
    (fun j u hj => by rcases j with _ | j <;> simp at hj <;> subst hj <;> simp [Addr.add]) (by intro u hu; simp at hu; subst hu; rfl) (by simp only [maxLen]; omega) (by omega) (by simp; omega) ?_
  intro v1 w1 hown hg _ hat
  refine h v1 w1 ?_ (World.grownBy.trans (World.grownBy_alloc W _ _) hg) ?_
  · unfold OwnS strsCells
    rw [List.map_append, List.length_append]
    exact hown
  · rcases hat with e | e
    · exact .inl e
    · exact .inr ⟨_, e, by simp⟩

theorem own_slice {w : World} {base : Nat} {e : TypeId} {size n : Nat} {v : Value} {xs : List Value} (h : w.ownsRow base e size v n xs) : ∃ ao n' c, v = .slice ao n' c := by
  rcases h.2 with ⟨hv, _⟩ | ⟨g, cap, cur, hv, _⟩
  · exact ⟨_, _, _, hv⟩
  · exact ⟨_, _, _, hv⟩

end Go.Proofs.YtepgjaecfoaenaaGreatDoor

namespace Go.Proofs.YtepgjaecfoaenaaGreatDoor
open Go.RowKit
set_option linter.unusedVariables false
set_option linter.unusedSimpArgs false

@[go_sem high] theorem make3 (w : World) : (Instr.makeSlice 46 (.int .i64 0) (.int .i64 3)).run Tryz.prog w = .ok (.slice (some ⟨w.heap.size, 0, none⟩) 0 3) (w.alloc (.cells #[.string ⟨#[]⟩, .string ⟨#[]⟩, .string ⟨#[]⟩] 9)) := by kernel_rfl
@[go_sem high] theorem eql_bytes_nil (w : World) (a : Option Addr) (n c : Nat) : (binOp .eql 66 (.slice a n c) (.slice none 0 0)).run Tryz.prog w = .ok (.bool a.isNone) w := Lib.run_eql_slice_nil w 66 5 a n c 0 0 Tryz.underlying66
@[go_sem high] theorem conv_str_bytes (w : World) (l : List UInt8) : (convert 9 66 (.string (S l))).run Tryz.prog w = .ok (.slice (some ⟨w.heap.size, 0, none⟩) l.length (grownCap w l.length 0 5)) (Lib.bytesWorld w 5 (S l)) := by
  rw [Lib.run_convert_string_bytes w 9 66 5 (S l) Tryz.underlying9 Tryz.underlying66 Tryz.underlying5, S_size]

def quoteL : List (List UInt8) := [[10], [92, 110], [34], [92, 34], [92], [92, 92]]
def doneL : Nat → List UInt8
  | 0 => [] | 1 => [92] | 2 => [92, 34] | _ => [92, 34, 10]

set_option maxRecDepth 100000 in
set_option maxHeartbeats 2000000 in
theorem build_quote (R g c : Nat) (w : World) (hR : R < w.heap.size) (hg : g < w.heap.size)
    (hold : w.cell? ⟨R, 4, none⟩ = some (.slice (some ⟨g, 0, none⟩) 6 c))
    (c0 : w.cell? ⟨g, 0, none⟩ = some (.string (S [10]))) (c1 : w.cell? ⟨g, 1, none⟩ = some (.string (S [92, 110])))
    (c2 : w.cell? ⟨g, 2, none⟩ = some (.string (S [34]))) (c3 : w.cell? ⟨g, 3, none⟩ = some (.string (S [92, 34])))
    (c4 : w.cell? ⟨g, 4, none⟩ = some (.string (S [92]))) (c5 : w.cell? ⟨g, 5, none⟩ = some (.string (S [92, 92]))) :
    Calls Tryz.prog 75 #[.pointer (some ⟨R, 0, none⟩)] w (fun e w' => ∃ q, e = .returned (.iface 129 (.pointer (some ⟨q, 0, none⟩))) ∧ BS w.heap.size q [92, 34, 10] w' ∧ Below w.heap.size w w') := by
  go_enter Tryz.func75, Tryz.ntmps75
  go_wp2
  refine wp_loop_rounds 4 ?_
  rw [rounds_succ]; go_wp2
  rw [rounds_succ]; go_wp2
  rw [rounds_succ]; go_wp2
  rw [rounds_succ]; go_wp2_with (with_reducible refine stop_store 128 fun hgoal => ?_)
  refine hgoal (wpList_store_whole rfl 128 (.tmp 11) (.tmp 95) rfl (w.heap.size + 1) _ rfl rfl 128 Tryz.zeroCells128 ?_ ?_ ?_ ?_ ?_)
  · exact heap_alloc2_new _ _ _
  · rw [zeroCells_bsr, rowZ_set, rowZ_size]; exact sizeBsr
  · rw [zeroCells_bsr, rowZ_set, rowZ_size, rowZ_size]
  · rw [zeroCells_bsr, rowZ_set]; exact rowZ_all _ _ _
  rw [zeroCells_bsr, rowZ_set]
  intro w1 hq hb1 hs1
  clear hgoal
  have hb0 : Below (w.heap.size + 1) (w.alloc (.cells #[.string ⟨#[]⟩, .string ⟨#[]⟩, .string ⟨#[]⟩] 9)) w1 := ((Below.refl _ _).alloc (by simp) _).trans hb1
  have hw1 : Below w.heap.size w w1 := (bel_alloc (Below.refl _ _) _).trans (hb0.mono (by omega))
  have hBS : BS w.heap.size (w.heap.size + 1) [] w1 := by
    refine ⟨_, some ⟨w.heap.size, 0, none⟩, 0, 3, hq, by omega, rowZ_size _, rowZ_last _, ?_, by simp [Value.ownBlock], fun b _ => rowZ_at _ _ b.toNat_lt, fun b hb => by simp at hb⟩
    refine ⟨rfl, .inr ⟨w.heap.size, 3, #[.string ⟨#[]⟩, .string ⟨#[]⟩, .string ⟨#[]⟩], rfl, Nat.le_refl _, ?_, by simp, by simp [maxLen], rfl, rfl⟩⟩
    rw [hb0.block _ (by omega)]
    exact heap_alloc_new _ _
  clear hb0 hb1 hq hs1
  go_wp2
  go_loopw [12] (fun i wr => ∃ k : Nat, k ≤ 3 ∧ i = .int .i64 (4 - 2 * (k : Int)) ∧ BS w.heap.size (w.heap.size + 1) (doneL k) wr ∧ Below w.heap.size w wr) (fun i _ => (intOf i + 2).toNat)
  case atStart => exact ⟨0, by omega, rfl, hBS, hw1⟩
  case round =>
    clear hw1 hBS
    obtain ⟨k, hk, rfl, ⟨arr, ao, n, c', hS⟩, hb⟩ := hrel
    rcases (show k = 0 ∨ k = 1 ∨ k = 2 ∨ k = 3 by omega) with rfl | rfl | rfl | rfl
    · have d4 : wr.cell? ⟨g, 4, none⟩ = some (.string (S [92])) := by rw [hb.cell (p := ⟨g, 4, none⟩) hg]; exact c4
      have d5 : wr.cell? ⟨g, 5, none⟩ = some (.string (S [92, 92])) := by rw [hb.cell (p := ⟨g, 5, none⟩) hg]; exact c5
      have q1 : wr.cell? ⟨w.heap.size + 1, 92, none⟩ = some (.slice none 0 0) := by rw [cell_of_row _ _ _ _ _ _ hS.row]; exact hS.left 92 (by decide)
      have q2 : wr.cell? ⟨w.heap.size + 1, 256, none⟩ = some (.slice ao n c') := by rw [cell_of_row _ _ _ _ _ _ hS.row]; exact hS.last
      have f1 : wr.frozen? ⟨w.heap.size + 1, 92, none⟩ = false := frozen_of_row _ _ _ _ _ hS.row
      have f2 : wr.frozen? ⟨w.heap.size + 1, 256, none⟩ = false := frozen_of_row _ _ _ _ _ hS.row
      have hcv := conv_one 92 92 rfl wr wr.heap.size rfl
      have hbw := hb.size
      have hS1 := hS.below (w' := wr.alloc (.cells #[.int .u8 92] 5)) ((Below.refl _ _).alloc (Nat.le_refl _) _)
      have hb1 := bel_alloc hb (.cells #[.int .u8 92] 5)
      clear hS
      go_wp2_with (at_builtin; refine str_append w.heap.size rfl (.tmp 119) (.tmp 123) rfl (.slice ao n c') [] [92] rfl (wr.heap.size + 1) rfl (by simp) hS1.own (by simp; omega) (by decide) ?_; intro v1 w2 hown2 hg2 hat2; obtain ⟨ao', n', c'', rfl⟩ := own_slice hown2; obtain ⟨x1, x2, x3, x4⟩ := hS1.cells2 hg2 92 (by decide) (.slice ao' n' c'') (S [92, 92]) 92 rfl; have HO := Lib.hid hown2; have HG := Lib.hid hg2; have HA := Lib.hid hat2; clear hown2 hg2 hat2)
      go_roundw
      case rel =>
        refine ⟨1, by omega, rfl, ?_, ?_⟩
        · exact hS1.step (o := 92) (by decide) HG.out HO.out HA.out _ _ _ rfl (by simp) (by simp; omega)
        · exact hS1.below_step hb1 HG.out _ _ _ _
      case measure => decide
    · have d4 : wr.cell? ⟨g, 2, none⟩ = some (.string (S [34])) := by rw [hb.cell (p := ⟨g, 2, none⟩) hg]; exact c2
      have d5 : wr.cell? ⟨g, 3, none⟩ = some (.string (S [92, 34])) := by rw [hb.cell (p := ⟨g, 3, none⟩) hg]; exact c3
      have q1 : wr.cell? ⟨w.heap.size + 1, 34, none⟩ = some (.slice none 0 0) := by rw [cell_of_row _ _ _ _ _ _ hS.row]; exact hS.left 34 (by decide)
      have q2 : wr.cell? ⟨w.heap.size + 1, 256, none⟩ = some (.slice ao n c') := by rw [cell_of_row _ _ _ _ _ _ hS.row]; exact hS.last
      have f1 : wr.frozen? ⟨w.heap.size + 1, 34, none⟩ = false := frozen_of_row _ _ _ _ _ hS.row
      have f2 : wr.frozen? ⟨w.heap.size + 1, 256, none⟩ = false := frozen_of_row _ _ _ _ _ hS.row
      have hcv := conv_one 34 34 rfl wr wr.heap.size rfl
      have hbw := hb.size
      have hS1 := hS.below (w' := wr.alloc (.cells #[.int .u8 34] 5)) ((Below.refl _ _).alloc (Nat.le_refl _) _)
      have hb1 := bel_alloc hb (.cells #[.int .u8 34] 5)
      clear hS
      go_wp2_with (at_builtin; refine str_append w.heap.size rfl (.tmp 119) (.tmp 123) rfl (.slice ao n c') [[92]] [34] rfl (wr.heap.size + 1) rfl (by simp) hS1.own (by simp; omega) (by decide) ?_; intro v1 w2 hown2 hg2 hat2; obtain ⟨ao', n', c'', rfl⟩ := own_slice hown2; obtain ⟨x1, x2, x3, x4⟩ := hS1.cells2 hg2 34 (by decide) (.slice ao' n' c'') (S [92, 34]) 34 rfl; have HO := Lib.hid hown2; have HG := Lib.hid hg2; have HA := Lib.hid hat2; clear hown2 hg2 hat2)
      go_roundw
      case rel =>
        refine ⟨2, by omega, rfl, ?_, ?_⟩
        · exact hS1.step (o := 34) (by decide) HG.out HO.out HA.out _ _ _ rfl (by simp) (by simp; omega)
        · exact hS1.below_step hb1 HG.out _ _ _ _
      case measure => decide
    · have d4 : wr.cell? ⟨g, 0, none⟩ = some (.string (S [10])) := by rw [hb.cell (p := ⟨g, 0, none⟩) hg]; exact c0
      have d5 : wr.cell? ⟨g, 1, none⟩ = some (.string (S [92, 110])) := by rw [hb.cell (p := ⟨g, 1, none⟩) hg]; exact c1
      have q1 : wr.cell? ⟨w.heap.size + 1, 10, none⟩ = some (.slice none 0 0) := by rw [cell_of_row _ _ _ _ _ _ hS.row]; exact hS.left 10 (by decide)
      have q2 : wr.cell? ⟨w.heap.size + 1, 256, none⟩ = some (.slice ao n c') := by rw [cell_of_row _ _ _ _ _ _ hS.row]; exact hS.last
      have f1 : wr.frozen? ⟨w.heap.size + 1, 10, none⟩ = false := frozen_of_row _ _ _ _ _ hS.row
      have f2 : wr.frozen? ⟨w.heap.size + 1, 256, none⟩ = false := frozen_of_row _ _ _ _ _ hS.row
      have hcv := conv_one 10 10 rfl wr wr.heap.size rfl
      have hbw := hb.size
      have hS1 := hS.below (w' := wr.alloc (.cells #[.int .u8 10] 5)) ((Below.refl _ _).alloc (Nat.le_refl _) _)
      have hb1 := bel_alloc hb (.cells #[.int .u8 10] 5)
      clear hS
      go_wp2_with (at_builtin; refine str_append w.heap.size rfl (.tmp 119) (.tmp 123) rfl (.slice ao n c') [[92], [34]] [10] rfl (wr.heap.size + 1) rfl (by simp) hS1.own (by simp; omega) (by decide) ?_; intro v1 w2 hown2 hg2 hat2; obtain ⟨ao', n', c'', rfl⟩ := own_slice hown2; obtain ⟨x1, x2, x3, x4⟩ := hS1.cells2 hg2 10 (by decide) (.slice ao' n' c'') (S [92, 110]) 10 rfl; have HO := Lib.hid hown2; have HG := Lib.hid hg2; have HA := Lib.hid hat2; clear hown2 hg2 hat2)
      go_roundw
      case rel =>
        refine ⟨3, by omega, rfl, ?_, ?_⟩
        · exact hS1.step (o := 10) (by decide) HG.out HO.out HA.out _ _ _ rfl (by simp) (by simp; omega)
        · exact hS1.below_step hb1 HG.out _ _ _ _
      case measure => decide
    · go_wp2
      go_ret
      exact ⟨_, rfl, ⟨arr, ao, n, c', hS⟩, hb⟩

end Go.Proofs.YtepgjaecfoaenaaGreatDoor

namespace Go.Proofs.YtepgjaecfoaenaaGreatDoor
open Go.RowKit
set_option linter.unusedVariables false
set_option linter.unusedSimpArgs false

theorem count_calls (l : List UInt8) (c : UInt8) (w : World) :
    Calls Tryz.prog 174 #[.string (S l), .string (S [c])] w fun e w' => e = .returned (.int .i64 (l.count c : Nat)) ∧ w = w' :=
  (Tryz.strings_Count_one (S l) c w).mono fun e w' ⟨h1, h2⟩ => ⟨by rw [h1, S_data]; rfl, h2.symm⟩

theorem own_cells {w : World} {B : Nat} {v : Value} {xs : List (List UInt8)} (h : OwnS w B v xs) (h0 : 0 < xs.length) :
    ∃ g c, v = .slice (some ⟨g, 0, none⟩) xs.length c ∧ g < w.heap.size ∧ ∀ k, k < xs.length → w.cell? ⟨g, k, none⟩ = some (.string (S (strAt xs k))) := by
  rcases h.2 with ⟨_, hz⟩ | ⟨g, cap, cur, rfl, hb, hh, _⟩
  · omega
  · refine ⟨g, cap, rfl, (Array.getElem?_eq_some_iff.1 hh).1, fun k hk => ?_⟩
    have ha : (⟨g, 0, none⟩ : Addr).add k = ⟨g, k, none⟩ := by unfold Addr.add; split <;> simp_all
    rw [← ha]
    refine World.ownsRow.cells h (g := g) rfl k _ ?_
    simp [strsCells, strAt, List.getElem?_eq_getElem hk]

set_option maxRecDepth 100000 in
set_option maxHeartbeats 2000000 in
theorem bsr_Replace (B q : Nat) (l : List UInt8) (w : World) (hS : BS B q [92, 34, 10] w) (hl : l.length ≤ 20000) :
    Calls Tryz.prog 172 #[.pointer (some ⟨q, 0, none⟩), .string (S l)] w fun e w' => e = .returned (.string (S (escL l))) ∧ Below w.heap.size w w' := by
  obtain ⟨arr, ao, n, c, hS⟩ := hS
  have hqlt := hS.lt
  obtain ⟨gs, cs, hv, hgs, hstr⟩ := own_cells hS.own (by decide)
  have e256 : w.cell? ⟨q, 256, none⟩ = some (.slice (some ⟨gs, 0, none⟩) 3 cs) := by rw [cell_of_row _ _ _ _ _ _ hS.row, hS.last, hv]; rfl
  have hrep : ∀ b : UInt8, isE b = true → ∃ g c', w.cell? ⟨q, b.toNat, none⟩ = some (.slice (some ⟨g, 0, none⟩) 2 c') ∧ g < w.heap.size ∧ w.cell? ⟨g, 0, none⟩ = some (.int .u8 92) ∧ w.cell? ⟨g, 1, none⟩ = some (.int .u8 (esc b).toNat) := by
    intro b hb
    obtain ⟨g, c', h1, h2, h3, h4, h5, h6, h7⟩ := hS.rows b (by simp [isE] at hb ⊢; rcases hb with (h | h) | h <;> simp [h])
    exact ⟨g, c', by rw [cell_of_row _ _ _ _ _ _ hS.row]; exact h1, h3, h6, h7⟩
  have hnil : ∀ b : UInt8, isE b = false → w.cell? ⟨q, b.toNat, none⟩ = some (.slice none 0 0) := by
    intro b hb
    rw [cell_of_row _ _ _ _ _ _ hS.row]; exact hS.left b (by simp [isE] at hb ⊢; exact ⟨hb.2, hb.1.2, hb.1.1⟩)
  clear hv hS
  have HREP := Lib.hid hrep; have HNIL := Lib.hid hnil; have HSTR := Lib.hid hstr; have E256 := Lib.hid e256
  clear hrep hnil hstr e256
  by_cases hlong : 24 ≤ l.length
  · have e256 := E256.out
    have hlb : decide (24 ≤ (l.length : Int)) = true := by simp; omega
    go_enter Tryz.func172, Tryz.ntmps172
    go_wp2
    clear e256
    go_loopw [5, 6, 32] (fun ns any i wr => ∃ (k : Nat) (x : Int) (b : Bool), k ≤ 3 ∧ i = .int .i64 k ∧ ns = .int .i64 x ∧ any = .bool b ∧ Hid (x = (l.length + cntTo l k : Nat)) ∧ 0 ≤ x ∧ x ≤ 40000 ∧ Hid (b = decide (cntTo l k ≠ 0)) ∧ Below w.heap.size w wr) (fun _ _ i _ => 3 - (intOf i).toNat)
    case atStart => exact ⟨0, _, _, by omega, rfl, rfl, rfl, Lib.hid (by simp [cntTo]), by omega, by omega, Lib.hid (by simp [cntTo]), Below.refl _ _⟩
    case round =>
      obtain ⟨k, x, bb, hk, rfl, rfl, rfl, hx, hx0, hx1, hbb, hb⟩ := hrel
      rcases (show k = 0 ∨ k = 1 ∨ k = 2 ∨ k = 3 by omega) with rfl | rfl | rfl | rfl
      · have s0 : wr.cell? ⟨gs, 0, none⟩ = some (.string (S [92])) := by rw [hb.cell (p := ⟨gs, 0, none⟩) hgs]; exact HSTR.out 0 (by decide)
        obtain ⟨g, c', r1, r2, r3, r4⟩ := HREP.out 92 (by decide)
        have q1 : wr.cell? ⟨q, 92, none⟩ = some (.slice (some ⟨g, 0, none⟩) 2 c') := by rw [hb.cell (p := ⟨q, 92, none⟩) hqlt]; exact r1
        have hstep : cntTo l 1 = cntTo l 0 + l.count 92 := by simp [cntTo]
        have hcl := count_le_cntE l 1
        have hco : l.count 92 ≤ 20000 := by omega
        have HX := Lib.hid hstep; clear hstep
        by_cases hz : l.count 92 = 0
        · have hzb : ((l.count 92 : Int) != 0) = false := by simp [hz]
          have HZ := Lib.hid hz; clear hz
          go_wp2_with (go_at_call 174; refine (count_calls l 92 _).mono ?_; rintro e w' ⟨rfl, rfl⟩)
          go_roundw
          case rel => exact ⟨1, x, bb, by omega, rfl, rfl, rfl, Lib.hid (by rw [hx.out, HX.out, HZ.out]; rfl), hx0, hx1, Lib.hid (by rw [hbb.out, HX.out, HZ.out]; rfl), hb⟩
          case measure => decide
        · have hzb : ((l.count 92 : Int) != 0) = true := by simpa using hz
          have HZ := Lib.hid hz; clear hz
          go_wp2_with (go_at_call 174; refine (count_calls l 92 _).mono ?_; rintro e w' ⟨rfl, rfl⟩)
          go_quiet (fail)
          go_wp2
          go_roundw
          case rel => 
            refine ⟨1, _, _, by omega, rfl, rfl, rfl, Lib.hid ?_, ?_, ?_, Lib.hid ?_, bel_drewN hb _⟩
            · have h1 := hx.out; have h2 := HX.out; first | omega | (simp only [wrap64]; omega)
            · have h1 := hx.out; have h2 := HX.out; first | omega | (simp only [wrap64]; omega)
            · have h1 := hx.out; have h2 := HX.out; first | omega | (simp only [wrap64]; omega)
            · have h2 := HX.out; have h3 := HZ.out; symm; rw [decide_eq_true_iff]; omega
          case measure => decide
      · have s0 : wr.cell? ⟨gs, 1, none⟩ = some (.string (S [34])) := by rw [hb.cell (p := ⟨gs, 1, none⟩) hgs]; exact HSTR.out 1 (by decide)
        obtain ⟨g, c', r1, r2, r3, r4⟩ := HREP.out 34 (by decide)
        have q1 : wr.cell? ⟨q, 34, none⟩ = some (.slice (some ⟨g, 0, none⟩) 2 c') := by rw [hb.cell (p := ⟨q, 34, none⟩) hqlt]; exact r1
        have hstep : cntTo l 2 = cntTo l 1 + l.count 34 := by simp [cntTo]
        have hcl := count_le_cntE l 2
        have hco : l.count 34 ≤ 20000 := by omega
        have HX := Lib.hid hstep; clear hstep
        by_cases hz : l.count 34 = 0
        · have hzb : ((l.count 34 : Int) != 0) = false := by simp [hz]
          have HZ := Lib.hid hz; clear hz
          go_wp2_with (go_at_call 174; refine (count_calls l 34 _).mono ?_; rintro e w' ⟨rfl, rfl⟩)
          go_roundw
          case rel => exact ⟨2, x, bb, by omega, rfl, rfl, rfl, Lib.hid (by rw [hx.out, HX.out, HZ.out]; rfl), hx0, hx1, Lib.hid (by rw [hbb.out, HX.out, HZ.out]; rfl), hb⟩
          case measure => decide
        · have hzb : ((l.count 34 : Int) != 0) = true := by simpa using hz
          have HZ := Lib.hid hz; clear hz
          go_wp2_with (go_at_call 174; refine (count_calls l 34 _).mono ?_; rintro e w' ⟨rfl, rfl⟩)
          go_quiet (fail)
          go_wp2
          go_roundw
          case rel => 
            refine ⟨2, _, _, by omega, rfl, rfl, rfl, Lib.hid ?_, ?_, ?_, Lib.hid ?_, bel_drewN hb _⟩
            · have h1 := hx.out; have h2 := HX.out; first | omega | (simp only [wrap64]; omega)
            · have h1 := hx.out; have h2 := HX.out; first | omega | (simp only [wrap64]; omega)
            · have h1 := hx.out; have h2 := HX.out; first | omega | (simp only [wrap64]; omega)
            · have h2 := HX.out; have h3 := HZ.out; symm; rw [decide_eq_true_iff]; omega
          case measure => decide
      · have s0 : wr.cell? ⟨gs, 2, none⟩ = some (.string (S [10])) := by rw [hb.cell (p := ⟨gs, 2, none⟩) hgs]; exact HSTR.out 2 (by decide)
        obtain ⟨g, c', r1, r2, r3, r4⟩ := HREP.out 10 (by decide)
        have q1 : wr.cell? ⟨q, 10, none⟩ = some (.slice (some ⟨g, 0, none⟩) 2 c') := by rw [hb.cell (p := ⟨q, 10, none⟩) hqlt]; exact r1
        have hstep : cntTo l 3 = cntTo l 2 + l.count 10 := by simp [cntTo]
        have hcl := count_le_cntE l 3
        have hco : l.count 10 ≤ 20000 := by omega
        have HX := Lib.hid hstep; clear hstep
        by_cases hz : l.count 10 = 0
        · have hzb : ((l.count 10 : Int) != 0) = false := by simp [hz]
          have HZ := Lib.hid hz; clear hz
          go_wp2_with (go_at_call 174; refine (count_calls l 10 _).mono ?_; rintro e w' ⟨rfl, rfl⟩)
          go_roundw
          case rel => exact ⟨3, x, bb, by omega, rfl, rfl, rfl, Lib.hid (by rw [hx.out, HX.out, HZ.out]; rfl), hx0, hx1, Lib.hid (by rw [hbb.out, HX.out, HZ.out]; rfl), hb⟩
          case measure => decide
        · have hzb : ((l.count 10 : Int) != 0) = true := by simpa using hz
          have HZ := Lib.hid hz; clear hz
          go_wp2_with (go_at_call 174; refine (count_calls l 10 _).mono ?_; rintro e w' ⟨rfl, rfl⟩)
          go_quiet (fail)
          go_wp2
          go_roundw
          case rel => 
            refine ⟨3, _, _, by omega, rfl, rfl, rfl, Lib.hid ?_, ?_, ?_, Lib.hid ?_, bel_drewN hb _⟩
            · have h1 := hx.out; have h2 := HX.out; first | omega | (simp only [wrap64]; omega)
            · have h1 := hx.out; have h2 := HX.out; first | omega | (simp only [wrap64]; omega)
            · have h1 := hx.out; have h2 := HX.out; first | omega | (simp only [wrap64]; omega)
            · have h2 := HX.out; have h3 := HZ.out; symm; rw [decide_eq_true_iff]; omega
          case measure => decide
      · have h3 := cntTo_all l
        rw [h3] at hx hbb
        rw [show ((3 : Nat) : Int) = 3 from rfl]
        by_cases hz0 : cntE l = 0
        · obtain rfl : bb = false := by rw [hbb.out]; simp [hz0]
          have he := Lib.hid (escL_none l hz0); clear hz0
          go_wp2
          go_ret
          exact ⟨by rw [he.out]; rfl, hb⟩
        · obtain rfl : bb = true := by rw [hbb.out]; simp [hz0]
          clear hz0 hbb
          obtain ⟨N, hN⟩ : ∃ N, N = (escL l).length := ⟨_, rfl⟩
          have hNl : N = l.length + cntE l := by rw [hN, escL_length]
          have hcl := cntE_le l
          obtain rfl : x = (N : Int) := by rw [hx.out, hNl]
          have HN := Lib.hid hN
          have hN4 : N ≤ 40000 := by omega
          clear hN hNl hx hx0 hx1
          have hmk := run_make_row' (P := Tryz.prog) 66 5 (.int .u8 0) 1 Tryz.underlying66 infoByte rfl .i64 .i64 N (by omega) (by omega)
          go_wp2
          clear hmk
          have hb2 := bel_alloc hb (.cells (madeCells #[.int .u8 0] N) 5)
          have hrow : (wr.alloc (.cells (madeCells #[.int .u8 0] N) 5)).heap[wr.heap.size]? = some (.cells (fill [] N).toArray 5 (0, 0)) := by rw [← made_fill]; exact heap_alloc_new _ _
          have hwsz := hb.size
          obtain ⟨wo, rfl⟩ : ∃ wo : World, wo = wr := ⟨_, rfl⟩
          go_loopw [13, 14] (fun jj ii wl => ∃ (k : Nat) (A : List UInt8), k ≤ l.length ∧ ii = .int .i64 k ∧ jj = .int .i64 A.length ∧ Hid (A = escL (l.take k)) ∧ A.length ≤ N ∧ Hid (wl.heap[wo.heap.size]? = some (.cells (fill A N).toArray 5 (0, 0))) ∧ Below w.heap.size w wl) (fun _ ii _ => l.length - (intOf ii).toNat)
          case atStart => exact ⟨0, [], Nat.zero_le _, rfl, rfl, Lib.hid (by simp [escL]), Nat.zero_le _, Lib.hid hrow, hb2⟩
          case round =>
            obtain ⟨k, A, hk, rfl, rfl, hA, hAN, hrw, hbl⟩ := hrel
            by_cases hlt : k < l.length
            · have hst := escL_step l k hlt
              have hle := escL_take_le l (k + 1)
              rw [hst, List.length_append, ← hA.out, ← HN.out] at hle
              rw [← hA.out] at hst
              have HST := Lib.hid hst; clear hst
              have hb256 : (at_ l k).toNat < 256 := (at_ l k).toNat_lt
              have hb256i : ((at_ l k).toNat : Int) < 256 := by omega
              cases hE : isE (at_ l k) with
              | false =>
                have hB1 : escB (at_ l k) = [at_ l k] := by simp [escB, hE]
                have q1 : wr.cell? ⟨q, (at_ l k).toNat, none⟩ = some (.slice none 0 0) := by rw [hbl.cell (p := ⟨q, _, none⟩) hqlt]; exact HNIL.out _ hE
                rw [hB1] at hle HST; clear hB1 hE
                have hAlt : A.length < N := by simp at hle; omega
                have b1 : wr.cell? ⟨wo.heap.size, A.length, none⟩ = some (.int .u8 0) := by rw [cell_of_row _ _ _ _ _ _ hrw.out]; simpa using fill_get A N hAlt
                have b2 : wr.frozen? ⟨wo.heap.size, A.length, none⟩ = false := frozen_of_row _ _ _ _ _ hrw.out
                clear hle
                go_wp2
                go_roundw
                case rel =>
                  refine ⟨k + 1, A ++ [at_ l k], by omega, by go_num, ?_, Lib.hid HST.out.symm, by simp; omega, Lib.hid ?_, bel_set hbl _ _ hwsz⟩
                  · simp
                  · rw [heap_setCell_same _ _ _ _ _ _ hrw.out, List.setIfInBounds_toArray, fill_set A _ N hAlt]
                case measure => simp [intOf]; omega
              | true =>
                have hB1 : escB (at_ l k) = [92, esc (at_ l k)] := by simp [escB, hE]
                obtain ⟨g, c', r1, r2, r3, r4⟩ := HREP.out _ hE
                have q1 : wr.cell? ⟨q, (at_ l k).toNat, none⟩ = some (.slice (some ⟨g, 0, none⟩) 2 c') := by rw [hbl.cell (p := ⟨q, _, none⟩) hqlt]; exact r1
                rw [hB1] at hle HST; clear hB1 hE
                have hAlt : A.length + 2 ≤ N := by simpa using hle
                have r3' : wr.cell? ⟨g, 0, none⟩ = some (.int .u8 92) := by rw [hbl.cell (p := ⟨g, _, none⟩) r2]; exact r3
                have r4' : wr.cell? ⟨g, 1, none⟩ = some (.int .u8 (esc (at_ l k)).toNat) := by rw [hbl.cell (p := ⟨g, _, none⟩) r2]; exact r4
                clear hle r1 r3 r4
                go_wp2
                have hNA : ¬ N = A.length := by omega
                have hmn : (Lib.byteCells [92, esc (at_ l k)]).length = Nat.min 2 (N - A.length) := by
                  rw [Lib.byteCells_length]; show 2 = min 2 (N - A.length); omega
                have hsrc : ∀ j v, (Lib.byteCells [92, esc (at_ l k)])[j]? = some v → wr.drew.cell? ((⟨g, 0, none⟩ : Addr).add j) = some v := by
                  intro j v hj
                  rcases j with _ | _ | j
                  · simp [Lib.byteCells] at hj; subst hj; simpa [Addr.add] using r3'
                  · simp [Lib.byteCells] at hj; subst hj; simpa [Addr.add] using r4'
                  · simp [Lib.byteCells] at hj
                have hfit : A.length + (Lib.byteCells [92, esc (at_ l k)]).length ≤ (fill A N).length := by
                  rw [Lib.byteCells_length, fill_length A N hAN]; exact hAlt
                have hone : ∀ v ∈ Lib.byteCells [92, esc (at_ l k)], v.oneCell' = true := by
                  intro v hv; simp [Lib.byteCells] at hv; rcases hv with rfl | rfl <;> rfl
                have HMN := Lib.hid hmn; have HSRC := Lib.hid hsrc; have HONE := Lib.hid hone
                have hrd : wr.drew.heap[wo.heap.size]? = some (.cells (fill A N).toArray 5 (0, 0)) := hrw.out
                have HRD := Lib.hid hrd; have HFIT := Lib.hid hfit
                clear hmn hsrc hone hrd hfit r3' r4'
                go_region_law (refine step_copy_splice rfl (.tmp 105) (.tmp 111) 66 66 rfl 5 Tryz.underlying66 (by kernel_rfl) (some ⟨wo.heap.size, A.length, none⟩) (some ⟨g, 0, none⟩) (N - A.length) (N - A.length) 2 c' (by simp [Act.eval, Act.put, hNA]) (by simp [Act.eval, Act.put]) wo.heap.size A.length (fill A N) 5 HRD.out (Lib.byteCells [92, esc (at_ l k)]) HMN.out (fun _ => ⟨rfl, ⟨g, 0, none⟩, rfl, HSRC.out⟩) HFIT.out HONE.out w.heap.size w hbl.drew hwsz ?_; intro w2 hw2 hbl2)
                have hcsl : (Lib.byteCells [92, esc (at_ l k)]).length = 2 := rfl
                go_wp2
                go_roundw
                case rel =>
                  refine ⟨k + 1, A ++ [92, esc (at_ l k)], by omega, by go_num, ?_, Lib.hid HST.out.symm, by simp; omega, Lib.hid ?_, hbl2⟩
                  · simp
                  · rw [hw2.out, fill_splice A _ N (by simp; omega)]
                case measure => simp [intOf]; omega
            · have hkk : k = l.length := by omega
              have hAe : A = escL l := by rw [hA.out, hkk, List.take_length]
              subst hAe
              have hcv := conv_fill wr wo.heap.size (escL l) N HN.out 5 hrw.out
              go_wp2
              go_ret
              exact ⟨rfl, hbl⟩
  · have e256 := E256.out
    have hlb : decide (24 ≤ (l.length : Int)) = false := by simp; omega
    go_enter Tryz.func172, Tryz.ntmps172
    go_wp2
    clear e256
    go_loopw [5, 6, 10] (fun ns any i wr => ∃ (k : Nat) (x : Int) (b : Bool), k ≤ l.length ∧ i = .int .i64 k ∧ ns = .int .i64 x ∧ any = .bool b ∧ Hid (x = (l.length + cntE (l.take k) : Nat)) ∧ 0 ≤ x ∧ x ≤ 40000 ∧ Hid (b = decide (cntE (l.take k) ≠ 0)) ∧ Below w.heap.size w wr) (fun _ _ i _ => l.length - (intOf i).toNat)
    case atStart => exact ⟨0, _, _, by omega, rfl, rfl, rfl, Lib.hid (by simp [cntE]), by omega, by omega, Lib.hid (by simp [cntE]), Below.refl _ _⟩
    case round =>
      obtain ⟨k, x, bb, hk, rfl, rfl, rfl, hx, hx0, hx1, hbb, hb⟩ := hrel
      by_cases hlt : k < l.length
      · have hst := Lib.hid (cntE_step l k hlt)
        have hcl := cntE_le (l.take (k + 1))
        have hcl2 := cntE_le (l.take k)
        simp only [List.length_take] at hcl hcl2
        have hb256 : (at_ l k).toNat < 256 := (at_ l k).toNat_lt
        have hb256i : ((at_ l k).toNat : Int) < 256 := by omega
        cases hE : isE (at_ l k) with
        | false =>
          have q1 : wr.cell? ⟨q, (at_ l k).toNat, none⟩ = some (.slice none 0 0) := by rw [hb.cell (p := ⟨q, _, none⟩) hqlt]; exact HNIL.out _ hE
          have hs2 : cntE (l.take (k + 1)) = cntE (l.take k) := by rw [hst.out, hE]; rfl
          have HS := Lib.hid hs2; clear hs2 hE
          go_wp2
          go_roundw
          case rel => exact ⟨k + 1, x, bb, by omega, by go_num, rfl, rfl, Lib.hid (by rw [hx.out, HS.out]), hx0, hx1, Lib.hid (by rw [hbb.out, HS.out]), hb⟩
          case measure => simp [intOf]; omega
        | true =>
          obtain ⟨g, c', r1, r2, r3, r4⟩ := HREP.out _ hE
          have q1 : wr.cell? ⟨q, (at_ l k).toNat, none⟩ = some (.slice (some ⟨g, 0, none⟩) 2 c') := by rw [hb.cell (p := ⟨q, _, none⟩) hqlt]; exact r1
          have hs2 : cntE (l.take (k + 1)) = cntE (l.take k) + 1 := by rw [hst.out, hE]; rfl
          have HS := Lib.hid hs2; clear hs2 hE r1 r3 r4
          go_wp2
          try go_quiet (fail)
          try go_wp2
          go_roundw
          case rel =>
            have h1 := hx.out; have h2 := HS.out
            refine ⟨k + 1, x + 1, true, by omega, by go_num, by go_num, rfl, Lib.hid (by omega), by omega, by omega, Lib.hid (by symm; rw [decide_eq_true_iff]; omega), ?_⟩
            first | exact hb | exact bel_drewN hb _
          case measure => simp [intOf]; omega
      · obtain rfl : k = l.length := by omega
        rw [List.take_length] at hx hbb
        clear hlt
        by_cases hz0 : cntE l = 0
        · obtain rfl : bb = false := by rw [hbb.out]; simp [hz0]
          have he := Lib.hid (escL_none l hz0); clear hz0
          go_wp2
          go_ret
          exact ⟨by rw [he.out]; rfl, hb⟩
        · obtain rfl : bb = true := by rw [hbb.out]; simp [hz0]
          clear hz0 hbb
          obtain ⟨N, hN⟩ : ∃ N, N = (escL l).length := ⟨_, rfl⟩
          have hNl : N = l.length + cntE l := by rw [hN, escL_length]
          have hcl := cntE_le l
          obtain rfl : x = (N : Int) := by rw [hx.out, hNl]
          have HN := Lib.hid hN
          have hN4 : N ≤ 40000 := by omega
          clear hN hNl hx hx0 hx1
          have hmk := run_make_row' (P := Tryz.prog) 66 5 (.int .u8 0) 1 Tryz.underlying66 infoByte rfl .i64 .i64 N (by omega) (by omega)
          go_wp2
          clear hmk
          have hb2 := bel_alloc hb (.cells (madeCells #[.int .u8 0] N) 5)
          have hrow : (wr.alloc (.cells (madeCells #[.int .u8 0] N) 5)).heap[wr.heap.size]? = some (.cells (fill [] N).toArray 5 (0, 0)) := by rw [← made_fill]; exact heap_alloc_new _ _
          have hwsz := hb.size
          obtain ⟨wo, rfl⟩ : ∃ wo : World, wo = wr := ⟨_, rfl⟩
          go_loopw [13, 14] (fun jj ii wl => ∃ (k : Nat) (A : List UInt8), k ≤ l.length ∧ ii = .int .i64 k ∧ jj = .int .i64 A.length ∧ Hid (A = escL (l.take k)) ∧ A.length ≤ N ∧ Hid (wl.heap[wo.heap.size]? = some (.cells (fill A N).toArray 5 (0, 0))) ∧ Below w.heap.size w wl) (fun _ ii _ => l.length - (intOf ii).toNat)
          case atStart => exact ⟨0, [], Nat.zero_le _, rfl, rfl, Lib.hid (by simp [escL]), Nat.zero_le _, Lib.hid hrow, hb2⟩
          case round =>
            obtain ⟨k, A, hk, rfl, rfl, hA, hAN, hrw, hbl⟩ := hrel
            by_cases hlt : k < l.length
            · have hst := escL_step l k hlt
              have hle := escL_take_le l (k + 1)
              rw [hst, List.length_append, ← hA.out, ← HN.out] at hle
              rw [← hA.out] at hst
              have HST := Lib.hid hst; clear hst
              have hb256 : (at_ l k).toNat < 256 := (at_ l k).toNat_lt
              have hb256i : ((at_ l k).toNat : Int) < 256 := by omega
              cases hE : isE (at_ l k) with
              | false =>
                have hB1 : escB (at_ l k) = [at_ l k] := by simp [escB, hE]
                have q1 : wr.cell? ⟨q, (at_ l k).toNat, none⟩ = some (.slice none 0 0) := by rw [hbl.cell (p := ⟨q, _, none⟩) hqlt]; exact HNIL.out _ hE
                rw [hB1] at hle HST; clear hB1 hE
                have hAlt : A.length < N := by simp at hle; omega
                have b1 : wr.cell? ⟨wo.heap.size, A.length, none⟩ = some (.int .u8 0) := by rw [cell_of_row _ _ _ _ _ _ hrw.out]; simpa using fill_get A N hAlt
                have b2 : wr.frozen? ⟨wo.heap.size, A.length, none⟩ = false := frozen_of_row _ _ _ _ _ hrw.out
                clear hle
                go_wp2
                go_roundw
                case rel =>
                  refine ⟨k + 1, A ++ [at_ l k], by omega, by go_num, ?_, Lib.hid HST.out.symm, by simp; omega, Lib.hid ?_, bel_set hbl _ _ hwsz⟩
                  · simp
                  · rw [heap_setCell_same _ _ _ _ _ _ hrw.out, List.setIfInBounds_toArray, fill_set A _ N hAlt]
                case measure => simp [intOf]; omega
              | true =>
                have hB1 : escB (at_ l k) = [92, esc (at_ l k)] := by simp [escB, hE]
                obtain ⟨g, c', r1, r2, r3, r4⟩ := HREP.out _ hE
                have q1 : wr.cell? ⟨q, (at_ l k).toNat, none⟩ = some (.slice (some ⟨g, 0, none⟩) 2 c') := by rw [hbl.cell (p := ⟨q, _, none⟩) hqlt]; exact r1
                rw [hB1] at hle HST; clear hB1 hE
                have hAlt : A.length + 2 ≤ N := by simpa using hle
                have r3' : wr.cell? ⟨g, 0, none⟩ = some (.int .u8 92) := by rw [hbl.cell (p := ⟨g, _, none⟩) r2]; exact r3
                have r4' : wr.cell? ⟨g, 1, none⟩ = some (.int .u8 (esc (at_ l k)).toNat) := by rw [hbl.cell (p := ⟨g, _, none⟩) r2]; exact r4
                clear hle r1 r3 r4
                go_wp2
                have hNA : ¬ N = A.length := by omega
                have hmn : (Lib.byteCells [92, esc (at_ l k)]).length = Nat.min 2 (N - A.length) := by
                  rw [Lib.byteCells_length]; show 2 = min 2 (N - A.length); omega
                have hsrc : ∀ j v, (Lib.byteCells [92, esc (at_ l k)])[j]? = some v → wr.drew.cell? ((⟨g, 0, none⟩ : Addr).add j) = some v := by
                  intro j v hj
                  rcases j with _ | _ | j
                  · simp [Lib.byteCells] at hj; subst hj; simpa [Addr.add] using r3'
                  · simp [Lib.byteCells] at hj; subst hj; simpa [Addr.add] using r4'
                  · simp [Lib.byteCells] at hj
                have hfit : A.length + (Lib.byteCells [92, esc (at_ l k)]).length ≤ (fill A N).length := by
                  rw [Lib.byteCells_length, fill_length A N hAN]; exact hAlt
                have hone : ∀ v ∈ Lib.byteCells [92, esc (at_ l k)], v.oneCell' = true := by
                  intro v hv; simp [Lib.byteCells] at hv; rcases hv with rfl | rfl <;> rfl
                have HMN := Lib.hid hmn; have HSRC := Lib.hid hsrc; have HONE := Lib.hid hone
                have hrd : wr.drew.heap[wo.heap.size]? = some (.cells (fill A N).toArray 5 (0, 0)) := hrw.out
                have HRD := Lib.hid hrd; have HFIT := Lib.hid hfit
                clear hmn hsrc hone hrd hfit r3' r4'
                go_region_law (refine step_copy_splice rfl (.tmp 105) (.tmp 111) 66 66 rfl 5 Tryz.underlying66 (by kernel_rfl) (some ⟨wo.heap.size, A.length, none⟩) (some ⟨g, 0, none⟩) (N - A.length) (N - A.length) 2 c' (by simp [Act.eval, Act.put, hNA]) (by simp [Act.eval, Act.put]) wo.heap.size A.length (fill A N) 5 HRD.out (Lib.byteCells [92, esc (at_ l k)]) HMN.out (fun _ => ⟨rfl, ⟨g, 0, none⟩, rfl, HSRC.out⟩) HFIT.out HONE.out w.heap.size w hbl.drew hwsz ?_; intro w2 hw2 hbl2)
                have hcsl : (Lib.byteCells [92, esc (at_ l k)]).length = 2 := rfl
                go_wp2
                go_roundw
                case rel =>
                  refine ⟨k + 1, A ++ [92, esc (at_ l k)], by omega, by go_num, ?_, Lib.hid HST.out.symm, by simp; omega, Lib.hid ?_, hbl2⟩
                  · simp
                  · rw [hw2.out, fill_splice A _ N (by simp; omega)]
                case measure => simp [intOf]; omega
            · have hkk : k = l.length := by omega
              have hAe : A = escL l := by rw [hA.out, hkk, List.take_length]
              subst hAe
              have hcv := conv_fill wr wo.heap.size (escL l) N HN.out 5 hrw.out
              go_wp2
              go_ret
              exact ⟨rfl, hbl⟩

end Go.Proofs.YtepgjaecfoaenaaGreatDoor

namespace Go.Proofs.YtepgjaecfoaenaaGreatDoor
open Go.RowKit
set_option linter.unusedVariables false
set_option linter.unusedSimpArgs false

theorem BS.other {B q : Nat} {done : List UInt8} {w : World} (h : BS B q done w) (a : Addr) (u : Value) (ha : a.block < B) : BS B q done (w.setCell a u) := by
  obtain ⟨arr, ao, n, c, h⟩ := h
  have hb : ∀ k, B ≤ k → (w.setCell a u).heap[k]? = w.heap[k]? := fun k hk => Below.heap_setCell _ _ _ _ (by omega)
  refine ⟨arr, ao, n, c, by rw [hb q h.base]; exact h.row, h.base, h.size, h.last, ?_, h.apart, h.left, fun b hbd => ?_⟩
  · exact World.ownsRow.kept h.own (row := some a.block) ⟨rfl, rfl, rfl, by simp [World.setCell], fun k _ hk => Below.heap_setCell _ _ _ _ (fun e => hk (by rw [e]))⟩ (by
      cases ho : (Value.slice ao n c).ownBlock with
      | none => exact .inl rfl
      | some k => exact .inr (fun e => by injection e with e; have := (World.ownsRow.lt h.own k ho).1; omega))
  · obtain ⟨g, c', h1, h2, h3, h4, h5, h6, h7⟩ := h.rows b hbd
    exact ⟨g, c', h1, h2, by simp only [World.setCell, Array.size_modify]; exact h3, h4, h5, by rw [World.cell?_of_block (hb g h2)]; exact h6, by rw [World.cell?_of_block (hb g h2)]; exact h7⟩
theorem BS.drew {B q : Nat} {done : List UInt8} {w : World} (h : BS B q done w) : BS B q done w.drew := by
  obtain ⟨arr, ao, n, c, h⟩ := h
  exact ⟨arr, ao, n, c, h.below ((Below.refl _ _).drew)⟩

def RepQ (B : Nat) (t : TypeId) (q : Nat) (w : World) : Prop := t = 129 ∧ BS B q [92, 34, 10] w

set_option maxHeartbeats 1000000 in
theorem buildOnce_quote (R g c : Nat) (w : World) (hR : R < w.heap.size) (hg : g < w.heap.size)
    (h3 : w.cell? ⟨R, 3, none⟩ = some .nilIface) (f3 : w.frozen? ⟨R, 3, none⟩ = false) (f4 : w.frozen? ⟨R, 4, none⟩ = false)
    (hold : w.cell? ⟨R, 4, none⟩ = some (.slice (some ⟨g, 0, none⟩) 6 c))
    (hs : ∀ k, k < 6 → w.cell? ⟨g, k, none⟩ = some (.string (S (strAt quoteL k)))) :
    Calls Tryz.prog 56 #[.pointer (some ⟨R, 0, none⟩)] w (BPost R (RepQ w.heap.size) w) := by
  have HB := Lib.hid (build_quote R g c w hR hg hold (hs 0 (by decide)) (hs 1 (by decide)) (hs 2 (by decide)) (hs 3 (by decide)) (hs 4 (by decide)) (hs 5 (by decide)))
  clear hs
  go_enter Tryz.func56, Tryz.ntmps56
  go_wp2_with fail
  refine HB.out.mono ?_
  rintro e w2 ⟨q, rfl, hS, hb⟩
  have k3 : w2.cell? ⟨R, 3, none⟩ = some .nilIface := by rw [hb.cell (p := ⟨R, 3, none⟩) hR]; exact h3
  have k4 : w2.cell? ⟨R, 4, none⟩ = some (.slice (some ⟨g, 0, none⟩) 6 c) := by rw [hb.cell (p := ⟨R, 4, none⟩) hR]; exact hold
  have z3 : w2.frozen? ⟨R, 3, none⟩ = false := by rw [hb.frozen (p := ⟨R, 3, none⟩) hR]; exact f3
  have z4 : w2.frozen? ⟨R, 4, none⟩ = false := by rw [hb.frozen (p := ⟨R, 4, none⟩) hR]; exact f4
  go_wp2
  go_end0
  exact ⟨w2, _, q, rfl, hb, ⟨rfl, hS⟩, rfl⟩

theorem method_bsr (a : Addr) (w : World) (d : Nat) : (method (d + 1) 129 (.pointer (some a)) "Replace").run Tryz.prog w = .ok (172, .pointer (some a)) w := by kernel_rfl
theorem nilAhead_bsr (a : Addr) (w : World) (d : Nat) : (nilAhead (d + 1) 129 (.pointer (some a)) "Replace").run Tryz.prog w = .ok (some false) w := by kernel_rfl

set_option maxHeartbeats 1000000 in
theorem Replace_quote (R g c : Nat) (l : List UInt8) (w : World) (hR : R < w.heap.size) (hg : g < w.heap.size) (hgR : g ≠ R) (hl : l.length ≤ 20000)
    (hrow : w.heap[R]? = some (.cells #[.int .u32 0, .int .i32 0, .int .u32 0, .nilIface, .slice (some ⟨g, 0, none⟩) 6 c] 87 (0, 0)))
    (hs : ∀ k, k < 6 → w.cell? ⟨g, k, none⟩ = some (.string (S (strAt quoteL k)))) :
    Calls Tryz.prog 46 #[.pointer (some ⟨R, 0, none⟩), .string (S l)] w fun e w' => e = .returned (.string (S (escL l))) ∧ Below R w w' := by
  have hwl : (w.setCell ⟨R, 1, none⟩ (.int .i32 1)).heap.size = w.heap.size := by simp [World.setCell]
  have h0 : w.cell? ⟨R, 0, none⟩ = some (.int .u32 0) := by rw [cell_of_row _ _ _ _ _ _ hrow]; rfl
  have h1 : w.cell? ⟨R, 1, none⟩ = some (.int .i32 0) := by rw [cell_of_row _ _ _ _ _ _ hrow]; rfl
  have h3 : w.cell? ⟨R, 3, none⟩ = some .nilIface := by rw [cell_of_row _ _ _ _ _ _ hrow]; rfl
  have h4 : w.cell? ⟨R, 4, none⟩ = some (.slice (some ⟨g, 0, none⟩) 6 c) := by rw [cell_of_row _ _ _ _ _ _ hrow]; rfl
  have fz : ∀ j, w.frozen? ⟨R, j, none⟩ = false := fun j => frozen_of_row _ _ _ _ _ hrow
  have HB := Lib.hid (buildOnce_quote R g c (w.setCell ⟨R, 1, none⟩ (.int .i32 1)) (by rw [hwl]; exact hR) (by rw [hwl]; exact hg)
    (by rw [World.cell?_setCell_other _ _ _ _ (by simp)]; exact h3) (by simp [fz]) (by simp [fz]) (by rw [World.cell?_setCell_other _ _ _ _ (by simp)]; exact h4)
    (fun k hk => by rw [World.cell?_setCell_other _ _ _ _ (by intro e; have := congrArg Addr.block e; simp at this; exact hgR this.symm)]; exact hs k hk))
  rw [hwl] at HB
  have HD := Lib.hid (Do_calls R (RepQ w.heap.size) w hR h0 h1 (fz 0) (fz 1) HB.out)
  have K3 := Lib.hid (p := (w.cell? ⟨R, 3, none⟩).isSome) (by rw [h3]; rfl)
  clear HB h0 h1 h3 h4 fz hs hrow hwl
  go_enter Tryz.func46, Tryz.ntmps46
  go_wp2_with fail
  refine HD.out.mono ?_
  rintro e w' ⟨w2, t, q, rfl, hb, ⟨rfl, hS⟩, rfl⟩
  have hsz : R < w2.heap.size := by have := hb.size; simp [World.setCell] at this; omega
  have hb1 : Below R w w2 := ((Below.refl R w).setCell (Nat.le_refl _) _).trans (hb.mono (by omega))
  have j3 : (w2.cell? ⟨R, 3, none⟩).isSome := by
    rw [hb.cell (p := ⟨R, 3, none⟩) hR, World.cell?_setCell_other _ _ _ _ (by simp)]; exact K3.out
  obtain ⟨v3, hv3⟩ := Option.isSome_iff_exists.1 j3
  have hex : ∃ wn : World, wn = ((((w2.setCell ⟨R, 3, none⟩ (.iface 129 (.pointer (some ⟨q, 0, none⟩)))).setCell ⟨R, 4, none⟩ (.slice none 0 0)).drew.setCell ⟨R, 0, none⟩ (.int .u32 1)).setCell ⟨R, 1, none⟩ (.int .i32 0)) := ⟨_, rfl⟩
  obtain ⟨wn, hwn⟩ := hex
  have hSn : BS w.heap.size q [92, 34, 10] wn := by
    rw [hwn]; exact ((((hS.other _ _ hR).other _ _ hR).drew.other _ _ hR).other _ _ hR)
  have c3 : wn.cell? ⟨R, 3, none⟩ = some (.iface 129 (.pointer (some ⟨q, 0, none⟩))) := by
    rw [hwn, World.cell?_setCell_other _ _ _ _ (by simp), World.cell?_setCell_other _ _ _ _ (by simp), World.cell?_drew, World.cell?_setCell_other _ _ _ _ (by simp)]
    exact World.cell?_setCell_same _ _ _ hv3
  have hbn : Below R w wn := by
    rw [hwn]; exact ((((hb1.setCell (Nat.le_refl _) _).setCell (Nat.le_refl _) _).drew.setCell (Nat.le_refl _) _).setCell (Nat.le_refl _) _)
  rw [← hwn]
  clear hwn hS hb hb1 hv3 j3 hsz
  have hm := method_bsr ⟨q, 0, none⟩ wn
  have hna := nilAhead_bsr ⟨q, 0, none⟩ wn
  go_wp2_with fail
  refine (bsr_Replace w.heap.size q l wn hSn hl).mono ?_
  rintro e w' ⟨rfl, hb'⟩
  go_wp2
  go_ret
  exact ⟨rfl, hbn.trans (hb'.mono (by have := hbn.size; omega))⟩

end Go.Proofs.YtepgjaecfoaenaaGreatDoor

namespace Go.Proofs.YtepgjaecfoaenaaGreatDoor
open Go.RowKit
set_option linter.unusedVariables false
set_option linter.unusedSimpArgs false

@[go_sem high] theorem lit_app (x : UInt8) (l : List UInt8) : (⟨#[x]⟩ : ByteArray) ++ S l = S (x :: l) := S_append [x] l
@[go_sem high] theorem app_lit (x : UInt8) (l : List UInt8) : S l ++ (⟨#[x]⟩ : ByteArray) = S (l ++ [x]) := S_append l [x]

def quoteRes (l : List UInt8) : List UInt8 × Int :=
  if 20000 < l.length then ([], 3) else if 20000 < (escL l).length + 2 then ([], 3) else (34 :: escL l ++ [34], 0)

set_option maxRecDepth 100000 in
set_option maxHeartbeats 1000000 in
theorem Quote_calls (l : List UInt8) (w : World) (hs : l.length ≤ 9223372036854775807) :
    Calls Tryz.prog 14 #[.string (S l)] w fun e w' => e = .returned (.tuple #[.string (S (quoteRes l).1), .int .i64 (quoteRes l).2]) ∧ Below w.heap.size w w' := by
  by_cases hl : 20000 < l.length
  · have hr : quoteRes l = ([], 3) := by unfold quoteRes; rw [if_pos hl]
    rw [hr]
    have hlb : decide ((l.length : Int) > 20000) = true := by simp; omega
    go_enter Tryz.func14, Tryz.ntmps14
    go_wp2_with fail
    go_ret2
    exact ⟨rfl, Below.refl _ _⟩
  · have hlb : decide ((l.length : Int) > 20000) = false := by simp; omega
    have hlen : (escL l).length ≤ 40000 := by rw [escL_length]; have := cntE_le l; omega
    have hlb2 : decide ((((34 :: (escL l ++ [34])).length : Nat) : Int) > 20000) = decide (20000 < (escL l).length + 2) := by
      simp only [List.length_cons, List.length_append, List.length_nil]; exact decide_eq_decide.2 (by omega)
    go_enter Tryz.func14, Tryz.ntmps14
    go_wp2_with fail
    refine (NewReplacer_calls w.heap.size 6 6 quoteL _ rfl rfl ?_).mono ?_
    · intro k hk
      have hk6 : k < 6 := hk
      rcases (show k = 0 ∨ k = 1 ∨ k = 2 ∨ k = 3 ∨ k = 4 ∨ k = 5 by omega) with rfl | rfl | rfl | rfl | rfl | rfl <;> (rw [cell_of_row _ _ _ _ _ _ (heap_alloc_new _ _)]; rfl)
    rintro e w' ⟨w1, v, rfl, hb, hown, rfl⟩
    obtain ⟨g, c, rfl, hg, hcells⟩ := own_cells hown (by decide)
    have HC := Lib.hid hcells
    clear hown hcells
    have hbel := bel_then (bel_alloc (Below.refl _ w) _) hb
    clear hb
    go_wp2_with fail
    refine (Replace_quote w1.heap.size g c l _ (by simp) (by simp; omega) (by omega) (by omega) (heap_alloc_new _ _) (fun k hk => by rw [World.cell?_of_block (heap_alloc_old w1 _ hg)]; exact HC.out k hk)).mono ?_
    rintro e w' ⟨rfl, hb'⟩
    have hbel' := hbel.trans (((Below.refl _ w1).alloc (Nat.le_refl _) _).trans hb' |>.mono hbel.size)
    by_cases h2 : 20000 < (escL l).length + 2
    · have hr : quoteRes l = ([], 3) := by unfold quoteRes; rw [if_neg hl, if_pos h2]
      rw [decide_eq_true h2] at hlb2
      go_wp2
      go_ret2
      exact ⟨by rw [hr]; rfl, hbel'⟩
    · have hr : quoteRes l = (34 :: escL l ++ [34], 0) := by unfold quoteRes; rw [if_neg hl, if_neg h2]
      rw [decide_eq_false h2] at hlb2
      go_wp2
      go_ret2
      exact ⟨by rw [hr]; rfl, hbel'⟩

end Go.Proofs.YtepgjaecfoaenaaGreatDoor
