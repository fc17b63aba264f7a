/- The walk of strings.NewReplacer over a list of strings of even length. -/
import Derived.Test.YtepgjaecfoaenaaGreatDoorO2
import Derived.Test.YtepgjaecfoaenaaGreatDoorB2
namespace Go.Proofs.YtepgjaecfoaenaaGreatDoor
open Go.RowKit
set_option linter.unusedVariables false
set_option linter.unusedSimpArgs false

def strAt (xs : List (List UInt8)) (k : Nat) : List UInt8 := xs.getD k []
def strsCells (xs : List (List UInt8)) : List Value := xs.map fun x => .string (S x)
/-- The slice has these strings, in a row of memory of the call's own. -/
def OwnS (w : World) (base : Nat) (v : Value) (xs : List (List UInt8)) : Prop := w.ownsRow base 9 1 v xs.length (strsCells xs)
theorem OwnS.nil (w : World) (base : Nat) : OwnS w base (.slice none 0 0) [] := ⟨rfl, .inl ⟨rfl, rfl⟩⟩
theorem infoStr : (Tryz.prog.info? 9).map (fun i => (i.zero, i.size, i.bytes)) = some (some (.string ⟨#[]⟩), 1, 16) := by kernel_rfl

/-- What NewReplacer leaves: a Replacer in a new block that holds the strings, its lock free, nothing built. -/
def NPost (w : World) (xs : List (List UInt8)) (e : Ending) (w' : World) : Prop :=
  ∃ w1 v, e = .returned (.pointer (some ⟨w1.heap.size, 0, none⟩)) ∧ Below w.heap.size w w1 ∧ OwnS w1 w.heap.size v xs ∧
    w' = w1.alloc (.cells #[.int .u32 0, .int .i32 0, .int .u32 0, .nilIface, v] 87)

set_option maxHeartbeats 1000000 in
theorem NewReplacer_calls (g c n : Nat) (xs : List (List UInt8)) (w : World) (hn : n = xs.length) (h6 : xs.length = 6) (hc : ∀ k, k < xs.length → w.cell? ⟨g, k, none⟩ = some (.string (S (strAt xs k)))) :
    Calls Tryz.prog 45 #[.slice (some ⟨g, 0, none⟩) 6 c] w (NPost w xs) := by
  subst hn
  obtain ⟨i0, hi, hzz⟩ := Option.map_eq_some_iff.1 infoStr
  simp only [Prod.mk.injEq] at hzz
  obtain ⟨hz0, hz1, hz2⟩ := hzz
  have hnews : ∀ j u, (strsCells xs)[j]? = some u → w.cell? ((⟨g, 0, none⟩ : Addr).add j) = some u := by
    intro j u hj
    have hlt : j < xs.length := by
      rcases Nat.lt_or_ge j xs.length with h | h
      · exact h
      · rw [List.getElem?_eq_none (by simpa [strsCells] using h)] at hj; cases hj
    have ha : (⟨g, 0, none⟩ : Addr).add j = ⟨g, j, none⟩ := by unfold Addr.add; split <;> simp_all
    rw [ha, hc j hlt, ← hj]
    simp [strsCells, strAt, List.getElem?_eq_getElem hlt]
  clear hc
  go_enter Tryz.func45, Tryz.ntmps45
  go_wp2_with (at_builtin; refine wpList_append_own w rfl (.const (.slice none 0 0)) (.tmp 8) 46 rfl w.heap.size 9 i0 _ 1 16 Tryz.underlying46 hi hz0 hz1 hz2 rfl (by decide) (.slice none 0 0) 0 [] rfl (OwnS.nil w w.heap.size) ⟨g, 0, none⟩ 6 c (strsCells xs) rfl ?_ hnews ?_ ?_ ?_ ?_ ?_)
  · simp [strsCells, h6]
  · intro u hu; simp [strsCells] at hu; obtain ⟨x, _, rfl⟩ := hu; rfl
  · simp [maxLen]
  · omega
  · omega
  intro v' w1 hown hg hnil
  have hb : Below w.heap.size w w1 := (Below.refl _ _).grown hg (Nat.le_refl _) (by intro k hk; cases hk)
  have hown2 : OwnS w1 w.heap.size v' xs := by
    unfold OwnS; rw [h6]; simpa using hown
  clear hg hnil hnews hown hi hz0 hz1 hz2
  have HX := Lib.hid h6; clear h6
  obtain ⟨ao, n', cap, rfl⟩ : ∃ ao n' cap, v' = .slice ao n' cap := by
    rcases hown2.2 with ⟨hv, _⟩ | ⟨g, cap, cur, hv, _⟩
    · exact ⟨_, _, _, hv⟩
    · exact ⟨_, _, _, hv⟩
  go_wp2
  go_ret
  exact ⟨w1, _, rfl, hb, hown2, rfl⟩

end Go.Proofs.YtepgjaecfoaenaaGreatDoor
