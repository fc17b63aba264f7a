/- The reference's Quote, Unquote and Number. Conditions: at most 20001 bytes; Unquote: a quoted string; Number: digits. -/
import Derived.Test.YtepgjaecfoaenaaGreatDoorS6
import Derived.Test.YtepgjaecfoaenaaGreatDoorP9
import Derived.OwnWalk
namespace Go.Proofs.YtepgjaecfoaenaaGreatDoor
open Go.RowKit
set_option linter.unusedVariables false
set_option linter.unusedSimpArgs false

/-- The slice has these bytes, in a row of memory of the call's own. -/
def OwnB (w : World) (base : Nat) (v : Value) (A : List UInt8) : Prop := w.ownsRow base 5 1 v A.length (Lib.strCells (S A))
theorem OwnB.nil (w : World) (base : Nat) : OwnB w base (.slice none 0 0) [] := ⟨rfl, .inl ⟨rfl, rfl⟩⟩
theorem convB (w : World) : (convert 66 9 (.slice none 0 0)).run Tryz.prog w = .ok (.string ⟨#[]⟩) w := by kernel_rfl
theorem conv_bytes {w : World} {B : Nat} {v : Value} {A : List UInt8} (h : OwnB w B v A) : (convert 66 9 v).run Tryz.prog w = .ok (.string (S A)) w := by
  rcases h.2 with ⟨rfl, h0⟩ | ⟨g, cap, cur, rfl, hb, hg, h1, h2, h3, h4⟩
  · obtain rfl : A = [] := List.length_eq_zero_iff.1 h0
    exact convB w
  · refine run_convert_bytes_back w 66 9 5 ⟨g, 0, none⟩ cap A Tryz.underlying66 Tryz.underlying5 Tryz.underlying9 ?_
    intro j hj
    rw [World.ownsRow.cells h (g := g) rfl j (.int .u8 (A[j].toNat : Int)) (by simp [Lib.strCells, S_data, List.getElem?_eq_getElem hj])]

theorem bytes_append {ops : Array Oper} {rest : List Oper} {o : Oper} {a : Act} {Q : Exit → Act → World → Prop} {W : World} (w0 : World) (base : Nat) (hgd : o.guard = none) (s x : Operand)
    (ho : o.op = .call { callee := .builtin .append, args := #[s, x], argTypes := #[66, 66] })
    (v : Value) (A bs : List UInt8) (hs : a.eval s = v) (n m : Nat) (hx : a.eval x = .slice (some ⟨n, 0, none⟩) m m) (hn : n = W.heap.size) (hm : bs.length = m)
    (cs : Array Value) (hcs : cs = (bs.map fun b => Value.int .u8 (b.toNat : Int)).toArray)
    (HO : OwnB W base v A) (HB : Below base w0 W) (hbase : base ≤ W.heap.size) (hl : A.length + bs.length ≤ 1000000)
    (h : ∀ v1 w1, OwnB w1 base v1 (A ++ bs) → Below base w0 w1 → wpList Tryz.prog ops Q rest (a.put o.dst v1) w1) :
    wpList Tryz.prog ops Q (o :: rest) a (W.alloc (.cells cs 5)) := by
  subst hn; subst hm; subst hcs
  obtain ⟨i0, hi, hz0, hz1, hz2⟩ := info_parts infoByte
  have hnews : ∀ j u, (Lib.strCells (S bs))[j]? = some u → (W.alloc (.cells (bs.map fun b => Value.int .u8 (b.toNat : Int)).toArray 5)).cell? ((⟨W.heap.size, 0, none⟩ : Addr).add j) = some u := by
    intro j u hj
    have ha : (⟨W.heap.size, 0, none⟩ : Addr).add j = ⟨W.heap.size, j, none⟩ := by unfold Addr.add; split <;> simp_all
    rw [ha, World.cell?_alloc_new]
    simpa [Lib.strCells, S_data] using hj
  refine wpList_append_own (W.alloc (.cells (bs.map fun b => Value.int .u8 (b.toNat : Int)).toArray 5)) hgd s x 66 ho base 5 i0 _ 1 1 Tryz.underlying66 hi hz0 hz1 hz2 rfl (by decide) v A.length (Lib.strCells (S A)) hs (World.ownsRow.alloc HO _) ⟨W.heap.size, 0, none⟩ bs.length bs.length (Lib.strCells (S bs)) hx (by simp [Lib.strCells, S_data]) hnews
    (by intro u hu; simp [Lib.strCells, S_data] at hu; obtain ⟨c, _, rfl⟩ := hu; rfl) (by simp only [maxLen]; omega) (by omega) (by simp; omega) ?_
  intro v1 w1 hown hg _
  refine h v1 w1 ?_ ((HB.alloc hbase _).grown hg (by simp; omega) (own_base HO))
  unfold OwnB
  rw [← strCells_app, List.length_append]
  exact hown

set_option maxRecDepth 100000 in
set_option maxHeartbeats 2000000 in
theorem RQuote_calls (l : List UInt8) (w : World) (hs : l.length ≤ 20001) :
    Calls Tryz.prog 17 #[.string (S l)] w fun e w' => e = .returned (.string (S (34 :: escL l ++ [34]))) ∧ Below w.heap.size w w' := by
  obtain ⟨i0, hi, hz0, hz1, hz2⟩ := info_parts infoByte
  have n1 : IntKind.i64.wrap ((l.length : Int) + 2) = (l.length : Int) + 2 := wrapI _ (by omega)
  go_enter Tryz.func17, Tryz.ntmps17
  go_wp2_with (first
    | (at_make; refine wpList_make_own w rfl (.const (.int .i64 0)) (.tmp 7) 66 rfl w.heap.size 5 i0 (.int .u8 0) 1 Tryz.underlying66 hi hz0 hz1 .i64 .i64 _ (l.length + 2) rfl rfl (by omega) (by rw [hz2]; omega) (by simp only [maxLen]; omega) (Nat.le_refl _) ?_; intro w1 hown1 hg1; have hb1 : Below w.heap.size w w1 := (Below.refl _ _).grown hg1 (Nat.le_refl _) (by intro k hk; cases hk))
    | (at_builtin; refine bytes_append w w.heap.size rfl (.tmp 9) (.tmp 10) rfl _ [] [34] rfl w1.heap.size 1 rfl rfl rfl _ rfl hown1 hb1 hb1.size (by simp) ?_; intro v1 w2 hown2 hb2))
  clear hown1 hb1 hg1 hi hz0 hz1 hz2 n1
  go_loopw [3, 4] (fun v i wr => ∃ k : Nat, k ≤ l.length ∧ i = .int .i64 k ∧ OwnB wr w.heap.size v (34 :: escL (l.take k)) ∧ Below w.heap.size w wr) (fun _ i _ => l.length - (intOf i).toNat)
  case atStart => exact ⟨0, Nat.zero_le _, rfl, by simpa [escL] using hown2, hb2⟩
  case round =>
    obtain ⟨k, hk, rfl, hown, hb⟩ := hrel
    clear hown2 hb2
    have hbs := hb.size
    have hel := escL_length (l.take k)
    have hec := cntE_le (l.take k)
    rw [List.length_take] at hel hec
    by_cases hlt : k < l.length
    · have i1 : (k : Int) < (l.length : Int) := by omega
      have i2 : (0 : Int) ≤ (k : Int) := by omega
      have hst := escL_step l k hlt
      have HST := Lib.hid hst
      clear hst
      by_cases c1 : at_ l k = 10
      · have h1 : ((at_ l k).toNat == (10 : Int)) = true := byteT (d := 10) c1
        have he : 34 :: escL (l.take (k + 1)) = (34 :: escL (l.take k)) ++ [92, 110] := by rw [HST.out, c1]; rfl
        have HE := Lib.hid he
        clear c1 he
        go_wp2_with (at_builtin; refine bytes_append w w.heap.size rfl (.tmp 29) (.tmp 30) rfl _ (34 :: escL (l.take k)) [92, 110] rfl wr.heap.size _ rfl rfl rfl _ rfl hown hb hb.size (by simp; omega) ?_; intro v1 w2 hown2 hb2)
        exact ⟨⟨k + 1, by omega, by go_num, by rw [HE.out]; exact hown2, hb2⟩, by simp [intOf]; omega⟩
      · have h1 : ((at_ l k).toNat == (10 : Int)) = false := byteF (d := 10) c1
        by_cases c2 : at_ l k = 34 ∨ at_ l k = 92
        · have he : 34 :: escL (l.take (k + 1)) = (34 :: escL (l.take k)) ++ [92, at_ l k] := by
            rw [HST.out]
            rcases c2 with h | h <;> (rw [h]; rfl)
          have HE := Lib.hid he
          have hh : ((at_ l k).toNat == (34 : Int)) = true ∨ (((at_ l k).toNat == (34 : Int)) = false ∧ ((at_ l k).toNat == (92 : Int)) = true) := by
            rcases c2 with h | h
            · exact .inl (byteT (d := 34) h)
            · exact .inr ⟨byteF (d := 34) (by rw [h]; decide), byteT (d := 92) h⟩
          clear c1 c2 he
          rcases hh with h2 | ⟨h2, h3⟩
          all_goals
            go_wp2_with (at_builtin; refine bytes_append w w.heap.size rfl (.tmp 35) (.tmp 39) rfl _ (34 :: escL (l.take k)) [92, at_ l k] rfl wr.heap.size _ rfl rfl rfl _ rfl hown hb hb.size (by simp; omega) ?_; intro v1 w2 hown2 hb2)
            exact ⟨⟨k + 1, by omega, by go_num, by rw [HE.out]; exact hown2, hb2⟩, by simp [intOf]; omega⟩
        · have h2 : ((at_ l k).toNat == (34 : Int)) = false := byteF (d := 34) (fun h => c2 (.inl h))
          have h3 : ((at_ l k).toNat == (92 : Int)) = false := byteF (d := 92) (fun h => c2 (.inr h))
          have he : 34 :: escL (l.take (k + 1)) = (34 :: escL (l.take k)) ++ [at_ l k] := by
            have : isE (at_ l k) = false := by simp only [not_or] at c2; simp [isE, c1, c2.1, c2.2]
            rw [HST.out, escB, this]; rfl
          have HE := Lib.hid he
          clear c1 c2 he
          go_wp2_with (at_builtin; refine bytes_append w w.heap.size rfl (.tmp 21) (.tmp 25) rfl _ (34 :: escL (l.take k)) [at_ l k] rfl wr.heap.size _ rfl rfl rfl _ rfl hown hb hb.size (by simp; omega) ?_; intro v1 w2 hown2 hb2)
          exact ⟨⟨k + 1, by omega, by go_num, by rw [HE.out]; exact hown2, hb2⟩, by simp [intOf]; omega⟩
    · have hkl : l.take k = l := List.take_of_length_le (by omega)
      rw [hkl] at hown hel hec
      clear hkl
      go_wp2_with (at_builtin; refine bytes_append w w.heap.size rfl (.tmp 41) (.tmp 42) rfl _ (34 :: escL l) [34] rfl wr.heap.size _ rfl rfl rfl _ rfl hown hb hb.size (by simp; omega) ?_; intro v1 w2 hown2 hb2; have hcv := conv_bytes hown2)
      go_ret
      exact ⟨rfl, hb2⟩

end Go.Proofs.YtepgjaecfoaenaaGreatDoor
