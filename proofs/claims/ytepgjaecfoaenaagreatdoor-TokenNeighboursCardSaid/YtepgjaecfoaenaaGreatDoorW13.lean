/- The walk of the token package's Number. Condition: the library's variable for a number out of range holds an error. -/
import Derived.Test.YtepgjaecfoaenaaGreatDoorW10
import Derived.Test.YtepgjaecfoaenaaGreatDoorP4
import Derived.Lib.AtoiErrMem
namespace Go.Proofs.YtepgjaecfoaenaaGreatDoor
open Go.RowKit
set_option linter.unusedVariables false
set_option linter.unusedSimpArgs false

/-- The variable strconv.ErrRange holds some error. -/
def ErrV (w : World) : Prop := ∃ tp p, w.var? Tryz.prog "strconv.ErrRange" = some #[.iface tp p]
theorem ErrV.below {w w1 : World} (h : ErrV w) (hb : Below w.heap.size w w1) : ErrV w1 := by
  obtain ⟨tp, p, h⟩ := h
  refine ⟨tp, p, ?_⟩
  unfold World.var? at h ⊢
  cases hg : Tryz.prog.globalNamed "strconv.ErrRange" with
  | none => rw [hg] at h; simp at h
  | some g =>
    rw [hg] at h
    simp only [Option.bind_some] at h ⊢
    have hlt : g < w.heap.size := by
      rcases Nat.lt_or_ge g w.heap.size with h' | h'
      · exact h'
      · simp [Array.getElem?_eq_none h'] at h
    rw [hb.block g hlt]
    exact h

theorem digits_of {t : Tok} (hk : t.kind = 5) (ht : isTokB t = true) : 0 < t.text.length ∧ t.text.length ≤ 20000 ∧ ∀ c ∈ t.text, isDigit c = true := by
  obtain ⟨h0, hl, hn⟩ := isTok_next ht
  obtain ⟨h1, h2⟩ := next_full rfl hn (nextKN_le t.text h0)
  refine ⟨h0, hl, runN_all ?_⟩
  rw [nextKN_digit (by rw [h2, hk])] at h1
  exact h1

set_option maxHeartbeats 1000000 in
theorem Number_calls (t : Tok) (w : World) (hv : 18446744073709551615 < numVal t.text → ErrV w) :
    Calls Tryz.prog 16 #[.agg #[.int .i64 t.kind, .string (S t.text)]] w fun e w' => e = .returned (.tuple #[.int .i64 (numRes t).1, .bool (numRes t).2.1, .int .i64 (numRes t).2.2]) ∧ Below w.heap.size w w' := by
  by_cases hk : t.kind = 5
  · have hkb : (t.kind != 5) = false := by simp [hk]
    cases ht : isTokB t with
    | false =>
      have hr : numRes t = (0, false, 4) := by unfold numRes; rw [if_pos (.inr ht)]
      rw [hr]; clear hr hk
      have HT := Lib.hid ht; clear ht
      go_enter Tryz.func16, Tryz.ntmps16
      go_wp2_with (go_at_call 22; refine (IsToken_calls t _).mono ?_; rintro e w1 ⟨rfl, hb⟩; rw [HT.out])
      go_ret3
      exact ⟨rfl, bel_then (bel_alloc (Below.refl _ _) _) hb⟩
    | true =>
      obtain ⟨h0, hl, hd⟩ := digits_of hk ht
      have hp := parse_digits t.text h0 hd
      have HT := Lib.hid ht
      clear hd
      by_cases hsm : numVal t.text ≤ 9223372036854775807
      · have hr : numRes t = ((numVal t.text : Int), true, 0) := by unfold numRes; rw [if_neg (by simp [hk, ht]), if_pos hsm]
        rw [if_pos (by omega)] at hp
        rw [hr]; clear hr hk ht
        have HP := Lib.hid hp; clear hp
        go_enter Tryz.func16, Tryz.ntmps16
        go_wp2_with fail
        refine (IsToken_calls t _).mono ?_
        rintro e w1 ⟨rfl, hb⟩
        rw [HT.out]
        obtain ⟨hc, hf⟩ := bcell hb
        go_wp2_with fail
        refine (Tryz.strconv_ParseUint_10_at64_ok (S t.text) (by rw [S_size]; omega) (numVal t.text) (by rw [S_data]; exact HP.out) _).mono ?_
        rintro e w2 ⟨rfl, hw2⟩
        have hb2 : Below w1.heap.size w1 w2 := by
          rcases hw2 with rfl | rfl
          · exact Below.refl _ _
          · exact Lib.bytesWorld_below _ _ _
        have hgt : ¬ (9223372036854775807 : Int) < (numVal t.text : Int) := by omega
        go_wp2
        go_ret3
        exact ⟨rfl, bel_then (bel_then (bel_alloc (Below.refl _ _) _) hb) hb2⟩
      · have hr : numRes t = (0, false, 0) := by unfold numRes; rw [if_neg (by simp [hk, ht]), if_neg hsm]
        rw [hr]; clear hr hk ht
        by_cases hbig : numVal t.text ≤ 18446744073709551615
        · rw [if_pos hbig] at hp
          have HP := Lib.hid hp; clear hp
          go_enter Tryz.func16, Tryz.ntmps16
          go_wp2_with fail
          refine (IsToken_calls t _).mono ?_
          rintro e w1 ⟨rfl, hb⟩
          rw [HT.out]
          obtain ⟨hc, hf⟩ := bcell hb
          go_wp2_with fail
          refine (Tryz.strconv_ParseUint_10_at64_ok (S t.text) (by rw [S_size]; omega) (numVal t.text) (by rw [S_data]; exact HP.out) _).mono ?_
          rintro e w2 ⟨rfl, hw2⟩
          have hb2 : Below w1.heap.size w1 w2 := by
            rcases hw2 with rfl | rfl
            · exact Below.refl _ _
            · exact Lib.bytesWorld_below _ _ _
          have hgt : (9223372036854775807 : Int) < (numVal t.text : Int) := by omega
          go_wp2
          go_ret3
          exact ⟨rfl, bel_then (bel_then (bel_alloc (Below.refl _ _) _) hb) hb2⟩
        · rw [if_neg hbig] at hp
          have HP := Lib.hid hp; clear hp
          go_enter Tryz.func16, Tryz.ntmps16
          go_wp2_with fail
          refine (IsToken_calls t _).mono ?_
          rintro e w1 ⟨rfl, hb⟩
          rw [HT.out]
          obtain ⟨hc, hf⟩ := bcell hb
          obtain ⟨tp, p, hvar⟩ := ((hv (by omega)).below (bel_alloc (Below.refl _ _) _)).below hb
          go_wp2_with fail
          refine (Tryz.strconv_ParseUint_10_at64_range_var (S t.text) (by rw [S_size]; omega) (by rw [S_data]; exact HP.out) tp p _ hvar).mono ?_
          rintro e w2 ⟨N, rfl, hN, hNc, hb2⟩
          clear hNc hvar
          go_wp2
          go_ret3
          exact ⟨rfl, bel_then (bel_then (bel_alloc (Below.refl _ _) _) hb) hb2⟩
  · have hr : numRes t = (0, false, 4) := by unfold numRes; rw [if_pos (.inl hk)]
    have hkb : (t.kind != 5) = true := by simp [hk]
    rw [hr]; clear hr hk
    go_enter Tryz.func16, Tryz.ntmps16
    go_wp2
    go_ret3
    exact ⟨rfl, bel_alloc (Below.refl _ _) _⟩

end Go.Proofs.YtepgjaecfoaenaaGreatDoor
