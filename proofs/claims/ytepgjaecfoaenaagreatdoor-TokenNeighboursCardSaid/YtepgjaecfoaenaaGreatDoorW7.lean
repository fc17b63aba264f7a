/- The walks of the token package's joined. -/
import Derived.Test.YtepgjaecfoaenaaGreatDoorW6
import Derived.Test.YtepgjaecfoaenaaGreatDoorB2
namespace Go.Proofs.YtepgjaecfoaenaaGreatDoor
open Go.RowKit
set_option linter.unusedVariables false
set_option linter.unusedSimpArgs false

instance : Inhabited Tok := ⟨⟨0, []⟩⟩
def tokAt (ts : List Tok) (k : Nat) : Tok := ts.getD k default

/-- The slice reads as these tokens. -/
def ReadT (w : World) (v : Value) (ts : List Tok) : Prop :=
  ∃ A c, v = .slice A ts.length c ∧ ts.length ≤ 9223372036854775000 ∧
    (0 < ts.length → ∃ b off, A = some ⟨b, off, none⟩ ∧ b < w.heap.size ∧
      ∀ k, k < ts.length → w.cell? ⟨b, off + k * 2, none⟩ = some (.int .i64 (tokAt ts k).kind) ∧ w.cell? ⟨b, off + k * 2 + 1, none⟩ = some (.string (S (tokAt ts k).text)))

theorem ReadT.below {w w1 : World} {v : Value} {ts : List Tok} (h : ReadT w v ts) (hb : Below w.heap.size w w1) : ReadT w1 v ts := by
  obtain ⟨A, c, rfl, hl, h⟩ := h
  refine ⟨A, c, rfl, hl, fun h0 => ?_⟩
  obtain ⟨b, off, rfl, hb0, hc⟩ := h h0
  refine ⟨b, off, rfl, Nat.lt_of_lt_of_le hb0 hb.size, fun k hk => ?_⟩
  rw [hb.cell (p := ⟨b, _, none⟩) hb0, hb.cell (p := ⟨b, _, none⟩) hb0]
  exact hc k hk


theorem textOf_take (ts : List Tok) (k : Nat) (h : k < ts.length) : textOf (ts.take (k + 1)) = textOf (ts.take k) ++ (tokAt ts k).text := by
  rw [List.take_succ_eq_append_getElem h, textOf_append]
  simp [textOf, tokAt, List.getElem?_eq_getElem h]
theorem textOf_take_le (ts : List Tok) (k : Nat) : (textOf (ts.take k)).length ≤ (textOf ts).length := by
  conv => rhs; rw [← List.take_append_drop k ts, textOf_append, List.length_append]
  omega

/-- What joined comes to. -/
def JoinedPost (w : World) (ts : List Tok) (e : Ending) (w' : World) : Prop :=
  ∃ (s : List UInt8) (ok : Bool), e = .returned (.tuple #[.string (S s), .bool ok]) ∧ (ok = decide ((textOf ts).length ≤ 20000)) ∧ (ok = true → s = textOf ts) ∧ Below w.heap.size w w'

set_option maxHeartbeats 1000000 in
theorem joined_calls (v : Value) (ts : List Tok) (w : World) (h : ReadT w v ts) :
    Calls Tryz.prog 51 #[v] w (JoinedPost w ts) := by
  obtain ⟨A, c, rfl, hl, h⟩ := h
  go_enter Tryz.func51, Tryz.ntmps51
  go_wp2
  go_loopw [9] (fun i wr => ∃ k : Nat, k ≤ ts.length ∧ i = .int .i64 k ∧ BuildL w.heap.size w.heap.size (textOf (ts.take k)) wr ∧ (textOf (ts.take k)).length ≤ 40000 ∧ Below w.heap.size w wr) (fun i _ => ts.length - (intOf i).toNat)
  case atStart => exact ⟨0, Nat.zero_le _, rfl, BuildL.fresh w, by simp [textOf], bel_alloc (Below.refl _ _) _⟩
  case round =>
    obtain ⟨k, hk, rfl, hB, hn, hb⟩ := hrel
    have hsz := hb.size
    by_cases hlt : k < ts.length
    · obtain ⟨b, off, rfl, hb0, hc⟩ := h (by omega)
      obtain ⟨hc1, hc2⟩ := hc k hlt
      have g1 : wr.cell? ⟨b, off + k * 2, none⟩ = some (.int .i64 (tokAt ts k).kind) := by rw [hb.cell (p := ⟨b, _, none⟩) hb0]; exact hc1
      have g2 : wr.cell? ⟨b, off + k * 2 + 1, none⟩ = some (.string (S (tokAt ts k).text)) := by rw [hb.cell (p := ⟨b, _, none⟩) hb0]; exact hc2
      clear hc1 hc2 hc
      have ht := Lib.hid (textOf_take ts k hlt)
      by_cases hbig : 20000 < (textOf (ts.take k)).length
      · go_wp2_with (go_at_call 70; refine (builder_Len w.heap.size w.heap.size (textOf (ts.take k)) _ (hB.alloc _)).mono ?_; rintro e w' ⟨rfl, rfl⟩)
        go_ret2
        have := textOf_take_le ts k
        exact ⟨[], false, rfl, by simp; omega, by simp, bel_alloc hb _⟩
      · by_cases hbig2 : 20000 < (tokAt ts k).text.length
        · go_wp2_with (go_at_call 70; refine (builder_Len w.heap.size w.heap.size (textOf (ts.take k)) _ (hB.alloc _)).mono ?_; rintro e w' ⟨rfl, rfl⟩)
          go_ret2
          have h1 := textOf_take_le ts (k + 1)
          rw [ht.out, List.length_append] at h1
          exact ⟨[], false, rfl, by simp; omega, by simp, bel_alloc hb _⟩
        · go_wp2_with (first
            | (go_at_call 70; refine (builder_Len w.heap.size w.heap.size (textOf (ts.take k)) _ (hB.alloc _)).mono ?_; rintro e w' ⟨rfl, rfl⟩)
            | (go_at_call 71; refine (builder_Write w.heap.size w.heap.size (textOf (ts.take k)) (tokAt ts k).text _ (hB.alloc _) (by omega) (by simp; omega)).mono ?_; rintro e w2 ⟨rfl, hB2, hb2⟩))
          go_roundw
          case rel => exact ⟨k + 1, by omega, by go_num, by rw [ht.out]; exact hB2, by rw [ht.out, List.length_append]; omega, (bel_alloc hb _).trans hb2⟩
          case measure => simp [intOf]; omega
    · have hkk : k = ts.length := by omega
      subst hkk
      rw [List.take_length] at hB hn
      go_wp2_with (first
            | (go_at_call 72; refine (builder_String_f w.heap.size w.heap.size (textOf ts) _ hB.f hsz).mono ?_; rintro e w2 ⟨rfl, hB2, hb2⟩)
            | (go_at_call 70; refine (builder_Len_f w.heap.size w.heap.size (textOf ts) _ hB2).mono ?_; rintro e w' ⟨rfl, rfl⟩))
      go_ret2
      refine ⟨textOf ts, _, rfl, ?_, fun _ => rfl, hb.trans hb2⟩
      first | (rw [decide_eq_decide]; omega) | (simp; omega)

end Go.Proofs.YtepgjaecfoaenaaGreatDoor
