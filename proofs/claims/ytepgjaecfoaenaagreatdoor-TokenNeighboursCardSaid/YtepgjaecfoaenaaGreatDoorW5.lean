/- The walk of the token package's next. Conditions: the string has a byte, and no more than an int can tell. -/
import Derived.Test.YtepgjaecfoaenaaGreatDoorW4
namespace Go.Proofs.YtepgjaecfoaenaaGreatDoor
open Go.RowKit
set_option linter.unusedVariables false
set_option linter.unusedSimpArgs false

theorem runBad_le : ∀ l : List UInt8, runBad l ≤ l.length
  | [] => Nat.le_refl _
  | c :: r => by
    have := runBad_le r
    unfold runBad
    split
    · omega
    · split <;> simp <;> omega

/-- The place where a bad token that has no quote ends, from a place on. -/
def badAt (l : List UInt8) (k : Nat) : Nat := k + runBad (l.drop k)
theorem badAt_end (l : List UInt8) (k : Nat) (h : l.length = k) : badAt l k = k := by
  unfold badAt; rw [List.drop_eq_nil_of_le (by omega)]; rfl
theorem badAt_quote (l : List UInt8) (k : Nat) (h : k < l.length) (hc : at_ l k = 34) : badAt l k = k := by
  unfold badAt; rw [drop_at l k h, runBad, if_pos hc]; rfl
theorem badAt_good (l : List UInt8) (k : Nat) (h : k < l.length) (hg : 0 < (goodKN (l.drop k)).2) : badAt l k = k := by
  unfold badAt; rw [drop_at l k h] at hg ⊢; rw [runBad]; split <;> simp [hg]
theorem badAt_on (l : List UInt8) (k : Nat) (h : k < l.length) (hc : at_ l k ≠ 34) (hg : ¬ 0 < (goodKN (l.drop k)).2) : badAt l k = badAt l (k + 1) := by
  unfold badAt; rw [drop_at l k h] at hg ⊢; rw [runBad, if_neg hc, if_neg hg]; omega

set_option maxHeartbeats 1000000 in
theorem next_calls (l : List UInt8) (w : World) (h0 : 0 < l.length) (hs : l.length ≤ 9223372036854775000) :
    Calls Tryz.prog 50 #[.string (S l)] w fun e w' => e = .returned (tokV (nextT l)) ∧ Below w.heap.size w w' := by
  have r4 := lineN_le l
  by_cases hg : 0 < (goodKN l).2
  · have hn : nextT l = goodT l := by unfold nextT goodT nextKN; rw [if_pos hg]
    rw [hn]; clear hn
    go_enter Tryz.func50, Tryz.ntmps50
    go_wp2_with fail
    refine (good_calls _ _ h0 hs).mono ?_
    rintro e w1 ⟨rfl, hb⟩
    obtain ⟨hc, hf⟩ := bcell hb
    have hz : w.heap.size < w1.heap.size := by have := hb.size; simp at this; omega
    go_wp2
    refine bodyPost_ret (v := tokV (goodT l)) (by simp [results, Tryz.results50, go_sem, hc, hz]) rfl ⟨rfl, ?_⟩
    exact bel_alloc (bel_set (bel_set (bel_then (bel_alloc (Below.refl _ _) _) hb) _ _ (Nat.le_refl _)) _ _ (Nat.le_refl _)) _
  · have hg' : (goodKN l).2 = 0 := by omega
    have hgd : decide (0 < (goodKN l).2) = false := by simp [hg']
    by_cases hq : at_ l 0 = 34
    · have hn : nextT l = ⟨8, l.take (lineN l)⟩ := by unfold nextT nextKN; rw [if_neg hg, if_pos hq]
      rw [hn]; clear hn
      have hqi : ((at_ l 0).toNat == (34 : Int)) = true := by rw [hq]; rfl
      clear hq hg hg'
      go_enter Tryz.func50, Tryz.ntmps50
      go_wp2_with fail
      refine (good_calls _ _ h0 hs).mono ?_
      rintro e w1 ⟨rfl, hb⟩
      obtain ⟨hc, hf⟩ := bcell hb
      have hz : w.heap.size < w1.heap.size := by have := hb.size; simp at this; omega
      go_wp2_with (first | (go_at_call 69; refine (line_calls _ _).mono ?_; rintro e w' ⟨rfl, rfl⟩))
      refine bodyPost_ret (v := tokV ⟨8, l.take (lineN l)⟩) (by simp [results, Tryz.results50, go_sem, hc, hz]) rfl ⟨rfl, ?_⟩
      exact bel_alloc (bel_set (bel_set (bel_then (bel_alloc (Below.refl _ _) _) hb) _ _ (Nat.le_refl _)) _ _ (Nat.le_refl _)) _
    · have hn : nextT l = ⟨8, l.take (badAt l 1)⟩ := by unfold nextT nextKN badAt; rw [if_neg hg, if_neg hq]
      rw [hn]; clear hn
      have hqi : ((at_ l 0).toNat == (34 : Int)) = false := by
        cases h : ((at_ l 0).toNat == (34 : Int)) with
        | false => rfl
        | true => exact absurd (byte_yes 34 h) hq
      clear hq hg hg'
      go_enter Tryz.func50, Tryz.ntmps50
      go_wp2_with fail
      refine (good_calls _ _ h0 hs).mono ?_
      rintro e w1 ⟨rfl, hb⟩
      obtain ⟨hc, hf⟩ := bcell hb
      have hz : w.heap.size < w1.heap.size := by have := hb.size; simp at this; omega
      go_wp2
      have hb0 : Below (w.heap.size + 1) (w.alloc (Obj.cells #[Value.int IntKind.i64 0, Value.string { data := #[] }] 23)) (w1.alloc (Obj.cells #[Value.int IntKind.i64 (goodT l).kind, Value.string (S (goodT l).text)] 23)) :=
        (hb.mono (by simp)).alloc (by omega) _
      clear hb hc hf
      go_loopw [5] (fun i wr => ∃ k : Nat, 1 ≤ k ∧ k ≤ l.length ∧ i = .int .i64 k ∧ Hid (badAt l 1 = badAt l k) ∧ Below (w.heap.size + 1) (w.alloc (Obj.cells #[Value.int IntKind.i64 0, Value.string { data := #[] }] 23)) wr) (fun i _ => l.length - (intOf i).toNat)
      case atStart => exact ⟨1, Nat.le_refl _, h0, rfl, Lib.hid rfl, hb0⟩
      case round =>
        obtain ⟨k, hk, hkl, rfl, hq, hb⟩ := hrel
        clear hb0
        obtain ⟨hc, hf⟩ := bcell (W := w.alloc (Obj.cells #[Value.int IntKind.i64 0, Value.string { data := #[] }] 23)) (hb.mono (by simp))
        have hz : w.heap.size < wr.heap.size := by have := hb.size; simp at this; omega
        by_cases hlt : k < l.length
        · by_cases hq4 : ((at_ l k).toNat == (34 : Int)) = true
          · have e1 : badAt l 1 = k := by rw [hq.out]; exact badAt_quote l k hlt (byte_yes 34 hq4)
            have HE := Lib.hid e1; clear e1
            go_wp2
            refine bodyPost_ret (v := tokV ⟨8, l.take k⟩) (by simp [results, Tryz.results50, go_sem, hc, hz]) rfl ⟨by rw [HE.out], ?_⟩
            exact bel_set (bel_set (bel_then (bel_alloc (Below.refl _ _) _) (hb.mono (by simp))) _ _ (Nat.le_refl _)) _ _ (Nat.le_refl _)
          · have hqf : ((at_ l k).toNat == (34 : Int)) = false := by simpa using hq4
            have hne : at_ l k ≠ 34 := byte_no 34 hqf
            by_cases hgk : 0 < (goodKN (l.drop k)).2
            · have e1 : badAt l 1 = k := by rw [hq.out]; exact badAt_good l k hlt hgk
              have HE := Lib.hid e1; clear e1 hne
              go_wp2_with fail
              refine (good_calls (l.drop k) _ (by simp; omega) (by simp; omega)).mono ?_
              rintro e w2 ⟨rfl, hb2⟩
              have hb3 := hb.trans (hb2.mono (by have := hb.size; simp at this; omega))
              clear hb hb2 hc hf
              obtain ⟨hc, hf⟩ := bcell (W := w.alloc (Obj.cells #[Value.int IntKind.i64 0, Value.string { data := #[] }] 23)) (hb3.mono (by simp))
              have hz : w.heap.size < w2.heap.size := by have := hb3.size; simp at this; omega
              go_wp2
              refine bodyPost_ret (v := tokV ⟨8, l.take k⟩) (by simp [results, Tryz.results50, go_sem, hc, hz]) rfl ⟨by rw [HE.out], ?_⟩
              exact bel_alloc (bel_set (bel_set (bel_then (bel_alloc (Below.refl _ _) _) (hb3.mono (by simp))) _ _ (Nat.le_refl _)) _ _ (Nat.le_refl _)) _
            · have e1 : badAt l 1 = badAt l (k + 1) := by rw [hq.out]; exact badAt_on l k hlt hne hgk
              have HE := Lib.hid e1; clear e1 hne
              go_wp2_with fail
              refine (good_calls (l.drop k) _ (by simp; omega) (by simp; omega)).mono ?_
              rintro e w2 ⟨rfl, hb2⟩
              have hb3 := hb.trans (hb2.mono (by have := hb.size; simp at this; omega))
              clear hb hb2 hc hf
              have hz : w.heap.size < w2.heap.size := by have := hb3.size; simp at this; omega
              go_wp2
              go_roundw
              case rel => exact ⟨k + 1, by omega, by omega, by go_num, HE, hb3.alloc (by omega) _⟩
              case measure => simp [intOf]; omega
        · have e1 : badAt l 1 = k := by rw [hq.out]; exact badAt_end l k (by omega)
          have HE := Lib.hid e1; clear e1
          go_wp2
          refine bodyPost_ret (v := tokV ⟨8, l.take k⟩) (by simp [results, Tryz.results50, go_sem, hc, hz]) rfl ⟨by rw [HE.out], ?_⟩
          exact bel_set (bel_set (bel_then (bel_alloc (Below.refl _ _) _) (hb.mono (by simp))) _ _ (Nat.le_refl _)) _ _ (Nat.le_refl _)

end Go.Proofs.YtepgjaecfoaenaaGreatDoor
