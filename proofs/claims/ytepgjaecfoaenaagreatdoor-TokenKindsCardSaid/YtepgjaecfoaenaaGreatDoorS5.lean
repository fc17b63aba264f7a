/- The reference's Next: the token that begins at a place. Condition: a string is no longer than an int can tell, a place is in it. -/
import Derived.Test.YtepgjaecfoaenaaGreatDoorS4
namespace Go.Proofs.YtepgjaecfoaenaaGreatDoor
open Go.RowKit
set_option linter.unusedVariables false
set_option linter.unusedSimpArgs false

theorem cut_at (l : List UInt8) (k m : Nat) : (l.take m).drop k = (l.drop k).take (m - k) := by rw [List.drop_take]
theorem nx_of {l : List UInt8} {k m : Nat} {n : Int} (h : nextKN (l.drop k) = (n, m - k)) : nextT (l.drop k) = ⟨n, (l.take m).drop k⟩ := by
  unfold nextT; rw [h, cut_at]
theorem nx_blank {l : List UInt8} {k m : Nat} (hk : k < l.length) (h1 : isBlank (at_ l k) = true) (hr : runN isBlank (l.drop k) = m - k) : nextT (l.drop k) = ⟨1, (l.take m).drop k⟩ :=
  nx_of (by rw [next_blank (by simp; omega) (by rw [at_drop]; exact h1), hr])
theorem nx_remark {l : List UInt8} {k m : Nat} (h1 : isBlank (at_ l k) = false) (h2 : pre (l.drop k) = true) (hr : lineN (l.drop k) = m - k) : nextT (l.drop k) = ⟨2, (l.take m).drop k⟩ := by
  have e := good_remark (l := l.drop k) (by rw [at_drop]; exact h1) h2
  have := line_remark h2
  exact nx_of (by rw [next_good (by rw [e]; show 0 < lineN _; omega), e, hr])
theorem nx_letter {l : List UInt8} {k m : Nat} (hk : k < l.length) (h1 : isBlank (at_ l k) = false) (h2 : pre (l.drop k) = false) (h3 : isLetter (at_ l k) = true) (hr : runN isAlnum (l.drop k) = m - k) :
    nextT (l.drop k) = ⟨if inL wordsL ((l.take m).drop k) then 4 else 3, (l.take m).drop k⟩ := by
  have e := good_letter (l := l.drop k) (by rw [at_drop]; exact h1) h2 (by rw [at_drop]; exact h3)
  have hp := runN_pos isAlnum (l.drop k) (by simp; omega) (by rw [at_drop]; exact alnum_letter h3)
  rw [hr, ← cut_at] at e
  exact nx_of (by rw [next_good (by rw [e]; show 0 < m - k; omega), e]; rfl)
theorem nx_digit {l : List UInt8} {k m : Nat} (hk : k < l.length) (h1 : isBlank (at_ l k) = false) (h2 : pre (l.drop k) = false) (h3 : isLetter (at_ l k) = false) (h4 : isDigit (at_ l k) = true) (hr : runN isDigit (l.drop k) = m - k) :
    nextT (l.drop k) = ⟨5, (l.take m).drop k⟩ := by
  have e := good_digit (l := l.drop k) (by rw [at_drop]; exact h1) h2 (by rw [at_drop]; exact h3) (by rw [at_drop]; exact h4)
  have hp := runN_pos isDigit (l.drop k) (by simp; omega) (by rw [at_drop]; exact h4)
  exact nx_of (by rw [next_good (by rw [e]; show 0 < runN _ _; omega), e, hr])
theorem quoted_end (l : List UInt8) (k : Nat) : quotedN (l.drop k) = qEnd l k - k := by
  unfold quotedN qEnd
  rw [List.drop_drop]
  cases qbody (l.drop (k + 1)) <;> simp [qRes]; omega
theorem qEnd_pos (l : List UInt8) (k : Nat) (h : 0 < qEnd l k) : k < qEnd l k ∧ qEnd l k ≤ l.length := by
  have := quotedN_le (l.drop k)
  rw [quoted_end] at this
  unfold qEnd at h this ⊢
  cases hq : qbody (l.drop (k + 1)) with
  | none => rw [hq] at h; simp [qRes] at h
  | some m => rw [hq] at this; simp only [qRes, List.length_drop] at this ⊢; have := qbody_le _ _ (Nat.le_refl _) m hq; simp only [List.length_drop] at this; omega
theorem nx_quote {l : List UInt8} {k : Nat} (h5 : at_ l k = 34) (hq : 0 < qEnd l k) : nextT (l.drop k) = ⟨6, (l.take (qEnd l k)).drop k⟩ := by
  have e := good_quote (l := l.drop k) (by rw [at_drop]; exact h5)
  have := qEnd_pos l k hq
  rw [quoted_end] at e
  exact nx_of (by rw [next_good (by rw [e]; show 0 < qEnd l k - k; omega), e])
theorem nx_badq {l : List UInt8} {k m : Nat} (h5 : at_ l k = 34) (hq : qEnd l k = 0) (hr : lineN (l.drop k) = m - k) : nextT (l.drop k) = ⟨8, (l.take m).drop k⟩ := by
  have e := good_quote (l := l.drop k) (by rw [at_drop]; exact h5)
  rw [quoted_end, hq] at e
  exact nx_of (by rw [next_bad (by rw [e]; simp), at_drop, if_pos h5, hr])
theorem nx_sign {l : List UInt8} {k : Nat} (h1 : isBlank (at_ l k) = false) (h2 : pre (l.drop k) = false) (h3 : isLetter (at_ l k) = false) (h4 : isDigit (at_ l k) = false) (h5 : at_ l k ≠ 34) (hs : 0 < signN (l.drop k)) :
    nextT (l.drop k) = ⟨7, (l.take (k + signN (l.drop k))).drop k⟩ := by
  have e := good_sign (l := l.drop k) (by rw [at_drop]; exact h1) h2 (by rw [at_drop]; exact h3) (by rw [at_drop]; exact h4) (by rw [at_drop]; exact h5)
  exact nx_of (by rw [next_good (by rw [e]; exact hs), e]; congr 1; omega)
theorem begins_good {d : List UInt8} (h0 : 0 < d.length) : beginsB d = (at_ d 0 == 34 || decide (0 < (goodKN d).2)) := by
  unfold beginsB
  by_cases h5 : at_ d 0 = 34
  · simp [h5]
  · rw [show (at_ d 0 == 34) = false by simp [h5]]
    by_cases hg : 0 < (goodKN d).2
    · simp only [hg, decide_true, Bool.or_true]
      cases h1 : isBlank (at_ d 0) with
      | true => rfl
      | false =>
        cases h3 : isLetter (at_ d 0) with
        | true => rfl
        | false =>
          cases h4 : isDigit (at_ d 0) with
          | true => rfl
          | false =>
            cases h2 : pre d with
            | true => rfl
            | false => rw [good_sign h1 h2 h3 h4 h5] at hg; simpa using hg
    · obtain ⟨h1, h2, h3, h4⟩ := good_cut (l := d) (by omega) h0
      rw [good_sign h1 h2 h3 h4 h5] at hg ⊢
      rw [h1, h2, h3, h4]; simp
theorem nx_bad {l : List UInt8} {k m : Nat} (hk : k < l.length) (hb : beginsB (l.drop k) = false) (hr : badAt l (k + 1) = m) :
    nextT (l.drop k) = ⟨8, (l.take m).drop k⟩ := by
  rw [begins_good (by simp; omega), Bool.or_eq_false_iff] at hb
  have hq : at_ l k ≠ 34 := by have := hb.1; rw [at_drop] at this; simpa using this
  have hg : (goodKN (l.drop k)).2 = 0 := by have := hb.2; simp at this; exact this
  refine nx_of ?_
  rw [next_bad hg, at_drop, if_neg hq, List.drop_drop]
  unfold badAt at hr
  congr 1; omega
theorem bad_stop {l : List UInt8} {m : Nat} (hm : m < l.length) (h : beginsB (l.drop m) = true) : badAt l m = m := by
  rw [begins_good (by simp; omega), Bool.or_eq_true] at h
  rcases h with h | h
  · rw [at_drop] at h; exact badAt_quote l m hm (by simpa using h)
  · exact badAt_good l m hm (by simpa using h)
theorem bad_on {l : List UInt8} {m : Nat} (hm : m < l.length) (h : beginsB (l.drop m) = false) : badAt l m = badAt l (m + 1) := by
  rw [begins_good (by simp; omega), Bool.or_eq_false_iff] at h
  exact badAt_on l m hm (by have := h.1; rw [at_drop] at this; simpa using this) (by have := h.2; simpa using this)

set_option maxRecDepth 100000 in
set_option maxHeartbeats 4000000 in
theorem Rnext_calls (l : List UInt8) (k : Nat) (w : World) (hk : k < l.length) (hs : l.length ≤ 9223372036854775000) :
    Calls Tryz.prog 48 #[.string (S l), .int .i64 k] w fun e w' => e = .returned (tokV (nextT (l.drop k))) ∧ Below w.heap.size w w' := by
  have q1 : (k : Int) < (l.length : Int) := by omega
  have q2 : (0 : Int) ≤ (k : Int) := by omega
  have hw1 : w.heap.size < (w.alloc (.cells #[.int .i64 0, .string ⟨#[]⟩] 23)).heap.size := by simp
  cases h1 : isBlank (at_ l k) with
  | true =>
    go_enter Tryz.func48, Tryz.ntmps48
    go_wp2_with (go_at_call 59; refine (RBlank_calls _ _).mono ?_; rw [h1]; rintro e w' ⟨rfl, rfl⟩)
    go_loop [6] (fun i => ∃ m : Nat, k + 1 ≤ m ∧ m ≤ l.length ∧ i = .int .i64 m ∧ Hid (∀ j, k ≤ j → j < m → isBlank (at_ l j) = true)) (fun i => l.length - (intOf i).toNat)
    case atStart => exact ⟨k + 1, Nat.le_refl _, by omega, by go_num, Lib.hid (fun j a1 a2 => by rw [show j = k by omega]; exact h1)⟩
    case round =>
      obtain ⟨m, hkm, hm, rfl, hall⟩ := hrel
      have s1 : (0 : Int) ≤ (m : Int) := by omega
      have s2 : (m : Int) ≤ (l.length : Int) := by omega
      have s3 : (k : Int) ≤ (m : Int) := by omega
      by_cases hlt : m < l.length
      · have s4 : (m : Int) < (l.length : Int) := by omega
        cases hp : isBlank (at_ l m) with
        | true =>
          go_wp2_with (go_at_call 59; refine (RBlank_calls _ _).mono ?_; rw [hp]; rintro e w' ⟨rfl, rfl⟩)
          go_round
          case rel => exact ⟨m + 1, by omega, by omega, by go_num, Lib.hid (fun j h1 h2 => if h : j = m then h ▸ hp else hall.out j h1 (by omega))⟩
          case measure => simp [intOf]; omega
        | false =>
          have hr := runN_drop isBlank l k m (by omega) hm hall.out (.inr hp)
          go_wp2_with (go_at_call 59; refine (RBlank_calls _ _).mono ?_; rw [hp]; rintro e w' ⟨rfl, rfl⟩)
          refine bodyPost_ret (v := tokV ⟨1, (l.take m).drop k⟩) (by simp [results, Tryz.results48, go_sem]) rfl ⟨by first | (rw [nx_blank hk h1 hr]; done) | (rw [nx_blank hk h1 hr]; rfl) | rfl, ?_⟩
          exact (by repeat (first | exact Below.refl _ _ | assumption | refine bel_alloc ?_ _ | refine bel_drew ?_ | refine bel_drewN ?_ _ | refine bel_set ?_ _ _ (by first | exact Nat.le_refl _ | exact Nat.le_succ _ | (simp; done) | omega)))
      · have s4 : ¬ (m : Int) < (l.length : Int) := by omega
        have hr := runN_drop isBlank l k m (by omega) hm hall.out (.inl (by omega))
        go_wp2
        refine bodyPost_ret (v := tokV ⟨1, (l.take m).drop k⟩) (by simp [results, Tryz.results48, go_sem]) rfl ⟨by first | (rw [nx_blank hk h1 hr]; done) | (rw [nx_blank hk h1 hr]; rfl) | rfl, ?_⟩
        exact (by repeat (first | exact Below.refl _ _ | assumption | refine bel_alloc ?_ _ | refine bel_drew ?_ | refine bel_drewN ?_ _ | refine bel_set ?_ _ _ (by first | exact Nat.le_refl _ | exact Nat.le_succ _ | (simp; done) | omega)))
  | false =>
    cases h2 : pre (l.drop k) with
    | true =>
      have hln := lineN_le (l.drop k)
      have hll : k + lineN (l.drop k) ≤ l.length := by rw [List.length_drop] at hln; omega
      obtain ⟨m, hm⟩ : ∃ m, m = k + lineN (l.drop k) := ⟨_, rfl⟩
      have hkm : k ≤ m := by omega
      have hr : lineN (l.drop k) = m - k := by omega
      rw [← hm] at hll
      have HM := Lib.hid hm; clear hm
      have s1 : (0 : Int) ≤ (m : Int) := by omega
      have s2 : (m : Int) ≤ (l.length : Int) := by omega
      have s3 : (k : Int) ≤ (m : Int) := by omega
      go_enter Tryz.func48, Tryz.ntmps48
      go_wp2_with (first | (go_at_call 59; refine (RBlank_calls _ _).mono ?_; rw [h1]; rintro e w' ⟨rfl, rfl⟩) | (go_at_call 60; refine (Rremark_calls l k _ hs (by omega)).mono ?_; rw [h2]; rintro e w' ⟨rfl, rfl⟩) | (go_at_call 61; refine (Rline_calls l k _ hs (by omega)).mono ?_; rw [← HM.out]; rintro e w' ⟨rfl, rfl⟩))
      refine bodyPost_ret (v := tokV ⟨2, (l.take m).drop k⟩) (by simp [results, Tryz.results48, go_sem]) rfl ⟨by first | (rw [nx_remark h1 h2 hr]; done) | (rw [nx_remark h1 h2 hr]; rfl) | rfl, ?_⟩
      exact (by repeat (first | exact Below.refl _ _ | assumption | refine bel_alloc ?_ _ | refine bel_drew ?_ | refine bel_drewN ?_ _ | refine bel_set ?_ _ _ (by first | exact Nat.le_refl _ | exact Nat.le_succ _ | (simp; done) | omega)))
    | false =>
      cases h3 : isLetter (at_ l k) with
      | true =>
        go_enter Tryz.func48, Tryz.ntmps48
        go_wp2_with (first | (go_at_call 59; refine (RBlank_calls _ _).mono ?_; rw [h1]; rintro e w' ⟨rfl, rfl⟩) | (go_at_call 60; refine (Rremark_calls l k _ hs (by omega)).mono ?_; rw [h2]; rintro e w' ⟨rfl, rfl⟩) | (go_at_call 62; refine (RLetter_calls _ _).mono ?_; rw [h3]; rintro e w' ⟨rfl, rfl⟩))
        go_loop [6] (fun i => ∃ m : Nat, k + 1 ≤ m ∧ m ≤ l.length ∧ i = .int .i64 m ∧ Hid (∀ j, k ≤ j → j < m → isAlnum (at_ l j) = true)) (fun i => l.length - (intOf i).toNat)
        case atStart => exact ⟨k + 1, Nat.le_refl _, by omega, by go_num, Lib.hid (fun j a1 a2 => by rw [show j = k by omega]; exact (alnum_letter h3))⟩
        case round =>
          obtain ⟨m, hkm, hm, rfl, hall⟩ := hrel
          have s1 : (0 : Int) ≤ (m : Int) := by omega
          have s2 : (m : Int) ≤ (l.length : Int) := by omega
          have s3 : (k : Int) ≤ (m : Int) := by omega
          by_cases hlt : m < l.length
          · have s4 : (m : Int) < (l.length : Int) := by omega
            cases hp : isAlnum (at_ l m) with
            | true =>
              cases hL : isLetter (at_ l m) with
              | true =>
                go_wp2_with (go_at_call 62; refine (RLetter_calls _ _).mono ?_; rw [hL]; rintro e w' ⟨rfl, rfl⟩)
                go_round
                case rel => exact ⟨m + 1, by omega, by omega, by go_num, Lib.hid (fun j h1 h2 => if h : j = m then h ▸ hp else hall.out j h1 (by omega))⟩
                case measure => simp [intOf]; omega
              | false =>
                have hD : isDigit (at_ l m) = true := by simpa [isAlnum, hL] using hp
                go_wp2_with (first | (go_at_call 62; refine (RLetter_calls _ _).mono ?_; rw [hL]; rintro e w' ⟨rfl, rfl⟩) | (go_at_call 63; refine (RDigit_calls _ _).mono ?_; rw [hD]; rintro e w' ⟨rfl, rfl⟩))
                go_round
                case rel => exact ⟨m + 1, by omega, by omega, by go_num, Lib.hid (fun j h1 h2 => if h : j = m then h ▸ hp else hall.out j h1 (by omega))⟩
                case measure => simp [intOf]; omega
            | false =>
              have hr := runN_drop isAlnum l k m (by omega) hm hall.out (.inr hp)
              have hL : isLetter (at_ l m) = false := by simp [isAlnum] at hp; exact hp.1
              have hD : isDigit (at_ l m) = false := by simp [isAlnum] at hp; exact hp.2
              go_wp2_with (first | (go_at_call 62; refine (RLetter_calls _ _).mono ?_; rw [hL]; rintro e w' ⟨rfl, rfl⟩) | (go_at_call 63; refine (RDigit_calls _ _).mono ?_; rw [hD]; rintro e w' ⟨rfl, rfl⟩))
              have hnx := nx_letter hk h1 h2 h3 hr
              cases hx : inL wordsL ((l.take m).drop k)
              all_goals rw [hx] at hnx
              all_goals
                go_region_held3 (fun W => Below (w.heap.size + 1) (w.alloc (.cells #[.int .i64 0, .string ⟨#[]⟩] 23)) W) (first | exact hbw | exact bel_drew (Below.refl _ _) | exact (Below.refl _ _).drew)
                  (first
                    | (go_at_call 29; refine (RWords_calls _).mono ?_; rintro e w1 ⟨g, c, rfl, hg, hc, hb0⟩; have hbw : Below (w.heap.size + 1) (w.alloc (.cells #[.int .i64 0, .string ⟨#[]⟩] 23)) w1 := ((Below.refl _ _).drew).trans (hb0.mono (by simp)))
                    | (go_at_call 64; refine (has_calls g c wordsL ((l.take m).drop k) _ (by decide) hc).mono ?_; rw [hx]; rintro e w2 ⟨rfl, rfl⟩))
              all_goals clear hc
              all_goals obtain ⟨hcc, hff⟩ := bcell (W := (w.alloc (.cells #[.int .i64 0, .string ⟨#[]⟩] 23))) (hbw.mono (by simp))
              all_goals have hz : w.heap.size < w1.heap.size := by have := hbw.size; simp at this; omega
              all_goals have hb1 : Below w.heap.size w w1 := (bel_alloc (Below.refl _ _) _).trans (hbw.mono (by simp))
              all_goals go_wp2
              all_goals first
                | (refine bodyPost_ret (v := tokV ⟨3, (l.take m).drop k⟩) (by simp [results, Tryz.results48, go_sem, hcc, hz]) rfl ⟨by first | (rw [hnx]; done) | (rw [hnx]; rfl) | rfl, ?_⟩; exact (by repeat (first | exact Below.refl _ _ | assumption | refine bel_alloc ?_ _ | refine bel_drew ?_ | refine bel_drewN ?_ _ | refine bel_set ?_ _ _ (by first | exact Nat.le_refl _ | exact Nat.le_succ _ | (simp; done) | omega))))
                | (refine bodyPost_ret (v := tokV ⟨4, (l.take m).drop k⟩) (by simp [results, Tryz.results48, go_sem, hcc, hz]) rfl ⟨by first | (rw [hnx]; done) | (rw [hnx]; rfl) | rfl, ?_⟩; exact (by repeat (first | exact Below.refl _ _ | assumption | refine bel_alloc ?_ _ | refine bel_drew ?_ | refine bel_drewN ?_ _ | refine bel_set ?_ _ _ (by first | exact Nat.le_refl _ | exact Nat.le_succ _ | (simp; done) | omega))))
          · have s4 : ¬ (m : Int) < (l.length : Int) := by omega
            have hr := runN_drop isAlnum l k m (by omega) hm hall.out (.inl (by omega))
            go_wp2_with fail
            have hnx := nx_letter hk h1 h2 h3 hr
            cases hx : inL wordsL ((l.take m).drop k)
            all_goals rw [hx] at hnx
            all_goals
              go_region_held3 (fun W => Below (w.heap.size + 1) (w.alloc (.cells #[.int .i64 0, .string ⟨#[]⟩] 23)) W) (first | exact hbw | exact bel_drew (Below.refl _ _) | exact (Below.refl _ _).drew)
                (first
                  | (go_at_call 29; refine (RWords_calls _).mono ?_; rintro e w1 ⟨g, c, rfl, hg, hc, hb0⟩; have hbw : Below (w.heap.size + 1) (w.alloc (.cells #[.int .i64 0, .string ⟨#[]⟩] 23)) w1 := ((Below.refl _ _).drew).trans (hb0.mono (by simp)))
                  | (go_at_call 64; refine (has_calls g c wordsL ((l.take m).drop k) _ (by decide) hc).mono ?_; rw [hx]; rintro e w2 ⟨rfl, rfl⟩))
            all_goals clear hc
            all_goals obtain ⟨hcc, hff⟩ := bcell (W := (w.alloc (.cells #[.int .i64 0, .string ⟨#[]⟩] 23))) (hbw.mono (by simp))
            all_goals have hz : w.heap.size < w1.heap.size := by have := hbw.size; simp at this; omega
            all_goals have hb1 : Below w.heap.size w w1 := (bel_alloc (Below.refl _ _) _).trans (hbw.mono (by simp))
            all_goals go_wp2
            all_goals first
              | (refine bodyPost_ret (v := tokV ⟨3, (l.take m).drop k⟩) (by simp [results, Tryz.results48, go_sem, hcc, hz]) rfl ⟨by first | (rw [hnx]; done) | (rw [hnx]; rfl) | rfl, ?_⟩; exact (by repeat (first | exact Below.refl _ _ | assumption | refine bel_alloc ?_ _ | refine bel_drew ?_ | refine bel_drewN ?_ _ | refine bel_set ?_ _ _ (by first | exact Nat.le_refl _ | exact Nat.le_succ _ | (simp; done) | omega))))
              | (refine bodyPost_ret (v := tokV ⟨4, (l.take m).drop k⟩) (by simp [results, Tryz.results48, go_sem, hcc, hz]) rfl ⟨by first | (rw [hnx]; done) | (rw [hnx]; rfl) | rfl, ?_⟩; exact (by repeat (first | exact Below.refl _ _ | assumption | refine bel_alloc ?_ _ | refine bel_drew ?_ | refine bel_drewN ?_ _ | refine bel_set ?_ _ _ (by first | exact Nat.le_refl _ | exact Nat.le_succ _ | (simp; done) | omega))))
      | false =>
        cases h4 : isDigit (at_ l k) with
        | true =>
          go_enter Tryz.func48, Tryz.ntmps48
          go_wp2_with (first | (go_at_call 59; refine (RBlank_calls _ _).mono ?_; rw [h1]; rintro e w' ⟨rfl, rfl⟩) | (go_at_call 60; refine (Rremark_calls l k _ hs (by omega)).mono ?_; rw [h2]; rintro e w' ⟨rfl, rfl⟩) | (go_at_call 62; refine (RLetter_calls _ _).mono ?_; rw [h3]; rintro e w' ⟨rfl, rfl⟩) | (go_at_call 63; refine (RDigit_calls _ _).mono ?_; rw [h4]; rintro e w' ⟨rfl, rfl⟩))
          go_loop [6] (fun i => ∃ m : Nat, k + 1 ≤ m ∧ m ≤ l.length ∧ i = .int .i64 m ∧ Hid (∀ j, k ≤ j → j < m → isDigit (at_ l j) = true)) (fun i => l.length - (intOf i).toNat)
          case atStart => exact ⟨k + 1, Nat.le_refl _, by omega, by go_num, Lib.hid (fun j a1 a2 => by rw [show j = k by omega]; exact h4)⟩
          case round =>
            obtain ⟨m, hkm, hm, rfl, hall⟩ := hrel
            have s1 : (0 : Int) ≤ (m : Int) := by omega
            have s2 : (m : Int) ≤ (l.length : Int) := by omega
            have s3 : (k : Int) ≤ (m : Int) := by omega
            by_cases hlt : m < l.length
            · have s4 : (m : Int) < (l.length : Int) := by omega
              cases hp : isDigit (at_ l m) with
              | true =>
                go_wp2_with (go_at_call 63; refine (RDigit_calls _ _).mono ?_; rw [hp]; rintro e w' ⟨rfl, rfl⟩)
                go_round
                case rel => exact ⟨m + 1, by omega, by omega, by go_num, Lib.hid (fun j h1 h2 => if h : j = m then h ▸ hp else hall.out j h1 (by omega))⟩
                case measure => simp [intOf]; omega
              | false =>
                have hr := runN_drop isDigit l k m (by omega) hm hall.out (.inr hp)
                go_wp2_with (go_at_call 63; refine (RDigit_calls _ _).mono ?_; rw [hp]; rintro e w' ⟨rfl, rfl⟩)
                refine bodyPost_ret (v := tokV ⟨5, (l.take m).drop k⟩) (by simp [results, Tryz.results48, go_sem]) rfl ⟨by first | (rw [nx_digit hk h1 h2 h3 h4 hr]; done) | (rw [nx_digit hk h1 h2 h3 h4 hr]; rfl) | rfl, ?_⟩
                exact (by repeat (first | exact Below.refl _ _ | assumption | refine bel_alloc ?_ _ | refine bel_drew ?_ | refine bel_drewN ?_ _ | refine bel_set ?_ _ _ (by first | exact Nat.le_refl _ | exact Nat.le_succ _ | (simp; done) | omega)))
            · have s4 : ¬ (m : Int) < (l.length : Int) := by omega
              have hr := runN_drop isDigit l k m (by omega) hm hall.out (.inl (by omega))
              go_wp2
              refine bodyPost_ret (v := tokV ⟨5, (l.take m).drop k⟩) (by simp [results, Tryz.results48, go_sem]) rfl ⟨by first | (rw [nx_digit hk h1 h2 h3 h4 hr]; done) | (rw [nx_digit hk h1 h2 h3 h4 hr]; rfl) | rfl, ?_⟩
              exact (by repeat (first | exact Below.refl _ _ | assumption | refine bel_alloc ?_ _ | refine bel_drew ?_ | refine bel_drewN ?_ _ | refine bel_set ?_ _ _ (by first | exact Nat.le_refl _ | exact Nat.le_succ _ | (simp; done) | omega)))
        | false =>
          by_cases h5 : at_ l k = 34
          · have h5b : ((at_ l k).toNat == (34 : Int)) = true := byteT (d := 34) h5
            have H5 := Lib.hid h5; clear h5
            by_cases hq : 0 < qEnd l k
            · obtain ⟨m, hm⟩ : ∃ m, m = qEnd l k := ⟨_, rfl⟩
              have hmm := qEnd_pos l k hq
              have hnx := nx_quote H5.out hq
              rw [← hm] at hq hmm hnx
              obtain ⟨hkm, hml⟩ := hmm
              have HM := Lib.hid hm; clear hm
              have hqb : decide ((m : Int) > 0) = true := by simp; omega
              have s1 : (0 : Int) ≤ (m : Int) := by omega
              have s2 : (m : Int) ≤ (l.length : Int) := by omega
              have s3 : (k : Int) ≤ (m : Int) := by omega
              go_enter Tryz.func48, Tryz.ntmps48
              go_wp2_with (first | (go_at_call 59; refine (RBlank_calls _ _).mono ?_; rw [h1]; rintro e w' ⟨rfl, rfl⟩) | (go_at_call 60; refine (Rremark_calls l k _ hs (by omega)).mono ?_; rw [h2]; rintro e w' ⟨rfl, rfl⟩) | (go_at_call 62; refine (RLetter_calls _ _).mono ?_; rw [h3]; rintro e w' ⟨rfl, rfl⟩) | (go_at_call 63; refine (RDigit_calls _ _).mono ?_; rw [h4]; rintro e w' ⟨rfl, rfl⟩) | (go_at_call 65; refine (Rquoted_calls l k _ hk hs).mono ?_; rw [← HM.out]; rintro e w1 ⟨rfl, hb⟩; obtain ⟨hcc, hff⟩ := bcell hb; have hz : w.heap.size < w1.heap.size := (by have := hb.size; simp at this; omega); have hb1 := bel_then (bel_alloc (Below.refl w.heap.size w) (.cells #[.int .i64 0, .string ⟨#[]⟩] 23)) hb))
              refine bodyPost_ret (v := tokV ⟨6, (l.take m).drop k⟩) (by simp [results, Tryz.results48, go_sem, hcc, hz]) rfl ⟨by first | (rw [hnx]; done) | (rw [hnx]; rfl) | rfl, ?_⟩
              exact (by repeat (first | exact Below.refl _ _ | assumption | refine bel_alloc ?_ _ | refine bel_drew ?_ | refine bel_drewN ?_ _ | refine bel_set ?_ _ _ (by first | exact Nat.le_refl _ | exact Nat.le_succ _ | (simp; done) | omega)))
            · have hq0 : qEnd l k = 0 := by omega
              have hln := lineN_le (l.drop k)
              have hll : k + lineN (l.drop k) ≤ l.length := by rw [List.length_drop] at hln; omega
              obtain ⟨m, hm⟩ : ∃ m, m = k + lineN (l.drop k) := ⟨_, rfl⟩
              have hkm : k ≤ m := by omega
              have hr : lineN (l.drop k) = m - k := by omega
              have hnx := nx_badq H5.out hq0 hr
              rw [← hm] at hll
              have HM := Lib.hid hm; clear hm
              clear hq hr hln
              have s1 : (0 : Int) ≤ (m : Int) := by omega
              have s2 : (m : Int) ≤ (l.length : Int) := by omega
              have s3 : (k : Int) ≤ (m : Int) := by omega
              go_enter Tryz.func48, Tryz.ntmps48
              go_wp2_with (first | (go_at_call 59; refine (RBlank_calls _ _).mono ?_; rw [h1]; rintro e w' ⟨rfl, rfl⟩) | (go_at_call 60; refine (Rremark_calls l k _ hs (by omega)).mono ?_; rw [h2]; rintro e w' ⟨rfl, rfl⟩) | (go_at_call 62; refine (RLetter_calls _ _).mono ?_; rw [h3]; rintro e w' ⟨rfl, rfl⟩) | (go_at_call 63; refine (RDigit_calls _ _).mono ?_; rw [h4]; rintro e w' ⟨rfl, rfl⟩) | (go_at_call 65; refine (Rquoted_calls l k _ hk hs).mono ?_; rw [hq0]; rintro e w1 ⟨rfl, hb⟩; obtain ⟨hcc, hff⟩ := bcell hb; have hz : w.heap.size < w1.heap.size := (by have := hb.size; simp at this; omega); have hb1 := bel_then (bel_alloc (Below.refl w.heap.size w) (.cells #[.int .i64 0, .string ⟨#[]⟩] 23)) hb) | (go_at_call 61; refine (Rline_calls l k _ hs (by omega)).mono ?_; rw [← HM.out]; rintro e w' ⟨rfl, rfl⟩))
              refine bodyPost_ret (v := tokV ⟨8, (l.take m).drop k⟩) (by simp [results, Tryz.results48, go_sem, hcc, hz]) rfl ⟨by first | (rw [hnx]; done) | (rw [hnx]; rfl) | rfl, ?_⟩
              exact (by repeat (first | exact Below.refl _ _ | assumption | refine bel_alloc ?_ _ | refine bel_drew ?_ | refine bel_drewN ?_ _ | refine bel_set ?_ _ _ (by first | exact Nat.le_refl _ | exact Nat.le_succ _ | (simp; done) | omega)))
          · have h5b : ((at_ l k).toNat == (34 : Int)) = false := byteF (d := 34) h5
            have H5 := Lib.hid h5; clear h5
            by_cases hsg : 0 < signN (l.drop k)
            · have hsl := signN_le (l.drop k)
              have hsb : decide ((signN (l.drop k) : Int) > 0) = true := by simp; omega
              have hnx := nx_sign h1 h2 h3 h4 H5.out hsg
              obtain ⟨n, hn⟩ : ∃ n, n = signN (l.drop k) := ⟨_, rfl⟩
              rw [← hn] at hsb hnx hsl hsg
              rw [List.length_drop] at hsl
              have HN := Lib.hid hn; clear hn
              have s1 : (0 : Int) ≤ (k : Int) + (n : Int) := by omega
              have s2 : (k : Int) + (n : Int) ≤ (l.length : Int) := by omega
              have s3 : (k : Int) ≤ (k : Int) + (n : Int) := by omega
              have s4 : ((k : Int) + (n : Int)).toNat = k + n := by omega
              have s5 : IntKind.i64.wrap ((k : Int) + (n : Int)) = (k : Int) + (n : Int) := wrapI _ (by omega)
              go_enter Tryz.func48, Tryz.ntmps48
              go_wp2_with (first | (go_at_call 59; refine (RBlank_calls _ _).mono ?_; rw [h1]; rintro e w' ⟨rfl, rfl⟩) | (go_at_call 60; refine (Rremark_calls l k _ hs (by omega)).mono ?_; rw [h2]; rintro e w' ⟨rfl, rfl⟩) | (go_at_call 62; refine (RLetter_calls _ _).mono ?_; rw [h3]; rintro e w' ⟨rfl, rfl⟩) | (go_at_call 63; refine (RDigit_calls _ _).mono ?_; rw [h4]; rintro e w' ⟨rfl, rfl⟩) | (go_at_call 66; refine (Rsign_calls l k _ hk hs).mono ?_; rw [← HN.out]; rintro e w1 ⟨rfl, hb⟩; obtain ⟨hcc, hff⟩ := bcell hb; have hz : w.heap.size < w1.heap.size := (by have := hb.size; simp at this; omega); have hb1 := bel_then (bel_alloc (Below.refl w.heap.size w) (.cells #[.int .i64 0, .string ⟨#[]⟩] 23)) hb))
              refine bodyPost_ret (v := tokV ⟨7, (l.take (k + n)).drop k⟩) (by simp [results, Tryz.results48, go_sem, hcc, hz]) rfl ⟨by first | (rw [hnx]; done) | (rw [hnx]; rfl) | rfl, ?_⟩
              exact (by repeat (first | exact Below.refl _ _ | assumption | refine bel_alloc ?_ _ | refine bel_drew ?_ | refine bel_drewN ?_ _ | refine bel_set ?_ _ _ (by first | exact Nat.le_refl _ | exact Nat.le_succ _ | (simp; done) | omega)))
            · have hs0 : signN (l.drop k) = 0 := by omega
              have hbg : beginsB (l.drop k) = false := by
                unfold beginsB; rw [at_drop, h1, h2, h3, h4, hs0]; simp; exact H5.out
              clear hsg
              go_enter Tryz.func48, Tryz.ntmps48
              go_wp2_with (first | (go_at_call 59; refine (RBlank_calls _ _).mono ?_; rw [h1]; rintro e w' ⟨rfl, rfl⟩) | (go_at_call 60; refine (Rremark_calls l k _ hs (by omega)).mono ?_; rw [h2]; rintro e w' ⟨rfl, rfl⟩) | (go_at_call 62; refine (RLetter_calls _ _).mono ?_; rw [h3]; rintro e w' ⟨rfl, rfl⟩) | (go_at_call 63; refine (RDigit_calls _ _).mono ?_; rw [h4]; rintro e w' ⟨rfl, rfl⟩) | (go_at_call 66; refine (Rsign_calls l k _ hk hs).mono ?_; rw [hs0]; rintro e w1 ⟨rfl, hb⟩))
              have hb0 : Below (w.heap.size + 1) (w.alloc (.cells #[.int .i64 0, .string ⟨#[]⟩] 23)) w1 := hb.mono (by simp)
              clear hb
              go_loopw [6] (fun i wr => ∃ m : Nat, k + 1 ≤ m ∧ m ≤ l.length ∧ i = .int .i64 m ∧ Hid (badAt l (k + 1) = badAt l m) ∧ Below (w.heap.size + 1) (w.alloc (.cells #[.int .i64 0, .string ⟨#[]⟩] 23)) wr) (fun i _ => l.length - (intOf i).toNat)
              case atStart => exact ⟨k + 1, Nat.le_refl _, by omega, by go_num, Lib.hid rfl, hb0⟩
              case round =>
                obtain ⟨m, hkm, hm, rfl, hq, hb⟩ := hrel
                clear hb0
                have s1 : (0 : Int) ≤ (m : Int) := by omega
                have s2 : (m : Int) ≤ (l.length : Int) := by omega
                have s3 : (k : Int) ≤ (m : Int) := by omega
                by_cases hlt : m < l.length
                · have s4 : (m : Int) < (l.length : Int) := by omega
                  cases hp : beginsB (l.drop m) with
                  | true =>
                    have hnx := nx_bad hk hbg (hq.out.trans (bad_stop hlt hp))
                    go_wp2_with (go_at_call 67; refine (Rbegins_calls l m _ hlt hs).mono ?_; rw [hp]; rintro e w2 ⟨rfl, hb2⟩; have hb3 := hb.trans (hb2.mono (by have := hb.size; simp at this; omega)); obtain ⟨hcc, hff⟩ := bcell (W := (w.alloc (.cells #[.int .i64 0, .string ⟨#[]⟩] 23))) (hb3.mono (by simp)); have hz : w.heap.size < w2.heap.size := (by have := hb3.size; simp at this; omega); have hb1 : Below w.heap.size w w2 := (bel_alloc (Below.refl _ _) _).trans (hb3.mono (by simp)))
                    refine bodyPost_ret (v := tokV ⟨8, (l.take m).drop k⟩) (by simp [results, Tryz.results48, go_sem, hcc, hz]) rfl ⟨by first | (rw [hnx]; done) | (rw [hnx]; rfl) | rfl, ?_⟩
                    exact (by repeat (first | exact Below.refl _ _ | assumption | refine bel_alloc ?_ _ | refine bel_drew ?_ | refine bel_drewN ?_ _ | refine bel_set ?_ _ _ (by first | exact Nat.le_refl _ | exact Nat.le_succ _ | (simp; done) | omega)))
                  | false =>
                    have HE := Lib.hid (hq.out.trans (bad_on hlt hp))
                    go_wp2_with (go_at_call 67; refine (Rbegins_calls l m _ hlt hs).mono ?_; rw [hp]; rintro e w2 ⟨rfl, hb2⟩; have hb3 := hb.trans (hb2.mono (by have := hb.size; simp at this; omega)))
                    go_roundw
                    case rel => exact ⟨m + 1, by omega, by omega, by go_num, HE, hb3⟩
                    case measure => simp [intOf]; omega
                · have s4 : ¬ (m : Int) < (l.length : Int) := by omega
                  have hnx := nx_bad hk hbg (hq.out.trans (badAt_end l m (by omega)))
                  obtain ⟨hcc, hff⟩ := bcell (W := (w.alloc (.cells #[.int .i64 0, .string ⟨#[]⟩] 23))) (hb.mono (by simp))
                  have hz : w.heap.size < wr.heap.size := by have := hb.size; simp at this; omega
                  have hb1 : Below w.heap.size w wr := (bel_alloc (Below.refl _ _) _).trans (hb.mono (by simp))
                  go_wp2
                  refine bodyPost_ret (v := tokV ⟨8, (l.take m).drop k⟩) (by simp [results, Tryz.results48, go_sem, hcc, hz]) rfl ⟨by first | (rw [hnx]; done) | (rw [hnx]; rfl) | rfl, ?_⟩
                  exact (by repeat (first | exact Below.refl _ _ | assumption | refine bel_alloc ?_ _ | refine bel_drew ?_ | refine bel_drewN ?_ _ | refine bel_set ?_ _ _ (by first | exact Nat.le_refl _ | exact Nat.le_succ _ | (simp; done) | omega)))

end Go.Proofs.YtepgjaecfoaenaaGreatDoor
