/- The reference's sign, quoted, begins. Condition: a string is no longer than an int can tell, a place is in it. -/
import Derived.Test.YtepgjaecfoaenaaGreatDoorS3
import Derived.Deep.RegionHeld3
namespace Go.Proofs.YtepgjaecfoaenaaGreatDoor
open Go.RowKit
set_option linter.unusedVariables false
set_option linter.unusedSimpArgs false

set_option maxHeartbeats 2000000 in
theorem Rsign_calls (l : List UInt8) (k : Nat) (w : World) (hk : k < l.length) (hs : l.length ≤ 9223372036854775000) :
    Calls Tryz.prog 66 #[.string (S l), .int .i64 k] w fun e w' => e = .returned (.int .i64 (signN (l.drop k))) ∧ Below w.heap.size w w' := by
  have b1 : (k : Int) + 1 ≤ (l.length : Int) := by omega
  have b0 : (k : Int) < (l.length : Int) := by omega
  have w1v : IntKind.i64.wrap ((k : Int) + 1) = (k : Int) + 1 := wrapI _ (by omega)
  have t1 : ((k : Int) + 1).toNat = k + 1 := by omega
  have c1 : (0 : Int) ≤ (k : Int) := by omega
  have c2 : (0 : Int) ≤ (k : Int) + 1 := by omega
  have c3 : (k : Int) ≤ (k : Int) + 1 := by omega
  have key1 : ¬ (2 ≤ (l.drop k).length ∧ isSign ((l.drop k).take 2) = true) → signN (l.drop k) = if inL signsL ((l.take (k + 1)).drop k) then 1 else 0 := by
    intro hn2
    rw [two_at]
    cases hy : inL signsL ((l.drop k).take 1) with
    | true => exact signN_one _ hn2 ⟨by simp; omega, hy⟩
    | false => exact signN_zero _ hn2 (by rintro ⟨_, h⟩; rw [isSign_in, hy] at h; cases h)
  by_cases h2 : k + 1 < l.length
  · have b2 : decide ((k : Int) + 1 < (l.length : Int)) = true := by simp; omega
    have b3 : (k : Int) + 2 ≤ (l.length : Int) := by omega
    have w2v : IntKind.i64.wrap ((k : Int) + 2) = (k : Int) + 2 := wrapI _ (by omega)
    have t2 : ((k : Int) + 2).toNat = k + 2 := by omega
    have c4 : (0 : Int) ≤ (k : Int) + 2 := by omega
    have c5 : (k : Int) ≤ (k : Int) + 2 := by omega
    have key2 : inL signsL ((l.take (k + 2)).drop k) = true → signN (l.drop k) = 2 := by
      rw [two_at]; exact fun h => signN_two _ (by simp; omega) h
    have key3 : inL signsL ((l.take (k + 2)).drop k) = false → signN (l.drop k) = if inL signsL ((l.take (k + 1)).drop k) then 1 else 0 := by
      rw [two_at]; intro h; exact key1 (by rintro ⟨_, h'⟩; rw [isSign_in, h] at h'; cases h')
    have K2 := Lib.hid key2; have K3 := Lib.hid key3
    clear key1 key2 key3 h2
    cases hx : inL signsL ((l.take (k + 2)).drop k) with
    | true =>
      rw [K2.out hx]
      go_enter Tryz.func66, Tryz.ntmps66
      go_wp2_with fail
      go_region_held3 (fun W => Below w.heap.size w W) (first | exact hb | exact bel_drew (Below.refl _ _))
        (first
          | (go_at_call 31; refine (RSigns_calls _).mono ?_; rintro e w1 ⟨g, c, rfl, hg, hc, hb0⟩; have hb := bel_then (bel_drew (Below.refl _ w)) hb0)
          | (go_at_call 64; refine (has_calls g c signsL ((l.take (k + 2)).drop k) _ (by decide) hc).mono ?_; rw [hx]; rintro e w2 ⟨rfl, rfl⟩))
      all_goals go_wp2
      all_goals go_ret
      all_goals exact ⟨rfl, hb⟩
    | false =>
      rw [K3.out hx]
      go_enter Tryz.func66, Tryz.ntmps66
      go_wp2_with fail
      go_region_held3 (fun W => Below w.heap.size w W) (first | exact hb | exact bel_drew (Below.refl _ _))
        (first
          | (go_at_call 31; refine (RSigns_calls _).mono ?_; rintro e w1 ⟨g, c, rfl, hg, hc, hb0⟩; have hb := bel_then (bel_drew (Below.refl _ w)) hb0)
          | (go_at_call 64; refine (has_calls g c signsL ((l.take (k + 2)).drop k) _ (by decide) hc).mono ?_; rw [hx]; rintro e w2 ⟨rfl, rfl⟩))
      clear hc
      go_wp2_with fail
      cases hy : inL signsL ((l.take (k + 1)).drop k)
      all_goals
        go_region_held3 (fun W => Below w.heap.size w W) (first | exact hb2 | exact bel_drew hb)
          (first
            | (go_at_call 31; refine (RSigns_calls _).mono ?_; rintro e w2 ⟨g2, c2, rfl, hg2, hc2, hb1⟩; have hb2 := bel_then (bel_drew hb) hb1)
            | (go_at_call 64; refine (has_calls g2 c2 signsL ((l.take (k + 1)).drop k) _ (by decide) hc2).mono ?_; rw [hy]; rintro e w2 ⟨rfl, rfl⟩))
      all_goals clear hc2
      all_goals go_wp2
      all_goals go_ret
      all_goals exact ⟨rfl, hb2⟩
  · have b2 : decide ((k : Int) + 1 < (l.length : Int)) = false := by simp; omega
    rw [key1 (by rintro ⟨h, _⟩; simp at h; omega)]
    clear h2 key1
    go_enter Tryz.func66, Tryz.ntmps66
    go_wp2_with fail
    go_quiet (fail)
    go_wp2_with fail
    cases hy : inL signsL ((l.take (k + 1)).drop k)
    all_goals
      go_region_held3 (fun W => Below w.heap.size w W) (first | exact hb2 | exact bel_drew (bel_drewN (Below.refl _ _) _) | exact bel_drew (Below.refl _ _))
        (first
          | (go_at_call 31; refine (RSigns_calls _).mono ?_; rintro e w2 ⟨g2, c2, rfl, hg2, hc2, hb1⟩; have hb2 : Below w.heap.size w w2 := bel_then (by first | exact bel_drew (bel_drewN (Below.refl _ _) _) | exact bel_drew (Below.refl _ _)) hb1)
          | (go_at_call 64; refine (has_calls g2 c2 signsL ((l.take (k + 1)).drop k) _ (by decide) hc2).mono ?_; rw [hy]; rintro e w2 ⟨rfl, rfl⟩))
    all_goals clear hc2
    all_goals go_wp2
    all_goals go_ret
    all_goals exact ⟨rfl, hb2⟩

theorem byteT {c d : UInt8} (h : c = d) : ((c.toNat : Int) == (d.toNat : Int)) = true := by rw [byte_int]; simp [h]
theorem byteF {c d : UInt8} (h : c ≠ d) : ((c.toNat : Int) == (d.toNat : Int)) = false := by rw [byte_int]; simp [h]
theorem byteNT {c d : UInt8} (h : c ≠ d) : ((c.toNat : Int) != (d.toNat : Int)) = true := by rw [bne, byteF h]; rfl
theorem byteNF {c d : UInt8} (h : c = d) : ((c.toNat : Int) != (d.toNat : Int)) = false := by rw [bne, byteT h]; rfl

/-- Where the text token that begins at a place ends; 0: there is none. -/
def qEnd (l : List UInt8) (k : Nat) : Nat := qRes (k + 1) (qbody (l.drop (k + 1)))

set_option maxHeartbeats 2000000 in
theorem Rquoted_calls (l : List UInt8) (k : Nat) (w : World) (hk : k < l.length) (hs : l.length ≤ 9223372036854775000) :
    Calls Tryz.prog 65 #[.string (S l), .int .i64 k] w fun e w' => e = .returned (.int .i64 (qEnd l k)) ∧ Below w.heap.size w w' := by
  go_enter Tryz.func65, Tryz.ntmps65
  go_wp2
  go_loopw [5] (fun i wr => ∃ n : Nat, k + 1 ≤ n ∧ i = .int .i64 n ∧ Hid (qEnd l k = qRes n (qbody (l.drop n))) ∧ Below w.heap.size w wr) (fun i _ => l.length - (intOf i).toNat)
  case atStart => exact ⟨k + 1, Nat.le_refl _, by go_num, Lib.hid rfl, Below.refl _ _⟩
  case round =>
    obtain ⟨n, hkn, rfl, hq, hb⟩ := hrel
    by_cases hlt : n < l.length
    · have b1 : (n : Int) < (l.length : Int) := by omega
      by_cases c1 : at_ l n = 34
      · have h1 : ((at_ l n).toNat == (34 : Int)) = true := byteT (d := 34) c1
        have e := hq.out; rw [q_quote l n hlt c1] at e
        have HE := Lib.hid e; clear e c1
        go_wp2
        go_ret
        exact ⟨ret_int (by rw [HE.out]; first | rfl | omega), hb⟩
      · have h1 : ((at_ l n).toNat == (34 : Int)) = false := byteF (d := 34) c1
        by_cases c2 : at_ l n = 10
        · have h2 : ((at_ l n).toNat == (10 : Int)) = true := byteT (d := 10) c2
          have e := hq.out; rw [q_line l n hlt c2] at e
          have HE := Lib.hid e; clear e c1 c2
          go_wp2
          go_ret
          exact ⟨ret_int (by rw [HE.out]; first | rfl | omega), hb⟩
        · have h2 : ((at_ l n).toNat == (10 : Int)) = false := byteF (d := 10) c2
          by_cases c3 : at_ l n = 92
          · have h3 : ((at_ l n).toNat == (92 : Int)) = true := byteT (d := 92) c3
            by_cases c4 : n + 1 = l.length
            · have h4 : (((n : Int) + 1) == (l.length : Int)) = true := by simp; omega
              have e := hq.out; rw [q_cut l n hlt c3 c4] at e
              have HE := Lib.hid e; clear e c1 c2 c3 c4
              go_wp2
              go_ret
              exact ⟨ret_int (by rw [HE.out]; first | rfl | omega), hb⟩
            · have h4 : (((n : Int) + 1) == (l.length : Int)) = false := by simp; omega
              have b2 : (n : Int) + 1 < (l.length : Int) := by omega
              have t1 : ((n : Int) + 1).toNat = n + 1 := by omega
              by_cases c5 : at_ l (n + 1) = 110 ∨ at_ l (n + 1) = 34 ∨ at_ l (n + 1) = 92
              · have e := hq.out; rw [q_pair l n (by omega) c3 c5] at e
                have HE := Lib.hid e
                have hd : (((at_ l (n + 1)).toNat : Int) != 110) = false ∨ (((at_ l (n + 1)).toNat : Int) != 110) = true ∧ (((at_ l (n + 1)).toNat : Int) != 34) = false ∨ (((at_ l (n + 1)).toNat : Int) != 110) = true ∧ (((at_ l (n + 1)).toNat : Int) != 34) = true ∧ (((at_ l (n + 1)).toNat : Int) != 92) = false := by
                  rcases c5 with h | h | h
                  · exact .inl (byteNF (d := 110) h)
                  · exact .inr (.inl ⟨byteNT (d := 110) (by rw [h]; decide), byteNF (d := 34) h⟩)
                  · exact .inr (.inr ⟨byteNT (d := 110) (by rw [h]; decide), byteNT (d := 34) (by rw [h]; decide), byteNF (d := 92) h⟩)
                clear e c1 c2 c3 c4 c5
                rcases hd with h5 | ⟨h5, h6⟩ | ⟨h5, h6, h7⟩
                all_goals go_wp2
                all_goals exact ⟨⟨n + 2, by omega, by go_num, HE, hb⟩, by simp [intOf]; omega⟩
              · have e := hq.out; rw [q_wrong l n (by omega) c3 c5] at e
                have h5 : (((at_ l (n + 1)).toNat : Int) != 110) = true := byteNT (d := 110) (fun h => c5 (.inl h))
                have h6 : (((at_ l (n + 1)).toNat : Int) != 34) = true := byteNT (d := 34) (fun h => c5 (.inr (.inl h)))
                have h7 : (((at_ l (n + 1)).toNat : Int) != 92) = true := byteNT (d := 92) (fun h => c5 (.inr (.inr h)))
                have HE := Lib.hid e; clear e c1 c2 c3 c4 c5
                go_wp2
                go_ret
                exact ⟨ret_int (by rw [HE.out]; first | rfl | omega), hb⟩
          · have h3 : ((at_ l n).toNat == (92 : Int)) = false := byteF (d := 92) c3
            have HE := Lib.hid (hq.out.trans (q_plain l n hlt c1 c2 c3))
            clear c1 c2 c3
            go_wp2
            exact ⟨⟨n + 1, by omega, by go_num, HE, hb⟩, by simp [intOf]; omega⟩
    · have e := hq.out; rw [q_end l n (by omega)] at e
      have HE := Lib.hid e; clear e
      go_wp2
      go_ret
      exact ⟨ret_int (by rw [HE.out]; first | rfl | omega), hb⟩

/-- Does a token that is no bad one, or a quote, begin here? -/
def beginsB (l : List UInt8) : Bool := isBlank (at_ l 0) || isLetter (at_ l 0) || isDigit (at_ l 0) || at_ l 0 == 34 || pre l || decide (0 < signN l)

set_option maxHeartbeats 2000000 in
theorem Rbegins_calls (l : List UInt8) (k : Nat) (w : World) (hk : k < l.length) (hs : l.length ≤ 9223372036854775000) :
    Calls Tryz.prog 67 #[.string (S l), .int .i64 k] w fun e w' => e = .returned (.bool (beginsB (l.drop k))) ∧ Below w.heap.size w w' := by
  have b1 : (k : Int) < (l.length : Int) := by omega
  unfold beginsB
  rw [at_drop]
  cases h1 : isBlank (at_ l k) with
  | true =>
    go_enter Tryz.func67, Tryz.ntmps67
    go_wp2_with (go_at_call 59; refine (RBlank_calls _ _).mono ?_; rw [h1]; rintro e w' ⟨rfl, rfl⟩)
    go_ret
    exact ⟨rfl, Below.refl _ _⟩
  | false =>
    cases h2 : isLetter (at_ l k) with
    | true =>
      go_enter Tryz.func67, Tryz.ntmps67
      go_wp2_with (first | (go_at_call 59; refine (RBlank_calls _ _).mono ?_; rw [h1]; rintro e w' ⟨rfl, rfl⟩) | (go_at_call 62; refine (RLetter_calls _ _).mono ?_; rw [h2]; rintro e w' ⟨rfl, rfl⟩))
      go_ret
      exact ⟨rfl, Below.refl _ _⟩
    | false =>
      cases h3 : isDigit (at_ l k) with
      | true =>
        go_enter Tryz.func67, Tryz.ntmps67
        go_wp2_with (first | (go_at_call 59; refine (RBlank_calls _ _).mono ?_; rw [h1]; rintro e w' ⟨rfl, rfl⟩) | (go_at_call 62; refine (RLetter_calls _ _).mono ?_; rw [h2]; rintro e w' ⟨rfl, rfl⟩) | (go_at_call 63; refine (RDigit_calls _ _).mono ?_; rw [h3]; rintro e w' ⟨rfl, rfl⟩))
        go_ret
        exact ⟨rfl, Below.refl _ _⟩
      | false =>
        by_cases c4 : at_ l k = 34
        · have h4 : ((at_ l k).toNat == (34 : Int)) = true := byteT (d := 34) c4
          have h5 : (at_ l k == 34) = true := by simp [c4]
          rw [h5]; clear c4 h5
          go_enter Tryz.func67, Tryz.ntmps67
          go_wp2_with (first | (go_at_call 59; refine (RBlank_calls _ _).mono ?_; rw [h1]; rintro e w' ⟨rfl, rfl⟩) | (go_at_call 62; refine (RLetter_calls _ _).mono ?_; rw [h2]; rintro e w' ⟨rfl, rfl⟩) | (go_at_call 63; refine (RDigit_calls _ _).mono ?_; rw [h3]; rintro e w' ⟨rfl, rfl⟩))
          go_ret
          exact ⟨rfl, Below.refl _ _⟩
        · have h4 : ((at_ l k).toNat == (34 : Int)) = false := byteF (d := 34) c4
          have h5 : (at_ l k == 34) = false := by simp [c4]
          rw [h5]; clear c4 h5
          cases h6 : pre (l.drop k) with
          | true =>
            go_enter Tryz.func67, Tryz.ntmps67
            go_wp2_with (first | (go_at_call 59; refine (RBlank_calls _ _).mono ?_; rw [h1]; rintro e w' ⟨rfl, rfl⟩) | (go_at_call 62; refine (RLetter_calls _ _).mono ?_; rw [h2]; rintro e w' ⟨rfl, rfl⟩) | (go_at_call 63; refine (RDigit_calls _ _).mono ?_; rw [h3]; rintro e w' ⟨rfl, rfl⟩) | (go_at_call 60; refine (Rremark_calls l k _ hs (by omega)).mono ?_; rw [h6]; rintro e w' ⟨rfl, rfl⟩))
            go_ret
            exact ⟨rfl, Below.refl _ _⟩
          | false =>
            go_enter Tryz.func67, Tryz.ntmps67
            go_wp2_with (first | (go_at_call 59; refine (RBlank_calls _ _).mono ?_; rw [h1]; rintro e w' ⟨rfl, rfl⟩) | (go_at_call 62; refine (RLetter_calls _ _).mono ?_; rw [h2]; rintro e w' ⟨rfl, rfl⟩) | (go_at_call 63; refine (RDigit_calls _ _).mono ?_; rw [h3]; rintro e w' ⟨rfl, rfl⟩) | (go_at_call 60; refine (Rremark_calls l k _ hs (by omega)).mono ?_; rw [h6]; rintro e w' ⟨rfl, rfl⟩) | (go_at_call 66; refine (Rsign_calls l k _ hk hs).mono ?_; rintro e w' ⟨rfl, hb⟩))
            go_ret
            exact ⟨ret_bool (by simp [Bool.false_or]; try omega), hb⟩

end Go.Proofs.YtepgjaecfoaenaaGreatDoor
