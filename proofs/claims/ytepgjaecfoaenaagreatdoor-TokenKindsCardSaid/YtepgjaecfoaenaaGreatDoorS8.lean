/- The reference's Unquote of a quoted string and Number of digits. -/
import Derived.Test.YtepgjaecfoaenaaGreatDoorS7
namespace Go.Proofs.YtepgjaecfoaenaaGreatDoor
open Go.RowKit
set_option linter.unusedVariables false
set_option linter.unusedSimpArgs false

theorem at_glue0 (X Y : List UInt8) (p : Nat) (h : p = X.length) : at_ (X ++ Y) p = at_ Y 0 := by subst h; simp [at_, List.getElem?_append_right]
theorem at_glue1 (X Y : List UInt8) (p : Nat) (h : p = X.length) : at_ (X ++ Y) (p + 1) = at_ Y 1 := by subst h; simp [at_, List.getElem?_append_right]
theorem esc_split (a : List UInt8) (j : Nat) (h : j < a.length) : 34 :: escL a ++ [34] = (34 :: escL (a.take j)) ++ (escB (at_ a j) ++ (escL (a.drop (j + 1)) ++ [34])) := by
  have e : a = a.take j ++ (at_ a j :: a.drop (j + 1)) := by rw [← drop_at a j h, List.take_append_drop]
  conv => lhs; rw [e]
  simp [escL]

set_option maxRecDepth 100000 in
set_option maxHeartbeats 2000000 in
theorem RUnquote_calls (a : List UInt8) (w : World) (hs : (escL a).length ≤ 20000) :
    Calls Tryz.prog 19 #[.string (S (34 :: escL a ++ [34]))] w fun e w' => e = .returned (.string (S a)) ∧ Below w.heap.size w w' := by
  obtain ⟨s, hS⟩ : ∃ s, s = 34 :: escL a ++ [34] := ⟨_, rfl⟩
  have hsl : s.length = (escL a).length + 2 := by rw [hS]; simp
  have hal : a.length ≤ (escL a).length := by rw [escL_length]; omega
  obtain ⟨n, hn⟩ : ∃ n, n = (escL a).length := ⟨_, rfl⟩
  rw [← hn] at hs hsl hal
  have HS := Lib.hid hS; have HL := Lib.hid hsl; have HN := Lib.hid hn
  rw [← hS]
  clear hS hn
  have sl : s.length ≤ 20002 := by omega
  clear hsl
  go_enter Tryz.func19, Tryz.ntmps19
  go_wp2_with fail
  go_loopw [3, 4] (fun v i wr => ∃ j p : Nat, j ≤ a.length ∧ i = .int .i64 p ∧ Hid (p = 1 + (escL (a.take j)).length) ∧ OwnB wr w.heap.size v (a.take j) ∧ Below w.heap.size w wr) (fun _ i _ => s.length - (intOf i).toNat)
  case atStart => exact ⟨0, 1, Nat.zero_le _, rfl, Lib.hid (by simp [escL]), OwnB.nil _ _, Below.refl _ _⟩
  case round =>
    obtain ⟨j, p, hj, rfl, hp, hown, hb⟩ := hrel
    have hple := escL_take_le a j
    have hps : p ≤ 1 + n := by rw [hp.out, HN.out]; omega
    have hls := HL.out
    have hbs := hb.size
    have p0 : IntKind.i64.wrap ((p : Int) + 1) = (p : Int) + 1 := wrapI _ (by omega)
    by_cases hlt : j < a.length
    · have hsp := esc_split a j hlt
      rw [← HS.out] at hsp
      have hpl : p = (34 :: escL (a.take j)).length := by rw [hp.out]; simp; omega
      have hst := escL_step a j hlt
      have hbl := escB_length (at_ a j)
      have hstl := escL_take_le a (j + 1)
      rw [hst, List.length_append] at hstl
      have hp1 := hp.out
      have hn1 := HN.out
      have hb1 : 1 ≤ (escB (at_ a j)).length := by rw [hbl]; split <;> omega
      have k1 : (p : Int) + 1 < (s.length : Int) := by omega
      have k2 : (0 : Int) ≤ (p : Int) := by omega
      have k3 : (p : Int) < (s.length : Int) := by omega
      have htk := take_byte a j hlt
      have HTK := Lib.hid htk
      have hA : (a.take j).length ≤ 20000 := by rw [List.length_take]; omega
      cases hE : isE (at_ a j) with
      | true =>
        have e0 : at_ s p = 92 := by rw [hsp, at_glue0 _ _ _ hpl, escB, hE]; rfl
        have e1 : at_ s (p + 1) = esc (at_ a j) := by rw [hsp, at_glue1 _ _ _ hpl, escB, hE]; rfl
        have hnx : Hid (p + 2 = 1 + (escL (a.take (j + 1))).length) := Lib.hid (by rw [hst, List.length_append, hbl, hE, hp1]; simp; omega)
        have h1 : ((at_ s p).toNat == (92 : Int)) = true := byteT (d := 92) e0
        have t1 : ((p : Int) + 1).toNat = p + 1 := by omega
        have k4 : (0 : Int) ≤ (p : Int) + 1 := by omega
        have p2 : IntKind.i64.wrap ((p : Int) + 1 + 1) = (p : Int) + 2 := by rw [wrapI _ (by omega)]; omega
        by_cases c1 : at_ a j = 10
        · have h2 : ((at_ s (p + 1)).toNat == (110 : Int)) = true := byteT (d := 110) (by rw [e1, c1]; rfl)
          have HC := Lib.hid c1
          clear e0 e1 hsp hpl hst hbl hstl hp1 hn1 htk c1 hls
          go_wp2_with (at_builtin; refine bytes_append w w.heap.size rfl (.tmp 25) (.tmp 27) rfl _ (a.take j) [10] rfl wr.heap.size _ rfl rfl rfl _ rfl hown hb hbs (by simp; omega) ?_; intro v1 w2 hown2 hb2)
          exact ⟨⟨j + 1, p + 2, by omega, by go_num, hnx, by rw [HTK.out, HC.out]; exact hown2, hb2⟩, by simp [intOf]; omega⟩
        · have hes : esc (at_ a j) = at_ a j := by unfold esc; rw [if_neg c1]
          have hne : at_ s (p + 1) ≠ 110 := by
            rw [e1, hes]; rcases isE_cases hE with h | h | h
            · exact absurd h c1
            · rw [h]; decide
            · rw [h]; decide
          have h2 : ((at_ s (p + 1)).toNat == (110 : Int)) = false := byteF (d := 110) hne
          have HC := Lib.hid (e1.trans hes)
          clear e0 e1 hsp hpl hst hbl hstl hp1 hn1 htk c1 hls hes hne
          go_wp2_with (at_builtin; refine bytes_append w w.heap.size rfl (.tmp 25) (.tmp 27) rfl _ (a.take j) [at_ s (p + 1)] rfl wr.heap.size _ rfl rfl rfl _ rfl hown hb hbs (by simp; omega) ?_; intro v1 w2 hown2 hb2)
          exact ⟨⟨j + 1, p + 2, by omega, by go_num, hnx, by rw [HTK.out, ← HC.out]; exact hown2, hb2⟩, by simp [intOf]; omega⟩
      | false =>
        have e0 : at_ s p = at_ a j := by rw [hsp, at_glue0 _ _ _ hpl, escB, hE]; rfl
        have hnx : Hid (p + 1 = 1 + (escL (a.take (j + 1))).length) := Lib.hid (by rw [hst, List.length_append, hbl, hE, hp1]; simp; omega)
        have h1 : ((at_ s p).toNat == (92 : Int)) = false := byteF (d := 92) (by rw [e0]; exact (isE_no hE).2.2)
        have HC := Lib.hid e0
        clear e0 hsp hpl hst hbl hstl hp1 hn1 htk hls
        go_wp2_with (at_builtin; refine bytes_append w w.heap.size rfl (.tmp 25) (.tmp 27) rfl _ (a.take j) [at_ s p] rfl wr.heap.size _ rfl rfl rfl _ rfl hown hb hbs (by simp; omega) ?_; intro v1 w2 hown2 hb2)
        exact ⟨⟨j + 1, p + 1, by omega, by go_num, hnx, by rw [HTK.out, ← HC.out]; exact hown2, hb2⟩, by simp [intOf]; omega⟩
    · have hja : a.take j = a := List.take_of_length_le (by omega)
      have hp1 := hp.out
      have hn1 := HN.out
      rw [hja] at hp1 hown
      have k1 : ¬ (p : Int) + 1 < (s.length : Int) := by omega
      have hcv := conv_bytes hown
      clear hja hp1 hn1 hls
      go_wp2
      go_ret
      exact ⟨rfl, hb⟩

theorem numFrom_app (n : Nat) (l m : List UInt8) : numFrom n (l ++ m) = numFrom (numFrom n l) m := by unfold numFrom; rw [List.foldl_append]
theorem numFrom_step (l : List UInt8) (k : Nat) (h : k < l.length) : numFrom 0 (l.take (k + 1)) = 10 * numFrom 0 (l.take k) + ((at_ l k).toNat - 48) := by
  rw [take_byte l k h, numFrom_app]; rfl
theorem numFrom_pre (l : List UInt8) (k : Nat) : numFrom 0 (l.take k) ≤ numVal l := by
  unfold numVal
  conv => rhs; rw [← List.take_append_drop k l, numFrom_app]
  exact numFrom_ge _ _

def numR (l : List UInt8) : Int × Bool := if numVal l ≤ 9223372036854775807 then (numVal l, true) else (0, false)

set_option maxRecDepth 100000 in
set_option maxHeartbeats 2000000 in
theorem RNumber_calls (l : List UInt8) (w : World) (hs : l.length ≤ 20001) (hd : ∀ k, k < l.length → isDigit (at_ l k) = true) :
    Calls Tryz.prog 21 #[.string (S l)] w fun e w' => e = .returned (.tuple #[.int .i64 (numR l).1, .bool (numR l).2]) ∧ w = w' := by
  go_enter Tryz.func21, Tryz.ntmps21
  go_wp2_with fail
  go_loop [4, 5] (fun n i => ∃ k m : Nat, k ≤ l.length ∧ i = .int .i64 k ∧ n = .int .i64 m ∧ Hid (m = numFrom 0 (l.take k)) ∧ m ≤ 9223372036854775807) (fun _ i => l.length - (intOf i).toNat)
  case atStart => exact ⟨0, 0, Nat.zero_le _, rfl, rfl, Lib.hid rfl, by omega⟩
  case round =>
    obtain ⟨k, m, hk, rfl, rfl, hm, hm63⟩ := hrel
    by_cases hlt : k < l.length
    · have hdk := hd k hlt
      have h48 : 48 ≤ (at_ l k).toNat ∧ (at_ l k).toNat ≤ 57 := by
        simp [isDigit, UInt8.le_iff_toNat_le] at hdk; omega
      obtain ⟨c, hc⟩ : ∃ c, c = at_ l k := ⟨_, rfl⟩
      obtain ⟨d, hdd⟩ : ∃ d : Nat, c.toNat = d + 48 := ⟨c.toNat - 48, by rw [hc]; omega⟩
      have hst := numFrom_step l k hlt
      have i1 : (k : Int) < (l.length : Int) := by omega
      have i2 : (0 : Int) ≤ (k : Int) := by omega
      have d9 : d ≤ 9 := by rw [hc] at hdd; omega
      rw [← hc, hdd] at hst
      have HST := Lib.hid hst
      have ec : ((at_ l k).toNat : Int) = (d : Int) + 48 := by rw [← hc, hdd]; simp
      have w1 : IntKind.u8.wrap (((at_ l k).toNat : Int) - 48) = (d : Int) := by rw [ec]; simp only [IntKind.wrap, IntKind.bits, IntKind.signed, Bool.false_and, Bool.false_eq_true, if_false]; omega
      clear hdk h48 hc hdd hst
      go_wp2_with fail
      · have hgt : (9223372036854775807 - (d : Int)) / 10 < (m : Int) := by assumption
        have e : numR l = (0, false) := by
          have h1 := numFrom_pre l (k + 1)
          rw [HST.out, ← hm.out] at h1
          unfold numR; rw [if_neg (by omega)]
        go_ret2
        exact ⟨by rw [e]; rfl, rfl⟩
      · have hle : (m : Int) ≤ (9223372036854775807 - (d : Int)) / 10 := by assumption
        exact ⟨⟨k + 1, 10 * m + d, by omega, by go_num, by go_num, Lib.hid (by rw [HST.out, ← hm.out]; omega), by omega⟩, by simp [intOf]; omega⟩
    · have hkl : l.take k = l := List.take_of_length_le (by omega)
      have e : numR l = ((m : Int), true) := by unfold numR; rw [if_pos (by unfold numVal; rw [← hkl, ← hm.out]; exact hm63)]; unfold numVal; rw [← hkl, ← hm.out]
      have HE := Lib.hid e
      clear hkl e
      go_wp2
      go_ret2
      exact ⟨by rw [HE.out]; rfl, rfl⟩

end Go.Proofs.YtepgjaecfoaenaaGreatDoor
