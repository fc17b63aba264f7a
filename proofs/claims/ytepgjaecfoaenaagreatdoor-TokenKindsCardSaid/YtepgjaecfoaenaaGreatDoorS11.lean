/- The reference's Text, Check and At. Condition: at most 20001 bytes and tokens. -/
import Derived.Test.YtepgjaecfoaenaaGreatDoorS10
namespace Go.Proofs.YtepgjaecfoaenaaGreatDoor
open Go.RowKit
set_option linter.unusedVariables false
set_option linter.unusedSimpArgs false

theorem text_step (ts : List Tok) (k : Nat) (h : k < ts.length) : textOf (ts.take (k + 1)) = textOf (ts.take k) ++ (tokAt ts k).text := by
  rw [take_tok ts k h, textOf_append, textOf_one]
theorem text_take_le (ts : List Tok) (k : Nat) : (textOf (ts.take k)).length ≤ (textOf ts).length := by
  conv => rhs; rw [← List.take_append_drop k ts, textOf_append, List.length_append]
  omega

set_option maxRecDepth 100000 in
set_option maxHeartbeats 4000000 in
theorem RText_calls (v : Value) (ts : List Tok) (w : World) (h : ReadT w v ts) (ht : (textOf ts).length ≤ 20001) :
    Calls Tryz.prog 43 #[v] w fun e w' => e = .returned (.string (S (textOf ts))) ∧ Below w.heap.size w w' := by
  obtain ⟨A, c, rfl, hl, hc⟩ := h
  have HC := Lib.hid hc; clear hc
  obtain ⟨i0, hi, hz0, hz1, hz2⟩ := info_parts infoByte
  go_enter Tryz.func43, Tryz.ntmps43
  go_wp2
  go_loopw [3, 4] (fun n i wr => ∃ k m : Nat, k ≤ ts.length ∧ i = .int .i64 k ∧ n = .int .i64 m ∧ Hid (m = (textOf (ts.take k)).length) ∧ m ≤ 20001 ∧ wr = w) (fun _ i _ => ts.length - (intOf i).toNat)
  case atStart => exact ⟨0, 0, Nat.zero_le _, rfl, rfl, Lib.hid rfl, by omega, rfl⟩
  case round =>
    obtain ⟨k, m, hk, rfl, rfl, hm, hm2, rfl⟩ := hrel
    by_cases hlt : k < ts.length
    · obtain ⟨b, off, rfl, hb0, hcc⟩ := HC.out (by omega)
      have c1 := (hcc k hlt).2
      have st := text_step ts k hlt
      have sl := text_take_le ts (k + 1)
      rw [st, List.length_append, ← hm.out] at sl
      have ST := Lib.hid st; clear st hcc
      have i1 : (k : Int) < (ts.length : Int) := by omega
      have i2 : (0 : Int) ≤ (k : Int) := by omega
      go_wp2
      exact ⟨⟨k + 1, m + (tokAt ts k).text.length, by omega, by go_num, by go_num, Lib.hid (by rw [ST.out, List.length_append, ← hm.out]), by omega, trivial⟩, by simp [intOf]; omega⟩
    · have hkl : ts.take k = ts := List.take_of_length_le (by omega)
      clear hm hkl
      go_wp2_with (at_make; refine wpList_make_own wr rfl (.const (.int .i64 0)) (.tmp 21) 66 rfl wr.heap.size 5 i0 (.int .u8 0) 1 Tryz.underlying66 hi hz0 hz1 .i64 .i64 _ m rfl rfl rfl (by rw [hz2]; omega) (by simp only [maxLen]; omega) (Nat.le_refl _) ?_; intro w1 hown1 hg1; have hb1 : Below wr.heap.size wr w1 := (Below.refl _ _).grown hg1 (Nat.le_refl _) (by intro k hk; cases hk))
      obtain ⟨w, rfl⟩ : ∃ w : World, w = wr := ⟨_, rfl⟩
      go_loopw [5, 6] (fun v i wr => ∃ k : Nat, k ≤ ts.length ∧ i = .int .i64 k ∧ OwnB wr w.heap.size v (textOf (ts.take k)) ∧ Below w.heap.size w wr) (fun _ i _ => ts.length - (intOf i).toNat)
      case atStart => exact ⟨0, Nat.zero_le _, rfl, hown1, hb1⟩
      case round =>
        obtain ⟨k, hk, rfl, hown, hb⟩ := hrel
        clear hown1 hb1 hg1
        by_cases hlt : k < ts.length
        · obtain ⟨b, off, rfl, hb0, hcc⟩ := HC.out (by omega)
          have c1 : wr.cell? ⟨b, off + k * 2 + 1, none⟩ = some (.string (S (tokAt ts k).text)) := by rw [hb.cell (p := ⟨b, _, none⟩) hb0]; exact (hcc k hlt).2
          have st := text_step ts k hlt
          have sl := text_take_le ts (k + 1)
          rw [st, List.length_append] at sl
          have ST := Lib.hid st; clear st hcc
          have i1 : (k : Int) < (ts.length : Int) := by omega
          have i2 : (0 : Int) ≤ (k : Int) := by omega
          have hsz := hb.size
          go_wp2_with (at_builtin; refine Lib.wpList_append_own_string _ rfl _ _ 66 9 rfl w.heap.size 5 i0 Tryz.underlying66 Tryz.underlying9 hi hz0 hz1 hz2 _ _ _ rfl hown (S (tokAt ts k).text) rfl ?c3 ?c4 ?c5 ?_)
          case c3 => rw [S_size]; unfold maxLen; omega
          case c4 => rw [S_size]; omega
          case c5 => omega
          intro v' w2 hown' hgrow _
          have hown2 : OwnB w2 w.heap.size v' (textOf (ts.take (k + 1))) := by
            unfold OwnB
            rw [ST.out, ← strCells_app, List.length_append]; simpa [S_size] using hown'
          have hb2 : Below w.heap.size w w2 := hb.grown hgrow hsz (fun k hk => (World.ownsRow.lt hown k hk).1)
          clear hown' hgrow
          go_wp2
          exact ⟨⟨k + 1, by omega, by go_num, hown2, hb2⟩, by simp [intOf]; omega⟩
        · have hkl : ts.take k = ts := List.take_of_length_le (by omega)
          rw [hkl] at hown
          have hcv := conv_bytes hown
          clear hkl
          go_wp2
          go_ret
          exact ⟨rfl, hb⟩

set_option maxRecDepth 100000 in
set_option maxHeartbeats 4000000 in
theorem RCheck_calls (v : Value) (ts : List Tok) (w : World) (h : ReadT w v ts) (ht : (textOf ts).length ≤ 20001) :
    Calls Tryz.prog 42 #[v] w fun e w' => e = .returned (.int .i64 (textErr ts)) ∧ Below w.heap.size w w' := by
  have HR := Lib.hid h
  obtain ⟨A, c, rfl, hl, hc⟩ := h
  have HC := Lib.hid hc; clear hc
  go_enter Tryz.func42, Tryz.ntmps42
  go_wp2
  go_loopw [3, 4] (fun n i wr => ∃ k m : Nat, k ≤ ts.length ∧ i = .int .i64 k ∧ n = .int .i64 m ∧ Hid (m = (textOf (ts.take k)).length) ∧ m ≤ 20001 ∧ wr = w) (fun _ i _ => ts.length - (intOf i).toNat)
  case atStart => exact ⟨0, 0, Nat.zero_le _, rfl, rfl, Lib.hid rfl, by omega, rfl⟩
  case round =>
    obtain ⟨k, m, hk, rfl, rfl, hm, hm2, rfl⟩ := hrel
    by_cases hlt : k < ts.length
    · obtain ⟨b, off, rfl, hb0, hcc⟩ := HC.out (by omega)
      have c1 := (hcc k hlt).2
      have st := text_step ts k hlt
      have sl := text_take_le ts (k + 1)
      rw [st, List.length_append, ← hm.out] at sl
      have ST := Lib.hid st; clear st hcc
      have i1 : (k : Int) < (ts.length : Int) := by omega
      have i2 : (0 : Int) ≤ (k : Int) := by omega
      go_wp2
      exact ⟨⟨k + 1, m + (tokAt ts k).text.length, by omega, by go_num, by go_num, Lib.hid (by rw [ST.out, List.length_append, ← hm.out]), by omega, trivial⟩, by simp [intOf]; omega⟩
    · have hkl : ts.take k = ts := List.take_of_length_le (by omega)
      have hmt := hm.out
      rw [hkl] at hmt
      have HMT := Lib.hid hmt
      by_cases hlong : 20000 < m ∨ 20000 < ts.length
      · have he := textErr_long ts (by rw [← hmt]; exact hlong)
        have hE := Lib.hid he
        have hs : decide ((m : Int) > 20000) = true ∨ (decide ((m : Int) > 20000) = false ∧ decide ((ts.length : Int) > 20000) = true) := by
          by_cases h1 : 20000 < m
          · left; rw [decide_eq_true_eq]; omega
          · right; exact ⟨by rw [decide_eq_false_iff_not]; omega, by rw [decide_eq_true_eq]; omega⟩
        clear hlong he hmt hkl hm
        rcases hs with h1 | ⟨h1, h2⟩
        all_goals go_wp2
        all_goals go_ret
        all_goals exact ⟨ret_int hE.out.symm, Below.refl _ _⟩
      · have h1 : decide ((m : Int) > 20000) = false := by rw [decide_eq_false_iff_not]; omega
        have h2 : decide ((ts.length : Int) > 20000) = false := by rw [decide_eq_false_iff_not]; omega
        have hboth : ¬ (20000 < (textOf ts).length ∨ 20000 < ts.length) := by rw [← hmt]; exact hlong
        have htl : (textOf ts).length ≤ 20000 := by omega
        clear hlong hmt hkl hm
        obtain ⟨w, rfl⟩ : ∃ w : World, w = wr := ⟨_, rfl⟩
        go_wp2_with fail
        refine (RText_calls _ ts w HR.out ht).mono ?_
        rintro e w1 ⟨rfl, hb1⟩
        go_wp2_with fail
        refine (RLex_calls (textOf ts) w1 htl).mono ?_
        rintro e w2 ⟨u, rfl, hown2, hb2⟩
        have hr2 := hown2.read (by have := lex_length (textOf ts); omega)
        have hb12 := bel_then hb1 hb2
        clear hown2
        go_wp2_with fail
        refine (Same_calls u _ (lex (textOf ts)) ts w2 hr2 (HR.out.below hb12)).mono ?_
        by_cases hx : lex (textOf ts) = ts
        · have hE := Lib.hid (textErr_ok ts hboth hx)
          rw [decide_eq_true hx]
          clear hx
          rintro e w3 ⟨rfl, hb3⟩
          go_wp2
          go_ret
          exact ⟨ret_int hE.out.symm, bel_then hb12 hb3⟩
        · have hE := Lib.hid (textErr_form ts hboth hx)
          rw [decide_eq_false hx]
          clear hx
          rintro e w3 ⟨rfl, hb3⟩
          go_wp2
          go_ret
          exact ⟨ret_int hE.out.symm, bel_then hb12 hb3⟩

set_option maxRecDepth 100000 in
set_option maxHeartbeats 4000000 in
theorem RAt_calls (v : Value) (ts : List Tok) (o : Int) (w : World) (h : ReadT w v ts) (ht : (textOf ts).length ≤ 20001) :
    Calls Tryz.prog 44 #[v, .int .i64 o] w fun e w' => e = .returned (.int .i64 (atIdx ts o 0)) ∧ w = w' := by
  obtain ⟨A, c, rfl, hl, hc⟩ := h
  have HC := Lib.hid hc; clear hc
  go_enter Tryz.func44, Tryz.ntmps44
  go_wp2
  go_loop [5, 6] (fun n i => ∃ k m : Nat, k ≤ ts.length ∧ i = .int .i64 k ∧ n = .int .i64 m ∧ Hid (m = (textOf (ts.take k)).length ∧ atIdx ts o 0 = atIdx (ts.drop k) (o - m) k) ∧ m ≤ 20001) (fun _ i => ts.length - (intOf i).toNat)
  case atStart => exact ⟨0, 0, Nat.zero_le _, rfl, rfl, Lib.hid ⟨rfl, by simp⟩, by omega⟩
  case round =>
    obtain ⟨k, m, hk, rfl, rfl, hm, hm2⟩ := hrel
    by_cases hlt : k < ts.length
    · obtain ⟨b, off, rfl, hb0, hcc⟩ := HC.out (by omega)
      have c1 := (hcc k hlt).2
      have st := text_step ts k hlt
      have sl := text_take_le ts (k + 1)
      rw [st, List.length_append, ← hm.out.1] at sl
      have ST := Lib.hid st; clear st hcc
      have i1 : (k : Int) < (ts.length : Int) := by omega
      have i2 : (0 : Int) ≤ (k : Int) := by omega
      have hd := drop_tok ts k hlt
      have HA := hm.out.2
      rw [hd, atIdx] at HA
      by_cases hs : o - (m : Int) < ((tokAt ts k).text.length : Int)
      · rw [if_pos hs] at HA
        have HI := Lib.hid HA
        have g1 : o < (m : Int) + ((tokAt ts k).text.length : Int) := by omega
        clear HA hd hs
        go_wp2
        go_ret
        exact ⟨ret_int (by rw [HI.out]), rfl⟩
      · rw [if_neg hs] at HA
        have HI := Lib.hid HA
        have g1 : ¬ o < (m : Int) + ((tokAt ts k).text.length : Int) := by omega
        clear HA hd hs
        go_wp2
        go_round
        case rel => exact ⟨k + 1, m + (tokAt ts k).text.length, by omega, by go_num, by go_num, Lib.hid ⟨by rw [ST.out, List.length_append, ← hm.out.1], by rw [HI.out]; congr 1; omega⟩, by omega⟩
        case measure => simp [intOf]; omega
    · have hkk : k = ts.length := by omega
      have HA := hm.out.2
      rw [hkk, List.drop_length, atIdx] at HA
      have HI := Lib.hid HA
      clear HA hkk
      go_wp2
      go_ret
      exact ⟨ret_int (by rw [HI.out]), rfl⟩

end Go.Proofs.YtepgjaecfoaenaaGreatDoor
