/- The reference's Short, One and Same. Condition: a string is no longer than an int can tell. -/
import Derived.Test.YtepgjaecfoaenaaGreatDoorX
import Derived.StillTailTactics
namespace Go.Proofs.YtepgjaecfoaenaaGreatDoor
open Go.RowKit
set_option linter.unusedVariables false
set_option linter.unusedSimpArgs false

theorem take_min (l : List UInt8) : l.take (min (l.length : Int) 20001).toNat = l.take 20001 := by
  rcases Nat.le_total l.length 20001 with h | h
  · rw [List.take_of_length_le (by omega), List.take_of_length_le h]
  · rw [show (min (l.length : Int) 20001).toNat = 20001 by omega]

theorem Short_calls (l : List UInt8) (w : World) (hs : l.length ≤ 9223372036854775807) :
    Calls Tryz.prog 12 #[.string (S l)] w fun e w' => e = .returned (.string (S (l.take 20001))) ∧ Below w.heap.size w w' := by
  go_enter Tryz.func12, Tryz.ntmps12
  go_wp2
  go_ret
  exact ⟨by rw [take_min]; rfl, Below.refl _ _⟩

set_option maxRecDepth 100000 in
theorem One_calls (k : Int) (l : List UInt8) (w : World) (hs : l.length ≤ 9223372036854775807) :
    Calls Tryz.prog 13 #[.agg #[.int .i64 k, .string (S l)]] w fun e w' => e = .returned (.agg #[.int .i64 k, .string (S (l.take 20001))]) ∧ Below w.heap.size w w' := by
  have m0 : (0 : Int) ≤ min (l.length : Int) 20001 := by omega
  have m1 : min (l.length : Int) 20001 ≤ (l.length : Int) := by omega
  go_enter Tryz.func13, Tryz.ntmps13
  go_wp2_with fail
  obtain ⟨wq, hwq⟩ : ∃ wq, wq = (w.alloc (.cells #[.int .i64 k, .string (S l)] 23)).alloc (.cells #[.int .i64 0, .string ⟨#[]⟩] 23) := ⟨_, rfl⟩
  rw [← hwq]
  have a0 : wq.drew.cell? ⟨w.heap.size, 0, none⟩ = some (.int .i64 k) := by rw [World.cell?_drew, hwq]; simp
  have a1 : wq.drew.cell? ⟨w.heap.size, 1, none⟩ = some (.string (S l)) := by rw [World.cell?_drew, hwq]; simp
  have b0 : wq.drew.cell? ⟨w.heap.size + 1, 0, none⟩ = some (.int .i64 0) := by rw [World.cell?_drew, hwq]; simp
  have b1 : wq.drew.cell? ⟨w.heap.size + 1, 1, none⟩ = some (.string ⟨#[]⟩) := by rw [World.cell?_drew, hwq]; simp
  have fz : ∀ j, wq.drew.frozen? ⟨w.heap.size + 1, j, none⟩ = false := by intro j; rw [World.frozen?_drew, hwq]; simp
  have hb : Below w.heap.size w wq := by rw [hwq]; exact bel_alloc (bel_alloc (Below.refl _ _) _) _
  clear hwq
  have n0 : wq.cell? ⟨w.heap.size + 1, 0, none⟩ = some (.int .i64 0) := b0
  have n1 : wq.cell? ⟨w.heap.size + 1, 1, none⟩ = some (.string ⟨#[]⟩) := b1
  have nf : ∀ j, wq.frozen? ⟨w.heap.size + 1, j, none⟩ = false := fz
  go_still_tail 10, (by kernel_rfl)
  change wpList _ _ _ _ _ (World.drew _)
  go_wp2_with fail
  refine bodyPost_ret (v := .agg #[.int .i64 k, .string (S (l.take (min (l.length : Int) 20001).toNat))]) (by simp [results, Tryz.results13, go_sem, n0, n1]) rfl ⟨by rw [take_min], ?_⟩
  exact (bel_set (bel_set hb _ _ (Nat.le_succ _)) _ _ (Nat.le_succ _)).drew

set_option maxHeartbeats 1000000 in
theorem Same_calls (v u : Value) (ts us : List Tok) (w : World) (hv : ReadT w v ts) (hu : ReadT w u us) :
    Calls Tryz.prog 24 #[v, u] w fun e w' => e = .returned (.bool (decide (ts = us))) ∧ Below w.heap.size w w' := by
  obtain ⟨A, c, rfl, hl, h⟩ := hv
  obtain ⟨A', c', rfl, hl', h'⟩ := hu
  by_cases hlen : ts.length = us.length
  · have HL := Lib.hid hlen
    have hneq : ((ts.length : Int) != us.length) = false := by simp [hlen]
    clear hlen
    go_enter Tryz.func24, Tryz.ntmps24
    go_wp2
    go_loopw [5] (fun i wr => ∃ k : Nat, k ≤ ts.length ∧ i = .int .i64 k ∧ Hid (ts.take k = us.take k) ∧ Below w.heap.size w wr) (fun i _ => ts.length - (intOf i).toNat)
    case atStart => exact ⟨0, Nat.zero_le _, rfl, Lib.hid rfl, Below.refl _ _⟩
    case round =>
      obtain ⟨k, hk, rfl, hE, hb⟩ := hrel
      have hsz := hb.size
      by_cases hlt : k < ts.length
      · have hlt' : k < us.length := by rw [← HL.out]; exact hlt
        obtain ⟨b, off, rfl, hb0, hc⟩ := h (by omega)
        obtain ⟨b', off', rfl, hb0', hc'⟩ := h' (by omega)
        obtain ⟨hc1, hc2⟩ := hc k hlt
        obtain ⟨hc1', hc2'⟩ := hc' k hlt'
        have g1 : wr.cell? ⟨b, off + k * 2, none⟩ = some (.int .i64 (tokAt ts k).kind) := by rw [hb.cell (p := ⟨b, _, none⟩) hb0]; exact hc1
        have g2 : wr.cell? ⟨b, off + k * 2 + 1, none⟩ = some (.string (S (tokAt ts k).text)) := by rw [hb.cell (p := ⟨b, _, none⟩) hb0]; exact hc2
        have g1' : wr.cell? ⟨b', off' + k * 2, none⟩ = some (.int .i64 (tokAt us k).kind) := by rw [hb.cell (p := ⟨b', _, none⟩) hb0']; exact hc1'
        have g2' : wr.cell? ⟨b', off' + k * 2 + 1, none⟩ = some (.string (S (tokAt us k).text)) := by rw [hb.cell (p := ⟨b', _, none⟩) hb0']; exact hc2'
        clear hc1 hc2 hc hc1' hc2' hc' h h'
        go_wp2
        go_quiet (fail)
        go_wp2
        · have hne := tokEq_no (ts := ts) (us := us) (k := k) (by assumption)
          go_ret
          exact ⟨ret_bool (decide_eq_false hne).symm, bel_drewN hb _⟩
        · have he := tokEq_yes (ts := ts) (us := us) (k := k) (by assumption)
          go_roundw
          case rel => exact ⟨k + 1, by omega, by go_num, Lib.hid (by rw [take_tok ts k hlt, take_tok us k hlt', hE.out, he]), bel_drewN hb _⟩
          case measure => simp [intOf]; omega
      · have hkk : k = ts.length := by omega
        have he : ts = us := by
          have := hE.out
          rw [hkk, List.take_length, HL.out, List.take_length] at this
          exact this
        go_wp2
        go_ret
        exact ⟨ret_bool (decide_eq_true he).symm, hb⟩
  · have hneq : ((ts.length : Int) != us.length) = true := by simp; omega
    go_enter Tryz.func24, Tryz.ntmps24
    go_wp2
    go_ret
    exact ⟨ret_bool (decide_eq_false (fun e => hlen (by rw [e]))).symm, Below.refl _ _⟩

end Go.Proofs.YtepgjaecfoaenaaGreatDoor
