/- The walk of slices.Equal at tokens. Condition: both slices read as tokens. -/
import Derived.Test.YtepgjaecfoaenaaGreatDoorW7
import Derived.Deep.QuietTactic
import Derived.Test.YtepgjaecfoaenaaGreatDoorE1
namespace Go.Proofs.YtepgjaecfoaenaaGreatDoor
open Go.RowKit
set_option linter.unusedVariables false
set_option linter.unusedSimpArgs false

theorem take_tok (ts : List Tok) (k : Nat) (h : k < ts.length) : ts.take (k + 1) = ts.take k ++ [tokAt ts k] := by
  rw [List.take_succ_eq_append_getElem h]; simp [tokAt, List.getElem?_eq_getElem h]
theorem tokEq_no {ts us : List Tok} {k : Nat} (h : (!tokEq ⟨(tokAt ts k).kind, (tokAt ts k).text⟩ ⟨(tokAt us k).kind, (tokAt us k).text⟩) = true) : ts ≠ us := by
  intro e; subst e; simp [tokEq] at h
theorem tokEq_yes {ts us : List Tok} {k : Nat} (h : (!tokEq ⟨(tokAt ts k).kind, (tokAt ts k).text⟩ ⟨(tokAt us k).kind, (tokAt us k).text⟩) = false) : tokAt ts k = tokAt us k := by
  simp only [Bool.not_eq_false'] at h; exact tokEq_iff.1 h

theorem ReadT.at_ {w : World} {A : Option Addr} {c : Nat} {ts : List Tok} {n : Nat} (h : ReadT w (.slice A n c) ts) (h0 : 0 < n) :
    n = ts.length ∧ ∃ b off, A = some ⟨b, off, none⟩ ∧ b < w.heap.size ∧
      ∀ k, k < n → w.cell? ⟨b, off + k * 2, none⟩ = some (.int .i64 (tokAt ts k).kind) ∧ w.cell? ⟨b, off + k * 2 + 1, none⟩ = some (.string (S (tokAt ts k).text)) := by
  obtain ⟨A', c', he, hl, hh⟩ := h
  simp only [Value.slice.injEq] at he
  obtain ⟨rfl, rfl, rfl⟩ := he
  exact ⟨rfl, hh h0⟩

set_option maxHeartbeats 1000000 in
theorem equal_calls (v u : Value) (ts us : List Tok) (w : World) (hv : ReadT w v ts) (hu : ReadT w u us) :
    Calls Tryz.prog 52 #[v, u] w fun e w' => e = .returned (.bool (decide (ts = us))) ∧ Below w.heap.size w w' := by
  obtain ⟨A, c, rfl, hl, h⟩ := hv
  obtain ⟨A', c', rfl, hl', h'⟩ := hu
  by_cases hlen : ts.length = us.length
  · have HL := Lib.hid hlen
    have hneq : ((ts.length : Int) != us.length) = false := by simp [hlen]
    clear hlen
    go_enter Tryz.func52, Tryz.ntmps52
    go_wp2
    go_loopw [13] (fun i wr => ∃ k : Nat, k ≤ ts.length ∧ i = .int .i64 k ∧ Hid (ts.take k = us.take k) ∧ Below w.heap.size w wr) (fun i _ => ts.length - (intOf i).toNat)
    case atStart => exact ⟨0, Nat.zero_le _, rfl, Lib.hid rfl, Below.refl _ _⟩
    case round =>
      obtain ⟨k, hk, rfl, hE, hb⟩ := hrel
      have hsz := hb.size
      by_cases hlt : k < ts.length
      · have hlt' : k < us.length := by rw [← HL.out]; exact hlt
        obtain ⟨b, off, rfl, hb0, hc⟩ := h (by omega)
        obtain ⟨b', off', rfl, hb0', hc'⟩ := h' (by omega)
        obtain ⟨hc1, hc2⟩ := hc k hlt
        obtain ⟨hc1', hc2'⟩ := hc' k hlt'
        have g1 : wr.cell? ⟨b, off + k * 2, none⟩ = some (.int .i64 (tokAt ts k).kind) := by rw [hb.cell (p := ⟨b, _, none⟩) hb0]; exact hc1
        have g2 : wr.cell? ⟨b, off + k * 2 + 1, none⟩ = some (.string (S (tokAt ts k).text)) := by rw [hb.cell (p := ⟨b, _, none⟩) hb0]; exact hc2
        have g1' : wr.cell? ⟨b', off' + k * 2, none⟩ = some (.int .i64 (tokAt us k).kind) := by rw [hb.cell (p := ⟨b', _, none⟩) hb0']; exact hc1'
        have g2' : wr.cell? ⟨b', off' + k * 2 + 1, none⟩ = some (.string (S (tokAt us k).text)) := by rw [hb.cell (p := ⟨b', _, none⟩) hb0']; exact hc2'
        clear hc1 hc2 hc hc1' hc2' hc' h h'
        go_wp2
        go_quiet (fail)
        go_wp2
        · have hne := tokEq_no (ts := ts) (us := us) (k := k) (by assumption)
          go_ret
          exact ⟨ret_bool (decide_eq_false hne).symm, bel_drewN hb _⟩
        · have he := tokEq_yes (ts := ts) (us := us) (k := k) (by assumption)
          go_roundw
          case rel => exact ⟨k + 1, by omega, by go_num, Lib.hid (by rw [take_tok ts k hlt, take_tok us k hlt', hE.out, he]), bel_drewN hb _⟩
          case measure => simp [intOf]; omega
      · have hkk : k = ts.length := by omega
        have he : ts = us := by
          have := hE.out
          rw [hkk, List.take_length, HL.out, List.take_length] at this
          exact this
        go_wp2
        go_ret
        exact ⟨ret_bool (decide_eq_true he).symm, hb⟩
  · have hneq : ((ts.length : Int) != us.length) = true := by simp; omega
    go_enter Tryz.func52, Tryz.ntmps52
    go_wp2
    go_ret
    exact ⟨ret_bool (decide_eq_false (fun e => hlen (by rw [e]))).symm, Below.refl _ _⟩

end Go.Proofs.YtepgjaecfoaenaaGreatDoor
