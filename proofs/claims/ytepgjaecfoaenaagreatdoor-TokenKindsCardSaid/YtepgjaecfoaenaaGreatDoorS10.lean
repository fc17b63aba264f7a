/- The reference's Cut: any tokens, but not too many and not too long. -/
import Derived.Test.YtepgjaecfoaenaaGreatDoorS9
namespace Go.Proofs.YtepgjaecfoaenaaGreatDoor
open Go.RowKit
set_option linter.unusedVariables false
set_option linter.unusedSimpArgs false

/-- Tokens with at most this many bytes altogether. -/
def cutF : Nat → List Tok → List Tok
  | _, [] => []
  | left, t :: ts => ⟨t.kind, t.text.take left⟩ :: cutF (left - (t.text.take left).length) ts
def cutL (ts : List Tok) : List Tok := cutF 20001 (ts.take 20001)
theorem cutF_length : ∀ (ts : List Tok) (n : Nat), (cutF n ts).length = ts.length
  | [], _ => rfl
  | t :: ts, n => by simp [cutF, cutF_length ts]
theorem cutL_length (ts : List Tok) : (cutL ts).length = min 20001 ts.length := by unfold cutL; rw [cutF_length, List.length_take]
theorem cutF_text : ∀ (ts : List Tok) (n : Nat), (textOf (cutF n ts)).length ≤ n
  | [], n => by simp [cutF, textOf]
  | t :: ts, n => by
    have := cutF_text ts (n - (t.text.take n).length)
    have h : (t.text.take n).length ≤ n := by rw [List.length_take]; omega
    rw [cutF, textOf_cons, List.length_append]
    show (t.text.take n).length + _ ≤ n
    omega
theorem cutL_text (ts : List Tok) : (textOf (cutL ts)).length ≤ 20001 := cutF_text _ _
/-- What is left behind the first k. -/
def leftF (n : Nat) (ts : List Tok) : Nat := n - (textOf (cutF n ts)).length
theorem cutF_snoc : ∀ (ts : List Tok) (n : Nat) (t : Tok), cutF n (ts ++ [t]) = cutF n ts ++ [⟨t.kind, t.text.take (leftF n ts)⟩]
  | [], n, t => by simp [cutF, leftF, textOf]
  | u :: ts, n, t => by
    rw [List.cons_append, cutF, cutF_snoc ts]
    have e : leftF (n - (u.text.take n).length) ts = leftF n (u :: ts) := by
      unfold leftF; rw [cutF, textOf_cons, List.length_append]; show _ = n - ((u.text.take n).length + _); omega
    rw [e]; rfl
theorem leftF_snoc (ts : List Tok) (n : Nat) (t : Tok) : leftF n (ts ++ [t]) = leftF n ts - (t.text.take (leftF n ts)).length := by
  have h := cutF_text ts n
  conv => lhs; unfold leftF
  rw [cutF_snoc, textOf_append, List.length_append]
  have : (textOf [(⟨t.kind, t.text.take (leftF n ts)⟩ : Tok)]).length = (t.text.take (leftF n ts)).length := by simp [textOf]
  rw [this]
  unfold leftF; omega
theorem cut_step (ts : List Tok) (k : Nat) (h : k < ts.length) : cutF 20001 (ts.take (k + 1)) = cutF 20001 (ts.take k) ++ [⟨(tokAt ts k).kind, (tokAt ts k).text.take (leftF 20001 (ts.take k))⟩] ∧
    leftF 20001 (ts.take (k + 1)) = leftF 20001 (ts.take k) - ((tokAt ts k).text.take (leftF 20001 (ts.take k))).length := by
  rw [take_tok ts k h]
  exact ⟨cutF_snoc _ _ _, leftF_snoc _ _ _⟩
theorem take_min_n (l : List UInt8) (n : Nat) : l.take (min (l.length : Int) n).toNat = l.take n := by
  rcases Nat.le_total l.length n with h | h
  · rw [List.take_of_length_le (by omega), List.take_of_length_le h]
  · rw [show (min (l.length : Int) n).toNat = n by omega]

set_option maxRecDepth 100000 in
set_option maxHeartbeats 4000000 in
theorem RCut_calls (v : Value) (ts : List Tok) (w : World) (h : ReadT w v ts) :
    Calls Tryz.prog 33 #[v] w fun e w' => ∃ v', e = .returned v' ∧ OwnT w' w.heap.size v' (cutL ts) ∧ Below w.heap.size w w' := by
  obtain ⟨A, c, rfl, hl, hc⟩ := h
  have HC := Lib.hid hc; clear hc
  go_enter Tryz.func33, Tryz.ntmps33
  go_wp2
  go_loopw [3, 4, 5] (fun v lf i wr => ∃ k n : Nat, k ≤ ts.length ∧ k ≤ 20001 ∧ i = .int .i64 k ∧ lf = .int .i64 n ∧ n ≤ 20001 ∧ Hid (n = leftF 20001 (ts.take k)) ∧ OwnT wr w.heap.size v (cutF 20001 (ts.take k)) ∧ Below w.heap.size w wr) (fun _ _ i _ => ts.length - (intOf i).toNat)
  case atStart => exact ⟨0, 20001, Nat.zero_le _, by omega, rfl, rfl, by omega, Lib.hid (by simp [leftF, cutF, textOf]), by rw [List.take_zero]; exact OwnT.nil _ _, Below.refl _ _⟩
  case round =>
    obtain ⟨k, n, hk, hk2, rfl, rfl, hn, hlf, hown, hb⟩ := hrel
    by_cases hgo : k < ts.length ∧ k < 20001
    · obtain ⟨hlt, h2⟩ := hgo
      obtain ⟨b, off, rfl, hb0, hcc⟩ := HC.out (by omega)
      have c0 : wr.cell? ⟨b, off + k * 2, none⟩ = some (.int .i64 (tokAt ts k).kind) := by rw [hb.cell (p := ⟨b, _, none⟩) hb0]; exact (hcc k hlt).1
      have c1 : wr.cell? ⟨b, off + k * 2 + 1, none⟩ = some (.string (S (tokAt ts k).text)) := by rw [hb.cell (p := ⟨b, _, none⟩) hb0]; exact (hcc k hlt).2
      clear hcc
      have cs := cut_step ts k hlt
      rw [← hlf.out] at cs
      have CS := Lib.hid cs; clear cs
      obtain ⟨tk, htk⟩ : ∃ tk, tk = tokAt ts k := ⟨_, rfl⟩
      rw [← htk] at c0 c1 CS
      clear htk
      have i1 : (k : Int) < (ts.length : Int) := by omega
      have i2 : (0 : Int) ≤ (k : Int) := by omega
      have i3 : decide ((k : Int) ≤ 20000) = true := by rw [decide_eq_true_eq]; omega
      have m0 : (0 : Int) ≤ min (tk.text.length : Int) (n : Int) := by omega
      have m1 : min (tk.text.length : Int) (n : Int) ≤ (tk.text.length : Int) := by omega
      have clen : (cutF 20001 (ts.take k)).length ≤ 1000000 := by rw [cutF_length, List.length_take]; omega
      have hsz := hb.size
      go_wp2_with fail
      go_quiet (fail)
      rw [take_min_n]
      obtain ⟨wn, hwn⟩ : ∃ wn, wn = wr.drewN nq := ⟨_, rfl⟩
      rw [← hwn]
      have d0 : wn.cell? ⟨b, off + k * 2, none⟩ = some (.int .i64 tk.kind) := by rw [hwn, World.cell?_drewN]; exact c0
      have hbn : Below w.heap.size w wn := by rw [hwn]; exact bel_drewN hb _
      have hon : OwnT wn w.heap.size u3 (cutF 20001 (ts.take k)) := by rw [hwn]; exact hown
      have hzn := hbn.size
      have tle : (tk.text.take n).length ≤ n := by rw [List.length_take]; omega
      have n1 : IntKind.i64.wrap ((n : Int) - ((tk.text.take n).length : Int)) = (n : Int) - ((tk.text.take n).length : Int) := wrapI _ (by omega)
      clear hwn c0 c1 hb hown hsz
      obtain ⟨tx, htx⟩ : ∃ tx, tx = tk.text.take n := ⟨_, rfl⟩
      rw [← htx] at n1 tle CS ⊢
      clear htx m0 m1
      go_wp2_with (at_builtin; refine tok_append w w.heap.size rfl (.tmp 31) (.tmp 39) rfl u3 (cutF 20001 (ts.take k)) ⟨tk.kind, tx⟩ rfl wn.heap.size rfl rfl hon hbn hzn clen ?_; intro v1 w5 hown5 hb5)
      refine ⟨⟨k + 1, n - tx.length, by omega, by omega, by go_num, ?_, by omega, Lib.hid CS.out.2.symm, by rw [CS.out.1]; exact hown5, hb5⟩, by simp [intOf]; omega⟩
      congr 1; omega
    · have hr : ts.take k = ts.take 20001 := by
        rcases Nat.lt_or_ge k ts.length with h | h
        · have : k = 20001 := by rcases Nat.lt_or_ge k 20001 with h2 | h2; exact absurd ⟨h, h2⟩ hgo; omega
          rw [this]
        · rw [List.take_of_length_le h, List.take_of_length_le (by omega)]
      rw [hr] at hown
      have HO : OwnT wr w.heap.size u3 (cutL ts) := hown
      by_cases hlt : k < ts.length
      · have i1 : (k : Int) < (ts.length : Int) := by omega
        have i3 : decide ((k : Int) ≤ 20000) = false := by rw [decide_eq_false_iff_not]; rcases Nat.lt_or_ge k 20001 with h2 | h2; exact absurd ⟨hlt, h2⟩ hgo; omega
        have i4 : ¬ (k : Int) ≤ 20000 := by rcases Nat.lt_or_ge k 20001 with h2 | h2; exact absurd ⟨hlt, h2⟩ hgo; omega
        clear hgo hr hown
        go_wp2
        go_ret
        exact ⟨_, rfl, HO, hb⟩
      · have i1 : ¬ (k : Int) < (ts.length : Int) := by omega
        clear hgo hr hown
        go_wp2
        go_ret
        exact ⟨_, rfl, HO, hb⟩

end Go.Proofs.YtepgjaecfoaenaaGreatDoor
