/- The reference's Lex; the laws' texts. Condition: a string of at most 20000 bytes. -/
import Derived.Test.YtepgjaecfoaenaaGreatDoorS5
import Derived.Test.YtepgjaecfoaenaaGreatDoorT5
namespace Go.Proofs.YtepgjaecfoaenaaGreatDoor
open Go.RowKit
set_option linter.unusedVariables false
set_option linter.unusedSimpArgs false

set_option maxRecDepth 100000 in
set_option maxHeartbeats 2000000 in
theorem RLex_calls (l : List UInt8) (w : World) (hs : l.length ≤ 20000) :
    Calls Tryz.prog 32 #[.string (S l)] w fun e w' => ∃ v, e = .returned v ∧ OwnT w' w.heap.size v (lex l) ∧ Below w.heap.size w w' := by
  go_enter Tryz.func32, Tryz.ntmps32
  go_wp2
  go_loopw [3, 4] (fun v i wr => ∃ (ts : List Tok) (n : Nat), i = .int .i64 n ∧ n ≤ l.length ∧ Hid (lex l = ts ++ lex (l.drop n)) ∧ ts.length ≤ n ∧ OwnT wr w.heap.size v ts ∧ Below w.heap.size w wr) (fun _ i _ => l.length - (intOf i).toNat)
  case atStart => exact ⟨[], 0, rfl, Nat.zero_le _, Lib.hid rfl, Nat.le_refl _, OwnT.nil _ _, Below.refl _ _⟩
  case round =>
    obtain ⟨ts, n, rfl, hn, hl, hlen, hown, hb⟩ := hrel
    by_cases hlt : n < l.length
    · have i1 : (n : Int) < (l.length : Int) := by omega
      have hd : 0 < (l.drop n).length := by simp; omega
      have hT := nextT_len (l.drop n) hd
      have hTle := nextKN_le (l.drop n) hd
      have hTpos := nextKN_pos (l.drop n) hd
      rw [List.length_drop] at hTle
      have HT := Lib.hid hT; clear hT
      go_wp2_with fail
      refine (Rnext_calls l n _ hlt (by omega)).mono ?_
      rintro e w1 ⟨rfl, hb1⟩
      have hown1 : OwnT w1 w.heap.size u3 ts := own_below hown hb1
      have hb2 := bel_then hb hb1
      have hsz := hb2.size
      have hne : u3.ownBlock ≠ some w1.heap.size := by
        intro e
        have := (World.ownsRow.lt hown1 _ e).2
        omega
      clear hown hb hb1
      obtain ⟨tk, htk⟩ : ∃ tk, tk = nextT (l.drop n) := ⟨_, rfl⟩
      rw [← htk]
      have HTK := Lib.hid htk; clear htk
      have tl : tk.text.length = (nextKN (l.drop n)).2 := by rw [HTK.out]; exact HT.out
      have n1 : IntKind.i64.wrap ((n : Int) + (tk.text.length : Int)) = (n : Int) + (tk.text.length : Int) := wrapI _ (by omega)
      go_wp2_with (at_builtin; refine tok_append_at (W := w1.alloc (.cells #[.int .i64 tk.kind, .string (S tk.text)] 23)) w w.heap.size rfl (.tmp 13) (.tmp 15) rfl u3 ts tk rfl (w1.heap.size + 1) rfl (by simp) (World.ownsRow.alloc hown1 _) (bel_alloc hb2 _) (by simp; omega) (by omega) ?_; intro v1 w5 hown5 hb5 hoth hz5; have c1 : w5.cell? ⟨w1.heap.size, 1, none⟩ = some (.string (S tk.text)) := (by rw [(hoth w1.heap.size (by simp) hne).2]; simp))
      refine ⟨⟨ts ++ [tk], n + (nextKN (l.drop n)).2, ?_, by omega, Lib.hid ?_, by simp; omega, hown5, hb5⟩, ?_⟩
      · go_num
      · rw [hl.out, lex_cons _ hd, HTK.out, List.drop_drop]; simp
      · simp [intOf]; omega
    · have hnl : l.drop n = [] := List.drop_eq_nil_of_le (by omega)
      have e := hl.out
      rw [hnl, lex_nil, List.append_nil] at e
      rw [← e] at hown
      clear hnl e
      go_wp2
      go_ret
      exact ⟨_, rfl, hown, hb⟩

set_option maxHeartbeats 1000000 in
theorem texts_calls (g c g' c' : Nat) (ls : List (List UInt8)) (w : World) (hn : ls.length ≤ 100) (hg : g < w.heap.size) (hg' : g' < w.heap.size)
    (h : ∀ k, k < ls.length → w.cell? ⟨g, k, none⟩ = some (.string (S (strAt ls k)))) (h' : ∀ k, k < ls.length → w.cell? ⟨g', k, none⟩ = some (.string (S (strAt ls k)))) :
    Calls Tryz.prog 27 #[.slice (some ⟨g, 0, none⟩) ls.length c, .slice (some ⟨g', 0, none⟩) ls.length c'] w fun e w' => e = .returned (.bool true) ∧ Below w.heap.size w w' := by
  have HC := Lib.hid h; have HC' := Lib.hid h'; clear h h'
  have e0 : ((ls.length : Int) != (ls.length : Int)) = false := by simp
  go_enter Tryz.func27, Tryz.ntmps27
  go_wp2
  go_loopw [5] (fun i wr => ∃ k : Nat, k ≤ ls.length ∧ i = .int .i64 k ∧ Below w.heap.size w wr) (fun i _ => ls.length - (intOf i).toNat)
  case atStart => exact ⟨0, Nat.zero_le _, rfl, Below.refl _ _⟩
  case round =>
    obtain ⟨k, hk, rfl, hb⟩ := hrel
    by_cases hlt : k < ls.length
    · have e1 : wr.cell? ⟨g, k, none⟩ = some (.string (S (strAt ls k))) := by rw [hb.cell (p := ⟨g, k, none⟩) hg]; exact HC.out k hlt
      have e2 : wr.cell? ⟨g', k, none⟩ = some (.string (S (strAt ls k))) := by rw [hb.cell (p := ⟨g', k, none⟩) hg']; exact HC'.out k hlt
      have e3 : (strAt ls k != strAt ls k) = false := by simp
      have e4 : (strAt ls k == strAt ls k) = true := by simp
      have i1 : (k : Int) < (ls.length : Int) := by omega
      have i2 : (0 : Int) ≤ (k : Int) := by omega
      go_wp2
      go_quiet (fail)
      go_wp2
      exact ⟨⟨k + 1, by omega, by go_num, bel_drewN hb _⟩, by simp [intOf]; omega⟩
    · go_wp2
      go_ret
      exact ⟨rfl, hb⟩

end Go.Proofs.YtepgjaecfoaenaaGreatDoor
