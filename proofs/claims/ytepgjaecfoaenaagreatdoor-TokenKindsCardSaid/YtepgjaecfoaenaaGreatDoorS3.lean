/- The reference's tests of bytes, lists of words and signs, sign, remark, line, quoted, begins. Condition: a string is no longer than an int can tell, a place is in it. -/
import Derived.Test.YtepgjaecfoaenaaGreatDoorS1
import Derived.Test.YtepgjaecfoaenaaGreatDoorPB
import Derived.Test.YtepgjaecfoaenaaGreatDoorOQ
import Derived.Deep.RegionWith
namespace Go.Proofs.YtepgjaecfoaenaaGreatDoor
open Go.RowKit
set_option linter.unusedVariables false
set_option linter.unusedSimpArgs false

theorem wrapI (n : Int) (h : -9223372036854775808 ≤ n ∧ n ≤ 9223372036854775807) : IntKind.i64.wrap n = n := by
  have h64 : (2 : Int) ^ 64 = 18446744073709551616 := by decide
  have h63 : (2 : Int) ^ (64 - 1) = 9223372036854775808 := by decide
  simp only [IntKind.wrap, IntKind.bits, IntKind.signed, Bool.true_and, decide_eq_true_eq, h64, h63]
  split <;> omega
theorem ref_letter_int : ∀ c : UInt8, isLetter c = (decide (97 ≤ (c.toNat : Int)) && decide ((c.toNat : Int) ≤ 122) || decide (65 ≤ (c.toNat : Int)) && decide ((c.toNat : Int) ≤ 90) || (c.toNat : Int) == 95) :=
  u8_all (by decide +kernel)

set_option maxHeartbeats 400000 in
theorem RDigit_calls (c : UInt8) (w : World) :
    Calls Tryz.prog 63 #[.int .u8 c.toNat] w fun e w' => e = .returned (.bool (isDigit c)) ∧ w = w' := by
  rw [isDigit_int]
  go_enter Tryz.func63, Tryz.ntmps63
  go_wp2
  all_goals go_ret
  all_goals (refine ⟨ret_bool ?_, rfl⟩; simp <;> omega)
set_option maxHeartbeats 400000 in
theorem RBlank_calls (c : UInt8) (w : World) :
    Calls Tryz.prog 59 #[.int .u8 c.toNat] w fun e w' => e = .returned (.bool (isBlank c)) ∧ w = w' := by
  rw [isBlank_int]
  go_enter Tryz.func59, Tryz.ntmps59
  go_wp2
  all_goals go_ret
  all_goals simp [*]
set_option maxHeartbeats 400000 in
theorem RLetter_calls (c : UInt8) (w : World) :
    Calls Tryz.prog 62 #[.int .u8 c.toNat] w fun e w' => e = .returned (.bool (isLetter c)) ∧ w = w' := by
  rw [ref_letter_int]
  go_enter Tryz.func62, Tryz.ntmps62
  go_wp2
  all_goals go_ret
  all_goals (refine ⟨ret_bool ?_, rfl⟩; first | (simp [*] <;> omega) | (simp_all; omega) | grind)

/-- Is it one of them? -/
def inL (ls : List (List UInt8)) (s : List UInt8) : Bool := ls.contains s
theorem contains_of {ls : List (List UInt8)} {s : List UInt8} {k : Nat} (hk : k < ls.length) (h : (strAt ls k == s) = true) : inL ls s = true := by
  unfold inL; rw [List.contains_iff_mem]
  have : strAt ls k = s := by simpa using h
  rw [← this, strAt, List.getD_eq_getElem?_getD, List.getElem?_eq_getElem hk]
  exact List.getElem_mem _
theorem contains_no {ls : List (List UInt8)} {s : List UInt8} (h : ∀ j, j < ls.length → (strAt ls j == s) = false) : inL ls s = false := by
  unfold inL; rw [Bool.eq_false_iff]
  intro hc
  rw [List.contains_iff_mem, List.mem_iff_getElem] at hc
  obtain ⟨j, hj, e⟩ := hc
  have := h j hj
  rw [strAt, List.getD_eq_getElem?_getD, List.getElem?_eq_getElem hj] at this
  simp [e] at this

set_option maxHeartbeats 1000000 in
theorem has_calls (g c : Nat) (ls : List (List UInt8)) (s : List UInt8) (w : World) (hn : ls.length ≤ 100)
    (hc : ∀ k, k < ls.length → w.cell? ⟨g, k, none⟩ = some (.string (S (strAt ls k)))) :
    Calls Tryz.prog 64 #[.slice (some ⟨g, 0, none⟩) ls.length c, .string (S s)] w fun e w' => e = .returned (.bool (inL ls s)) ∧ w = w' := by
  have HC := Lib.hid hc; clear hc
  go_enter Tryz.func64, Tryz.ntmps64
  go_wp2
  go_loop [5] (fun i => ∃ k : Nat, k ≤ ls.length ∧ i = .int .i64 k ∧ Hid (∀ j, j < k → (strAt ls j == s) = false)) (fun i => ls.length - (intOf i).toNat)
  case atStart => exact ⟨0, Nat.zero_le _, rfl, Lib.hid (fun j hj => absurd hj (by omega))⟩
  case round =>
    obtain ⟨k, hk, rfl, hall⟩ := hrel
    by_cases hlt : k < ls.length
    · have e1 := HC.out k hlt
      go_wp2
      · have h1 : (strAt ls k == s) = true := by assumption
        go_ret
        exact ⟨ret_bool (contains_of hlt h1).symm, rfl⟩
      · have h1 : (strAt ls k == s) = false := by assumption
        go_round
        case rel => exact ⟨k + 1, by omega, by go_num, Lib.hid (fun j hj => if h : j = k then h ▸ h1 else hall.out j (by omega))⟩
        case measure => simp [intOf]; omega
    · go_wp2
      go_ret
      exact ⟨ret_bool (contains_no (fun j hj => hall.out j (by omega))).symm, rfl⟩

/-- What a function that returns a list of strings leaves. -/
def StrsPost (w : World) (ls : List (List UInt8)) (e : Ending) (w' : World) : Prop :=
  ∃ g c, e = .returned (.slice (some ⟨g, 0, none⟩) ls.length c) ∧ g < w'.heap.size ∧ (∀ k, k < ls.length → w'.cell? ⟨g, k, none⟩ = some (.string (S (strAt ls k)))) ∧ Below w.heap.size w w'

theorem row_strs (w : World) (ls : List (List UInt8)) (t : TypeId) (k : Nat) (hk : k < ls.length) :
    (w.alloc (.cells (ls.map fun x => Value.string (S x)).toArray t)).cell? ⟨w.heap.size, k, none⟩ = some (.string (S (strAt ls k))) := by
  rw [World.cell?_alloc_new]
  simp [strAt, List.getElem?_eq_getElem hk]

set_option maxHeartbeats 1000000 in
theorem RWords_calls (w : World) : Calls Tryz.prog 29 #[] w (StrsPost w wordsL) := by
  go_enter Tryz.func29, Tryz.ntmps29
  go_wp2
  go_ret
  exact ⟨w.heap.size, _, rfl, by simp, fun k hk => row_strs w wordsL _ k hk, bel_alloc (Below.refl _ _) _⟩
set_option maxHeartbeats 1000000 in
theorem RSigns_calls (w : World) : Calls Tryz.prog 31 #[] w (StrsPost w signsL) := by
  go_enter Tryz.func31, Tryz.ntmps31
  go_wp2
  go_ret
  exact ⟨w.heap.size, _, rfl, by simp, fun k hk => row_strs w signsL _ k hk, bel_alloc (Below.refl _ _) _⟩
set_option maxHeartbeats 1000000 in
theorem words_calls (w : World) : Calls Tryz.prog 53 #[] w (StrsPost w wordsL) := by
  go_enter Tryz.func53, Tryz.ntmps53
  go_wp2
  go_ret
  exact ⟨w.heap.size, _, rfl, by simp, fun k hk => row_strs w wordsL _ k hk, bel_alloc (Below.refl _ _) _⟩
set_option maxHeartbeats 1000000 in
theorem signs_calls (w : World) : Calls Tryz.prog 54 #[] w (StrsPost w signsL) := by
  go_enter Tryz.func54, Tryz.ntmps54
  go_wp2
  go_ret
  exact ⟨w.heap.size, _, rfl, by simp, fun k hk => row_strs w signsL _ k hk, bel_alloc (Below.refl _ _) _⟩
theorem Words_calls (w : World) : Calls Tryz.prog 28 #[] w (StrsPost w wordsL) := by
  go_enter Tryz.func28, Tryz.ntmps28
  go_wp2_with fail
  refine (words_calls w).mono ?_
  rintro e w1 ⟨g, c, rfl, hg, hc, hb⟩
  go_wp2
  go_ret
  exact ⟨g, c, rfl, hg, hc, hb⟩
theorem Signs_calls (w : World) : Calls Tryz.prog 30 #[] w (StrsPost w signsL) := by
  go_enter Tryz.func30, Tryz.ntmps30
  go_wp2_with fail
  refine (signs_calls w).mono ?_
  rintro e w1 ⟨g, c, rfl, hg, hc, hb⟩
  go_wp2
  go_ret
  exact ⟨g, c, rfl, hg, hc, hb⟩

theorem two_at (l : List UInt8) (k n : Nat) : (l.take (k + n)).drop k = (l.drop k).take n := by rw [List.drop_take]; congr 1; omega

theorem isSign_in (s : List UInt8) : isSign s = inL signsL s := rfl
theorem isWord_in (s : List UInt8) : isWord s = inL wordsL s := rfl

theorem pre_at (l : List UInt8) (k : Nat) : pre (l.drop k) = (decide (k + 1 < l.length) && (at_ l k == 47 && at_ l (k + 1) == 47)) := by
  rw [pre_eq]
  have e1 : decide (2 ≤ (l.drop k).length) = decide (k + 1 < l.length) := decide_eq_decide.2 (by simp; omega)
  rw [e1]; simp [at_, List.getElem?_drop]
theorem byte_int (c d : UInt8) : ((c.toNat : Int) == (d.toNat : Int)) = (c == d) := by
  rw [Bool.eq_iff_iff]; simp only [beq_iff_eq]
  exact ⟨fun h => UInt8.toNat_inj.1 (by omega), fun h => by rw [h]⟩

set_option maxHeartbeats 1000000 in
theorem Rremark_calls (l : List UInt8) (k : Nat) (w : World) (hs : l.length ≤ 9223372036854775000) (hk : k ≤ l.length) :
    Calls Tryz.prog 60 #[.string (S l), .int .i64 k] w fun e w' => e = .returned (.bool (pre (l.drop k))) ∧ w = w' := by
  rw [pre_at]
  have e47 : ∀ c : UInt8, (c == 47) = ((c.toNat : Int) == 47) := fun c => (byte_int c 47).symm
  rw [e47, e47]
  by_cases h2 : k + 1 < l.length
  · have b2 : (k : Int) + 1 < (l.length : Int) := by omega
    have t1 : ((k : Int) + 1).toNat = k + 1 := by omega
    rw [decide_eq_true h2]
    go_enter Tryz.func60, Tryz.ntmps60
    go_wp2
    all_goals go_ret
    all_goals simp [*]
  · have b2 : ¬ (k : Int) + 1 < (l.length : Int) := by omega
    rw [decide_eq_false h2]
    go_enter Tryz.func60, Tryz.ntmps60
    go_wp2
    all_goals go_ret
    all_goals simp [*]

theorem runN_drop (p : UInt8 → Bool) (l : List UInt8) (k m : Nat) (hk : k ≤ m) (hm : m ≤ l.length) (h : ∀ j, k ≤ j → j < m → p (at_ l j) = true)
    (he : m = l.length ∨ p (at_ l m) = false) : runN p (l.drop k) = m - k := by
  refine runN_of p _ _ (by simp; omega) (fun j hj => ?_) ?_
  · have := h (k + j) (by omega) (by omega)
    simpa [at_, List.getElem?_drop] using this
  · rcases he with he | he
    · left; simp; omega
    · right
      have e : k + (m - k) = m := by omega
      simpa [at_, List.getElem?_drop, e] using he

set_option maxHeartbeats 1000000 in
theorem Rline_calls (l : List UInt8) (k : Nat) (w : World) (hs : l.length ≤ 9223372036854775000) (hk : k ≤ l.length) :
    Calls Tryz.prog 61 #[.string (S l), .int .i64 k] w fun e w' => e = .returned (.int .i64 (k + lineN (l.drop k) : Nat)) ∧ w = w' := by
  go_enter Tryz.func61, Tryz.ntmps61
  go_wp2
  go_loop [1] (fun i => ∃ m : Nat, k ≤ m ∧ m ≤ l.length ∧ i = .int .i64 m ∧ Hid (∀ j, k ≤ j → j < m → (!(at_ l j == 10)) = true)) (fun i => l.length - (intOf i).toNat)
  case atStart => exact ⟨k, Nat.le_refl _, hk, rfl, Lib.hid (fun j h1 h2 => absurd h1 (by omega))⟩
  case round =>
    obtain ⟨m, hkm, hm, rfl, hall⟩ := hrel
    by_cases hlt : m < l.length
    · go_wp2
      · have h1 : ((at_ l m).toNat != (10 : Int)) = true := by assumption
        have h2 : (!(at_ l m == 10)) = true := by
          have := byte_int (at_ l m) 10
          rw [← this]; exact h1
        go_round
        case rel => exact ⟨m + 1, by omega, by omega, by go_num, Lib.hid (fun j hj hj2 => if h : j = m then h ▸ h2 else hall.out j hj (by omega))⟩
        case measure => simp [intOf]; omega
      · have h1 : ((at_ l m).toNat != (10 : Int)) = false := by assumption
        have h2 : (!(at_ l m == 10)) = false := by
          have := byte_int (at_ l m) 10
          rw [← this]; exact h1
        go_ret
        refine ⟨ret_int ?_, rfl⟩
        have := runN_drop (fun c => !(c == 10)) l k m hkm hm hall.out (.inr h2)
        unfold lineN; rw [this]; omega
    · go_wp2
      go_ret
      refine ⟨ret_int ?_, rfl⟩
      have := runN_drop (fun c => !(c == 10)) l k m hkm hm hall.out (.inl (by omega))
      unfold lineN; rw [this]; omega

end Go.Proofs.YtepgjaecfoaenaaGreatDoor
