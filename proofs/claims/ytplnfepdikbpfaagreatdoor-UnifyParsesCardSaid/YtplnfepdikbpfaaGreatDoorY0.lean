/- The reference's tests of bytes, Next, IsToken, Great, Small and Capital. Condition: a string is no longer than an int can tell. -/
import Derived.Test.YtplnfepdikbpfaaGreatDoorU3
import Derived.StillTailTactics
import Derived.Deep.RegionWith
import Derived.Deep.RegionHeld3
import Derived.OwnWalk
namespace Go.Proofs.YtplnfepdikbpfaaGreatDoor
open Go.RowKit
set_option linter.unusedVariables false
set_option linter.unusedSimpArgs false

theorem runN_pos (p : UInt8 → Bool) (l : List UInt8) (hl : 0 < l.length) (h : p (at_ l 0) = true) : 0 < runN p l := by
  cases l with
  | nil => simp at hl
  | cons c r => have hc : p c = true := by simpa [at_] using h
                simp [runN, List.takeWhile_cons, hc]

/-- Does a remark begin here? -/
def pre (l : List UInt8) : Bool := [47, 47].isPrefixOf l

theorem pre_eq (l : List UInt8) : pre l = (decide (2 ≤ l.length) && (at_ l 0 == 47 && at_ l 1 == 47)) := by
  unfold pre
  match l with
  | [] => rfl
  | [c] => simp [List.isPrefixOf]
  | c :: d :: r =>
    simp only [List.isPrefixOf, at_, List.length_cons]
    rw [show ((47 : UInt8) == c) = (c == 47) from BEq.comm, show ((47 : UInt8) == d) = (d == 47) from BEq.comm]
    simp

theorem good_blank {l : List UInt8} (h : isBlank (at_ l 0) = true) : goodKN l = (1, runN isBlank l) := by unfold goodKN; rw [if_pos h]

theorem good_remark {l : List UInt8} (h : isBlank (at_ l 0) = false) (h2 : pre l = true) : goodKN l = (2, lineN l) := by
  unfold goodKN; unfold pre at h2; simp [h, h2]

theorem good_letter {l : List UInt8} (h : isBlank (at_ l 0) = false) (h2 : pre l = false) (h3 : isLetter (at_ l 0) = true) :
    goodKN l = (if isWord (l.take (runN isAlnum l)) then 4 else 3, runN isAlnum l) := by
  unfold goodKN; unfold pre at h2; simp [h, h2, h3]

theorem good_digit {l : List UInt8} (h : isBlank (at_ l 0) = false) (h2 : pre l = false) (h3 : isLetter (at_ l 0) = false) (h4 : isDigit (at_ l 0) = true) :
    goodKN l = (5, runN isDigit l) := by
  unfold goodKN; unfold pre at h2; simp [h, h2, h3, h4]

theorem good_quote {l : List UInt8} (h5 : at_ l 0 = 34) : goodKN l = (6, quotedN l) := by
  have h : isBlank (at_ l 0) = false := by rw [h5]; decide
  have h2 : pre l = false := by rw [pre_eq, h5]; simp
  have h3 : isLetter (at_ l 0) = false := by rw [h5]; decide
  have h4 : isDigit (at_ l 0) = false := by rw [h5]; decide
  unfold goodKN; unfold pre at h2; rw [h, h2, h3, h4]; simp only [Bool.false_eq_true, if_false]; rw [if_pos h5]

theorem good_sign {l : List UInt8} (h : isBlank (at_ l 0) = false) (h2 : pre l = false) (h3 : isLetter (at_ l 0) = false) (h4 : isDigit (at_ l 0) = false) (h5 : at_ l 0 ≠ 34) :
    goodKN l = (7, signN l) := by
  unfold goodKN; unfold pre at h2; simp [h, h2, h3, h4, h5]

theorem line_remark {l : List UInt8} (h : pre l = true) : 2 ≤ lineN l := by
  rw [pre_eq] at h
  simp only [Bool.and_eq_true, decide_eq_true_eq, beq_iff_eq] at h
  obtain ⟨h0, h1, h2⟩ := h
  match l, h0 with
  | c :: d :: r, _ =>
    have hc : c = 47 := by simpa [at_] using h1
    have hd : d = 47 := by simpa [at_] using h2
    subst hc; subst hd
    simp [lineN, runN, List.takeWhile_cons]

theorem alnum_letter {c : UInt8} (h : isLetter c = true) : isAlnum c = true := by simp [isAlnum, h]

theorem signN_two (l : List UInt8) (h1 : 2 ≤ l.length) (h2 : isSign (l.take 2) = true) : signN l = 2 := by unfold signN; rw [if_pos ⟨h1, h2⟩]

theorem signN_one (l : List UInt8) (h1 : ¬ (2 ≤ l.length ∧ isSign (l.take 2) = true)) (h2 : 1 ≤ l.length ∧ isSign (l.take 1) = true) : signN l = 1 := by
  unfold signN; rw [if_neg h1, if_pos h2]

theorem signN_zero (l : List UInt8) (h1 : ¬ (2 ≤ l.length ∧ isSign (l.take 2) = true)) (h2 : ¬ (1 ≤ l.length ∧ isSign (l.take 1) = true)) : signN l = 0 := by
  unfold signN; rw [if_neg h1, if_neg h2]

theorem good_cut {l : List UInt8} (h : (goodKN l).2 = 0) (hl : 0 < l.length) : isBlank (at_ l 0) = false ∧ pre l = false ∧ isLetter (at_ l 0) = false ∧ isDigit (at_ l 0) = false := by
  cases h1 : isBlank (at_ l 0) with
  | true => rw [good_blank h1] at h; have := runN_pos _ l hl h1; simp only at h; omega
  | false =>
    cases h2 : pre l with
    | true => rw [good_remark h1 h2] at h; have := line_remark h2; simp only at h; omega
    | false =>
      cases h3 : isLetter (at_ l 0) with
      | true => rw [good_letter h1 h2 h3] at h; have := runN_pos isAlnum l hl (alnum_letter h3); simp only at h; omega
      | false =>
        cases h4 : isDigit (at_ l 0) with
        | true => rw [good_digit h1 h2 h3 h4] at h; have := runN_pos _ l hl h4; simp only at h; omega
        | false => exact ⟨rfl, rfl, rfl, rfl⟩

theorem next_bad {l : List UInt8} (h : (goodKN l).2 = 0) : nextKN l = (8, if at_ l 0 = 34 then lineN l else 1 + runBad (l.drop 1)) := by
  unfold nextKN; rw [if_neg (by omega)]

theorem next_good {l : List UInt8} (h : 0 < (goodKN l).2) : nextKN l = goodKN l := by unfold nextKN; rw [if_pos h]

theorem isTok_of {t : Tok} (h0 : 0 < t.text.length) (h1 : t.text.length ≤ 20000) (h : lex t.text = [t]) : isTokB t = true := by
  unfold isTokB areB
  have : textErr [t] = 0 := textErr_ok [t] (by rw [textOf_one]; simp; omega) (by rw [textOf_one]; exact h)
  rw [this]
  have : (t.text == []) = false := by cases hx : t.text <;> simp [hx] at h0 ⊢
  rw [this]; rfl

theorem next_blank {l : List UInt8} (hl : 0 < l.length) (h : isBlank (at_ l 0) = true) : nextKN l = (1, runN isBlank l) := by
  have e := good_blank h
  rw [next_good (by rw [e]; exact runN_pos _ l hl h), e]

def strAt (xs : List (List UInt8)) (k : Nat) : List UInt8 := xs.getD k []

def strsCells (xs : List (List UInt8)) : List Value := xs.map fun x => .string (S x)

/-- The slice has these strings, in a row of memory of the call's own. -/
def OwnS (w : World) (base : Nat) (v : Value) (xs : List (List UInt8)) : Prop := w.ownsRow base 9 1 v xs.length (strsCells xs)

theorem OwnS.nil (w : World) (base : Nat) : OwnS w base (.slice none 0 0) [] := ⟨rfl, .inl ⟨rfl, rfl⟩⟩

theorem wrapI (n : Int) (h : -9223372036854775808 ≤ n ∧ n ≤ 9223372036854775807) : IntKind.i64.wrap n = n := by
  have h64 : (2 : Int) ^ 64 = 18446744073709551616 := by decide
  have h63 : (2 : Int) ^ (64 - 1) = 9223372036854775808 := by decide
  simp only [IntKind.wrap, IntKind.bits, IntKind.signed, Bool.true_and, decide_eq_true_eq, h64, h63]
  split <;> omega

theorem ref_letter_int : ∀ c : UInt8, isLetter c = (decide (97 ≤ (c.toNat : Int)) && decide ((c.toNat : Int) ≤ 122) || decide (65 ≤ (c.toNat : Int)) && decide ((c.toNat : Int) ≤ 90) || (c.toNat : Int) == 95) :=
  u8_all (by decide +kernel)

set_option maxHeartbeats 400000 in
theorem RDigit_calls (c : UInt8) (w : World) :
    Calls Tryz.prog 127 #[.int .u8 c.toNat] w fun e w' => e = .returned (.bool (isDigit c)) ∧ w = w' := by
  rw [isDigit_int]
  go_enter Tryz.func127, Tryz.ntmps127
  go_wp2
  all_goals go_ret
  all_goals (refine ⟨ret_bool ?_, rfl⟩; simp <;> omega)

set_option maxHeartbeats 400000 in
theorem RBlank_calls (c : UInt8) (w : World) :
    Calls Tryz.prog 172 #[.int .u8 c.toNat] w fun e w' => e = .returned (.bool (isBlank c)) ∧ w = w' := by
  rw [isBlank_int]
  go_enter Tryz.func172, Tryz.ntmps172
  go_wp2
  all_goals go_ret
  all_goals simp [*]

set_option maxHeartbeats 400000 in
theorem RLetter_calls (c : UInt8) (w : World) :
    Calls Tryz.prog 126 #[.int .u8 c.toNat] w fun e w' => e = .returned (.bool (isLetter c)) ∧ w = w' := by
  rw [ref_letter_int]
  go_enter Tryz.func126, Tryz.ntmps126
  go_wp2
  all_goals go_ret
  all_goals (refine ⟨ret_bool ?_, rfl⟩; first | (simp [*] <;> omega) | (simp_all; omega) | grind)

/-- Is it one of them? -/
def inL (ls : List (List UInt8)) (s : List UInt8) : Bool := ls.contains s

theorem contains_of {ls : List (List UInt8)} {s : List UInt8} {k : Nat} (hk : k < ls.length) (h : (strAt ls k == s) = true) : inL ls s = true := by
  unfold inL; rw [List.contains_iff_mem]
  have : strAt ls k = s := by simpa using h
  rw [← this, strAt, List.getD_eq_getElem?_getD, List.getElem?_eq_getElem hk]
  exact List.getElem_mem _

theorem contains_no {ls : List (List UInt8)} {s : List UInt8} (h : ∀ j, j < ls.length → (strAt ls j == s) = false) : inL ls s = false := by
  unfold inL; rw [Bool.eq_false_iff]
  intro hc
  rw [List.contains_iff_mem, List.mem_iff_getElem] at hc
  obtain ⟨j, hj, e⟩ := hc
  have := h j hj
  rw [strAt, List.getD_eq_getElem?_getD, List.getElem?_eq_getElem hj] at this
  simp [e] at this

set_option maxHeartbeats 1000000 in
theorem has_calls (g c : Nat) (ls : List (List UInt8)) (s : List UInt8) (w : World) (hn : ls.length ≤ 100)
    (hc : ∀ k, k < ls.length → w.cell? ⟨g, k, none⟩ = some (.string (S (strAt ls k)))) :
    Calls Tryz.prog 175 #[.slice (some ⟨g, 0, none⟩) ls.length c, .string (S s)] w fun e w' => e = .returned (.bool (inL ls s)) ∧ w = w' := by
  have HC := Lib.hid hc; clear hc
  go_enter Tryz.func175, Tryz.ntmps175
  go_wp2
  go_loop [5] (fun i => ∃ k : Nat, k ≤ ls.length ∧ i = .int .i64 k ∧ Hid (∀ j, j < k → (strAt ls j == s) = false)) (fun i => ls.length - (intOf i).toNat)
  case atStart => exact ⟨0, Nat.zero_le _, rfl, Lib.hid (fun j hj => absurd hj (by omega))⟩
  case round =>
    obtain ⟨k, hk, rfl, hall⟩ := hrel
    by_cases hlt : k < ls.length
    · have e1 := HC.out k hlt
      go_wp2
      · have h1 : (strAt ls k == s) = true := by assumption
        go_ret
        exact ⟨ret_bool (contains_of hlt h1).symm, rfl⟩
      · have h1 : (strAt ls k == s) = false := by assumption
        go_round
        case rel => exact ⟨k + 1, by omega, by go_num, Lib.hid (fun j hj => if h : j = k then h ▸ h1 else hall.out j (by omega))⟩
        case measure => simp [intOf]; omega
    · go_wp2
      go_ret
      exact ⟨ret_bool (contains_no (fun j hj => hall.out j (by omega))).symm, rfl⟩

/-- What a function that returns a list of strings leaves. -/
def StrsPost (w : World) (ls : List (List UInt8)) (e : Ending) (w' : World) : Prop :=
  ∃ g c, e = .returned (.slice (some ⟨g, 0, none⟩) ls.length c) ∧ g < w'.heap.size ∧ (∀ k, k < ls.length → w'.cell? ⟨g, k, none⟩ = some (.string (S (strAt ls k)))) ∧ Below w.heap.size w w'

theorem row_strs (w : World) (ls : List (List UInt8)) (t : TypeId) (k : Nat) (hk : k < ls.length) :
    (w.alloc (.cells (ls.map fun x => Value.string (S x)).toArray t)).cell? ⟨w.heap.size, k, none⟩ = some (.string (S (strAt ls k))) := by
  rw [World.cell?_alloc_new]
  simp [strAt, List.getElem?_eq_getElem hk]

set_option maxHeartbeats 1000000 in
theorem RWords_calls (w : World) : Calls Tryz.prog 176 #[] w (StrsPost w wordsL) := by
  go_enter Tryz.func176, Tryz.ntmps176
  go_wp2
  go_ret
  exact ⟨w.heap.size, _, rfl, by simp, fun k hk => row_strs w wordsL _ k hk, bel_alloc (Below.refl _ _) _⟩

set_option maxHeartbeats 1000000 in
theorem RSigns_calls (w : World) : Calls Tryz.prog 191 #[] w (StrsPost w signsL) := by
  go_enter Tryz.func191, Tryz.ntmps191
  go_wp2
  go_ret
  exact ⟨w.heap.size, _, rfl, by simp, fun k hk => row_strs w signsL _ k hk, bel_alloc (Below.refl _ _) _⟩

theorem two_at (l : List UInt8) (k n : Nat) : (l.take (k + n)).drop k = (l.drop k).take n := by rw [List.drop_take]; congr 1; omega

theorem isSign_in (s : List UInt8) : isSign s = inL signsL s := rfl

theorem pre_at (l : List UInt8) (k : Nat) : pre (l.drop k) = (decide (k + 1 < l.length) && (at_ l k == 47 && at_ l (k + 1) == 47)) := by
  rw [pre_eq]
  have e1 : decide (2 ≤ (l.drop k).length) = decide (k + 1 < l.length) := decide_eq_decide.2 (by simp; omega)
  rw [e1]; simp [at_, List.getElem?_drop]

theorem byte_int (c d : UInt8) : ((c.toNat : Int) == (d.toNat : Int)) = (c == d) := by
  rw [Bool.eq_iff_iff]; simp only [beq_iff_eq]
  exact ⟨fun h => UInt8.toNat_inj.1 (by omega), fun h => by rw [h]⟩

set_option maxHeartbeats 1000000 in
theorem Rremark_calls (l : List UInt8) (k : Nat) (w : World) (hs : l.length ≤ 9223372036854775000) (hk : k ≤ l.length) :
    Calls Tryz.prog 173 #[.string (S l), .int .i64 k] w fun e w' => e = .returned (.bool (pre (l.drop k))) ∧ w = w' := by
  rw [pre_at]
  have e47 : ∀ c : UInt8, (c == 47) = ((c.toNat : Int) == 47) := fun c => (byte_int c 47).symm
  rw [e47, e47]
  by_cases h2 : k + 1 < l.length
  · have b2 : (k : Int) + 1 < (l.length : Int) := by omega
    have t1 : ((k : Int) + 1).toNat = k + 1 := by omega
    rw [decide_eq_true h2]
    go_enter Tryz.func173, Tryz.ntmps173
    go_wp2
    all_goals go_ret
    all_goals simp [*]
  · have b2 : ¬ (k : Int) + 1 < (l.length : Int) := by omega
    rw [decide_eq_false h2]
    go_enter Tryz.func173, Tryz.ntmps173
    go_wp2
    all_goals go_ret
    all_goals simp [*]

theorem runN_drop (p : UInt8 → Bool) (l : List UInt8) (k m : Nat) (hk : k ≤ m) (hm : m ≤ l.length) (h : ∀ j, k ≤ j → j < m → p (at_ l j) = true)
    (he : m = l.length ∨ p (at_ l m) = false) : runN p (l.drop k) = m - k := by
  refine runN_of p _ _ (by simp; omega) (fun j hj => ?_) ?_
  · have := h (k + j) (by omega) (by omega)
    simpa [at_, List.getElem?_drop] using this
  · rcases he with he | he
    · left; simp; omega
    · right
      have e : k + (m - k) = m := by omega
      simpa [at_, List.getElem?_drop, e] using he

set_option maxHeartbeats 1000000 in
theorem Rline_calls (l : List UInt8) (k : Nat) (w : World) (hs : l.length ≤ 9223372036854775000) (hk : k ≤ l.length) :
    Calls Tryz.prog 174 #[.string (S l), .int .i64 k] w fun e w' => e = .returned (.int .i64 (k + lineN (l.drop k) : Nat)) ∧ w = w' := by
  go_enter Tryz.func174, Tryz.ntmps174
  go_wp2
  go_loop [1] (fun i => ∃ m : Nat, k ≤ m ∧ m ≤ l.length ∧ i = .int .i64 m ∧ Hid (∀ j, k ≤ j → j < m → (!(at_ l j == 10)) = true)) (fun i => l.length - (intOf i).toNat)
  case atStart => exact ⟨k, Nat.le_refl _, hk, rfl, Lib.hid (fun j h1 h2 => absurd h1 (by omega))⟩
  case round =>
    obtain ⟨m, hkm, hm, rfl, hall⟩ := hrel
    by_cases hlt : m < l.length
    · go_wp2
      · have h1 : ((at_ l m).toNat != (10 : Int)) = true := by assumption
        have h2 : (!(at_ l m == 10)) = true := by
          have := byte_int (at_ l m) 10
          rw [← this]; exact h1
        go_round
        case rel => exact ⟨m + 1, by omega, by omega, by go_num, Lib.hid (fun j hj hj2 => if h : j = m then h ▸ h2 else hall.out j hj (by omega))⟩
        case measure => simp [intOf]; omega
      · have h1 : ((at_ l m).toNat != (10 : Int)) = false := by assumption
        have h2 : (!(at_ l m == 10)) = false := by
          have := byte_int (at_ l m) 10
          rw [← this]; exact h1
        go_ret
        refine ⟨ret_int ?_, rfl⟩
        have := runN_drop (fun c => !(c == 10)) l k m hkm hm hall.out (.inr h2)
        unfold lineN; rw [this]; omega
    · go_wp2
      go_ret
      refine ⟨ret_int ?_, rfl⟩
      have := runN_drop (fun c => !(c == 10)) l k m hkm hm hall.out (.inl (by omega))
      unfold lineN; rw [this]; omega

set_option maxHeartbeats 2000000 in
theorem Rsign_calls (l : List UInt8) (k : Nat) (w : World) (hk : k < l.length) (hs : l.length ≤ 9223372036854775000) :
    Calls Tryz.prog 178 #[.string (S l), .int .i64 k] w fun e w' => e = .returned (.int .i64 (signN (l.drop k))) ∧ Below w.heap.size w w' := by
  have b1 : (k : Int) + 1 ≤ (l.length : Int) := by omega
  have b0 : (k : Int) < (l.length : Int) := by omega
  have w1v : IntKind.i64.wrap ((k : Int) + 1) = (k : Int) + 1 := wrapI _ (by omega)
  have t1 : ((k : Int) + 1).toNat = k + 1 := by omega
  have c1 : (0 : Int) ≤ (k : Int) := by omega
  have c2 : (0 : Int) ≤ (k : Int) + 1 := by omega
  have c3 : (k : Int) ≤ (k : Int) + 1 := by omega
  have key1 : ¬ (2 ≤ (l.drop k).length ∧ isSign ((l.drop k).take 2) = true) → signN (l.drop k) = if inL signsL ((l.take (k + 1)).drop k) then 1 else 0 := by
    intro hn2
    rw [two_at]
    cases hy : inL signsL ((l.drop k).take 1) with
    | true => exact signN_one _ hn2 ⟨by simp; omega, hy⟩
    | false => exact signN_zero _ hn2 (by rintro ⟨_, h⟩; rw [isSign_in, hy] at h; cases h)
  by_cases h2 : k + 1 < l.length
  · have b2 : decide ((k : Int) + 1 < (l.length : Int)) = true := by simp; omega
    have b3 : (k : Int) + 2 ≤ (l.length : Int) := by omega
    have w2v : IntKind.i64.wrap ((k : Int) + 2) = (k : Int) + 2 := wrapI _ (by omega)
    have t2 : ((k : Int) + 2).toNat = k + 2 := by omega
    have c4 : (0 : Int) ≤ (k : Int) + 2 := by omega
    have c5 : (k : Int) ≤ (k : Int) + 2 := by omega
    have key2 : inL signsL ((l.take (k + 2)).drop k) = true → signN (l.drop k) = 2 := by
      rw [two_at]; exact fun h => signN_two _ (by simp; omega) h
    have key3 : inL signsL ((l.take (k + 2)).drop k) = false → signN (l.drop k) = if inL signsL ((l.take (k + 1)).drop k) then 1 else 0 := by
      rw [two_at]; intro h; exact key1 (by rintro ⟨_, h'⟩; rw [isSign_in, h] at h'; cases h')
    have K2 := Lib.hid key2; have K3 := Lib.hid key3
    clear key1 key2 key3 h2
    cases hx : inL signsL ((l.take (k + 2)).drop k) with
    | true =>
      rw [K2.out hx]
      go_enter Tryz.func178, Tryz.ntmps178
      go_wp2_with fail
      go_region_held3 (fun W => Below w.heap.size w W) (first | exact hb | exact bel_drew (Below.refl _ _))
        (first
          | (go_at_call 191; refine (RSigns_calls _).mono ?_; rintro e w1 ⟨g, c, rfl, hg, hc, hb0⟩; have hb := bel_then (bel_drew (Below.refl _ w)) hb0)
          | (go_at_call 175; refine (has_calls g c signsL ((l.take (k + 2)).drop k) _ (by decide) hc).mono ?_; rw [hx]; rintro e w2 ⟨rfl, rfl⟩))
      all_goals go_wp2
      all_goals go_ret
      all_goals exact ⟨rfl, hb⟩
    | false =>
      rw [K3.out hx]
      go_enter Tryz.func178, Tryz.ntmps178
      go_wp2_with fail
      go_region_held3 (fun W => Below w.heap.size w W) (first | exact hb | exact bel_drew (Below.refl _ _))
        (first
          | (go_at_call 191; refine (RSigns_calls _).mono ?_; rintro e w1 ⟨g, c, rfl, hg, hc, hb0⟩; have hb := bel_then (bel_drew (Below.refl _ w)) hb0)
          | (go_at_call 175; refine (has_calls g c signsL ((l.take (k + 2)).drop k) _ (by decide) hc).mono ?_; rw [hx]; rintro e w2 ⟨rfl, rfl⟩))
      clear hc
      go_wp2_with fail
      cases hy : inL signsL ((l.take (k + 1)).drop k)
      all_goals
        go_region_held3 (fun W => Below w.heap.size w W) (first | exact hb2 | exact bel_drew hb)
          (first
            | (go_at_call 191; refine (RSigns_calls _).mono ?_; rintro e w2 ⟨g2, c2, rfl, hg2, hc2, hb1⟩; have hb2 := bel_then (bel_drew hb) hb1)
            | (go_at_call 175; refine (has_calls g2 c2 signsL ((l.take (k + 1)).drop k) _ (by decide) hc2).mono ?_; rw [hy]; rintro e w2 ⟨rfl, rfl⟩))
      all_goals clear hc2
      all_goals go_wp2
      all_goals go_ret
      all_goals exact ⟨rfl, hb2⟩
  · have b2 : decide ((k : Int) + 1 < (l.length : Int)) = false := by simp; omega
    rw [key1 (by rintro ⟨h, _⟩; simp at h; omega)]
    clear h2 key1
    go_enter Tryz.func178, Tryz.ntmps178
    go_wp2_with fail
    go_quiet (fail)
    go_wp2_with fail
    cases hy : inL signsL ((l.take (k + 1)).drop k)
    all_goals
      go_region_held3 (fun W => Below w.heap.size w W) (first | exact hb2 | exact bel_drew (bel_drewN (Below.refl _ _) _) | exact bel_drew (Below.refl _ _))
        (first
          | (go_at_call 191; refine (RSigns_calls _).mono ?_; rintro e w2 ⟨g2, c2, rfl, hg2, hc2, hb1⟩; have hb2 : Below w.heap.size w w2 := bel_then (by first | exact bel_drew (bel_drewN (Below.refl _ _) _) | exact bel_drew (Below.refl _ _)) hb1)
          | (go_at_call 175; refine (has_calls g2 c2 signsL ((l.take (k + 1)).drop k) _ (by decide) hc2).mono ?_; rw [hy]; rintro e w2 ⟨rfl, rfl⟩))
    all_goals clear hc2
    all_goals go_wp2
    all_goals go_ret
    all_goals exact ⟨rfl, hb2⟩

theorem byteT {c d : UInt8} (h : c = d) : ((c.toNat : Int) == (d.toNat : Int)) = true := by rw [byte_int]; simp [h]

theorem byteF {c d : UInt8} (h : c ≠ d) : ((c.toNat : Int) == (d.toNat : Int)) = false := by rw [byte_int]; simp [h]

theorem byteNT {c d : UInt8} (h : c ≠ d) : ((c.toNat : Int) != (d.toNat : Int)) = true := by rw [bne, byteF h]; rfl

theorem byteNF {c d : UInt8} (h : c = d) : ((c.toNat : Int) != (d.toNat : Int)) = false := by rw [bne, byteT h]; rfl

/-- Where the text token that begins at a place ends; 0: there is none. -/
def qEnd (l : List UInt8) (k : Nat) : Nat := qRes (k + 1) (qbody (l.drop (k + 1)))

set_option maxHeartbeats 2000000 in
theorem Rquoted_calls (l : List UInt8) (k : Nat) (w : World) (hk : k < l.length) (hs : l.length ≤ 9223372036854775000) :
    Calls Tryz.prog 177 #[.string (S l), .int .i64 k] w fun e w' => e = .returned (.int .i64 (qEnd l k)) ∧ Below w.heap.size w w' := by
  go_enter Tryz.func177, Tryz.ntmps177
  go_wp2
  go_loopw [5] (fun i wr => ∃ n : Nat, k + 1 ≤ n ∧ i = .int .i64 n ∧ Hid (qEnd l k = qRes n (qbody (l.drop n))) ∧ Below w.heap.size w wr) (fun i _ => l.length - (intOf i).toNat)
  case atStart => exact ⟨k + 1, Nat.le_refl _, by go_num, Lib.hid rfl, Below.refl _ _⟩
  case round =>
    obtain ⟨n, hkn, rfl, hq, hb⟩ := hrel
    by_cases hlt : n < l.length
    · have b1 : (n : Int) < (l.length : Int) := by omega
      by_cases c1 : at_ l n = 34
      · have h1 : ((at_ l n).toNat == (34 : Int)) = true := byteT (d := 34) c1
        have e := hq.out; rw [q_quote l n hlt c1] at e
        have HE := Lib.hid e; clear e c1
        go_wp2
        go_ret
        exact ⟨ret_int (by rw [HE.out]; first | rfl | omega), hb⟩
      · have h1 : ((at_ l n).toNat == (34 : Int)) = false := byteF (d := 34) c1
        by_cases c2 : at_ l n = 10
        · have h2 : ((at_ l n).toNat == (10 : Int)) = true := byteT (d := 10) c2
          have e := hq.out; rw [q_line l n hlt c2] at e
          have HE := Lib.hid e; clear e c1 c2
          go_wp2
          go_ret
          exact ⟨ret_int (by rw [HE.out]; first | rfl | omega), hb⟩
        · have h2 : ((at_ l n).toNat == (10 : Int)) = false := byteF (d := 10) c2
          by_cases c3 : at_ l n = 92
          · have h3 : ((at_ l n).toNat == (92 : Int)) = true := byteT (d := 92) c3
            by_cases c4 : n + 1 = l.length
            · have h4 : (((n : Int) + 1) == (l.length : Int)) = true := by simp; omega
              have e := hq.out; rw [q_cut l n hlt c3 c4] at e
              have HE := Lib.hid e; clear e c1 c2 c3 c4
              go_wp2
              go_ret
              exact ⟨ret_int (by rw [HE.out]; first | rfl | omega), hb⟩
            · have h4 : (((n : Int) + 1) == (l.length : Int)) = false := by simp; omega
              have b2 : (n : Int) + 1 < (l.length : Int) := by omega
              have t1 : ((n : Int) + 1).toNat = n + 1 := by omega
              by_cases c5 : at_ l (n + 1) = 110 ∨ at_ l (n + 1) = 34 ∨ at_ l (n + 1) = 92
              · have e := hq.out; rw [q_pair l n (by omega) c3 c5] at e
                have HE := Lib.hid e
                have hd : (((at_ l (n + 1)).toNat : Int) != 110) = false ∨ (((at_ l (n + 1)).toNat : Int) != 110) = true ∧ (((at_ l (n + 1)).toNat : Int) != 34) = false ∨ (((at_ l (n + 1)).toNat : Int) != 110) = true ∧ (((at_ l (n + 1)).toNat : Int) != 34) = true ∧ (((at_ l (n + 1)).toNat : Int) != 92) = false := by
                  rcases c5 with h | h | h
                  · exact .inl (byteNF (d := 110) h)
                  · exact .inr (.inl ⟨byteNT (d := 110) (by rw [h]; decide), byteNF (d := 34) h⟩)
                  · exact .inr (.inr ⟨byteNT (d := 110) (by rw [h]; decide), byteNT (d := 34) (by rw [h]; decide), byteNF (d := 92) h⟩)
                clear e c1 c2 c3 c4 c5
                rcases hd with h5 | ⟨h5, h6⟩ | ⟨h5, h6, h7⟩
                all_goals go_wp2
                all_goals exact ⟨⟨n + 2, by omega, by go_num, HE, hb⟩, by simp [intOf]; omega⟩
              · have e := hq.out; rw [q_wrong l n (by omega) c3 c5] at e
                have h5 : (((at_ l (n + 1)).toNat : Int) != 110) = true := byteNT (d := 110) (fun h => c5 (.inl h))
                have h6 : (((at_ l (n + 1)).toNat : Int) != 34) = true := byteNT (d := 34) (fun h => c5 (.inr (.inl h)))
                have h7 : (((at_ l (n + 1)).toNat : Int) != 92) = true := byteNT (d := 92) (fun h => c5 (.inr (.inr h)))
                have HE := Lib.hid e; clear e c1 c2 c3 c4 c5
                go_wp2
                go_ret
                exact ⟨ret_int (by rw [HE.out]; first | rfl | omega), hb⟩
          · have h3 : ((at_ l n).toNat == (92 : Int)) = false := byteF (d := 92) c3
            have HE := Lib.hid (hq.out.trans (q_plain l n hlt c1 c2 c3))
            clear c1 c2 c3
            go_wp2
            exact ⟨⟨n + 1, by omega, by go_num, HE, hb⟩, by simp [intOf]; omega⟩
    · have e := hq.out; rw [q_end l n (by omega)] at e
      have HE := Lib.hid e; clear e
      go_wp2
      go_ret
      exact ⟨ret_int (by rw [HE.out]; first | rfl | omega), hb⟩

/-- Does a token that is no bad one, or a quote, begin here? -/
def beginsB (l : List UInt8) : Bool := isBlank (at_ l 0) || isLetter (at_ l 0) || isDigit (at_ l 0) || at_ l 0 == 34 || pre l || decide (0 < signN l)

set_option maxHeartbeats 2000000 in
theorem Rbegins_calls (l : List UInt8) (k : Nat) (w : World) (hk : k < l.length) (hs : l.length ≤ 9223372036854775000) :
    Calls Tryz.prog 179 #[.string (S l), .int .i64 k] w fun e w' => e = .returned (.bool (beginsB (l.drop k))) ∧ Below w.heap.size w w' := by
  have b1 : (k : Int) < (l.length : Int) := by omega
  unfold beginsB
  rw [at_drop]
  cases h1 : isBlank (at_ l k) with
  | true =>
    go_enter Tryz.func179, Tryz.ntmps179
    go_wp2_with (go_at_call 172; refine (RBlank_calls _ _).mono ?_; rw [h1]; rintro e w' ⟨rfl, rfl⟩)
    go_ret
    exact ⟨rfl, Below.refl _ _⟩
  | false =>
    cases h2 : isLetter (at_ l k) with
    | true =>
      go_enter Tryz.func179, Tryz.ntmps179
      go_wp2_with (first | (go_at_call 172; refine (RBlank_calls _ _).mono ?_; rw [h1]; rintro e w' ⟨rfl, rfl⟩) | (go_at_call 126; refine (RLetter_calls _ _).mono ?_; rw [h2]; rintro e w' ⟨rfl, rfl⟩))
      go_ret
      exact ⟨rfl, Below.refl _ _⟩
    | false =>
      cases h3 : isDigit (at_ l k) with
      | true =>
        go_enter Tryz.func179, Tryz.ntmps179
        go_wp2_with (first | (go_at_call 172; refine (RBlank_calls _ _).mono ?_; rw [h1]; rintro e w' ⟨rfl, rfl⟩) | (go_at_call 126; refine (RLetter_calls _ _).mono ?_; rw [h2]; rintro e w' ⟨rfl, rfl⟩) | (go_at_call 127; refine (RDigit_calls _ _).mono ?_; rw [h3]; rintro e w' ⟨rfl, rfl⟩))
        go_ret
        exact ⟨rfl, Below.refl _ _⟩
      | false =>
        by_cases c4 : at_ l k = 34
        · have h4 : ((at_ l k).toNat == (34 : Int)) = true := byteT (d := 34) c4
          have h5 : (at_ l k == 34) = true := by simp [c4]
          rw [h5]; clear c4 h5
          go_enter Tryz.func179, Tryz.ntmps179
          go_wp2_with (first | (go_at_call 172; refine (RBlank_calls _ _).mono ?_; rw [h1]; rintro e w' ⟨rfl, rfl⟩) | (go_at_call 126; refine (RLetter_calls _ _).mono ?_; rw [h2]; rintro e w' ⟨rfl, rfl⟩) | (go_at_call 127; refine (RDigit_calls _ _).mono ?_; rw [h3]; rintro e w' ⟨rfl, rfl⟩))
          go_ret
          exact ⟨rfl, Below.refl _ _⟩
        · have h4 : ((at_ l k).toNat == (34 : Int)) = false := byteF (d := 34) c4
          have h5 : (at_ l k == 34) = false := by simp [c4]
          rw [h5]; clear c4 h5
          cases h6 : pre (l.drop k) with
          | true =>
            go_enter Tryz.func179, Tryz.ntmps179
            go_wp2_with (first | (go_at_call 172; refine (RBlank_calls _ _).mono ?_; rw [h1]; rintro e w' ⟨rfl, rfl⟩) | (go_at_call 126; refine (RLetter_calls _ _).mono ?_; rw [h2]; rintro e w' ⟨rfl, rfl⟩) | (go_at_call 127; refine (RDigit_calls _ _).mono ?_; rw [h3]; rintro e w' ⟨rfl, rfl⟩) | (go_at_call 173; refine (Rremark_calls l k _ hs (by omega)).mono ?_; rw [h6]; rintro e w' ⟨rfl, rfl⟩))
            go_ret
            exact ⟨rfl, Below.refl _ _⟩
          | false =>
            go_enter Tryz.func179, Tryz.ntmps179
            go_wp2_with (first | (go_at_call 172; refine (RBlank_calls _ _).mono ?_; rw [h1]; rintro e w' ⟨rfl, rfl⟩) | (go_at_call 126; refine (RLetter_calls _ _).mono ?_; rw [h2]; rintro e w' ⟨rfl, rfl⟩) | (go_at_call 127; refine (RDigit_calls _ _).mono ?_; rw [h3]; rintro e w' ⟨rfl, rfl⟩) | (go_at_call 173; refine (Rremark_calls l k _ hs (by omega)).mono ?_; rw [h6]; rintro e w' ⟨rfl, rfl⟩) | (go_at_call 178; refine (Rsign_calls l k _ hk hs).mono ?_; rintro e w' ⟨rfl, hb⟩))
            go_ret
            exact ⟨ret_bool (by simp [Bool.false_or]; try omega), hb⟩

theorem cut_at (l : List UInt8) (k m : Nat) : (l.take m).drop k = (l.drop k).take (m - k) := by rw [List.drop_take]

theorem nx_of {l : List UInt8} {k m : Nat} {n : Int} (h : nextKN (l.drop k) = (n, m - k)) : nextT (l.drop k) = ⟨n, (l.take m).drop k⟩ := by
  unfold nextT; rw [h, cut_at]

theorem nx_blank {l : List UInt8} {k m : Nat} (hk : k < l.length) (h1 : isBlank (at_ l k) = true) (hr : runN isBlank (l.drop k) = m - k) : nextT (l.drop k) = ⟨1, (l.take m).drop k⟩ :=
  nx_of (by rw [next_blank (by simp; omega) (by rw [at_drop]; exact h1), hr])

theorem nx_remark {l : List UInt8} {k m : Nat} (h1 : isBlank (at_ l k) = false) (h2 : pre (l.drop k) = true) (hr : lineN (l.drop k) = m - k) : nextT (l.drop k) = ⟨2, (l.take m).drop k⟩ := by
  have e := good_remark (l := l.drop k) (by rw [at_drop]; exact h1) h2
  have := line_remark h2
  exact nx_of (by rw [next_good (by rw [e]; show 0 < lineN _; omega), e, hr])

theorem nx_letter {l : List UInt8} {k m : Nat} (hk : k < l.length) (h1 : isBlank (at_ l k) = false) (h2 : pre (l.drop k) = false) (h3 : isLetter (at_ l k) = true) (hr : runN isAlnum (l.drop k) = m - k) :
    nextT (l.drop k) = ⟨if inL wordsL ((l.take m).drop k) then 4 else 3, (l.take m).drop k⟩ := by
  have e := good_letter (l := l.drop k) (by rw [at_drop]; exact h1) h2 (by rw [at_drop]; exact h3)
  have hp := runN_pos isAlnum (l.drop k) (by simp; omega) (by rw [at_drop]; exact alnum_letter h3)
  rw [hr, ← cut_at] at e
  exact nx_of (by rw [next_good (by rw [e]; show 0 < m - k; omega), e]; rfl)

theorem nx_digit {l : List UInt8} {k m : Nat} (hk : k < l.length) (h1 : isBlank (at_ l k) = false) (h2 : pre (l.drop k) = false) (h3 : isLetter (at_ l k) = false) (h4 : isDigit (at_ l k) = true) (hr : runN isDigit (l.drop k) = m - k) :
    nextT (l.drop k) = ⟨5, (l.take m).drop k⟩ := by
  have e := good_digit (l := l.drop k) (by rw [at_drop]; exact h1) h2 (by rw [at_drop]; exact h3) (by rw [at_drop]; exact h4)
  have hp := runN_pos isDigit (l.drop k) (by simp; omega) (by rw [at_drop]; exact h4)
  exact nx_of (by rw [next_good (by rw [e]; show 0 < runN _ _; omega), e, hr])

theorem quoted_end (l : List UInt8) (k : Nat) : quotedN (l.drop k) = qEnd l k - k := by
  unfold quotedN qEnd
  rw [List.drop_drop]
  cases qbody (l.drop (k + 1)) <;> simp [qRes]; omega

theorem qEnd_pos (l : List UInt8) (k : Nat) (h : 0 < qEnd l k) : k < qEnd l k ∧ qEnd l k ≤ l.length := by
  have := quotedN_le (l.drop k)
  rw [quoted_end] at this
  unfold qEnd at h this ⊢
  cases hq : qbody (l.drop (k + 1)) with
  | none => rw [hq] at h; simp [qRes] at h
  | some m => rw [hq] at this; simp only [qRes, List.length_drop] at this ⊢; have := qbody_le _ _ (Nat.le_refl _) m hq; simp only [List.length_drop] at this; omega

theorem nx_quote {l : List UInt8} {k : Nat} (h5 : at_ l k = 34) (hq : 0 < qEnd l k) : nextT (l.drop k) = ⟨6, (l.take (qEnd l k)).drop k⟩ := by
  have e := good_quote (l := l.drop k) (by rw [at_drop]; exact h5)
  have := qEnd_pos l k hq
  rw [quoted_end] at e
  exact nx_of (by rw [next_good (by rw [e]; show 0 < qEnd l k - k; omega), e])

theorem nx_badq {l : List UInt8} {k m : Nat} (h5 : at_ l k = 34) (hq : qEnd l k = 0) (hr : lineN (l.drop k) = m - k) : nextT (l.drop k) = ⟨8, (l.take m).drop k⟩ := by
  have e := good_quote (l := l.drop k) (by rw [at_drop]; exact h5)
  rw [quoted_end, hq] at e
  exact nx_of (by rw [next_bad (by rw [e]; simp), at_drop, if_pos h5, hr])

theorem nx_sign {l : List UInt8} {k : Nat} (h1 : isBlank (at_ l k) = false) (h2 : pre (l.drop k) = false) (h3 : isLetter (at_ l k) = false) (h4 : isDigit (at_ l k) = false) (h5 : at_ l k ≠ 34) (hs : 0 < signN (l.drop k)) :
    nextT (l.drop k) = ⟨7, (l.take (k + signN (l.drop k))).drop k⟩ := by
  have e := good_sign (l := l.drop k) (by rw [at_drop]; exact h1) h2 (by rw [at_drop]; exact h3) (by rw [at_drop]; exact h4) (by rw [at_drop]; exact h5)
  exact nx_of (by rw [next_good (by rw [e]; exact hs), e]; congr 1; omega)

theorem begins_good {d : List UInt8} (h0 : 0 < d.length) : beginsB d = (at_ d 0 == 34 || decide (0 < (goodKN d).2)) := by
  unfold beginsB
  by_cases h5 : at_ d 0 = 34
  · simp [h5]
  · rw [show (at_ d 0 == 34) = false by simp [h5]]
    by_cases hg : 0 < (goodKN d).2
    · simp only [hg, decide_true, Bool.or_true]
      cases h1 : isBlank (at_ d 0) with
      | true => rfl
      | false =>
        cases h3 : isLetter (at_ d 0) with
        | true => rfl
        | false =>
          cases h4 : isDigit (at_ d 0) with
          | true => rfl
          | false =>
            cases h2 : pre d with
            | true => rfl
            | false => rw [good_sign h1 h2 h3 h4 h5] at hg; simpa using hg
    · obtain ⟨h1, h2, h3, h4⟩ := good_cut (l := d) (by omega) h0
      rw [good_sign h1 h2 h3 h4 h5] at hg ⊢
      rw [h1, h2, h3, h4]; simp

theorem nx_bad {l : List UInt8} {k m : Nat} (hk : k < l.length) (hb : beginsB (l.drop k) = false) (hr : badAt l (k + 1) = m) :
    nextT (l.drop k) = ⟨8, (l.take m).drop k⟩ := by
  rw [begins_good (by simp; omega), Bool.or_eq_false_iff] at hb
  have hq : at_ l k ≠ 34 := by have := hb.1; rw [at_drop] at this; simpa using this
  have hg : (goodKN (l.drop k)).2 = 0 := by have := hb.2; simp at this; exact this
  refine nx_of ?_
  rw [next_bad hg, at_drop, if_neg hq, List.drop_drop]
  unfold badAt at hr
  congr 1; omega

theorem bad_stop {l : List UInt8} {m : Nat} (hm : m < l.length) (h : beginsB (l.drop m) = true) : badAt l m = m := by
  rw [begins_good (by simp; omega), Bool.or_eq_true] at h
  rcases h with h | h
  · rw [at_drop] at h; exact badAt_quote l m hm (by simpa using h)
  · exact badAt_good l m hm (by simpa using h)

theorem bad_on {l : List UInt8} {m : Nat} (hm : m < l.length) (h : beginsB (l.drop m) = false) : badAt l m = badAt l (m + 1) := by
  rw [begins_good (by simp; omega), Bool.or_eq_false_iff] at h
  exact badAt_on l m hm (by have := h.1; rw [at_drop] at this; simpa using this) (by have := h.2; simpa using this)

set_option maxRecDepth 100000 in
set_option maxHeartbeats 4000000 in
theorem Rnext_calls (l : List UInt8) (k : Nat) (w : World) (hk : k < l.length) (hs : l.length ≤ 9223372036854775000) :
    Calls Tryz.prog 153 #[.string (S l), .int .i64 k] w fun e w' => e = .returned (tokV (nextT (l.drop k))) ∧ Below w.heap.size w w' := by
  have q1 : (k : Int) < (l.length : Int) := by omega
  have q2 : (0 : Int) ≤ (k : Int) := by omega
  have hw1 : w.heap.size < (w.alloc (.cells #[.int .i64 0, .string ⟨#[]⟩] 167)).heap.size := by simp
  cases h1 : isBlank (at_ l k) with
  | true =>
    go_enter Tryz.func153, Tryz.ntmps153
    go_wp2_with (go_at_call 172; refine (RBlank_calls _ _).mono ?_; rw [h1]; rintro e w' ⟨rfl, rfl⟩)
    go_loop [6] (fun i => ∃ m : Nat, k + 1 ≤ m ∧ m ≤ l.length ∧ i = .int .i64 m ∧ Hid (∀ j, k ≤ j → j < m → isBlank (at_ l j) = true)) (fun i => l.length - (intOf i).toNat)
    case atStart => exact ⟨k + 1, Nat.le_refl _, by omega, by go_num, Lib.hid (fun j a1 a2 => by rw [show j = k by omega]; exact h1)⟩
    case round =>
      obtain ⟨m, hkm, hm, rfl, hall⟩ := hrel
      have s1 : (0 : Int) ≤ (m : Int) := by omega
      have s2 : (m : Int) ≤ (l.length : Int) := by omega
      have s3 : (k : Int) ≤ (m : Int) := by omega
      by_cases hlt : m < l.length
      · have s4 : (m : Int) < (l.length : Int) := by omega
        cases hp : isBlank (at_ l m) with
        | true =>
          go_wp2_with (go_at_call 172; refine (RBlank_calls _ _).mono ?_; rw [hp]; rintro e w' ⟨rfl, rfl⟩)
          go_round
          case rel => exact ⟨m + 1, by omega, by omega, by go_num, Lib.hid (fun j h1 h2 => if h : j = m then h ▸ hp else hall.out j h1 (by omega))⟩
          case measure => simp [intOf]; omega
        | false =>
          have hr := runN_drop isBlank l k m (by omega) hm hall.out (.inr hp)
          go_wp2_with (go_at_call 172; refine (RBlank_calls _ _).mono ?_; rw [hp]; rintro e w' ⟨rfl, rfl⟩)
          refine bodyPost_ret (v := tokV ⟨1, (l.take m).drop k⟩) (by simp [results, Tryz.results153, go_sem]) rfl ⟨by first | (rw [nx_blank hk h1 hr]; done) | (rw [nx_blank hk h1 hr]; rfl) | rfl, ?_⟩
          exact (by repeat (first | exact Below.refl _ _ | assumption | refine bel_alloc ?_ _ | refine bel_drew ?_ | refine bel_drewN ?_ _ | refine bel_set ?_ _ _ (by first | exact Nat.le_refl _ | exact Nat.le_succ _ | (simp; done) | omega)))
      · have s4 : ¬ (m : Int) < (l.length : Int) := by omega
        have hr := runN_drop isBlank l k m (by omega) hm hall.out (.inl (by omega))
        go_wp2
        refine bodyPost_ret (v := tokV ⟨1, (l.take m).drop k⟩) (by simp [results, Tryz.results153, go_sem]) rfl ⟨by first | (rw [nx_blank hk h1 hr]; done) | (rw [nx_blank hk h1 hr]; rfl) | rfl, ?_⟩
        exact (by repeat (first | exact Below.refl _ _ | assumption | refine bel_alloc ?_ _ | refine bel_drew ?_ | refine bel_drewN ?_ _ | refine bel_set ?_ _ _ (by first | exact Nat.le_refl _ | exact Nat.le_succ _ | (simp; done) | omega)))
  | false =>
    cases h2 : pre (l.drop k) with
    | true =>
      have hln := lineN_le (l.drop k)
      have hll : k + lineN (l.drop k) ≤ l.length := by rw [List.length_drop] at hln; omega
      obtain ⟨m, hm⟩ : ∃ m, m = k + lineN (l.drop k) := ⟨_, rfl⟩
      have hkm : k ≤ m := by omega
      have hr : lineN (l.drop k) = m - k := by omega
      rw [← hm] at hll
      have HM := Lib.hid hm; clear hm
      have s1 : (0 : Int) ≤ (m : Int) := by omega
      have s2 : (m : Int) ≤ (l.length : Int) := by omega
      have s3 : (k : Int) ≤ (m : Int) := by omega
      go_enter Tryz.func153, Tryz.ntmps153
      go_wp2_with (first | (go_at_call 172; refine (RBlank_calls _ _).mono ?_; rw [h1]; rintro e w' ⟨rfl, rfl⟩) | (go_at_call 173; refine (Rremark_calls l k _ hs (by omega)).mono ?_; rw [h2]; rintro e w' ⟨rfl, rfl⟩) | (go_at_call 174; refine (Rline_calls l k _ hs (by omega)).mono ?_; rw [← HM.out]; rintro e w' ⟨rfl, rfl⟩))
      refine bodyPost_ret (v := tokV ⟨2, (l.take m).drop k⟩) (by simp [results, Tryz.results153, go_sem]) rfl ⟨by first | (rw [nx_remark h1 h2 hr]; done) | (rw [nx_remark h1 h2 hr]; rfl) | rfl, ?_⟩
      exact (by repeat (first | exact Below.refl _ _ | assumption | refine bel_alloc ?_ _ | refine bel_drew ?_ | refine bel_drewN ?_ _ | refine bel_set ?_ _ _ (by first | exact Nat.le_refl _ | exact Nat.le_succ _ | (simp; done) | omega)))
    | false =>
      cases h3 : isLetter (at_ l k) with
      | true =>
        go_enter Tryz.func153, Tryz.ntmps153
        go_wp2_with (first | (go_at_call 172; refine (RBlank_calls _ _).mono ?_; rw [h1]; rintro e w' ⟨rfl, rfl⟩) | (go_at_call 173; refine (Rremark_calls l k _ hs (by omega)).mono ?_; rw [h2]; rintro e w' ⟨rfl, rfl⟩) | (go_at_call 126; refine (RLetter_calls _ _).mono ?_; rw [h3]; rintro e w' ⟨rfl, rfl⟩))
        go_loop [6] (fun i => ∃ m : Nat, k + 1 ≤ m ∧ m ≤ l.length ∧ i = .int .i64 m ∧ Hid (∀ j, k ≤ j → j < m → isAlnum (at_ l j) = true)) (fun i => l.length - (intOf i).toNat)
        case atStart => exact ⟨k + 1, Nat.le_refl _, by omega, by go_num, Lib.hid (fun j a1 a2 => by rw [show j = k by omega]; exact (alnum_letter h3))⟩
        case round =>
          obtain ⟨m, hkm, hm, rfl, hall⟩ := hrel
          have s1 : (0 : Int) ≤ (m : Int) := by omega
          have s2 : (m : Int) ≤ (l.length : Int) := by omega
          have s3 : (k : Int) ≤ (m : Int) := by omega
          by_cases hlt : m < l.length
          · have s4 : (m : Int) < (l.length : Int) := by omega
            cases hp : isAlnum (at_ l m) with
            | true =>
              cases hL : isLetter (at_ l m) with
              | true =>
                go_wp2_with (go_at_call 126; refine (RLetter_calls _ _).mono ?_; rw [hL]; rintro e w' ⟨rfl, rfl⟩)
                go_round
                case rel => exact ⟨m + 1, by omega, by omega, by go_num, Lib.hid (fun j h1 h2 => if h : j = m then h ▸ hp else hall.out j h1 (by omega))⟩
                case measure => simp [intOf]; omega
              | false =>
                have hD : isDigit (at_ l m) = true := by simpa [isAlnum, hL] using hp
                go_wp2_with (first | (go_at_call 126; refine (RLetter_calls _ _).mono ?_; rw [hL]; rintro e w' ⟨rfl, rfl⟩) | (go_at_call 127; refine (RDigit_calls _ _).mono ?_; rw [hD]; rintro e w' ⟨rfl, rfl⟩))
                go_round
                case rel => exact ⟨m + 1, by omega, by omega, by go_num, Lib.hid (fun j h1 h2 => if h : j = m then h ▸ hp else hall.out j h1 (by omega))⟩
                case measure => simp [intOf]; omega
            | false =>
              have hr := runN_drop isAlnum l k m (by omega) hm hall.out (.inr hp)
              have hL : isLetter (at_ l m) = false := by simp [isAlnum] at hp; exact hp.1
              have hD : isDigit (at_ l m) = false := by simp [isAlnum] at hp; exact hp.2
              go_wp2_with (first | (go_at_call 126; refine (RLetter_calls _ _).mono ?_; rw [hL]; rintro e w' ⟨rfl, rfl⟩) | (go_at_call 127; refine (RDigit_calls _ _).mono ?_; rw [hD]; rintro e w' ⟨rfl, rfl⟩))
              have hnx := nx_letter hk h1 h2 h3 hr
              cases hx : inL wordsL ((l.take m).drop k)
              all_goals rw [hx] at hnx
              all_goals
                go_region_held3 (fun W => Below (w.heap.size + 1) (w.alloc (.cells #[.int .i64 0, .string ⟨#[]⟩] 167)) W) (first | exact hbw | exact bel_drew (Below.refl _ _) | exact (Below.refl _ _).drew)
                  (first
                    | (go_at_call 176; refine (RWords_calls _).mono ?_; rintro e w1 ⟨g, c, rfl, hg, hc, hb0⟩; have hbw : Below (w.heap.size + 1) (w.alloc (.cells #[.int .i64 0, .string ⟨#[]⟩] 167)) w1 := ((Below.refl _ _).drew).trans (hb0.mono (by simp)))
                    | (go_at_call 175; refine (has_calls g c wordsL ((l.take m).drop k) _ (by decide) hc).mono ?_; rw [hx]; rintro e w2 ⟨rfl, rfl⟩))
              all_goals clear hc
              all_goals obtain ⟨hcc, hff⟩ := bcell (W := (w.alloc (.cells #[.int .i64 0, .string ⟨#[]⟩] 167))) (hbw.mono (by simp))
              all_goals have hz : w.heap.size < w1.heap.size := by have := hbw.size; simp at this; omega
              all_goals have hb1 : Below w.heap.size w w1 := (bel_alloc (Below.refl _ _) _).trans (hbw.mono (by simp))
              all_goals go_wp2
              all_goals first
                | (refine bodyPost_ret (v := tokV ⟨3, (l.take m).drop k⟩) (by simp [results, Tryz.results153, go_sem, hcc, hz]) rfl ⟨by first | (rw [hnx]; done) | (rw [hnx]; rfl) | rfl, ?_⟩; exact (by repeat (first | exact Below.refl _ _ | assumption | refine bel_alloc ?_ _ | refine bel_drew ?_ | refine bel_drewN ?_ _ | refine bel_set ?_ _ _ (by first | exact Nat.le_refl _ | exact Nat.le_succ _ | (simp; done) | omega))))
                | (refine bodyPost_ret (v := tokV ⟨4, (l.take m).drop k⟩) (by simp [results, Tryz.results153, go_sem, hcc, hz]) rfl ⟨by first | (rw [hnx]; done) | (rw [hnx]; rfl) | rfl, ?_⟩; exact (by repeat (first | exact Below.refl _ _ | assumption | refine bel_alloc ?_ _ | refine bel_drew ?_ | refine bel_drewN ?_ _ | refine bel_set ?_ _ _ (by first | exact Nat.le_refl _ | exact Nat.le_succ _ | (simp; done) | omega))))
          · have s4 : ¬ (m : Int) < (l.length : Int) := by omega
            have hr := runN_drop isAlnum l k m (by omega) hm hall.out (.inl (by omega))
            go_wp2_with fail
            have hnx := nx_letter hk h1 h2 h3 hr
            cases hx : inL wordsL ((l.take m).drop k)
            all_goals rw [hx] at hnx
            all_goals
              go_region_held3 (fun W => Below (w.heap.size + 1) (w.alloc (.cells #[.int .i64 0, .string ⟨#[]⟩] 167)) W) (first | exact hbw | exact bel_drew (Below.refl _ _) | exact (Below.refl _ _).drew)
                (first
                  | (go_at_call 176; refine (RWords_calls _).mono ?_; rintro e w1 ⟨g, c, rfl, hg, hc, hb0⟩; have hbw : Below (w.heap.size + 1) (w.alloc (.cells #[.int .i64 0, .string ⟨#[]⟩] 167)) w1 := ((Below.refl _ _).drew).trans (hb0.mono (by simp)))
                  | (go_at_call 175; refine (has_calls g c wordsL ((l.take m).drop k) _ (by decide) hc).mono ?_; rw [hx]; rintro e w2 ⟨rfl, rfl⟩))
            all_goals clear hc
            all_goals obtain ⟨hcc, hff⟩ := bcell (W := (w.alloc (.cells #[.int .i64 0, .string ⟨#[]⟩] 167))) (hbw.mono (by simp))
            all_goals have hz : w.heap.size < w1.heap.size := by have := hbw.size; simp at this; omega
            all_goals have hb1 : Below w.heap.size w w1 := (bel_alloc (Below.refl _ _) _).trans (hbw.mono (by simp))
            all_goals go_wp2
            all_goals first
              | (refine bodyPost_ret (v := tokV ⟨3, (l.take m).drop k⟩) (by simp [results, Tryz.results153, go_sem, hcc, hz]) rfl ⟨by first | (rw [hnx]; done) | (rw [hnx]; rfl) | rfl, ?_⟩; exact (by repeat (first | exact Below.refl _ _ | assumption | refine bel_alloc ?_ _ | refine bel_drew ?_ | refine bel_drewN ?_ _ | refine bel_set ?_ _ _ (by first | exact Nat.le_refl _ | exact Nat.le_succ _ | (simp; done) | omega))))
              | (refine bodyPost_ret (v := tokV ⟨4, (l.take m).drop k⟩) (by simp [results, Tryz.results153, go_sem, hcc, hz]) rfl ⟨by first | (rw [hnx]; done) | (rw [hnx]; rfl) | rfl, ?_⟩; exact (by repeat (first | exact Below.refl _ _ | assumption | refine bel_alloc ?_ _ | refine bel_drew ?_ | refine bel_drewN ?_ _ | refine bel_set ?_ _ _ (by first | exact Nat.le_refl _ | exact Nat.le_succ _ | (simp; done) | omega))))
      | false =>
        cases h4 : isDigit (at_ l k) with
        | true =>
          go_enter Tryz.func153, Tryz.ntmps153
          go_wp2_with (first | (go_at_call 172; refine (RBlank_calls _ _).mono ?_; rw [h1]; rintro e w' ⟨rfl, rfl⟩) | (go_at_call 173; refine (Rremark_calls l k _ hs (by omega)).mono ?_; rw [h2]; rintro e w' ⟨rfl, rfl⟩) | (go_at_call 126; refine (RLetter_calls _ _).mono ?_; rw [h3]; rintro e w' ⟨rfl, rfl⟩) | (go_at_call 127; refine (RDigit_calls _ _).mono ?_; rw [h4]; rintro e w' ⟨rfl, rfl⟩))
          go_loop [6] (fun i => ∃ m : Nat, k + 1 ≤ m ∧ m ≤ l.length ∧ i = .int .i64 m ∧ Hid (∀ j, k ≤ j → j < m → isDigit (at_ l j) = true)) (fun i => l.length - (intOf i).toNat)
          case atStart => exact ⟨k + 1, Nat.le_refl _, by omega, by go_num, Lib.hid (fun j a1 a2 => by rw [show j = k by omega]; exact h4)⟩
          case round =>
            obtain ⟨m, hkm, hm, rfl, hall⟩ := hrel
            have s1 : (0 : Int) ≤ (m : Int) := by omega
            have s2 : (m : Int) ≤ (l.length : Int) := by omega
            have s3 : (k : Int) ≤ (m : Int) := by omega
            by_cases hlt : m < l.length
            · have s4 : (m : Int) < (l.length : Int) := by omega
              cases hp : isDigit (at_ l m) with
              | true =>
                go_wp2_with (go_at_call 127; refine (RDigit_calls _ _).mono ?_; rw [hp]; rintro e w' ⟨rfl, rfl⟩)
                go_round
                case rel => exact ⟨m + 1, by omega, by omega, by go_num, Lib.hid (fun j h1 h2 => if h : j = m then h ▸ hp else hall.out j h1 (by omega))⟩
                case measure => simp [intOf]; omega
              | false =>
                have hr := runN_drop isDigit l k m (by omega) hm hall.out (.inr hp)
                go_wp2_with (go_at_call 127; refine (RDigit_calls _ _).mono ?_; rw [hp]; rintro e w' ⟨rfl, rfl⟩)
                refine bodyPost_ret (v := tokV ⟨5, (l.take m).drop k⟩) (by simp [results, Tryz.results153, go_sem]) rfl ⟨by first | (rw [nx_digit hk h1 h2 h3 h4 hr]; done) | (rw [nx_digit hk h1 h2 h3 h4 hr]; rfl) | rfl, ?_⟩
                exact (by repeat (first | exact Below.refl _ _ | assumption | refine bel_alloc ?_ _ | refine bel_drew ?_ | refine bel_drewN ?_ _ | refine bel_set ?_ _ _ (by first | exact Nat.le_refl _ | exact Nat.le_succ _ | (simp; done) | omega)))
            · have s4 : ¬ (m : Int) < (l.length : Int) := by omega
              have hr := runN_drop isDigit l k m (by omega) hm hall.out (.inl (by omega))
              go_wp2
              refine bodyPost_ret (v := tokV ⟨5, (l.take m).drop k⟩) (by simp [results, Tryz.results153, go_sem]) rfl ⟨by first | (rw [nx_digit hk h1 h2 h3 h4 hr]; done) | (rw [nx_digit hk h1 h2 h3 h4 hr]; rfl) | rfl, ?_⟩
              exact (by repeat (first | exact Below.refl _ _ | assumption | refine bel_alloc ?_ _ | refine bel_drew ?_ | refine bel_drewN ?_ _ | refine bel_set ?_ _ _ (by first | exact Nat.le_refl _ | exact Nat.le_succ _ | (simp; done) | omega)))
        | false =>
          by_cases h5 : at_ l k = 34
          · have h5b : ((at_ l k).toNat == (34 : Int)) = true := byteT (d := 34) h5
            have H5 := Lib.hid h5; clear h5
            by_cases hq : 0 < qEnd l k
            · obtain ⟨m, hm⟩ : ∃ m, m = qEnd l k := ⟨_, rfl⟩
              have hmm := qEnd_pos l k hq
              have hnx := nx_quote H5.out hq
              rw [← hm] at hq hmm hnx
              obtain ⟨hkm, hml⟩ := hmm
              have HM := Lib.hid hm; clear hm
              have hqb : decide ((m : Int) > 0) = true := by simp; omega
              have s1 : (0 : Int) ≤ (m : Int) := by omega
              have s2 : (m : Int) ≤ (l.length : Int) := by omega
              have s3 : (k : Int) ≤ (m : Int) := by omega
              go_enter Tryz.func153, Tryz.ntmps153
              go_wp2_with (first | (go_at_call 172; refine (RBlank_calls _ _).mono ?_; rw [h1]; rintro e w' ⟨rfl, rfl⟩) | (go_at_call 173; refine (Rremark_calls l k _ hs (by omega)).mono ?_; rw [h2]; rintro e w' ⟨rfl, rfl⟩) | (go_at_call 126; refine (RLetter_calls _ _).mono ?_; rw [h3]; rintro e w' ⟨rfl, rfl⟩) | (go_at_call 127; refine (RDigit_calls _ _).mono ?_; rw [h4]; rintro e w' ⟨rfl, rfl⟩) | (go_at_call 177; refine (Rquoted_calls l k _ hk hs).mono ?_; rw [← HM.out]; rintro e w1 ⟨rfl, hb⟩; obtain ⟨hcc, hff⟩ := bcell hb; have hz : w.heap.size < w1.heap.size := (by have := hb.size; simp at this; omega); have hb1 := bel_then (bel_alloc (Below.refl w.heap.size w) (.cells #[.int .i64 0, .string ⟨#[]⟩] 167)) hb))
              refine bodyPost_ret (v := tokV ⟨6, (l.take m).drop k⟩) (by simp [results, Tryz.results153, go_sem, hcc, hz]) rfl ⟨by first | (rw [hnx]; done) | (rw [hnx]; rfl) | rfl, ?_⟩
              exact (by repeat (first | exact Below.refl _ _ | assumption | refine bel_alloc ?_ _ | refine bel_drew ?_ | refine bel_drewN ?_ _ | refine bel_set ?_ _ _ (by first | exact Nat.le_refl _ | exact Nat.le_succ _ | (simp; done) | omega)))
            · have hq0 : qEnd l k = 0 := by omega
              have hln := lineN_le (l.drop k)
              have hll : k + lineN (l.drop k) ≤ l.length := by rw [List.length_drop] at hln; omega
              obtain ⟨m, hm⟩ : ∃ m, m = k + lineN (l.drop k) := ⟨_, rfl⟩
              have hkm : k ≤ m := by omega
              have hr : lineN (l.drop k) = m - k := by omega
              have hnx := nx_badq H5.out hq0 hr
              rw [← hm] at hll
              have HM := Lib.hid hm; clear hm
              clear hq hr hln
              have s1 : (0 : Int) ≤ (m : Int) := by omega
              have s2 : (m : Int) ≤ (l.length : Int) := by omega
              have s3 : (k : Int) ≤ (m : Int) := by omega
              go_enter Tryz.func153, Tryz.ntmps153
              go_wp2_with (first | (go_at_call 172; refine (RBlank_calls _ _).mono ?_; rw [h1]; rintro e w' ⟨rfl, rfl⟩) | (go_at_call 173; refine (Rremark_calls l k _ hs (by omega)).mono ?_; rw [h2]; rintro e w' ⟨rfl, rfl⟩) | (go_at_call 126; refine (RLetter_calls _ _).mono ?_; rw [h3]; rintro e w' ⟨rfl, rfl⟩) | (go_at_call 127; refine (RDigit_calls _ _).mono ?_; rw [h4]; rintro e w' ⟨rfl, rfl⟩) | (go_at_call 177; refine (Rquoted_calls l k _ hk hs).mono ?_; rw [hq0]; rintro e w1 ⟨rfl, hb⟩; obtain ⟨hcc, hff⟩ := bcell hb; have hz : w.heap.size < w1.heap.size := (by have := hb.size; simp at this; omega); have hb1 := bel_then (bel_alloc (Below.refl w.heap.size w) (.cells #[.int .i64 0, .string ⟨#[]⟩] 167)) hb) | (go_at_call 174; refine (Rline_calls l k _ hs (by omega)).mono ?_; rw [← HM.out]; rintro e w' ⟨rfl, rfl⟩))
              refine bodyPost_ret (v := tokV ⟨8, (l.take m).drop k⟩) (by simp [results, Tryz.results153, go_sem, hcc, hz]) rfl ⟨by first | (rw [hnx]; done) | (rw [hnx]; rfl) | rfl, ?_⟩
              exact (by repeat (first | exact Below.refl _ _ | assumption | refine bel_alloc ?_ _ | refine bel_drew ?_ | refine bel_drewN ?_ _ | refine bel_set ?_ _ _ (by first | exact Nat.le_refl _ | exact Nat.le_succ _ | (simp; done) | omega)))
          · have h5b : ((at_ l k).toNat == (34 : Int)) = false := byteF (d := 34) h5
            have H5 := Lib.hid h5; clear h5
            by_cases hsg : 0 < signN (l.drop k)
            · have hsl := signN_le (l.drop k)
              have hsb : decide ((signN (l.drop k) : Int) > 0) = true := by simp; omega
              have hnx := nx_sign h1 h2 h3 h4 H5.out hsg
              obtain ⟨n, hn⟩ : ∃ n, n = signN (l.drop k) := ⟨_, rfl⟩
              rw [← hn] at hsb hnx hsl hsg
              rw [List.length_drop] at hsl
              have HN := Lib.hid hn; clear hn
              have s1 : (0 : Int) ≤ (k : Int) + (n : Int) := by omega
              have s2 : (k : Int) + (n : Int) ≤ (l.length : Int) := by omega
              have s3 : (k : Int) ≤ (k : Int) + (n : Int) := by omega
              have s4 : ((k : Int) + (n : Int)).toNat = k + n := by omega
              have s5 : IntKind.i64.wrap ((k : Int) + (n : Int)) = (k : Int) + (n : Int) := wrapI _ (by omega)
              go_enter Tryz.func153, Tryz.ntmps153
              go_wp2_with (first | (go_at_call 172; refine (RBlank_calls _ _).mono ?_; rw [h1]; rintro e w' ⟨rfl, rfl⟩) | (go_at_call 173; refine (Rremark_calls l k _ hs (by omega)).mono ?_; rw [h2]; rintro e w' ⟨rfl, rfl⟩) | (go_at_call 126; refine (RLetter_calls _ _).mono ?_; rw [h3]; rintro e w' ⟨rfl, rfl⟩) | (go_at_call 127; refine (RDigit_calls _ _).mono ?_; rw [h4]; rintro e w' ⟨rfl, rfl⟩) | (go_at_call 178; refine (Rsign_calls l k _ hk hs).mono ?_; rw [← HN.out]; rintro e w1 ⟨rfl, hb⟩; obtain ⟨hcc, hff⟩ := bcell hb; have hz : w.heap.size < w1.heap.size := (by have := hb.size; simp at this; omega); have hb1 := bel_then (bel_alloc (Below.refl w.heap.size w) (.cells #[.int .i64 0, .string ⟨#[]⟩] 167)) hb))
              refine bodyPost_ret (v := tokV ⟨7, (l.take (k + n)).drop k⟩) (by simp [results, Tryz.results153, go_sem, hcc, hz]) rfl ⟨by first | (rw [hnx]; done) | (rw [hnx]; rfl) | rfl, ?_⟩
              exact (by repeat (first | exact Below.refl _ _ | assumption | refine bel_alloc ?_ _ | refine bel_drew ?_ | refine bel_drewN ?_ _ | refine bel_set ?_ _ _ (by first | exact Nat.le_refl _ | exact Nat.le_succ _ | (simp; done) | omega)))
            · have hs0 : signN (l.drop k) = 0 := by omega
              have hbg : beginsB (l.drop k) = false := by
                unfold beginsB; rw [at_drop, h1, h2, h3, h4, hs0]; simp; exact H5.out
              clear hsg
              go_enter Tryz.func153, Tryz.ntmps153
              go_wp2_with (first | (go_at_call 172; refine (RBlank_calls _ _).mono ?_; rw [h1]; rintro e w' ⟨rfl, rfl⟩) | (go_at_call 173; refine (Rremark_calls l k _ hs (by omega)).mono ?_; rw [h2]; rintro e w' ⟨rfl, rfl⟩) | (go_at_call 126; refine (RLetter_calls _ _).mono ?_; rw [h3]; rintro e w' ⟨rfl, rfl⟩) | (go_at_call 127; refine (RDigit_calls _ _).mono ?_; rw [h4]; rintro e w' ⟨rfl, rfl⟩) | (go_at_call 178; refine (Rsign_calls l k _ hk hs).mono ?_; rw [hs0]; rintro e w1 ⟨rfl, hb⟩))
              have hb0 : Below (w.heap.size + 1) (w.alloc (.cells #[.int .i64 0, .string ⟨#[]⟩] 167)) w1 := hb.mono (by simp)
              clear hb
              go_loopw [6] (fun i wr => ∃ m : Nat, k + 1 ≤ m ∧ m ≤ l.length ∧ i = .int .i64 m ∧ Hid (badAt l (k + 1) = badAt l m) ∧ Below (w.heap.size + 1) (w.alloc (.cells #[.int .i64 0, .string ⟨#[]⟩] 167)) wr) (fun i _ => l.length - (intOf i).toNat)
              case atStart => exact ⟨k + 1, Nat.le_refl _, by omega, by go_num, Lib.hid rfl, hb0⟩
              case round =>
                obtain ⟨m, hkm, hm, rfl, hq, hb⟩ := hrel
                clear hb0
                have s1 : (0 : Int) ≤ (m : Int) := by omega
                have s2 : (m : Int) ≤ (l.length : Int) := by omega
                have s3 : (k : Int) ≤ (m : Int) := by omega
                by_cases hlt : m < l.length
                · have s4 : (m : Int) < (l.length : Int) := by omega
                  cases hp : beginsB (l.drop m) with
                  | true =>
                    have hnx := nx_bad hk hbg (hq.out.trans (bad_stop hlt hp))
                    go_wp2_with (go_at_call 179; refine (Rbegins_calls l m _ hlt hs).mono ?_; rw [hp]; rintro e w2 ⟨rfl, hb2⟩; have hb3 := hb.trans (hb2.mono (by have := hb.size; simp at this; omega)); obtain ⟨hcc, hff⟩ := bcell (W := (w.alloc (.cells #[.int .i64 0, .string ⟨#[]⟩] 167))) (hb3.mono (by simp)); have hz : w.heap.size < w2.heap.size := (by have := hb3.size; simp at this; omega); have hb1 : Below w.heap.size w w2 := (bel_alloc (Below.refl _ _) _).trans (hb3.mono (by simp)))
                    refine bodyPost_ret (v := tokV ⟨8, (l.take m).drop k⟩) (by simp [results, Tryz.results153, go_sem, hcc, hz]) rfl ⟨by first | (rw [hnx]; done) | (rw [hnx]; rfl) | rfl, ?_⟩
                    exact (by repeat (first | exact Below.refl _ _ | assumption | refine bel_alloc ?_ _ | refine bel_drew ?_ | refine bel_drewN ?_ _ | refine bel_set ?_ _ _ (by first | exact Nat.le_refl _ | exact Nat.le_succ _ | (simp; done) | omega)))
                  | false =>
                    have HE := Lib.hid (hq.out.trans (bad_on hlt hp))
                    go_wp2_with (go_at_call 179; refine (Rbegins_calls l m _ hlt hs).mono ?_; rw [hp]; rintro e w2 ⟨rfl, hb2⟩; have hb3 := hb.trans (hb2.mono (by have := hb.size; simp at this; omega)))
                    go_roundw
                    case rel => exact ⟨m + 1, by omega, by omega, by go_num, HE, hb3⟩
                    case measure => simp [intOf]; omega
                · have s4 : ¬ (m : Int) < (l.length : Int) := by omega
                  have hnx := nx_bad hk hbg (hq.out.trans (badAt_end l m (by omega)))
                  obtain ⟨hcc, hff⟩ := bcell (W := (w.alloc (.cells #[.int .i64 0, .string ⟨#[]⟩] 167))) (hb.mono (by simp))
                  have hz : w.heap.size < wr.heap.size := by have := hb.size; simp at this; omega
                  have hb1 : Below w.heap.size w wr := (bel_alloc (Below.refl _ _) _).trans (hb.mono (by simp))
                  go_wp2
                  refine bodyPost_ret (v := tokV ⟨8, (l.take m).drop k⟩) (by simp [results, Tryz.results153, go_sem, hcc, hz]) rfl ⟨by first | (rw [hnx]; done) | (rw [hnx]; rfl) | rfl, ?_⟩
                  exact (by repeat (first | exact Below.refl _ _ | assumption | refine bel_alloc ?_ _ | refine bel_drew ?_ | refine bel_drewN ?_ _ | refine bel_set ?_ _ _ (by first | exact Nat.le_refl _ | exact Nat.le_succ _ | (simp; done) | omega)))

theorem isTok_long {t : Tok} (h : 20000 < t.text.length) : isTokB t = false := by
  cases hx : isTokB t with
  | false => rfl
  | true => have := (isTok_next hx).2.1; omega

theorem isTok_empty {t : Tok} (h : t.text.length = 0) : isTokB t = false := by
  cases hx : isTokB t with
  | false => rfl
  | true => have := (isTok_next hx).1; omega

theorem isTok_eq {t : Tok} (h0 : 0 < t.text.length) (h1 : t.text.length ≤ 20000) : isTokB t = tokEq ⟨(nextT t.text).kind, (nextT t.text).text⟩ ⟨t.kind, t.text⟩ := by
  cases hx : isTokB t with
  | true =>
    have := (isTok_next hx).2.2
    rw [this]; symm; rw [tokEq_iff]
  | false =>
    cases hy : tokEq ⟨(nextT t.text).kind, (nextT t.text).text⟩ ⟨t.kind, t.text⟩ with
    | false => rfl
    | true =>
      exfalso
      have e : nextT t.text = t := tokEq_iff.1 hy
      have hn : (nextKN t.text).2 = t.text.length := (next_full rfl e (nextKN_le _ h0)).1
      have : lex t.text = [t] := by rw [lex_cons _ h0, hn, List.drop_length, lex_nil, e]
      rw [isTok_of h0 h1 this] at hx; cases hx

set_option maxRecDepth 100000 in
set_option maxHeartbeats 2000000 in
theorem RIsToken_calls (t : Tok) (w : World) (hs : t.text.length ≤ 9223372036854775000) :
    Calls Tryz.prog 121 #[.agg #[.int .i64 t.kind, .string (S t.text)]] w fun e w' => e = .returned (.bool (isTokB t)) ∧ Below w.heap.size w w' := by
  obtain ⟨W0, hW0⟩ : ∃ W0, W0 = w.alloc (.cells #[.int .i64 t.kind, .string (S t.text)] 167) := ⟨_, rfl⟩
  have hb0 : Below w.heap.size w W0 := by rw [hW0]; exact bel_alloc (Below.refl _ _) _
  have p0 : W0.cell? ⟨w.heap.size, 0, none⟩ = some (.int .i64 t.kind) := by rw [hW0]; simp
  have p1 : W0.cell? ⟨w.heap.size, 1, none⟩ = some (.string (S t.text)) := by rw [hW0]; simp
  have r0 := cell_regrown p0
  have r1 := cell_regrown p1
  by_cases h0 : 0 < t.text.length
  · have d0 : decide ((t.text.length : Int) > 0) = true := by rw [decide_eq_true_eq]; omega
    have d0' : decide (0 < t.text.length) = true := decide_eq_true h0
    by_cases h1 : t.text.length ≤ 20000
    · have d1 : decide ((t.text.length : Int) ≤ 20000) = true := by rw [decide_eq_true_eq]; omega
      have d1' : decide (t.text.length ≤ 20000) = true := decide_eq_true h1
      rw [isTok_eq h0 h1]
      have cN : ∀ d os, Calls Tryz.prog 153 #[.string (S t.text), .int .i64 0] (Sort.grow (redrawn W0 d) os) fun e w'' => e = .returned (.agg #[.int .i64 (nextT t.text).kind, .string (S (nextT t.text).text)]) ∧ ∃ p : Regrown, w'' = Sort.grow (redrawn W0 p.d) p.os :=
        fun d os => Calls.regrown_of (by have := Rnext_calls t.text 0 (Sort.grow (redrawn W0 d) os) h0 hs; rw [List.drop_zero] at this; exact this)
      clear h0 h1
      go_enter Tryz.func121, Tryz.ntmps121
      go_wp2_with fail
      rw [← hW0]
      clear hW0 p0 p1
      refine wp_region_quiet_below (by first | assumption | kernel_rfl) (by kernel_rfl) ?_
      repeat (go_big_quiet_step (first | (go_at_call 153; exact cN _ _)))
      refine wpQuiet_nil ?_
      intro _ hw'
      obtain ⟨⟨dq, osq⟩, hw''⟩ := hw'
      subst hw''
      have hbr := below_regrown W0 dq osq
      go_wp2
      go_ret
      exact ⟨rfl, bel_then hb0 hbr⟩
    · have d1 : decide ((t.text.length : Int) ≤ 20000) = false := by rw [decide_eq_false_iff_not]; omega
      have d1' : decide (t.text.length ≤ 20000) = false := decide_eq_false h1
      rw [isTok_long (by omega)]
      clear h0 h1
      go_enter Tryz.func121, Tryz.ntmps121
      go_wp2_with fail
      rw [← hW0]
      clear hW0 p0 p1
      refine wp_region_quiet_below (by first | assumption | kernel_rfl) (by kernel_rfl) ?_
      repeat (go_big_quiet_step (fail))
      refine wpQuiet_nil ?_
      intro _ hw'
      obtain ⟨⟨dq, osq⟩, hw''⟩ := hw'
      subst hw''
      have hbr := below_regrown W0 dq osq
      go_wp2
      go_ret
      exact ⟨rfl, bel_then hb0 hbr⟩
  · have d0 : decide ((t.text.length : Int) > 0) = false := by rw [decide_eq_false_iff_not]; omega
    have d0' : decide (0 < t.text.length) = false := decide_eq_false h0
    rw [isTok_empty (by omega)]
    clear h0
    go_enter Tryz.func121, Tryz.ntmps121
    go_wp2_with fail
    rw [← hW0]
    clear hW0 p0 p1
    refine wp_region_quiet_below (by first | assumption | kernel_rfl) (by kernel_rfl) ?_
    repeat (go_big_quiet_step (fail))
    refine wpQuiet_nil ?_
    intro _ hw'
    obtain ⟨⟨dq, osq⟩, hw''⟩ := hw'
    subst hw''
    have hbr := below_regrown W0 dq osq
    go_wp2
    go_ret
    exact ⟨rfl, bel_then hb0 hbr⟩

set_option maxHeartbeats 1000000 in
theorem RGreat_calls (t : Tok) (w : World) :
    Calls Tryz.prog 122 #[.agg #[.int .i64 t.kind, .string (S t.text)]] w fun e w' => e = .returned (.bool (greatB t)) ∧ Below w.heap.size w w' := by
  unfold greatB
  rw [great_int]
  by_cases hl : 0 < t.text.length
  · have hne : (t.text == ([] : List UInt8)) = false := by cases h : t.text <;> simp [h] at hl ⊢
    go_enter Tryz.func122, Tryz.ntmps122
    go_wp2
    all_goals go_ret
    all_goals refine ⟨ret_bool ?_, bel_alloc (Below.refl _ _) _⟩
    all_goals simp [*] <;> omega
  · have hnil : t.text = [] := List.eq_nil_of_length_eq_zero (by omega)
    have hne : (t.text == ([] : List UInt8)) = true := by simp [hnil]
    go_enter Tryz.func122, Tryz.ntmps122
    go_wp2
    all_goals go_ret
    all_goals refine ⟨ret_bool ?_, bel_alloc (Below.refl _ _) _⟩
    all_goals simp [*]

set_option maxHeartbeats 1000000 in
theorem RSmall_calls (s : List UInt8) (w : World) (hs : s.length ≤ 9223372036854775000) :
    Calls Tryz.prog 92 #[.string (S s)] w fun e w' => e = .returned (.bool (nameB s false)) ∧ Below w.heap.size w w' := by
  unfold nameB
  have hal := bel_alloc (Below.refl w.heap.size w) (.cells #[.int .i64 3, .string (S s)] 167)
  go_enter Tryz.func92, Tryz.ntmps92
  go_wp2_with fail
  refine (RIsToken_calls ⟨3, s⟩ _ hs).mono ?_
  rintro e w1 ⟨rfl, hb1⟩
  obtain ⟨hc, hf⟩ := bcell hb1
  have hz : w.heap.size < w1.heap.size := by have := hb1.size; simp at this; omega
  cases hT : isTokB ⟨3, s⟩ with
  | false =>
    go_wp2
    go_ret
    exact ⟨by simp [hT], bel_then hal hb1⟩
  | true =>
    go_wp2_with fail
    refine (RGreat_calls ⟨3, s⟩ _).mono ?_
    rintro e w2 ⟨rfl, hb2⟩
    go_wp2
    go_ret
    exact ⟨by simp [hT], bel_then (bel_then hal hb1) hb2⟩

set_option maxHeartbeats 1000000 in
theorem RCapital_calls (s : List UInt8) (w : World) (hs : s.length ≤ 9223372036854775000) :
    Calls Tryz.prog 93 #[.string (S s)] w fun e w' => e = .returned (.bool (nameB s true)) ∧ Below w.heap.size w w' := by
  unfold nameB
  have hal := bel_alloc (Below.refl w.heap.size w) (.cells #[.int .i64 3, .string (S s)] 167)
  go_enter Tryz.func93, Tryz.ntmps93
  go_wp2_with fail
  refine (RIsToken_calls ⟨3, s⟩ _ hs).mono ?_
  rintro e w1 ⟨rfl, hb1⟩
  obtain ⟨hc, hf⟩ := bcell hb1
  have hz : w.heap.size < w1.heap.size := by have := hb1.size; simp at this; omega
  cases hT : isTokB ⟨3, s⟩ with
  | false =>
    go_wp2
    go_ret
    exact ⟨by simp [hT], bel_then hal hb1⟩
  | true =>
    go_wp2_with fail
    refine (RGreat_calls ⟨3, s⟩ _).mono ?_
    rintro e w2 ⟨rfl, hb2⟩
    go_wp2
    go_ret
    exact ⟨by simp [hT], bel_then (bel_then hal hb1) hb2⟩

end Go.Proofs.YtplnfepdikbpfaaGreatDoor
