/- The walks of unify.formed and unify.IsFormed. Condition: the type reads. strings.Builder's WriteString once more: what it writes is the builder's block and a row of bytes. Condition: at most 2^47 bytes. The walk of unify.letter. Condition: the library's table of powers of ten is as its text has it. The walks of unify.write and its list. Conditions: the type reads below the builder, it is one that can be written, the text takes at most 2^47 bytes. -/
import Derived.Test.YtplnfepdikbpfaaGreatDoorU3
import Derived.Deep.DeepCutAuto
import Derived.Deep.Light
import Derived.Lib.AppendIntMem
import Derived.Lib.ItoaLen
namespace Go.Proofs.YtplnfepdikbpfaaGreatDoor
open Go.RowKit
set_option linter.unusedVariables false
set_option linter.unusedSimpArgs false

def kindB (t : Ty) : Bool :=
  if t.kind = 1 ∨ t.kind = 2 ∨ t.kind = 3 then decide (t.args.length = 0)
   else if t.kind = 4 then nameB t.mod false && nameB t.name true && decide (t.args.length ≤ 12)
   else if t.kind = 5 then decide (1 ≤ t.args.length) && decide (t.args.length ≤ 13)
   else if t.kind = 6 then decide (t.args.length = 0) && decide (0 ≤ t.var) && decide (t.var ≤ 1048576)
   else false

theorem three (w : World) (o1 o2 o3 : Obj) : Below w.heap.size w (((w.alloc o1).alloc o2).alloc o3) := bel_alloc (bel_alloc (bel_alloc (Below.refl _ _) _) _) _

set_option maxHeartbeats 2000000 in
theorem formed_out (t : Ty) (v : Value) (d left : Int) (p : Nat) (w : World) (hv : ValT (fun b => b < w.heap.size ∧ b ≠ p) w v t) (hd : 1 ≤ d) (hd2 : d ≤ 101) (hl : 0 ≤ left) (hl2 : left ≤ 4000) (hp : NumAt w p left)
    (h : left - 1 < 0 ∨ 100 < d) :
    Calls Tryz.prog 64 #[v, .int .i64 d, .pointer (some ⟨p, 0, none⟩)] w fun e w' => e = .returned (.bool false) ∧ NumAt w' p (left - 1) ∧ w.grownBy w' (some p) := by
  obtain ⟨h1, A, c, rfl, hr⟩ := hv
  unfold tyV
  have HP := Lib.hid hp
  have pc := hp.cell
  have pf := hp.free
  have pl := hp.lt
  have pl1 : p < w.heap.size + 1 := by omega
  have pl2 : p < w.heap.size + 1 + 1 := by omega
  clear hp
  have key : decide (left - 1 < 0) = true ∨ (decide (left - 1 < 0) = false ∧ decide (d > 100) = true) := by
    rcases h with h | h
    · exact .inl (decide_eq_true h)
    · by_cases h' : left - 1 < 0
      · exact .inl (decide_eq_true h')
      · exact .inr ⟨decide_eq_false h', decide_eq_true h⟩
  clear h
  rcases key with k1 | ⟨k1, k2⟩
  all_goals
    go_enter Tryz.func64, Tryz.ntmps64
    go_wp2
    go_ret
    exact ⟨rfl, (((HP.out.set _).alloc _).alloc _).alloc _, gb_trans (gb_set _ _ _ _) (gb_below (three _ _ _ _) _)⟩

/-- What formed comes to at a type that is neither too deep nor one too many. -/
def FormIn (w : World) (p : Nat) (t : Ty) (d left : Int) (e : Ending) (w' : World) : Prop :=
  e = .returned (.bool (if headB t then (formedPL t.args (d + 1) (left - 1)).1 else false)) ∧ NumAt w' p (if headB t then (formedPL t.args (d + 1) (left - 1)).2 else left - 1) ∧ w.grownBy w' (some p)
theorem FormIn.no {w w' : World} {p : Nat} {t : Ty} {d left : Int} (h : headB t = false) (h1 : NumAt w' p (left - 1)) (h2 : w.grownBy w' (some p)) : FormIn w p t d left (.returned (.bool false)) w' := by
  unfold FormIn; rw [h]; exact ⟨rfl, h1, h2⟩
theorem FormIn.yes {w w' : World} {p : Nat} {t : Ty} {d left : Int} (h : headB t = true) (h1 : NumAt w' p (formedPL t.args (d + 1) (left - 1)).2) (h2 : w.grownBy w' (some p)) : FormIn w p t d left (.returned (.bool (formedPL t.args (d + 1) (left - 1)).1)) w' := by
  unfold FormIn; rw [h]; exact ⟨rfl, h1, h2⟩

theorem num3 {w : World} {p : Nat} {l : Int} (h : NumAt w p l) (m : Int) (o1 o2 o3 : Obj) : NumAt ((((w.setCell ⟨p, 0, none⟩ (.int .i64 m)).alloc o1).alloc o2).alloc o3) p m := (((h.set _).alloc _).alloc _).alloc _
theorem gb3 (w : World) (p : Nat) (v : Value) (o1 o2 o3 : Obj) : w.grownBy ((((w.setCell ⟨p, 0, none⟩ v).alloc o1).alloc o2).alloc o3) (some p) := gb_trans (gb_set _ _ _ _) (gb_below (three _ _ _ _) _)

set_option maxRecDepth 100000 in
set_option maxHeartbeats 8000000 in
theorem formed_123 (k : Int) (m n : List UInt8) (xs : List Ty) (v : Int) (hk : k = 1 ∨ k = 2 ∨ k = 3) (ih : ∀ u ∈ xs, FormedAt u) (A : Option Addr) (c : Nat) (d left : Int) (p : Nat) (w : World) (h1 : Ok1 (.mk k m n xs v)) (hr : RdP p w (.slice A xs.length c) xs)
    (hd : 1 ≤ d) (hd2 : d ≤ 100) (hl : 1 ≤ left) (hl2 : left ≤ 4000) (hp : NumAt w p left) :
    Calls Tryz.prog 64 #[.agg #[.int .i64 k, .string (S m), .string (S n), .slice A xs.length c, .int .i64 v], .int .i64 d, .pointer (some ⟨p, 0, none⟩)] w (FormIn w p (.mk k m n xs v) d left) := by
  obtain ⟨h1, h2⟩ := h1
  simp only [Ty.mod, Ty.name] at h1 h2
  have HR := Lib.hid hr; clear hr
  have HP := Lib.hid hp
  have pc := hp.cell
  have pf := hp.free
  have pl := hp.lt
  have pl1 : p < w.heap.size + 1 := by omega
  have pl2 : p < w.heap.size + 1 + 1 := by omega
  clear hp
  have k1 : decide (left - 1 < 0) = false := decide_eq_false (by omega)
  have k2 : decide (d > 100) = false := decide_eq_false (by omega)
  have hx : xs = [] ∨ ∃ y ys, xs = y :: ys := by cases xs <;> simp
  rcases hk with rfl | rfl | rfl <;> rcases hx with rfl | ⟨y, ys, rfl⟩
  all_goals
    go_enter Tryz.func64, Tryz.ntmps64
    go_wp2_with fail

  all_goals first
    | (go_ret; exact FormIn.no (by go_light; first | (simp [headB, Ty.kind, Ty.mod, Ty.name, Ty.args, Ty.var, *]; done) | (simp [headB, Ty.kind, Ty.mod, Ty.name, Ty.args, Ty.var, *]; omega) | (simp [headB, Ty.kind, Ty.mod, Ty.name, Ty.args, Ty.var] at *; grind)) (num3 HP.out _ _ _ _) (gb3 _ _ _ _ _ _))
    | ((refine (ContainsFunc_formed _ ih _ d (left - 1) p (w.heap.size + 1) (w.heap.size + 1 + 1) _ (HR.out.grown (gb3 _ _ _ _ _ _)) hd hd2 (by omega) (by omega) (num3 HP.out _ _ _ _) (by go_simp) (by go_simp) ⟨by simp, by omega⟩ ⟨by simp, by omega⟩).mono ?_)
       rintro e w1 ⟨rfl, hn1, hg1⟩
       go_wp2
       go_ret
       simp only [Bool.not_not]
       exact FormIn.yes (by go_light; first | (simp [headB, Ty.kind, Ty.mod, Ty.name, Ty.args, Ty.var, *]; done) | (simp [headB, Ty.kind, Ty.mod, Ty.name, Ty.args, Ty.var, *]; omega) | (simp [headB, Ty.kind, Ty.mod, Ty.name, Ty.args, Ty.var] at *; grind)) hn1 (gb_trans (gb3 _ _ _ _ _ _) hg1))

set_option maxRecDepth 100000 in
set_option maxHeartbeats 8000000 in
theorem formed_5 (k : Int) (m n : List UInt8) (xs : List Ty) (v : Int) (hk : k = 5) (ih : ∀ u ∈ xs, FormedAt u) (A : Option Addr) (c : Nat) (d left : Int) (p : Nat) (w : World) (h1 : Ok1 (.mk k m n xs v)) (hr : RdP p w (.slice A xs.length c) xs)
    (hd : 1 ≤ d) (hd2 : d ≤ 100) (hl : 1 ≤ left) (hl2 : left ≤ 4000) (hp : NumAt w p left) :
    Calls Tryz.prog 64 #[.agg #[.int .i64 k, .string (S m), .string (S n), .slice A xs.length c, .int .i64 v], .int .i64 d, .pointer (some ⟨p, 0, none⟩)] w (FormIn w p (.mk k m n xs v) d left) := by
  obtain ⟨h1, h2⟩ := h1
  simp only [Ty.mod, Ty.name] at h1 h2
  have HR := Lib.hid hr; clear hr
  have HP := Lib.hid hp
  have pc := hp.cell
  have pf := hp.free
  have pl := hp.lt
  have pl1 : p < w.heap.size + 1 := by omega
  have pl2 : p < w.heap.size + 1 + 1 := by omega
  clear hp
  have k1 : decide (left - 1 < 0) = false := decide_eq_false (by omega)
  have k2 : decide (d > 100) = false := decide_eq_false (by omega)

  subst hk
  all_goals
    go_enter Tryz.func64, Tryz.ntmps64
    go_wp2_with fail

  all_goals first
    | (go_ret; exact FormIn.no (by go_light; first | (simp [headB, Ty.kind, Ty.mod, Ty.name, Ty.args, Ty.var, *]; done) | (simp [headB, Ty.kind, Ty.mod, Ty.name, Ty.args, Ty.var, *]; omega) | (simp [headB, Ty.kind, Ty.mod, Ty.name, Ty.args, Ty.var] at *; grind)) (num3 HP.out _ _ _ _) (gb3 _ _ _ _ _ _))
    | ((refine (ContainsFunc_formed _ ih _ d (left - 1) p (w.heap.size + 1) (w.heap.size + 1 + 1) _ (HR.out.grown (gb3 _ _ _ _ _ _)) hd hd2 (by omega) (by omega) (num3 HP.out _ _ _ _) (by go_simp) (by go_simp) ⟨by simp, by omega⟩ ⟨by simp, by omega⟩).mono ?_)
       rintro e w1 ⟨rfl, hn1, hg1⟩
       go_wp2
       go_ret
       simp only [Bool.not_not]
       exact FormIn.yes (by go_light; first | (simp [headB, Ty.kind, Ty.mod, Ty.name, Ty.args, Ty.var, *]; done) | (simp [headB, Ty.kind, Ty.mod, Ty.name, Ty.args, Ty.var, *]; omega) | (simp [headB, Ty.kind, Ty.mod, Ty.name, Ty.args, Ty.var] at *; grind)) hn1 (gb_trans (gb3 _ _ _ _ _ _) hg1))

set_option maxRecDepth 100000 in
set_option maxHeartbeats 8000000 in
theorem formed_6 (k : Int) (m n : List UInt8) (xs : List Ty) (v : Int) (hk : k = 6) (ih : ∀ u ∈ xs, FormedAt u) (A : Option Addr) (c : Nat) (d left : Int) (p : Nat) (w : World) (h1 : Ok1 (.mk k m n xs v)) (hr : RdP p w (.slice A xs.length c) xs)
    (hd : 1 ≤ d) (hd2 : d ≤ 100) (hl : 1 ≤ left) (hl2 : left ≤ 4000) (hp : NumAt w p left) :
    Calls Tryz.prog 64 #[.agg #[.int .i64 k, .string (S m), .string (S n), .slice A xs.length c, .int .i64 v], .int .i64 d, .pointer (some ⟨p, 0, none⟩)] w (FormIn w p (.mk k m n xs v) d left) := by
  obtain ⟨h1, h2⟩ := h1
  simp only [Ty.mod, Ty.name] at h1 h2
  have HR := Lib.hid hr; clear hr
  have HP := Lib.hid hp
  have pc := hp.cell
  have pf := hp.free
  have pl := hp.lt
  have pl1 : p < w.heap.size + 1 := by omega
  have pl2 : p < w.heap.size + 1 + 1 := by omega
  clear hp
  have k1 : decide (left - 1 < 0) = false := decide_eq_false (by omega)
  have k2 : decide (d > 100) = false := decide_eq_false (by omega)
  have hx : xs = [] ∨ ∃ y ys, xs = y :: ys := by cases xs <;> simp
  subst hk; rcases hx with rfl | ⟨y, ys, rfl⟩
  all_goals
    go_enter Tryz.func64, Tryz.ntmps64
    go_wp2_with fail

  all_goals first
    | (go_ret; exact FormIn.no (by go_light; first | (simp [headB, Ty.kind, Ty.mod, Ty.name, Ty.args, Ty.var, *]; done) | (simp [headB, Ty.kind, Ty.mod, Ty.name, Ty.args, Ty.var, *]; omega) | (simp [headB, Ty.kind, Ty.mod, Ty.name, Ty.args, Ty.var] at *; grind)) (num3 HP.out _ _ _ _) (gb3 _ _ _ _ _ _))
    | ((refine (ContainsFunc_formed _ ih _ d (left - 1) p (w.heap.size + 1) (w.heap.size + 1 + 1) _ (HR.out.grown (gb3 _ _ _ _ _ _)) hd hd2 (by omega) (by omega) (num3 HP.out _ _ _ _) (by go_simp) (by go_simp) ⟨by simp, by omega⟩ ⟨by simp, by omega⟩).mono ?_)
       rintro e w1 ⟨rfl, hn1, hg1⟩
       go_wp2
       go_ret
       simp only [Bool.not_not]
       exact FormIn.yes (by go_light; first | (simp [headB, Ty.kind, Ty.mod, Ty.name, Ty.args, Ty.var, *]; done) | (simp [headB, Ty.kind, Ty.mod, Ty.name, Ty.args, Ty.var, *]; omega) | (simp [headB, Ty.kind, Ty.mod, Ty.name, Ty.args, Ty.var] at *; grind)) hn1 (gb_trans (gb3 _ _ _ _ _ _) hg1))

set_option maxRecDepth 100000 in
set_option maxHeartbeats 8000000 in
theorem formed_else (k : Int) (m n : List UInt8) (xs : List Ty) (v : Int) (e1 : (k == 1) = false) (e2 : (k == 2) = false) (e3 : (k == 3) = false) (e4 : (k == 4) = false) (e5 : (k == 5) = false) (e6 : (k == 6) = false) (ih : ∀ u ∈ xs, FormedAt u) (A : Option Addr) (c : Nat) (d left : Int) (p : Nat) (w : World) (h1 : Ok1 (.mk k m n xs v)) (hr : RdP p w (.slice A xs.length c) xs)
    (hd : 1 ≤ d) (hd2 : d ≤ 100) (hl : 1 ≤ left) (hl2 : left ≤ 4000) (hp : NumAt w p left) :
    Calls Tryz.prog 64 #[.agg #[.int .i64 k, .string (S m), .string (S n), .slice A xs.length c, .int .i64 v], .int .i64 d, .pointer (some ⟨p, 0, none⟩)] w (FormIn w p (.mk k m n xs v) d left) := by
  obtain ⟨h1, h2⟩ := h1
  simp only [Ty.mod, Ty.name] at h1 h2
  have HR := Lib.hid hr; clear hr
  have HP := Lib.hid hp
  have pc := hp.cell
  have pf := hp.free
  have pl := hp.lt
  have pl1 : p < w.heap.size + 1 := by omega
  have pl2 : p < w.heap.size + 1 + 1 := by omega
  clear hp
  have k1 : decide (left - 1 < 0) = false := decide_eq_false (by omega)
  have k2 : decide (d > 100) = false := decide_eq_false (by omega)

  skip
  all_goals
    go_enter Tryz.func64, Tryz.ntmps64
    go_wp2_with fail

  all_goals first
    | (go_ret; exact FormIn.no (by go_light; first | (simp [headB, Ty.kind, Ty.mod, Ty.name, Ty.args, Ty.var, *]; done) | (simp [headB, Ty.kind, Ty.mod, Ty.name, Ty.args, Ty.var, *]; omega) | (simp [headB, Ty.kind, Ty.mod, Ty.name, Ty.args, Ty.var] at *; grind)) (num3 HP.out _ _ _ _) (gb3 _ _ _ _ _ _))
    | ((refine (ContainsFunc_formed _ ih _ d (left - 1) p (w.heap.size + 1) (w.heap.size + 1 + 1) _ (HR.out.grown (gb3 _ _ _ _ _ _)) hd hd2 (by omega) (by omega) (num3 HP.out _ _ _ _) (by go_simp) (by go_simp) ⟨by simp, by omega⟩ ⟨by simp, by omega⟩).mono ?_)
       rintro e w1 ⟨rfl, hn1, hg1⟩
       go_wp2
       go_ret
       simp only [Bool.not_not]
       exact FormIn.yes (by go_light; first | (simp [headB, Ty.kind, Ty.mod, Ty.name, Ty.args, Ty.var, *]; done) | (simp [headB, Ty.kind, Ty.mod, Ty.name, Ty.args, Ty.var, *]; omega) | (simp [headB, Ty.kind, Ty.mod, Ty.name, Ty.args, Ty.var] at *; grind)) hn1 (gb_trans (gb3 _ _ _ _ _ _) hg1))

theorem NumAt.below {w W : World} {p : Nat} {n : Int} (h : NumAt w p n) (hb : Below w.heap.size w W) : NumAt W p n := by
  unfold NumAt at h ⊢
  rw [hb.block p (lt_of_block h)]
  exact h

set_option maxRecDepth 100000 in
set_option maxHeartbeats 8000000 in
theorem formed_4 (m n : List UInt8) (xs : List Ty) (v : Int) (ih : ∀ u ∈ xs, FormedAt u) (A : Option Addr) (c : Nat) (d left : Int) (p : Nat) (w : World) (h1 : Ok1 (.mk 4 m n xs v)) (hr : RdP p w (.slice A xs.length c) xs)
    (hd : 1 ≤ d) (hd2 : d ≤ 100) (hl : 1 ≤ left) (hl2 : left ≤ 4000) (hp : NumAt w p left) :
    Calls Tryz.prog 64 #[.agg #[.int .i64 4, .string (S m), .string (S n), .slice A xs.length c, .int .i64 v], .int .i64 d, .pointer (some ⟨p, 0, none⟩)] w (FormIn w p (.mk 4 m n xs v) d left) := by
  obtain ⟨h1, h2⟩ := h1
  simp only [Ty.mod, Ty.name] at h1 h2
  have HR := Lib.hid hr; clear hr
  have HP := Lib.hid hp
  have pc := hp.cell
  have pf := hp.free
  have pl := hp.lt
  have pl1 : p < w.heap.size + 1 := by omega
  have pl2 : p < w.heap.size + 1 + 1 := by omega
  clear hp
  have k1 : decide (left - 1 < 0) = false := decide_eq_false (by omega)
  have k2 : decide (d > 100) = false := decide_eq_false (by omega)
  go_enter Tryz.func64, Tryz.ntmps64
  go_wp2_with fail
  have HG := Lib.hid (gb3 w p (.int .i64 (left - 1)) (.cells #[.int .i64 4, .string (S m), .string (S n), .slice A xs.length c, .int .i64 v] 24) (.cells #[.int .i64 d] 3) (.cells #[.pointer (some ⟨p, 0, none⟩)] 99))
  have HN := Lib.hid (num3 HP.out (left - 1) (.cells #[.int .i64 4, .string (S m), .string (S n), .slice A xs.length c, .int .i64 v] 24) (.cells #[.int .i64 d] 3) (.cells #[.pointer (some ⟨p, 0, none⟩)] 99))
  refine (isName_calls m false _ (by omega)).mono ?_
  rintro e w1 ⟨rfl, hb1⟩
  obtain ⟨hc, hf⟩ := bcell hb1
  have HG1 := Lib.hid (gb_trans HG.out (gb_below hb1 _))
  have HN1 := Lib.hid (HN.out.below hb1)
  have hsz := hb1.size
  simp at hsz
  have z0 : w.heap.size < w1.heap.size := by omega
  have z1 : w.heap.size + 1 < w1.heap.size := by omega
  have z2 : w.heap.size + 1 + 1 < w1.heap.size := by omega
  have pl3 : p < w1.heap.size := by omega
  clear hb1 HG HN
  cases hN1 : nameB m false with
  | false =>
    go_wp2
    go_ret
    exact FormIn.no (by simp [headB, Ty.kind, Ty.mod, Ty.name, Ty.args, Ty.var, hN1]) HN1.out HG1.out
  | true =>
    go_wp2_with fail
    refine (isName_calls n true _ (by omega)).mono ?_
    rintro e w2 ⟨rfl, hb2⟩
    have HG2 := Lib.hid (gb_trans HG1.out (gb_below hb2 _))
    have HN2 := Lib.hid (HN1.out.below hb2)
    have hsz2 := hb2.size
    have c0 : ∀ o, w2.cell? ⟨w.heap.size, o, none⟩ = w1.cell? ⟨w.heap.size, o, none⟩ := fun o => hb2.cell (p := ⟨_, _, none⟩) z0
    have c1 : ∀ o, w2.cell? ⟨w.heap.size + 1, o, none⟩ = w1.cell? ⟨w.heap.size + 1, o, none⟩ := fun o => hb2.cell (p := ⟨_, _, none⟩) z1
    have c2 : ∀ o, w2.cell? ⟨w.heap.size + 1 + 1, o, none⟩ = w1.cell? ⟨w.heap.size + 1 + 1, o, none⟩ := fun o => hb2.cell (p := ⟨_, _, none⟩) z2
    have q2 : w.heap.size + 1 < w2.heap.size := by omega
    have q3 : w.heap.size + 1 + 1 < w2.heap.size := by omega
    have x1 : w2.cell? ⟨w.heap.size + 1, 0, none⟩ = some (.int .i64 d) := by rw [c1, hc _ _ (by simp)]; go_simp
    have x2 : w2.cell? ⟨w.heap.size + 1 + 1, 0, none⟩ = some (.pointer (some ⟨p, 0, none⟩)) := by rw [c2, hc _ _ (by simp)]; go_simp
    have X1 := Lib.hid x1; have X2 := Lib.hid x2
    clear hb2
    cases hN2 : nameB n true with
    | false =>
      go_wp2
      go_ret
      exact FormIn.no (by simp [headB, Ty.kind, Ty.mod, Ty.name, Ty.args, Ty.var, hN1, hN2]) HN2.out HG2.out
    | true =>
      go_wp2_with fail
      all_goals first
        | (go_ret; exact FormIn.no (by go_light; first | (simp [headB, Ty.kind, Ty.mod, Ty.name, Ty.args, Ty.var, *]; done) | (simp [headB, Ty.kind, Ty.mod, Ty.name, Ty.args, Ty.var, *]; omega) | (simp [headB, Ty.kind, Ty.mod, Ty.name, Ty.args, Ty.var] at *; grind)) HN2.out HG2.out)
        | ((refine (ContainsFunc_formed _ ih _ d (left - 1) p (w.heap.size + 1) (w.heap.size + 1 + 1) _ (HR.out.grown HG2.out) hd hd2 (by omega) (by omega) HN2.out X1.out X2.out ⟨q2, by omega⟩ ⟨q3, by omega⟩).mono ?_)
           rintro e w3 ⟨rfl, hn1, hg1⟩
           go_wp2
           go_ret
           simp only [Bool.not_not]
           exact FormIn.yes (by go_light; first | (simp [headB, Ty.kind, Ty.mod, Ty.name, Ty.args, Ty.var, *]; done) | (simp [headB, Ty.kind, Ty.mod, Ty.name, Ty.args, Ty.var, *]; omega) | (simp [headB, Ty.kind, Ty.mod, Ty.name, Ty.args, Ty.var] at *; grind)) hn1 (gb_trans HG2.out hg1))

theorem formed_calls (t : Ty) : FormedAt t := by
  induction t using Ty.ind with
  | h k m n xs v ih =>
    intro va d left p w hv hd hd2 hl hl2 hp
    have ef : formedP (.mk k m n xs v) d left = if left - 1 < 0 ∨ 100 < d then (false, left - 1) else if headB (.mk k m n xs v) then formedPL xs (d + 1) (left - 1) else (false, left - 1) := by simp [formedP]
    by_cases hc : left - 1 < 0 ∨ 100 < d
    · rw [ef, if_pos hc]
      exact formed_out _ va d left p w hv hd hd2 hl hl2 hp hc
    · rw [ef, if_neg hc]
      obtain ⟨h1, A, c, rfl, hr⟩ := hv
      have key : Calls Tryz.prog 64 #[tyV (.mk k m n xs v) (.slice A xs.length c), .int .i64 d, .pointer (some ⟨p, 0, none⟩)] w (FormIn w p (.mk k m n xs v) d left) := by
        by_cases e123 : k = 1 ∨ k = 2 ∨ k = 3
        · exact formed_123 k m n xs v e123 ih A c d left p w h1 hr hd (by omega) (by omega) hl2 hp
        · by_cases e4 : k = 4
          · subst e4; exact formed_4 m n xs v ih A c d left p w h1 hr hd (by omega) (by omega) hl2 hp
          · by_cases e5 : k = 5
            · exact formed_5 k m n xs v e5 ih A c d left p w h1 hr hd (by omega) (by omega) hl2 hp
            · by_cases e6 : k = 6
              · exact formed_6 k m n xs v e6 ih A c d left p w h1 hr hd (by omega) (by omega) hl2 hp
              · exact formed_else k m n xs v (by simp; omega) (by simp; omega) (by simp; omega) (by simp; omega) (by simp; omega) (by simp; omega) ih A c d left p w h1 hr hd (by omega) (by omega) hl2 hp
      refine key.mono ?_
      rintro e w' ⟨rfl, h2, h3⟩
      cases hh : headB (.mk k m n xs v) with
      | true => rw [hh] at h2; exact ⟨rfl, h2, h3⟩
      | false => rw [hh] at h2; exact ⟨rfl, h2, h3⟩

set_option maxHeartbeats 1000000 in
theorem IsFormed_calls (t : Ty) (v : Value) (w : World) (hv : RdV w v t) :
    Calls Tryz.prog 28 #[v] w fun e w' => e = .returned (.bool (formedB t)) ∧ Below w.heap.size w w' := by
  obtain ⟨h1, A, c, rfl, hr⟩ := hv
  rw [formedB_eq]
  unfold tyV
  have HR := Lib.hid hr; clear hr
  go_enter Tryz.func28, Tryz.ntmps28
  go_wp2_with fail
  have hal : ∀ o1 o2, Below w.heap.size w ((w.alloc o1).alloc o2) := fun o1 o2 => bel_alloc (bel_alloc (Below.refl _ _) _) _
  refine (formed_calls t _ 1 4000 (w.heap.size + 1) _ ⟨h1, A, c, rfl, RdL.weak (ok' := fun b => b < ((w.alloc _).alloc _).heap.size ∧ b ≠ w.heap.size + 1) ((HR.out.turn (ok' := fun b => b < w.heap.size) (fun _ h => h) (fun b o h => (hal _ _).cell (p := ⟨b, o, none⟩) h))) (fun b h => ⟨by simp; omega, by omega⟩)⟩ (by omega) (by omega) (by omega) (by omega) (by unfold NumAt; simpa using heap_alloc_new (w.alloc _) _)).mono ?_
  rintro e w1 ⟨rfl, hn1, hg1⟩
  go_wp2
  go_ret
  exact ⟨rfl, (hal _ _).trans (gb_bel hg1 (by simp; omega) (by omega))⟩

end Go.Proofs.YtplnfepdikbpfaaGreatDoor

namespace Go.Proofs.YtplnfepdikbpfaaGreatDoor
open Go.RowKit
set_option linter.unusedVariables false
set_option linter.unusedSimpArgs false

/-- Block k is no row of bytes. -/
def NoBytes (w : World) (k : Nat) : Prop := ∀ c f, w.heap[k]? ≠ some (.cells c 5 f)
/-- All blocks but b that are no rows of bytes are as they were. -/
def KeepB (b : Nat) (w W : World) : Prop := w.heap.size ≤ W.heap.size ∧ ∀ k, k < w.heap.size → k ≠ b → NoBytes w k → W.heap[k]? = w.heap[k]?
theorem KeepB.refl (b : Nat) (w : World) : KeepB b w w := ⟨Nat.le_refl _, fun _ _ _ _ => rfl⟩
theorem KeepB.trans {b : Nat} {w W X : World} (h : KeepB b w W) (k : KeepB b W X) : KeepB b w X :=
  ⟨Nat.le_trans h.1 k.1, fun i hi hn hb => by
    have e := h.2 i hi hn hb
    rw [← e]
    exact k.2 i (Nat.lt_of_lt_of_le hi h.1) hn (by intro c f; rw [e]; exact hb c f)⟩
theorem KeepB.of_below {b : Nat} {w W : World} (h : Below w.heap.size w W) : KeepB b w W := ⟨h.size, fun k hk _ _ => h.block k hk⟩
theorem KeepB.alloc (b : Nat) (w : World) (o : Obj) : KeepB b w (w.alloc o) := .of_below (bel_alloc (Below.refl _ _) o)
theorem KeepB.set (w : World) (b o : Nat) (v : Value) : KeepB b w (w.setCell ⟨b, o, none⟩ v) := ⟨by simp, fun k hk hn _ => (gb_set w b o v).block k hk (by simp [hn])⟩
theorem KeepB.cell {b k : Nat} {w W : World} (h : KeepB b w W) (hk : k < w.heap.size) (hn : k ≠ b) (hb : NoBytes w k) (o : Nat) : W.cell? ⟨k, o, none⟩ = w.cell? ⟨k, o, none⟩ := World.cell?_of_block (h.2 k hk hn hb)
theorem NoBytes.of {w : World} {k : Nat} {c : Array Value} {t : TypeId} {f : Nat × Nat} (h : w.heap[k]? = some (.cells c t f)) (ht : t ≠ 5) : NoBytes w k := by
  intro c' f' h'
  rw [h] at h'
  simp only [Option.some.injEq, Obj.cells.injEq] at h'
  exact ht h'.2.1
theorem NoBytes.keep {b k : Nat} {w W : World} (h : KeepB b w W) (hk : k < w.heap.size) (hn : k ≠ b) (hb : NoBytes w k) : NoBytes W k := by
  intro c f; rw [h.2 k hk hn hb]; exact hb c f

theorem copyCheck_keeps (B b : Nat) (bs : List Value) (w : World) (h : Lib.IsBuilder 103 5 B b bs w) :
    Calls Tryz.prog 131 #[.pointer (some ⟨b, 0, none⟩)] w fun e w' => e = .returned (.tuple #[]) ∧ (Lib.BuilderAt 103 5 B b (.pointer (some ⟨b, 0, none⟩)) bs w' ∧ Below B w w' ∧ KeepB b w w') := by
  rcases h with h | h
  · refine (copyCheck_fresh b w h.cell0 h.shape h.frozen0).mono ?_
    rintro e w' ⟨rfl, rfl⟩
    exact ⟨rfl, h.used _, (Below.refl B w).setCell (p := ⟨b, 0, none⟩) h.1 _, KeepB.set _ _ _ _⟩
  · refine (copyCheck_used b w h.cell0).mono ?_
    rintro e w' ⟨rfl, rfl⟩
    exact ⟨rfl, h, Below.refl B _, KeepB.refl _ _⟩

theorem KeepB.grown {b : Nat} {w W : World} {v : Value} {B n : Nat} {xs : List Value} (hg : w.grownBy W v.ownBlock) (ho : w.ownsRow B 5 1 v n xs) : KeepB b w W := by
  refine ⟨hg.size, fun k hk _ hb => hg.block k hk ?_⟩
  intro e
  rcases ho.2 with ⟨rfl, _⟩ | ⟨g, cap, cur, rfl, _, hh, _⟩
  · simp [Value.ownBlock] at e
  · have : k = g := by simpa [Value.ownBlock] using e
    subst this
    exact hb _ _ hh

set_option maxHeartbeats 2000000 in
theorem builderWriteKeeps (B b : Nat) (bs : List Value) (s : ByteArray) (w : World) (h : Lib.IsBuilder 103 5 B b bs w) (hlen : bs.length + s.size ≤ 140737488355328) (hBw : B ≤ w.heap.size) :
    Calls Tryz.prog 110 #[.pointer (some ⟨b, 0, none⟩), .string s] w fun e w' => e = .returned (.tuple #[.int .i64 s.size, .nilIface]) ∧ (Lib.BuilderAt 103 5 B b (.pointer (some ⟨b, 0, none⟩)) (bs ++ Lib.strCells s) w' ∧ Below B w w' ∧ KeepB b w w') := by
  obtain ⟨i0, hi, hz0, hz1, hz2⟩ := info_parts infoByte
  go_enter Tryz.func110, Tryz.ntmps110
  go_wp2_with (go_at_call 131; refine (copyCheck_keeps B b bs _ h).mono ?_)
  rintro e w1 ⟨rfl, h1, hb1, hk1⟩
  obtain ⟨hB, v, hbk, hown, hne⟩ := h1
  have c0 : w1.cell? ⟨b, 0, none⟩ = some (.pointer (some ⟨b, 0, none⟩)) := by rw [Lib.cell_of_heap hbk]; rfl
  have c1 : w1.cell? ⟨b, 1, none⟩ = some v := by rw [Lib.cell_of_heap hbk]; rfl
  go_wp2_with (at_builtin; refine Lib.wpList_append_own_string _ rfl _ _ 101 9 rfl B 5 i0 Tryz.underlying101 Tryz.underlying9 hi hz0 hz1 hz2 _ _ _ rfl hown s rfl ?c3 ?c4 ?c5 ?_)
  case c3 => unfold maxLen; omega
  case c4 => omega
  case c5 => have := hb1.size; omega
  intro v' w2 hown' hgrow _
  have hk2 := Lib.hid (hk1.trans (KeepB.grown hgrow hown))
  have hlt : b < w1.heap.size := by
    rcases Nat.lt_or_ge b w1.heap.size with h' | h'
    · exact h'
    · simp [Array.getElem?_eq_none h'] at hbk
  have hb2 : w2.heap[b]? = some (.cells #[.pointer (some ⟨b, 0, none⟩), v] 103 (0, 0)) := by
    rw [hgrow.block b hlt (fun e => hne e.symm)]
    exact hbk
  have d0 : w2.cell? ⟨b, 0, none⟩ = some (.pointer (some ⟨b, 0, none⟩)) := by rw [Lib.cell_of_heap hb2]; rfl
  have d1 : w2.cell? ⟨b, 1, none⟩ = some v := by rw [Lib.cell_of_heap hb2]; rfl
  have f1 : w2.frozen? ⟨b, 1, none⟩ = false := Lib.frozen_of_heap hb2 1
  obtain ⟨ao, n', cap, rfl⟩ : ∃ ao n' cap, v' = .slice ao n' cap := by
    rcases hown'.2 with ⟨hv, _⟩ | ⟨g, cap, cur, hv, _⟩
    · exact ⟨_, _, _, hv⟩
    · exact ⟨_, _, _, hv⟩
  go_wp2
  go_ret2
  refine ⟨rfl, ?_, ?_, hk2.out.trans (KeepB.set _ _ _ _)⟩
  · exact Lib.BuilderAt.put (T := 103) (e := 5) hB hb2 (bs' := bs ++ Lib.strCells s) (by simpa [Lib.strCells_length] using hown') (by decide)
  · exact (hb1.grown hgrow (by have := hb1.size; omega) (fun k hk => (hown.lt k hk).1)).setCell (p := ⟨b, 1, none⟩) hB _

theorem builder_Put (B b : Nat) (l s : List UInt8) (w : World) (h : BuildL B b l w) (hlen : l.length + s.length ≤ 140737488355328) (hB : B ≤ w.heap.size) :
    Calls Tryz.prog 110 #[.pointer (some ⟨b, 0, none⟩), .string (S s)] w fun e w' => e = .returned (.tuple #[.int .i64 s.length, .nilIface]) ∧ BuildL B b (l ++ s) w' ∧ Below B w w' ∧ KeepB b w w' :=
  (builderWriteKeeps B b _ (S s) w h (by rw [Lib.byteCells_length, S_size]; exact hlen) hB).mono fun e w' ⟨h1, h2, h3⟩ =>
    ⟨by rw [h1, S_size], .inr (by rw [strCells_S] at h2; simpa [Lib.byteCells] using h2), h3⟩

end Go.Proofs.YtplnfepdikbpfaaGreatDoor

namespace Go.Proofs.YtplnfepdikbpfaaGreatDoor
open Go.RowKit
set_option linter.unusedVariables false
set_option linter.unusedSimpArgs false

def TabW (w : World) : Prop := Lib.TabIs Tryz.prog w "internal/strconv.uint64pow10" .u64 Lib.pow10Tab
theorem TabW.called {w W : World} (h : TabW w) (hb : Below w.heap.size w W) : TabW W := by
  unfold TabW Lib.TabIs World.var? at h ⊢
  cases hg : Tryz.prog.globalNamed "internal/strconv.uint64pow10" with
  | none => rw [hg] at h; cases h
  | some g =>
    rw [hg] at h
    simp only [Option.bind_some] at h ⊢
    have hl : g < w.heap.size := by
      rcases Nat.lt_or_ge g w.heap.size with h' | h'
      · exact h'
      · rw [Array.getElem?_eq_none h'] at h; cases h
    rw [hb.block g hl]
    exact h

/-- The text of a variable. -/
def letterC (v : Int) : UInt8 := UInt8.ofNat (97 + v % 26).toNat
def letterL (v : Int) : List UInt8 := letterC v :: (if 26 ≤ v then Lib.itoa (v / 26) else [])

theorem conv_one (b : UInt8) (z : Int) (hz : z = (b.toNat : Int)) (W : World) (k : Nat) (hk : k = W.heap.size) :
    (convert 101 9 (.slice (some ⟨k, 0, none⟩) 1 1)).run Tryz.prog (W.alloc (.cells #[.int .u8 z] 5)) = .ok (.string (S [b])) (W.alloc (.cells #[.int .u8 z] 5)) := by
  subst hz; subst hk
  have := run_convert_bytes_arg (P := Tryz.prog) (W.alloc (.cells #[.int .u8 (b.toNat : Int)] 5)) 101 5 Tryz.underlying101 Tryz.underlying5 W.heap.size 0 1 1 [(b.toNat : Int)] rfl (fun i hi => by
    have : i = 0 := by omega
    subst this; simp) 9 Tryz.underlying9
  rw [this]
  simp [S, strOfNums]

theorem letterC_wrap (v : Int) (h0 : 0 ≤ v) : IntKind.u8.wrap (97 + v % 26) = ((letterC v).toNat : Int) := by
  have m0 : 0 ≤ v % 26 := by omega
  have m1 : v % 26 < 26 := by omega
  have e : (letterC v).toNat = (97 + v % 26).toNat := by
    unfold letterC
    rw [UInt8.toNat_ofNat']
    omega
  rw [e]
  simp only [IntKind.wrap, IntKind.bits, IntKind.signed, Bool.false_and, Bool.false_eq_true, if_false]
  omega

theorem Itoa_calls (n : Int) (w : World) (h0 : -9223372036854775808 ≤ n) (h1 : n ≤ 9223372036854775807) (ht : TabW w) :
    Calls Tryz.prog 118 #[.int .i64 n] w fun e w' => e = .returned (.string (S (Lib.itoa n))) ∧ Below w.heap.size w w' :=
  (Tryz.strconv_Itoa n h0 h1 w ht).mono fun e w' ⟨h, k, os, hw⟩ => ⟨h, by rw [hw]; exact Lib.below_grow _ w (Nat.le_refl _) k os⟩

set_option maxHeartbeats 1000000 in
theorem letter_calls (v : Int) (w : World) (h0 : 0 ≤ v) (h1 : v ≤ 1000000000) (ht : TabW w) :
    Calls Tryz.prog 101 #[.int .i64 v] w fun e w' => e = .returned (.string (S (letterL v))) ∧ Below w.heap.size w w' := by
  have wc := letterC_wrap v h0
  have m0 : 0 ≤ v % 26 := by omega
  have m1 : v % 26 < 26 := by omega
  obtain ⟨r, hr⟩ : ∃ r, r = v % 26 := ⟨_, rfl⟩
  have cv := conv_one (letterC v) _ rfl
  unfold letterL
  by_cases hv : 26 ≤ v
  · rw [if_pos hv]
    have HT := Lib.hid ht
    have d0 : 0 ≤ v / 26 := by omega
    have d1 : v / 26 ≤ 1000000000 := by omega
    have dl := Lib.itoa_length_le (v / 26) (by omega) (by omega)
    have dm : ¬ 9223372036854775807 < [letterC v].length + (Lib.itoa (v / 26)).length := by simp; omega
    go_enter Tryz.func101, Tryz.ntmps101
    go_wp2_with fail
    have hal := bel_alloc (Below.refl w.heap.size w) (.cells #[.int .u8 ((letterC v).toNat : Int)] 5)
    refine (Itoa_calls (v / 26) _ (by omega) (by omega) (HT.out.called hal)).mono ?_
    rintro e w1 ⟨rfl, hb1⟩
    go_wp2
    go_ret
    exact ⟨rfl, bel_then hal hb1⟩
  · rw [if_neg hv]
    go_enter Tryz.func101, Tryz.ntmps101
    go_wp2
    go_ret
    exact ⟨rfl, bel_alloc (Below.refl _ _) _⟩

theorem letterL_length (v : Int) (h0 : 0 ≤ v) (h1 : v ≤ 1000000000) : (letterL v).length ≤ 22 := by
  unfold letterL
  by_cases hv : 26 ≤ v
  · rw [if_pos hv]
    have := Lib.itoa_length_le (v / 26) (by omega) (by omega)
    simp; omega
  · rw [if_neg hv]; simp

/-! ### The text of a type -/
/-- Texts with a comma and a blank between. -/
def joinC : List (List UInt8) → List UInt8
  | [] => []
  | [a] => a
  | a :: b :: l => a ++ [44, 32] ++ joinC (b :: l)
theorem joinC_snoc (l : List (List UInt8)) (a : List UInt8) : joinC (l ++ [a]) = if l = [] then a else joinC l ++ [44, 32] ++ a := by
  induction l with
  | nil => simp [joinC]
  | cons x l ih =>
    cases l with
    | nil => simp [joinC]
    | cons y l =>
      simp only [List.cons_append, joinC] at ih ⊢
      rw [ih]
      simp
mutual
def textT : Ty → List UInt8
  | .mk k m n xs v =>
    if k = 1 then [73, 110, 116] else if k = 2 then [66, 111, 111, 108] else if k = 3 then [84, 101, 120, 116] else if k = 6 then letterL v
    else if k = 5 then [40] ++ joinC (textsT xs).dropLast ++ [41, 32, 45, 62, 32] ++ (textsT xs).getLastD []
    else m ++ [46] ++ n ++ (if xs.length = 0 then [] else [91] ++ joinC (textsT xs) ++ [93])
def textsT : List Ty → List (List UInt8)
  | [] => []
  | a :: xs => textT a :: textsT xs
end
theorem textsT_map (xs : List Ty) : textsT xs = xs.map textT := by
  induction xs with
  | nil => simp [textsT]
  | cons a xs ih => simp [textsT, ih]

mutual
/-- What write asks: a function's type has a result, a variable is one. -/
def wrB : Ty → Bool
  | .mk k m n xs v => (k != 5 || decide (1 ≤ xs.length)) && (k != 6 || (decide (0 ≤ v) && decide (v ≤ 1048576))) && wrL xs
def wrL : List Ty → Bool
  | [] => true
  | a :: xs => wrB a && wrL xs
end
theorem wrL_mem {xs : List Ty} (h : wrL xs = true) : ∀ t ∈ xs, wrB t = true := by
  induction xs with
  | nil => intro t ht; cases ht
  | cons a xs ih =>
    simp only [wrL, Bool.and_eq_true] at h
    intro t ht
    rcases List.mem_cons.1 ht with rfl | ht
    · exact h.1
    · exact ih h.2 t ht

end Go.Proofs.YtplnfepdikbpfaaGreatDoor

namespace Go.Proofs.YtplnfepdikbpfaaGreatDoor
open Go.RowKit
set_option linter.unusedVariables false
set_option linter.unusedSimpArgs false

def TabB (B : Nat) (w : World) : Prop := ∀ W, Below B w W → TabW W
theorem TabB.next {B : Nat} {w W : World} (h : TabB B w) (hb : Below B w W) : TabB B W := fun X hX => h X (hb.trans hX)
theorem TabB.now {B : Nat} {w : World} (h : TabB B w) : TabW w := h w (Below.refl _ _)

abbrev LtB (B : Nat) : Nat → Prop := fun k => k < B
theorem RdL.belowB {B : Nat} {w W : World} {sl : Value} {ks : List Ty} (h : RdL (LtB B) w sl ks) (hb : Below B w W) : RdL (LtB B) W sl ks :=
  h.turn (fun _ h => h) fun b o h => hb.cell (p := ⟨b, o, none⟩) h

/-- What a call that writes to a builder leaves. -/
def Wrote (B b : Nat) (l : List UInt8) (w : World) (e : Ending) (w' : World) : Prop := e = .returned (.tuple #[]) ∧ BuildL B b l w' ∧ Below B w w' ∧ KeepB b w w'

def WriteAt (t : Ty) : Prop := ∀ (B b : Nat) (l : List UInt8) (v : Value) (w : World), ValT (LtB B) w v t → wrB t = true → BuildL B b l w → B ≤ w.heap.size → TabB B w → l.length + (textT t).length ≤ 140737488355328 →
  Calls Tryz.prog 65 #[.pointer (some ⟨b, 0, none⟩), v] w (Wrote B b (l ++ textT t) w)

theorem joinC_le (a b : List (List UInt8)) : (joinC a).length ≤ (joinC (a ++ b)).length := by
  induction a with
  | nil => simp [joinC]
  | cons x a ih =>
    cases a with
    | nil => cases b <;> simp [joinC] <;> omega
    | cons y a => simp only [List.cons_append, joinC, List.length_append] at ih ⊢; omega
theorem texts_take (xs : List Ty) (k : Nat) (h : k < xs.length) : joinC (textsT (xs.take (k + 1))) = if k = 0 then textT (tyAt xs k) else joinC (textsT (xs.take k)) ++ [44, 32] ++ textT (tyAt xs k) := by
  rw [textsT_map, textsT_map, take_ty xs k h, List.map_append, List.map_singleton, joinC_snoc]
  by_cases hk : k = 0
  · subst hk; simp
  · have : List.map textT (List.take k xs) ≠ [] := by
      intro e
      have h2 := congrArg List.length e
      rw [List.length_map, List.length_take] at h2
      simp only [List.length_nil] at h2
      omega
    rw [if_neg this, if_neg hk]
theorem texts_take_le (xs : List Ty) (k : Nat) : (joinC (textsT (xs.take k))).length ≤ (joinC (textsT xs)).length := by
  rw [textsT_map, textsT_map]
  conv => rhs; rw [← List.take_append_drop k xs, List.map_append]
  exact joinC_le _ _

theorem write1_enters (args : Array Value) (w : World) : (callFunc 109 args).run Tryz.prog w = .ok (.enter 109 args) w := by go_simp

theorem BuildL.fresh_ne {B b : Nat} {l : List UInt8} {w : World} (h : BuildL B b l w) : b < w.heap.size := h.lt
theorem Wrote.of_put {B b n : Nat} {l : List UInt8} {w w' : World} (h : BuildL B b l w' ∧ Below B w w' ∧ KeepB b w w') : BuildL B b l w' ∧ Below B w w' ∧ KeepB b w w' := h

set_option maxHeartbeats 4000000 in
theorem write1_calls (xs : List Ty) (ih : ∀ t ∈ xs, WriteAt t) (B b x : Nat) (l : List UInt8) (sl : Value) (w : World) (hv : RdL (LtB B) w sl xs) (hok : ∀ t ∈ xs, wrB t = true) (hB : BuildL B b l w) (hBs : B ≤ w.heap.size) (ht : TabB B w)
    (hlen : l.length + (joinC (textsT xs)).length ≤ 140737488355328) (hx : w.heap[x]? = some (.cells #[.pointer (some ⟨b, 0, none⟩)] 100 (0, 0))) (hxb : x ≠ b) :
    Calls Tryz.prog 109 #[sl, .pointer (some ⟨x, 0, none⟩)] w (Wrote B b (l ++ joinC (textsT xs)) w) := by
  obtain ⟨A, c, rfl, hl, h⟩ := id hv
  clear h
  have HV := Lib.hid hv; have HO := Lib.hid hok; have HB := Lib.hid hB; have HT := Lib.hid ht; have HX := Lib.hid hx
  clear hv hok hB ht hx
  go_enter Tryz.func109, Tryz.ntmps109
  go_wp2
  go_loopw [7] (fun i wr => ∃ k : Nat, k ≤ xs.length ∧ i = .int .i64 k ∧ BuildL B b (l ++ joinC (textsT (xs.take k))) wr ∧ Below B w wr ∧ KeepB b w wr) (fun i _ => xs.length - (intOf i).toNat)
  case atStart => exact ⟨0, Nat.zero_le _, rfl, by simpa [textsT, joinC] using HB.out, Below.refl _ _, KeepB.refl _ _⟩
  case round =>
    obtain ⟨k, hk, rfl, hbl, hb, hkp⟩ := hrel
    by_cases hlt : k < xs.length
    · obtain ⟨-, -, hxx⟩ := (HV.out.belowB hb).at_
      obtain ⟨b1, off, rfl, hb0, hc⟩ := hxx (by omega)
      obtain ⟨A2, c2, g1, g2, g3, g4, g5, g6, g7⟩ := hc k hlt
      clear hc hxx
      have hxl : x < w.heap.size := lt_of_block HX.out
      have hxr : wr.heap[x]? = some (.cells #[.pointer (some ⟨b, 0, none⟩)] 100 (0, 0)) := by rw [hkp.2 x hxl hxb (NoBytes.of HX.out (by decide))]; exact HX.out
      have hxlr : x < wr.heap.size := lt_of_block hxr
      have xc := cell_of_one hxr
      have HXR := Lib.hid hxr; clear hxr
      have hst := Lib.hid (texts_take xs k hlt)
      have hle := texts_take_le xs (k + 1)
      have hle0 := texts_take_le xs k
      have HBL := Lib.hid hbl; have HKP := Lib.hid hkp; have HBB := Lib.hid hb; clear hbl hkp
      have hsz := hb.size
      have hg6 := Lib.hid g6; clear g6
      obtain ⟨W1, hW1⟩ : ∃ W1, W1 = wr.alloc (.cells #[.int .i64 (tyAt xs k).kind, .string (S (tyAt xs k).mod), .string (S (tyAt xs k).name), .slice A2 (tyAt xs k).args.length c2, .int .i64 (tyAt xs k).var] 24) := ⟨_, rfl⟩
      have hal : Below wr.heap.size wr W1 := by rw [hW1]; exact bel_alloc (Below.refl _ _) _
      have hnew : W1.heap[wr.heap.size]? = some (.cells #[.int .i64 (tyAt xs k).kind, .string (S (tyAt xs k).mod), .string (S (tyAt xs k).name), .slice A2 (tyAt xs k).args.length c2, .int .i64 (tyAt xs k).var] 24 (0, 0)) := by rw [hW1]; exact heap_alloc_new wr _
      have hz1 : W1.heap.size = wr.heap.size + 1 := by rw [hW1]; simp
      have hwB : B ≤ wr.heap.size := by omega
      rcases k with _ | k
      · have hk0 : (0 : Nat) = 0 := rfl
        simp only [Nat.zero_mul, Nat.add_zero] at g1 g2 g3 g4 g5
        have hst0 := hst.out
        rw [if_pos hk0] at hst0
        have HST := Lib.hid hst0; clear hst0
        have e0 : joinC (textsT (xs.take 0)) = [] := by simp [textsT, joinC]
        have HE := Lib.hid e0; clear e0
        have hlen1 : (l ++ joinC (textsT (xs.take 0))).length + (textT (tyAt xs 0)).length ≤ 140737488355328 := by rw [← HST.out, HE.out, List.append_nil]; omega
        have HL1 := Lib.hid hlen1; clear hlen1 hle hle0
        clear hk0
        go_wp2_with fail
        rw [← hW1]
        refine (ih _ (tyAt_mem hlt) B b _ _ W1 ⟨g7, A2, c2, rfl, hg6.out.belowB (hal.mono hwB)⟩ (HO.out _ (tyAt_mem hlt)) (HBL.out.below hal) (by omega) (HT.out.next (HBB.out.trans (hal.mono hwB))) HL1.out).mono ?_
        rintro e w2 ⟨rfl, hbl2, hb2, hk2⟩
        have HBL2 := Lib.hid hbl2
        have hb3 := HBB.out.trans ((hal.mono hwB).trans hb2)
        have hk3 := HKP.out.trans ((KeepB.of_below hal).trans hk2)
        clear hbl2 hb2 hk2 hW1 hnew hz1
        go_wp2
        go_roundw
        case rel => exact ⟨1, by omega, by go_num, by rw [HST.out]; have := HBL2.out; rwa [HE.out, List.append_nil] at this, hb3, hk3⟩
        case measure => simp [intOf]; omega
      · have hst0 := hst.out
        rw [if_neg (Nat.succ_ne_zero k)] at hst0
        have HST := Lib.hid hst0; clear hst0
        have hlen1 : (l ++ joinC (textsT (xs.take (k + 1))) ++ [44, 32]).length + (textT (tyAt xs (k + 1))).length ≤ 140737488355328 := by
          have := congrArg List.length HST.out
          simp only [List.length_append, List.length_cons, List.length_nil] at this ⊢; omega
        have HL1 := Lib.hid hlen1
        have hlen2 : (l ++ joinC (textsT (xs.take (k + 1)))).length + ([44, 32] : List UInt8).length ≤ 140737488355328 := by simp only [List.length_append, List.length_cons, List.length_nil] at hlen1 ⊢; omega
        have HL2 := Lib.hid hlen2; clear hlen1 hlen2 hle hle0
        go_wp2_with fail
        rw [← hW1]
        refine (builder_Put B b _ [44, 32] W1 (HBL.out.below hal) HL2.out (by omega)).mono ?_
        rintro e w2 ⟨rfl, hbl2, hb2, hk2⟩
        have HBL2 := Lib.hid hbl2
        have hbs : b < wr.heap.size := HBL.out.lt
        have hn2 : w2.heap[wr.heap.size]? = _ := (hk2.2 wr.heap.size (by omega) (by omega) (NoBytes.of hnew (by decide))).trans hnew
        have hx2 : w2.heap[x]? = _ := (hk2.2 x (by omega) hxb (NoBytes.of ((hal.block x hxlr).trans HXR.out) (by decide))).trans ((hal.block x hxlr).trans HXR.out)
        have xc2 := cell_of_one hx2
        have n0 : w2.cell? ⟨wr.heap.size, 0, none⟩ = some (.int .i64 (tyAt xs (k + 1)).kind) := by simp [World.cell?, hn2]
        have n1 : w2.cell? ⟨wr.heap.size, 1, none⟩ = some (.string (S (tyAt xs (k + 1)).mod)) := by simp [World.cell?, hn2]
        have n2 : w2.cell? ⟨wr.heap.size, 2, none⟩ = some (.string (S (tyAt xs (k + 1)).name)) := by simp [World.cell?, hn2]
        have n3 : w2.cell? ⟨wr.heap.size, 3, none⟩ = some (.slice A2 (tyAt xs (k + 1)).args.length c2) := by simp [World.cell?, hn2]
        have n4 : w2.cell? ⟨wr.heap.size, 4, none⟩ = some (.int .i64 (tyAt xs (k + 1)).var) := by simp [World.cell?, hn2]
        have hb3 := (hal.mono hwB).trans hb2
        have hk3 := (KeepB.of_below (b := b) hal).trans hk2
        have hz2 : B ≤ w2.heap.size := by have := hb3.size; omega
        clear hbl2 hb2 hk2 hW1 hnew hz1 hn2 hx2 xc
        go_wp2_with fail
        refine (ih _ (tyAt_mem hlt) B b _ _ w2 ⟨g7, A2, c2, rfl, hg6.out.belowB hb3⟩ (HO.out _ (tyAt_mem hlt)) HBL2.out hz2 (HT.out.next (HBB.out.trans hb3)) HL1.out).mono ?_
        rintro e w3 ⟨rfl, hbl4, hb4, hk4⟩
        have HBL4 := Lib.hid hbl4
        have hb5 := HBB.out.trans (hb3.trans hb4)
        have hk5 := HKP.out.trans (hk3.trans hk4)
        clear hbl4 hb4 hk4 hb3 hk3
        go_wp2
        go_roundw
        case rel => exact ⟨k + 1 + 1, by omega, by go_num, by rw [HST.out]; have := HBL4.out; simpa [List.append_assoc] using this, hb5, hk5⟩
        case measure => simp [intOf]; omega
    · have hkk : k = xs.length := by omega
      subst hkk
      go_wp2
      go_end0
      exact ⟨rfl, by rw [List.take_length] at hbl; exact hbl, hb, hkp⟩

end Go.Proofs.YtplnfepdikbpfaaGreatDoor
