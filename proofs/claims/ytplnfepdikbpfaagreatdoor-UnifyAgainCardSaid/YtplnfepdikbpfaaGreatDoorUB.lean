/- Types as trees in memory: how they read, how a slice of them grows. No condition. The walks of unify.Same and of slices.EqualFunc at it. Condition: both types read. The walks of the reference's Same and SameBinds. Condition: both read. -/
import Derived.Test.YtplnfepdikbpfaaGreatDoorBase
import Derived.Test.YtplnfepdikbpfaaGreatDoorUA
import Derived.Laws.StructEq
import Derived.Deep.QuietTactic
import Derived.Lib.QuietBelow
import Derived.Maps.AppendAt
namespace Go.Proofs.YtplnfepdikbpfaaGreatDoor
open Go.RowKit
set_option linter.unusedVariables false
set_option linter.unusedSimpArgs false

mutual
/-- The five cells from an offset on read as a type; what it leans on lies in blocks that 'ok' names. -/
def RdT (ok : Nat → Prop) (w : World) (b o : Nat) : Ty → Prop
  | .mk k m n ks v => w.cell? ⟨b, o, none⟩ = some (.int .i64 k) ∧ w.cell? ⟨b, o + 1, none⟩ = some (.string (S m)) ∧ w.cell? ⟨b, o + 2, none⟩ = some (.string (S n)) ∧
      m.length ≤ 281474976710656 ∧ n.length ≤ 281474976710656 ∧ ks.length ≤ 9223372036854775000 ∧
      (∃ A c, w.cell? ⟨b, o + 3, none⟩ = some (.slice A ks.length c) ∧ ks.length ≤ c ∧ (ks ≠ [] → ∃ b' o', A = some ⟨b', o', none⟩ ∧ ok b' ∧ RdF ok w b' o' ks)) ∧ w.cell? ⟨b, o + 4, none⟩ = some (.int .i64 v)
def RdF (ok : Nat → Prop) (w : World) (b o : Nat) : List Ty → Prop
  | [] => True
  | t :: ts => RdT ok w b o t ∧ RdF ok w b (o + 5) ts
end
/-- A slice value reads as these types. -/
def RdL (ok : Nat → Prop) (w : World) (sl : Value) (ks : List Ty) : Prop :=
  ∃ A c, sl = .slice A ks.length c ∧ (ks.length ≤ 9223372036854775000 ∧ ks.length ≤ c) ∧ (ks ≠ [] → ∃ b o, A = some ⟨b, o, none⟩ ∧ ok b ∧ RdF ok w b o ks)
/-- A type's own strings are no longer than an int can tell. -/
def Ok1 (t : Ty) : Prop := t.mod.length ≤ 281474976710656 ∧ t.name.length ≤ 281474976710656

theorem RdT_def (ok : Nat → Prop) (w : World) (b o : Nat) (t : Ty) : RdT ok w b o t ↔ w.cell? ⟨b, o, none⟩ = some (.int .i64 t.kind) ∧ w.cell? ⟨b, o + 1, none⟩ = some (.string (S t.mod)) ∧ w.cell? ⟨b, o + 2, none⟩ = some (.string (S t.name)) ∧
    Ok1 t ∧ (∃ sl, w.cell? ⟨b, o + 3, none⟩ = some sl ∧ RdL ok w sl t.args) ∧ w.cell? ⟨b, o + 4, none⟩ = some (.int .i64 t.var) := by
  obtain ⟨k, m, n, ks, v⟩ := t
  simp only [RdT, Ok1, RdL, Ty.kind, Ty.mod, Ty.name, Ty.args, Ty.var]
  constructor
  · rintro ⟨h1, h2, h3, h4, h5, h6, ⟨A, c, h7, hc, h8⟩, h9⟩
    exact ⟨h1, h2, h3, ⟨h4, h5⟩, ⟨_, h7, A, c, rfl, ⟨h6, hc⟩, h8⟩, h9⟩
  · rintro ⟨h1, h2, h3, ⟨h4, h5⟩, ⟨sl, h7, A, c, rfl, ⟨h6, hc⟩, h8⟩, h9⟩
    exact ⟨h1, h2, h3, h4, h5, h6, ⟨A, c, h7, hc, h8⟩, h9⟩

theorem RdF_at {ok : Nat → Prop} {w : World} {b : Nat} : ∀ {ks : List Ty} {o : Nat}, RdF ok w b o ks → ∀ k, k < ks.length → RdT ok w b (o + k * 5) (tyAt ks k)
  | [], _, _, k, hk => by simp at hk
  | a :: ks, o, h, 0, _ => by simp only [RdF] at h; simpa [tyAt] using h.1
  | a :: ks, o, h, k + 1, hk => by
    simp only [RdF] at h
    have := RdF_at h.2 k (by simpa using hk)
    rw [show o + 5 + k * 5 = o + (k + 1) * 5 by omega] at this
    simpa [tyAt] using this
theorem RdF_of {ok : Nat → Prop} {w : World} {b : Nat} : ∀ {ks : List Ty} {o : Nat}, (∀ k, k < ks.length → RdT ok w b (o + k * 5) (tyAt ks k)) → RdF ok w b o ks
  | [], _, _ => trivial
  | a :: ks, o, h => by
    simp only [RdF]
    refine ⟨by simpa [tyAt] using h 0 (by simp), RdF_of fun k hk => ?_⟩
    have := h (k + 1) (by simpa using hk)
    rw [show o + (k + 1) * 5 = o + 5 + k * 5 by omega] at this
    simpa [tyAt] using this

/-- What reads goes on reading, in another world and under another 'ok', if the blocks that it leans on are as they were. -/
theorem RdT_turn {ok ok' : Nat → Prop} {w W : World} (hk : ∀ b, ok b → ok' b) (hc : ∀ b o, ok b → W.cell? ⟨b, o, none⟩ = w.cell? ⟨b, o, none⟩) (t : Ty) :
    ∀ b o, (∀ j, W.cell? ⟨b, j, none⟩ = w.cell? ⟨b, j, none⟩) → RdT ok w b o t → RdT ok' W b o t := by
  induction t using Ty.ind with
  | h k m n ks v ih =>
    intro b o hb h
    rw [RdT_def] at h ⊢
    obtain ⟨h1, h2, h3, h4, ⟨sl, h5, A, c, rfl, h6, h7⟩, h8⟩ := h
    refine ⟨by rw [hb]; exact h1, by rw [hb]; exact h2, by rw [hb]; exact h3, h4, ⟨_, by rw [hb]; exact h5, A, c, rfl, h6, fun hne => ?_⟩, by rw [hb]; exact h8⟩
    obtain ⟨b', o', rfl, hok, hF⟩ := h7 hne
    exact ⟨b', o', rfl, hk _ hok, RdF_of fun k hk => ih _ (tyAt_mem hk) _ _ (fun j => hc b' j hok) (RdF_at hF k hk)⟩
theorem RdL.turn {ok ok' : Nat → Prop} {w W : World} {sl : Value} {ks : List Ty} (h : RdL ok w sl ks) (hk : ∀ b, ok b → ok' b) (hc : ∀ b o, ok b → W.cell? ⟨b, o, none⟩ = w.cell? ⟨b, o, none⟩) : RdL ok' W sl ks := by
  obtain ⟨A, c, rfl, h6, h7⟩ := h
  refine ⟨A, c, rfl, h6, fun hne => ?_⟩
  obtain ⟨b', o', rfl, hok, hF⟩ := h7 hne
  exact ⟨b', o', rfl, hk _ hok, RdF_of fun k hk' => RdT_turn hk hc _ _ _ (fun j => hc b' j hok) (RdF_at hF k hk')⟩
theorem RdL.weak {ok ok' : Nat → Prop} {w : World} {sl : Value} {ks : List Ty} (h : RdL ok w sl ks) (hk : ∀ b, ok b → ok' b) : RdL ok' w sl ks := h.turn hk fun _ _ _ => rfl
theorem RdL_nil (ok : Nat → Prop) (w : World) : RdL ok w (.slice none 0 0) [] := ⟨none, 0, rfl, by simp, fun h => absurd rfl h⟩

/-- In memory that is there. -/
abbrev Rd (w : World) (sl : Value) (ks : List Ty) : Prop := RdL (fun b => b < w.heap.size) w sl ks
theorem Rd.below {w W : World} {sl : Value} {ks : List Ty} (h : Rd w sl ks) (hb : Below w.heap.size w W) : Rd W sl ks :=
  h.turn (fun b h => Nat.lt_of_lt_of_le h hb.size) fun b o h => hb.cell (p := ⟨b, o, none⟩) h

/-- A type as a value. -/
def tyV (t : Ty) (sl : Value) : Value := .agg #[.int .i64 t.kind, .string (S t.mod), .string (S t.name), sl, .int .i64 t.var]
/-- The type's value, and that its Args read. -/
def RdV (w : World) (v : Value) (t : Ty) : Prop := Ok1 t ∧ ∃ A c, v = tyV t (.slice A t.args.length c) ∧ Rd w (.slice A t.args.length c) t.args
theorem RdV.below {w W : World} {v : Value} {t : Ty} (h : RdV w v t) (hb : Below w.heap.size w W) : RdV W v t := by
  obtain ⟨h1, A, c, rfl, h2⟩ := h
  exact ⟨h1, A, c, rfl, h2.below hb⟩

/-- An element of a slice that reads: its cells. -/
theorem Rd.at_ {w : World} {A : Option Addr} {n c : Nat} {ks : List Ty} (h : Rd w (.slice A n c) ks) : n = ks.length ∧ (0 < n → ∃ b off, A = some ⟨b, off, none⟩ ∧ b < w.heap.size ∧ ∀ k, k < n →
    ∃ A' c', w.cell? ⟨b, off + k * 5, none⟩ = some (.int .i64 (tyAt ks k).kind) ∧ w.cell? ⟨b, off + k * 5 + 1, none⟩ = some (.string (S (tyAt ks k).mod)) ∧ w.cell? ⟨b, off + k * 5 + 2, none⟩ = some (.string (S (tyAt ks k).name)) ∧
      w.cell? ⟨b, off + k * 5 + 3, none⟩ = some (.slice A' (tyAt ks k).args.length c') ∧ w.cell? ⟨b, off + k * 5 + 4, none⟩ = some (.int .i64 (tyAt ks k).var) ∧ Rd w (.slice A' (tyAt ks k).args.length c') (tyAt ks k).args ∧ Ok1 (tyAt ks k)) := by
  obtain ⟨A', c', he, hl, hh⟩ := h
  simp only [Value.slice.injEq] at he
  obtain ⟨rfl, rfl, rfl⟩ := he
  refine ⟨rfl, fun h0 => ?_⟩
  obtain ⟨b, o, rfl, hb, hF⟩ := hh (by intro e; rw [e] at h0; simp at h0)
  refine ⟨b, o, rfl, hb, fun k hk => ?_⟩
  have := RdF_at hF k hk
  rw [RdT_def] at this
  obtain ⟨h1, h2, h3, h4, ⟨sl, h5, h6⟩, h7⟩ := this
  obtain ⟨A', c', rfl, -, -⟩ := id h6
  exact ⟨A', c', h1, h2, h3, h5, h7, h6, h4⟩

end Go.Proofs.YtplnfepdikbpfaaGreatDoor

namespace Go.Proofs.YtplnfepdikbpfaaGreatDoor
open Go.RowKit
set_option linter.unusedVariables false
set_option linter.unusedSimpArgs false

/-- unify.Same answers at these types, whatever the world. -/
def SameAt (a b : Ty) : Prop := ∀ (va vb : Value) (w : World), RdV w va a → RdV w vb b →
  Calls Tryz.prog 30 #[va, vb] w fun e w' => e = .returned (.bool (sameT a b)) ∧ Below w.heap.size w w'

theorem same_enters (args : Array Value) (w : World) : (callFunc 30 args).run Tryz.prog w = .ok (.enter 30 args) w := by
  go_simp

set_option maxHeartbeats 2000000 in
theorem EqualFunc_calls (xs ys : List Ty) (ih : ∀ t ∈ xs, ∀ u, SameAt t u) (va vb : Value) (w : World) (hx : Rd w va xs) (hy : Rd w vb ys) :
    Calls Tryz.prog 67 #[va, vb, .func (.func 30) #[] #[]] w fun e w' => e = .returned (.bool (sameL xs ys)) ∧ Below w.heap.size w w' := by
  obtain ⟨A, c, rfl, hl, h⟩ := id hx
  obtain ⟨A', c', rfl, hl', h'⟩ := id hy
  clear h h'
  have eg := same_enters
  by_cases hlen : xs.length = ys.length
  · have HL := Lib.hid hlen
    have hneq : ((xs.length : Int) != ys.length) = false := by simp [hlen]
    clear hlen
    have HX := Lib.hid hx; have HY := Lib.hid hy; clear hx hy
    go_enter Tryz.func67, Tryz.ntmps67
    go_wp2
    go_loopw [17] (fun i wr => ∃ k : Nat, k ≤ xs.length ∧ i = .int .i64 k ∧ Hid (sameL (xs.take k) (ys.take k) = true) ∧ Below w.heap.size w wr) (fun i _ => xs.length - (intOf i).toNat)
    case atStart => exact ⟨0, Nat.zero_le _, rfl, Lib.hid (by simp [sameL]), Below.refl _ _⟩
    case round =>
      obtain ⟨k, hk, rfl, hE, hb⟩ := hrel
      have hsz := hb.size
      by_cases hlt : k < xs.length
      · have hlt' : k < ys.length := by rw [← HL.out]; exact hlt
        obtain ⟨-, hxx⟩ := (HX.out.below hb).at_
        obtain ⟨-, hyy⟩ := (HY.out.below hb).at_
        obtain ⟨b, off, rfl, hb0, hc⟩ := hxx (by omega)
        obtain ⟨b', off', rfl, hb0', hc'⟩ := hyy (by omega)
        obtain ⟨A2, c2, g1, g2, g3, g4, g5, g6, g7⟩ := hc k hlt
        obtain ⟨A2', c2', g1', g2', g3', g4', g5', g6', g7'⟩ := hc' k hlt'
        clear hc hc' hxx hyy
        have hST := Lib.hid (sameL_take hlt hlt')
        go_wp2_with fail
        have hal : ∀ o1 o2, Below wr.heap.size wr ((wr.alloc o1).alloc o2) := fun o1 o2 => bel_alloc (bel_alloc (Below.refl _ _) _) _
        refine (ih _ (tyAt_mem hlt) (tyAt ys k) _ _ _ ⟨g7, A2, c2, rfl, g6.below (hal _ _)⟩ ⟨g7', A2', c2', rfl, g6'.below (hal _ _)⟩).mono ?_
        rintro e w1 ⟨rfl, hb1⟩
        have hb2 := bel_then hb (bel_then (hal _ _) hb1)
        clear hb1 hal g1 g2 g3 g4 g5 g1' g2' g3' g4' g5' g6 g6'
        cases hs : sameT (tyAt xs k) (tyAt ys k) with
        | true =>
          have HS := Lib.hid hs; clear hs
          go_wp2
          go_roundw
          case rel => exact ⟨k + 1, by omega, by go_num, Lib.hid (by rw [hST.out, hE.out, HS.out]; rfl), hb2⟩
          case measure => simp [intOf]; omega
        | false =>
          have HS := Lib.hid hs; clear hs
          go_wp2
          go_ret
          refine ⟨ret_bool ?_, hb2⟩
          cases hq : sameL xs ys with
          | false => rfl
          | true =>
            rw [sameL_eq, decide_eq_true_eq] at hq
            have := HS.out
            rw [hq, sameT_eq] at this
            simp at this
      · have hkk : k = xs.length := by omega
        subst hkk
        go_wp2
        go_ret
        refine ⟨ret_bool ?_, hb⟩
        have := hE.out
        rw [List.take_length, HL.out, List.take_length] at this
        exact this.symm
  · have hneq : ((xs.length : Int) != ys.length) = true := by simp; omega
    go_enter Tryz.func67, Tryz.ntmps67
    go_wp2
    go_ret
    refine ⟨ret_bool ?_, Below.refl _ _⟩
    cases hq : sameL xs ys with
    | false => rfl
    | true => exact absurd (sameL_length hq) hlen

set_option maxHeartbeats 4000000 in
theorem Same_calls (a : Ty) : ∀ b, SameAt a b := by
  induction a using Ty.ind with
  | h k m n ks v ih =>
    intro b va vb w ha hb
    obtain ⟨h1, A, c, rfl, hr⟩ := ha
    obtain ⟨h1', A', c', rfl, hr'⟩ := hb
    obtain ⟨a, hA⟩ : ∃ a, a = Ty.mk k m n ks v := ⟨_, rfl⟩
    have ih' : ∀ t ∈ a.args, ∀ u, SameAt t u := by rw [hA]; exact ih
    rw [← hA] at hr h1 ⊢
    clear hA ih
    rw [sameT_def]
    unfold tyV
    have hal : ∀ o1 o2, Below w.heap.size w ((w.alloc o1).alloc o2) := fun o1 o2 => bel_alloc (bel_alloc (Below.refl _ _) _) _
    have key : (a.kind == b.kind) = false ∨ ((a.kind == b.kind) = true ∧ (a.mod == b.mod) = false) ∨ ((a.kind == b.kind) = true ∧ (a.mod == b.mod) = true ∧ (a.name == b.name) = false)
        ∨ ((a.kind == b.kind) = true ∧ (a.mod == b.mod) = true ∧ (a.name == b.name) = true ∧ (a.var == b.var) = false) ∨ ((a.kind == b.kind) = true ∧ (a.mod == b.mod) = true ∧ (a.name == b.name) = true ∧ (a.var == b.var) = true) := by
      cases (a.kind == b.kind) <;> cases (a.mod == b.mod) <;> cases (a.name == b.name) <;> cases (a.var == b.var) <;> simp
    rcases key with k1 | ⟨k1, k2⟩ | ⟨k1, k2, k3⟩ | ⟨k1, k2, k3, k4⟩ | ⟨k1, k2, k3, k4⟩
    case inr.inr.inr.inr =>
      rw [k1, k2, k3, k4]
      go_enter Tryz.func30, Tryz.ntmps30
      go_wp2_with fail
      refine (EqualFunc_calls a.args b.args ih' _ _ _ (hr.below (hal _ _)) (hr'.below (hal _ _))).mono ?_
      rintro e w1 ⟨rfl, hb1⟩
      go_wp2
      go_ret
      exact ⟨ret_bool (by simp), bel_then (hal _ _) hb1⟩
    all_goals
      go_enter Tryz.func30, Tryz.ntmps30
      go_wp2
      go_ret
      exact ⟨ret_bool (by simp [*]), hal _ _⟩

end Go.Proofs.YtplnfepdikbpfaaGreatDoor

namespace Go.Proofs.YtplnfepdikbpfaaGreatDoor
open Go.RowKit
set_option linter.unusedVariables false
set_option linter.unusedSimpArgs false

/-- The box of a type: its five cells. -/
structure Box (w : World) (p : Nat) (t : Ty) (A : Option Addr) (c : Nat) : Prop where
  c0 : w.cell? ⟨p, 0, none⟩ = some (.int .i64 t.kind)
  c1 : w.cell? ⟨p, 1, none⟩ = some (.string (S t.mod))
  c2 : w.cell? ⟨p, 2, none⟩ = some (.string (S t.name))
  c3 : w.cell? ⟨p, 3, none⟩ = some (.slice A t.args.length c)
  c4 : w.cell? ⟨p, 4, none⟩ = some (.int .i64 t.var)
theorem Box.below {w W : World} {B p : Nat} {t : Ty} {A : Option Addr} {c : Nat} (h : Box w p t A c) (hb : Below B w W) (hp : p < B) : Box W p t A c :=
  ⟨(hb.cell (p := ⟨p, _, none⟩) hp).trans h.c0, (hb.cell (p := ⟨p, _, none⟩) hp).trans h.c1, (hb.cell (p := ⟨p, _, none⟩) hp).trans h.c2, (hb.cell (p := ⟨p, _, none⟩) hp).trans h.c3, (hb.cell (p := ⟨p, _, none⟩) hp).trans h.c4⟩
theorem Box.new (w : World) (t : Ty) (A : Option Addr) (c : Nat) : Box (w.alloc (.cells #[.int .i64 t.kind, .string (S t.mod), .string (S t.name), .slice A t.args.length c, .int .i64 t.var] 24)) w.heap.size t A c := by
  constructor <;> simp

def RSameAt (a b : Ty) : Prop := ∀ (va vb : Value) (w : World), RdV w va a → RdV w vb b →
  Calls Tryz.prog 24 #[va, vb] w fun e w' => e = .returned (.bool (sameT a b)) ∧ Below w.heap.size w w'

theorem sameT_mk (k k' : Int) (m m' n n' : List UInt8) (xs ys : List Ty) (v v' : Int) : sameT (.mk k m n xs v) (.mk k' m' n' ys v') = (k == k' && m == m' && n == n' && v == v' && sameL xs ys) := by simp [sameT]

set_option maxRecDepth 100000 in
set_option maxHeartbeats 4000000 in
theorem RSame_no (k k' : Int) (m m' n n' : List UInt8) (xs ys : List Ty) (v v' : Int) (A A' : Option Addr) (c c' : Nat) (w : World)
    (key : (k != k') = true ∨ (k = k' ∧ ¬ m = m') ∨ (k = k' ∧ m = m' ∧ ¬ n = n') ∨ (k = k' ∧ m = m' ∧ n = n' ∧ (v != v') = true) ∨ (k = k' ∧ m = m' ∧ n = n' ∧ v = v' ∧ ((xs.length : Int) != ys.length) = true)) :
    Calls Tryz.prog 24 #[.agg #[.int .i64 k, .string (S m), .string (S n), .slice A xs.length c, .int .i64 v], .agg #[.int .i64 k', .string (S m'), .string (S n'), .slice A' ys.length c', .int .i64 v']] w fun e w' => e = .returned (.bool false) ∧ Below w.heap.size w w' := by
  have k0 : (k != k) = false := by simp
  have v0 : (v != v) = false := by simp
  rcases key with k1 | ⟨rfl, k2⟩ | ⟨rfl, rfl, k3⟩ | ⟨rfl, rfl, rfl, k4⟩ | ⟨rfl, rfl, rfl, rfl, k5⟩
  all_goals
    go_enter Tryz.func24, Tryz.ntmps24
    go_wp2
    go_ret
    exact ⟨rfl, bel_alloc (bel_alloc (Below.refl _ _) _) _⟩

set_option maxRecDepth 100000 in
set_option maxHeartbeats 4000000 in
theorem RSame_yes (k : Int) (m n : List UInt8) (xs ys : List Ty) (v : Int) (A A' : Option Addr) (c c' : Nat) (w : World) (hlen : xs.length = ys.length)
    (ih : ∀ t ∈ xs, ∀ u, RSameAt t u) (hr : Rd w (.slice A xs.length c) xs) (hr' : Rd w (.slice A' ys.length c') ys) :
    Calls Tryz.prog 24 #[.agg #[.int .i64 k, .string (S m), .string (S n), .slice A xs.length c, .int .i64 v], .agg #[.int .i64 k, .string (S m), .string (S n), .slice A' ys.length c', .int .i64 v]] w fun e w' => e = .returned (.bool (sameL xs ys)) ∧ Below w.heap.size w w' := by
  obtain ⟨W0, hW0⟩ : ∃ W0, W0 = (w.alloc (.cells #[.int .i64 k, .string (S m), .string (S n), .slice A xs.length c, .int .i64 v] 24)).alloc (.cells #[.int .i64 k, .string (S m), .string (S n), .slice A' ys.length c', .int .i64 v] 24) := ⟨_, rfl⟩
  have hw : Below w.heap.size w W0 := by rw [hW0]; exact bel_alloc (bel_alloc (Below.refl _ _) _) _
  have B1 : W0.cell? ⟨w.heap.size, 3, none⟩ = some (.slice A xs.length c) := by rw [hW0]; simp
  have B2 : W0.cell? ⟨w.heap.size + 1, 3, none⟩ = some (.slice A' ys.length c') := by rw [hW0]; simp
  have hz : w.heap.size + 1 < W0.heap.size := by rw [hW0]; simp
  have hlb : xs.length ≤ 9223372036854775000 := by obtain ⟨_, _, _, hl, _⟩ := hr; exact hl.1
  have HX := Lib.hid (hr.below hw); have HY := Lib.hid (hr'.below hw); clear hr hr'
  have k1 : (k != k) = false := by simp
  have k2 : (m != m) = false := by simp
  have k3 : (n != n) = false := by simp
  have k4 : (v != v) = false := by simp
  have k5 : ((xs.length : Int) != ys.length) = false := by simp [hlen]
  have HL := Lib.hid hlen; clear hlen
  have HB1 := Lib.hid B1; have HB2 := Lib.hid B2; clear B1 B2
  go_enter Tryz.func24, Tryz.ntmps24
  go_wp2_with fail
  rw [← hW0]
  clear hW0
  go_loopw [5] (fun i wr => ∃ k : Nat, k ≤ xs.length ∧ i = .int .i64 k ∧ Hid (sameL (xs.take k) (ys.take k) = true) ∧ Below W0.heap.size W0 wr) (fun i _ => xs.length - (intOf i).toNat)
  case atStart => exact ⟨0, Nat.zero_le _, rfl, Lib.hid (by simp [sameL]), Below.refl _ _⟩
  case round =>
    obtain ⟨j, hj, rfl, hE, hb⟩ := hrel
    have hsz := hb.size
    have p3 : wr.cell? ⟨w.heap.size, 3, none⟩ = some (.slice A xs.length c) := by rw [hb.cell (p := ⟨_, _, none⟩) (by show w.heap.size < _; omega)]; exact HB1.out
    have q3 : wr.cell? ⟨w.heap.size + 1, 3, none⟩ = some (.slice A' ys.length c') := by rw [hb.cell (p := ⟨_, _, none⟩) (by show w.heap.size + 1 < _; omega)]; exact HB2.out
    by_cases hlt : j < xs.length
    · have hlt' : j < ys.length := by rw [← HL.out]; exact hlt
      obtain ⟨-, hxx⟩ := (HX.out.below hb).at_
      obtain ⟨-, hyy⟩ := (HY.out.below hb).at_
      obtain ⟨b1, off, rfl, hb0, hc⟩ := hxx (by omega)
      obtain ⟨b2, off', rfl, hb0', hc'⟩ := hyy (by omega)
      obtain ⟨A2, c2, g1, g2, g3, g4, g5, g6, g7⟩ := hc j hlt
      obtain ⟨A2', c2', g1', g2', g3', g4', g5', g6', g7'⟩ := hc' j hlt'
      clear hc hc' hxx hyy
      have hST := Lib.hid (sameL_take hlt hlt')
      go_wp2_with fail
      have i0 : (0 : Int) ≤ (j : Int) := by omega
      have i1 : (j : Int) < (xs.length : Int) := by omega
      have i2 : (j : Int) < (ys.length : Int) := by omega
      have r0 := cell_regrown p3
      have r1 := cell_regrown q3
      have r2 := cell_regrown g1
      have r3 := cell_regrown g2
      have r4 := cell_regrown g3
      have r5 := cell_regrown g4
      have r6 := cell_regrown g5
      have r7 := cell_regrown g1'
      have r8 := cell_regrown g2'
      have r9 := cell_regrown g3'
      have r10 := cell_regrown g4'
      have r11 := cell_regrown g5'
      clear p3 q3 g1 g2 g3 g4 g5 g1' g2' g3' g4' g5'
      have cS : ∀ d os, Calls Tryz.prog 24 #[tyV (tyAt xs j) (.slice A2 (tyAt xs j).args.length c2), tyV (tyAt ys j) (.slice A2' (tyAt ys j).args.length c2')] (Sort.grow (redrawn wr d) os) fun e w'' => e = .returned (.bool (sameT (tyAt xs j) (tyAt ys j))) ∧ ∃ p : Regrown, w'' = Sort.grow (redrawn wr p.d) p.os :=
        fun d os => Calls.regrown_of (ih _ (tyAt_mem hlt) _ _ _ _ ⟨g7, A2, c2, rfl, g6.below (below_regrown wr d os)⟩ ⟨g7', A2', c2', rfl, g6'.below (below_regrown wr d os)⟩)
      refine wp_region_quiet_below (by first | assumption | kernel_rfl) (by kernel_rfl) ?_
      repeat (go_big_quiet_step (first | (go_at_call 24; exact cS _ _)))
      refine wpQuiet_nil ?_
      intro _ hw'
      obtain ⟨⟨dq, osq⟩, hw''⟩ := hw'
      subst hw''
      have hbr := bel_then hb (below_regrown wr dq osq)
      clear cS r0 r1 r2 r3 r4 r5 r6 r7 r8 r9 r10 r11 g6 g6'
      cases hs : sameT (tyAt xs j) (tyAt ys j) with
      | true =>
        have HS := Lib.hid hs; clear hs
        go_wp2
        go_roundw
        case rel => exact ⟨j + 1, by omega, by go_num, Lib.hid (by rw [hST.out, hE.out, HS.out]; rfl), hbr⟩
        case measure => simp [intOf]; omega
      | false =>
        have HS := Lib.hid hs; clear hs
        go_wp2
        go_ret
        refine ⟨ret_bool ?_, bel_then hw hbr⟩
        cases hq : sameL xs ys with
        | false => rfl
        | true =>
          rw [sameL_eq, decide_eq_true_eq] at hq
          have := HS.out
          rw [hq, sameT_eq] at this
          simp at this
    · have hkk : j = xs.length := by omega
      subst hkk
      go_wp2
      go_ret
      refine ⟨ret_bool ?_, bel_then hw hb⟩
      have := hE.out
      rw [List.take_length, HL.out, List.take_length] at this
      exact this.symm

theorem RSame_calls (a : Ty) : ∀ b, RSameAt a b := by
  induction a using Ty.ind with
  | h k m n xs v ih =>
    intro b va vb w ha hb
    obtain ⟨k', m', n', ys, v'⟩ := b
    obtain ⟨h1, A, c, rfl, hr⟩ := ha
    obtain ⟨h1', A', c', rfl, hr'⟩ := hb
    rw [sameT_mk]
    by_cases e1 : k = k' ∧ m = m' ∧ n = n' ∧ v = v' ∧ xs.length = ys.length
    · obtain ⟨rfl, rfl, rfl, rfl, e⟩ := e1
      simp only [beq_self_eq_true, Bool.true_and]
      exact RSame_yes k m n xs ys v A A' c c' w e ih hr hr'
    · have e2 : (k == k' && m == m' && n == n' && v == v' && sameL xs ys) = false := by
        cases hs : sameL xs ys with
        | false => simp
        | true =>
          have := sameL_length hs
          rw [Bool.and_true]
          rw [Bool.eq_false_iff]
          intro h
          simp only [Bool.and_eq_true, beq_iff_eq] at h
          exact e1 ⟨h.1.1.1, h.1.1.2, h.1.2, h.2, this⟩
      rw [e2]
      refine RSame_no k k' m m' n n' xs ys v v' A A' c c' w ?_
      by_cases a1 : k = k'
      · by_cases a2 : m = m'
        · by_cases a3 : n = n'
          · by_cases a4 : v = v'
            · exact .inr (.inr (.inr (.inr ⟨a1, a2, a3, a4, by
                have : ¬ xs.length = ys.length := fun h => e1 ⟨a1, a2, a3, a4, h⟩
                simp; omega⟩)))
            · exact .inr (.inr (.inr (.inl ⟨a1, a2, a3, by simpa using a4⟩)))
          · exact .inr (.inr (.inl ⟨a1, a2, a3⟩))
        · exact .inr (.inl ⟨a1, a2⟩)
      · exact .inl (by simpa using a1)

end Go.Proofs.YtplnfepdikbpfaaGreatDoor
