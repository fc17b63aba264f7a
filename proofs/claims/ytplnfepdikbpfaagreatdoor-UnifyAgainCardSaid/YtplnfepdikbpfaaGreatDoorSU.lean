/- What law14's alive leans on: Unify, Text, Parse and SameBinds at the chapter's example, reckoned. No condition. -/
import Derived.Test.YtplnfepdikbpfaaGreatDoorST11
import Derived.Test.YtplnfepdikbpfaaGreatDoorBD
import Derived.Test.YtplnfepdikbpfaaGreatDoorUZ
namespace Go.Proofs.YtplnfepdikbpfaaGreatDoor
open Go.RowKit
set_option linter.unusedVariables false
set_option linter.unusedSimpArgs false

def iT : Ty := .mk 1 [] [] [] 0
abbrev vT (n : Int) : Ty := .mk 6 [] [] [] n
abbrev mT : Ty := .mk 4 [109] [76] [.mk 1 [] [] [] 0] 0
def tA1 : Ty := .mk 5 [] [] [vT 0, vT 1, vT 0] 0
def tB1 : Ty := .mk 5 [] [] [iT, vT 2, vT 2] 0
def tB2 : Ty := .mk 5 [] [] [vT 0, iT] 0
def tB3 : Ty := .mk 5 [] [] [iT] 0
def tT : Ty := .mk 5 [] [] [vT 0, vT 27, mT] 0
def tP : Ty := .mk 5 [] [] [vT 0, vT 0] 0
def lS : List (Int × Ty) := [(0, iT), (1, iT), (2, iT)]

/-- The Store with both types. -/
def stoAB (a b : Ty) : Sto := (addT b (addT a Sto.empty).2).2
def stoM (a b : Ty) : Option (Bool × Sto) := meetF 30 [((addT a Sto.empty).1, (addT b (addT a Sto.empty).2).1)] (stoAB a b)
def stoS (a b : Ty) : Sto := ((stoM a b).getD (false, Sto.empty)).2

theorem ofAt_all {s : Sto} {P : Int → Nat → Bool} (h : s.of.all (fun y => P y.1 y.2) = true) {v : Int} {i : Nat} (hi : s.ofAt v = some i) : P v i = true :=
  List.all_eq_true.1 h (v, i) (ofAt_mem hi)
theorem binds_of {s : Sto} {L : List (Int × Ty)} (f : Nat) (h1 : s.of.all (fun y => (buildF f s y.2).isSome) = true) (h2 : s.of.all (fun y => (s.ofAt y.1 == some y.2)) = true)
    (hL : s.of.filterMap (fun y => (buildF f s y.2).bind fun t => if t.kind = 6 ∧ t.var = y.1 then none else some (y.1, t)) = L) (hs : L.Pairwise (fun a b => a.1 < b.1)) : AllBd s ∧ BindsIs s L := by
  constructor
  · intro v i hi
    have := ofAt_all (P := fun v i => (buildF f s i).isSome) h1 hi
    obtain ⟨t, ht⟩ := Option.isSome_iff_exists.1 this
    exact ⟨f, t, ht⟩
  · refine ⟨hs, fun x => ?_⟩
    rw [← hL, List.mem_filterMap]
    constructor
    · rintro ⟨y, hy, h⟩
      obtain ⟨t, ht, h3⟩ := Option.bind_eq_some_iff.1 h
      split at h3
      · cases h3
      · rename_i hk
        obtain rfl := Option.some.inj h3
        have := List.all_eq_true.1 h2 y hy
        exact ⟨y.2, f, by simpa using this, ht, hk⟩
    · rintro ⟨i, g, hi, hg, hk⟩
      have := ofAt_all (P := fun v i => (buildF f s i).isSome) h1 hi
      obtain ⟨t, ht⟩ := Option.isSome_iff_exists.1 this
      obtain rfl := buildF_one ht hg
      exact ⟨(x.1, i), ofAt_mem hi, by rw [ht]; simp only [Option.bind_some]; rw [if_neg hk]⟩

theorem uis1 : UIs tA1 tB1 0 lS := by
  refine .inr ⟨by kernel_rfl, by kernel_rfl, stoS tA1 tB1, ⟨30, true, by kernel_rfl, .inr (.inr ⟨rfl, by decide, .fits 30 (4, 2) (by kernel_rfl) (fun v i h => ?_) (fun v i g x h hg => ?_)⟩)⟩, .inr ⟨rfl, ?_⟩⟩
  · have := ofAt_all (s := stoS tA1 tB1) (P := fun v i => (szF 30 (stoS tA1 tB1) i).isSome) (by kernel_rfl) h
    obtain ⟨x, hx⟩ := Option.isSome_iff_exists.1 this
    exact ⟨30, x, hx⟩
  · have := ofAt_all (s := stoS tA1 tB1) (P := fun v i => szF 30 (stoS tA1 tB1) i == some (1, 1)) (by kernel_rfl) h
    have h1 : szF 30 (stoS tA1 tB1) i = some (1, 1) := by simpa using this
    obtain rfl := szF_one h1 hg
    decide
  · exact binds_of 30 (by kernel_rfl) (by kernel_rfl) (by kernel_rfl) (by decide)
theorem uis2 : UIs (vT 0) tB2 13 [] := by
  refine .inr ⟨by kernel_rfl, by kernel_rfl, stoS (vT 0) tB2, ⟨30, true, by kernel_rfl, .inr (.inr ⟨rfl, by decide, .stop 30 ((sizeF 30 (stoS (vT 0) tB2) (addT (vT 0) Sto.empty).1 []).getD (none, [])).2 (by kernel_rfl)⟩)⟩, .inl ⟨by decide, rfl⟩⟩
theorem uis3 : UIs iT tB3 10 [] := by
  refine .inr ⟨by kernel_rfl, by kernel_rfl, stoS iT tB3, ⟨30, false, by kernel_rfl, .inl ⟨rfl, rfl⟩⟩, .inl ⟨by decide, rfl⟩⟩

theorem text_alive (v : Value) (w : World) (hv : RdV w v tT) (ht : TabW w) :
    Calls Tryz.prog 29 #[v] w fun e w' => e = .returned (.tuple #[.string ⟨#[40, 97, 44, 32, 98, 49, 41, 32, 45, 62, 32, 109, 46, 76, 91, 73, 110, 116, 93]⟩, .int .i64 0]) ∧ Below w.heap.size w w' := by
  have e1 : utxt tT = [40, 97, 44, 32, 98, 49, 41, 32, 45, 62, 32, 109, 46, 76, 91, 73, 110, 116, 93] := by kernel_rfl
  have e2 : uerr tT = 0 := by kernel_rfl
  have h := Text_calls' tT v w hv ht
  rw [e1, e2] at h
  exact h
theorem parse_alive (w : World) (he : EnvB w.heap.size w) :
    Calls Tryz.prog 23 #[.string ⟨#[40, 97, 41, 32, 45, 62, 32, 97]⟩] w fun e w' => ∃ A c, e = .returned (.tuple #[.agg #[.int .i64 5, .string ⟨#[]⟩, .string ⟨#[]⟩, .slice A 2 c, .int .i64 0], .int .i64 0]) ∧ Rd w' (.slice A 2 c) [vT 0, vT 0] ∧ Below w.heap.size w w' := by
  refine (Parse_calls [40, 97, 41, 32, 45, 62, 32, 97] w (by decide) he).mono ?_
  rintro e w' ⟨r, v, hr, rfl, hv, hb⟩
  have h1 : r = (tP, 0) := by
    rcases hr with ⟨h, -⟩ | ⟨-, f, q, hf, rfl⟩
    · exact absurd h (by decide)
    · obtain ⟨q2, hq2⟩ : ∃ q2, readF 30 [40, 97, 41, 32, 45, 62, 32, 97] false 0 = some q2 := Option.isSome_iff_exists.1 (by kernel_rfl)
      have h3 := readF_le (Nat.le_max_left f 30) hf
      rw [readF_le (Nat.le_max_right f 30) hq2] at h3
      obtain rfl := Option.some.inj h3
      have h4 : (readF 30 [40, 97, 41, 32, 45, 62, 32, 97] false 0).map (parseR [40, 97, 41, 32, 45, 62, 32, 97]) = some (tP, 0) := by kernel_rfl
      rw [hq2] at h4
      exact Option.some.inj h4
  subst h1
  obtain ⟨h2, A, c, rfl, h3⟩ := hv
  exact ⟨A, c, rfl, h3.weak (fun b hb => hb.2), hb⟩
theorem sameb_alive (va vb : Value) (w : World) (ha : RdBw w va lS) (hb : RdBw w vb lS) :
    Calls Tryz.prog 21 #[va, vb] w fun e w' => e = .returned (.bool true) ∧ Below w.heap.size w w' := by
  have h := SameBinds_calls lS lS va vb w ha hb
  rw [sameBd_iff.2 rfl] at h
  exact h
theorem same_alive (va vb : Value) (w : World) (ha : RdV w va tP) (hb : RdV w vb tP) :
    Calls Tryz.prog 24 #[va, vb] w fun e w' => e = .returned (.bool true) ∧ Below w.heap.size w w' := by
  have h := RSame_calls tP tP va vb w ha hb
  rw [show sameT tP tP = true by kernel_rfl] at h
  exact h

end Go.Proofs.YtplnfepdikbpfaaGreatDoor
