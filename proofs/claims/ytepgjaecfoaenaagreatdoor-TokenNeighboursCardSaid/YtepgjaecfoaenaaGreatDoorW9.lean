/- The walks of the token package's Text, are, IsToken, Apart, IsTrivia, Great. Condition: a slice reads as tokens. -/
import Derived.Test.YtepgjaecfoaenaaGreatDoorW8
import Derived.Test.YtepgjaecfoaenaaGreatDoorP3
namespace Go.Proofs.YtepgjaecfoaenaaGreatDoor
open Go.RowKit
set_option linter.unusedVariables false
set_option linter.unusedSimpArgs false

theorem tokAt_cell (ts : List Tok) (k : Nat) (h : k < ts.length) : (tokCells ts)[k * 2]? = some (.int .i64 (tokAt ts k).kind) ∧ (tokCells ts)[k * 2 + 1]? = some (.string (S (tokAt ts k).text)) := by
  induction ts generalizing k with
  | nil => simp at h
  | cons t ts ih =>
    cases k with
    | zero => simp [tokCells, tokAt]
    | succ k =>
      have := ih k (by simpa using h)
      rw [show (k + 1) * 2 = k * 2 + 1 + 1 by omega]
      simpa [tokCells, tokAt] using this

theorem OwnT.read {w : World} {base : Nat} {v : Value} {ts : List Tok} (h : OwnT w base v ts) (hn : ts.length ≤ 9223372036854775000) : ReadT w v ts := by
  rcases h.2 with ⟨rfl, h0⟩ | ⟨g, cap, cur, rfl, hb, hh, h1, h2, h3, h4⟩
  · exact ⟨none, 0, by rw [h0], hn, fun h => by omega⟩
  · refine ⟨_, cap, rfl, hn, fun h0 => ⟨g, 0, rfl, (Array.getElem?_eq_some_iff.1 hh).1, fun k hk => ?_⟩⟩
    have hc : ∀ j u, (tokCells ts)[j]? = some u → w.cell? ⟨g, 0 + j, none⟩ = some u := fun j u hj => by
      have hc0 := World.ownsRow.cells h (g := g) rfl j u hj
      have ha : (⟨g, 0, none⟩ : Addr).add j = ⟨g, 0 + j, none⟩ := by unfold Addr.add; split <;> simp_all
      rwa [ha] at hc0
    have := tokAt_cell ts k hk
    exact ⟨hc _ _ this.1, by rw [Nat.add_assoc]; exact hc _ _ this.2⟩

theorem ReadT.one (w : World) (t : Tok) : ReadT (w.alloc (.cells #[.int .i64 t.kind, .string (S t.text)] 23)) (.slice (some ⟨w.heap.size, 0, none⟩) 1 1) [t] := by
  refine ⟨_, 1, rfl, by simp, fun _ => ⟨w.heap.size, 0, rfl, by simp, fun k hk => ?_⟩⟩
  have : k = 0 := by simpa using hk
  subst this
  simp [tokAt]
theorem ReadT.two (w : World) (s t : Tok) : ReadT (w.alloc (.cells #[.int .i64 s.kind, .string (S s.text), .int .i64 t.kind, .string (S t.text)] 23)) (.slice (some ⟨w.heap.size, 0, none⟩) 2 2) [s, t] := by
  refine ⟨_, 2, rfl, by simp, fun _ => ⟨w.heap.size, 0, rfl, by simp, fun k hk => ?_⟩⟩
  have : k = 0 ∨ k = 1 := by simp at hk; omega
  rcases this with rfl | rfl <;> simp [tokAt]

set_option maxHeartbeats 1000000 in
theorem Text_calls (v : Value) (ts : List Tok) (w : World) (h : ReadT w v ts) :
    Calls Tryz.prog 25 #[v] w fun e w' => e = .returned (.tuple #[.string (S (textRes ts)), .int .i64 (textErr ts)]) ∧ Below w.heap.size w w' := by
  obtain ⟨A, c, rfl, hl, hc⟩ := id h
  by_cases hlong : 20000 < (textOf ts).length
  · have he := textErr_long ts (.inl hlong)
    have hr := textRes_ne ts (by omega)
    rw [he, hr]; clear he hr hc
    go_enter Tryz.func25, Tryz.ntmps25
    go_wp2_with fail
    refine (joined_calls _ ts _ h).mono ?_
    rintro e w1 ⟨s, ok, rfl, hok, hs, hb⟩
    obtain rfl : ok = false := by rw [hok]; simp; omega
    clear hok hs
    go_wp2
    go_ret2
    exact ⟨rfl, hb⟩
  · by_cases hlen : 20000 < ts.length
    · have he := textErr_long ts (.inr hlen)
      have hr := textRes_ne ts (by omega)
      rw [he, hr]; clear he hr hc
      go_enter Tryz.func25, Tryz.ntmps25
      go_wp2_with fail
      refine (joined_calls _ ts _ h).mono ?_
      rintro e w1 ⟨s, ok, rfl, hok, hs, hb⟩
      obtain rfl : ok = true := by rw [hok]; simp; omega
      clear hok hs
      go_wp2
      go_ret2
      exact ⟨rfl, hb⟩
    · have hboth : ¬ (20000 < (textOf ts).length ∨ 20000 < ts.length) := by omega
      have key : ∀ (d : Bool) (er : Int) (res : List UInt8), decide (lex (textOf ts) = ts) = d → (if d then (0 : Int) else 4) = er → (if d then textOf ts else []) = res →
          Calls Tryz.prog 25 #[.slice A ts.length c] w fun e w' => e = .returned (.tuple #[.string (S res), .int .i64 er]) ∧ Below w.heap.size w w' := by
        intro d er res hd her hres
        clear hc
        have HD := Lib.hid hd; have HE := Lib.hid her; have HR := Lib.hid hres
        clear hd her hres
        go_enter Tryz.func25, Tryz.ntmps25
        go_wp2_with fail
        refine (joined_calls _ ts _ h).mono ?_
        rintro e w1 ⟨s, ok, rfl, hok, hs, hb⟩
        obtain rfl : ok = true := by rw [hok]; simp; omega
        obtain rfl : s = textOf ts := hs rfl
        clear hok hs
        go_wp2_with fail
        refine (Lex_calls (textOf ts) _ (by omega)).mono ?_
        rintro e w2 ⟨v2, rfl, hown, hb2⟩
        have hr2 : ReadT w2 (.slice A ts.length c) ts := (h.below hb).below hb2
        have hb3 := bel_then hb hb2
        have hlx : (lex (textOf ts)).length ≤ 9223372036854775000 := by have := lex_length (textOf ts); omega
        have hr1 := hown.read hlx
        clear hb hb2 hown
        go_wp2_with fail
        refine (equal_calls _ _ (lex (textOf ts)) ts _ hr1 hr2).mono ?_
        rintro e w4 ⟨rfl, hb4⟩
        rw [HD.out]
        have hb5 := bel_then hb3 hb4
        clear hb3 hb4 hr1 hr2
        cases d with
        | true =>
          go_wp2
          go_ret2
          exact ⟨by rw [← HE.out, ← HR.out]; rfl, hb5⟩
        | false =>
          go_wp2
          go_ret2
          exact ⟨by rw [← HE.out, ← HR.out]; rfl, hb5⟩
      refine key (decide (lex (textOf ts) = ts)) _ _ rfl ?_ ?_
      · by_cases hx : lex (textOf ts) = ts
        · rw [textErr_ok ts hboth hx]; simp [hx]
        · rw [textErr_form ts hboth hx]; simp [hx]
      · by_cases hx : lex (textOf ts) = ts
        · rw [textRes_ok ts (textErr_ok ts hboth hx)]; simp [hx]
        · rw [textRes_ne ts (by rw [textErr_form ts hboth hx]; decide)]; simp [hx]

end Go.Proofs.YtepgjaecfoaenaaGreatDoor
