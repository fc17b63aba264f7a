/- The walk of the program's IsSolved. Condition: the pairs read; at most 1000000. -/
import Derived.Test.YtplnfepdikbpfaaGreatDoorHE
import Derived.Test.YtplnfepdikbpfaaGreatDoorVI
import Derived.Lib.QuietBelow
namespace Go.Proofs.YtplnfepdikbpfaaGreatDoor
open Go.RowKit
open Go.Maps (Keyed)
set_option linter.unusedVariables false
set_option linter.unusedSimpArgs false
attribute [local go_sem ↓] Go.wp_at_zero Go.wp_at_succ

/-- A map's element, as it is. -/
def RV (v : Value) : Option (DataW Value × List MemPlace) := some (.held v, [])
theorem zeroBl (w : World) : (zeroValue 4).run Tryz.prog w = .ok (.bool false) w := by kernel_rfl
/-- The map tells which variables have come. -/
def HasIs (D : DataW Value) (l : List Int) : Prop := Maps.IsMap D ∧ ∀ v : Int, Maps.has D (.int .i64 v) = l.contains v ∧ (l.contains v = true → ∀ z, D.atKey (.int .i64 v) z = .held (.bool true))
theorem HasIs.nil : HasIs (.map []) [] := ⟨Maps.isMap_empty, fun v => ⟨rfl, fun h => by simp at h⟩⟩
theorem HasIs.put {D : DataW Value} {l : List Int} (h : HasIs D l) (u : Int) : HasIs (D.put (.int .i64 u) (.held (.bool true))) (l ++ [u]) := by
  have hk : ∀ v : Int, WideAt.IsKeyLit (.int .i64 v) := fun v => trivial
  refine ⟨h.1.put _ _, fun v => ?_⟩
  by_cases e : v = u
  · subst e
    exact ⟨(Maps.has_put_same h.1 (hk v) _).trans (by simp), fun _ z => Maps.atKey_put_same h.1 (hk v) _ z⟩
  · have hne : (Lit.int .i64 v) ≠ .int .i64 u := fun e2 => by injection e2 with _ e2; exact e e2
    have hc : (l ++ [u]).contains v = l.contains v := by
      rw [Bool.eq_iff_iff]; simp [e]
    rw [hc]
    exact ⟨(Maps.has_put_other hne _).trans (h.2 v).1, fun hy z => (Maps.atKey_put_other hne _ z).trans ((h.2 v).2 hy z)⟩

set_option maxRecDepth 100000 in
/-- The closure that asks whether a variable has a pair. -/
theorem isf_calls {kb q n : Nat} {D : DataW Value} {l : List Int} {w : World} (v : Int) (h1 : 0 ≤ v) (h2 : v ≤ 1048576) (h0 : w.cell? ⟨q, 0, none⟩ = some (.map (some kb))) (hown : w.ownsMap Tryz.prog 3 RV kb n D) (hD : HasIs D l) :
    Calls Tryz.prog 72 #[.int .i64 v, .pointer (some ⟨q, 0, none⟩)] w fun e w' => e = .returned (.bool (l.contains v)) ∧ w' = w := by
  have hkey := Maps.keyOf_int_mk Tryz.underlying3 (wf_i64 (v := v) (by omega) (by omega))
  obtain ⟨u, ps, hrun, hu⟩ := hown.lookup intKeys Tryz.underlying109 (zeroBl w) (zd := .held (.bool false)) (zp := []) rfl hkey
  obtain ⟨b, hb⟩ : ∃ b, b = l.contains v := ⟨_, rfl⟩
  have hub : u = .bool b := by
    unfold RV at hu
    have hu2 := congrArg Prod.fst (Option.some.inj hu)
    simp only at hu2
    cases hc : l.contains v with
    | true =>
      rw [(hD.2 v).2 hc] at hu2
      injection hu2 with hu2
      rw [hu2, hb, hc]
    | false =>
      rw [Maps.atKey_of_not_has (by rw [(hD.2 v).1, hc])] at hu2
      injection hu2 with hu2
      rw [hu2, hb, hc]
  rw [← hb]
  subst hub
  clear hu hD hown hb
  go_enter Tryz.func72, Tryz.ntmps72
  go_wp2
  go_ret
  exact ⟨rfl, rfl⟩
theorem isf_enters (args : Array Value) (w : World) : (callFunc 72 args).run Tryz.prog w = .ok (.enter 72 args) w := by go_simp

/-- A pair's cells, wherever the pairs read; its type leans on what the pairs lean on. -/
theorem pair_in {L : List (Int × Ty)} {w : World} {A : Option Addr} {c : Nat} (h : RdBw w (.slice A L.length c) L) (h0 : 0 < L.length) : ∃ b off, A = some ⟨b, off, none⟩ ∧ ∀ i, i < L.length → ∃ A2 c2, Ok1 (typB L i) ∧ ∀ X, Below w.heap.size w X →
    X.cell? ⟨b, off + i * 6, none⟩ = some (.int .i64 (keyB L i)) ∧ X.cell? ⟨b, off + i * 6 + 1, none⟩ = some (.int .i64 (typB L i).kind) ∧ X.cell? ⟨b, off + i * 6 + 1 + 1, none⟩ = some (.string (S (typB L i).mod)) ∧ X.cell? ⟨b, off + i * 6 + 1 + 2, none⟩ = some (.string (S (typB L i).name)) ∧
      X.cell? ⟨b, off + i * 6 + 1 + 3, none⟩ = some (.slice A2 (typB L i).args.length c2) ∧ X.cell? ⟨b, off + i * 6 + 1 + 4, none⟩ = some (.int .i64 (typB L i).var) ∧ RdL (fun b => b < w.heap.size) X (.slice A2 (typB L i).args.length c2) (typB L i).args := by
  obtain ⟨-, hxx⟩ := h.at_
  obtain ⟨b, off, rfl, hb, hc⟩ := hxx h0
  refine ⟨b, off, rfl, fun i hi => ?_⟩
  have ek : keyB L i = L[i].1 := by simp [keyB, List.getD_eq_getElem?_getD, List.getElem?_eq_getElem hi]
  have et : typB L i = L[i].2 := by simp [typB, List.getD_eq_getElem?_getD, List.getElem?_eq_getElem hi]
  obtain ⟨A2, c2, g0, g1, g2, g3, g4, g5, g6, g7⟩ := hc i L[i] (List.getElem?_eq_getElem hi)
  rw [ek, et]
  refine ⟨A2, c2, g7, fun X hX => ?_⟩
  have cc : ∀ o, X.cell? ⟨b, o, none⟩ = w.cell? ⟨b, o, none⟩ := fun o => hX.cell (p := ⟨b, o, none⟩) hb
  exact ⟨(cc _).trans g0, (cc _).trans g1, (cc _).trans g2, (cc _).trans g3, (cc _).trans g4, (cc _).trans g5, g6.turn (fun b h => h) (fun b o h => hX.cell (p := ⟨b, o, none⟩) h)⟩

/-- What holds at the heads of IsSolved's loops. -/
structure SvIn (w2 : World) (kb qb : Nat) (wr : World) (l : List Int) : Prop where
  own : ∃ D, wr.ownsMap Tryz.prog 3 RV kb l.length D ∧ HasIs D l
  blk : wr.heap[qb]? = some (.cells #[.map (some kb)] 109 (0, 0))
  tn : Tn (fun z => z = kb) w2 wr
theorem SvIn.bel {w2 wr W : World} {kb qb : Nat} {l : List Int} (h : SvIn w2 kb qb wr l) (hb : Below wr.heap.size wr W) : SvIn w2 kb qb W l := by
  obtain ⟨D, h1, h2⟩ := h.own
  exact ⟨⟨D, map_turn h1 (Tn.bel hb (fun _ => False)) (fun e => e), h2⟩, (hb.block qb (lt_of_block h.blk)).trans h.blk, h.tn.trans (Tn.bel hb _)⟩
theorem SvIn.put {w2 wr W : World} {kb qb : Nat} {l : List Int} {u : Int} {D : DataW Value} (h : SvIn w2 kb qb wr l) (hown : W.ownsMap Tryz.prog 3 RV kb (l.length + 1) (D.put (.int .i64 u) (.held (.bool true)))) (hg : wr.grownBy W (some kb)) (hD : HasIs D l) (hne : kb ≠ qb) : SvIn w2 kb qb W (l ++ [u]) := by
  refine ⟨⟨_, by rw [List.length_append]; exact hown, hD.put u⟩, ?_, h.tn.trans (Tn.gb hg fun z e => .inl (Option.some.inj e).symm)⟩
  exact (hg.block qb (lt_of_block h.blk) (fun e => hne (Option.some.inj e).symm)).trans h.blk
theorem SvIn.belw {w w2 wr : World} {kb qb : Nat} {l : List Int} (h : SvIn w2 kb qb wr l) (hb : Below w.heap.size w w2) (hk : w.heap.size ≤ kb) : Below w.heap.size w wr :=
  hb.trans (h.tn.below hb.size fun k e => by subst e; exact hk)
theorem take_key {L : List (Int × Ty)} {i : Nat} (h : i < L.length) : (L.take (i + 1)).map Prod.fst = (L.take i).map Prod.fst ++ [keyB L i] := by
  rw [List.take_succ_eq_append_getElem h, List.map_append]
  simp [keyB, List.getD_eq_getElem?_getD, List.getElem?_eq_getElem h]
theorem keys_has (L : List (Int × Ty)) (v : Int) : (L.map Prod.fst).contains v = hasB L v := by
  rw [Bool.eq_iff_iff]
  unfold hasB
  simp only [List.contains_iff_mem, List.mem_map, List.any_eq_true, beq_iff_eq]
def headP (L : List (Int × Ty)) (i : Nat) : Bool := headS L i && !((typB L i).kind == 6 && decide (keyB L i ≤ (typB L i).var))

set_option maxRecDepth 100000 in
set_option maxHeartbeats 32000000 in
theorem IsSolved_calls (L : List (Int × Ty)) (sv : Value) (w : World) (hv : RdBw w sv L) (hl : L.length ≤ 1000000) :
    Calls Tryz.prog 33 #[sv] w fun e w' => e = .returned (.bool (decide (L.length ≤ 20000) && solvedB L)) ∧ Below w.heap.size w w' := by
  obtain ⟨A, c, rfl, hll, -⟩ := id hv
  have HV := Lib.hid hv
  clear hv
  by_cases hbig : L.length ≤ 20000
  case neg =>
    have t0 : decide ((L.length : Int) > 20000) = true := decide_eq_true (by omega)
    rw [decide_eq_false hbig, Bool.false_and]
    clear hbig
    go_enter Tryz.func33, Tryz.ntmps33
    go_wp2
    go_ret
    exact ⟨rfl, Below.refl _ _⟩
  have t0 : decide ((L.length : Int) > 20000) = false := decide_eq_false (by omega)
  rw [decide_eq_true hbig, Bool.true_and]
  obtain ⟨R, hR⟩ : ∃ R, R = solvedB L := ⟨_, rfl⟩
  rw [← hR]
  have HRR := Lib.hid hR
  clear hR hbig
  have hmm := @run_makeMap Tryz.prog
  obtain ⟨w2, hw2⟩ : ∃ w2, w2 = (w.alloc (.map #[] 0)).alloc (.cells #[.map (some w.heap.size)] 109) := ⟨_, rfl⟩
  obtain ⟨kb, hkb⟩ : ∃ kb, kb = w.heap.size := ⟨_, rfl⟩
  obtain ⟨qb, hqb⟩ : ∃ qb, qb = w.heap.size + 1 := ⟨_, rfl⟩
  have HB2 := Lib.hid (show Below w.heap.size w w2 by rw [hw2]; exact bel_alloc (bel_alloc (Below.refl _ _) _) _)
  have HKW := Lib.hid (show w.heap.size ≤ kb by rw [hkb]; exact Nat.le_refl _)
  have HKQ := Lib.hid (show kb ≠ qb by omega)
  have HI0 := Lib.hid (show SvIn w2 kb qb w2 ((L.take 0).map Prod.fst) from ⟨⟨.map [], by rw [hw2, hkb]; exact (World.ownsMap_made _ _ _ _).alloc _, HasIs.nil⟩, by
    have h := (MapKept.heap_alloc (w.alloc (.map #[] 0)) (.cells #[.map (some w.heap.size)] 109)).1
    rw [World.size_alloc] at h
    rw [hw2, hqb, hkb]; exact h, Tn.refl _ _⟩)
  go_enter Tryz.func33, Tryz.ntmps33
  go_wp2_with fail
  rw [← hw2, ← hqb, ← hkb]
  clear hw2 hqb hkb
  go_loopw [14] (fun iv wr => ∃ (i : Nat), i ≤ L.length ∧ iv = .int .i64 (i : Int) ∧ Hid (upTo (headP L) i = true) ∧ Hid (SvIn w2 kb qb wr ((L.take i).map Prod.fst))) (fun iv _ => L.length - (intOf iv).toNat)
  case atStart => exact ⟨0, Nat.zero_le _, rfl, Lib.hid rfl, HI0⟩
  case round =>
    obtain ⟨i, hi, rfl, hU, hS⟩ := hrel
    have hB := Lib.hid (hS.out.belw HB2.out HKW.out)
    by_cases hlt : i < L.length
    · obtain ⟨b, off, rfl, hp⟩ := pair_in HV.out (by omega)
      obtain ⟨A2, c2, ho1, hcs⟩ := hp i hlt
      obtain ⟨g0, g1, g2, g3, g4, g5, gv⟩ := hcs wr hB.out
      have hno : headP L i = false → R = false := fun h => by
        rw [HRR.out, solvedB]
        unfold headP at h
        rw [Bool.and_eq_false_iff] at h
        rcases h with h | h
        · rw [upTo_false hlt h]; rfl
        · rw [upTo_false (f := tailS L) hlt (by unfold tailS; rw [h, Bool.and_false]), Bool.and_false]
      have HNOP := Lib.hid hno
      have HNOF := Lib.hid (show headS L i = false → R = false from fun h => HNOP.out (by unfold headP; rw [h]; rfl))
      obtain ⟨n0, hn0⟩ : ∃ z, z = keyB L i := ⟨_, rfl⟩
      obtain ⟨t, ht⟩ : ∃ t, t = typB L i := ⟨_, rfl⟩
      have HN0 := Lib.hid hn0; have HTT := Lib.hid ht; have HP := Lib.hid hp
      have HNOT := Lib.hid (show formedB t = false → R = false from fun h => HNOF.out (by unfold headS; rw [← HTT.out, h, Bool.and_false]))
      have HNOV := Lib.hid (show t.kind = 6 → n0 ≤ t.var → R = false from fun h1 h2 => HNOP.out (by unfold headP; rw [← HN0.out, ← HTT.out, h1, decide_eq_true h2]; simp))
      rw [← hn0] at g0
      rw [← ht] at g1 g2 g3 g4 g5 gv ho1
      have i0 : (0 : Int) ≤ (i : Int) := by omega
      have i1 : (i : Int) < (L.length : Int) := by omega
      have HLT := Lib.hid hlt
      obtain ⟨w3, hw3⟩ : ∃ w3, w3 = wr.alloc (.cells #[.int .i64 n0, .int .i64 t.kind, .string (S t.mod), .string (S t.name), .slice A2 t.args.length c2, .int .i64 t.var] 52) := ⟨_, rfl⟩
      obtain ⟨q5, hq5⟩ : ∃ q, q = wr.heap.size := ⟨_, rfl⟩
      have C3 := Lib.hid (show Below wr.heap.size wr w3 by rw [hw3]; exact bel_alloc (Below.refl _ _) _)
      have B3 := Lib.hid (show Below w.heap.size w w3 from hB.out.trans (C3.out.mono hB.out.size))
      have HS3 := Lib.hid (hS.out.bel C3.out)
      have BK := Lib.hid (show w3.heap[q5]? = some (.cells #[.int .i64 n0, .int .i64 t.kind, .string (S t.mod), .string (S t.name), .slice A2 t.args.length c2, .int .i64 t.var] 52 (0, 0)) by rw [hw3, hq5]; exact (MapKept.heap_alloc wr _).1)
      obtain ⟨z0, z1, z2, z3, z4, z5, -⟩ := six_cells6 BK.out
      have r0 := cell_regrown z0; have r1 := cell_regrown z1; have r2 := cell_regrown z2; have r3 := cell_regrown z3; have r4 := cell_regrown z4; have r5 := cell_regrown z5
      have GV := Lib.hid (show RdV w3 (.agg #[.int .i64 t.kind, .string (S t.mod), .string (S t.name), .slice A2 t.args.length c2, .int .i64 t.var]) t from ⟨ho1, A2, c2, rfl, gv.turn (fun b h => Nat.lt_of_lt_of_le h B3.out.size) (fun b o h => C3.out.cell (p := ⟨b, o, none⟩) (Nat.lt_of_lt_of_le h hB.out.size))⟩)
      have cF : ∀ d os, Calls Tryz.prog 28 #[.agg #[.int .i64 t.kind, .string (S t.mod), .string (S t.name), .slice A2 t.args.length c2, .int .i64 t.var]] (Sort.grow (redrawn w3 d) os) fun e w'' => e = .returned (.bool (formedB t)) ∧ ∃ p : Regrown, w'' = Sort.grow (redrawn w3 p.d) p.os :=
        fun d os => Calls.regrown_of (IsFormed_calls t _ _ (GV.out.below (below_regrown w3 d os)))
      clear hp hcs ho1 gv hno hn0 ht z0 z1 z2 z3 z4 z5 hlt hS
      by_cases h3 : i = 0
      · have t3 : decide ((i : Int) > 0) = false := decide_eq_false (by omega)
        have t3b : decide (0 < i) = false := decide_eq_false (by omega)
        have HORD := Lib.hid (show (decide (i = 0) || decide (keyB L (i - 1) < n0)) = true by rw [decide_eq_true h3]; rfl)
        clear h3
        by_cases h1 : n0 < 0
        · have t1 : decide (n0 < 0) = true := decide_eq_true h1
          have HNO := Lib.hid (HNOF.out (by unfold headS; rw [← HN0.out, decide_eq_false (by omega)]; rfl))
          clear h1
          go_wp2_with fail
          rw [← hw3, ← hq5]
          clear hw3 hq5 g0 g1 g2 g3 g4 g5
          refine wp_region_quiet_below (by first | assumption | kernel_rfl) (by kernel_rfl) ?_
          repeat (go_big_quiet_step (fail))
          refine wpQuiet_nil ?_
          intro _ hw'
          obtain ⟨⟨dq, osq⟩, hw''⟩ := hw'
          subst hw''
          have HQ := Lib.hid (show Below w.heap.size w (Sort.grow (redrawn w3 dq) osq) from B3.out.trans ((below_regrown w3 dq osq).mono B3.out.size))
          clear cF r0 r1 r2 r3 r4 r5
          (try clear r6)
          go_wp2
          go_ret
          exact ⟨by rw [HNO.out]; rfl, HQ.out⟩
        · have t1 : decide (n0 < 0) = false := decide_eq_false h1
          by_cases h2 : n0 > 1048576
          · have t2 : decide (n0 > 1048576) = true := decide_eq_true h2
            have HNO := Lib.hid (HNOF.out (by unfold headS; rw [← HN0.out, decide_eq_true (by omega : (0 : Int) ≤ n0), decide_eq_false (by omega : ¬ n0 ≤ 1048576)]; rfl))
            clear h1 h2
            go_wp2_with fail
            rw [← hw3, ← hq5]
            clear hw3 hq5 g0 g1 g2 g3 g4 g5
            refine wp_region_quiet_below (by first | assumption | kernel_rfl) (by kernel_rfl) ?_
            repeat (go_big_quiet_step (fail))
            refine wpQuiet_nil ?_
            intro _ hw'
            obtain ⟨⟨dq, osq⟩, hw''⟩ := hw'
            subst hw''
            have HQ := Lib.hid (show Below w.heap.size w (Sort.grow (redrawn w3 dq) osq) from B3.out.trans ((below_regrown w3 dq osq).mono B3.out.size))
            clear cF r0 r1 r2 r3 r4 r5
            (try clear r6)
            go_wp2
            go_ret
            exact ⟨by rw [HNO.out]; rfl, HQ.out⟩
          · have t2 : decide (n0 > 1048576) = false := decide_eq_false h2
            have HN12 := Lib.hid (show 0 ≤ n0 ∧ n0 ≤ 1048576 by omega)
            clear h1 h2
            have HYES := Lib.hid (show formedB t = true → ¬ (t.kind = 6 ∧ n0 ≤ t.var) → upTo (headP L) (i + 1) = true from fun hf hv => by
              rw [upTo_succ, hU.out, headP, headS, ← HN0.out, ← HTT.out, hf, decide_eq_true HN12.out.1, decide_eq_true HN12.out.2, HORD.out]
              by_cases hk : t.kind = 6
              · rw [decide_eq_false (fun h => hv ⟨hk, h⟩)]; simp
              · rw [show (t.kind == 6) = false by simpa using hk]; rfl)
            cases hff : formedB t with
            | false =>
              rw [hff] at cF
              have HNO := Lib.hid (HNOT.out hff)
              clear hff
              go_wp2_with fail
              rw [← hw3, ← hq5]
              clear hw3 hq5 g0 g1 g2 g3 g4 g5
              refine wp_region_quiet_below (by first | assumption | kernel_rfl) (by kernel_rfl) ?_
              repeat (go_big_quiet_step (first | (go_at_call 28; exact cF _ _)))
              refine wpQuiet_nil ?_
              intro _ hw'
              obtain ⟨⟨dq, osq⟩, hw''⟩ := hw'
              subst hw''
              have HQ := Lib.hid (show Below w.heap.size w (Sort.grow (redrawn w3 dq) osq) from B3.out.trans ((below_regrown w3 dq osq).mono B3.out.size))
              clear cF r0 r1 r2 r3 r4 r5
              (try clear r6)
              go_wp2
              go_ret
              exact ⟨by rw [HNO.out]; rfl, HQ.out⟩
            | true =>
              rw [hff] at cF
              by_cases hk : t.kind = 6
              · have k1 : (t.kind == 6) = true := by simpa using hk
                by_cases hvv : n0 ≤ t.var
                · have k2 : decide (t.var ≥ n0) = true := decide_eq_true hvv
                  have HNO := Lib.hid (HNOV.out hk hvv)
                  clear hff hk hvv
                  go_wp2_with fail
                  rw [← hw3, ← hq5]
                  clear hw3 hq5 g0 g1 g2 g3 g4 g5
                  refine wp_region_quiet_below (by first | assumption | kernel_rfl) (by kernel_rfl) ?_
                  repeat (go_big_quiet_step (first | (go_at_call 28; exact cF _ _)))
                  refine wpQuiet_nil ?_
                  intro _ hw'
                  obtain ⟨⟨dq, osq⟩, hw''⟩ := hw'
                  subst hw''
                  have HQ := Lib.hid (show Below w.heap.size w (Sort.grow (redrawn w3 dq) osq) from B3.out.trans ((below_regrown w3 dq osq).mono B3.out.size))
                  clear cF r0 r1 r2 r3 r4 r5
                  (try clear r6)
                  go_wp2
                  go_ret
                  exact ⟨by rw [HNO.out]; rfl, HQ.out⟩
                · have k2 : decide (t.var ≥ n0) = false := decide_eq_false hvv
                  have HU2 := Lib.hid (HYES.out hff (fun h => hvv h.2))
                  clear hff hk hvv
                  go_wp2_with fail
                  rw [← hw3, ← hq5]
                  clear hw3 hq5 g0 g1 g2 g3 g4 g5
                  refine wp_region_quiet_below (by first | assumption | kernel_rfl) (by kernel_rfl) ?_
                  repeat (go_big_quiet_step (first | (go_at_call 28; exact cF _ _)))
                  refine wpQuiet_nil ?_
                  intro _ hw'
                  obtain ⟨⟨dq, osq⟩, hw''⟩ := hw'
                  subst hw''
                  obtain ⟨W, hW⟩ : ∃ W, W = Sort.grow (redrawn w3 dq) osq := ⟨_, rfl⟩
                  have BW := Lib.hid (show Below w3.heap.size w3 W by rw [hW]; exact below_regrown w3 dq osq)
                  rw [← hW]
                  clear cF r0 r1 r2 r3 r4 r5 hW
                  (try clear r6 j0 j1)
                  (try clear hij)
                  have HSW := Lib.hid (HS3.out.bel BW.out)
                  have mc := cell_of_one HSW.out.blk
                  have kc := (six_cells6 ((BW.out.block q5 (lt_of_block BK.out)).trans BK.out)).1
                  obtain ⟨D, hownD, hD⟩ := HSW.out.own
                  have HOWN := Lib.hid hownD; have HD := Lib.hid hD
                  clear hownD hD
                  have HML := Lib.hid (show ((L.take i).map Prod.fst).length < maxLen by have := HLT.out; simp; unfold maxLen; omega)
                  have HKEY := Lib.hid (Maps.keyOf_int_mk Tryz.underlying3 (wf_i64 (v := n0) (by have := HN12.out.1; omega) (by have := HN12.out.2; omega)))
                  go_wp2_with (at_mapUpdate; refine wpList_mapUpdate_own _ rfl _ _ _ 109 rfl 3 4 intKeys Tryz.underlying109 _ kb _ D rfl HOWN.out HML.out _ _ _ rfl rfl HKEY.out (.held (.bool true)) [] (by rfl) ?_; intro w4 hown4 hg4; have HOWN4 := Lib.hid hown4; have HG4 := Lib.hid hg4; clear hown4 hg4)
                  have HS4 := Lib.hid (show SvIn w2 kb qb w4 ((L.take (i + 1)).map Prod.fst) from by
                    rw [take_key HLT.out, ← HN0.out]
                    exact HSW.out.put HOWN4.out HG4.out HD.out HKQ.out)
                  clear mc kc
                  go_roundw
                  case rel => exact ⟨i + 1, HLT.out, by go_num, HU2, HS4⟩
                  case measure => simp [intOf]; have := HLT.out; omega
              · have k1 : (t.kind == 6) = false := by simpa using hk
                have HU2 := Lib.hid (HYES.out hff (fun h => hk h.1))
                clear hff hk
                go_wp2_with fail
                rw [← hw3, ← hq5]
                clear hw3 hq5 g0 g1 g2 g3 g4 g5
                refine wp_region_quiet_below (by first | assumption | kernel_rfl) (by kernel_rfl) ?_
                repeat (go_big_quiet_step (first | (go_at_call 28; exact cF _ _)))
                refine wpQuiet_nil ?_
                intro _ hw'
                obtain ⟨⟨dq, osq⟩, hw''⟩ := hw'
                subst hw''
                obtain ⟨W, hW⟩ : ∃ W, W = Sort.grow (redrawn w3 dq) osq := ⟨_, rfl⟩
                have BW := Lib.hid (show Below w3.heap.size w3 W by rw [hW]; exact below_regrown w3 dq osq)
                rw [← hW]
                clear cF r0 r1 r2 r3 r4 r5 hW
                (try clear r6 j0 j1)
                (try clear hij)
                have HSW := Lib.hid (HS3.out.bel BW.out)
                have mc := cell_of_one HSW.out.blk
                have kc := (six_cells6 ((BW.out.block q5 (lt_of_block BK.out)).trans BK.out)).1
                obtain ⟨D, hownD, hD⟩ := HSW.out.own
                have HOWN := Lib.hid hownD; have HD := Lib.hid hD
                clear hownD hD
                have HML := Lib.hid (show ((L.take i).map Prod.fst).length < maxLen by have := HLT.out; simp; unfold maxLen; omega)
                have HKEY := Lib.hid (Maps.keyOf_int_mk Tryz.underlying3 (wf_i64 (v := n0) (by have := HN12.out.1; omega) (by have := HN12.out.2; omega)))
                go_wp2_with (at_mapUpdate; refine wpList_mapUpdate_own _ rfl _ _ _ 109 rfl 3 4 intKeys Tryz.underlying109 _ kb _ D rfl HOWN.out HML.out _ _ _ rfl rfl HKEY.out (.held (.bool true)) [] (by rfl) ?_; intro w4 hown4 hg4; have HOWN4 := Lib.hid hown4; have HG4 := Lib.hid hg4; clear hown4 hg4)
                have HS4 := Lib.hid (show SvIn w2 kb qb w4 ((L.take (i + 1)).map Prod.fst) from by
                  rw [take_key HLT.out, ← HN0.out]
                  exact HSW.out.put HOWN4.out HG4.out HD.out HKQ.out)
                clear mc kc
                go_roundw
                case rel => exact ⟨i + 1, HLT.out, by go_num, HU2, HS4⟩
                case measure => simp [intOf]; have := HLT.out; omega
      · have t3 : decide ((i : Int) > 0) = true := decide_eq_true (by omega)
        have t3b : decide (0 < i) = true := decide_eq_true (by omega)
        obtain ⟨j, hj⟩ : ∃ j, i = j + 1 := ⟨i - 1, by omega⟩
        have hjl : j < L.length := by have := HLT.out; omega
        obtain ⟨A3, c3, -, hcj⟩ := HP.out j hjl
        obtain ⟨y0, -⟩ := hcj w3 B3.out
        obtain ⟨pv, hpv⟩ : ∃ z, z = keyB L j := ⟨_, rfl⟩
        rw [← hpv] at y0
        have HPV := Lib.hid (show pv = keyB L (i - 1) by rw [hpv, hj]; rfl)
        have r6 := cell_regrown y0
        have j0 : (0 : Int) ≤ (j : Int) := by omega
        have j1 : (j : Int) < (L.length : Int) := by omega
        have hij : (i : Int) - 1 = (j : Int) := by omega
        clear hpv y0 hj hjl hcj
        by_cases h4 : pv ≥ n0
        · have t4 : decide (pv ≥ n0) = true := decide_eq_true h4
          have HNO := Lib.hid (HNOF.out (by unfold headS; rw [← HN0.out, ← HPV.out, decide_eq_false h3, decide_eq_false (by omega : ¬ pv < n0)]; simp))
          clear h3 h4
          go_wp2_with fail
          rw [← hw3, ← hq5]
          clear hw3 hq5 g0 g1 g2 g3 g4 g5
          refine wp_region_quiet_below (by first | assumption | kernel_rfl) (by kernel_rfl) ?_
          repeat (go_big_quiet_step (fail))
          refine wpQuiet_nil ?_
          intro _ hw'
          obtain ⟨⟨dq, osq⟩, hw''⟩ := hw'
          subst hw''
          have HQ := Lib.hid (show Below w.heap.size w (Sort.grow (redrawn w3 dq) osq) from B3.out.trans ((below_regrown w3 dq osq).mono B3.out.size))
          clear cF r0 r1 r2 r3 r4 r5
          (try clear r6)
          go_wp2
          go_ret
          exact ⟨by rw [HNO.out]; rfl, HQ.out⟩
        · have t4 : decide (pv ≥ n0) = false := decide_eq_false h4
          have HORD := Lib.hid (show (decide (i = 0) || decide (keyB L (i - 1) < n0)) = true by rw [← HPV.out, decide_eq_true (by omega : pv < n0)]; simp)
          clear h3 h4
          by_cases h1 : n0 < 0
          · have t1 : decide (n0 < 0) = true := decide_eq_true h1
            have HNO := Lib.hid (HNOF.out (by unfold headS; rw [← HN0.out, decide_eq_false (by omega)]; rfl))
            clear h1
            go_wp2_with fail
            rw [← hw3, ← hq5]
            clear hw3 hq5 g0 g1 g2 g3 g4 g5
            refine wp_region_quiet_below (by first | assumption | kernel_rfl) (by kernel_rfl) ?_
            repeat (go_big_quiet_step (fail))
            refine wpQuiet_nil ?_
            intro _ hw'
            obtain ⟨⟨dq, osq⟩, hw''⟩ := hw'
            subst hw''
            have HQ := Lib.hid (show Below w.heap.size w (Sort.grow (redrawn w3 dq) osq) from B3.out.trans ((below_regrown w3 dq osq).mono B3.out.size))
            clear cF r0 r1 r2 r3 r4 r5
            (try clear r6)
            go_wp2
            go_ret
            exact ⟨by rw [HNO.out]; rfl, HQ.out⟩
          · have t1 : decide (n0 < 0) = false := decide_eq_false h1
            by_cases h2 : n0 > 1048576
            · have t2 : decide (n0 > 1048576) = true := decide_eq_true h2
              have HNO := Lib.hid (HNOF.out (by unfold headS; rw [← HN0.out, decide_eq_true (by omega : (0 : Int) ≤ n0), decide_eq_false (by omega : ¬ n0 ≤ 1048576)]; rfl))
              clear h1 h2
              go_wp2_with fail
              rw [← hw3, ← hq5]
              clear hw3 hq5 g0 g1 g2 g3 g4 g5
              refine wp_region_quiet_below (by first | assumption | kernel_rfl) (by kernel_rfl) ?_
              repeat (go_big_quiet_step (fail))
              refine wpQuiet_nil ?_
              intro _ hw'
              obtain ⟨⟨dq, osq⟩, hw''⟩ := hw'
              subst hw''
              have HQ := Lib.hid (show Below w.heap.size w (Sort.grow (redrawn w3 dq) osq) from B3.out.trans ((below_regrown w3 dq osq).mono B3.out.size))
              clear cF r0 r1 r2 r3 r4 r5
              (try clear r6)
              go_wp2
              go_ret
              exact ⟨by rw [HNO.out]; rfl, HQ.out⟩
            · have t2 : decide (n0 > 1048576) = false := decide_eq_false h2
              have HN12 := Lib.hid (show 0 ≤ n0 ∧ n0 ≤ 1048576 by omega)
              clear h1 h2
              have HYES := Lib.hid (show formedB t = true → ¬ (t.kind = 6 ∧ n0 ≤ t.var) → upTo (headP L) (i + 1) = true from fun hf hv => by
                rw [upTo_succ, hU.out, headP, headS, ← HN0.out, ← HTT.out, hf, decide_eq_true HN12.out.1, decide_eq_true HN12.out.2, HORD.out]
                by_cases hk : t.kind = 6
                · rw [decide_eq_false (fun h => hv ⟨hk, h⟩)]; simp
                · rw [show (t.kind == 6) = false by simpa using hk]; rfl)
              cases hff : formedB t with
              | false =>
                rw [hff] at cF
                have HNO := Lib.hid (HNOT.out hff)
                clear hff
                go_wp2_with fail
                rw [← hw3, ← hq5]
                clear hw3 hq5 g0 g1 g2 g3 g4 g5
                refine wp_region_quiet_below (by first | assumption | kernel_rfl) (by kernel_rfl) ?_
                repeat (go_big_quiet_step (first | (go_at_call 28; exact cF _ _)))
                refine wpQuiet_nil ?_
                intro _ hw'
                obtain ⟨⟨dq, osq⟩, hw''⟩ := hw'
                subst hw''
                have HQ := Lib.hid (show Below w.heap.size w (Sort.grow (redrawn w3 dq) osq) from B3.out.trans ((below_regrown w3 dq osq).mono B3.out.size))
                clear cF r0 r1 r2 r3 r4 r5
                (try clear r6)
                go_wp2
                go_ret
                exact ⟨by rw [HNO.out]; rfl, HQ.out⟩
              | true =>
                rw [hff] at cF
                by_cases hk : t.kind = 6
                · have k1 : (t.kind == 6) = true := by simpa using hk
                  by_cases hvv : n0 ≤ t.var
                  · have k2 : decide (t.var ≥ n0) = true := decide_eq_true hvv
                    have HNO := Lib.hid (HNOV.out hk hvv)
                    clear hff hk hvv
                    go_wp2_with fail
                    rw [← hw3, ← hq5]
                    clear hw3 hq5 g0 g1 g2 g3 g4 g5
                    refine wp_region_quiet_below (by first | assumption | kernel_rfl) (by kernel_rfl) ?_
                    repeat (go_big_quiet_step (first | (go_at_call 28; exact cF _ _)))
                    refine wpQuiet_nil ?_
                    intro _ hw'
                    obtain ⟨⟨dq, osq⟩, hw''⟩ := hw'
                    subst hw''
                    have HQ := Lib.hid (show Below w.heap.size w (Sort.grow (redrawn w3 dq) osq) from B3.out.trans ((below_regrown w3 dq osq).mono B3.out.size))
                    clear cF r0 r1 r2 r3 r4 r5
                    (try clear r6)
                    go_wp2
                    go_ret
                    exact ⟨by rw [HNO.out]; rfl, HQ.out⟩
                  · have k2 : decide (t.var ≥ n0) = false := decide_eq_false hvv
                    have HU2 := Lib.hid (HYES.out hff (fun h => hvv h.2))
                    clear hff hk hvv
                    go_wp2_with fail
                    rw [← hw3, ← hq5]
                    clear hw3 hq5 g0 g1 g2 g3 g4 g5
                    refine wp_region_quiet_below (by first | assumption | kernel_rfl) (by kernel_rfl) ?_
                    repeat (go_big_quiet_step (first | (go_at_call 28; exact cF _ _)))
                    refine wpQuiet_nil ?_
                    intro _ hw'
                    obtain ⟨⟨dq, osq⟩, hw''⟩ := hw'
                    subst hw''
                    obtain ⟨W, hW⟩ : ∃ W, W = Sort.grow (redrawn w3 dq) osq := ⟨_, rfl⟩
                    have BW := Lib.hid (show Below w3.heap.size w3 W by rw [hW]; exact below_regrown w3 dq osq)
                    rw [← hW]
                    clear cF r0 r1 r2 r3 r4 r5 hW
                    (try clear r6 j0 j1)
                    (try clear hij)
                    have HSW := Lib.hid (HS3.out.bel BW.out)
                    have mc := cell_of_one HSW.out.blk
                    have kc := (six_cells6 ((BW.out.block q5 (lt_of_block BK.out)).trans BK.out)).1
                    obtain ⟨D, hownD, hD⟩ := HSW.out.own
                    have HOWN := Lib.hid hownD; have HD := Lib.hid hD
                    clear hownD hD
                    have HML := Lib.hid (show ((L.take i).map Prod.fst).length < maxLen by have := HLT.out; simp; unfold maxLen; omega)
                    have HKEY := Lib.hid (Maps.keyOf_int_mk Tryz.underlying3 (wf_i64 (v := n0) (by have := HN12.out.1; omega) (by have := HN12.out.2; omega)))
                    go_wp2_with (at_mapUpdate; refine wpList_mapUpdate_own _ rfl _ _ _ 109 rfl 3 4 intKeys Tryz.underlying109 _ kb _ D rfl HOWN.out HML.out _ _ _ rfl rfl HKEY.out (.held (.bool true)) [] (by rfl) ?_; intro w4 hown4 hg4; have HOWN4 := Lib.hid hown4; have HG4 := Lib.hid hg4; clear hown4 hg4)
                    have HS4 := Lib.hid (show SvIn w2 kb qb w4 ((L.take (i + 1)).map Prod.fst) from by
                      rw [take_key HLT.out, ← HN0.out]
                      exact HSW.out.put HOWN4.out HG4.out HD.out HKQ.out)
                    clear mc kc
                    go_roundw
                    case rel => exact ⟨i + 1, HLT.out, by go_num, HU2, HS4⟩
                    case measure => simp [intOf]; have := HLT.out; omega
                · have k1 : (t.kind == 6) = false := by simpa using hk
                  have HU2 := Lib.hid (HYES.out hff (fun h => hk h.1))
                  clear hff hk
                  go_wp2_with fail
                  rw [← hw3, ← hq5]
                  clear hw3 hq5 g0 g1 g2 g3 g4 g5
                  refine wp_region_quiet_below (by first | assumption | kernel_rfl) (by kernel_rfl) ?_
                  repeat (go_big_quiet_step (first | (go_at_call 28; exact cF _ _)))
                  refine wpQuiet_nil ?_
                  intro _ hw'
                  obtain ⟨⟨dq, osq⟩, hw''⟩ := hw'
                  subst hw''
                  obtain ⟨W, hW⟩ : ∃ W, W = Sort.grow (redrawn w3 dq) osq := ⟨_, rfl⟩
                  have BW := Lib.hid (show Below w3.heap.size w3 W by rw [hW]; exact below_regrown w3 dq osq)
                  rw [← hW]
                  clear cF r0 r1 r2 r3 r4 r5 hW
                  (try clear r6 j0 j1)
                  (try clear hij)
                  have HSW := Lib.hid (HS3.out.bel BW.out)
                  have mc := cell_of_one HSW.out.blk
                  have kc := (six_cells6 ((BW.out.block q5 (lt_of_block BK.out)).trans BK.out)).1
                  obtain ⟨D, hownD, hD⟩ := HSW.out.own
                  have HOWN := Lib.hid hownD; have HD := Lib.hid hD
                  clear hownD hD
                  have HML := Lib.hid (show ((L.take i).map Prod.fst).length < maxLen by have := HLT.out; simp; unfold maxLen; omega)
                  have HKEY := Lib.hid (Maps.keyOf_int_mk Tryz.underlying3 (wf_i64 (v := n0) (by have := HN12.out.1; omega) (by have := HN12.out.2; omega)))
                  go_wp2_with (at_mapUpdate; refine wpList_mapUpdate_own _ rfl _ _ _ 109 rfl 3 4 intKeys Tryz.underlying109 _ kb _ D rfl HOWN.out HML.out _ _ _ rfl rfl HKEY.out (.held (.bool true)) [] (by rfl) ?_; intro w4 hown4 hg4; have HOWN4 := Lib.hid hown4; have HG4 := Lib.hid hg4; clear hown4 hg4)
                  have HS4 := Lib.hid (show SvIn w2 kb qb w4 ((L.take (i + 1)).map Prod.fst) from by
                    rw [take_key HLT.out, ← HN0.out]
                    exact HSW.out.put HOWN4.out HG4.out HD.out HKQ.out)
                  clear mc kc
                  go_roundw
                  case rel => exact ⟨i + 1, HLT.out, by go_num, HU2, HS4⟩
                  case measure => simp [intOf]; have := HLT.out; omega
    · obtain rfl : i = L.length := by omega
      have lt1 : ¬ ((L.length : Int) < (L.length : Int)) := by omega
      have HUP := Lib.hid hU.out
      clear hlt hi
      have HFO := Lib.hid (show ∀ i, i < L.length → formedB (typB L i) = true ∧ ((typB L i).kind == 6 && decide (keyB L i ≤ (typB L i).var)) = false from fun i hi => by
        have h := upTo_at HUP.out i hi
        unfold headP headS at h
        simp only [Bool.and_eq_true, Bool.not_eq_true'] at h
        exact ⟨h.1.2, h.2⟩)
      have HS1 := Lib.hid (show SvIn w2 kb qb wr (L.map Prod.fst) from by have h := hS.out; rw [List.take_length] at h; exact h)
      clear hS
      go_wp2_with fail
      go_loopw [68] (fun iv wr => ∃ (i : Nat), i ≤ L.length ∧ iv = .int .i64 (i : Int) ∧ Hid (upTo (tailS L) i = true) ∧ Hid (SvIn w2 kb qb wr (L.map Prod.fst))) (fun iv _ => L.length - (intOf iv).toNat)
      case atStart => exact ⟨0, Nat.zero_le _, rfl, Lib.hid rfl, HS1⟩
      case round =>
        clear HS1 hB hU
        obtain ⟨i, hi, rfl, hT, hS⟩ := hrel
        have hB := Lib.hid (hS.out.belw HB2.out HKW.out)
        by_cases hlt : i < L.length
        · obtain ⟨b, off, rfl, hp⟩ := pair_in HV.out (by omega)
          obtain ⟨A2, c2, ho1, hcs⟩ := hp i hlt
          obtain ⟨g0, g1, g2, g3, g4, g5, gv⟩ := hcs wr hB.out
          obtain ⟨hfo, hfv⟩ := HFO.out i hlt
          have HNOF := Lib.hid (show bndT L (typB L i) = true → R = false from fun h => by
            rw [HRR.out, solvedB, upTo_false (f := tailS L) hlt (by unfold tailS; rw [h]; rfl), Bool.and_false])
          have HYES := Lib.hid (show bndT L (typB L i) = false → upTo (tailS L) (i + 1) = true from fun h => by
            rw [upTo_succ, hT.out, tailS, h, hfv]; rfl)
          obtain ⟨n0, hn0⟩ : ∃ z, z = keyB L i := ⟨_, rfl⟩
          obtain ⟨t, ht⟩ : ∃ t, t = typB L i := ⟨_, rfl⟩
          rw [← hn0] at g0
          rw [← ht] at g1 g2 g3 g4 g5 gv ho1 hfo HNOF HYES
          have i0 : (0 : Int) ≤ (i : Int) := by omega
          have i1 : (i : Int) < (L.length : Int) := by omega
          have HLT := Lib.hid hlt
          obtain ⟨w3, hw3⟩ : ∃ w3, w3 = wr.alloc (.cells #[.int .i64 n0, .int .i64 t.kind, .string (S t.mod), .string (S t.name), .slice A2 t.args.length c2, .int .i64 t.var] 52) := ⟨_, rfl⟩
          have C3 := Lib.hid (show Below wr.heap.size wr w3 by rw [hw3]; exact bel_alloc (Below.refl _ _) _)
          have B3 := Lib.hid (show Below w.heap.size w w3 from hB.out.trans (C3.out.mono hB.out.size))
          have HS3 := Lib.hid (hS.out.bel C3.out)
          have HPT := Lib.hid (formed_few hfo)
          have hvc := vars_calls t w3 w.heap.size none 0 _ [] (OwnI.nil _ _) ⟨ho1, A2, c2, rfl, gv.turn (fun b h => h) (fun b o h => C3.out.cell (p := ⟨b, o, none⟩) (Nat.lt_of_lt_of_le h hB.out.size))⟩ B3.out.size (by have := HPT.out; simp; omega)
          unfold tyV at hvc
          simp only [List.length_nil] at hvc
          obtain ⟨l, hl0⟩ : ∃ l, l = varsT t [] := ⟨_, rfl⟩
          have HAN := Lib.hid (show l.any (fun v => (L.map Prod.fst).contains v) = bndT L t by
            rw [hl0, ← any_bnd (formed_cln hfo)]
            congr 1
            funext v
            exact keys_has L v)
          have HRG := Lib.hid (show ∀ v ∈ l, InV v from fun v hv => (vars_all t).2 (formed_all hfo) v (by rw [← hl0]; exact hv))
          have HLL := Lib.hid (show l.length ≤ 4000 by have h := (varsT_len t []).2; have := HPT.out; rw [hl0]; simp at h; omega)
          rw [← hl0] at hvc
          clear hp hcs ho1 gv hn0 ht hlt hS hfo hfv hl0
          go_wp2_with fail
          rw [← hw3]
          clear hw3 g0 g1 g2 g3 g4 g5
          refine hvc.mono ?_
          rintro e w4 ⟨A4, c4, rfl, hown4, hT4, how4⟩
          have hb4 : Below w3.heap.size w3 w4 := hT4.below (Nat.le_refl _) (fun z h => by simp [Value.ownBlock] at h)
          have HS4 := Lib.hid (HS3.out.bel hb4)
          have HQ := Lib.hid (show Below w.heap.size w w4 from B3.out.trans (hb4.mono B3.out.size))
          obtain ⟨D, hownD, hD⟩ := HS4.out.own
          have hcf := ContainsFuncI hown4 (by have := HLL.out; omega) (p := fun v => (L.map Prod.fst).contains v) (g := 72) (cb := #[.pointer (some ⟨qb, 0, none⟩)]) ⟨isf_enters, fun v hv => isf_calls v (HRG.out v hv).1 (HRG.out v hv).2 (cell_of_one HS4.out.blk) hownD hD⟩
          rw [HAN.out] at hcf
          clear hvc hown4 hT4 how4 hb4 hownD hD
          cases hbn : bndT L t with
          | true =>
            rw [hbn] at hcf
            have HNO := Lib.hid (HNOF.out hbn)
            clear hbn
            go_wp2_with fail
            refine hcf.mono ?_
            rintro e w5 ⟨rfl, hw5⟩
            have hw6 := hw5.symm
            subst hw6
            clear hw5 hcf
            go_wp2
            go_ret
            exact ⟨by rw [HNO.out]; rfl, HQ.out⟩
          | false =>
            rw [hbn] at hcf
            have HU2 := Lib.hid (HYES.out hbn)
            clear hbn
            go_wp2_with fail
            refine hcf.mono ?_
            rintro e w5 ⟨rfl, hw5⟩
            have hw6 := hw5.symm
            subst hw6
            clear hw5 hcf
            go_wp2
            go_roundw
            case rel => exact ⟨i + 1, HLT.out, by go_num, HU2, HS4⟩
            case measure => simp [intOf]; have := HLT.out; omega
        · obtain rfl : i = L.length := by omega
          have HO := Lib.hid (show R = true from by
            rw [HRR.out, solvedB, hT.out, Bool.and_true]
            refine List.all_eq_true.2 fun i hi => ?_
            have h := upTo_at HUP.out i (List.mem_range.1 hi)
            unfold headP at h
            rw [Bool.and_eq_true] at h
            exact h.1)
          clear hlt
          go_wp2
          go_ret
          exact ⟨by rw [HO.out]; rfl, hB.out⟩

end Go.Proofs.YtplnfepdikbpfaaGreatDoor
