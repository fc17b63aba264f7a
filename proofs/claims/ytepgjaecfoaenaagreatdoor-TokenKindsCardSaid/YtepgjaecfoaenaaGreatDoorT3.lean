/- The law TokenParts. -/
import Derived.Test.YtepgjaecfoaenaaGreatDoorT2
import Derived.BigFrame
import Derived.Lib.QuietBelow
import Derived.BigQuiet
namespace Go.Proofs.YtepgjaecfoaenaaGreatDoor
open Go.RowKit
set_option linter.unusedVariables false
set_option linter.unusedSimpArgs false

def lexR (l : List UInt8) : List Tok × Int := if 20000 < l.length then ([], 3) else (lex l, 0)
theorem Lex_any (l : List UInt8) (w : World) (hs : l.length ≤ 9223372036854775000) :
    Calls Tryz.prog 23 #[.string (S l)] w (LexPost w (lexR l).1 (lexR l).2) := by
  unfold lexR
  by_cases h : 20000 < l.length
  · rw [if_pos h]; exact Lex_long l w h hs
  · rw [if_neg h]; exact Lex_calls l w (by omega)
theorem lexR_len (l : List UInt8) : (lexR l).1.length ≤ 20000 := by
  unfold lexR
  by_cases h : 20000 < l.length
  · rw [if_pos h]; simp
  · rw [if_neg h]; have := lex_length l; show (lex l).length ≤ 20000; omega

theorem tokCells_at (us : List Tok) (j : Nat) (u : Value) (h : (tokCells us)[j]? = some u) : ∃ k, k < us.length ∧ (j = k * 2 ∧ u = .int .i64 (tokAt us k).kind ∨ j = k * 2 + 1 ∧ u = .string (S (tokAt us k).text)) := by
  have hj : j < (tokCells us).length := by
    rcases Nat.lt_or_ge j (tokCells us).length with h' | h'
    · exact h'
    · rw [List.getElem?_eq_none h'] at h; cases h
  rw [tokCells_length] at hj
  refine ⟨j / 2, by omega, ?_⟩
  have hc := tokAt_cell us (j / 2) (by omega)
  rcases Nat.mod_two_eq_zero_or_one j with h2 | h2
  · left
    have e : j / 2 * 2 = j := by omega
    rw [e] at hc
    exact ⟨by omega, by rw [h] at hc; exact Option.some.inj hc.1⟩
  · right
    have e : j / 2 * 2 + 1 = j := by omega
    rw [e] at hc
    exact ⟨by omega, by rw [h] at hc; exact Option.some.inj hc.2⟩
theorem tokCells_one (us : List Tok) : ∀ u ∈ tokCells us, u.oneCell' = true := by
  intro u hu
  obtain ⟨t, _, hu⟩ := List.mem_flatMap.1 hu
  simp at hu
  rcases hu with rfl | rfl <;> rfl

/-- Tokens that lie somewhere are put behind tokens of the call's own. -/
theorem toks_append {ops : Array Oper} {rest : List Oper} {o : Oper} {a : Act} {Q : Exit → Act → World → Prop} {W : World} (w0 : World) (base : Nat) (hw : Region.wanted o (yielded ops a.tmps) = true) (s x : Operand)
    (ho : o.op = .call { callee := .builtin .append, args := #[s, x], argTypes := #[37, 37] })
    (v : Value) (ts us : List Tok) (m : Nat) (hm : us.length = m) (hs : a.eval s = v) (b off c : Nat) (hx : a.eval x = .slice (some ⟨b, off, none⟩) m c)
    (hus : ∀ k, k < us.length → W.cell? ⟨b, off + k * 2, none⟩ = some (.int .i64 (tokAt us k).kind) ∧ W.cell? ⟨b, off + k * 2 + 1, none⟩ = some (.string (S (tokAt us k).text)))
    (HO : OwnT W base v ts) (HB : Below base w0 W) (hbase : base ≤ W.heap.size) (hl : ts.length + us.length ≤ 1000000)
    (h : ∀ v1 w1, OwnT w1 base v1 (ts ++ us) → Below base w0 w1 → wpList Tryz.prog ops Q rest (a.put o.dst v1) w1) :
    wpList Tryz.prog ops Q (o :: rest) a W := by
  subst hm
  obtain ⟨i0, hi, hzz⟩ := Option.map_eq_some_iff.1 infoTok
  simp only [Prod.mk.injEq] at hzz
  obtain ⟨hz0, hz1, hz2⟩ := hzz
  refine BigFrame.wpList_want hw fun K hK => ?_
  refine wp_append_own W s x 37 ho base 23 i0 _ 2 24 Tryz.underlying37 hi hz0 hz1 hz2 rfl (by decide) v ts.length (tokCells ts) hs HO ⟨b, off, none⟩ us.length c (tokCells us) hx (tokCells_length us)
    ?_ (tokCells_one us) (by simp only [maxLen]; omega) (by omega) hbase ?_
  · intro j u hj
    obtain ⟨k, hk, ⟨rfl, rfl⟩ | ⟨rfl, rfl⟩⟩ := tokCells_at us j u hj
    · have ha : (⟨b, off, none⟩ : Addr).add (k * 2) = ⟨b, off + k * 2, none⟩ := by unfold Addr.add; split <;> simp_all
      rw [ha]; exact (hus k hk).1
    · have ha : (⟨b, off, none⟩ : Addr).add (k * 2 + 1) = ⟨b, off + k * 2 + 1, none⟩ := by unfold Addr.add; split <;> simp_all [Nat.add_assoc]
      rw [ha]; exact (hus k hk).2
  · intro v1 w1 hown hg _
    refine hK _ _ (h v1 w1 ?_ (HB.grown hg hbase (own_base HO)))
    unfold OwnT
    rw [tokCells_append, List.length_append]
    exact hown

theorem lexR_ok {l : List UInt8} (h : l.length ≤ 20000) : lexR l = (lex l, 0) := by unfold lexR; rw [if_neg (by omega)]

theorem tokAt_split (ts : List Tok) (n : Nat) (h : ts.length = n + 1) : ts = ts.take n ++ [tokAt ts n] := by
  have e := take_tok ts n (by omega)
  rw [← e, ← h, List.take_length]
theorem tokAt_head (us : List Tok) (h : 0 < us.length) : us = tokAt us 0 :: us.tail := by
  cases us with
  | nil => simp at h
  | cons u us => rfl
theorem apart_are {t u : Tok} (h : apartB t u = true) : areB [t, u] = true := by
  unfold apartB at h; simp only [Bool.and_eq_true] at h; exact h.2
theorem parts_law (a b : List UInt8) (n : Nat) (ts us : List Tok) (hT : ts = lex a) (hU : us = lex b) (h : ts.length = n + 1) (h0 : 0 < us.length) (ha : apartB (tokAt ts n) (tokAt us 0) = true) : lex (a ++ b) = ts ++ us := by
  have e1 := tokAt_split ts n h
  have e2 := tokAt_head us h0
  rw [lex_parts a b (ts.take n) us.tail (tokAt ts n) (tokAt us 0) (by rw [← hT]; exact e1) (by rw [← hU]; exact e2) (apart_are ha), ← e1, ← e2]

set_option maxRecDepth 100000 in
set_option maxHeartbeats 4000000 in
theorem Parts_calls (l r : List UInt8) (w : World) (hs : l.length ≤ 9223372036854775000) (hr : r.length ≤ 9223372036854775000) :
    Calls Tryz.prog 8 #[.string (S l), .string (S r)] w fun e w' => e = .returned (.bool true) ∧ Below w.heap.size w w' := by
  obtain ⟨a, hA⟩ : ∃ a, a = l.take 20001 := ⟨_, rfl⟩
  obtain ⟨b, hB⟩ : ∃ b, b = r.take 20001 := ⟨_, rfl⟩
  have la : a.length ≤ 20001 := by rw [hA, List.length_take]; omega
  have lb : b.length ≤ 20001 := by rw [hB, List.length_take]; omega
  have HA := Lib.hid hA; have HB := Lib.hid hB; clear hA hB
  go_enter Tryz.func8, Tryz.ntmps8
  go_wp2_with fail
  refine (Short_calls l w (by omega)).mono ?_
  rw [← HA.out]
  rintro e w1 ⟨rfl, hb1⟩
  go_wp2_with fail
  refine (Short_calls r w1 (by omega)).mono ?_
  rw [← HB.out]
  rintro e w2 ⟨rfl, hb2⟩
  go_wp2_with fail
  refine (Lex_any a w2 (by omega)).mono ?_
  rintro e w3 ⟨v, rfl, hown, hb3⟩
  go_wp2_with fail
  refine (Lex_any b w3 (by omega)).mono ?_
  rintro e w4 ⟨u, rfl, hown2, hb4⟩
  have hbl : Below w.heap.size w w4 := bel_then (bel_then (bel_then hb1 hb2) hb3) hb4
  have hx : ReadT w4 v (lexR a).1 := (hown.read (by have := lexR_len a; omega)).below hb4
  have hy : ReadT w4 u (lexR b).1 := hown2.read (by have := lexR_len b; omega)
  clear hown hown2 hb1 hb2 hb3 hb4
  have mx := lexR_len a
  have my := lexR_len b
  obtain ⟨ts, hts⟩ : ∃ ts, ts = (lexR a).1 := ⟨_, rfl⟩
  obtain ⟨er, her⟩ : ∃ er, er = (lexR a).2 := ⟨_, rfl⟩
  obtain ⟨us, hus⟩ : ∃ us, us = (lexR b).1 := ⟨_, rfl⟩
  obtain ⟨fr, hfr⟩ : ∃ fr, fr = (lexR b).2 := ⟨_, rfl⟩
  rw [← hts] at hx mx
  rw [← hus] at hy my
  rw [← her, ← hfr]
  have HT := Lib.hid hts; have HE := Lib.hid her; have HU := Lib.hid hus; have HF := Lib.hid hfr
  clear hts her hus hfr
  obtain ⟨X, cx, rfl, hlx, hcx⟩ := hx
  obtain ⟨Y, cy, rfl, hly, hcy⟩ := hy
  have HX := Lib.hid hcx; have HY := Lib.hid hcy; clear hcx hcy
  have key : (er != 0) = true ∨ ((er != 0) = false ∧ (fr != 0) = true) ∨ ((er != 0) = false ∧ (fr != 0) = false ∧ ((ts.length : Int) == 0) = true) ∨ ((er != 0) = false ∧ (fr != 0) = false ∧ ((ts.length : Int) == 0) = false ∧ ((us.length : Int) == 0) = true)
      ∨ ((er != 0) = false ∧ (fr != 0) = false ∧ ((ts.length : Int) == 0) = false ∧ ((us.length : Int) == 0) = false ∧ decide ((a.length : Int) + (b.length : Int) > 20000) = true)
      ∨ ((er != 0) = false ∧ (fr != 0) = false ∧ ((ts.length : Int) == 0) = false ∧ ((us.length : Int) == 0) = false ∧ decide ((a.length : Int) + (b.length : Int) > 20000) = false) := by
    cases (er != 0) <;> cases (fr != 0) <;> cases ((ts.length : Int) == 0) <;> cases ((us.length : Int) == 0) <;> cases decide ((a.length : Int) + (b.length : Int) > 20000) <;> simp
  have esum : IntKind.i64.wrap ((a.length : Int) + (b.length : Int)) = (a.length : Int) + (b.length : Int) := wrapI _ (by omega)
  rcases key with k1 | ⟨k1, k2⟩ | ⟨k1, k2, k3⟩ | ⟨k1, k2, k3, k4⟩ | ⟨k1, k2, k3, k4, k5⟩ | ⟨k1, k2, k3, k4, k5⟩
  case inr.inr.inr.inr.inr =>
    have hts0 : 0 < ts.length := by simp at k3; exact List.length_pos_iff.2 k3
    have hus0 : 0 < us.length := by simp at k4; exact List.length_pos_iff.2 k4
    have hsum : a.length + b.length ≤ 20000 := by simp at k5; omega
    obtain ⟨bx, ox, rfl, hbx, hcx⟩ := HX.out hts0
    obtain ⟨bY, oy, rfl, hby, hcy⟩ := HY.out hus0
    obtain ⟨n, hn⟩ : ∃ n, ts.length = n + 1 := ⟨ts.length - 1, by omega⟩
    have LAW := Lib.hid (fun h => parts_law a b n ts us (by rw [HT.out, lexR_ok (l := a) (by omega)]) (by rw [HU.out, lexR_ok (l := b) (by omega)]) hn hus0 h)
    have cx0 := (hcx n (by omega)).1
    have cx1 := (hcx n (by omega)).2
    have cy0 := (hcy 0 (by omega)).1
    have cy1 := (hcy 0 (by omega)).2
    have HCX := Lib.hid hcx; have HCY := Lib.hid hcy
    have HN := Lib.hid hn
    rw [hn] at k3 mx
    have n0 : (0 : Int) ≤ (n : Int) := by omega
    have n1 : (n : Int) < ((n + 1 : Nat) : Int) := by omega
    have n2 : IntKind.i64.wrap (n : Int) = (n : Int) := wrapI _ (by omega)
    rw [HN.out]
    clear hn hcx hcy hlx hly HX HY hts0
    go_wp2_with fail
    obtain ⟨lt, hlt⟩ : ∃ lt, lt = tokAt ts n := ⟨_, rfl⟩
    obtain ⟨yt, hyt⟩ : ∃ yt, yt = tokAt us 0 := ⟨_, rfl⟩
    rw [← hlt] at cx0 cx1 LAW ⊢
    rw [← hyt] at cy0 cy1 LAW
    clear hlt hyt
    obtain ⟨wq, hwq⟩ : ∃ wq, wq = w4.alloc (.cells #[.int .i64 lt.kind, .string (S lt.text)] 23) := ⟨_, rfl⟩
    rw [← hwq]
    have hbq : Below w4.heap.size w4 wq := by rw [hwq]; exact bel_alloc (Below.refl _ _) _
    have a0 : wq.cell? ⟨w4.heap.size, 0, none⟩ = some (.int .i64 lt.kind) := by rw [hwq]; simp
    have a1 : wq.cell? ⟨w4.heap.size, 1, none⟩ = some (.string (S lt.text)) := by rw [hwq]; simp
    clear hwq
    have y0 : wq.cell? ⟨bY, oy, none⟩ = some (.int .i64 yt.kind) := by rw [hbq.cell (p := ⟨bY, _, none⟩) hby]; simpa using cy0
    have y1 : wq.cell? ⟨bY, oy + 1, none⟩ = some (.string (S yt.text)) := by rw [hbq.cell (p := ⟨bY, _, none⟩) hby]; simpa using cy1
    have r0 := cell_regrown a0
    have r1 := cell_regrown a1
    have r2 := cell_regrown y0
    have r3 := cell_regrown y1
    clear cx0 cx1 cy0 cy1
    have z1 : (0 : Int) < (us.length : Int) := by omega
    have cA : ∀ d os, Calls Tryz.prog 26 #[.agg #[.int .i64 lt.kind, .string (S lt.text)], .agg #[.int .i64 yt.kind, .string (S yt.text)]] (Sort.grow (redrawn wq d) os) fun e w'' => e = .returned (.bool (apartB lt yt)) ∧ ∃ p : Regrown, w'' = Sort.grow (redrawn wq p.d) p.os :=
      fun d os => Calls.regrown_of (Apart_calls lt yt _)
    have c2 : (lt.kind == 2) = true ∨ ((lt.kind == 2) = false ∧ (lt.kind == 8) = true) ∨ ((lt.kind == 2) = false ∧ (lt.kind == 8) = false ∧ apartB lt yt = false) ∨ ((lt.kind == 2) = false ∧ (lt.kind == 8) = false ∧ apartB lt yt = true) := by
      cases (lt.kind == 2) <;> cases (lt.kind == 8) <;> cases apartB lt yt <;> simp
    rcases c2 with g1 | ⟨g1, g2⟩ | ⟨g1, g2, g3⟩ | ⟨g1, g2, g3⟩
    case inr.inr.inr =>
      rw [g3] at cA
      refine wp_region_quiet_below (by first | assumption | kernel_rfl) (by kernel_rfl) ?_
      repeat (go_big_quiet_step (first | (go_at_call 26; exact cA _ _)))
      refine wpQuiet_nil ?_
      intro _ hw'
      obtain ⟨⟨dq, osq⟩, hw''⟩ := hw'
      subst hw''
      have hbr := below_regrown wq dq osq
      obtain ⟨wz, hwz⟩ : ∃ wz, wz = Sort.grow (redrawn wq dq) osq := ⟨_, rfl⟩
      rw [← hwz] at hbr ⊢
      clear hwz r0 r1 r2 r3 cA
      have hb4z := bel_then hbq hbr
      have elaw := LAW.out g3
      have m1 : ¬ 9223372036854775807 < a.length + b.length := by omega
      go_wp2_with fail
      refine (Lex_any (a ++ b) wz (by simp; omega)).mono ?_
      rw [lexR_ok (l := a ++ b) (by simp; omega), elaw]
      rintro e w5 ⟨z, rfl, hownz, hb5⟩
      have hb45 := bel_then hb4z hb5
      clear elaw
      have hown0 : OwnT (w5.alloc (.cells #[] 23)) w5.heap.size (.slice (some ⟨w5.heap.size, 0, none⟩) 0 0) [] := ⟨rfl, .inr ⟨w5.heap.size, 0, #[], rfl, Nat.le_refl _, heap_alloc_new _ _, Nat.le_refl _, by simp [maxLen], rfl, rfl⟩⟩
      have hba : Below w5.heap.size w5 (w5.alloc (.cells #[] 23)) := bel_alloc (Below.refl _ _) _
      have hz5 : w4.heap.size ≤ w5.heap.size := hb45.size
      have hrz : ReadT w5 z (ts ++ us) := hownz.read (by rw [List.length_append, HN.out]; omega)
      have HZ := Lib.hid hrz
      have hs6 : ([] : List Tok).length + ts.length ≤ 1000000 := by rw [HN.out]; simp; omega
      have hs7 : ([] ++ ts).length + us.length ≤ 1000000 := by rw [List.nil_append, HN.out]; omega
      clear hownz hrz
      go_wp2_with (at_builtin; first
        | (refine toks_append w5 w5.heap.size rfl (.tmp 87) (.tmp 88) rfl _ [] ts _ HN.out rfl bx ox cx rfl ?_ hown0 hba ?_ hs6 ?_
           · intro k hk
             have hq := bel_then hb45 hba
             exact ⟨by rw [hq.cell (p := ⟨bx, _, none⟩) hbx]; exact (HCX.out k hk).1, by rw [hq.cell (p := ⟨bx, _, none⟩) hbx]; exact (HCX.out k hk).2⟩
           · simp
           intro v1 w6 hown6 hb6)
        | (refine toks_append w5 w5.heap.size rfl (.tmp 89) (.tmp 90) rfl v1 ([] ++ ts) us _ rfl rfl bY oy cy rfl ?_ hown6 hb6 ?_ hs7 ?_
           · intro k hk
             have hq := bel_then hb45 hb6
             exact ⟨by rw [hq.cell (p := ⟨bY, _, none⟩) hby]; exact (HCY.out k hk).1, by rw [hq.cell (p := ⟨bY, _, none⟩) hby]; exact (HCY.out k hk).2⟩
           · exact hb6.size
           intro v2 w7 hown7 hb7))
      have hr7 : ReadT w7 v2 (ts ++ us) := by
        have := hown7.read (by rw [List.nil_append, List.length_append, HN.out]; omega)
        rwa [List.nil_append] at this
      refine (Same_calls z v2 (ts ++ us) (ts ++ us) w7 (HZ.out.below hb7) hr7).mono ?_
      rw [show decide (ts ++ us = ts ++ us) = true from decide_eq_true rfl]
      rintro e w8 ⟨rfl, hb8⟩
      go_wp2_with fail
      refine (alive_calls _).mono ?_
      rintro e w9 ⟨rfl, hb9⟩
      go_wp2
      go_ret
      exact ⟨rfl, bel_then (bel_then (bel_then (bel_then hbl hb45) hb7) hb8) hb9⟩
    all_goals try rw [g3] at cA
    all_goals refine wp_region_quiet_below (by first | assumption | kernel_rfl) (by kernel_rfl) ?_
    all_goals repeat (go_big_quiet_step (first | (go_at_call 26; exact cA _ _)))
    all_goals refine wpQuiet_nil ?_
    all_goals intro _ hw'
    all_goals obtain ⟨⟨dq, osq⟩, hw''⟩ := hw'
    all_goals subst hw''
    all_goals have hbr := below_regrown wq dq osq
    all_goals go_wp2_with fail
    all_goals refine (alive_calls _).mono ?_
    all_goals rintro e w5 ⟨rfl, hb5⟩
    all_goals go_wp2
    all_goals go_ret
    all_goals exact ⟨rfl, bel_then (bel_then (bel_then hbl hbq) hbr) hb5⟩
  all_goals go_wp2_with fail
  all_goals refine (alive_calls _).mono ?_
  all_goals rintro e w5 ⟨rfl, hb5⟩
  all_goals go_wp2
  all_goals go_ret
  all_goals exact ⟨rfl, bel_then hbl hb5⟩

end Go.Proofs.YtepgjaecfoaenaaGreatDoor
