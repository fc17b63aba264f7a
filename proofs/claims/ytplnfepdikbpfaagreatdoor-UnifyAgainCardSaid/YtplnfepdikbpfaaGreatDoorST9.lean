/- The walk of the Store's Unify. Condition: the Store lies in memory; Unify's plain answer is told. -/
import Derived.Test.YtplnfepdikbpfaaGreatDoorST8
import Derived.Test.YtplnfepdikbpfaaGreatDoorST5
import Derived.Test.YtplnfepdikbpfaaGreatDoorUA
import Derived.Maps.RangeWalk
namespace Go.Proofs.YtplnfepdikbpfaaGreatDoor
open Go.RowKit
open Go.Maps (Keyed)
set_option linter.unusedVariables false
set_option linter.unusedSimpArgs false
attribute [local go_sem ↓] Go.wp_at_zero Go.wp_at_succ

def SUPost (w : World) (base p : Nat) (ok : Nat → Prop) (R : Rows) (e : Int) (s' : Sto) (en : Ending) (w' : World) : Prop :=
  en = .returned (.int .i64 e) ∧ Tn (R.own p) w w' ∧ (e = 0 → ∃ R', StoAt w' base p ok R' s' ∧ ∀ k, R'.own p k → R.own p k ∨ w.heap.size ≤ k)
theorem StoAt.nt_eq {w : World} {base p : Nat} {ok : Nat → Prop} {R : Rows} {s : Sto} (h : StoAt w base p ok R s) : R.nt + s.roots = s.n := by
  obtain ⟨tr, h1, h2, h3, h4⟩ := h.tr
  exact h3
theorem ranges_turn {P : Program} {k : TypeId} {Rd : Value → Option (DataW Unit × List MemPlace)} {w W : World} {b r n : Nat} {D : DataW Unit} {left : Lit → Bool} {cnt : Nat} {O : Nat → Prop} (h : w.ranges P k Rd b r n D left cnt) (hT : Tn O w W) (hb' : ¬ O b) (hr' : ¬ O r) : W.ranges P k Rd b r n D left cnt := by
  have h1 := h.owns.lt
  have h2 := h.lt
  obtain ⟨es, clock, since, seen, c0, hb, F, hs, hD, hr, rest⟩ := h
  exact ⟨es, clock, since, seen, c0, (hT.block b h1 hb').trans hb, F, hs, hD, (hT.block r h2 hr').trans hr, rest⟩
/-- What holds at the head of Unify's loop over the variables. -/
structure UniAt (w5 : World) (base p : Nat) (ok : Nat → Prop) (R : Rows) (s : Sto) (kb r n : Nat) (wr : World) (left : Lit → Bool) (cnt : Nat) (K : Kn) (D : DataW Unit) : Prop where
  rg : wr.ranges Tryz.prog 3 (plainElem Tryz.prog 3) R.m r n R.D left cnt
  has : ∀ kl, left kl = true → Maps.has R.D kl = true
  own : wr.ownsMap Tryz.prog 3 RP kb K.length D
  kn : KnIs D K
  kv : KnV K
  few : K.length + 2 * unk s K ≤ 2 * s.n
  km : KnM s K fun _ => False
  tn : Tn (fun z => z = kb ∨ z = r) w5 wr
  sm : ∀ v i g x, left (.int .i64 v) = false → s.ofAt v = some i → szF g s i = some x → x.1 ≤ 4000 ∧ x.2 ≤ 100

set_option maxRecDepth 100000 in
set_option maxHeartbeats 32000000 in
theorem SUnify_calls (w : World) (base p : Nat) (ok : Nat → Prop) (R : Rows) (s : Sto) (h : StoAt w base p ok R s) (a b : Nat) (ha : a < s.n) (hb : b < s.n) (e : Int) (s' : Sto) (hU : UnifyIs s a b e s') :
    Calls Tryz.prog 50 #[.pointer (some ⟨p, 0, none⟩), .int .i64 (a : Int), .int .i64 (b : Int)] w (SUPost w base p ok R e s') := by
  have hp := h.rows.plt
  have hfew := h.few
  obtain ⟨AT, ct, et, hct, -⟩ := row_shape h.rows.rt
  have p5 := h.rows.cells.2.2.2.2.2.1
  rw [et] at p5
  obtain ⟨f, r, hf, hr⟩ := hU
  obtain ⟨hn1, hn2, hok', hroots⟩ := meetF_same f _ s (r, s') h.sok (fun x hx => by rw [List.mem_singleton.1 hx]; exact ⟨ha, hb⟩) hf
  have hnn : s'.n = s.n := by unfold Sto.n; rw [hn1]
  have hnt := h.nt_eq
  have H := Lib.hid h; have HF := Lib.hid hf; have HR := Lib.hid hr; have HOK := Lib.hid hok'
  clear h hf hr hok' et hn1 hn2
  have hmm := @run_makeMap Tryz.prog
  go_enter Tryz.func50, Tryz.ntmps50
  go_wp2_with fail
  refine (meet_calls w base p ok R s H.out a b ha hb f (r, s') HF.out).mono ?_
  rintro e3 w3 ⟨rfl, R3, hS3, hT3, hG3⟩
  have hnt3 : R3.nt + s'.roots = s'.n := hS3.nt_eq
  have hle : R.nt ≤ R3.nt := by omega
  obtain ⟨AT3, ct3, et3, hct3, -⟩ := row_shape hS3.rows.rt
  have p53 := hS3.rows.cells.2.2.2.2.2.1
  rw [et3] at p53
  have HS3 := Lib.hid hS3; have HT3 := Lib.hid hT3; have HG3 := Lib.hid hG3
  have hBK := Lib.hid (show ∀ W, StoAt W base p ok R3 s' → Calls Tryz.prog 87 #[.pointer (some ⟨p, 0, none⟩), .int .i64 (R.nt : Int)] W fun e w' => (∃ v, e = .returned v) ∧ Tn (R3.own p) W w' from fun W hW => back_calls W base p ok R3 s' hW R.nt hle)
  clear hS3 hT3 hG3 et3
  simp only [] at *
  cases r with
  | false =>
    have he : e = 10 := by rcases HR.out with ⟨-, h⟩ | ⟨h, -⟩ | ⟨h, -⟩; exact h; cases h; cases h
    subst he
    go_wp2_with fail
    refine (hBK.out w3 HS3.out).mono ?_
    rintro e4 w4 ⟨⟨v, rfl⟩, hT4⟩
    have HT4 := Lib.hid hT4; clear hT4
    go_wp2
    go_ret
    exact ⟨rfl, HT3.out.then HT4.out HG3.out, fun h => absurd h (by decide)⟩
  | true =>
    have hr : (s'.roots = s.roots ∧ e = 0) ∨ (s'.roots ≠ s.roots ∧ TailIs s' a e) := by
      rcases HR.out with ⟨h, -⟩ | ⟨-, h⟩ | ⟨-, h⟩
      · cases h
      · exact .inl h
      · exact .inr h
    clear HR
    rcases hr with ⟨hq, rfl⟩ | ⟨hq, ht⟩
    · have q1 : R3.nt = R.nt := by omega
      have q2 : ((R.nt : Int) == (R3.nt : Int)) = true := by rw [q1]; simp
      go_wp2
      go_ret
      exact ⟨rfl, HT3.out, fun _ => ⟨R3, HS3.out, HG3.out⟩⟩
    · have q2 : ((R.nt : Int) == (R3.nt : Int)) = false := by rw [beq_eq_false_iff_ne]; omega
      have has' : a < s'.n := by omega
      have hunk : unk s' [] ≤ s'.n := by
        have := List.countP_le_length (p := fun j => (knAt [] j).isNone) (l := List.range s'.n)
        rw [List.length_range] at this
        exact this
      have HTI := Lib.hid ht; clear ht
      obtain ⟨kb, hkb⟩ : ∃ kb, kb = w3.heap.size := ⟨_, rfl⟩
      have hkbo : ¬ ok kb := fun e => by have := HS3.out.okl kb e; omega
      have hkbr : ¬ R3.own p kb := fun e => by have := (HS3.out.lt kb e).2; omega
      have hS4 : StoAt (w3.alloc (.map #[] 0)) base p ok R3 s' := HS3.out.alloc _
      have hown4 : (w3.alloc (.map #[] 0)).ownsMap Tryz.prog 3 RP kb ([] : Kn).length (.map []) := by rw [hkb]; exact World.ownsMap_made _ _ _ _
      go_wp2_with fail
      rw [← hkb]
      obtain ⟨w4, hw4⟩ : ∃ w4, w4 = w3.alloc (.map #[] 0) := ⟨_, rfl⟩
      rw [← hw4] at hS4 hown4 ⊢
      have HS4 := Lib.hid hS4; have HOWN4 := Lib.hid hown4
      have T4 := Lib.hid (show Tn (R.own p) w w4 by rw [hw4]; exact HT3.out.then (Tn.alloc (fun _ => False) _ _) (fun k e => e.elim))
      have HSZ4 := Lib.hid (show kb < w4.heap.size ∧ w.heap.size ≤ kb by have := HT3.out.size; rw [hw4, hkb]; simp; omega)
      clear hS4 hown4 hw4 p53
      have hti : (∃ g K, sizeF g s' a [] = some (none, K) ∧ e = 13) ∨ (∃ g x K', sizeF g s' a [] = some (some x, K') ∧ KnM s' K' (fun _ => False) ∧ AllSz s' ∧ ((e = 0 ∧ FitsB s') ∨ (e = 7 ∧ ¬ FitsB s'))) := by
        cases HTI.out with
        | stop g K h => exact .inl ⟨g, K, h, rfl⟩
        | fits g x h1 h2 h3 => obtain ⟨K', h4, h5⟩ := size_is HOK.out has' h1 (KnM.nil s' _); exact .inr ⟨g, x, K', h4, h5, h2, .inl ⟨rfl, h3⟩⟩
        | full g x h1 h2 h3 => obtain ⟨K', h4, h5⟩ := size_is HOK.out has' h1 (KnM.nil s' _); exact .inr ⟨g, x, K', h4, h5, h2, .inr ⟨rfl, h3⟩⟩
      clear HTI
      have HSC := Lib.hid (fun g K r hg => size_calls base p ok R3 s' kb hkbo hkbr g a [] K r (.map []) w4 HS4.out has' HOWN4.out KnIs.nil KnV.nil (by simp; omega) hg)
      rcases hti with ⟨g, K, hg, rfl⟩ | ⟨g, x, K, hg, hkm, hall, hfit⟩
      · refine (HSC.out g K none hg).mono ?_
        rintro e5 w5 ⟨rfl, D5, hown5, hkn5, hT5⟩
        have hS5 : StoAt w5 base p ok R3 s' := HS4.out.turn hT5 (fun k e _ => by subst e; exact ⟨hkbo, hkbr⟩)
        have T5 := Lib.hid (show Tn (R.own p) w w5 from T4.out.then hT5 (fun k e => by subst e; exact .inr HSZ4.out.2))
        have HS5 := Lib.hid hS5
        clear hS5 hown5 hkn5 hT5 hg
        simp only [Option.getD_none, Option.isSome_none]
        go_wp2_with fail
        refine (hBK.out w5 HS5.out).mono ?_
        rintro e6 w6 ⟨⟨v, rfl⟩, hT6⟩
        have HT6 := Lib.hid hT6; clear hT6
        go_wp2
        go_ret
        exact ⟨rfl, T5.out.then HT6.out HG3.out, fun h => absurd h (by decide)⟩
      · refine (HSC.out g K (some x) hg).mono ?_
        rintro e5 w5 ⟨rfl, D5, hown5, hkn5, hT5⟩
        have hS5 : StoAt w5 base p ok R3 s' := HS4.out.turn hT5 (fun k e _ => by subst e; exact ⟨hkbo, hkbr⟩)
        have T5 := Lib.hid (show Tn (R.own p) w w5 from T4.out.then hT5 (fun k e => by subst e; exact .inr HSZ4.out.2))
        have HS5 := Lib.hid hS5; have HOWN5 := Lib.hid hown5; have HKN5 := Lib.hid hkn5
        have hsok := (size_ok s' HOK.out g).1 a [] (some x) K has' KnV.nil hg
        have HKB5 := Lib.hid (show kb < w5.heap.size ∧ w.heap.size ≤ kb from ⟨Nat.lt_of_lt_of_le HSZ4.out.1 hT5.size, HSZ4.out.2⟩)
        have HSK := Lib.hid (show KnV K ∧ K.length + 2 * unk s' K ≤ 2 * s'.n from ⟨hsok.2.2.1, by have := hsok.1; simp at this; omega⟩)
        have HKM := Lib.hid hkm; have HALL := Lib.hid hall; have HFIT := Lib.hid hfit
        have p4 := hS5.rows.cells.2.2.2.2.1
        clear hS5 hown5 hkn5 hT5 hg hsok hkm hall hfit
        simp only [Option.getD_some, Option.isSome_some]
        go_wp2_with (first
          | (at_range; refine wpList_range_own _ rfl _ 79 rfl 3 3 intKeys Tryz.underlying79 _ R3.m R3.mm R3.D rfl HS5.out.rows.rm ?_; intro w6 hrg6 hg6 hs6)
          | go_in)
        go_frame
        obtain ⟨rr, hrr⟩ : ∃ rr, rr = w5.heap.size := ⟨_, rfl⟩
        rw [← hrr] at hrg6 hs6 ⊢
        have HRR := Lib.hid hrr; clear hrr
        have hmrr : R3.m ≠ rr := fun e => hrg6.ne e.symm
        have hmkb : R3.m ≠ kb := fun e => hkbr (.inr (.inl e.symm))
        have hkr : kb ≠ rr := by have := HKB5.out; have := HRR.out; omega
        have HRG6 := Lib.hid hrg6; have HG6 := Lib.hid hg6
        clear hrg6 hg6 hs6 p4
        go_loopw [13] (fun _ wr => ∃ (left : Lit → Bool) (cnt : Nat) (K : Kn) (D : DataW Unit), UniAt w5 base p ok R3 s' kb rr R3.mm wr left cnt K D) (fun _ wr => wr.rangeLeft R3.m rr)
        case atStart =>
          refine ⟨_, _, K, D5, HRG6.out, fun kl h => h, map_turn HOWN5.out (Tn.gb (O := fun _ => False) HG6.out (fun k e => by cases e)) (fun e => e), HKN5.out, HSK.out.1, HSK.out.2, HKM.out, Tn.gb HG6.out (fun k e => by cases e), fun v i g x hl ho => ?_⟩
          have := (HS5.out.of.2 v).1
          rw [ho] at this
          rw [this] at hl
          cases hl
        case round =>
          obtain ⟨left, cnt, K2, D2, hU⟩ := hrel
          have hS : StoAt wr base p ok R3 s' := HS5.out.turn hU.tn (fun k e hk => by
            rcases e with e | e
            · subst e; exact ⟨hkbo, hkbr⟩
            · have := HRR.out; omega)
          have hrgw := hU.rg
          have TW := Lib.hid (show Tn (R.own p) w wr from T5.out.then hU.tn (fun k e => by
            rcases e with e | e
            · have := HKB5.out; exact .inr (by omega)
            · have := HRR.out; have := HKB5.out; exact .inr (by omega)))
          have HSW := Lib.hid hS; have HU := Lib.hid hU
          clear hS hU
          go_wp2_with (first
            | (at_next; refine wpList_next_ranges_ii _ rfl _ rfl 3 3 .i64 .i64 intKeys Tryz.underlying3 Tryz.underlying3 R3.m rr R3.mm _ _ _ rfl hrgw ?_ ?_)
            | go_in)
          · intro hc0 hl0
            go_wp2
            go_ret
            have hf : FitsB s' := fun v i g x ho hx => HU.out.sm v i g x (hl0 _) ho hx
            rcases HFIT.out with ⟨rfl, -⟩ | ⟨-, h⟩
            · exact ⟨rfl, TW.out, fun _ => ⟨R3, HSW.out, HG3.out⟩⟩
            · exact absurd hf h
          · intro x c w1 cnt1 hwx hwc hlx hat hrg1 hlt hg1 hs1 hen
            have hof := HS5.out.of.2 x
            rw [HU.out.has _ hlx] at hof
            obtain ⟨i, hi⟩ : ∃ i, s'.ofAt x = some i := Option.isSome_iff_exists.1 hof.1.symm
            have hc : c = (i : Int) := by
              have h1 := (hat (.agg [])).symm.trans (hof.2 i hi _)
              simpa using h1
            subst hc
            have hin : i < s'.n := (HOK.out.ofLt _ (ofAt_mem hi)).1
            obtain ⟨g, y, hgy⟩ := HALL.out x i hi
            obtain ⟨K3, hg3, hkm3⟩ := size_is HOK.out hin hgy HU.out.km
            have hsok := (size_ok s' HOK.out g).1 i K2 (some y) K3 hin HU.out.kv hg3
            have T1 : Tn (fun z => z = rr) wr w1 := Tn.gb hg1 (fun k e => .inl (Option.some.inj e).symm)
            have hS1 : StoAt w1 base p ok R3 s' := HSW.out.turn T1 (fun k e hk => by
              subst e
              exact ⟨fun e => by have := HS5.out.okl _ e; have := HRR.out; omega, fun e => by have := (HS5.out.lt _ e).2; have := HRR.out; omega⟩)
            have hown1 := map_turn HU.out.own T1 hkr
            have hszc := size_calls base p ok R3 s' kb hkbo hkbr g i K2 K3 (some y) D2 w1 hS1 hin hown1 HU.out.kn HU.out.kv HU.out.few hg3
            have HS1 := Lib.hid hS1; have HT1 := Lib.hid T1; have HSOK := Lib.hid hsok; have HKM3 := Lib.hid hkm3; have HGY := Lib.hid hgy; have HI := Lib.hid hi; have HRG1 := Lib.hid hrg1; have HLT := Lib.hid hlt; have HLX := Lib.hid hlx
            have HRGL := Lib.hid hrgw
            clear hS1 hown1 hsok hkm3 hgy hi hg3 hrg1 hlt hlx hat hof hwx hwc hg1 hs1 T1 hrgw
            go_wp2_with fail
            rw [← hkb]
            refine hszc.mono ?_
            rintro e7 w7 ⟨rfl, D7, hown7, hkn7, hT7⟩
            have hrg7 := ranges_turn HRG1.out hT7 (fun e => hmkb e) (fun e => hkr e.symm)
            have hS7 : StoAt w7 base p ok R3 s' := HS1.out.turn hT7 (fun k e _ => by subst e; exact ⟨hkbo, hkbr⟩)
            have HS7 := Lib.hid hS7; have HRG7 := Lib.hid hrg7; have HT7 := Lib.hid hT7; have HOWN7 := Lib.hid hown7; have HKN7 := Lib.hid hkn7
            clear hS7 hrg7 hT7 hown7 hkn7 hszc hen
            obtain ⟨yp, yd⟩ := y
            simp only [Option.getD_some, Option.isSome_some]
            by_cases hbig : 4000 < yp ∨ 100 < yd
            · have hnf : ¬ FitsB s' := fun h => by have := h x i g _ HI.out HGY.out; simp only at this; omega
              have he : e = 7 := by rcases HFIT.out with ⟨-, h⟩ | ⟨h, -⟩; exact absurd h hnf; exact h
              subst he
              have TT := Lib.hid (show Tn (R.own p) w w7 from (TW.out.then HT1.out (fun k e => by subst e; have := HRR.out; have := HKB5.out; exact .inr (by omega))).then HT7.out (fun k e => by subst e; have := HKB5.out; exact .inr (by omega)))
              by_cases hp4 : 4000 < yp
              · have q4 : decide (yp > 4000) = true := decide_eq_true hp4
                go_wp2_with fail
                refine (hBK.out w7 HS7.out).mono ?_
                rintro e8 w8 ⟨⟨v, rfl⟩, hT8⟩
                have HT8 := Lib.hid hT8; clear hT8
                go_wp2
                go_ret
                exact ⟨rfl, TT.out.then HT8.out HG3.out, fun h => absurd h (by decide)⟩
              · have q4 : decide (yp > 4000) = false := decide_eq_false hp4
                have q5 : decide (yd > 100) = true := decide_eq_true (by omega)
                go_wp2_with fail
                refine (hBK.out w7 HS7.out).mono ?_
                rintro e8 w8 ⟨⟨v, rfl⟩, hT8⟩
                have HT8 := Lib.hid hT8; clear hT8
                go_wp2
                go_ret
                exact ⟨rfl, TT.out.then HT8.out HG3.out, fun h => absurd h (by decide)⟩
            · have q4 : decide (yp > 4000) = false := decide_eq_false (by omega)
              have q5 : decide (yd > 100) = false := decide_eq_false (by omega)
              have hrgn := HRG7.out
              go_wp2
              go_roundw
              case rel =>
                refine ⟨_, _, K3, D7, hrgn, fun kl h => ?_, HOWN7.out, HKN7.out, HSOK.out.2.2.1, by have h1 := HSOK.out.1; have h2 := HU.out.few; omega, HKM3.out, ?_, fun v j g' z hl ho hz => ?_⟩
                · simp only [Bool.and_eq_true] at h
                  exact HU.out.has _ h.1
                · exact (HU.out.tn.trans (HT1.out.mono (fun k e => .inl (.inr e)))).trans (HT7.out.mono (fun k e => .inl (.inl e)))
                · cases hlv : left (.int .i64 v) with
                  | false => exact HU.out.sm v j g' z hlv ho hz
                  | true =>
                    rw [hlv] at hl
                    have hvx : v = x := by simpa [Lit.sameKey] using hl
                    subst hvx
                    rw [HI.out] at ho
                    obtain rfl := Option.some.inj ho
                    obtain rfl := szF_one HGY.out hz
                    simp only
                    omega
              case measure => rw [hrgn.left_eq, HRGL.out.left_eq]; exact HLT.out

end Go.Proofs.YtplnfepdikbpfaaGreatDoor
