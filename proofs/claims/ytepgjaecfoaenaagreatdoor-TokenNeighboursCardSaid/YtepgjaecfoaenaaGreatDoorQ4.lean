/- The walk of byteStringReplacer's Replace: the string with three bytes written as two. Condition: at most 20000 bytes. -/
import Derived.Test.YtepgjaecfoaenaaGreatDoorQ3
import Derived.Deep.QuietTactic
import Derived.Deep.OwnRows
import Derived.Deep.RegionLaw
import Derived.Laws.CopyOwn
import Derived.Lib.Bytealg
import Derived.Test.YtepgjaecfoaenaaGreatDoorQ5
namespace Go.Proofs.YtepgjaecfoaenaaGreatDoor
open Go.RowKit
set_option linter.unusedVariables false
set_option linter.unusedSimpArgs false

theorem count_calls (l : List UInt8) (c : UInt8) (w : World) :
    Calls Tryz.prog 174 #[.string (S l), .string (S [c])] w fun e w' => e = .returned (.int .i64 (l.count c : Nat)) ∧ w = w' :=
  (Tryz.strings_Count_one (S l) c w).mono fun e w' ⟨h1, h2⟩ => ⟨by rw [h1, S_data]; rfl, h2.symm⟩

theorem own_cells {w : World} {B : Nat} {v : Value} {xs : List (List UInt8)} (h : OwnS w B v xs) (h0 : 0 < xs.length) :
    ∃ g c, v = .slice (some ⟨g, 0, none⟩) xs.length c ∧ g < w.heap.size ∧ ∀ k, k < xs.length → w.cell? ⟨g, k, none⟩ = some (.string (S (strAt xs k))) := by
  rcases h.2 with ⟨_, hz⟩ | ⟨g, cap, cur, rfl, hb, hh, _⟩
  · omega
  · refine ⟨g, cap, rfl, (Array.getElem?_eq_some_iff.1 hh).1, fun k hk => ?_⟩
    have ha : (⟨g, 0, none⟩ : Addr).add k = ⟨g, k, none⟩ := by unfold Addr.add; split <;> simp_all
    rw [← ha]
    refine World.ownsRow.cells h (g := g) rfl k _ ?_
    simp [strsCells, strAt, List.getElem?_eq_getElem hk]

set_option maxRecDepth 100000 in
set_option maxHeartbeats 2000000 in
theorem bsr_Replace (B q : Nat) (l : List UInt8) (w : World) (hS : BS B q [92, 34, 10] w) (hl : l.length ≤ 20000) :
    Calls Tryz.prog 172 #[.pointer (some ⟨q, 0, none⟩), .string (S l)] w fun e w' => e = .returned (.string (S (escL l))) ∧ Below w.heap.size w w' := by
  obtain ⟨arr, ao, n, c, hS⟩ := hS
  have hqlt := hS.lt
  obtain ⟨gs, cs, hv, hgs, hstr⟩ := own_cells hS.own (by decide)
  have e256 : w.cell? ⟨q, 256, none⟩ = some (.slice (some ⟨gs, 0, none⟩) 3 cs) := by rw [cell_of_row _ _ _ _ _ _ hS.row, hS.last, hv]; rfl
  have hrep : ∀ b : UInt8, isE b = true → ∃ g c', w.cell? ⟨q, b.toNat, none⟩ = some (.slice (some ⟨g, 0, none⟩) 2 c') ∧ g < w.heap.size ∧ w.cell? ⟨g, 0, none⟩ = some (.int .u8 92) ∧ w.cell? ⟨g, 1, none⟩ = some (.int .u8 (esc b).toNat) := by
    intro b hb
    obtain ⟨g, c', h1, h2, h3, h4, h5, h6, h7⟩ := hS.rows b (by simp [isE] at hb ⊢; rcases hb with (h | h) | h <;> simp [h])
    exact ⟨g, c', by rw [cell_of_row _ _ _ _ _ _ hS.row]; exact h1, h3, h6, h7⟩
  have hnil : ∀ b : UInt8, isE b = false → w.cell? ⟨q, b.toNat, none⟩ = some (.slice none 0 0) := by
    intro b hb
    rw [cell_of_row _ _ _ _ _ _ hS.row]; exact hS.left b (by simp [isE] at hb ⊢; exact ⟨hb.2, hb.1.2, hb.1.1⟩)
  clear hv hS
  have HREP := Lib.hid hrep; have HNIL := Lib.hid hnil; have HSTR := Lib.hid hstr; have E256 := Lib.hid e256
  clear hrep hnil hstr e256
  by_cases hlong : 24 ≤ l.length
  · have e256 := E256.out
    have hlb : decide (24 ≤ (l.length : Int)) = true := by simp; omega
    go_enter Tryz.func172, Tryz.ntmps172
    go_wp2
    clear e256
    go_loopw [5, 6, 32] (fun ns any i wr => ∃ (k : Nat) (x : Int) (b : Bool), k ≤ 3 ∧ i = .int .i64 k ∧ ns = .int .i64 x ∧ any = .bool b ∧ Hid (x = (l.length + cntTo l k : Nat)) ∧ 0 ≤ x ∧ x ≤ 40000 ∧ Hid (b = decide (cntTo l k ≠ 0)) ∧ Below w.heap.size w wr) (fun _ _ i _ => 3 - (intOf i).toNat)
    case atStart => exact ⟨0, _, _, by omega, rfl, rfl, rfl, Lib.hid (by simp [cntTo]), by omega, by omega, Lib.hid (by simp [cntTo]), Below.refl _ _⟩
    case round =>
      obtain ⟨k, x, bb, hk, rfl, rfl, rfl, hx, hx0, hx1, hbb, hb⟩ := hrel
      rcases (show k = 0 ∨ k = 1 ∨ k = 2 ∨ k = 3 by omega) with rfl | rfl | rfl | rfl
      · have s0 : wr.cell? ⟨gs, 0, none⟩ = some (.string (S [92])) := by rw [hb.cell (p := ⟨gs, 0, none⟩) hgs]; exact HSTR.out 0 (by decide)
        obtain ⟨g, c', r1, r2, r3, r4⟩ := HREP.out 92 (by decide)
        have q1 : wr.cell? ⟨q, 92, none⟩ = some (.slice (some ⟨g, 0, none⟩) 2 c') := by rw [hb.cell (p := ⟨q, 92, none⟩) hqlt]; exact r1
        have hstep : cntTo l 1 = cntTo l 0 + l.count 92 := by simp [cntTo]
        have hcl := count_le_cntE l 1
        have hco : l.count 92 ≤ 20000 := by omega
        have HX := Lib.hid hstep; clear hstep
        by_cases hz : l.count 92 = 0
        · have hzb : ((l.count 92 : Int) != 0) = false := by simp [hz]
          have HZ := Lib.hid hz; clear hz
          go_wp2_with (go_at_call 174; refine (count_calls l 92 _).mono ?_; rintro e w' ⟨rfl, rfl⟩)
          go_roundw
          case rel => exact ⟨1, x, bb, by omega, rfl, rfl, rfl, Lib.hid (by rw [hx.out, HX.out, HZ.out]; rfl), hx0, hx1, Lib.hid (by rw [hbb.out, HX.out, HZ.out]; rfl), hb⟩
          case measure => decide
        · have hzb : ((l.count 92 : Int) != 0) = true := by simpa using hz
          have HZ := Lib.hid hz; clear hz
          go_wp2_with (go_at_call 174; refine (count_calls l 92 _).mono ?_; rintro e w' ⟨rfl, rfl⟩)
          go_quiet (fail)
          go_wp2
          go_roundw
          case rel => 
            refine ⟨1, _, _, by omega, rfl, rfl, rfl, Lib.hid ?_, ?_, ?_, Lib.hid ?_, bel_drewN hb _⟩
            · have h1 := hx.out; have h2 := HX.out; first | omega | (simp only [wrap64]; omega)
            · have h1 := hx.out; have h2 := HX.out; first | omega | (simp only [wrap64]; omega)
            · have h1 := hx.out; have h2 := HX.out; first | omega | (simp only [wrap64]; omega)
            · have h2 := HX.out; have h3 := HZ.out; symm; rw [decide_eq_true_iff]; omega
          case measure => decide
      · have s0 : wr.cell? ⟨gs, 1, none⟩ = some (.string (S [34])) := by rw [hb.cell (p := ⟨gs, 1, none⟩) hgs]; exact HSTR.out 1 (by decide)
        obtain ⟨g, c', r1, r2, r3, r4⟩ := HREP.out 34 (by decide)
        have q1 : wr.cell? ⟨q, 34, none⟩ = some (.slice (some ⟨g, 0, none⟩) 2 c') := by rw [hb.cell (p := ⟨q, 34, none⟩) hqlt]; exact r1
        have hstep : cntTo l 2 = cntTo l 1 + l.count 34 := by simp [cntTo]
        have hcl := count_le_cntE l 2
        have hco : l.count 34 ≤ 20000 := by omega
        have HX := Lib.hid hstep; clear hstep
        by_cases hz : l.count 34 = 0
        · have hzb : ((l.count 34 : Int) != 0) = false := by simp [hz]
          have HZ := Lib.hid hz; clear hz
          go_wp2_with (go_at_call 174; refine (count_calls l 34 _).mono ?_; rintro e w' ⟨rfl, rfl⟩)
          go_roundw
          case rel => exact ⟨2, x, bb, by omega, rfl, rfl, rfl, Lib.hid (by rw [hx.out, HX.out, HZ.out]; rfl), hx0, hx1, Lib.hid (by rw [hbb.out, HX.out, HZ.out]; rfl), hb⟩
          case measure => decide
        · have hzb : ((l.count 34 : Int) != 0) = true := by simpa using hz
          have HZ := Lib.hid hz; clear hz
          go_wp2_with (go_at_call 174; refine (count_calls l 34 _).mono ?_; rintro e w' ⟨rfl, rfl⟩)
          go_quiet (fail)
          go_wp2
          go_roundw
          case rel => 
            refine ⟨2, _, _, by omega, rfl, rfl, rfl, Lib.hid ?_, ?_, ?_, Lib.hid ?_, bel_drewN hb _⟩
            · have h1 := hx.out; have h2 := HX.out; first | omega | (simp only [wrap64]; omega)
            · have h1 := hx.out; have h2 := HX.out; first | omega | (simp only [wrap64]; omega)
            · have h1 := hx.out; have h2 := HX.out; first | omega | (simp only [wrap64]; omega)
            · have h2 := HX.out; have h3 := HZ.out; symm; rw [decide_eq_true_iff]; omega
          case measure => decide
      · have s0 : wr.cell? ⟨gs, 2, none⟩ = some (.string (S [10])) := by rw [hb.cell (p := ⟨gs, 2, none⟩) hgs]; exact HSTR.out 2 (by decide)
        obtain ⟨g, c', r1, r2, r3, r4⟩ := HREP.out 10 (by decide)
        have q1 : wr.cell? ⟨q, 10, none⟩ = some (.slice (some ⟨g, 0, none⟩) 2 c') := by rw [hb.cell (p := ⟨q, 10, none⟩) hqlt]; exact r1
        have hstep : cntTo l 3 = cntTo l 2 + l.count 10 := by simp [cntTo]
        have hcl := count_le_cntE l 3
        have hco : l.count 10 ≤ 20000 := by omega
        have HX := Lib.hid hstep; clear hstep
        by_cases hz : l.count 10 = 0
        · have hzb : ((l.count 10 : Int) != 0) = false := by simp [hz]
          have HZ := Lib.hid hz; clear hz
          go_wp2_with (go_at_call 174; refine (count_calls l 10 _).mono ?_; rintro e w' ⟨rfl, rfl⟩)
          go_roundw
          case rel => exact ⟨3, x, bb, by omega, rfl, rfl, rfl, Lib.hid (by rw [hx.out, HX.out, HZ.out]; rfl), hx0, hx1, Lib.hid (by rw [hbb.out, HX.out, HZ.out]; rfl), hb⟩
          case measure => decide
        · have hzb : ((l.count 10 : Int) != 0) = true := by simpa using hz
          have HZ := Lib.hid hz; clear hz
          go_wp2_with (go_at_call 174; refine (count_calls l 10 _).mono ?_; rintro e w' ⟨rfl, rfl⟩)
          go_quiet (fail)
          go_wp2
          go_roundw
          case rel => 
            refine ⟨3, _, _, by omega, rfl, rfl, rfl, Lib.hid ?_, ?_, ?_, Lib.hid ?_, bel_drewN hb _⟩
            · have h1 := hx.out; have h2 := HX.out; first | omega | (simp only [wrap64]; omega)
            · have h1 := hx.out; have h2 := HX.out; first | omega | (simp only [wrap64]; omega)
            · have h1 := hx.out; have h2 := HX.out; first | omega | (simp only [wrap64]; omega)
            · have h2 := HX.out; have h3 := HZ.out; symm; rw [decide_eq_true_iff]; omega
          case measure => decide
      · have h3 := cntTo_all l
        rw [h3] at hx hbb
        rw [show ((3 : Nat) : Int) = 3 from rfl]
        by_cases hz0 : cntE l = 0
        · obtain rfl : bb = false := by rw [hbb.out]; simp [hz0]
          have he := Lib.hid (escL_none l hz0); clear hz0
          go_wp2
          go_ret
          exact ⟨by rw [he.out]; rfl, hb⟩
        · obtain rfl : bb = true := by rw [hbb.out]; simp [hz0]
          clear hz0 hbb
          obtain ⟨N, hN⟩ : ∃ N, N = (escL l).length := ⟨_, rfl⟩
          have hNl : N = l.length + cntE l := by rw [hN, escL_length]
          have hcl := cntE_le l
          obtain rfl : x = (N : Int) := by rw [hx.out, hNl]
          have HN := Lib.hid hN
          have hN4 : N ≤ 40000 := by omega
          clear hN hNl hx hx0 hx1
          have hmk := run_make_row' (P := Tryz.prog) 66 5 (.int .u8 0) 1 Tryz.underlying66 infoByte rfl .i64 .i64 N (by omega) (by omega)
          go_wp2
          clear hmk
          have hb2 := bel_alloc hb (.cells (madeCells #[.int .u8 0] N) 5)
          have hrow : (wr.alloc (.cells (madeCells #[.int .u8 0] N) 5)).heap[wr.heap.size]? = some (.cells (fill [] N).toArray 5 (0, 0)) := by rw [← made_fill]; exact heap_alloc_new _ _
          have hwsz := hb.size
          obtain ⟨wo, rfl⟩ : ∃ wo : World, wo = wr := ⟨_, rfl⟩
          go_loopw [13, 14] (fun jj ii wl => ∃ (k : Nat) (A : List UInt8), k ≤ l.length ∧ ii = .int .i64 k ∧ jj = .int .i64 A.length ∧ Hid (A = escL (l.take k)) ∧ A.length ≤ N ∧ Hid (wl.heap[wo.heap.size]? = some (.cells (fill A N).toArray 5 (0, 0))) ∧ Below w.heap.size w wl) (fun _ ii _ => l.length - (intOf ii).toNat)
          case atStart => exact ⟨0, [], Nat.zero_le _, rfl, rfl, Lib.hid (by simp [escL]), Nat.zero_le _, Lib.hid hrow, hb2⟩
          case round =>
            obtain ⟨k, A, hk, rfl, rfl, hA, hAN, hrw, hbl⟩ := hrel
            by_cases hlt : k < l.length
            · have hst := escL_step l k hlt
              have hle := escL_take_le l (k + 1)
              rw [hst, List.length_append, ← hA.out, ← HN.out] at hle
              rw [← hA.out] at hst
              have HST := Lib.hid hst; clear hst
              have hb256 : (at_ l k).toNat < 256 := (at_ l k).toNat_lt
              have hb256i : ((at_ l k).toNat : Int) < 256 := by omega
              cases hE : isE (at_ l k) with
              | false =>
                have hB1 : escB (at_ l k) = [at_ l k] := by simp [escB, hE]
                have q1 : wr.cell? ⟨q, (at_ l k).toNat, none⟩ = some (.slice none 0 0) := by rw [hbl.cell (p := ⟨q, _, none⟩) hqlt]; exact HNIL.out _ hE
                rw [hB1] at hle HST; clear hB1 hE
                have hAlt : A.length < N := by simp at hle; omega
                have b1 : wr.cell? ⟨wo.heap.size, A.length, none⟩ = some (.int .u8 0) := by rw [cell_of_row _ _ _ _ _ _ hrw.out]; simpa using fill_get A N hAlt
                have b2 : wr.frozen? ⟨wo.heap.size, A.length, none⟩ = false := frozen_of_row _ _ _ _ _ hrw.out
                clear hle
                go_wp2
                go_roundw
                case rel =>
                  refine ⟨k + 1, A ++ [at_ l k], by omega, by go_num, ?_, Lib.hid HST.out.symm, by simp; omega, Lib.hid ?_, bel_set hbl _ _ hwsz⟩
                  · simp
                  · rw [heap_setCell_same _ _ _ _ _ _ hrw.out, List.setIfInBounds_toArray, fill_set A _ N hAlt]
                case measure => simp [intOf]; omega
              | true =>
                have hB1 : escB (at_ l k) = [92, esc (at_ l k)] := by simp [escB, hE]
                obtain ⟨g, c', r1, r2, r3, r4⟩ := HREP.out _ hE
                have q1 : wr.cell? ⟨q, (at_ l k).toNat, none⟩ = some (.slice (some ⟨g, 0, none⟩) 2 c') := by rw [hbl.cell (p := ⟨q, _, none⟩) hqlt]; exact r1
                rw [hB1] at hle HST; clear hB1 hE
                have hAlt : A.length + 2 ≤ N := by simpa using hle
                have r3' : wr.cell? ⟨g, 0, none⟩ = some (.int .u8 92) := by rw [hbl.cell (p := ⟨g, _, none⟩) r2]; exact r3
                have r4' : wr.cell? ⟨g, 1, none⟩ = some (.int .u8 (esc (at_ l k)).toNat) := by rw [hbl.cell (p := ⟨g, _, none⟩) r2]; exact r4
                clear hle r1 r3 r4
                go_wp2
                have hNA : ¬ N = A.length := by omega
                have hmn : (Lib.byteCells [92, esc (at_ l k)]).length = Nat.min 2 (N - A.length) := by
                  rw [Lib.byteCells_length]; show 2 = min 2 (N - A.length); omega
                have hsrc : ∀ j v, (Lib.byteCells [92, esc (at_ l k)])[j]? = some v → wr.drew.cell? ((⟨g, 0, none⟩ : Addr).add j) = some v := by
                  intro j v hj
                  rcases j with _ | _ | j
                  · simp [Lib.byteCells] at hj; subst hj; simpa [Addr.add] using r3'
                  · simp [Lib.byteCells] at hj; subst hj; simpa [Addr.add] using r4'
                  · simp [Lib.byteCells] at hj
                have hfit : A.length + (Lib.byteCells [92, esc (at_ l k)]).length ≤ (fill A N).length := by
                  rw [Lib.byteCells_length, fill_length A N hAN]; exact hAlt
                have hone : ∀ v ∈ Lib.byteCells [92, esc (at_ l k)], v.oneCell' = true := by
                  intro v hv; simp [Lib.byteCells] at hv; rcases hv with rfl | rfl <;> rfl
                have HMN := Lib.hid hmn; have HSRC := Lib.hid hsrc; have HONE := Lib.hid hone
                have hrd : wr.drew.heap[wo.heap.size]? = some (.cells (fill A N).toArray 5 (0, 0)) := hrw.out
                have HRD := Lib.hid hrd; have HFIT := Lib.hid hfit
                clear hmn hsrc hone hrd hfit r3' r4'
                go_region_law (refine step_copy_splice rfl (.tmp 105) (.tmp 111) 66 66 rfl 5 Tryz.underlying66 (by kernel_rfl) (some ⟨wo.heap.size, A.length, none⟩) (some ⟨g, 0, none⟩) (N - A.length) (N - A.length) 2 c' (by simp [Act.eval, Act.put, hNA]) (by simp [Act.eval, Act.put]) wo.heap.size A.length (fill A N) 5 HRD.out (Lib.byteCells [92, esc (at_ l k)]) HMN.out (fun _ => ⟨rfl, ⟨g, 0, none⟩, rfl, HSRC.out⟩) HFIT.out HONE.out w.heap.size w hbl.drew hwsz ?_; intro w2 hw2 hbl2)
                have hcsl : (Lib.byteCells [92, esc (at_ l k)]).length = 2 := rfl
                go_wp2
                go_roundw
                case rel =>
                  refine ⟨k + 1, A ++ [92, esc (at_ l k)], by omega, by go_num, ?_, Lib.hid HST.out.symm, by simp; omega, Lib.hid ?_, hbl2⟩
                  · simp
                  · rw [hw2.out, fill_splice A _ N (by simp; omega)]
                case measure => simp [intOf]; omega
            · have hkk : k = l.length := by omega
              have hAe : A = escL l := by rw [hA.out, hkk, List.take_length]
              subst hAe
              have hcv := conv_fill wr wo.heap.size (escL l) N HN.out 5 hrw.out
              go_wp2
              go_ret
              exact ⟨rfl, hbl⟩
  · have e256 := E256.out
    have hlb : decide (24 ≤ (l.length : Int)) = false := by simp; omega
    go_enter Tryz.func172, Tryz.ntmps172
    go_wp2
    clear e256
    go_loopw [5, 6, 10] (fun ns any i wr => ∃ (k : Nat) (x : Int) (b : Bool), k ≤ l.length ∧ i = .int .i64 k ∧ ns = .int .i64 x ∧ any = .bool b ∧ Hid (x = (l.length + cntE (l.take k) : Nat)) ∧ 0 ≤ x ∧ x ≤ 40000 ∧ Hid (b = decide (cntE (l.take k) ≠ 0)) ∧ Below w.heap.size w wr) (fun _ _ i _ => l.length - (intOf i).toNat)
    case atStart => exact ⟨0, _, _, by omega, rfl, rfl, rfl, Lib.hid (by simp [cntE]), by omega, by omega, Lib.hid (by simp [cntE]), Below.refl _ _⟩
    case round =>
      obtain ⟨k, x, bb, hk, rfl, rfl, rfl, hx, hx0, hx1, hbb, hb⟩ := hrel
      by_cases hlt : k < l.length
      · have hst := Lib.hid (cntE_step l k hlt)
        have hcl := cntE_le (l.take (k + 1))
        have hcl2 := cntE_le (l.take k)
        simp only [List.length_take] at hcl hcl2
        have hb256 : (at_ l k).toNat < 256 := (at_ l k).toNat_lt
        have hb256i : ((at_ l k).toNat : Int) < 256 := by omega
        cases hE : isE (at_ l k) with
        | false =>
          have q1 : wr.cell? ⟨q, (at_ l k).toNat, none⟩ = some (.slice none 0 0) := by rw [hb.cell (p := ⟨q, _, none⟩) hqlt]; exact HNIL.out _ hE
          have hs2 : cntE (l.take (k + 1)) = cntE (l.take k) := by rw [hst.out, hE]; rfl
          have HS := Lib.hid hs2; clear hs2 hE
          go_wp2
          go_roundw
          case rel => exact ⟨k + 1, x, bb, by omega, by go_num, rfl, rfl, Lib.hid (by rw [hx.out, HS.out]), hx0, hx1, Lib.hid (by rw [hbb.out, HS.out]), hb⟩
          case measure => simp [intOf]; omega
        | true =>
          obtain ⟨g, c', r1, r2, r3, r4⟩ := HREP.out _ hE
          have q1 : wr.cell? ⟨q, (at_ l k).toNat, none⟩ = some (.slice (some ⟨g, 0, none⟩) 2 c') := by rw [hb.cell (p := ⟨q, _, none⟩) hqlt]; exact r1
          have hs2 : cntE (l.take (k + 1)) = cntE (l.take k) + 1 := by rw [hst.out, hE]; rfl
          have HS := Lib.hid hs2; clear hs2 hE r1 r3 r4
          go_wp2
          try go_quiet (fail)
          try go_wp2
          go_roundw
          case rel =>
            have h1 := hx.out; have h2 := HS.out
            refine ⟨k + 1, x + 1, true, by omega, by go_num, by go_num, rfl, Lib.hid (by omega), by omega, by omega, Lib.hid (by symm; rw [decide_eq_true_iff]; omega), ?_⟩
            first | exact hb | exact bel_drewN hb _
          case measure => simp [intOf]; omega
      · obtain rfl : k = l.length := by omega
        rw [List.take_length] at hx hbb
        clear hlt
        by_cases hz0 : cntE l = 0
        · obtain rfl : bb = false := by rw [hbb.out]; simp [hz0]
          have he := Lib.hid (escL_none l hz0); clear hz0
          go_wp2
          go_ret
          exact ⟨by rw [he.out]; rfl, hb⟩
        · obtain rfl : bb = true := by rw [hbb.out]; simp [hz0]
          clear hz0 hbb
          obtain ⟨N, hN⟩ : ∃ N, N = (escL l).length := ⟨_, rfl⟩
          have hNl : N = l.length + cntE l := by rw [hN, escL_length]
          have hcl := cntE_le l
          obtain rfl : x = (N : Int) := by rw [hx.out, hNl]
          have HN := Lib.hid hN
          have hN4 : N ≤ 40000 := by omega
          clear hN hNl hx hx0 hx1
          have hmk := run_make_row' (P := Tryz.prog) 66 5 (.int .u8 0) 1 Tryz.underlying66 infoByte rfl .i64 .i64 N (by omega) (by omega)
          go_wp2
          clear hmk
          have hb2 := bel_alloc hb (.cells (madeCells #[.int .u8 0] N) 5)
          have hrow : (wr.alloc (.cells (madeCells #[.int .u8 0] N) 5)).heap[wr.heap.size]? = some (.cells (fill [] N).toArray 5 (0, 0)) := by rw [← made_fill]; exact heap_alloc_new _ _
          have hwsz := hb.size
          obtain ⟨wo, rfl⟩ : ∃ wo : World, wo = wr := ⟨_, rfl⟩
          go_loopw [13, 14] (fun jj ii wl => ∃ (k : Nat) (A : List UInt8), k ≤ l.length ∧ ii = .int .i64 k ∧ jj = .int .i64 A.length ∧ Hid (A = escL (l.take k)) ∧ A.length ≤ N ∧ Hid (wl.heap[wo.heap.size]? = some (.cells (fill A N).toArray 5 (0, 0))) ∧ Below w.heap.size w wl) (fun _ ii _ => l.length - (intOf ii).toNat)
          case atStart => exact ⟨0, [], Nat.zero_le _, rfl, rfl, Lib.hid (by simp [escL]), Nat.zero_le _, Lib.hid hrow, hb2⟩
          case round =>
            obtain ⟨k, A, hk, rfl, rfl, hA, hAN, hrw, hbl⟩ := hrel
            by_cases hlt : k < l.length
            · have hst := escL_step l k hlt
              have hle := escL_take_le l (k + 1)
              rw [hst, List.length_append, ← hA.out, ← HN.out] at hle
              rw [← hA.out] at hst
              have HST := Lib.hid hst; clear hst
              have hb256 : (at_ l k).toNat < 256 := (at_ l k).toNat_lt
              have hb256i : ((at_ l k).toNat : Int) < 256 := by omega
              cases hE : isE (at_ l k) with
              | false =>
                have hB1 : escB (at_ l k) = [at_ l k] := by simp [escB, hE]
                have q1 : wr.cell? ⟨q, (at_ l k).toNat, none⟩ = some (.slice none 0 0) := by rw [hbl.cell (p := ⟨q, _, none⟩) hqlt]; exact HNIL.out _ hE
                rw [hB1] at hle HST; clear hB1 hE
                have hAlt : A.length < N := by simp at hle; omega
                have b1 : wr.cell? ⟨wo.heap.size, A.length, none⟩ = some (.int .u8 0) := by rw [cell_of_row _ _ _ _ _ _ hrw.out]; simpa using fill_get A N hAlt
                have b2 : wr.frozen? ⟨wo.heap.size, A.length, none⟩ = false := frozen_of_row _ _ _ _ _ hrw.out
                clear hle
                go_wp2
                go_roundw
                case rel =>
                  refine ⟨k + 1, A ++ [at_ l k], by omega, by go_num, ?_, Lib.hid HST.out.symm, by simp; omega, Lib.hid ?_, bel_set hbl _ _ hwsz⟩
                  · simp
                  · rw [heap_setCell_same _ _ _ _ _ _ hrw.out, List.setIfInBounds_toArray, fill_set A _ N hAlt]
                case measure => simp [intOf]; omega
              | true =>
                have hB1 : escB (at_ l k) = [92, esc (at_ l k)] := by simp [escB, hE]
                obtain ⟨g, c', r1, r2, r3, r4⟩ := HREP.out _ hE
                have q1 : wr.cell? ⟨q, (at_ l k).toNat, none⟩ = some (.slice (some ⟨g, 0, none⟩) 2 c') := by rw [hbl.cell (p := ⟨q, _, none⟩) hqlt]; exact r1
                rw [hB1] at hle HST; clear hB1 hE
                have hAlt : A.length + 2 ≤ N := by simpa using hle
                have r3' : wr.cell? ⟨g, 0, none⟩ = some (.int .u8 92) := by rw [hbl.cell (p := ⟨g, _, none⟩) r2]; exact r3
                have r4' : wr.cell? ⟨g, 1, none⟩ = some (.int .u8 (esc (at_ l k)).toNat) := by rw [hbl.cell (p := ⟨g, _, none⟩) r2]; exact r4
                clear hle r1 r3 r4
                go_wp2
                have hNA : ¬ N = A.length := by omega
                have hmn : (Lib.byteCells [92, esc (at_ l k)]).length = Nat.min 2 (N - A.length) := by
                  rw [Lib.byteCells_length]; show 2 = min 2 (N - A.length); omega
                have hsrc : ∀ j v, (Lib.byteCells [92, esc (at_ l k)])[j]? = some v → wr.drew.cell? ((⟨g, 0, none⟩ : Addr).add j) = some v := by
                  intro j v hj
                  rcases j with _ | _ | j
                  · simp [Lib.byteCells] at hj; subst hj; simpa [Addr.add] using r3'
                  · simp [Lib.byteCells] at hj; subst hj; simpa [Addr.add] using r4'
                  · simp [Lib.byteCells] at hj
                have hfit : A.length + (Lib.byteCells [92, esc (at_ l k)]).length ≤ (fill A N).length := by
                  rw [Lib.byteCells_length, fill_length A N hAN]; exact hAlt
                have hone : ∀ v ∈ Lib.byteCells [92, esc (at_ l k)], v.oneCell' = true := by
                  intro v hv; simp [Lib.byteCells] at hv; rcases hv with rfl | rfl <;> rfl
                have HMN := Lib.hid hmn; have HSRC := Lib.hid hsrc; have HONE := Lib.hid hone
                have hrd : wr.drew.heap[wo.heap.size]? = some (.cells (fill A N).toArray 5 (0, 0)) := hrw.out
                have HRD := Lib.hid hrd; have HFIT := Lib.hid hfit
                clear hmn hsrc hone hrd hfit r3' r4'
                go_region_law (refine step_copy_splice rfl (.tmp 105) (.tmp 111) 66 66 rfl 5 Tryz.underlying66 (by kernel_rfl) (some ⟨wo.heap.size, A.length, none⟩) (some ⟨g, 0, none⟩) (N - A.length) (N - A.length) 2 c' (by simp [Act.eval, Act.put, hNA]) (by simp [Act.eval, Act.put]) wo.heap.size A.length (fill A N) 5 HRD.out (Lib.byteCells [92, esc (at_ l k)]) HMN.out (fun _ => ⟨rfl, ⟨g, 0, none⟩, rfl, HSRC.out⟩) HFIT.out HONE.out w.heap.size w hbl.drew hwsz ?_; intro w2 hw2 hbl2)
                have hcsl : (Lib.byteCells [92, esc (at_ l k)]).length = 2 := rfl
                go_wp2
                go_roundw
                case rel =>
                  refine ⟨k + 1, A ++ [92, esc (at_ l k)], by omega, by go_num, ?_, Lib.hid HST.out.symm, by simp; omega, Lib.hid ?_, hbl2⟩
                  · simp
                  · rw [hw2.out, fill_splice A _ N (by simp; omega)]
                case measure => simp [intOf]; omega
            · have hkk : k = l.length := by omega
              have hAe : A = escL l := by rw [hA.out, hkk, List.take_length]
              subst hAe
              have hcv := conv_fill wr wo.heap.size (escL l) N HN.out 5 hrw.out
              go_wp2
              go_ret
              exact ⟨rfl, hbl⟩

end Go.Proofs.YtepgjaecfoaenaaGreatDoor
