/- The walk of the Store's Add, whole. Conditions: the Store lies in memory; the type is formed, and reads below the Store. -/
import Derived.Test.YtplnfepdikbpfaaGreatDoorPW
import Derived.Test.YtplnfepdikbpfaaGreatDoorST3
import Derived.Test.YtplnfepdikbpfaaGreatDoorUV
namespace Go.Proofs.YtplnfepdikbpfaaGreatDoor
open Go.RowKit
open Go.Maps (Keyed)
open Go.Proofs.YtplnfepdikbpfaaGreatDoorW.PrintLast
set_option linter.unusedVariables false
set_option linter.unusedSimpArgs false
attribute [local go_sem ↓] Go.wp_at_zero Go.wp_at_succ

theorem okL_take {l : List Ty} {d : Int} (h : okL l d = true) (k : Nat) : okL (l.take k) d = true := by
  induction l generalizing k with
  | nil => simpa using h
  | cons a l ih =>
    cases k with
    | zero => rfl
    | succ k =>
      simp only [okL, Bool.and_eq_true] at h
      simp only [List.take_succ_cons, okL, Bool.and_eq_true]
      exact ⟨h.1, ih h.2 k⟩
theorem partsL_take (l : List Ty) (k : Nat) (h : k < l.length) : partsL (l.take k) + partsT (tyAt l k) ≤ partsL l := by
  have e : partsL l = partsL (l.take k) + partsL (l.drop k) := by
    conv => lhs; rw [← List.take_append_drop k l]
    rw [partsL_append]
  rw [e, List.drop_eq_getElem_cons h, tyAt_get h]
  simp [partsL]
theorem length_parts (l : List Ty) : l.length ≤ partsL l := by
  induction l with
  | nil => simp
  | cons a l ih => have := partsT_pos a; simp [partsL]; omega

def AddAt (t : Ty) : Prop := ∀ (w : World) (base p : Nat) (ok : Nat → Prop) (R : Rows) (s : Sto) (d : Int) (val : Value), StoAt w base p ok R s → ValT (fun b => b < base) w val t → okT t d = true → s.n + partsT t ≤ 1000000000 →
  Calls Tryz.prog 49 #[.pointer (some ⟨p, 0, none⟩), val] w (AddPost w base p ok R t s)

set_option maxRecDepth 100000 in
set_option maxHeartbeats 8000000 in
theorem add_seen (w : World) (base p : Nat) (ok : Nat → Prop) (R : Rows) (s : Sto) (h : StoAt w base p ok R s) (m nm : List UInt8) (xs : List Ty) (v : Int) (hv0 : 0 ≤ v) (hv1 : v ≤ 1048576) (i : Nat) (hof : s.ofAt v = some i) (A0 : Option Addr) (c0 n0 : Nat) :
    Calls Tryz.prog 49 #[.pointer (some ⟨p, 0, none⟩), .agg #[.int .i64 6, .string (S m), .string (S nm), .slice A0 n0 c0, .int .i64 v]] w (AddPost w base p ok R (.mk 6 m nm xs v) s) := by
  obtain ⟨c, hlook, hc⟩ := h.rows.look h.of v (by omega) (by omega)
  rw [hof, hc i hof] at hlook
  have hrow0 := h.rows.alloc (.cells #[.int .i64 6, .string (S m), .string (S nm), .slice A0 n0 c0, .int .i64 v] 24)
  have S2 := Lib.hid (show (w.alloc (.cells #[.int .i64 6, .string (S m), .string (S nm), .slice A0 n0 c0, .int .i64 v] 24)).drew.cell? ⟨p, 4, none⟩ = some (.map (some R.m)) ∧ (w.alloc (.cells #[.int .i64 6, .string (S m), .string (S nm), .slice A0 n0 c0, .int .i64 v] 24)).drew.cell? ⟨w.heap.size, 4, none⟩ = some (.int .i64 v) ∧ (Instr.lookup 79 (.map (some R.m)) (.int .i64 v) true).run Tryz.prog (w.alloc (.cells #[.int .i64 6, .string (S m), .string (S nm), .slice A0 n0 c0, .int .i64 v] 24)).drew = .ok (.tuple #[.int .i64 (i : Int), .bool true]) (w.alloc (.cells #[.int .i64 6, .string (S m), .string (S nm), .slice A0 n0 c0, .int .i64 v] 24)).drew from
    ⟨hrow0.drew.cells.2.2.2.2.1, by simp, by simpa using hlook _ hrow0.drew⟩)
  have H := Lib.hid h; have HOF := Lib.hid hof
  clear h hlook hrow0 hof hc
  go_enter Tryz.func49, Tryz.ntmps49
  go_wp2_with fail
  refine start_ (n := 12) (S := fun w' => w'.cell? ⟨p, 4, none⟩ = some (.map (some R.m)) ∧ w'.cell? ⟨w.heap.size, 4, none⟩ = some (.int .i64 v) ∧ (Instr.lookup 79 (.map (some R.m)) (.int .i64 v) true).run Tryz.prog w' = .ok (.tuple #[.int .i64 (i : Int), .bool true]) w') (ds := []) (bs 12 0) (by kernel_rfl) rfl rfl ⟨S2.out.1, S2.out.2.1, S2.out.2.2⟩ (fun hHeld => ?_)
  refine pu 0 17 (bs 12 1) ?_
  refine pu 1 18 (bs 12 3) ?_
  refine pu 2 19 (bs 12 7) ?_
  refine pu 4 21 (bs 12 23) ?_
  refine tk 3 20 (bs 12 31) hHeld ?_
  refine tk 5 22 (bs 12 63) hHeld ?_
  refine tk 6 23 (bs 12 127) hHeld ?_
  refine pu 7 16 (bs 12 255) ?_
  refine pu 8 24 (bs 12 511) ?_
  refine pu 9 25 (bs 12 1023) ?_
  refine pu 10 5 (bs 12 2047) ?_
  refine pu 11 6 (bs 12 4095) ?_
  refine done_ (by kernel_rfl) ?_
  go_wp2
  go_ret
  have ea : addT (.mk 6 m nm xs v) s = (i, s) := addT_some rfl HOF.out
  have hb : Below w.heap.size w (w.alloc (.cells #[.int .i64 6, .string (S m), .string (S nm), .slice A0 n0 c0, .int .i64 v] 24)).drew := bel_drew (bel_alloc (Below.refl _ _) _)
  exact ⟨(congrArg (fun z : Nat × Sto => Ending.returned (Value.int .i64 (z.1 : Int))) ea).symm, R, by rw [ea]; exact (H.out.bel hb).weak (fun b hb => .inl hb) (fun b hb2 => hb2.elim (fun h => Nat.lt_of_lt_of_le (H.out.okl b h) hb.size) (fun h => h.2)), Tn.bel hb _, fun z e => .inl e⟩

set_option maxRecDepth 100000 in
set_option maxHeartbeats 32000000 in
theorem add_made (k : Int) (m nm : List UInt8) (xs : List Ty) (v : Int) (hk : ¬ k = 6) (ih : ∀ a ∈ xs, AddAt a) (w : World) (base p : Nat) (ok : Nat → Prop) (R : Rows) (s : Sto) (d : Int) (h : StoAt w base p ok R s) (hm : m.length ≤ 281474976710656) (hnm : nm.length ≤ 281474976710656) (hokL : okL xs (d + 1) = true) (hfew : s.n + partsL xs + 1 ≤ 1000000000)
    (A0 : Option Addr) (c0 : Nat) (hlen : xs.length ≤ 1000) (hrd : RdL (fun b => b < base) w (.slice A0 xs.length c0) xs) :
    Calls Tryz.prog 49 #[.pointer (some ⟨p, 0, none⟩), .agg #[.int .i64 k, .string (S m), .string (S nm), .slice A0 xs.length c0, .int .i64 v]] w (AddPost w base p ok R (.mk k m nm xs v) s) := by
  have hk6 : (k == 6) = false := by simpa using hk
  have hbase : base ≤ w.heap.size := by have := h.rows.plt; have := h.rows.bp; omega
  have H := Lib.hid h; have HRD := Lib.hid hrd; have HIH := Lib.hid ih; have HOKL := Lib.hid hokL
  clear h hrd ih hokL
  go_enter Tryz.func49, Tryz.ntmps49
  go_wp2_with fail
  obtain ⟨w5, hw5⟩ : ∃ w5, w5 = w.alloc (.cells #[.int .i64 k, .string (S m), .string (S nm), .slice A0 xs.length c0, .int .i64 v] 24) := ⟨_, rfl⟩
  rw [← hw5]
  have T5 := Lib.hid (show Below w.heap.size w w5 by rw [hw5]; exact bel_alloc (Below.refl _ _) _)
  have QC5 := Lib.hid (show (w5.cell? ⟨w.heap.size, 0, none⟩ = some (.int .i64 k) ∧ w5.cell? ⟨w.heap.size, 1, none⟩ = some (.string (S m)) ∧ w5.cell? ⟨w.heap.size, 2, none⟩ = some (.string (S nm)) ∧ w5.cell? ⟨w.heap.size, 3, none⟩ = some (.slice A0 xs.length c0) ∧ w5.cell? ⟨w.heap.size, 4, none⟩ = some (.int .i64 v)) ∧ ∀ o, w5.frozen? ⟨w.heap.size, o, none⟩ = false by rw [hw5]; refine ⟨⟨?_, ?_, ?_, ?_, ?_⟩, fun o => ?_⟩ <;> simp)
  have hsz5 : w5.heap.size = w.heap.size + 1 := by rw [hw5]; simp
  have nqo := Lib.hid (fresh_of H.out.rows (Nat.le_refl w.heap.size))
  clear hw5
  go_loopw [7, 31] (fun a i wr => ∃ (j : Nat) (Rj : Rows), j ≤ xs.length ∧ i = .int .i64 j ∧ Hid (StoAt wr base p (fun b => ok b ∨ (w5.heap.size ≤ b ∧ b < wr.heap.size ∧ a.ownBlock ≠ some b)) Rj (addL (xs.take j) s).2) ∧ Hid (Tn (R.own p) w5 wr) ∧ Hid (∀ z, Rj.own p z → R.own p z ∨ w5.heap.size ≤ z) ∧ Hid (wr.ownsRow w5.heap.size 3 1 a j ((addL (xs.take j) s).1.map (fun (x : Nat) => Value.int .i64 (x : Int)))) ∧ Hid (∀ z, a.ownBlock = some z → ¬ Rj.own p z)) (fun _ i _ => xs.length - (intOf i).toNat)
  case atStart =>
    refine ⟨0, R, Nat.zero_le _, rfl, Lib.hid ?_, Lib.hid (Tn.refl _ _), Lib.hid (fun z e => .inl e), Lib.hid ?_, Lib.hid (fun z e => by cases e)⟩
    · rw [List.take_zero, addL_nil]
      exact (H.out.bel T5.out).weak (fun b hb => .inl hb) (fun b hb => hb.elim (fun hb => Nat.lt_of_lt_of_le (H.out.okl b hb) T5.out.size) (fun hb => hb.2.1))
    · rw [List.take_zero, addL_nil]
      exact World.ownsRow_nil _ _ _ _
  case round =>
    obtain ⟨j, Rj, hj, rfl, HS, HT, HO, HW, HNU⟩ := hrel
    have hszr := HT.out.size
    have hrow := HW.out.lt
    have HROW := Lib.hid hrow
    have nqj := Lib.hid (show ¬ Rj.own p w.heap.size from fun e => (HO.out _ e).elim nqo.out (fun h => by omega))
    have HRDr := Lib.hid (show RdL (fun b => b < base) wr (.slice A0 xs.length c0) xs from HRD.out.turn (fun b h => h) fun b o h => (HT.out.cell (by omega) (fun e => by have := (H.out.lt b e).1; omega) o).trans (T5.out.cell (p := ⟨b, o, none⟩) (by show b < _; omega)))
    have hc5 : ∀ o, wr.cell? ⟨w.heap.size, o, none⟩ = w5.cell? ⟨w.heap.size, o, none⟩ := fun o => HT.out.cell (by omega) nqo.out o
    obtain ⟨⟨g0, g1, g2, g3, g4⟩, gf5⟩ := QC5.out
    have r0 := (hc5 0).trans g0
    have r1 := (hc5 1).trans g1
    have r2 := (hc5 2).trans g2
    have r3 := (hc5 3).trans g3
    have r4 := (hc5 4).trans g4
    have rf : ∀ o, wr.frozen? ⟨w.heap.size, o, none⟩ = false := fun o => (HT.out.frozen (by omega) nqo.out o).trans (gf5 o)
    clear hc5 g0 g1 g2 g3 g4 gf5 hrow
    have lqr : w.heap.size < wr.heap.size := by omega
    obtain ⟨i0, ii, hzz⟩ := Option.map_eq_some_iff.1 infoI
    simp only [Prod.mk.injEq] at hzz
    obtain ⟨iz0, iz1, iz2⟩ := hzz
    by_cases hlt : j < xs.length
    · obtain ⟨-, -, hel⟩ := HRDr.out.at_
      obtain ⟨b, off, rfl, hbb, hel⟩ := hel (by omega)
      obtain ⟨A1, c1, e0, e1, e2, e3, e4, hrd1, hok1⟩ := hel j hlt
      have HRD1 := Lib.hid hrd1
      have hmem := tyAt_mem hlt
      have HSTEP := Lib.hid (show addL (xs.take (j + 1)) s = ((addL (xs.take j) s).1 ++ [(addT (tyAt xs j) (addL (xs.take j) s).2).1], (addT (tyAt xs j) (addL (xs.take j) s).2).2) by rw [take_ty xs j hlt, addL_snoc])
      have hokj := okL_mem HOKL.out _ hmem
      have hpj : (addL (xs.take j) s).2.n + partsT (tyAt xs j) ≤ 1000000000 := by
        have h1 := (addL_ok (fun t (_ : t ∈ xs.take j) => addT_ok t) s (d + 1) H.out.sok (okL_take HOKL.out j)).2.2.2
        have h2 := partsL_take xs j hlt
        omega
      clear hel hrd1
      go_wp2_with fail
      have W1 := Lib.hid (show Below wr.heap.size wr (wr.alloc (.cells #[.int .i64 (tyAt xs j).kind, .string (S (tyAt xs j).mod), .string (S (tyAt xs j).name), .slice A1 (tyAt xs j).args.length c1, .int .i64 (tyAt xs j).var] 24)) from bel_alloc (Below.refl _ _) _)
      refine (HIH.out _ hmem _ base p _ Rj _ (d + 1) (.agg #[.int .i64 (tyAt xs j).kind, .string (S (tyAt xs j).mod), .string (S (tyAt xs j).name), .slice A1 (tyAt xs j).args.length c1, .int .i64 (tyAt xs j).var]) (HS.out.bel W1.out) ⟨hok1, A1, c1, rfl, HRD1.out.turn (fun b h => h) fun b o h => W1.out.cell (p := ⟨b, o, none⟩) (by show b < _; omega)⟩ hokj hpj).mono ?_
      rintro e w1 ⟨rfl, R1, hS1, hT1, hO1⟩
      obtain ⟨id1, hid1⟩ : ∃ id1, id1 = (addT (tyAt xs j) (addL (xs.take j) s).2).1 := ⟨_, rfl⟩
      obtain ⟨s1, hs1⟩ : ∃ s1, s1 = (addT (tyAt xs j) (addL (xs.take j) s).2).2 := ⟨_, rfl⟩
      rw [← hs1] at hS1
      rw [← hid1]
      rw [← hid1, ← hs1] at HSTEP
      obtain ⟨ids, hids⟩ : ∃ ids, ids = (addL (xs.take j) s).1 := ⟨_, rfl⟩
      rw [← hids] at HSTEP HW
      have hidl : ids.length = j := by rw [hids, addL_length, List.length_take]; omega
      have hsz1 : wr.heap.size + 1 ≤ w1.heap.size := by have := hT1.size; simp at this; omega
      have hnu1 : ∀ z, u7.ownBlock = some z → ¬ R1.own p z := fun z e e2 => by
        have h1 := HROW.out z e
        rcases hO1 z e2 with h2 | h2
        · exact HNU.out z e h2
        · simp at h2; omega
      have HNU1 := Lib.hid hnu1
      have HW1 := Lib.hid (show (w1.alloc (.cells #[.int .i64 (id1 : Int)] 3)).ownsRow w5.heap.size 3 1 u7 j (ids.map (fun (x : Nat) => Value.int .i64 (x : Int))) from
        World.ownsRow.alloc (row_turn (World.ownsRow.alloc HW.out _) hT1 (fun z e => HNU.out z e)) _)
      have hq1 : j + 1 ≤ maxLen := by unfold maxLen; omega
      have hq2 : (j + 1) * 8 ≤ 140737488355328 := by omega
      have hq3 : w5.heap.size ≤ (w1.alloc (.cells #[.int .i64 (id1 : Int)] 3)).heap.size := by simp; omega
      have HQ := Lib.hid (And.intro hq1 (And.intro hq2 hq3))
      have TW1 := Lib.hid (show Tn (R.own p) w5 w1 from HT.out.then (((Tn.bel W1.out _).trans hT1)) (fun z e => HO.out z e))
      have HS1 := Lib.hid hS1; have HO1 := Lib.hid hO1; have HIDS := Lib.hid hids
      clear hS1 hT1 hO1 hnu1 hq1 hq2 hq3 e0 e1 e2 e3 e4 r0 r1 r2 r3 r4 rf hs1 hid1 hids
      go_wp2_with (at_builtin; refine wpList_append_own_at (w1.alloc (.cells #[.int .i64 (id1 : Int)] 3)) rfl (.tmp 35) (.tmp 39) 62 rfl w5.heap.size 3 i0 _ 1 8 Tryz.underlying62 ii iz0 iz1 iz2 rfl (by decide) u7 j _ rfl HW1.out ⟨w1.heap.size, 0, none⟩ 1 1 [.int .i64 (id1 : Int)] rfl rfl (cell_one_new _ _ _) (by intro u hu; simp at hu; subst hu; rfl) HQ.out.1 HQ.out.2.1 HQ.out.2.2 ?_; intro v1 w2 hown2 hg2 _ hat2)
      have hT2 : Tn (fun z => u7.ownBlock = some z) w1 w2 := (Tn.alloc _ _ _).trans (Tn.gb hg2 fun z e => .inl e)
      have hsz2 := hT2.size
      have hat3 : ∀ z, v1.ownBlock = some z → u7.ownBlock = some z ∨ w1.heap.size ≤ z := fun z e => by
        rcases hat2 with e2 | e2
        · exact .inl (e2 ▸ e)
        · rw [e2] at e; simp at e; exact .inr (by omega)
      go_wp2
      go_roundw
      case rel =>
        refine ⟨j + 1, R1, by omega, by go_num, Lib.hid ?_, Lib.hid ?_, Lib.hid ?_, Lib.hid ?_, Lib.hid ?_⟩
        · rw [HSTEP.out]
          refine (HS1.out.turn hT2 (fun z e hz => ⟨?_, HNU1.out z e⟩)).weak ?_ ?_
          · have h1 := HROW.out z e
            rintro ((h2 | h2) | h2)
            · have := H.out.okl z h2; omega
            · exact h2.2.2 e
            · simp at h2; omega
          · rintro z ((h2 | h2) | h2)
            · exact .inl h2
            · exact .inr ⟨h2.1, by omega, fun e => (hat3 z e).elim h2.2.2 (fun h => by omega)⟩
            · refine .inr ⟨by simp at h2; omega, by simp at h2; omega, fun e => ?_⟩
              rcases hat3 z e with h3 | h3
              · have := HROW.out z h3; simp at h2; omega
              · have := h2.2; omega
          · rintro z (h2 | h2)
            · have := H.out.okl z h2; omega
            · exact h2.2.1
        · exact TW1.out.then hT2 (fun z e => .inr (HROW.out z e).1)
        · intro z e
          rcases HO1.out z e with h1 | h1
          · exact HO.out z h1
          · exact .inr (by simp at h1; omega)
        · rw [HSTEP.out, List.map_append]; exact hown2
        · intro z e e2
          rcases hat3 z e with h1 | h1
          · exact HNU1.out z h1 e2
          · have := (HS1.out.lt z e2).2; omega
      case measure => simp [intOf]; omega
    · obtain rfl : j = xs.length := by omega
      rw [List.take_length] at HS HW
      obtain ⟨s1, hs1⟩ : ∃ s1, s1 = (addL xs s).2 := ⟨_, rfl⟩
      obtain ⟨ids, hids⟩ : ∃ ids, ids = (addL xs s).1 := ⟨_, rfl⟩
      rw [← hs1] at HS
      rw [← hids] at HW
      have hidl : ids.length = xs.length := by rw [hids, addL_length]
      have hAL := addL_ok (fun t (_ : t ∈ xs) => addT_ok t) s (d + 1) H.out.sok HOKL.out
      rw [← hs1, ← hids] at hAL
      have HAL := Lib.hid hAL
      have hnn := HS.out.n
      have hpl := length_parts xs
      obtain ⟨Ak, ck, hu7, -, -⟩ := row_shape HW.out
      subst hu7
      obtain ⟨An, cn0, en, -, -⟩ := row_shape HS.out.rows.rn
      have p0 : wr.cell? ⟨p, 0, none⟩ = some (.slice An s1.n cn0) := by rw [HS.out.rows.cells.1, en, hnn.1]
      have hfew1 : s1.n + 1 ≤ 1000000000 := by have := hAL.2.2.2; omega
      have HL := Lib.hid hidl
      have HS1 := Lib.hid hs1; have HIDS := Lib.hid hids
      clear en hAL hidl hs1 hids
      have lt1 : ¬ ((xs.length : Int) < (xs.length : Int)) := by omega
      go_wp2_with fail
      obtain ⟨w7, hw7⟩ : ∃ w7, w7 = wr.setCell ⟨w.heap.size, 3, none⟩ (.slice none 0 0) := ⟨_, rfl⟩
      rw [← hw7]
      obtain ⟨R1, hR1e⟩ : ∃ R1 : Rows, R1 = Rj := ⟨_, rfl⟩
      have TQ : Tn (fun z => z = w.heap.size) wr w7 := by rw [hw7]; exact Tn.set _ _ _ _ (.inl rfl)
      have HR1 := Lib.hid (show RowsAt w7 base p R1 by rw [hR1e]; exact HS.out.rows.turn TQ (fun z e e2 => nqj.out (e2 ▸ e)))
      have HNQ := Lib.hid (show ¬ R1.own p w.heap.size by rw [hR1e]; exact nqj.out)
      have LQ := Lib.hid (show w.heap.size < w7.heap.size by have := TQ.size; omega)
      have T7 := Lib.hid (show Tn (fun z => R.own p z ∨ z = w.heap.size) w w7 from ((Tn.bel T5.out _).trans (HT.out.mono fun z e => .inl (.inl e))).trans (TQ.mono fun z e => .inl (.inr e)))
      have HTQ := Lib.hid TQ
      have QC := Lib.hid (show w7.cell? ⟨w.heap.size, 0, none⟩ = some (.int .i64 k) ∧ w7.cell? ⟨w.heap.size, 1, none⟩ = some (.string (S m)) ∧ w7.cell? ⟨w.heap.size, 2, none⟩ = some (.string (S nm)) ∧ w7.cell? ⟨w.heap.size, 3, none⟩ = some (.slice none 0 0) ∧ w7.cell? ⟨w.heap.size, 4, none⟩ = some (.int .i64 v) by
        have ot : ∀ i, i ≠ 3 → w7.cell? ⟨w.heap.size, i, none⟩ = wr.cell? ⟨w.heap.size, i, none⟩ := fun i hi => by rw [hw7]; exact World.cell?_setCell_other _ _ _ _ (by intro e; simp only [Addr.mk.injEq] at e; exact hi e.2.1.symm)
        exact ⟨(ot 0 (by omega)).trans r0, (ot 1 (by omega)).trans r1, (ot 2 (by omega)).trans r2, by rw [hw7]; exact World.cell?_setCell_same _ _ _ r3, (ot 4 (by omega)).trans r4⟩)
      have HE1 := Lib.hid hR1e
      obtain ⟨N, hN⟩ : ∃ N, N = s1.n := ⟨_, rfl⟩
      rw [← hN]
      have HN := Lib.hid hN
      have HQ1_17 := Lib.hid (show R1.nn + 1 ≤ maxLen by rw [hR1e]; unfold maxLen; omega)
      have HQ2_17 := Lib.hid (show (R1.nn + 1) * 96 ≤ 140737488355328 by rw [hR1e]; omega)
      have HQ1b_17 := Lib.hid (show R1.nu + 1 ≤ maxLen by rw [hR1e]; unfold maxLen; omega)
      have HQ2b_17 := Lib.hid (show (R1.nu + 1) * 8 ≤ 140737488355328 by rw [hR1e]; omega)
      have HQL := Lib.hid (show R1.nl + 1 ≤ maxLen ∧ (R1.nl + 1) * 8 ≤ 140737488355328 ∧ R1.ns + 1 ≤ maxLen ∧ (R1.ns + 1) * 8 ≤ 140737488355328 by rw [hR1e]; unfold maxLen; omega)
      have HFIN := Lib.hid (show ∀ (w15 : World) (R3 : Rows), RowsAt w15 base p R3 → Tn (R1.own p) w7 w15 → (∀ z, R3.own p z → R1.own p z ∨ w7.heap.size ≤ z) →
          R3.cn = R1.cn ++ [.int .i64 k, .string (S m), .string (S nm), .slice none 0 0, .int .i64 v, .slice Ak xs.length ck] → R3.nn = R1.nn + 1 → R3.cu = R1.cu ++ [.int .i64 (N : Int)] → R3.nu = R1.nu + 1 → R3.cl = R1.cl ++ [.int .i64 (-1)] → R3.nl = R1.nl + 1 → R3.cs = R1.cs ++ [.int .i64 (N : Int)] → R3.ns = R1.ns + 1 → R3.ct = R1.ct → R3.nt = R1.nt → R3.mm = R1.mm → R3.D = R1.D →
          AddPost w base p ok R (.mk k m nm xs v) s (.returned (.int .i64 (N : Int))) w15 from by
        intro w15 R3 hR3 hT3 hO3 e1 e2 e3 e4 e5 e6 e7 e8 e9 e10 e11 e12
        have ea : addT (.mk k m nm xs v) s = _ := addT_made hk
        rw [← HS1.out, ← HIDS.out] at ea
        have hszr2 := HTQ.out.size
        have hsz3 := hT3.size
        have hS7 : StoAt w7 base p (fun b => ok b ∨ (w5.heap.size ≤ b ∧ b < wr.heap.size ∧ (Value.slice Ak xs.length ck).ownBlock ≠ some b)) R1 s1 := by
          rw [HE1.out]
          exact HS.out.turn HTQ.out (fun z e hz => by
            subst e
            exact ⟨fun h => h.elim (fun h => by have := H.out.okl _ h; omega) (fun h => by omega), nqj.out⟩)
        have o1 : ∀ z, R1.own p z → R.own p z ∨ w5.heap.size ≤ z := fun z e => by rw [HE1.out] at e; exact HO.out z e
        have hT : Tn (R.own p) w w15 := (T7.out.mono (fun z e => e.elim .inl (fun e => .inr (by omega)))).then hT3 (fun z e => (o1 z e).imp id (fun h => by omega))
        have hO : ∀ z, R3.own p z → R.own p z ∨ w.heap.size ≤ z := fun z e => (hO3 z e).elim (fun e => (o1 z e).imp id (fun h => by omega)) (fun h => .inr (by omega))
        have hkids : RdN (fun b => (ok b ∨ (w.heap.size ≤ b ∧ b < w15.heap.size)) ∧ ¬ R3.own p b) w15 (.slice Ak ids.length ck) ids := by
          have hwl := row_shape HW.out
          obtain ⟨A9, c9, he9, hc9, -⟩ := hwl
          injection he9 with _ _ he10
          refine ⟨Ak, ck, rfl, by rw [HL.out]; omega, by rw [HL.out]; exact hlen, fun hne => ?_⟩
          have hpos : 0 < xs.length := by rw [← HL.out]; exact List.length_pos_iff.2 hne
          obtain ⟨g, c10, he11, -, -, hg, hcell, -⟩ := row_cells HW.out hpos
          injection he11 with he12 _ _
          have hgo := HROW.out g (by rw [he12]; rfl)
          have hgn : ¬ R1.own p g := by rw [HE1.out]; exact HNU.out g (by rw [he12]; rfl)
          refine ⟨g, 0, he12, ⟨.inr ⟨by omega, by omega⟩, fun e => (hO3 g e).elim hgn (fun h => by omega)⟩, fun i u hu => ?_⟩
          rw [Nat.zero_add]
          exact (hT3.cell (by omega) hgn i).trans ((HTQ.out.cell hg (by omega) i).trans (hcell i _ (by simp [hu])))
        have hnn := HS.out.n
        have hpl := length_parts xs
        have hs' : StoAt w15 base p (fun b => ok b ∨ (w.heap.size ≤ b ∧ b < w15.heap.size)) R3 (s1.push ⟨k, m, nm, v, ids⟩ (-1) s1.n) := by
          refine hS7.pushed (fun b hb => hb.imp id (fun hb => ⟨by omega, by omega⟩)) (fun b hb => hb.elim (fun hb => Nat.lt_of_lt_of_le (H.out.okl b hb) hT.size) (fun hb => hb.2)) hR3 hT3 hO3 ⟨k, m, nm, v, ids⟩ (-1) s1.n Ak ck rfl rfl rfl rfl (HAL.out.1.push _ _ _ HAL.out.2.1 (.inr rfl)) (by omega) (by have := HAL.out.2.2.2; omega) ?_ ?_ hm hnm hkids ?_ ?_ ?_ ?_ ?_ ?_
          · rw [e2, e4, e6, e8, HE1.out]; omega
          · rw [e1]; simp only [HL.out]
          · rw [e3, HN.out]
          · rw [e5]
          · rw [e7, HN.out]
          · rw [e12, HE1.out]; exact HS.out.of
          · rw [e11, HE1.out]; have := HS.out.mm; omega
          · rw [e9, e10]; exact ⟨rfl, rfl⟩
        exact ⟨by rw [ea, HN.out], R3, by rw [ea]; exact hs', hT, hO⟩)
      obtain ⟨n0, ni, hzz⟩ := Option.map_eq_some_iff.1 infoN
      simp only [Prod.mk.injEq] at hzz
      obtain ⟨nz0, nz1, nz2⟩ := hzz
      clear hw7 hR1e TQ r0 r1 r2 r3 r4 rf hN hnn lt1 hpl hfew1 lqr p0
      have KS17 := Lib.hid (show ∀ X, Tn (fun z => R1.vn.ownBlock = some z ∨ R1.vu.ownBlock = some z) w7 X → (X.cell? ⟨p, 0, none⟩ = some R1.vn ∧ X.cell? ⟨p, 1, none⟩ = some R1.vu ∧ X.cell? ⟨w.heap.size, 0, none⟩ = some (.int .i64 k) ∧ X.cell? ⟨w.heap.size, 1, none⟩ = some (.string (S m)) ∧ X.cell? ⟨w.heap.size, 2, none⟩ = some (.string (S nm)) ∧ X.cell? ⟨w.heap.size, 3, none⟩ = some (.slice none 0 0) ∧ X.cell? ⟨w.heap.size, 4, none⟩ = some (.int .i64 v)) ∧ (∀ o, X.frozen? ⟨p, o, none⟩ = false) from fun X hT => by
        have np : ¬ (R1.vn.ownBlock = some p ∨ R1.vu.ownBlock = some p) := fun e => e.elim (fun e => (HR1.out.ap.n p e).1 rfl) (fun e => (HR1.out.ap.u p e).1 rfl)
        have nq : ¬ (R1.vn.ownBlock = some w.heap.size ∨ R1.vu.ownBlock = some w.heap.size) := fun e => HNQ.out (e.elim (fun e => .inr (.inr (.inl e))) (fun e => .inr (.inr (.inr (.inl e)))))
        have hc := HR1.out.cells
        have lp := HR1.out.plt
        refine ⟨⟨(hT.cell lp np 0).trans hc.1, (hT.cell lp np 1).trans hc.2.1, (hT.cell LQ.out nq 0).trans QC.out.1, (hT.cell LQ.out nq 1).trans QC.out.2.1, (hT.cell LQ.out nq 2).trans QC.out.2.2.1, (hT.cell LQ.out nq 3).trans QC.out.2.2.2.1, (hT.cell LQ.out nq 4).trans QC.out.2.2.2.2⟩, fun o => (hT.frozen lp np o).trans (hc.2.2.2.2.2.2 o)⟩)
      have NU17 := Lib.hid (show ∀ z, R1.vn.ownBlock = some z → z < w7.heap.size from fun z e => (HR1.out.rn.lt z e).2)
      have NV17 := Lib.hid (show ∀ z, R1.vu.ownBlock = some z → ¬ R1.vn.ownBlock = some z from fun z e e2 => (HR1.out.ap.n z e2).2.2.1 e)
      have BB17 := Lib.hid (show base ≤ w7.heap.size from by have := HR1.out.plt; have := HR1.out.bp; omega)
      have HRW17 := Lib.hid HR1.out.rn
      go_wp2_with fail
      refine start_ (n := 24) (S := fun w' => w'.cell? ⟨p, 0, none⟩ = some R1.vn ∧ w'.cell? ⟨p, 1, none⟩ = some R1.vu ∧ w'.cell? ⟨w.heap.size, 0, none⟩ = some (.int .i64 k) ∧ w'.cell? ⟨w.heap.size, 1, none⟩ = some (.string (S m)) ∧ w'.cell? ⟨w.heap.size, 2, none⟩ = some (.string (S nm)) ∧ w'.cell? ⟨w.heap.size, 3, none⟩ = some (.slice none 0 0) ∧ w'.cell? ⟨w.heap.size, 4, none⟩ = some (.int .i64 v)) (ds := [20, 23]) (bs 24 0) (by kernel_rfl) rfl rfl ⟨(KS17.out _ (Tn.bel (bel_drew (Below.refl w7.heap.size w7)) _)).1.1, (KS17.out _ (Tn.bel (bel_drew (Below.refl w7.heap.size w7)) _)).1.2.1, (KS17.out _ (Tn.bel (bel_drew (Below.refl w7.heap.size w7)) _)).1.2.2.1, (KS17.out _ (Tn.bel (bel_drew (Below.refl w7.heap.size w7)) _)).1.2.2.2.1, (KS17.out _ (Tn.bel (bel_drew (Below.refl w7.heap.size w7)) _)).1.2.2.2.2.1, (KS17.out _ (Tn.bel (bel_drew (Below.refl w7.heap.size w7)) _)).1.2.2.2.2.2.1, (KS17.out _ (Tn.bel (bel_drew (Below.refl w7.heap.size w7)) _)).1.2.2.2.2.2.2⟩ (fun hHeld => ?_)
      refine pu 0 61 (bs 24 1) ?_
      refine pu 1 62 (bs 24 3) ?_
      refine pu 2 63 (bs 24 7) ?_
      refine pu 3 64 (bs 24 15) ?_
      refine pu 4 65 (bs 24 31) ?_
      refine pu 7 68 (bs 24 159) ?_
      refine pu 11 72 (bs 24 2207) ?_
      refine pu 12 73 (bs 24 6303) ?_
      refine pu 13 74 (bs 24 14495) ?_
      refine pu 15 76 (bs 24 47263) ?_
      refine tk 5 66 (bs 24 47295) hHeld ?_
      refine tk 6 67 (bs 24 47359) hHeld ?_
      refine pu 8 69 (bs 24 47615) ?_
      refine tk 14 75 (bs 24 63999) hHeld ?_
      refine join_ (σ := Value × Nat × Nat) 7 (bs 24 131071) (fun s => [(70, Value.slice (some ⟨s.2.1, 0, none⟩) 1 1), (71, s.1), (77, Value.slice (some ⟨s.2.2, 0, none⟩) 1 1)]) (fun s w' => FA w7 base 130 6 R1.vn (R1.nn + 1) (R1.cn ++ [.int .i64 k, .string (S m), .string (S nm), .slice none 0 0, .int .i64 v, .slice Ak xs.length ck]) (.int .i64 (N : Int)) s w') ?_ ?_
      rotate_left
      · intro hCont
        refine two_ (i := 9) (j := 16) (Ni := some 70) (Nj := some 77) (bs 24 64511) (bs 24 129535) rfl rfl rfl rfl (by kernel_rfl) (by decide) (by decide) (fun K hK => ?_) (fun K hK => ?_)
        · skip
          refine value_ (w1 := ?_) (v := ?_) (by rfl) rfl ?_ ?_
          rotate_left 2
          · go_simp
            constructor
            · rfl
            · rfl
          refine hK.out _ _ ⟨(KS17.out _ ((Tn.bel (bel_drew (Below.refl w7.heap.size w7)) _).trans (Tn.alloc _ _ _))).1.1, (KS17.out _ ((Tn.bel (bel_drew (Below.refl w7.heap.size w7)) _).trans (Tn.alloc _ _ _))).1.2.1, (KS17.out _ ((Tn.bel (bel_drew (Below.refl w7.heap.size w7)) _).trans (Tn.alloc _ _ _))).1.2.2.1, (KS17.out _ ((Tn.bel (bel_drew (Below.refl w7.heap.size w7)) _).trans (Tn.alloc _ _ _))).1.2.2.2.1, (KS17.out _ ((Tn.bel (bel_drew (Below.refl w7.heap.size w7)) _).trans (Tn.alloc _ _ _))).1.2.2.2.2.1, (KS17.out _ ((Tn.bel (bel_drew (Below.refl w7.heap.size w7)) _).trans (Tn.alloc _ _ _))).1.2.2.2.2.2.1, (KS17.out _ ((Tn.bel (bel_drew (Below.refl w7.heap.size w7)) _).trans (Tn.alloc _ _ _))).1.2.2.2.2.2.2⟩ (fun hHeld => ?_)
          clear hK K
          refine norm_ (a' := ?_) ?_ ?_
          rotate_left
          · show Act.put _ (some 70) _ = _; simp only [Act.put, List.setIfInBounds_toArray, List.set_cons_zero, List.set_cons_succ, i64_w, i32_w]; rfl
          refine two_ (i := 10) (j := 16) (Ni := some 71) (Nj := some 77) (bs 24 65535) (bs 24 130047) rfl rfl rfl rfl (by kernel_rfl) (by decide) (by decide) (fun K hK => ?_) (fun K hK => ?_)
          · skip
            refine step_append_at _ (by rfl) (.tmp 66) (.tmp 70) 123 (by rfl) base 130 n0 _ 6 96 Tryz.underlying123 ni nz0 nz1 nz2 rfl (by decide) R1.vn R1.nn R1.cn (by rfl) (World.ownsRow.alloc HRW17.out _) ⟨w7.heap.size, 0, none⟩ 1 1 [.int .i64 k, .string (S m), .string (S nm), .slice none 0 0, .int .i64 v, .slice Ak xs.length ck] (by rfl) rfl (fun j u hj => by rcases j with _ | _ | _ | _ | _ | _ | j <;> simp at hj <;> subst hj <;> simp [Addr.add]) (by intro u hu; simp at hu; rcases hu with rfl | rfl | rfl | rfl | rfl | rfl <;> rfl) HQ1_17.out HQ2_17.out (Nat.le_trans BB17.out (show Tn (fun _ => False) w7 _ from ((Tn.bel (bel_drew (Below.refl w7.heap.size w7)) _).trans (Tn.alloc _ _ _))).size) ?_
            intro v8 w8 hown8 hg8 hat8
            have TX17 := Lib.hid ((((Tn.bel (bel_drew (Below.refl w7.heap.size w7)) _).trans (Tn.alloc _ _ _))).trans (Tn.gb (O := fun z => R1.vn.ownBlock = some z ∨ R1.vu.ownBlock = some z) hg8 (fun z e => .inl (.inl e))))
            refine hK.out _ _ ⟨(KS17.out _ TX17.out).1.1, (KS17.out _ TX17.out).1.2.1, (KS17.out _ TX17.out).1.2.2.1, (KS17.out _ TX17.out).1.2.2.2.1, (KS17.out _ TX17.out).1.2.2.2.2.1, (KS17.out _ TX17.out).1.2.2.2.2.2.1, (KS17.out _ TX17.out).1.2.2.2.2.2.2⟩ (fun hHeld => ?_)
            clear hK K
            refine norm_ (a' := ?_) ?_ ?_
            rotate_left
            · show Act.put _ (some 71) _ = _; simp only [Act.put, List.setIfInBounds_toArray, List.set_cons_zero, List.set_cons_succ, i64_w, i32_w]; rfl
            refine one_ (i := 16) (N := some 77) (bs 24 131071) rfl rfl (by kernel_rfl) (by decide) (fun K hK => ?_)
            refine value_ (w1 := ?_) (v := ?_) (by rfl) rfl ?_ ?_
            rotate_left 2
            · go_simp
              constructor
              · rfl
              · rfl
            refine hK.out _ _ ⟨(KS17.out _ ((TX17.out).trans (Tn.alloc _ _ _))).1.1, (KS17.out _ ((TX17.out).trans (Tn.alloc _ _ _))).1.2.1, (KS17.out _ ((TX17.out).trans (Tn.alloc _ _ _))).1.2.2.1, (KS17.out _ ((TX17.out).trans (Tn.alloc _ _ _))).1.2.2.2.1, (KS17.out _ ((TX17.out).trans (Tn.alloc _ _ _))).1.2.2.2.2.1, (KS17.out _ ((TX17.out).trans (Tn.alloc _ _ _))).1.2.2.2.2.2.1, (KS17.out _ ((TX17.out).trans (Tn.alloc _ _ _))).1.2.2.2.2.2.2⟩ (fun hHeld => ?_)
            clear hK K
            refine norm_ (a' := ?_) ?_ ?_
            rotate_left
            · show Act.put _ (some 77) _ = _; simp only [Act.put, List.setIfInBounds_toArray, List.set_cons_zero, List.set_cons_succ, i64_w, i32_w]; rfl
            exact norm_ (by simp only [putAll, Act.put, List.setIfInBounds_toArray, List.set_cons_zero, List.set_cons_succ]) (hCont (v8, w7.heap.size, w8.heap.size) _ (FA.one NU17.out hown8 hg8 hat8 _))
          · skip
            refine value_ (w1 := ?_) (v := ?_) (by rfl) rfl ?_ ?_
            rotate_left 2
            · go_simp
              constructor
              · rfl
              · rfl
            refine hK.out _ _ ⟨(KS17.out _ (((Tn.bel (bel_drew (Below.refl w7.heap.size w7)) _).trans (Tn.alloc _ _ _)).trans (Tn.alloc _ _ _))).1.1, (KS17.out _ (((Tn.bel (bel_drew (Below.refl w7.heap.size w7)) _).trans (Tn.alloc _ _ _)).trans (Tn.alloc _ _ _))).1.2.1, (KS17.out _ (((Tn.bel (bel_drew (Below.refl w7.heap.size w7)) _).trans (Tn.alloc _ _ _)).trans (Tn.alloc _ _ _))).1.2.2.1, (KS17.out _ (((Tn.bel (bel_drew (Below.refl w7.heap.size w7)) _).trans (Tn.alloc _ _ _)).trans (Tn.alloc _ _ _))).1.2.2.2.1, (KS17.out _ (((Tn.bel (bel_drew (Below.refl w7.heap.size w7)) _).trans (Tn.alloc _ _ _)).trans (Tn.alloc _ _ _))).1.2.2.2.2.1, (KS17.out _ (((Tn.bel (bel_drew (Below.refl w7.heap.size w7)) _).trans (Tn.alloc _ _ _)).trans (Tn.alloc _ _ _))).1.2.2.2.2.2.1, (KS17.out _ (((Tn.bel (bel_drew (Below.refl w7.heap.size w7)) _).trans (Tn.alloc _ _ _)).trans (Tn.alloc _ _ _))).1.2.2.2.2.2.2⟩ (fun hHeld => ?_)
            clear hK K
            refine norm_ (a' := ?_) ?_ ?_
            rotate_left
            · show Act.put _ (some 77) _ = _; simp only [Act.put, List.setIfInBounds_toArray, List.set_cons_zero, List.set_cons_succ, i64_w, i32_w]; rfl
            refine one_ (i := 10) (N := some 71) (bs 24 131071) rfl rfl (by kernel_rfl) (by decide) (fun K hK => ?_)
            refine step_append_at _ (by rfl) (.tmp 66) (.tmp 70) 123 (by rfl) base 130 n0 _ 6 96 Tryz.underlying123 ni nz0 nz1 nz2 rfl (by decide) R1.vn R1.nn R1.cn (by rfl) (World.ownsRow.alloc (World.ownsRow.alloc HRW17.out _) _) ⟨w7.heap.size, 0, none⟩ 1 1 [.int .i64 k, .string (S m), .string (S nm), .slice none 0 0, .int .i64 v, .slice Ak xs.length ck] (by rfl) rfl (fun j u hj => by rcases j with _ | _ | _ | _ | _ | _ | j <;> simp at hj <;> subst hj <;> simp [Addr.add]) (by intro u hu; simp at hu; rcases hu with rfl | rfl | rfl | rfl | rfl | rfl <;> rfl) HQ1_17.out HQ2_17.out (Nat.le_trans BB17.out (show Tn (fun _ => False) w7 _ from (((Tn.bel (bel_drew (Below.refl w7.heap.size w7)) _).trans (Tn.alloc _ _ _)).trans (Tn.alloc _ _ _))).size) ?_
            intro v8 w8 hown8 hg8 hat8
            have TX17 := Lib.hid (((((Tn.bel (bel_drew (Below.refl w7.heap.size w7)) _).trans (Tn.alloc _ _ _)).trans (Tn.alloc _ _ _))).trans (Tn.gb (O := fun z => R1.vn.ownBlock = some z ∨ R1.vu.ownBlock = some z) hg8 (fun z e => .inl (.inl e))))
            refine hK.out _ _ ⟨(KS17.out _ TX17.out).1.1, (KS17.out _ TX17.out).1.2.1, (KS17.out _ TX17.out).1.2.2.1, (KS17.out _ TX17.out).1.2.2.2.1, (KS17.out _ TX17.out).1.2.2.2.2.1, (KS17.out _ TX17.out).1.2.2.2.2.2.1, (KS17.out _ TX17.out).1.2.2.2.2.2.2⟩ (fun hHeld => ?_)
            clear hK K
            refine norm_ (a' := ?_) ?_ ?_
            rotate_left
            · show Act.put _ (some 71) _ = _; simp only [Act.put, List.setIfInBounds_toArray, List.set_cons_zero, List.set_cons_succ, i64_w, i32_w]; rfl
            exact norm_ (by simp only [putAll, Act.put, List.setIfInBounds_toArray, List.set_cons_zero, List.set_cons_succ]) (hCont (v8, w7.heap.size, w7.heap.size + 1) _ (FA.two NU17.out hown8 hg8 hat8 _))
        · skip
          refine value_ (w1 := ?_) (v := ?_) (by rfl) rfl ?_ ?_
          rotate_left 2
          · go_simp
            constructor
            · rfl
            · rfl
          refine hK.out _ _ ⟨(KS17.out _ ((Tn.bel (bel_drew (Below.refl w7.heap.size w7)) _).trans (Tn.alloc _ _ _))).1.1, (KS17.out _ ((Tn.bel (bel_drew (Below.refl w7.heap.size w7)) _).trans (Tn.alloc _ _ _))).1.2.1, (KS17.out _ ((Tn.bel (bel_drew (Below.refl w7.heap.size w7)) _).trans (Tn.alloc _ _ _))).1.2.2.1, (KS17.out _ ((Tn.bel (bel_drew (Below.refl w7.heap.size w7)) _).trans (Tn.alloc _ _ _))).1.2.2.2.1, (KS17.out _ ((Tn.bel (bel_drew (Below.refl w7.heap.size w7)) _).trans (Tn.alloc _ _ _))).1.2.2.2.2.1, (KS17.out _ ((Tn.bel (bel_drew (Below.refl w7.heap.size w7)) _).trans (Tn.alloc _ _ _))).1.2.2.2.2.2.1, (KS17.out _ ((Tn.bel (bel_drew (Below.refl w7.heap.size w7)) _).trans (Tn.alloc _ _ _))).1.2.2.2.2.2.2⟩ (fun hHeld => ?_)
          clear hK K
          refine norm_ (a' := ?_) ?_ ?_
          rotate_left
          · show Act.put _ (some 77) _ = _; simp only [Act.put, List.setIfInBounds_toArray, List.set_cons_zero, List.set_cons_succ, i64_w, i32_w]; rfl
          refine one_ (i := 9) (N := some 70) (bs 24 130047) rfl rfl (by kernel_rfl) (by decide) (fun K hK => ?_)
          refine value_ (w1 := ?_) (v := ?_) (by rfl) rfl ?_ ?_
          rotate_left 2
          · go_simp
            constructor
            · rfl
            · rfl
          refine hK.out _ _ ⟨(KS17.out _ (((Tn.bel (bel_drew (Below.refl w7.heap.size w7)) _).trans (Tn.alloc _ _ _)).trans (Tn.alloc _ _ _))).1.1, (KS17.out _ (((Tn.bel (bel_drew (Below.refl w7.heap.size w7)) _).trans (Tn.alloc _ _ _)).trans (Tn.alloc _ _ _))).1.2.1, (KS17.out _ (((Tn.bel (bel_drew (Below.refl w7.heap.size w7)) _).trans (Tn.alloc _ _ _)).trans (Tn.alloc _ _ _))).1.2.2.1, (KS17.out _ (((Tn.bel (bel_drew (Below.refl w7.heap.size w7)) _).trans (Tn.alloc _ _ _)).trans (Tn.alloc _ _ _))).1.2.2.2.1, (KS17.out _ (((Tn.bel (bel_drew (Below.refl w7.heap.size w7)) _).trans (Tn.alloc _ _ _)).trans (Tn.alloc _ _ _))).1.2.2.2.2.1, (KS17.out _ (((Tn.bel (bel_drew (Below.refl w7.heap.size w7)) _).trans (Tn.alloc _ _ _)).trans (Tn.alloc _ _ _))).1.2.2.2.2.2.1, (KS17.out _ (((Tn.bel (bel_drew (Below.refl w7.heap.size w7)) _).trans (Tn.alloc _ _ _)).trans (Tn.alloc _ _ _))).1.2.2.2.2.2.2⟩ (fun hHeld => ?_)
          clear hK K
          refine norm_ (a' := ?_) ?_ ?_
          rotate_left
          · show Act.put _ (some 70) _ = _; simp only [Act.put, List.setIfInBounds_toArray, List.set_cons_zero, List.set_cons_succ, i64_w, i32_w]; rfl
          refine one_ (i := 10) (N := some 71) (bs 24 131071) rfl rfl (by kernel_rfl) (by decide) (fun K hK => ?_)
          refine step_append_at _ (by rfl) (.tmp 66) (.tmp 70) 123 (by rfl) base 130 n0 _ 6 96 Tryz.underlying123 ni nz0 nz1 nz2 rfl (by decide) R1.vn R1.nn R1.cn (by rfl) (World.ownsRow.alloc (World.ownsRow.alloc HRW17.out _) _) ⟨(w7.heap.size + 1), 0, none⟩ 1 1 [.int .i64 k, .string (S m), .string (S nm), .slice none 0 0, .int .i64 v, .slice Ak xs.length ck] (by rfl) rfl (fun j u hj => by rcases j with _ | _ | _ | _ | _ | _ | j <;> simp at hj <;> subst hj <;> simp [Addr.add]) (by intro u hu; simp at hu; rcases hu with rfl | rfl | rfl | rfl | rfl | rfl <;> rfl) HQ1_17.out HQ2_17.out (Nat.le_trans BB17.out (show Tn (fun _ => False) w7 _ from (((Tn.bel (bel_drew (Below.refl w7.heap.size w7)) _).trans (Tn.alloc _ _ _)).trans (Tn.alloc _ _ _))).size) ?_
          intro v8 w8 hown8 hg8 hat8
          have TX17 := Lib.hid (((((Tn.bel (bel_drew (Below.refl w7.heap.size w7)) _).trans (Tn.alloc _ _ _)).trans (Tn.alloc _ _ _))).trans (Tn.gb (O := fun z => R1.vn.ownBlock = some z ∨ R1.vu.ownBlock = some z) hg8 (fun z e => .inl (.inl e))))
          refine hK.out _ _ ⟨(KS17.out _ TX17.out).1.1, (KS17.out _ TX17.out).1.2.1, (KS17.out _ TX17.out).1.2.2.1, (KS17.out _ TX17.out).1.2.2.2.1, (KS17.out _ TX17.out).1.2.2.2.2.1, (KS17.out _ TX17.out).1.2.2.2.2.2.1, (KS17.out _ TX17.out).1.2.2.2.2.2.2⟩ (fun hHeld => ?_)
          clear hK K
          refine norm_ (a' := ?_) ?_ ?_
          rotate_left
          · show Act.put _ (some 71) _ = _; simp only [Act.put, List.setIfInBounds_toArray, List.set_cons_zero, List.set_cons_succ, i64_w, i32_w]; rfl
          exact norm_ (by simp only [putAll, Act.put, List.setIfInBounds_toArray, List.set_cons_zero, List.set_cons_succ]) (hCont (v8, w7.heap.size + 1, w7.heap.size) _ (FA.three NU17.out hown8 hg8 hat8 _))
      rintro ⟨v8, mA, mB⟩ w9 hF9
      obtain ⟨A8, c8, hv8, -, -⟩ := row_shape hF9.own
      have hv8 : v8 = .slice A8 (R1.nn + 1) c8 := hv8
      subst hv8
      have hHeld := (KS17.out w9 (hF9.tn.mono (fun z e => .inl (.inl e)))).1
      refine norm_ (a' := ?_) ?_ ?_
      rotate_left
      · simp only [putAll, Act.put, List.setIfInBounds_toArray, List.set_cons_zero, List.set_cons_succ]
        rfl
      refine one_ (i := 17) (N := some 78) (bs 24 262143) rfl rfl (by kernel_rfl) (by decide) (fun K hK => ?_)
      refine step_append_at w9 (by rfl) (.tmp 75) (.tmp 77) 62 (by rfl) base 3 i0 _ 1 8 Tryz.underlying62 ii iz0 iz1 iz2 rfl (by decide) R1.vu R1.nu R1.cu (by rfl) (row_turn HR1.out.ru hF9.tn NV17.out) ⟨mB, 0, none⟩ 1 1 [.int .i64 (N : Int)] (by rfl) rfl (news_one hF9.blk) (by intro u hu; simp at hu; subst hu; rfl) HQ1b_17.out HQ2b_17.out (Nat.le_trans BB17.out hF9.tn.size) ?_
      intro v10 w10 hown10 hg10 hat10
      obtain ⟨A10, c10, hv10, -, -⟩ := row_shape hown10
      subst hv10
      have T10 := Lib.hid ((hF9.tn.mono (fun z e => .inl (.inl e))).trans (Tn.gb (O := fun z => R1.vn.ownBlock = some z ∨ R1.vu.ownBlock = some z) hg10 (fun z e => .inl (.inr e))))
      have c0w := (KS17.out w10 T10.out).1.1
      have c1w := (KS17.out w10 T10.out).1.2.1
      have f0w := (KS17.out w10 T10.out).2 0
      have f1w := (KS17.out w10 T10.out).2 1
      refine hK.out _ _ ⟨(KS17.out _ T10.out).1.1, (KS17.out _ T10.out).1.2.1, (KS17.out _ T10.out).1.2.2.1, (KS17.out _ T10.out).1.2.2.2.1, (KS17.out _ T10.out).1.2.2.2.2.1, (KS17.out _ T10.out).1.2.2.2.2.2.1, (KS17.out _ T10.out).1.2.2.2.2.2.2⟩ (fun hHeld => ?_)
      clear hK K
      refine norm_ (a' := ?_) ?_ ?_
      rotate_left
      · show Act.put _ (some 78) _ = _; simp only [Act.put, List.setIfInBounds_toArray, List.set_cons_zero, List.set_cons_succ, i64_w, i32_w]; rfl
      refine pu 18 79 (bs 24 524287) ?_
      refine pu 19 80 (bs 24 1048575) ?_
      refine last_ (i := 20) (N := none) (bs 24 2097151) rfl rfl (by kernel_rfl) (by decide) (fun K hK => ?_)
      refine skip_ (w1 := ?_) (by rfl) rfl ?_ ?_
      rotate_left
      · go_simp
        rfl
      refine hK.out _ _ ?_
      clear hK K
      refine pu 21 81 (bs 24 4194303) ?_
      refine pu 22 82 (bs 24 8388607) ?_
      refine last_ (i := 23) (N := none) (bs 24 16777215) rfl rfl (by kernel_rfl) (by decide) (fun K hK => ?_)
      refine skip_ (w1 := ?_) (by rfl) rfl ?_ ?_
      rotate_left
      · go_simp
        rfl
      refine hK.out _ _ ?_
      clear hK K
      refine done_ (by kernel_rfl) ?_
      obtain ⟨w11, hw11⟩ : ∃ w11, w11 = (w10.setCell ⟨p, 0, none⟩ (.slice A8 (R1.nn + 1) c8)).setCell ⟨p, 1, none⟩ (.slice A10 (R1.nu + 1) c10) := ⟨_, rfl⟩
      have hP := HR1.out.pairNU hF9 hown10 hg10 hat10
      rw [← hw11] at hP ⊢
      obtain ⟨hR2, hT2, hO2⟩ := hP
      obtain ⟨R2, hR2e⟩ : ∃ R2 : Rows, R2 = { R1 with vn := .slice A8 (R1.nn + 1) c8, nn := R1.nn + 1, cn := R1.cn ++ [.int .i64 k, .string (S m), .string (S nm), .slice none 0 0, .int .i64 v, .slice Ak xs.length ck], vu := .slice A10 (R1.nu + 1) c10, nu := R1.nu + 1, cu := R1.cu ++ [.int .i64 (N : Int)] } := ⟨_, rfl⟩
      rw [← hR2e] at hR2 hO2
      have HR2 := Lib.hid hR2; have HT2 := Lib.hid hT2; have HO2 := Lib.hid hO2; have HE2 := Lib.hid hR2e
      have HQ1_18 := Lib.hid (show R2.nl + 1 ≤ maxLen by rw [HE2.out]; exact HQL.out.1)
      have HQ2_18 := Lib.hid (show (R2.nl + 1) * 8 ≤ 140737488355328 by rw [HE2.out]; exact HQL.out.2.1)
      have HQ1b_18 := Lib.hid (show R2.ns + 1 ≤ maxLen by rw [HE2.out]; exact HQL.out.2.2.1)
      have HQ2b_18 := Lib.hid (show (R2.ns + 1) * 8 ≤ 140737488355328 by rw [HE2.out]; exact HQL.out.2.2.2)
      clear hw11 hR2 hT2 hO2 hR2e hF9 hown10 hg10 hat10 hHeld T10 c0w c1w f0w f1w KS17 HRW17 NU17 NV17 BB17
      have KS18 := Lib.hid (show ∀ X, Tn (fun z => R2.vl.ownBlock = some z ∨ R2.vs.ownBlock = some z) w11 X → (X.cell? ⟨p, 2, none⟩ = some R2.vl ∧ X.cell? ⟨p, 3, none⟩ = some R2.vs) ∧ (∀ o, X.frozen? ⟨p, o, none⟩ = false) from fun X hT => by
        have np : ¬ (R2.vl.ownBlock = some p ∨ R2.vs.ownBlock = some p) := fun e => e.elim (fun e => (HR2.out.ap.l p e).1 rfl) (fun e => (HR2.out.ap.s p e).1 rfl)
        have hc := HR2.out.cells
        have lp := HR2.out.plt
        refine ⟨⟨(hT.cell lp np 2).trans hc.2.2.1, (hT.cell lp np 3).trans hc.2.2.2.1⟩, fun o => (hT.frozen lp np o).trans (hc.2.2.2.2.2.2 o)⟩)
      have NU18 := Lib.hid (show ∀ z, R2.vl.ownBlock = some z → z < w11.heap.size from fun z e => (HR2.out.rl.lt z e).2)
      have NV18 := Lib.hid (show ∀ z, R2.vs.ownBlock = some z → ¬ R2.vl.ownBlock = some z from fun z e e2 => (HR2.out.ap.l z e2).2.2.1 e)
      have BB18 := Lib.hid (show base ≤ w11.heap.size from by have := HR2.out.plt; have := HR2.out.bp; omega)
      have HRW18 := Lib.hid HR2.out.rl
      go_wp2_with fail
      refine start_ (n := 22) (S := fun w' => w'.cell? ⟨p, 2, none⟩ = some R2.vl ∧ w'.cell? ⟨p, 3, none⟩ = some R2.vs) (ds := [18, 21]) (bs 22 0) (by kernel_rfl) rfl rfl ⟨(KS18.out _ (Tn.bel (bel_drew (Below.refl w11.heap.size w11)) _)).1.1, (KS18.out _ (Tn.bel (bel_drew (Below.refl w11.heap.size w11)) _)).1.2⟩ (fun hHeld => ?_)
      refine pu 0 83 (bs 22 1) ?_
      refine pu 1 84 (bs 22 3) ?_
      refine pu 2 85 (bs 22 7) ?_
      refine pu 3 86 (bs 22 15) ?_
      refine pu 4 87 (bs 22 31) ?_
      refine pu 6 89 (bs 22 95) ?_
      refine pu 9 92 (bs 22 607) ?_
      refine pu 10 93 (bs 22 1631) ?_
      refine pu 11 94 (bs 22 3679) ?_
      refine pu 13 96 (bs 22 11871) ?_
      refine tk 5 88 (bs 22 11903) hHeld ?_
      refine tk 12 95 (bs 22 15999) hHeld ?_
      refine join_ (σ := Value × Nat × Nat) 7 (bs 22 32767) (fun s => [(90, Value.slice (some ⟨s.2.1, 0, none⟩) 1 1), (91, s.1), (97, Value.slice (some ⟨s.2.2, 0, none⟩) 1 1)]) (fun s w' => FA w11 base 3 1 R2.vl (R2.nl + 1) (R2.cl ++ [.int .i64 (-1)]) (.int .i64 (N : Int)) s w') ?_ ?_
      rotate_left
      · intro hCont
        refine two_ (i := 7) (j := 14) (Ni := some 90) (Nj := some 97) (bs 22 16127) (bs 22 32383) rfl rfl rfl rfl (by kernel_rfl) (by decide) (by decide) (fun K hK => ?_) (fun K hK => ?_)
        · skip
          refine value_ (w1 := ?_) (v := ?_) (by rfl) rfl ?_ ?_
          rotate_left 2
          · go_simp
            constructor
            · rfl
            · rfl
          refine hK.out _ _ ⟨(KS18.out _ ((Tn.bel (bel_drew (Below.refl w11.heap.size w11)) _).trans (Tn.alloc _ _ _))).1.1, (KS18.out _ ((Tn.bel (bel_drew (Below.refl w11.heap.size w11)) _).trans (Tn.alloc _ _ _))).1.2⟩ (fun hHeld => ?_)
          clear hK K
          refine norm_ (a' := ?_) ?_ ?_
          rotate_left
          · show Act.put _ (some 90) _ = _; simp only [Act.put, List.setIfInBounds_toArray, List.set_cons_zero, List.set_cons_succ, i64_w, i32_w]; rfl
          refine two_ (i := 8) (j := 14) (Ni := some 91) (Nj := some 97) (bs 22 16383) (bs 22 32511) rfl rfl rfl rfl (by kernel_rfl) (by decide) (by decide) (fun K hK => ?_) (fun K hK => ?_)
          · skip
            refine step_append_at _ (by rfl) (.tmp 88) (.tmp 90) 62 (by rfl) base 3 i0 _ 1 8 Tryz.underlying62 ii iz0 iz1 iz2 rfl (by decide) R2.vl R2.nl R2.cl (by rfl) (World.ownsRow.alloc HRW18.out _) ⟨w11.heap.size, 0, none⟩ 1 1 [.int .i64 (-1)] (by rfl) rfl (fun j u hj => by rcases j with _ | j <;> simp at hj <;> subst hj <;> simp [Addr.add]) (by intro u hu; simp at hu; rcases hu with rfl <;> rfl) HQ1_18.out HQ2_18.out (Nat.le_trans BB18.out (show Tn (fun _ => False) w11 _ from ((Tn.bel (bel_drew (Below.refl w11.heap.size w11)) _).trans (Tn.alloc _ _ _))).size) ?_
            intro v12 w12 hown8 hg8 hat8
            have TX18 := Lib.hid ((((Tn.bel (bel_drew (Below.refl w11.heap.size w11)) _).trans (Tn.alloc _ _ _))).trans (Tn.gb (O := fun z => R2.vl.ownBlock = some z ∨ R2.vs.ownBlock = some z) hg8 (fun z e => .inl (.inl e))))
            refine hK.out _ _ ⟨(KS18.out _ TX18.out).1.1, (KS18.out _ TX18.out).1.2⟩ (fun hHeld => ?_)
            clear hK K
            refine norm_ (a' := ?_) ?_ ?_
            rotate_left
            · show Act.put _ (some 91) _ = _; simp only [Act.put, List.setIfInBounds_toArray, List.set_cons_zero, List.set_cons_succ, i64_w, i32_w]; rfl
            refine one_ (i := 14) (N := some 97) (bs 22 32767) rfl rfl (by kernel_rfl) (by decide) (fun K hK => ?_)
            refine value_ (w1 := ?_) (v := ?_) (by rfl) rfl ?_ ?_
            rotate_left 2
            · go_simp
              constructor
              · rfl
              · rfl
            refine hK.out _ _ ⟨(KS18.out _ ((TX18.out).trans (Tn.alloc _ _ _))).1.1, (KS18.out _ ((TX18.out).trans (Tn.alloc _ _ _))).1.2⟩ (fun hHeld => ?_)
            clear hK K
            refine norm_ (a' := ?_) ?_ ?_
            rotate_left
            · show Act.put _ (some 97) _ = _; simp only [Act.put, List.setIfInBounds_toArray, List.set_cons_zero, List.set_cons_succ, i64_w, i32_w]; rfl
            exact norm_ (by simp only [putAll, Act.put, List.setIfInBounds_toArray, List.set_cons_zero, List.set_cons_succ]) (hCont (v12, w11.heap.size, w12.heap.size) _ (FA.one NU18.out hown8 hg8 hat8 _))
          · skip
            refine value_ (w1 := ?_) (v := ?_) (by rfl) rfl ?_ ?_
            rotate_left 2
            · go_simp
              constructor
              · rfl
              · rfl
            refine hK.out _ _ ⟨(KS18.out _ (((Tn.bel (bel_drew (Below.refl w11.heap.size w11)) _).trans (Tn.alloc _ _ _)).trans (Tn.alloc _ _ _))).1.1, (KS18.out _ (((Tn.bel (bel_drew (Below.refl w11.heap.size w11)) _).trans (Tn.alloc _ _ _)).trans (Tn.alloc _ _ _))).1.2⟩ (fun hHeld => ?_)
            clear hK K
            refine norm_ (a' := ?_) ?_ ?_
            rotate_left
            · show Act.put _ (some 97) _ = _; simp only [Act.put, List.setIfInBounds_toArray, List.set_cons_zero, List.set_cons_succ, i64_w, i32_w]; rfl
            refine one_ (i := 8) (N := some 91) (bs 22 32767) rfl rfl (by kernel_rfl) (by decide) (fun K hK => ?_)
            refine step_append_at _ (by rfl) (.tmp 88) (.tmp 90) 62 (by rfl) base 3 i0 _ 1 8 Tryz.underlying62 ii iz0 iz1 iz2 rfl (by decide) R2.vl R2.nl R2.cl (by rfl) (World.ownsRow.alloc (World.ownsRow.alloc HRW18.out _) _) ⟨w11.heap.size, 0, none⟩ 1 1 [.int .i64 (-1)] (by rfl) rfl (fun j u hj => by rcases j with _ | j <;> simp at hj <;> subst hj <;> simp [Addr.add]) (by intro u hu; simp at hu; rcases hu with rfl <;> rfl) HQ1_18.out HQ2_18.out (Nat.le_trans BB18.out (show Tn (fun _ => False) w11 _ from (((Tn.bel (bel_drew (Below.refl w11.heap.size w11)) _).trans (Tn.alloc _ _ _)).trans (Tn.alloc _ _ _))).size) ?_
            intro v12 w12 hown8 hg8 hat8
            have TX18 := Lib.hid (((((Tn.bel (bel_drew (Below.refl w11.heap.size w11)) _).trans (Tn.alloc _ _ _)).trans (Tn.alloc _ _ _))).trans (Tn.gb (O := fun z => R2.vl.ownBlock = some z ∨ R2.vs.ownBlock = some z) hg8 (fun z e => .inl (.inl e))))
            refine hK.out _ _ ⟨(KS18.out _ TX18.out).1.1, (KS18.out _ TX18.out).1.2⟩ (fun hHeld => ?_)
            clear hK K
            refine norm_ (a' := ?_) ?_ ?_
            rotate_left
            · show Act.put _ (some 91) _ = _; simp only [Act.put, List.setIfInBounds_toArray, List.set_cons_zero, List.set_cons_succ, i64_w, i32_w]; rfl
            exact norm_ (by simp only [putAll, Act.put, List.setIfInBounds_toArray, List.set_cons_zero, List.set_cons_succ]) (hCont (v12, w11.heap.size, w11.heap.size + 1) _ (FA.two NU18.out hown8 hg8 hat8 _))
        · skip
          refine value_ (w1 := ?_) (v := ?_) (by rfl) rfl ?_ ?_
          rotate_left 2
          · go_simp
            constructor
            · rfl
            · rfl
          refine hK.out _ _ ⟨(KS18.out _ ((Tn.bel (bel_drew (Below.refl w11.heap.size w11)) _).trans (Tn.alloc _ _ _))).1.1, (KS18.out _ ((Tn.bel (bel_drew (Below.refl w11.heap.size w11)) _).trans (Tn.alloc _ _ _))).1.2⟩ (fun hHeld => ?_)
          clear hK K
          refine norm_ (a' := ?_) ?_ ?_
          rotate_left
          · show Act.put _ (some 97) _ = _; simp only [Act.put, List.setIfInBounds_toArray, List.set_cons_zero, List.set_cons_succ, i64_w, i32_w]; rfl
          refine one_ (i := 7) (N := some 90) (bs 22 32511) rfl rfl (by kernel_rfl) (by decide) (fun K hK => ?_)
          refine value_ (w1 := ?_) (v := ?_) (by rfl) rfl ?_ ?_
          rotate_left 2
          · go_simp
            constructor
            · rfl
            · rfl
          refine hK.out _ _ ⟨(KS18.out _ (((Tn.bel (bel_drew (Below.refl w11.heap.size w11)) _).trans (Tn.alloc _ _ _)).trans (Tn.alloc _ _ _))).1.1, (KS18.out _ (((Tn.bel (bel_drew (Below.refl w11.heap.size w11)) _).trans (Tn.alloc _ _ _)).trans (Tn.alloc _ _ _))).1.2⟩ (fun hHeld => ?_)
          clear hK K
          refine norm_ (a' := ?_) ?_ ?_
          rotate_left
          · show Act.put _ (some 90) _ = _; simp only [Act.put, List.setIfInBounds_toArray, List.set_cons_zero, List.set_cons_succ, i64_w, i32_w]; rfl
          refine one_ (i := 8) (N := some 91) (bs 22 32767) rfl rfl (by kernel_rfl) (by decide) (fun K hK => ?_)
          refine step_append_at _ (by rfl) (.tmp 88) (.tmp 90) 62 (by rfl) base 3 i0 _ 1 8 Tryz.underlying62 ii iz0 iz1 iz2 rfl (by decide) R2.vl R2.nl R2.cl (by rfl) (World.ownsRow.alloc (World.ownsRow.alloc HRW18.out _) _) ⟨(w11.heap.size + 1), 0, none⟩ 1 1 [.int .i64 (-1)] (by rfl) rfl (fun j u hj => by rcases j with _ | j <;> simp at hj <;> subst hj <;> simp [Addr.add]) (by intro u hu; simp at hu; rcases hu with rfl <;> rfl) HQ1_18.out HQ2_18.out (Nat.le_trans BB18.out (show Tn (fun _ => False) w11 _ from (((Tn.bel (bel_drew (Below.refl w11.heap.size w11)) _).trans (Tn.alloc _ _ _)).trans (Tn.alloc _ _ _))).size) ?_
          intro v12 w12 hown8 hg8 hat8
          have TX18 := Lib.hid (((((Tn.bel (bel_drew (Below.refl w11.heap.size w11)) _).trans (Tn.alloc _ _ _)).trans (Tn.alloc _ _ _))).trans (Tn.gb (O := fun z => R2.vl.ownBlock = some z ∨ R2.vs.ownBlock = some z) hg8 (fun z e => .inl (.inl e))))
          refine hK.out _ _ ⟨(KS18.out _ TX18.out).1.1, (KS18.out _ TX18.out).1.2⟩ (fun hHeld => ?_)
          clear hK K
          refine norm_ (a' := ?_) ?_ ?_
          rotate_left
          · show Act.put _ (some 91) _ = _; simp only [Act.put, List.setIfInBounds_toArray, List.set_cons_zero, List.set_cons_succ, i64_w, i32_w]; rfl
          exact norm_ (by simp only [putAll, Act.put, List.setIfInBounds_toArray, List.set_cons_zero, List.set_cons_succ]) (hCont (v12, w11.heap.size + 1, w11.heap.size) _ (FA.three NU18.out hown8 hg8 hat8 _))
      rintro ⟨v12, mA, mB⟩ w13 hF9
      obtain ⟨A12, c12, hv12, -, -⟩ := row_shape hF9.own
      have hv12 : v12 = .slice A12 (R2.nl + 1) c12 := hv12
      subst hv12
      have hHeld := (KS18.out w13 (hF9.tn.mono (fun z e => .inl (.inl e)))).1
      refine norm_ (a' := ?_) ?_ ?_
      rotate_left
      · simp only [putAll, Act.put, List.setIfInBounds_toArray, List.set_cons_zero, List.set_cons_succ]
        rfl
      refine one_ (i := 15) (N := some 98) (bs 22 65535) rfl rfl (by kernel_rfl) (by decide) (fun K hK => ?_)
      refine step_append_at w13 (by rfl) (.tmp 95) (.tmp 97) 62 (by rfl) base 3 i0 _ 1 8 Tryz.underlying62 ii iz0 iz1 iz2 rfl (by decide) R2.vs R2.ns R2.cs (by rfl) (row_turn HR2.out.rs hF9.tn NV18.out) ⟨mB, 0, none⟩ 1 1 [.int .i64 (N : Int)] (by rfl) rfl (news_one hF9.blk) (by intro u hu; simp at hu; subst hu; rfl) HQ1b_18.out HQ2b_18.out (Nat.le_trans BB18.out hF9.tn.size) ?_
      intro v14 w14 hown10 hg10 hat10
      obtain ⟨A14, c14, hv14, -, -⟩ := row_shape hown10
      subst hv14
      have T10 := Lib.hid ((hF9.tn.mono (fun z e => .inl (.inl e))).trans (Tn.gb (O := fun z => R2.vl.ownBlock = some z ∨ R2.vs.ownBlock = some z) hg10 (fun z e => .inl (.inr e))))
      have c0w := (KS18.out w14 T10.out).1.1
      have c1w := (KS18.out w14 T10.out).1.2
      have f0w := (KS18.out w14 T10.out).2 2
      have f1w := (KS18.out w14 T10.out).2 3
      refine hK.out _ _ ⟨(KS18.out _ T10.out).1.1, (KS18.out _ T10.out).1.2⟩ (fun hHeld => ?_)
      clear hK K
      refine norm_ (a' := ?_) ?_ ?_
      rotate_left
      · show Act.put _ (some 98) _ = _; simp only [Act.put, List.setIfInBounds_toArray, List.set_cons_zero, List.set_cons_succ, i64_w, i32_w]; rfl
      refine pu 16 99 (bs 22 131071) ?_
      refine pu 17 100 (bs 22 262143) ?_
      refine last_ (i := 18) (N := none) (bs 22 524287) rfl rfl (by kernel_rfl) (by decide) (fun K hK => ?_)
      refine skip_ (w1 := ?_) (by rfl) rfl ?_ ?_
      rotate_left
      · go_simp
        rfl
      refine hK.out _ _ ?_
      clear hK K
      refine pu 19 101 (bs 22 1048575) ?_
      refine pu 20 102 (bs 22 2097151) ?_
      refine last_ (i := 21) (N := none) (bs 22 4194303) rfl rfl (by kernel_rfl) (by decide) (fun K hK => ?_)
      refine skip_ (w1 := ?_) (by rfl) rfl ?_ ?_
      rotate_left
      · go_simp
        rfl
      refine hK.out _ _ ?_
      clear hK K
      refine done_ (by kernel_rfl) ?_
      obtain ⟨w15, hw15⟩ : ∃ w15, w15 = (w14.setCell ⟨p, 2, none⟩ (.slice A12 (R2.nl + 1) c12)).setCell ⟨p, 3, none⟩ (.slice A14 (R2.ns + 1) c14) := ⟨_, rfl⟩
      have hP := HR2.out.pairLS hF9 hown10 hg10 hat10
      rw [← hw15] at hP ⊢
      obtain ⟨hR3, hT3, hO3⟩ := hP
      have HFX := Lib.hid (HFIN.out w15 _ hR3 (HT2.out.then hT3 HO2.out) (fun z e => (hO3 z e).elim (HO2.out z) (fun h => .inr (by have := HT2.out.size; omega))) (by rw [HE2.out]) (by rw [HE2.out]) (by rw [HE2.out]) (by rw [HE2.out]) (by rw [HE2.out]) (by rw [HE2.out]) (by rw [HE2.out]) (by rw [HE2.out]) (by rw [HE2.out]) (by rw [HE2.out]) (by rw [HE2.out]) (by rw [HE2.out]))
      clear hw15 hR3 hT3 hO3 hF9 hown10 hg10 hat10 hHeld T10 c0w c1w f0w f1w KS18 HRW18 NU18 NV18 BB18
      go_wp2
      go_ret
      exact HFX.out


theorem Add_calls (t : Ty) : AddAt t := by
  induction t using Ty.ind with
  | h k m nm xs v ih =>
    intro w base p ok R s d val h hv hok hfew
    obtain ⟨⟨hm, hn⟩, A, c, rfl, hrd⟩ := hv
    have eo : okT (.mk k m nm xs v) d = (decide (d ≤ 100) && headB (.mk k m nm xs v) && okL xs (d + 1)) := by simp [okT]
    rw [eo, Bool.and_eq_true, Bool.and_eq_true] at hok
    have ep : partsT (.mk k m nm xs v) = 1 + partsL xs := by simp [partsT]
    rw [ep] at hfew
    by_cases hk : k = 6
    · subst hk
      have hh := hok.1.2
      have eh : headB (.mk 6 m nm xs v) = ((decide (xs.length = 0) && decide (0 ≤ v) && decide (v ≤ 1048576)) && ((6 : Int) == 4 || (m == [] && nm == [])) && ((6 : Int) == 6 || v == 0)) := rfl
      rw [eh] at hh
      simp only [Bool.and_eq_true, decide_eq_true_eq] at hh
      obtain ⟨⟨⟨⟨h1, h2⟩, h3⟩, -⟩, -⟩ := hh
      have has : xs = [] := List.eq_nil_of_length_eq_zero h1
      subst has
      cases hof : s.ofAt v with
      | some i => exact add_seen w base p ok R s h m nm [] v h2 h3 i hof A c 0
      | none => exact add_var w base p ok R s h m nm v hm hn h2 h3 hof (by omega) A c
    · have hlen : xs.length ≤ 1000 := by
        have hh := hok.1.2
        have eh : headB (.mk k m nm xs v) = ((if k = 1 ∨ k = 2 ∨ k = 3 then decide (xs.length = 0)
          else if k = 4 then nameB m false && nameB nm true && decide (xs.length ≤ 12)
          else if k = 5 then decide (1 ≤ xs.length) && decide (xs.length ≤ 13)
          else if k = 6 then decide (xs.length = 0) && decide (0 ≤ v) && decide (v ≤ 1048576)
          else false) && (k == 4 || (m == [] && nm == [])) && (k == 6 || v == 0)) := rfl
        rw [eh] at hh
        simp only [Bool.and_eq_true] at hh
        have h1 := hh.1.1
        split at h1
        · have := of_decide_eq_true h1; omega
        · split at h1
          · simp only [Bool.and_eq_true, decide_eq_true_eq] at h1; omega
          · split at h1
            · simp only [Bool.and_eq_true, decide_eq_true_eq] at h1; omega
            · simp [hk] at h1
      exact add_made k m nm xs v hk ih w base p ok R s d h hm hn hok.2 (by omega) A c hlen hrd

end Go.Proofs.YtplnfepdikbpfaaGreatDoor
