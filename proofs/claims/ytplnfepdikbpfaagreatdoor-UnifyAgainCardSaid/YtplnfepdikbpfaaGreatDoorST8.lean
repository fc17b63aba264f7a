/- What the Store's size leans on: what is known of classes, in a map; how much is known. No condition. The walk of the Store's size. Condition: the Store lies in memory; what is known lies in a map of its own; size's plain function answers. -/
import Derived.Test.YtplnfepdikbpfaaGreatDoorST7
namespace Go.Proofs.YtplnfepdikbpfaaGreatDoor
open Go.RowKit
open Go.Maps (Keyed)
set_option linter.unusedVariables false
set_option linter.unusedSimpArgs false

/-- How an int, and a pair of ints, reads. -/
def RI (v : Value) : Option Int :=
  match v with
  | .int .i64 a => if (Lit.int .i64 a).wf = true then some a else none
  | _ => none
def RP2 (l : List Value) : Option (DataW Unit × List MemPlace) :=
  match l with
  | [x, y] => match RI x, RI y with
    | some a, some b => some (.agg [.lit (.int .i64 a), .lit (.int .i64 b)], [])
    | _, _ => none
  | _ => none
def RP (v : Value) : Option (DataW Unit × List MemPlace) :=
  match v with
  | .agg cs => RP2 cs.toList
  | _ => none
theorem RI_inv {v : Value} {a : Int} (h : RI v = some a) : v = .int .i64 a := by
  unfold RI at h
  split at h
  · split at h
    · obtain rfl := Option.some.inj h; rfl
    · cases h
  · cases h
theorem RP_mk {a b : Int} (ha : (Lit.int .i64 a).wf = true) (hb : (Lit.int .i64 b).wf = true) : RP (.agg #[.int .i64 a, .int .i64 b]) = some (.agg [.lit (.int .i64 a), .lit (.int .i64 b)], []) := by
  simp [RP, RP2, RI, ha, hb]
theorem RP_inv {v : Value} {z : DataW Unit × List MemPlace} (h : RP v = some z) : ∃ a b, v = .agg #[.int .i64 a, .int .i64 b] ∧ z = (.agg [.lit (.int .i64 a), .lit (.int .i64 b)], []) := by
  unfold RP at h
  split at h
  · rename_i cs
    unfold RP2 at h
    split at h
    · rename_i x y e
      split at h
      · rename_i a b ha hb
        refine ⟨a, b, ?_, (Option.some.inj h).symm⟩
        rw [← RI_inv ha, ← RI_inv hb]
        congr 1
        exact Array.toList_inj.1 e
      · cases h
    · cases h
  · cases h
theorem zeroP (w : World) : (zeroValue 127).run Tryz.prog w = .ok (.agg #[.int .i64 0, .int .i64 0]) w := by kernel_rfl

/-- The map tells what is known. -/
def KnIs (D : DataW Unit) (K : Kn) : Prop := Maps.IsMap D ∧ ∀ v : Nat, Maps.has D (.int .i64 (v : Int)) = (knAt K v).isSome ∧ ∀ x, knAt K v = some x → ∀ z, D.atKey (.int .i64 (v : Int)) z = .agg [.lit (.int .i64 x.1), .lit (.int .i64 x.2)]
theorem knAt_cons (u : Nat) (x : Int × Int) (K : Kn) (v : Nat) : knAt ((u, x) :: K) v = if v = u then some x else knAt K v := by
  unfold knAt
  by_cases e : v = u
  · subst e; simp
  · simp [e, Ne.symm e]
theorem knAt_nil (v : Nat) : knAt [] v = none := rfl
theorem KnIs.nil : KnIs (.map []) [] := ⟨Maps.isMap_empty, fun v => ⟨rfl, fun x hx => by simp [knAt] at hx⟩⟩
theorem KnIs.put {D : DataW Unit} {K : Kn} (h : KnIs D K) (u : Nat) (x : Int × Int) : KnIs (D.put (.int .i64 (u : Int)) (.agg [.lit (.int .i64 x.1), .lit (.int .i64 x.2)])) ((u, x) :: K) := by
  have hk : ∀ v : Nat, WideAt.IsKeyLit (.int .i64 (v : Int)) := fun v => trivial
  refine ⟨h.1.put _ _, fun v => ?_⟩
  rw [knAt_cons]
  by_cases e : v = u
  · subst e
    rw [if_pos rfl]
    exact ⟨Maps.has_put_same h.1 (hk v) _, fun y hy z => by rw [Maps.atKey_put_same h.1 (hk v)]; injection hy with hy; rw [hy]⟩
  · rw [if_neg e]
    have hne : (Lit.int .i64 (v : Int)) ≠ .int .i64 (u : Int) := fun e2 => by injection e2 with _ e2; omega
    exact ⟨(Maps.has_put_other hne _).trans (h.2 v).1, fun y hy z => (Maps.atKey_put_other hne _ z).trans ((h.2 v).2 y hy z)⟩

/-- Numbers that are known are small. -/
def KnV (K : Kn) : Prop := ∀ v x, knAt K v = some x → (x.1 = 0 ∧ x.2 = 0) ∨ (1 ≤ x.1 ∧ x.1 ≤ 4001 ∧ 0 ≤ x.2 ∧ x.2 ≤ K.length + 1)
theorem KnV.nil : KnV [] := fun v x h => by simp [knAt] at h
theorem KnV.cons {K : Kn} (h : KnV K) (u : Nat) (x : Int × Int) (hx : (x.1 = 0 ∧ x.2 = 0) ∨ (1 ≤ x.1 ∧ x.1 ≤ 4001 ∧ 0 ≤ x.2 ∧ x.2 ≤ K.length + 2)) : KnV ((u, x) :: K) := by
  intro v y hy
  rw [knAt_cons] at hy
  simp only [List.length_cons]
  split at hy
  · obtain rfl := Option.some.inj hy
    omega
  · have := h v y hy
    omega
/-- How many parts nothing is known of. -/
def unk (s : Sto) (K : Kn) : Nat := (List.range s.n).countP fun j => (knAt K j).isNone
theorem unk_cons (s : Sto) (u : Nat) (x : Int × Int) (K : Kn) : unk s ((u, x) :: K) ≤ unk s K := by
  unfold unk
  refine List.countP_mono_left fun j _ hj => ?_
  rw [knAt_cons] at hj
  split at hj
  · cases hj
  · exact hj
theorem unk_new (s : Sto) (u : Nat) (x : Int × Int) (K : Kn) (hu : u < s.n) (hn : knAt K u = none) : unk s ((u, x) :: K) + 1 = unk s K := by
  unfold unk
  refine countP_flip (fun j => (knAt K j).isNone) (fun j => (knAt ((u, x) :: K) j).isNone) u s.n hu ?_ ?_ ?_
  · simp [hn]
  · simp [knAt_cons]
  · intro j _ hj; simp [knAt_cons, hj]

/-- What size keeps. -/
def SzOk (s : Sto) (K : Kn) (r : Option (Int × Int)) (K' : Kn) : Prop :=
  K'.length + 2 * unk s K' ≤ K.length + 2 * unk s K ∧ K.length ≤ K'.length ∧ KnV K' ∧ ∀ q e, r = some (q, e) → 1 ≤ q ∧ q ≤ 4001 ∧ 0 ≤ e ∧ e ≤ K'.length + 1
theorem size_ok (s : Sto) (hok : s.Ok) : ∀ f, (∀ i K r K', i < s.n → KnV K → sizeF f s i K = some (r, K') → SzOk s K r K') ∧
    (∀ ks p d K r K', (∀ k ∈ ks, k < s.n) → KnV K → 1 ≤ p → p ≤ 4001 → 0 ≤ d → d ≤ (K.length : Int) + 1 → sizeL f s ks p d K = some (r, K') → SzOk s K r K') := by
  intro f
  induction f with
  | zero => exact ⟨fun i K r K' _ _ h => by simp [sizeF] at h, fun ks p d K r K' _ _ _ _ _ _ h => by simp [sizeL] at h⟩
  | succ f ih =>
    constructor
    · intro i K r K' hi hK h
      have hr := Sto.rep_lt hok hi
      rw [sizeF] at h
      cases hk : knAt K (s.repAt i) with
      | some k =>
        rw [hk] at h
        have h := Option.some.inj h
        injection h with h1 h2
        subst h2
        refine ⟨Nat.le_refl _, Nat.le_refl _, hK, fun q e he => ?_⟩
        have := hK _ k hk
        rw [← h1] at he
        split at he
        · obtain rfl := Option.some.inj he
          simp only at *
          omega
        · cases he
      | none =>
        rw [hk] at h
        simp only at h
        split at h
        · have h := Option.some.inj h
          injection h with h1 h2
          subst h2
          refine ⟨Nat.le_refl _, Nat.le_refl _, hK, fun q e he => ?_⟩
          rw [← h1] at he
          have he := Option.some.inj he
          injection he with h3 h4
          omega
        · rename_i hs
          have hx := Sto.solid_lt hok hr hs
          have hkids : ∀ k ∈ (s.ndAt (s.solidAt (s.repAt i)).toNat).kids, k < s.n := fun k hk => by have := hok.kids _ hx k hk; omega
          have hnew := unk_new s (s.repAt i) (0, 0) K hr hk
          have hV := hK.cons (s.repAt i) (0, 0) (.inl ⟨rfl, rfl⟩)
          cases hL : sizeL f s (s.ndAt (s.solidAt (s.repAt i)).toNat).kids 1 0 ((s.repAt i, 0, 0) :: K) with
          | none => rw [hL] at h; cases h
          | some z =>
            obtain ⟨r1, K1⟩ := z
            have h1 := ih.2 _ 1 0 _ _ _ hkids hV (by omega) (by omega) (by omega) (by omega) hL
            rw [hL] at h
            simp only [SzOk, List.length_cons] at h1
            cases r1 with
            | none =>
              have h := Option.some.inj h
              injection h with h2 h3
              subst h2 h3
              exact ⟨by omega, by omega, h1.2.2.1, fun q e he => by cases he⟩
            | some x =>
              obtain ⟨q, e⟩ := x
              have h := Option.some.inj h
              injection h with h2 h3
              subst h2 h3
              have h4 := h1.2.2.2 q e rfl
              have h5 := unk_cons s (s.repAt i) (q, e + 1) K1
              refine ⟨by simp only [List.length_cons]; omega, by simp only [List.length_cons]; omega, h1.2.2.1.cons _ _ (.inr (by simp only; omega)), fun q' e' he => ?_⟩
              have he := Option.some.inj he
              injection he with h6 h7
              simp only [List.length_cons]
              omega
    · intro ks p d K r K' hks hK hp1 hp2 hd1 hd2 h
      cases ks with
      | nil =>
        rw [sizeL] at h
        have h := Option.some.inj h
        injection h with h1 h2
        subst h1 h2
        refine ⟨Nat.le_refl _, Nat.le_refl _, hK, fun q e he => ?_⟩
        have he := Option.some.inj he
        injection he with h3 h4
        omega
      | cons a ks =>
        rw [sizeL] at h
        cases hF : sizeF f s a K with
        | none => rw [hF] at h; cases h
        | some z =>
          obtain ⟨r1, K1⟩ := z
          have h1 := ih.1 a K r1 K1 (hks a (by simp)) hK hF
          rw [hF] at h
          cases r1 with
          | none =>
            have h := Option.some.inj h
            injection h with h2 h3
            subst h2 h3
            exact h1
          | some x =>
            obtain ⟨q, e⟩ := x
            simp only at h
            have h4 := h1.2.2.2 q e rfl
            have h5 := h1.2.1
            have h2 := ih.2 ks (min (p + q) 4001) (max d e) K1 r K' (fun k hk => hks k (by simp [hk])) h1.2.2.1 (by omega) (by omega) (by omega) (by omega) h
            exact ⟨Nat.le_trans h2.1 h1.1, Nat.le_trans h5 h2.2.1, h2.2.2⟩

end Go.Proofs.YtplnfepdikbpfaaGreatDoor

namespace Go.Proofs.YtplnfepdikbpfaaGreatDoor
open Go.RowKit
open Go.Maps (Keyed)
set_option linter.unusedVariables false
set_option linter.unusedSimpArgs false
attribute [local go_sem ↓] Go.wp_at_zero Go.wp_at_succ

def SizePost (w : World) (kb : Nat) (r : Option (Int × Int)) (K' : Kn) (e : Ending) (w' : World) : Prop :=
  e = .returned (.tuple #[.int .i64 (r.getD (0, 0)).1, .int .i64 (r.getD (0, 0)).2, .bool r.isSome]) ∧ ∃ D', w'.ownsMap Tryz.prog 3 RP kb K'.length D' ∧ KnIs D' K' ∧ Tn (fun z => z = kb) w w'

set_option maxRecDepth 100000 in
set_option maxHeartbeats 32000000 in
theorem size_calls (base p : Nat) (ok : Nat → Prop) (R : Rows) (s : Sto) (kb : Nat) (hk1 : ¬ ok kb) (hk2 : ¬ R.own p kb) : ∀ (f i : Nat) (K K' : Kn) (r : Option (Int × Int)) (D : DataW Unit) (w : World), StoAt w base p ok R s → i < s.n →
    w.ownsMap Tryz.prog 3 RP kb K.length D → KnIs D K → KnV K → K.length + 2 * unk s K ≤ 2 * s.n → sizeF f s i K = some (r, K') →
    Calls Tryz.prog 88 #[.pointer (some ⟨p, 0, none⟩), .int .i64 (i : Int), .map (some kb)] w (SizePost w kb r K') := by
  intro f
  induction f using Nat.strongRecOn with
  | _ f ih =>
  intro i K K' r D w h hi hown hD hV hfw hsz
  obtain ⟨f, rfl⟩ : ∃ g, f = g + 1 := by
    cases f with
    | zero => simp [sizeF] at hsz
    | succ f => exact ⟨f, rfl⟩
  have IH := Lib.hid ih
  have hp := h.rows.plt
  have hfew := h.few
  have hra := Sto.rep_lt h.sok hi
  have hso := h.sok.solidLt _ hra
  have SZ := Lib.hid ((size_ok s h.sok (f + 1)).1 i K r K' hi hV hsz)
  rw [sizeF] at hsz
  obtain ⟨ra, hrae⟩ : ∃ ra, ra = s.repAt i := ⟨_, rfl⟩
  rw [← hrae] at hra hso hsz
  obtain ⟨so, hsoe⟩ : ∃ so, so = s.solidAt ra := ⟨_, rfl⟩
  rw [← hsoe] at hso hsz
  have hkey := Maps.keyOf_int_mk Tryz.underlying3 (wf_i64 (v := (ra : Int)) (by omega) (by omega))
  obtain ⟨v, ps, hrun, hv⟩ := hown.look_ok intKeys Tryz.underlying133 (zeroP w) (RP_mk (by decide) (by decide)) hkey
  rw [(hD.2 ra).1] at hrun
  obtain ⟨va, vb, rfl, hvz⟩ := RP_inv hv
  have hat := congrArg Prod.fst hvz
  simp only at hat
  have H := Lib.hid h; have HS := Lib.hid hsz; have HRA := Lib.hid hrae; have HSO := Lib.hid hsoe; have HOWN := Lib.hid hown; have HD := Lib.hid hD; have HV := Lib.hid hV; have HFW := Lib.hid hfw
  have HAT := Lib.hid hat; have HKEY := Lib.hid hkey
  clear ih h hsz hrae hsoe hown hD hV hfw hv hvz hat hkey
  have hrs := H.out.rows.rs
  rw [H.out.solid, H.out.n.2.2.2] at hrs
  obtain ⟨gs, cs, es, -, -, hgs, hsoc, -⟩ := ints_cells hrs hra
  have p3 := H.out.rows.cells.2.2.2.1
  rw [es] at p3
  have cso : w.cell? ⟨gs, ra, none⟩ = some (.int .i64 so) := by rw [HSO.out]; exact hsoc ra (-1) hra
  have i0 : (0 : Int) ≤ (ra : Int) := by omega
  have i1 : (ra : Int) < (s.n : Int) := by omega
  clear hrs hsoc es
  go_enter Tryz.func88, Tryz.ntmps88
  go_wp2_with fail
  refine (top_calls w base p ok R s H.out i hi).mono ?_
  rintro e w3 ⟨rfl, rfl⟩
  rw [← HRA.out]
  cases hk : knAt K ra with
  | some k =>
    rw [hk] at hrun
    have hst := HS.out
    rw [hk] at hst
    have hst := Option.some.inj hst
    injection hst with hr hK
    subst hK
    have hkv := HV.out ra k hk
    have hat := HAT.out.symm.trans ((HD.out.2 ra).2 k hk _)
    simp only [DataW.agg.injEq, List.cons.injEq, DataW.lit.injEq, Lit.int.injEq, true_and, and_true] at hat
    obtain ⟨rfl, rfl⟩ := hat
    clear HS
    simp only [Option.isSome_some] at hrun
    obtain ⟨k0, k1⟩ := k
    simp only at hrun hkv hr
    clear p3 cso i0 i1
    go_wp2_with fail
    obtain ⟨w2, hw2⟩ : ∃ w2, w2 = w.alloc (.cells #[.int .i64 k0, .int .i64 k1] 127) := ⟨_, rfl⟩
    rw [← hw2]
    have c0 : w2.cell? ⟨w.heap.size, 0, none⟩ = some (.int .i64 k0) := by rw [hw2]; simp
    have c1 : w2.cell? ⟨w.heap.size, 1, none⟩ = some (.int .i64 k1) := by rw [hw2]; simp
    have B2 := Lib.hid (show Below w.heap.size w w2 by rw [hw2]; exact bel_alloc (Below.refl _ _) _)
    clear hw2
    go_quiet (fail)
    go_wp2
    go_ret3
    have B3 := bel_then B2.out (bel_drewN (Below.refl w2.heap.size w2) nq)
    refine ⟨?_, D, map_turn HOWN.out (Tn.bel B3 (fun _ => False)) (fun e => e), HD.out, Tn.bel B3 _⟩
    rw [← hr]
    rcases hkv with ⟨rfl, rfl⟩ | hkv
    · rfl
    · rw [if_pos (by omega)]
      simp only [Option.getD_some, Option.isSome_some, gt_iff_lt, decide_eq_true (show (0 : Int) < k0 by omega)]
      rfl
  | none =>
    rw [hk] at hrun
    simp only [Option.isSome_none] at hrun
    have hst := HS.out
    rw [hk] at hst
    simp only at hst
    by_cases hneg : so < 0
    · have q1 : decide (so < 0) = true := decide_eq_true hneg
      rw [if_pos hneg] at hst
      have hst := Option.some.inj hst
      injection hst with hr hK
      subst hK
      go_wp2
      go_ret3
      have B2 : Below w.heap.size w (w.alloc (.cells #[.int .i64 va, .int .i64 vb] 127)) := bel_alloc (Below.refl _ _) _
      refine ⟨?_, D, map_turn HOWN.out (Tn.bel B2 (fun _ => False)) (fun e => e), HD.out, Tn.bel B2 _⟩
      rw [← hr]
      rfl
    · have q1 : decide (so < 0) = false := decide_eq_false hneg
      rw [if_neg hneg] at hst
      obtain ⟨x, hx⟩ : ∃ x : Nat, so = (x : Int) := ⟨so.toNat, by omega⟩
      subst hx
      have hxn : x < s.n := by omega
      rw [Int.toNat_natCast] at hst
      have HST := Lib.hid hst
      have HML := Lib.hid (show K.length < maxLen by have := HFW.out; unfold maxLen; omega)
      have HKN := Lib.hid hk
      have hval := RP_mk (a := 0) (b := 0) (by decide) (by decide)
      have HVAL := Lib.hid hval
      have HOWN2 := Lib.hid (show (w.alloc (.cells #[.int .i64 va, .int .i64 vb] 127)).ownsMap Tryz.prog 3 RP kb K.length D from HOWN.out.alloc _)
      have hkbl := Lib.hid HOWN.out.lt
      clear hst HS hk hval hneg
      go_wp2_with (at_mapUpdate; refine wpList_mapUpdate_own _ rfl _ _ _ 133 rfl 3 127 intKeys Tryz.underlying133 _ kb K.length D rfl HOWN2.out HML.out _ _ _ rfl rfl HKEY.out _ [] HVAL.out ?_; intro w4 hown4 hg4; have T4 := Lib.hid (show Tn (fun z => z = kb) w w4 from (Tn.alloc _ _ _).trans (Tn.gb hg4 (fun z e => .inl (Option.some.inj e).symm))); have HOWN4 := Lib.hid hown4; have HS4 := Lib.hid (H.out.turn T4.out (fun z e _ => by subst e; exact ⟨hk1, hk2⟩)); clear hown4 hg4 p3 cso hrun)
      obtain ⟨gn, cn, en, hcn, hgn, hnode⟩ := HS4.out.node (show 0 < s.n by omega)
      obtain ⟨A1, c1', -, -, -, -, -, e15, -, -, hk1'⟩ := hnode x hxn
      obtain ⟨c1, hc1e⟩ : ∃ c1, c1 = c1' := ⟨_, rfl⟩
      rw [← hc1e] at e15 hk1'
      have p0 := HS4.out.rows.cells.1
      rw [en] at p0
      have hrs4 := HS4.out.rows.rs
      rw [HS4.out.solid, HS4.out.n.2.2.2] at hrs4
      obtain ⟨gs4, cs4, es4, -, -, hgs4, hsoc4, -⟩ := ints_cells hrs4 hra
      have p34 := HS4.out.rows.cells.2.2.2.1
      rw [es4] at p34
      have cso4 : w4.cell? ⟨gs4, ra, none⟩ = some (.int .i64 (x : Int)) := by rw [HSO.out]; exact hsoc4 ra (-1) hra
      obtain ⟨KS, hKS⟩ : ∃ KS, KS = (s.ndAt x).kids := ⟨_, rfl⟩
      obtain ⟨len, hle⟩ : ∃ len, len = KS.length := ⟨_, rfl⟩
      rw [← hKS, ← hle] at e15 hk1'
      have hst := HST.out
      rw [← hKS] at hst
      have hl1000 : len ≤ 1000 := by obtain ⟨_, _, _, _, h3, _⟩ := hk1'; omega
      have hin : ∀ z ∈ KS, z < s.n := fun z hz => by rw [hKS] at hz; have := H.out.sok.kids x hxn z hz; omega
      have HKD := Lib.hid hk1'; have HST2 := Lib.hid hst; have HIN := Lib.hid hin; have HLE := Lib.hid hle
      have j0 : (0 : Int) ≤ (x : Int) := by omega
      have j1 : (x : Int) < (s.n : Int) := by omega
      clear hnode hk1' hc1e en hrs4 hsoc4 es4 hKS hle hst hin HST HSO HOWN HOWN2 hcn hgn hgs4 hgs
      go_wp2_with fail
      go_quiet (fail)
      obtain ⟨w5, hw5⟩ : ∃ w5, w5 = w4.drewN nq := ⟨_, rfl⟩
      rw [← hw5]
      have T5 := Lib.hid (show Tn (fun z => z = kb) w w5 by rw [hw5]; exact T4.out.drewN nq)
      have HOWN5 := Lib.hid (show w5.ownsMap Tryz.prog 3 RP kb ((ra, (0 : Int), (0 : Int)) :: K : Kn).length (D.put (.int .i64 (ra : Int)) (.agg [.lit (.int .i64 0), .lit (.int .i64 0)])) by rw [hw5]; exact map_turn HOWN4.out ((Tn.refl (fun _ => False) w4).drewN nq) (fun e => e))
      have HD5 := Lib.hid (HD.out.put ra (0, 0))
      have HV5 := Lib.hid (HV.out.cons ra (0, 0) (.inl ⟨rfl, rfl⟩))
      have hfw5 : ((ra, (0 : Int), (0 : Int)) :: K : Kn).length + 2 * unk s ((ra, 0, 0) :: K) ≤ 2 * s.n := by
        have h1 := unk_new s ra (0, 0) K hra HKN.out
        have h2 := HFW.out
        simp only [List.length_cons]
        omega
      have HFW5 := Lib.hid hfw5
      have hst := HST2.out
      obtain ⟨z0, hz0⟩ : ∃ z0, sizeL f s KS 1 0 ((ra, 0, 0) :: K) = some z0 := by
        cases hL : sizeL f s KS 1 0 ((ra, 0, 0) :: K) with
        | none => rw [hL] at hst; cases hst
        | some z => exact ⟨z, rfl⟩
      rw [hz0] at hst
      have HST3 := Lib.hid hst; have HZ0 := Lib.hid hz0
      have KD := Lib.hid (show ∀ X, Tn (fun z => z = kb) w4 X → RdN (fun b => ok b ∧ ¬ R.own p b) X (.slice A1 len c1) KS from fun X hT => HKD.out.turn (fun b h => h) (fun b o h => hT.cell (HS4.out.okl b h.1) (fun e => by subst e; exact hk1 h.1) o))
      have H45 := Lib.hid (show Tn (fun z => z = kb) w4 w5 by rw [hw5]; exact (Tn.refl _ _).drewN nq)
      clear hw5 hst hz0 hfw5 HST2 p0 p34 cso4 e15 HOWN4 HVAL
      go_wp2_with fail
      go_loopw [6, 7, 59] (fun vp vd i wr => ∃ (t g : Nat) (P E : Int) (Kt : Kn) (Dt : DataW Unit), t ≤ len ∧ i = .int .i64 t ∧ vp = .int .i64 P ∧ vd = .int .i64 E ∧ Hid (1 ≤ P ∧ P ≤ 4001 ∧ 0 ≤ E ∧ E ≤ (Kt.length : Int) + 1 ∧ g ≤ f ∧ Kt.length + 2 * unk s Kt ≤ 2 * s.n) ∧ Hid (sizeL g s (KS.drop t) P E Kt = some z0) ∧ Hid (KnV Kt) ∧
        Hid (wr.ownsMap Tryz.prog 3 RP kb Kt.length Dt) ∧ Hid (KnIs Dt Kt) ∧ Hid (Tn (fun z => z = kb) w5 wr)) (fun _ _ i _ => len - (intOf i).toNat)
      case atStart =>
        exact ⟨0, f, 1, 0, _, _, Nat.zero_le _, rfl, rfl, rfl, Lib.hid ⟨by omega, by omega, by omega, by omega, Nat.le_refl _, HFW5.out⟩, Lib.hid (by rw [List.drop_zero]; exact HZ0.out), HV5, HOWN5, HD5, Lib.hid (Tn.refl _ _)⟩
      case round =>
        obtain ⟨t, g, P, E, Kt, Dt, ht, rfl, rfl, rfl, HB, HL, HVt, HOt, HDt, HTt⟩ := hrel
        have TW := Lib.hid (T5.out.trans HTt.out)
        by_cases hlt : t < len
        · obtain ⟨A1', c1'', he1, -, -, hr1⟩ := (KD.out wr (H45.out.trans HTt.out))
          rw [← HLE.out] at he1
          injection he1 with he1 _ he3
          subst he3
          obtain ⟨kd, ko, hA1, hok1, hc1⟩ := hr1 (by intro e; have := HLE.out; rw [e] at this; simp at this; omega)
          rw [hA1] at he1
          subst he1
          have htK : t < KS.length := by have := HLE.out; omega
          obtain ⟨kk, hkk⟩ : ∃ kk, kk = KS[t] := ⟨_, rfl⟩
          have f1 := hc1 t kk (by rw [hkk]; exact List.getElem?_eq_getElem htK)
          have hdrop : KS.drop t = kk :: KS.drop (t + 1) := by rw [hkk]; exact List.drop_eq_getElem_cons htK
          have hsl := HL.out
          rw [hdrop] at hsl
          obtain ⟨g, rfl⟩ : ∃ g', g = g' + 1 := by
            cases g with
            | zero => simp [sizeL] at hsl
            | succ g => exact ⟨g, rfl⟩
          rw [sizeL] at hsl
          obtain ⟨⟨r1, K1⟩, hF⟩ : ∃ z, sizeF g s kk Kt = some z := by
            cases hF : sizeF g s kk Kt with
            | none => rw [hF] at hsl; cases hsl
            | some z => exact ⟨z, rfl⟩
          rw [hF] at hsl
          have hkn : kk < s.n := HIN.out kk (by rw [hkk]; exact List.getElem_mem htK)
          have hso1 := (size_ok s H.out.sok g).1 kk Kt r1 K1 hkn HVt.out hF
          have HSt : StoAt wr base p ok R s := H.out.turn TW.out (fun z e _ => by subst e; exact ⟨hk1, hk2⟩)
          have HCALL := Lib.hid (IH.out g (by have := HB.out; omega) kk Kt K1 r1 Dt wr HSt hkn HOt.out HDt.out HVt.out HB.out.2.2.2.2.2 hF)
          have HSO1 := Lib.hid hso1; have HSL := Lib.hid hsl
          have t0 : (0 : Int) ≤ (t : Int) := by omega
          have t1 : (t : Int) < (len : Int) := by omega
          clear hr1 hA1 hok1 hc1 hkk hdrop hsl hF hso1 HSt hkn htK HL
          go_wp2_with fail
          refine HCALL.out.mono ?_
          rintro e w7 ⟨rfl, D7, hown7, hD7, hT7⟩
          have HOWN7 := Lib.hid hown7; have HD7 := Lib.hid hD7; have HT7 := Lib.hid hT7
          clear hown7 hD7 hT7 HCALL f1
          cases r1 with
          | none =>
            simp only [Option.getD_none, Option.isSome_none]
            have hsl := HSL.out
            simp only at hsl
            have hst := HST3.out
            rw [← Option.some.inj hsl] at hst
            simp only at hst
            have hst := Option.some.inj hst
            injection hst with h1 h2
            subst h1 h2
            have HFIN := Lib.hid (show SizePost w kb none K1 (.returned (.tuple #[.int .i64 0, .int .i64 0, .bool false])) w7 from ⟨rfl, D7, HOWN7.out, HD7.out, TW.out.trans HT7.out⟩)
            clear hsl
            go_wp2
            go_ret3
            exact HFIN.out
          | some q =>
            obtain ⟨q, e⟩ := q
            simp only [Option.getD_some, Option.isSome_some]
            have hb1 := HSO1.out.2.2.2 q e rfl
            have hb2 := HB.out
            have hb3 := HSO1.out
            have hwr : wrap64 (P + q) = P + q := by unfold wrap64; omega
            have HNEW := Lib.hid (show 1 ≤ min (P + q) 4001 ∧ min (P + q) 4001 ≤ 4001 ∧ 0 ≤ max E e ∧ max E e ≤ (K1.length : Int) + 1 ∧ g ≤ f ∧ K1.length + 2 * unk s K1 ≤ 2 * s.n from by have := hb3.1; have := hb3.2.1; omega)
            have HL1 := Lib.hid (show sizeL g s (KS.drop (t + 1)) (min (P + q) 4001) (max E e) K1 = some z0 from HSL.out)
            have HV1 := Lib.hid hb3.2.2.1
            clear hb1 hb2 hb3 HSL HSO1
            go_wp2
            go_roundw
            case rel => exact ⟨t + 1, g, min (P + q) 4001, max E e, K1, D7, by omega, by go_num, rfl, rfl, HNEW, HL1, HV1, HOWN7, HD7, Lib.hid (HTt.out.trans HT7.out)⟩
            case measure => simp [intOf]; omega
        · obtain rfl : len = t := by omega
          have hsl := HL.out
          rw [List.drop_of_length_le (by have := HLE.out; omega)] at hsl
          obtain ⟨g, rfl⟩ : ∃ g', g = g' + 1 := by
            cases g with
            | zero => simp [sizeL] at hsl
            | succ g => exact ⟨g, rfl⟩
          rw [sizeL] at hsl
          have hst := HST3.out
          rw [← Option.some.inj hsl] at hst
          simp only at hst
          have hst := Option.some.inj hst
          injection hst with h1 h2
          subst h1 h2
          have hb := HB.out
          have hwe : wrap64 (E + 1) = E + 1 := by unfold wrap64; omega
          have hval := RP_mk (a := P) (b := E + 1) (WalkArith.wf_i64 (by omega)) (WalkArith.wf_i64 (by omega))
          have HVAL := Lib.hid hval
          have HML2 := Lib.hid (show Kt.length < maxLen by unfold maxLen; omega)
          have lt1 : ¬ ((len : Int) < (len : Int)) := by omega
          clear hsl hst hb hval
          go_wp2_with (at_mapUpdate; refine wpList_mapUpdate_own _ rfl _ _ _ 133 rfl 3 127 intKeys Tryz.underlying133 _ kb Kt.length Dt rfl HOt.out HML2.out _ _ _ rfl rfl HKEY.out _ [] HVAL.out ?_; intro w8 hown8 hg8; have HFIN := Lib.hid (show SizePost w kb (some (P, E + 1)) ((ra, P, E + 1) :: Kt) (.returned (.tuple #[.int .i64 P, .int .i64 (E + 1), .bool true])) w8 from ⟨rfl, _, hown8, HDt.out.put ra (P, E + 1), TW.out.trans (Tn.gb hg8 (fun z e => .inl (Option.some.inj e).symm))⟩); clear hown8 hg8)
          go_ret3
          exact HFIN.out

end Go.Proofs.YtplnfepdikbpfaaGreatDoor
