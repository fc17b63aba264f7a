/- The walks of the reader's read, whole, and of unify.Parse. Condition: the library's variables that Atoi and Itoa lean on are as its text has them. -/
import Derived.Test.YtplnfepdikbpfaaGreatDoorUK
import Derived.Test.YtplnfepdikbpfaaGreatDoorUV
namespace Go.Proofs.YtplnfepdikbpfaaGreatDoor
open Go.RowKit
set_option linter.unusedVariables false
set_option linter.unusedSimpArgs false

theorem read_at (k : Nat) : ∀ d : Int, 0 ≤ d → d ≤ 101 → 101 - d ≤ k → ReadAt d := by
  induction k with
  | zero =>
    intro d h0 h1 hk p B s bad w hr hs he hB
    exact read_bad d p s bad w hr h0 (by omega) (.inr (by omega))
  | succ k ih =>
    intro d h0 h1 hk p B s bad w hr hs he hB
    by_cases hb : bad = true ∨ 100 < d + 1
    · exact read_bad d p s bad w hr h0 (by omega) hb
    · obtain ⟨hb1, hb2⟩ := not_or.1 hb
      obtain rfl : bad = false := by simpa using hb1
      have ih1 := ih (d + 1) (by omega) (by omega) (by omega)
      cases n1 : skipB s [40] with
      | true =>
        cases n2 : skipB (skipL s [40]) [41] with
        | true => exact read_fn0 d ih1 p B s w hr hs he hB h0 (by omega) n1 n2
        | false => exact read_fn1 d ih1 p B s w hr hs he hB h0 (by omega) n1 n2
      | false =>
        cases n2 : skipB (s.drop (wordN s)) [46] with
        | true => exact read_made d ih1 p B s w hr hs he hB h0 (by omega) n1 n2
        | false => exact read_leaf d p B s w hr hs he hB h0 (by omega) n1 n2

/-- What Parse answers. -/
def ParseIs (s : List UInt8) (r : Ty × Int) : Prop := (20000 < s.length ∧ r = (.mk 0 [] [] [] 0, 3)) ∨ (s.length ≤ 20000 ∧ ∃ f q, readF f s false 0 = some q ∧ r = parseR s q)
def ParsePost (w : World) (s : List UInt8) (e : Ending) (w' : World) : Prop :=
  ∃ r v, ParseIs s r ∧ e = .returned (.tuple #[v, .int .i64 r.2]) ∧ ValT (fun b => w.heap.size ≤ b ∧ b < w'.heap.size) w' v r.1 ∧ Below w.heap.size w w'

theorem zero_val (ok : Nat → Prop) (w : World) : ValT ok w (.agg #[.int .i64 0, .string ⟨#[]⟩, .string ⟨#[]⟩, .slice none 0 0, .int .i64 0]) (.mk 0 [] [] [] 0) :=
  ⟨⟨by simp [Ty.mod], by simp [Ty.name]⟩, none, 0, rfl, RdL_nil _ _⟩

set_option maxHeartbeats 4000000 in
theorem Parse_calls (s : List UInt8) (w : World) (hs : s.length ≤ 9223372036854775000) (he : EnvB w.heap.size w) :
    Calls Tryz.prog 23 #[.string (S s)] w (ParsePost w s) := by
  by_cases hl : 20000 < s.length
  · have hl' : ((s.length : Int) > 20000) := by omega
    go_enter Tryz.func23, Tryz.ntmps23
    go_wp2
    refine bodyPost_ret (v := .tuple #[.agg #[.int .i64 0, .string ⟨#[]⟩, .string ⟨#[]⟩, .slice none 0 0, .int .i64 0], .int .i64 3]) (by simp [results, Tryz.results23, go_sem]) rfl ?_
    exact ⟨(.mk 0 [] [] [] 0, 3), _, .inl ⟨hl, rfl⟩, rfl, zero_val _ _, bel_alloc (Below.refl _ _) _⟩
  · have HE := Lib.hid he; clear he
    go_enter Tryz.func23, Tryz.ntmps23
    go_wp2_with fail
    have hb2 := bel_alloc (bel_alloc (Below.refl w.heap.size w) (.cells #[.int .i64 0, .string ⟨#[]⟩, .string ⟨#[]⟩, .slice none 0 0, .int .i64 0] 24)) (.cells #[.string (S s), .bool false, .int .i64 0] 92)
    have HB2 := Lib.hid hb2; clear hb2
    have hr : RdrAt ((w.alloc (.cells #[.int .i64 0, .string ⟨#[]⟩, .string ⟨#[]⟩, .slice none 0 0, .int .i64 0] 24)).alloc (.cells #[.string (S s), .bool false, .int .i64 0] 92)) (w.heap.size + 1) s false 0 := by
      unfold RdrAt
      have := (MapKept.heap_alloc (w.alloc (.cells #[.int .i64 0, .string ⟨#[]⟩, .string ⟨#[]⟩, .slice none 0 0, .int .i64 0] 24)) (.cells #[.string (S s), .bool false, .int .i64 0] 92)).1
      rwa [World.size_alloc] at this
    have HR := Lib.hid hr; clear hr
    refine (read_at 101 0 (by omega) (by omega) (by omega) (w.heap.size + 1) w.heap.size s false _ HR.out (by omega) (HE.out.next HB2.out) (by omega)).mono ?_
    rintro e w3 ⟨f, t, s', b', v, hF, rfl, ⟨hok, A, c, rfl, hrd⟩, hr3, hg3⟩
    have z3 : w.heap.size + 1 < w3.heap.size := by have := hg3.size; simp at this; omega
    have z30 : w.heap.size < w3.heap.size := by omega
    have r0 := hr3.c0
    have r1 := hr3.c1
    have hc : ∀ o, w3.cell? ⟨w.heap.size, o, none⟩ = _ := fun o => gb_cell hg3 (b := w.heap.size) (by simp; omega) (by omega)
    have t0 := hc 0
    have t1 := hc 1
    have t2 := hc 2
    have t3 := hc 3
    have t4 := hc 4
    simp at t0 t1 t2 t3 t4
    have tf : ∀ o, w3.frozen? ⟨w.heap.size, o, none⟩ = false := fun o => (World.frozen?_of_block (hg3.block w.heap.size (by simp; omega) (by simp))).trans (by simp)
    have HB3 := Lib.hid (HB2.out.trans (gb_bel hg3 (by simp; omega) (by omega)))
    have HRD := Lib.hid hrd
    have HF := Lib.hid hF
    have hPI := Lib.hid (show ∀ r, r = parseR s (t, s', b') → ParseIs s r from fun r hr => .inr ⟨by omega, f, _, hF, hr⟩)
    clear hrd hF hc hr3 hg3 HR
    have HT0 := Lib.hid t0; have HT1 := Lib.hid t1; have HT2 := Lib.hid t2; have HT3 := Lib.hid t3; have HT4 := Lib.hid t4
    have HK := Lib.hid (show ∀ (tmps : Array Value) (W X : World) (A' : Option Addr) (n' m' : Nat) (x : Ty) (er : Int), Below (put5 W w.heap.size (.int .i64 x.kind) (.string (S x.mod)) (.string (S x.name)) (.slice A' m' n') (.int .i64 x.var)).heap.size (put5 W w.heap.size (.int .i64 x.kind) (.string (S x.mod)) (.string (S x.name)) (.slice A' m' n') (.int .i64 x.var)) X → 3 < tmps.size → tmps[2]? = some (.pointer (some ⟨w.heap.size, 0, none⟩)) → tmps[3]? = some (.int .i64 er) → Below w3.heap.size w3 W → ParseIs s (x, er) → Ok1 x → x.args.length = m' → RdL (fun b => w.heap.size < b ∧ b < W.heap.size) W (.slice A' m' n') x.args →
        bodyPost Tryz.prog Tryz.f23 (ParsePost w s) Exit.ret { tmps := tmps, defers := [] } X from by
      rintro tmps W X A' n' m' x er hbX hsz e2 e3 hbW hP hok' rfl hrd2
      have hsW := hbW.size
      have cW : ∀ o v, w3.cell? ⟨w.heap.size, o, none⟩ = some v → W.cell? ⟨w.heap.size, o, none⟩ = some v := fun o v h => (hbW.cell (p := ⟨w.heap.size, o, none⟩) (by show w.heap.size < _; omega)).trans h
      have hg := put5_gb W w.heap.size (.int .i64 x.kind) (.string (S x.mod)) (.string (S x.name)) (.slice A' x.args.length n') (.int .i64 x.var)
      have hP5 := put5_cells (a := .int .i64 x.kind) (b := .string (S x.mod)) (c := .string (S x.name)) (d := .slice A' x.args.length n') (e := .int .i64 x.var) (cW 0 _ HT0.out) (cW 1 _ HT1.out) (cW 2 _ HT2.out) (cW 3 _ HT3.out) (cW 4 _ HT4.out)
      obtain ⟨Y, hY⟩ : ∃ Y, Y = put5 W w.heap.size (.int .i64 x.kind) (.string (S x.mod)) (.string (S x.name)) (.slice A' x.args.length n') (.int .i64 x.var) := ⟨_, rfl⟩
      rw [← hY] at hg hP5 hbX
      have hYz := hg.size
      have hb : Below w.heap.size w X := ((HB3.out.trans (hbW.mono (by omega))).trans (gb_bel hg (by omega) (Nat.le_refl _))).trans (hbX.mono (by omega))
      have cX : ∀ o, X.cell? ⟨w.heap.size, o, none⟩ = Y.cell? ⟨w.heap.size, o, none⟩ := fun o => hbX.cell (p := ⟨w.heap.size, o, none⟩) (by show w.heap.size < _; omega)
      obtain ⟨q0, q1, q2, q3, q4⟩ := hP5
      rw [← cX] at q0 q1 q2 q3 q4
      refine bodyPost_ret (v := .tuple #[tyV x (.slice A' x.args.length n'), .int .i64 er]) (by simp [results, Tryz.results23, go_sem, e2, e3, q0, q1, q2, q3, q4, tyV]) rfl ?_
      exact ⟨(x, er), _, hP, rfl, ⟨hok', A', n', rfl, hrd2.turn (fun b h => ⟨by omega, Nat.lt_of_lt_of_le h.2 (Nat.le_trans hg.size hbX.size)⟩) fun b o h => (hbX.cell (p := ⟨b, o, none⟩) (by show b < _; have := hg.size; omega)).trans (World.cell?_of_block (hg.block b h.2 (by simp; omega)))⟩, hb⟩)
    have hzero := Lib.hid (show ∀ (tmps : Array Value) (W X : World), Below (put5 W w.heap.size (.int .i64 0) (.string ⟨#[]⟩) (.string ⟨#[]⟩) (.slice none 0 0) (.int .i64 0)).heap.size (put5 W w.heap.size (.int .i64 0) (.string ⟨#[]⟩) (.string ⟨#[]⟩) (.slice none 0 0) (.int .i64 0)) X → 3 < tmps.size → tmps[2]? = some (.pointer (some ⟨w.heap.size, 0, none⟩)) → tmps[3]? = some (.int .i64 4) → Below w3.heap.size w3 W → ¬ (b' = false ∧ s' = [] ∧ formedB t = true) →
        bodyPost Tryz.prog Tryz.f23 (ParsePost w s) Exit.ret { tmps := tmps, defers := [] } X from fun tmps W X hbX hsz e2 e3 hbW hn =>
      HK.out tmps W X none 0 0 (.mk 0 [] [] [] 0) 4 hbX hsz e2 e3 hbW (hPI.out _ (by unfold parseR; rw [if_neg hn])) ⟨by simp [Ty.mod], by simp [Ty.name]⟩ rfl (RdL_nil _ _))
    clear HT0 HT1 HT2 HT3 HT4
    unfold tyV
    have hal : Below w3.heap.size w3 (w3.alloc (.cells #[.int .i64 t.kind, .string (S t.mod), .string (S t.name), .slice A t.args.length c, .int .i64 t.var] 24)) := bel_alloc (Below.refl _ _) _
    have HAL := Lib.hid hal; clear hal
    cases b' with
    | true =>
      go_wp2
      exact hzero.out _ w3 _ (bel_alloc (Below.refl _ _) _) (by simp) (by simp) (by simp) (Below.refl _ _) (by simp)
    | false =>
      rcases s' with _ | ⟨ch, rest⟩
      · have HV := Lib.hid (show RdV (w3.alloc (.cells #[.int .i64 t.kind, .string (S t.mod), .string (S t.name), .slice A t.args.length c, .int .i64 t.var] 24)) (.agg #[.int .i64 t.kind, .string (S t.mod), .string (S t.name), .slice A t.args.length c, .int .i64 t.var]) t from
          ⟨hok, A, c, rfl, HRD.out.turn (fun b h => by have := h.2; simp; omega) fun b o h => HAL.out.cell (p := ⟨b, o, none⟩) h.2⟩)
        cases hf : formedB t with
        | true =>
          have HFB := Lib.hid hf; clear hf
          go_wp2_with fail
          refine (IsFormed_calls t _ _ HV.out).mono ?_
          rw [HFB.out]
          rintro e w5 ⟨rfl, hb5⟩
          have HB5 := Lib.hid (bel_then HAL.out hb5)
          have c5 : ∀ o, w5.cell? ⟨w3.heap.size, o, none⟩ = (w3.alloc (.cells #[.int .i64 t.kind, .string (S t.mod), .string (S t.name), .slice A t.args.length c, .int .i64 t.var] 24)).cell? ⟨w3.heap.size, o, none⟩ := fun o => hb5.cell (p := ⟨w3.heap.size, o, none⟩) (by simp)
          have u0 := c5 0
          have u1 := c5 1
          have u2 := c5 2
          have u3 := c5 3
          have u4 := c5 4
          simp at u0 u1 u2 u3 u4
          have cc := fun o => HB5.out.cell (p := ⟨w.heap.size, o, none⟩) z30
          have s0 := (cc 0).trans t0
          have s1 := (cc 1).trans t1
          have s2 := (cc 2).trans t2
          have s3 := (cc 3).trans t3
          have s4 := (cc 4).trans t4
          have sf : ∀ o, w5.frozen? ⟨w.heap.size, o, none⟩ = false := fun o => (HB5.out.frozen (p := ⟨w.heap.size, o, none⟩) z30).trans (tf o)
          have z5 : w.heap.size < w5.heap.size := by have := HB5.out.size; omega
          clear c5 cc hb5 t0 t1 t2 t3 t4 tf HV
          go_wp2
          exact HK.out _ w5 _ A c t.args.length t 0 (Below.refl _ _) (by simp) (by simp) (by simp) HB5.out (hPI.out _ (by unfold parseR; rw [if_pos ⟨rfl, rfl, HFB.out⟩])) hok rfl (HRD.out.turn (fun b h => ⟨by have := h.1; simp at this; omega, Nat.lt_of_lt_of_le h.2 HB5.out.size⟩) fun b o h => HB5.out.cell (p := ⟨b, o, none⟩) h.2)
        | false =>
          have HFB := Lib.hid hf; clear hf
          go_wp2_with fail
          refine (IsFormed_calls t _ _ HV.out).mono ?_
          rw [HFB.out]
          rintro e w5 ⟨rfl, hb5⟩
          have HB5 := Lib.hid (bel_then HAL.out hb5)
          have cc := fun o => HB5.out.cell (p := ⟨w.heap.size, o, none⟩) z30
          have s0 := (cc 0).trans t0
          have s1 := (cc 1).trans t1
          have s2 := (cc 2).trans t2
          have s3 := (cc 3).trans t3
          have s4 := (cc 4).trans t4
          have sf : ∀ o, w5.frozen? ⟨w.heap.size, o, none⟩ = false := fun o => (HB5.out.frozen (p := ⟨w.heap.size, o, none⟩) z30).trans (tf o)
          have z5 : w.heap.size < w5.heap.size := by have := HB5.out.size; omega
          clear cc hb5 t0 t1 t2 t3 t4 tf HV
          go_wp2
          exact hzero.out _ w5 _ (Below.refl _ _) (by simp) (by simp) (by simp) HB5.out (by rw [HFB.out]; simp)
      · go_wp2
        exact hzero.out _ w3 _ (bel_alloc (Below.refl _ _) _) (by simp) (by simp) (by simp) (Below.refl _ _) (by simp)

end Go.Proofs.YtplnfepdikbpfaaGreatDoor
