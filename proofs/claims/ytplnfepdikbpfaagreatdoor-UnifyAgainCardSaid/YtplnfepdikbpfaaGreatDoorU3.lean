/- The walks of unify.isName, and of unify.formed and what it calls. Condition: the type reads. -/
import Derived.Test.YtplnfepdikbpfaaGreatDoorUB
import Derived.Test.YtplnfepdikbpfaaGreatDoorUX
import Derived.OneCell
namespace Go.Proofs.YtplnfepdikbpfaaGreatDoor
open Go.RowKit
set_option linter.unusedVariables false
set_option linter.unusedSimpArgs false

theorem nameB_long {s : List UInt8} {g : Bool} (h : 20000 < s.length) : nameB s g = false := by
  unfold nameB isTokB areB
  rw [textErr_long [⟨3, s⟩] (.inl (by simpa [textOf] using h))]
  simp

set_option maxHeartbeats 1000000 in
theorem isName_calls (s : List UInt8) (g : Bool) (w : World) (hs : s.length ≤ 9223372036854775000) :
    Calls Tryz.prog 106 #[.string (S s), .bool g] w fun e w' => e = .returned (.bool (nameB s g)) ∧ Below w.heap.size w w' := by
  by_cases hl : 20000 < s.length
  · rw [nameB_long hl]
    go_enter Tryz.func106, Tryz.ntmps106
    go_wp2
    go_ret
    exact ⟨rfl, bel_alloc (Below.refl _ _) _⟩
  · unfold nameB
    go_enter Tryz.func106, Tryz.ntmps106
    go_wp2_with fail
    have hal := bel_alloc (Below.refl w.heap.size w) (.cells #[.int .i64 3, .string (S s)] 167)
    refine (IsToken_calls ⟨3, s⟩ _).mono ?_
    rintro e w1 ⟨rfl, hb1⟩
    obtain ⟨hc, hf⟩ := bcell hb1
    have hz : w.heap.size < w1.heap.size := by have := hb1.size; simp at this; omega
    cases hT : isTokB ⟨3, s⟩ with
    | false =>
      go_wp2
      go_ret
      exact ⟨by simp [hT], bel_then hal hb1⟩
    | true =>
      go_wp2_with fail
      refine (Great_calls ⟨3, s⟩ _).mono ?_
      rintro e w2 ⟨rfl, hb2⟩
      go_wp2
      go_ret
      exact ⟨by simp [hT], bel_then (bel_then hal hb1) hb2⟩

/-! ### A call that writes one block that was there -/
theorem gb_refl (w : World) (r : Option Nat) : w.grownBy w r := ⟨rfl, rfl, rfl, Nat.le_refl _, fun _ _ _ => rfl⟩
theorem gb_trans {w W X : World} {r : Option Nat} (h : w.grownBy W r) (k : W.grownBy X r) : w.grownBy X r :=
  ⟨k.os.trans h.os, k.tape.trans h.tape, k.output.trans h.output, Nat.le_trans h.size k.size, fun i hi hn => (k.block i (Nat.lt_of_lt_of_le hi h.size) hn).trans (h.block i hi hn)⟩
theorem gb_below {w W : World} (h : Below w.heap.size w W) (r : Option Nat) : w.grownBy W r := ⟨h.os, h.tape, h.output, h.size, fun k hk _ => h.block k hk⟩
theorem gb_alloc (w : World) (o : Obj) (r : Option Nat) : w.grownBy (w.alloc o) r := World.grownBy_alloc w o r
theorem gb_set (w : World) (p o : Nat) (v : Value) : w.grownBy (w.setCell ⟨p, o, none⟩ v) (some p) :=
  ⟨rfl, rfl, rfl, by simp, fun k hk hn => by
    show (w.heap.modify p _)[k]? = w.heap[k]?
    have : p ≠ k := fun e => hn (by rw [e])
    simp [Array.getElem?_modify, this]⟩
theorem gb_cell {w W : World} {p b o : Nat} (h : w.grownBy W (some p)) (hb : b < w.heap.size) (hn : b ≠ p) : W.cell? ⟨b, o, none⟩ = w.cell? ⟨b, o, none⟩ :=
  World.cell?_of_block (h.block b hb (by simp [hn]))
theorem gb_bel {w W : World} {p B : Nat} (h : w.grownBy W (some p)) (hB : B ≤ w.heap.size) (hp : B ≤ p) : Below B w W :=
  ⟨h.os, h.tape, h.output, h.size, fun k hk => h.block k (Nat.lt_of_lt_of_le hk hB) (by simp; omega)⟩

/-- Reads in memory that is there, but for one block. -/
abbrev RdP (p : Nat) (w : World) (sl : Value) (ks : List Ty) : Prop := RdL (fun b => b < w.heap.size ∧ b ≠ p) w sl ks
theorem RdP.grown {p : Nat} {w W : World} {sl : Value} {ks : List Ty} (h : RdP p w sl ks) (hg : w.grownBy W (some p)) : RdP p W sl ks :=
  h.turn (fun b h => ⟨Nat.lt_of_lt_of_le h.1 hg.size, h.2⟩) fun b o h => gb_cell hg h.1 h.2
theorem RdL.at_ {ok : Nat → Prop} {w : World} {A : Option Addr} {n c : Nat} {ks : List Ty} (h : RdL ok w (.slice A n c) ks) : n = ks.length ∧ (n ≤ 9223372036854775000 ∧ n ≤ c) ∧ (0 < n → ∃ b off, A = some ⟨b, off, none⟩ ∧ ok b ∧ ∀ k, k < n →
    ∃ A' c', w.cell? ⟨b, off + k * 5, none⟩ = some (.int .i64 (tyAt ks k).kind) ∧ w.cell? ⟨b, off + k * 5 + 1, none⟩ = some (.string (S (tyAt ks k).mod)) ∧ w.cell? ⟨b, off + k * 5 + 2, none⟩ = some (.string (S (tyAt ks k).name)) ∧
      w.cell? ⟨b, off + k * 5 + 3, none⟩ = some (.slice A' (tyAt ks k).args.length c') ∧ w.cell? ⟨b, off + k * 5 + 4, none⟩ = some (.int .i64 (tyAt ks k).var) ∧ RdL ok w (.slice A' (tyAt ks k).args.length c') (tyAt ks k).args ∧ Ok1 (tyAt ks k)) := by
  obtain ⟨A', c', he, hl, hh⟩ := h
  simp only [Value.slice.injEq] at he
  obtain ⟨rfl, rfl, rfl⟩ := he
  refine ⟨rfl, hl, fun h0 => ?_⟩
  obtain ⟨b, o, rfl, hb, hF⟩ := hh (by intro e; rw [e] at h0; simp at h0)
  refine ⟨b, o, rfl, hb, fun k hk => ?_⟩
  have := RdF_at hF k hk
  rw [RdT_def] at this
  obtain ⟨h1, h2, h3, h4, ⟨sl, h5, h6⟩, h7⟩ := this
  obtain ⟨A', c', rfl, -, -⟩ := id h6
  exact ⟨A', c', h1, h2, h3, h5, h7, h6, h4⟩
/-- The value of a type whose Args read. -/
def ValT (ok : Nat → Prop) (w : World) (v : Value) (t : Ty) : Prop := Ok1 t ∧ ∃ A c, v = tyV t (.slice A t.args.length c) ∧ RdL ok w (.slice A t.args.length c) t.args

/-- Block p is a number of its own. -/
def NumAt (w : World) (p : Nat) (n : Int) : Prop := w.heap[p]? = some (.cells #[.int .i64 n] 3 (0, 0))

theorem NumAt.alloc {w : World} {p : Nat} {n : Int} (h : NumAt w p n) (o : Obj) : NumAt (w.alloc o) p n := by
  unfold NumAt at h ⊢
  have hl := lt_of_block h
  rw [(gb_alloc w o none).block p hl (by simp)]
  exact h
theorem NumAt.cell {w : World} {p : Nat} {n : Int} (h : NumAt w p n) : w.cell? ⟨p, 0, none⟩ = some (.int .i64 n) := cell_of_one h
theorem NumAt.free {w : World} {p : Nat} {n : Int} (h : NumAt w p n) : w.frozen? ⟨p, 0, none⟩ = false := free_of_one h
theorem NumAt.lt {w : World} {p : Nat} {n : Int} (h : NumAt w p n) : p < w.heap.size := lt_of_block h
theorem NumAt.set {w : World} {p : Nat} {n : Int} (h : NumAt w p n) (m : Int) : NumAt (w.setCell ⟨p, 0, none⟩ (.int .i64 m)) p m := one_setCell h

def FormedAt (t : Ty) : Prop := ∀ (v : Value) (d left : Int) (p : Nat) (w : World), ValT (fun b => b < w.heap.size ∧ b ≠ p) w v t → 1 ≤ d → d ≤ 101 → 0 ≤ left → left ≤ 4000 → NumAt w p left →
  Calls Tryz.prog 64 #[v, .int .i64 d, .pointer (some ⟨p, 0, none⟩)] w fun e w' => e = .returned (.bool (formedP t d left).1) ∧ NumAt w' p (formedP t d left).2 ∧ w.grownBy w' (some p)

/-- What IndexFunc answers: an index where one is not formed. -/
def IdxPost (w : World) (p : Nat) (r : Bool × Int) (e : Ending) (w' : World) : Prop :=
  ∃ z : Int, e = .returned (.int .i64 z) ∧ (decide (z ≥ 0) = !r.1) ∧ NumAt w' p r.2 ∧ w.grownBy w' (some p)

theorem formed1_enters (args : Array Value) (w : World) : (callFunc 108 args).run Tryz.prog w = .ok (.enter 108 args) w := by go_simp

set_option maxHeartbeats 2000000 in
theorem formed1_calls (t : Ty) (ih : FormedAt t) (v : Value) (d left : Int) (p x y : Nat) (w : World) (hv : ValT (fun b => b < w.heap.size ∧ b ≠ p) w v t) (hd : 1 ≤ d) (hd2 : d ≤ 100) (hl : 0 ≤ left) (hl2 : left ≤ 4000) (hp : NumAt w p left)
    (hx : w.cell? ⟨x, 0, none⟩ = some (.int .i64 d)) (hy : w.cell? ⟨y, 0, none⟩ = some (.pointer (some ⟨p, 0, none⟩))) (hxl : x < w.heap.size) (hyl : y < w.heap.size) :
    Calls Tryz.prog 108 #[v, .pointer (some ⟨x, 0, none⟩), .pointer (some ⟨y, 0, none⟩)] w fun e w' => e = .returned (.bool (!(formedP t (d + 1) left).1)) ∧ NumAt w' p (formedP t (d + 1) left).2 ∧ w.grownBy w' (some p) := by
  obtain ⟨h1, A, c, rfl, hr⟩ := hv
  unfold tyV
  have hg : ∀ o, w.grownBy (w.alloc o) (some p) := fun o => gb_alloc w o _
  go_enter Tryz.func108, Tryz.ntmps108
  go_wp2_with fail
  refine (ih _ (d + 1) left p _ ⟨h1, A, c, rfl, RdP.grown hr (hg _)⟩ (by omega) (by omega) hl hl2 (hp.alloc _)).mono ?_
  rintro e w1 ⟨rfl, hn1, hg1⟩
  go_wp2
  go_ret
  exact ⟨rfl, hn1, gb_trans (hg _) hg1⟩

set_option maxHeartbeats 2000000 in
theorem IndexFunc_formed (xs : List Ty) (ih : ∀ t ∈ xs, FormedAt t) (sl : Value) (d left : Int) (p x y : Nat) (w : World) (hv : RdP p w sl xs) (hd : 1 ≤ d) (hd2 : d ≤ 100) (hl : 0 ≤ left) (hl2 : left ≤ 4000) (hp : NumAt w p left)
    (hx : w.cell? ⟨x, 0, none⟩ = some (.int .i64 d)) (hy : w.cell? ⟨y, 0, none⟩ = some (.pointer (some ⟨p, 0, none⟩))) (hxl : x < w.heap.size ∧ x ≠ p) (hyl : y < w.heap.size ∧ y ≠ p) :
    Calls Tryz.prog 130 #[sl, .func (.func 108) #[] #[.pointer (some ⟨x, 0, none⟩), .pointer (some ⟨y, 0, none⟩)]] w (IdxPost w p (formedPL xs (d + 1) left)) := by
  obtain ⟨A, c, rfl, hlen, h⟩ := id hv
  clear h
  have eg := formed1_enters
  have HV := Lib.hid hv; clear hv
  have HX := Lib.hid hx; have HY := Lib.hid hy; clear hx hy
  have HP := Lib.hid hp; clear hp
  go_enter Tryz.func130, Tryz.ntmps130
  go_wp2
  go_loopw [8] (fun i wr => ∃ (k : Nat) (l : Int), k ≤ xs.length ∧ i = .int .i64 k ∧ Hid (formedPL xs (d + 1) left = formedPL (xs.drop k) (d + 1) l) ∧ 0 ≤ l ∧ l ≤ 4000 ∧ NumAt wr p l ∧ w.grownBy wr (some p)) (fun i _ => xs.length - (intOf i).toNat)
  case atStart => exact ⟨0, left, Nat.zero_le _, rfl, Lib.hid rfl, hl, hl2, HP.out, gb_refl _ _⟩
  case round =>
    obtain ⟨k, l, hk, rfl, hE, hl3, hl4, hn, hg⟩ := hrel
    by_cases hlt : k < xs.length
    · obtain ⟨-, -, hxx⟩ := (HV.out.grown hg).at_
      obtain ⟨b, off, rfl, hb0, hc⟩ := hxx (by omega)
      obtain ⟨A2, c2, g1, g2, g3, g4, g5, g6, g7⟩ := hc k hlt
      clear hc hxx
      have hNum := Lib.hid hn; clear hn
      have hG := Lib.hid hg; clear hg
      go_wp2_with fail
      refine (formed1_calls (tyAt xs k) (ih _ (tyAt_mem hlt)) _ d l p x y _ ⟨g7, A2, c2, rfl, g6⟩ hd hd2 hl3 hl4 hNum.out ((gb_cell hG.out hxl.1 hxl.2).trans HX.out) ((gb_cell hG.out hyl.1 hyl.2).trans HY.out) (Nat.lt_of_lt_of_le hxl.1 hG.out.size) (Nat.lt_of_lt_of_le hyl.1 hG.out.size)).mono ?_
      rintro e w1 ⟨rfl, hn1, hg1⟩
      have hg2 := Lib.hid (gb_trans hG.out hg1)
      have hN1 := Lib.hid hn1
      clear hn1 hg1 g1 g2 g3 g4 g5 g6
      have hdrop : xs.drop k = tyAt xs k :: xs.drop (k + 1) := by rw [List.drop_eq_getElem_cons hlt, tyAt_get hlt]
      cases hs : (formedP (tyAt xs k) (d + 1) l).1 with
      | true =>
        have e2 := ((formedP_iff (tyAt xs k) (d + 1) l).2 hs)
        have hpp := partsT_pos (tyAt xs k)
        have e3 := ((formedP_iff (tyAt xs k) (d + 1) l).1.1 hs).2
        obtain ⟨l2, hl2'⟩ : ∃ l2, l2 = (formedP (tyAt xs k) (d + 1) l).2 := ⟨_, rfl⟩
        have hstep : formedPL xs (d + 1) left = formedPL (xs.drop (k + 1)) (d + 1) l2 := by rw [hE.out, hdrop, hl2']; simp [formedPL, hs]
        rw [← hl2'] at hN1 e2
        have HS := Lib.hid hstep
        have b1 : 0 ≤ l2 := by omega
        have b2 : l2 ≤ 4000 := by omega
        clear hs e2 e3 hl2' hstep hdrop hpp
        go_wp2
        go_roundw
        case rel => exact ⟨k + 1, l2, by omega, by go_num, HS, b1, b2, hN1.out, hg2.out⟩
        case measure => simp [intOf]; omega
      | false =>
        have hstep : formedPL xs (d + 1) left = (false, (formedP (tyAt xs k) (d + 1) l).2) := by rw [hE.out, hdrop]; simp [formedPL, hs]
        have HS := Lib.hid hstep
        clear hs hstep hdrop
        go_wp2
        go_ret
        refine ⟨_, rfl, ?_, ?_, hg2.out⟩
        · rw [HS.out]; simp
        · rw [HS.out]; exact hN1.out
    · have hkk : k = xs.length := by omega
      subst hkk
      go_wp2
      go_ret
      refine ⟨_, rfl, ?_, ?_, hg⟩
      · rw [hE.out, List.drop_length]; simp [formedPL]
      · rw [hE.out, List.drop_length]; simpa [formedPL] using hn

set_option maxHeartbeats 1000000 in
theorem ContainsFunc_formed (xs : List Ty) (ih : ∀ t ∈ xs, FormedAt t) (sl : Value) (d left : Int) (p x y : Nat) (w : World) (hv : RdP p w sl xs) (hd : 1 ≤ d) (hd2 : d ≤ 100) (hl : 0 ≤ left) (hl2 : left ≤ 4000) (hp : NumAt w p left)
    (hx : w.cell? ⟨x, 0, none⟩ = some (.int .i64 d)) (hy : w.cell? ⟨y, 0, none⟩ = some (.pointer (some ⟨p, 0, none⟩))) (hxl : x < w.heap.size ∧ x ≠ p) (hyl : y < w.heap.size ∧ y ≠ p) :
    Calls Tryz.prog 107 #[sl, .func (.func 108) #[] #[.pointer (some ⟨x, 0, none⟩), .pointer (some ⟨y, 0, none⟩)]] w fun e w' => e = .returned (.bool (!(formedPL xs (d + 1) left).1)) ∧ NumAt w' p (formedPL xs (d + 1) left).2 ∧ w.grownBy w' (some p) := by
  obtain ⟨A, c, rfl, hlen, h⟩ := id hv
  clear h
  have HC := Lib.hid (IndexFunc_formed xs ih _ d left p x y w hv hd hd2 hl hl2 hp hx hy hxl hyl)
  clear hv hx hy hp
  obtain ⟨r, hr⟩ : ∃ r, r = formedPL xs (d + 1) left := ⟨_, rfl⟩
  rw [← hr] at HC ⊢
  clear hr
  go_enter Tryz.func107, Tryz.ntmps107
  go_wp2_with fail
  refine HC.out.mono ?_
  rintro e w1 ⟨z, rfl, hz, hn1, hg1⟩
  go_wp2
  go_ret
  exact ⟨rfl, hn1, hg1⟩

end Go.Proofs.YtplnfepdikbpfaaGreatDoor
