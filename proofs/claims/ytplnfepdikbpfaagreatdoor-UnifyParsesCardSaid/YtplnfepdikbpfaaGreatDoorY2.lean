/- The walks of the reference's text and Text. Condition: the type reads; it is formed; its text is no longer than 1000000000 bytes; the world's tables. -/
import Derived.Test.YtplnfepdikbpfaaGreatDoorY1
import Derived.Test.YtplnfepdikbpfaaGreatDoorY3
namespace Go.Proofs.YtplnfepdikbpfaaGreatDoor
open Go.RowKit
open Go.Proofs.YtplnfepdikbpfaaGreatDoorW.PrintLast
set_option linter.unusedVariables false
set_option linter.unusedSimpArgs false
attribute [local go_sem ↓] Go.wp_at_zero Go.wp_at_succ

theorem app_cells (A s : List UInt8) : Lib.strCells (S A) ++ Lib.strCells (S s) = Lib.strCells (S (A ++ s)) := by simp [Lib.strCells, S_data]
/-- The slice has these bytes, in a row of memory of the call's own. -/
def OwnY (w : World) (base : Nat) (v : Value) (A : List UInt8) : Prop := w.ownsRow base 5 1 v A.length (Lib.strCells (S A))
theorem OwnY.nil (w : World) (base : Nat) : OwnY w base (.slice none 0 0) [] := ⟨rfl, .inl ⟨rfl, rfl⟩⟩
theorem OwnY.alloc {w : World} {base : Nat} {v : Value} {A : List UInt8} (h : OwnY w base v A) (o : Obj) : OwnY (w.alloc o) base v A := World.ownsRow.alloc h o
theorem OwnY.drew {w : World} {base : Nat} {v : Value} {A : List UInt8} (h : OwnY w base v A) : OwnY w.drew base v A := h
theorem convY_nil (w : World) : (convert 101 9 (.slice none 0 0)).run Tryz.prog w = .ok (.string ⟨#[]⟩) w := by kernel_rfl
theorem convY {w : World} {B : Nat} {v : Value} {A : List UInt8} (h : OwnY w B v A) : (convert 101 9 v).run Tryz.prog w = .ok (.string (S A)) w := by
  rcases h.2 with ⟨rfl, h0⟩ | ⟨g, cap, cur, rfl, hb, hg, h1, h2, h3, h4⟩
  · obtain rfl : A = [] := List.length_eq_zero_iff.1 h0
    exact convY_nil w
  · refine run_convert_bytes_back w 101 9 5 ⟨g, 0, none⟩ cap A Tryz.underlying101 Tryz.underlying5 Tryz.underlying9 ?_
    intro j hj
    rw [World.ownsRow.cells h (g := g) rfl j (.int .u8 (A[j].toNat : Int)) (by simp [Lib.strCells, S_data, List.getElem?_eq_getElem hj])]
/-- What a step of the text keeps. -/
structure Kept (base : Nat) (w W : World) : Prop where
  b : Below base w W
  k : ∀ j, KeepB j w W
theorem Kept.refl (base : Nat) (w : World) : Kept base w w := ⟨Below.refl _ _, fun _ => KeepB.refl _ _⟩
theorem Kept.trans {base : Nat} {w W X : World} (h : Kept base w W) (k : Kept base W X) : Kept base w X := ⟨h.b.trans k.b, fun j => (h.k j).trans (k.k j)⟩
theorem Kept.of {base : Nat} {w W : World} (h : Below w.heap.size w W) (hb : base ≤ w.heap.size) : Kept base w W := ⟨h.mono hb, fun _ => KeepB.of_below h⟩
theorem Kept.alloc {base : Nat} (w : World) (o : Obj) (hb : base ≤ w.heap.size) : Kept base w (w.alloc o) := .of (bel_alloc (Below.refl _ _) o) hb
theorem Kept.block {base k : Nat} {w W : World} (h : Kept base w W) (hk : k < w.heap.size) {c : Array Value} {t : TypeId} {f : Nat × Nat} (hh : w.heap[k]? = some (.cells c t f)) (ht : t ≠ 5) : W.heap[k]? = some (.cells c t f) := by
  rw [(h.k (k + 1)).2 k hk (by omega) (NoBytes.of hh ht), hh]
theorem Kept.grown {base : Nat} {w W : World} {v : Value} {A : List UInt8} (hg : w.grownBy W v.ownBlock) (ho : OwnY w base v A) (hb : base ≤ w.heap.size) : Kept base w W :=
  ⟨(Below.refl base w).grown hg hb (own_base ho), fun _ => KeepB.grown hg ho⟩

theorem str_append {ops : Array Oper} {rest : List Oper} {o : Oper} {a : Act} {Q : Exit → Act → World → Prop} {W : World} (base : Nat) (hgd : o.guard = none) (s x : Operand)
    (ho : o.op = .call { callee := .builtin .append, args := #[s, x], argTypes := #[101, 9] })
    (v : Value) (A bs : List UInt8) (hs : a.eval s = v) (hx : a.eval x = .string (S bs)) (HO : OwnY W base v A) (hbase : base ≤ W.heap.size) (hl : A.length + bs.length ≤ 1000000000)
    (h : ∀ v1 w1, OwnY w1 base v1 (A ++ bs) → Kept base W w1 → wpList Tryz.prog ops Q rest (a.put o.dst v1) w1) : wpList Tryz.prog ops Q (o :: rest) a W := by
  obtain ⟨i0, hi, hz0, hz1, hz2⟩ := info_parts infoByte
  refine Lib.wpList_append_own_string _ hgd s x 101 9 ho base 5 i0 Tryz.underlying101 Tryz.underlying9 hi hz0 hz1 hz2 v A.length (Lib.strCells (S A)) hs HO (S bs) hx (by simp only [maxLen, S_size]; omega) (by simp only [S_size]; omega) hbase ?_
  intro v1 w1 hown hg _
  refine h v1 w1 ?_ (Kept.grown hg HO hbase)
  unfold OwnY
  rw [← app_cells, List.length_append]
  simpa [S_size] using hown
theorem byte_append {ops : Array Oper} {rest : List Oper} {o : Oper} {a : Act} {Q : Exit → Act → World → Prop} {W : World} (base : Nat) (hgd : o.guard = none) (s x : Operand)
    (ho : o.op = .call { callee := .builtin .append, args := #[s, x], argTypes := #[101, 101] })
    (v : Value) (A : List UInt8) (c : UInt8) (z : Int) (hz : z = (c.toNat : Int)) (hs : a.eval s = v) (n : Nat) (hx : a.eval x = .slice (some ⟨n, 0, none⟩) 1 1) (hn : n = W.heap.size) (HO : OwnY W base v A) (hbase : base ≤ W.heap.size) (hl : A.length + 1 ≤ 1000000000)
    (h : ∀ v1 w1, OwnY w1 base v1 (A ++ [c]) → Kept base W w1 → wpList Tryz.prog ops Q rest (a.put o.dst v1) w1) : wpList Tryz.prog ops Q (o :: rest) a (W.alloc (.cells #[.int .u8 z] 5)) := by
  subst hn; subst hz
  obtain ⟨i0, hi, hz0, hz1, hz2⟩ := info_parts infoByte
  have e1 : Lib.strCells (S [c]) = [Value.int .u8 (c.toNat : Int)] := by simp [Lib.strCells, S_data]
  refine wpList_append_own (W.alloc (.cells #[.int .u8 (c.toNat : Int)] 5)) hgd s x 101 ho base 5 i0 _ 1 1 Tryz.underlying101 hi hz0 hz1 hz2 rfl (by decide) v A.length (Lib.strCells (S A)) hs (World.ownsRow.alloc HO _) ⟨W.heap.size, 0, none⟩ 1 1 [.int .u8 (c.toNat : Int)] hx rfl
    (fun j u hj => by rcases j with _ | j <;> simp at hj; subst hj; simp [Addr.add]) (by intro u hu; simp at hu; subst hu; rfl) (by simp only [maxLen]; omega) (by omega) (by simp; omega) ?_
  intro v1 w1 hown hg _
  refine h v1 w1 ?_ ((Kept.alloc W _ hbase).trans (Kept.grown hg (OwnY.alloc HO _) (by simp; omega)))
  unfold OwnY
  rw [← app_cells, List.length_append, e1]
  exact hown

def RTextAt (t : Ty) : Prop := ∀ (base : Nat) (acc : List UInt8) (va v : Value) (w : World), wrB t = true → ValT (fun b => b < base) w va t → OwnY w base v acc → base ≤ w.heap.size → (∀ X, Below base w X → TabW X) → acc.length + (textT t).length ≤ 1000000000 →
  Calls Tryz.prog 84 #[va, v] w fun e w' => ∃ v', e = .returned v' ∧ OwnY w' base v' (acc ++ textT t) ∧ Kept base w w'

/-- The box, wherever nothing but bytes has been written. -/
theorem box_kept {w W : World} {base : Nat} {k v : Int} {m n : List UInt8} {A : Option Addr} {len c : Nat} (h : Kept base (w.alloc (.cells #[.int .i64 k, .string (S m), .string (S n), .slice A len c, .int .i64 v] 24)) W) :
    W.cell? ⟨w.heap.size, 0, none⟩ = some (.int .i64 k) ∧ W.cell? ⟨w.heap.size, 1, none⟩ = some (.string (S m)) ∧ W.cell? ⟨w.heap.size, 2, none⟩ = some (.string (S n)) ∧ W.cell? ⟨w.heap.size, 3, none⟩ = some (.slice A len c) ∧ W.cell? ⟨w.heap.size, 4, none⟩ = some (.int .i64 v) := by
  obtain ⟨a0, a1, a2, a3, a4, -⟩ := five_cells (h.block (by simp) (MapKept.heap_alloc w _).1 (by decide))
  exact ⟨a0, a1, a2, a3, a4⟩

set_option maxRecDepth 100000 in
set_option maxHeartbeats 8000000 in
theorem text_leaf (k : Int) (m n : List UInt8) (xs : List Ty) (v : Int) (hk : k = 1 ∨ k = 2 ∨ k = 3) : RTextAt (.mk k m n xs v) := by
  intro base acc va vb w hwr hva hown hbase htab hlen
  obtain ⟨h1, A, c, rfl, hr⟩ := hva
  simp only [tyV, Ty.kind, Ty.mod, Ty.name, Ty.args, Ty.var] at hr ⊢
  have HO := Lib.hid (hown.alloc (.cells #[.int .i64 k, .string (S m), .string (S n), .slice A xs.length c, .int .i64 v] 24))
  have hb1 : base ≤ (w.alloc (.cells #[.int .i64 k, .string (S m), .string (S n), .slice A xs.length c, .int .i64 v] 24)).heap.size := by simp; omega
  have KA := Lib.hid (Kept.alloc w (.cells #[.int .i64 k, .string (S m), .string (S n), .slice A xs.length c, .int .i64 v] 24) hbase)
  clear hwr hr h1 hown htab
  rcases hk with rfl | rfl | rfl
  · have e : textT (.mk 1 m n xs v) = [73, 110, 116] := by simp [textT]
    rw [e] at hlen ⊢
    clear e
    go_enter Tryz.func84, Tryz.ntmps84
    go_wp2_with (at_builtin; refine str_append base rfl (.tmp 13) (.const (.string ⟨#[73, 110, 116]⟩)) rfl vb acc [73, 110, 116] rfl rfl HO.out hb1 (by simpa using hlen) ?_; intro v1 w1 hown1 hkept; have HO1 := Lib.hid hown1; have HK1 := Lib.hid hkept; clear hown1 hkept)
    go_ret
    exact ⟨_, rfl, HO1.out, KA.out.trans HK1.out⟩
  · have e : textT (.mk 2 m n xs v) = [66, 111, 111, 108] := by simp [textT]
    rw [e] at hlen ⊢
    clear e
    go_enter Tryz.func84, Tryz.ntmps84
    go_wp2_with (at_builtin; refine str_append base rfl (.tmp 17) (.const (.string ⟨#[66, 111, 111, 108]⟩)) rfl vb acc [66, 111, 111, 108] rfl rfl HO.out hb1 (by simpa using hlen) ?_; intro v1 w1 hown1 hkept; have HO1 := Lib.hid hown1; have HK1 := Lib.hid hkept; clear hown1 hkept)
    go_ret
    exact ⟨_, rfl, HO1.out, KA.out.trans HK1.out⟩
  · have e : textT (.mk 3 m n xs v) = [84, 101, 120, 116] := by simp [textT]
    rw [e] at hlen ⊢
    clear e
    go_enter Tryz.func84, Tryz.ntmps84
    go_wp2_with (at_builtin; refine str_append base rfl (.tmp 21) (.const (.string ⟨#[84, 101, 120, 116]⟩)) rfl vb acc [84, 101, 120, 116] rfl rfl HO.out hb1 (by simpa using hlen) ?_; intro v1 w1 hown1 hkept; have HO1 := Lib.hid hown1; have HK1 := Lib.hid hkept; clear hown1 hkept)
    go_ret
    exact ⟨_, rfl, HO1.out, KA.out.trans HK1.out⟩

theorem OwnY.called {w W : World} {base : Nat} {v : Value} {A : List UInt8} (h : OwnY w base v A) (hb : Below w.heap.size w W) : OwnY W base v A := row_turn h (Tn.bel hb (fun _ => False)) (fun _ _ e => e)

set_option maxRecDepth 100000 in
set_option maxHeartbeats 8000000 in
theorem text_var (m n : List UInt8) (xs : List Ty) (v : Int) : RTextAt (.mk 6 m n xs v) := by
  intro base acc va vb w hwr hva hown hbase htab hlen
  obtain ⟨h0, h1'⟩ : 0 ≤ v ∧ v ≤ 1048576 := by simp [wrB] at hwr; omega
  obtain ⟨h1, A, c, rfl, hr⟩ := hva
  simp only [tyV, Ty.kind, Ty.mod, Ty.name, Ty.args, Ty.var] at hr ⊢
  have HO := Lib.hid (hown.alloc (.cells #[.int .i64 6, .string (S m), .string (S n), .slice A xs.length c, .int .i64 v] 24))
  have hb1 : base ≤ (w.alloc (.cells #[.int .i64 6, .string (S m), .string (S n), .slice A xs.length c, .int .i64 v] 24)).heap.size := by simp; omega
  have KA := Lib.hid (Kept.alloc w (.cells #[.int .i64 6, .string (S m), .string (S n), .slice A xs.length c, .int .i64 v] 24) hbase)
  have HT := Lib.hid htab
  clear hwr hr h1 hown htab
  have e : textT (.mk 6 m n xs v) = letterL v := by simp [textT]
  rw [e] at hlen ⊢
  clear e
  have wc := letterC_wrap v h0
  have m0 : 0 ≤ v % 26 := by omega
  have m1 : v % 26 < 26 := by omega
  have hl1 : acc.length + 1 ≤ 1000000000 := by unfold letterL at hlen; simp at hlen; omega
  by_cases hv : 26 ≤ v
  · have e : acc ++ letterL v = acc ++ [letterC v] ++ Lib.itoa (v / 26) := by unfold letterL; rw [if_pos hv]; simp
    have hl2 : (acc ++ [letterC v]).length + (Lib.itoa (v / 26)).length ≤ 1000000000 := by
      have := congrArg List.length e
      simp only [List.length_append] at this hlen ⊢
      omega
    rw [e]
    have d0 : 0 ≤ v / 26 := by omega
    have d1 : v / 26 ≤ 1000000000 := by omega
    clear e hlen
    go_enter Tryz.func84, Tryz.ntmps84
    go_wp2_with (at_builtin; refine byte_append base rfl (.tmp 25) (.tmp 31) rfl vb acc (letterC v) _ rfl rfl _ rfl (by simp) HO.out hb1 hl1 ?_; intro v1 w1 hown1 hkept; obtain ⟨x0, x1, x2, x3, x4⟩ := box_kept hkept; have HO1 := Lib.hid hown1; have HK1 := Lib.hid hkept; clear hown1 hkept x0 x1 x2 x3)
    have B1 := Lib.hid (KA.out.trans HK1.out)
    refine (Itoa_calls (v / 26) w1 (by omega) (by omega) (HT.out w1 B1.out.b)).mono ?_
    rintro e w2 ⟨rfl, hb⟩
    have hb2 : base ≤ w2.heap.size := by have h1 := (HK1.out.k 0).1; have h2 := hb.size; simp at h1; omega
    have B2 := Lib.hid (B1.out.trans (Kept.of hb (by have h1 := (HK1.out.k 0).1; simp at h1; omega)))
    have HO2 := Lib.hid (HO1.out.called hb)
    clear hb x4
    go_wp2_with (at_builtin; refine str_append base rfl (.tmp 36) (.tmp 40) rfl v1 (acc ++ [letterC v]) (Lib.itoa (v / 26)) rfl rfl HO2.out hb2 hl2 ?_; intro v3 w3 hown3 hkept; have HO3 := Lib.hid hown3; have HK3 := Lib.hid hkept; clear hown3 hkept)
    go_ret
    exact ⟨_, rfl, HO3.out, B2.out.trans HK3.out⟩
  · have e : acc ++ letterL v = acc ++ [letterC v] := by unfold letterL; rw [if_neg hv]
    rw [e]
    clear e hlen
    go_enter Tryz.func84, Tryz.ntmps84
    go_wp2_with (at_builtin; refine byte_append base rfl (.tmp 25) (.tmp 31) rfl vb acc (letterC v) _ rfl rfl _ rfl (by simp) HO.out hb1 hl1 ?_; intro v1 w1 hown1 hkept; obtain ⟨x0, x1, x2, x3, x4⟩ := box_kept hkept; have HO1 := Lib.hid hown1; have HK1 := Lib.hid hkept; clear hown1 hkept x0 x1 x2 x3)
    go_ret
    exact ⟨_, rfl, HO1.out, KA.out.trans HK1.out⟩

/-- The kids' texts that are still to come, and what is behind them. -/
def restC (ys : List Ty) (i : Nat) : List UInt8 := if i = 0 then joinC (textsT ys) else commaC (ys.drop i)
theorem restC_end (ys : List Ty) (i : Nat) (h : i = ys.length) : restC ys i = [] := by
  unfold restC
  by_cases h0 : i = 0
  · rw [if_pos h0]
    have : ys = [] := List.eq_nil_of_length_eq_zero (by omega)
    subst this
    simp [textsT, joinC]
  · rw [if_neg h0, List.drop_eq_nil_of_le (by omega)]; rfl
theorem restC_zero (ys : List Ty) (h : 0 < ys.length) : restC ys 0 = textT (tyAt ys 0) ++ restC ys 1 := by
  cases ys with
  | nil => simp at h
  | cons a ys => rw [restC, if_pos rfl, joinC_comma, restC, if_neg (by omega)]; rfl
theorem restC_succ (ys : List Ty) (i : Nat) (h0 : i ≠ 0) (h : i < ys.length) : restC ys i = [44, 32] ++ textT (tyAt ys i) ++ restC ys (i + 1) := by
  rw [restC, if_neg h0, restC, if_neg (by omega), List.drop_eq_getElem_cons h, tyAt_get h, commaC]

/-- What holds at the head of a list's loop: what has been written, and the rest. -/
structure TextIn (base : Nat) (w1 : World) (full : List UInt8) (ys : List Ty) (tail : List UInt8) (wr : World) (i : Nat) (v : Value) (A : List UInt8) : Prop where
  own : OwnY wr base v A
  eq : full = A ++ (restC ys i ++ tail)
  k : Kept base w1 wr
theorem TextIn.len {base : Nat} {w1 : World} {full : List UInt8} {ys : List Ty} {tail : List UInt8} {wr : World} {i : Nat} {v : Value} {A : List UInt8} (h : TextIn base w1 full ys tail wr i v A) : full.length = A.length + (restC ys i).length + tail.length := by
  have := congrArg List.length h.eq
  simp only [List.length_append] at this
  omega

theorem textT_fn' (m n : List UInt8) (args : List Ty) (t : Ty) (v : Int) : textT (.mk 5 m n (args ++ [t]) v) = [40] ++ joinC (textsT args) ++ [41, 32, 45, 62, 32] ++ textT t := by
  have ets : textsT (args ++ [t]) = textsT args ++ [textT t] := by rw [textsT_map, textsT_map]; simp
  simp [textT, ets]
/-- A kid's cells, wherever nothing but bytes has been written. -/
structure KidAt (xs : List Ty) (e1 off : Nat) (base : Nat) (X : World) (k : Nat) (A2 : Option Addr) (c2 : Nat) : Prop where
  g1 : X.cell? ⟨e1, off + k * 5, none⟩ = some (.int .i64 (tyAt xs k).kind)
  g2 : X.cell? ⟨e1, off + k * 5 + 1, none⟩ = some (.string (S (tyAt xs k).mod))
  g3 : X.cell? ⟨e1, off + k * 5 + 2, none⟩ = some (.string (S (tyAt xs k).name))
  g4 : X.cell? ⟨e1, off + k * 5 + 3, none⟩ = some (.slice A2 (tyAt xs k).args.length c2)
  g5 : X.cell? ⟨e1, off + k * 5 + 4, none⟩ = some (.int .i64 (tyAt xs k).var)
  v : ValT (fun b => b < base) X (.agg #[.int .i64 (tyAt xs k).kind, .string (S (tyAt xs k).mod), .string (S (tyAt xs k).name), .slice A2 (tyAt xs k).args.length c2, .int .i64 (tyAt xs k).var]) (tyAt xs k)
theorem kid_at {xs : List Ty} {base : Nat} {w : World} {A : Option Addr} {c : Nat} (h : RdL (fun b => b < base) w (.slice A xs.length c) xs) (h0 : 0 < xs.length) : ∃ e1 off, A = some ⟨e1, off, none⟩ ∧ ∀ X, Below base w X → ∀ k, k < xs.length → ∃ A2 c2, KidAt xs e1 off base X k A2 c2 := by
  obtain ⟨-, -, hxx⟩ := h.at_
  obtain ⟨e1, off, rfl, he0, -⟩ := hxx h0
  refine ⟨e1, off, rfl, fun X hX k hk => ?_⟩
  have h2 : RdL (fun b => b < base) X (.slice (some ⟨e1, off, none⟩) xs.length c) xs := h.turn (fun b h => h) (fun b o h => hX.cell (p := ⟨b, o, none⟩) h)
  obtain ⟨-, -, hxx⟩ := h2.at_
  obtain ⟨b', off', he, -, hc⟩ := hxx h0
  cases he
  obtain ⟨A2, c2, g1, g2, g3, g4, g5, g6, g7⟩ := hc k hk
  exact ⟨A2, c2, g1, g2, g3, g4, g5, g7, A2, c2, rfl, g6⟩
theorem tyAt_take {xs : List Ty} {j i : Nat} (h : i < j) : tyAt (xs.take j) i = tyAt xs i := by simp [tyAt, List.getD_eq_getElem?_getD, List.getElem?_take, h]

set_option maxRecDepth 100000 in
set_option maxHeartbeats 8000000 in
theorem text_fn (m n : List UInt8) (xs : List Ty) (v : Int) (ih : ∀ t ∈ xs, RTextAt t) : RTextAt (.mk 5 m n xs v) := by
  intro base acc va vb w hwr hva hown hbase htab hlen
  obtain ⟨hx1, hok⟩ : 1 ≤ xs.length ∧ ∀ t ∈ xs, wrB t = true := by simp [wrB] at hwr; exact ⟨hwr.1, wrL_mem hwr.2⟩
  obtain ⟨h1, A, c, rfl, hr⟩ := hva
  simp only [tyV, Ty.kind, Ty.mod, Ty.name, Ty.args, Ty.var] at hr ⊢
  have hxl : xs.length ≤ 9223372036854775000 := by obtain ⟨_, _, _, h, _⟩ := hr; exact h.1
  obtain ⟨e1, off, rfl, hkid⟩ := kid_at hr (by omega)
  obtain ⟨j, hj⟩ : ∃ j, xs.length = j + 1 := ⟨xs.length - 1, by omega⟩
  have hjl : j < xs.length := by omega
  obtain ⟨ys, hys⟩ : ∃ ys, ys = xs.take j := ⟨_, rfl⟩
  have hyl : ys.length = j := by rw [hys, List.length_take]; omega
  have e : textT (.mk 5 m n xs v) = [40] ++ joinC (textsT ys) ++ [41, 32, 45, 62, 32] ++ textT (tyAt xs j) := by
    have hs : xs = ys ++ [tyAt xs j] := by rw [hys, ← take_ty xs j hjl, ← hj, List.take_length]
    conv => lhs; rw [hs]
    exact textT_fn' m n ys (tyAt xs j) v
  obtain ⟨F, hF⟩ : ∃ F, F = acc ++ textT (.mk 5 m n xs v) := ⟨_, rfl⟩
  obtain ⟨tl, htl⟩ : ∃ tl, tl = [41, 32, 45, 62, 32] ++ textT (tyAt xs j) := ⟨_, rfl⟩
  have hFl : F.length ≤ 1000000000 := by rw [hF, List.length_append]; exact hlen
  have hF2 : F = (acc ++ [40]) ++ (restC ys 0 ++ tl) := by rw [hF, e, htl, restC, if_pos rfl]; simp
  have hl1 : acc.length + 1 ≤ 1000000000 := by
    have := congrArg List.length hF2
    simp only [List.length_append, List.length_singleton] at this
    omega
  obtain ⟨W1, hW1⟩ : ∃ W1, W1 = w.alloc (.cells #[.int .i64 5, .string (S m), .string (S n), .slice (some ⟨e1, off, none⟩) xs.length c, .int .i64 v] 24) := ⟨_, rfl⟩
  have HO := Lib.hid (hown.alloc (.cells #[.int .i64 5, .string (S m), .string (S n), .slice (some ⟨e1, off, none⟩) xs.length c, .int .i64 v] 24))
  have KA := Lib.hid (show Kept base w W1 by rw [hW1]; exact Kept.alloc w _ hbase)
  have HBX := Lib.hid (show ∀ X, Kept base W1 X → X.cell? ⟨w.heap.size, 3, none⟩ = some (.slice (some ⟨e1, off, none⟩) xs.length c) ∧ X.cell? ⟨w.heap.size, 0, none⟩ = some (.int .i64 5) from fun X hX => by
    obtain ⟨x0, x1, x2, x3, x4⟩ := box_kept (hW1 ▸ hX)
    exact ⟨x3, x0⟩)
  have HKID := Lib.hid (show ∀ X, Kept base W1 X → ∀ k, k < xs.length → ∃ A2 c2, KidAt xs e1 off base X k A2 c2 from fun X hX k hk => hkid X ((KA.out.trans hX).b) k hk)
  have HT := Lib.hid (show ∀ X, Kept base W1 X → ∀ Y, Below base X Y → TabW Y from fun X hX Y hY => htab Y ((KA.out.trans hX).b.trans hY))
  have HSZ := Lib.hid (show ∀ X, Kept base W1 X → base ≤ X.heap.size from fun X hX => by
    have h1 := (hX.k 0).1
    have h2 := (KA.out.k 0).1
    omega)
  have hb1 : base ≤ (w.alloc (.cells #[.int .i64 5, .string (S m), .string (S n), .slice (some ⟨e1, off, none⟩) xs.length c, .int .i64 v] 24)).heap.size := by simp; omega
  have HW1 := Lib.hid hW1; have HIH := Lib.hid ih; have HOK := Lib.hid hok; have HYS := Lib.hid hys; have HYL := Lib.hid hyl; have HTL := Lib.hid htl; have HF := Lib.hid hF; have HF2 := Lib.hid hF2; have HFL := Lib.hid hFl
  obtain ⟨N, hN⟩ : ∃ N, N = xs.length := ⟨_, rfl⟩
  have hjN : (N : Int) - 1 = (j : Int) := by omega
  have hN0 : N ≤ 9223372036854775000 := by omega
  have hjN2 : j < N := by omega
  have HN := Lib.hid hN; have HJN := Lib.hid hjN
  have HBX2 := Lib.hid (hN ▸ HBX.out)
  rw [← hF]
  rw [← hN] at HO hb1 ⊢
  clear e hF hF2 hFl htl hys hyl hW1 hwr hr h1 hown htab hlen hx1 hok ih hkid hj hjl hxl hN hjN HBX
  go_enter Tryz.func84, Tryz.ntmps84
  go_wp2_with (at_builtin; refine byte_append base rfl (.tmp 45) (.tmp 46) rfl vb acc 40 _ rfl rfl _ rfl (by simp) HO.out hb1 hl1 ?_; intro v1 w1 hown1 hkept; have HO1 := Lib.hid hown1; have HK1 := Lib.hid (show Kept base W1 w1 by rw [HW1.out, ← HN.out]; exact hkept); clear hown1 hkept)
  go_loopw [5, 6] (fun o i wr => ∃ (k : Nat) (B : List UInt8), k ≤ j ∧ i = .int .i64 k ∧ Hid (TextIn base W1 F ys tl wr k o B)) (fun _ i _ => j - (intOf i).toNat)
  case atStart => exact ⟨0, acc ++ [40], Nat.zero_le _, rfl, Lib.hid ⟨HO1.out, HF2.out, HK1.out⟩⟩
  case round =>
    obtain ⟨k, B, hk, rfl, hI⟩ := hrel
    obtain ⟨x3, -⟩ := HBX2.out wr hI.out.k
    by_cases hlt : k < j
    · have hkX : k < xs.length := by have := HN.out; omega
      obtain ⟨tt, htt⟩ : ∃ tt, tt = tyAt xs k := ⟨_, rfl⟩
      have HTT := Lib.hid htt
      have hyk : tyAt ys k = tt := by rw [HYS.out, htt]; exact tyAt_take hlt
      have i0 : (0 : Int) ≤ (k : Int) := by omega
      have i1 : (k : Int) + 1 < (N : Int) := by have := HJN.out; omega
      have i2 : (k : Int) < (N : Int) := by omega
      by_cases h0 : k = 0
      · subst h0
        have hE := hI.out.eq
        rw [restC_zero ys (by have := HYL.out; omega), hyk] at hE
        have hB : B.length + (textT tt).length ≤ 1000000000 := by
          have h1 := congrArg List.length hE
          have h2 := HFL.out
          simp only [List.length_append] at h1
          omega
        obtain ⟨A2, c2, hK⟩ := HKID.out wr hI.out.k 0 hkX
        have hcall := HIH.out tt (by rw [htt]; exact tyAt_mem hkX) base B _ _ wr (HOK.out tt (by rw [htt]; exact tyAt_mem hkX)) (by rw [htt]; exact hK.v) hI.out.own (HSZ.out wr hI.out.k) (HT.out wr hI.out.k) hB
        obtain ⟨g1, g2, g3, g4, g5, -⟩ := hK
        rw [← htt] at g1 g2 g3 g4 g5 hcall
        simp only [Nat.zero_mul, Nat.add_zero] at g1 g2 g3 g4 g5
        have HE := Lib.hid hE
        clear hE hB htt hyk
        go_wp2_with fail
        refine hcall.mono ?_
        rintro e w6 ⟨v6, rfl, hown6, hk6⟩
        have HI6 := Lib.hid (show TextIn base W1 F ys tl w6 1 v6 (B ++ textT tt) from ⟨hown6, by rw [HE.out]; simp only [List.append_assoc], hI.out.k.trans hk6⟩)
        clear hcall hown6 hk6 g1 g2 g3 g4 g5 x3
        go_wp2
        go_roundw
        case rel => exact ⟨1, _, by omega, by go_num, HI6⟩
        case measure => simp [intOf]; omega
      · have hE := hI.out.eq
        rw [restC_succ ys k h0 (by have := HYL.out; omega), hyk] at hE
        have hB : (B ++ [44, 32]).length + (textT tt).length ≤ 1000000000 := by
          have h1 := congrArg List.length hE
          have h2 := HFL.out
          simp only [List.length_append] at h1 ⊢
          omega
        have hB2 : B.length + [44, 32].length ≤ 1000000000 := by simp only [List.length_append] at hB; omega
        have i3 : (0 : Int) < (k : Int) := by omega
        have HE := Lib.hid hE
        have hbw := HSZ.out wr hI.out.k
        clear hE h0 hyk htt
        go_wp2_with (at_builtin; refine str_append base rfl (.tmp 58) (.const (.string ⟨#[44, 32]⟩)) rfl _ B [44, 32] rfl rfl hI.out.own hbw hB2 ?_; intro v5 w5 hown5 hkept; have K5 := Lib.hid (hI.out.k.trans hkept); obtain ⟨y3, -⟩ := HBX2.out w5 K5.out; obtain ⟨A2, c2, hK⟩ := HKID.out w5 K5.out k hkX; have hcall := HIH.out tt (by rw [HTT.out]; exact tyAt_mem hkX) base (B ++ [44, 32]) _ v5 w5 (HOK.out tt (by rw [HTT.out]; exact tyAt_mem hkX)) (by rw [HTT.out]; exact hK.v) hown5 (HSZ.out w5 K5.out) (HT.out w5 K5.out) hB; obtain ⟨g1, g2, g3, g4, g5, -⟩ := hK; rw [← HTT.out] at g1 g2 g3 g4 g5 hcall; have HCALL := Lib.hid hcall; clear hcall hown5 hkept x3)
        refine HCALL.out.mono ?_
        rintro e w6 ⟨v6, rfl, hown6, hk6⟩
        have HI6 := Lib.hid (show TextIn base W1 F ys tl w6 (k + 1) v6 (B ++ [44, 32] ++ textT tt) from ⟨hown6, by rw [HE.out]; simp only [List.append_assoc], K5.out.trans hk6⟩)
        clear HCALL hown6 hk6 g1 g2 g3 g4 g5 y3 hB hB2 hbw
        go_wp2
        go_roundw
        case rel => exact ⟨k + 1, _, by omega, by go_num, HI6⟩
        case measure => simp [intOf]; omega
    · obtain rfl : k = j := by omega
      have hE := hI.out.eq
      rw [restC_end ys k HYL.out.symm, List.nil_append, HTL.out] at hE
      obtain ⟨tt, htt⟩ : ∃ tt, tt = tyAt xs k := ⟨_, rfl⟩
      rw [← htt] at hE
      have HTT := Lib.hid htt
      have hkX : k < xs.length := by have := HN.out; omega
      have hB : (B ++ [41, 32, 45, 62, 32]).length + (textT tt).length ≤ 1000000000 := by
        have h1 := congrArg List.length hE
        have h2 := HFL.out
        simp only [List.length_append] at h1 ⊢
        omega
      have hB2 : B.length + [41, 32, 45, 62, 32].length ≤ 1000000000 := by simp only [List.length_append] at hB; omega
      have i0 : (0 : Int) ≤ (k : Int) := by omega
      have hjN := HJN.out
      have i1 : ¬ ((k : Int) + 1 < (N : Int)) := by omega
      have i2 : (k : Int) < (N : Int) := by omega
      have HE := Lib.hid hE
      have hbw := HSZ.out wr hI.out.k
      clear hE htt hlt
      go_wp2_with (at_builtin; refine str_append base rfl (.tmp 67) (.const (.string ⟨#[41, 32, 45, 62, 32]⟩)) rfl _ B [41, 32, 45, 62, 32] rfl rfl hI.out.own hbw hB2 ?_; intro v5 w5 hown5 hkept; have K5 := Lib.hid (hI.out.k.trans hkept); obtain ⟨y3, -⟩ := HBX2.out w5 K5.out; obtain ⟨A2, c2, hK⟩ := HKID.out w5 K5.out k hkX; have hcall := HIH.out tt (by rw [HTT.out]; exact tyAt_mem hkX) base (B ++ [41, 32, 45, 62, 32]) _ v5 w5 (HOK.out tt (by rw [HTT.out]; exact tyAt_mem hkX)) (by rw [HTT.out]; exact hK.v) hown5 (HSZ.out w5 K5.out) (HT.out w5 K5.out) hB; obtain ⟨g1, g2, g3, g4, g5, -⟩ := hK; rw [← HTT.out] at g1 g2 g3 g4 g5 hcall; have HCALL := Lib.hid hcall; clear hcall hown5 hkept x3)
      refine HCALL.out.mono ?_
      rintro e w6 ⟨v6, rfl, hown6, hk6⟩
      have HP := Lib.hid (show OwnY w6 base v6 F ∧ Kept base w w6 from ⟨by rw [HE.out, ← List.append_assoc]; exact hown6, KA.out.trans (K5.out.trans hk6)⟩)
      clear HCALL hown6 hk6 g1 g2 g3 g4 g5 y3 hB hB2 hbw
      go_wp2
      go_ret
      exact ⟨_, rfl, HP.out⟩

/-! ### A made type -/
theorem one_blk {W : World} {r : Nat} {T : TypeId} {a : Value} (h : W.heap[r]? = some (.cells #[a] T (0, 0))) : W.cell? ⟨r, 0, none⟩ = some a := by simp [World.cell?, h]
theorem str_step {ops : Array Oper} {o : Oper} {a : Act} {K : Act → World → Prop} {Q : Exit → Act → World → Prop} {E : Prop} {W : World} (base : Nat) (hgd : o.guard = none) (s x : Operand)
    (ho : o.op = .call { callee := .builtin .append, args := #[s, x], argTypes := #[101, 9] })
    (v : Value) (A bs : List UInt8) (hs : a.eval s = v) (hx : a.eval x = .string (S bs)) (HO : OwnY W base v A) (hbase : base ≤ W.heap.size) (hl : A.length + bs.length ≤ 1000000000)
    (h : ∀ v1 w1, OwnY w1 base v1 (A ++ bs) → Kept base W w1 → W.grownBy w1 v.ownBlock → K (a.put o.dst v1) w1) : if Region.wanted o (yielded ops a.tmps) = true then Oper.wp Tryz.prog o a W K Q else E := by
  have hw : Region.wanted o (yielded ops a.tmps) = true := by simp [Region.wanted, hgd]
  rw [if_pos hw]
  obtain ⟨i0, hi, hz0, hz1, hz2⟩ := info_parts infoByte
  obtain ⟨v', w', hr, h2, h3, h4⟩ := Lib.run_append_own_string (P := Tryz.prog) W base 101 9 o.type 5 i0 Tryz.underlying101 Tryz.underlying9 hi hz0 hz1 hz2 v A.length (Lib.strCells (S A)) HO (S bs) (by simp only [maxLen, S_size]; omega) (by simp only [S_size]; omega) hbase
  unfold Oper.wp execOp
  simp only [ho, resolve, invoke, builtin, Sem.run_bind, Sem.run_pure, Result.andThen_ok, List.map_toArray, List.map_cons, List.map_nil, hs, hx, hr]
  refine h v' w' ?_ (Kept.grown h3 HO hbase) h3
  unfold OwnY
  rw [← app_cells, List.length_append]
  simpa [S_size] using h2
theorem byte_step {ops : Array Oper} {o : Oper} {a : Act} {K : Act → World → Prop} {Q : Exit → Act → World → Prop} {E : Prop} {W : World} (base : Nat) (hgd : o.guard = none) (s x : Operand)
    (ho : o.op = .call { callee := .builtin .append, args := #[s, x], argTypes := #[101, 101] })
    (v : Value) (A : List UInt8) (c : UInt8) (z : Int) (hz : z = (c.toNat : Int)) (hs : a.eval s = v) (g : Nat) (hx : a.eval x = .slice (some ⟨g, 0, none⟩) 1 1) (hc : W.cell? ⟨g, 0, none⟩ = some (.int .u8 z)) (HO : OwnY W base v A) (hbase : base ≤ W.heap.size) (hl : A.length + 1 ≤ 1000000000)
    (h : ∀ v1 w1, OwnY w1 base v1 (A ++ [c]) → Kept base W w1 → K (a.put o.dst v1) w1) : if Region.wanted o (yielded ops a.tmps) = true then Oper.wp Tryz.prog o a W K Q else E := by
  subst hz
  obtain ⟨i0, hi, hz0, hz1, hz2⟩ := info_parts infoByte
  have e1 : Lib.strCells (S [c]) = [Value.int .u8 (c.toNat : Int)] := by simp [Lib.strCells, S_data]
  refine step_append_at W hgd s x 101 ho base 5 i0 _ 1 1 Tryz.underlying101 hi hz0 hz1 hz2 rfl (by decide) v A.length (Lib.strCells (S A)) hs HO ⟨g, 0, none⟩ 1 1 [.int .u8 (c.toNat : Int)] hx rfl
    (fun j u hj => by rcases j with _ | j <;> simp at hj; subst hj; simpa [Addr.add] using hc) (by intro u hu; simp at hu; subst hu; rfl) (by simp only [maxLen]; omega) (by omega) hbase ?_
  intro v1 w1 hown hg _
  refine h v1 w1 ?_ (Kept.grown hg HO hbase)
  unfold OwnY
  rw [← app_cells, List.length_append, e1]
  exact hown

/-- What is still to come of a made type's list. -/
def restM (xs : List Ty) (i : Nat) : List UInt8 := if i = 0 then (if xs.length = 0 then [] else [91] ++ (restC xs 0 ++ [93])) else restC xs i ++ [93]
structure MadeIn (base : Nat) (w1 : World) (full : List UInt8) (xs : List Ty) (wr : World) (i : Nat) (v : Value) (A : List UInt8) : Prop where
  own : OwnY wr base v A
  eq : full = A ++ restM xs i
  k : Kept base w1 wr

set_option maxRecDepth 100000 in
set_option maxHeartbeats 16000000 in
theorem text_made (k : Int) (m n : List UInt8) (xs : List Ty) (v : Int) (n1 : k ≠ 1) (n2 : k ≠ 2) (n3 : k ≠ 3) (n5 : k ≠ 5) (n6 : k ≠ 6) (ih : ∀ t ∈ xs, RTextAt t) : RTextAt (.mk k m n xs v) := by
  intro base acc va vb w hwr hva hown hbase htab hlen
  have hok : ∀ t ∈ xs, wrB t = true := by
    have e : wrB (.mk k m n xs v) = ((k != 5 || decide (1 ≤ xs.length)) && (k != 6 || (decide (0 ≤ v) && decide (v ≤ 1048576))) && wrL xs) := by simp [wrB]
    rw [e, Bool.and_eq_true] at hwr
    exact wrL_mem hwr.2
  obtain ⟨h1, A, c, rfl, hr⟩ := hva
  simp only [tyV, Ty.kind, Ty.mod, Ty.name, Ty.args, Ty.var] at hr ⊢
  have hxl : xs.length ≤ 9223372036854775000 := by obtain ⟨_, _, _, h, _⟩ := hr; exact h.1
  have e : textT (.mk k m n xs v) = m ++ [46] ++ n ++ restM xs 0 := by
    simp only [textT]
    rw [if_neg n1, if_neg n2, if_neg n3, if_neg n6, if_neg n5, restM, if_pos rfl, restC, if_pos rfl]
    simp
  obtain ⟨F, hF⟩ : ∃ F, F = acc ++ textT (.mk k m n xs v) := ⟨_, rfl⟩
  have hFl : F.length ≤ 1000000000 := by rw [hF, List.length_append]; exact hlen
  have hF2 : F = (acc ++ m ++ [46] ++ n) ++ restM xs 0 := by rw [hF, e]; simp
  have hFL2 := congrArg List.length hF2
  simp only [List.length_append, List.length_singleton] at hFL2
  have hl1 : acc.length + m.length ≤ 1000000000 := by omega
  have hl2 : (acc ++ m).length + 1 ≤ 1000000000 := by simp only [List.length_append]; omega
  have hl3 : (acc ++ m ++ [46]).length + n.length ≤ 1000000000 := by simp only [List.length_append, List.length_singleton]; omega
  obtain ⟨W1, hW1⟩ : ∃ W1, W1 = w.alloc (.cells #[.int .i64 k, .string (S m), .string (S n), .slice A xs.length c, .int .i64 v] 24) := ⟨_, rfl⟩
  have HO1 := Lib.hid (show OwnY W1 base vb acc by rw [hW1]; exact hown.alloc _)
  have KA := Lib.hid (show Kept base w W1 by rw [hW1]; exact Kept.alloc w _ hbase)
  have HB12 := Lib.hid (show ∀ X, Kept base W1 X → X.cell? ⟨w.heap.size, 1, none⟩ = some (.string (S m)) ∧ X.cell? ⟨w.heap.size, 2, none⟩ = some (.string (S n)) from fun X hX => by
    obtain ⟨x0, x1, x2, x3, x4⟩ := box_kept (hW1 ▸ hX)
    exact ⟨x1, x2⟩)
  obtain ⟨N, hN⟩ : ∃ N, N = xs.length := ⟨_, rfl⟩
  have HBX := Lib.hid (show ∀ X, Kept base W1 X → X.cell? ⟨w.heap.size, 3, none⟩ = some (.slice A N c) from fun X hX => by
    obtain ⟨x0, x1, x2, x3, x4⟩ := box_kept (hW1 ▸ hX)
    rw [hN]; exact x3)
  have HR := Lib.hid hr
  have HT := Lib.hid (show ∀ X, Kept base W1 X → ∀ Y, Below base X Y → TabW Y from fun X hX Y hY => htab Y ((KA.out.trans hX).b.trans hY))
  have HSZ := Lib.hid (show ∀ X, Kept base W1 X → base ≤ X.heap.size from fun X hX => by
    have h1 := (hX.k 0).1
    have h2 := (KA.out.k 0).1
    omega)
  have HIH := Lib.hid ih; have HOK := Lib.hid hok; have HF2 := Lib.hid hF2; have HFL := Lib.hid hFl
  have HN := Lib.hid hN
  have hN0 : N ≤ 9223372036854775000 := by omega
  have f1 : (k == 1) = false := by simpa using n1
  have f2 : (k == 2) = false := by simpa using n2
  have f3 : (k == 3) = false := by simpa using n3
  have f5 : (k == 5) = false := by simpa using n5
  have f6 : (k == 6) = false := by simpa using n6
  rw [← hF]
  rw [← hN] at hW1 ⊢
  clear e hF hF2 hFl hFL2 hwr hr h1 hown htab hlen hok ih hxl hN n1 n2 n3 n5 n6
  go_enter Tryz.func84, Tryz.ntmps84
  go_wp2_with fail
  rw [← hW1]
  clear hW1 f1 f2 f3 f5 f6
  refine start_ (n := 10) (S := fun w' => w'.cell? ⟨w.heap.size, 1, none⟩ = some (.string (S m)) ∧ w'.cell? ⟨w.heap.size, 2, none⟩ = some (.string (S n))) (ds := []) (bs 10 0) (by kernel_rfl) rfl rfl ⟨(HB12.out _ (Kept.of (belD14 W1.heap.size W1) (HSZ.out W1 (Kept.refl _ _)))).1, (HB12.out _ (Kept.of (belD14 W1.heap.size W1) (HSZ.out W1 (Kept.refl _ _)))).2⟩ (fun hHeld => ?_)
  refine pure_ (i := 0) (N := some 79) (v := ?_) (a' := ?_) (bs 10 1) rfl rfl (by kernel_rfl) (fun _ _ _ h => h) (Or.inl ⟨by rfl, ?_⟩) ?_ ?_
  rotate_left
  · intro w'; go_simp; with_reducible rfl
  rotate_left
  · simp only [Act.put, List.setIfInBounds_toArray, List.set_cons_zero, List.set_cons_succ, i64_w, i32_w]; rfl
  refine pure_ (i := 1) (N := some 80) (v := ?_) (a' := ?_) (bs 10 3) rfl rfl (by kernel_rfl) (fun _ _ _ h => h) (Or.inl ⟨by rfl, ?_⟩) ?_ ?_
  rotate_left
  · intro w'; go_simp; with_reducible rfl
  rotate_left
  · simp only [Act.put, List.setIfInBounds_toArray, List.set_cons_zero, List.set_cons_succ, i64_w, i32_w]; rfl
  refine pure_ (i := 6) (N := some 85) (v := ?_) (a' := ?_) (bs 10 67) rfl rfl (by kernel_rfl) (fun _ _ _ h => h) (Or.inl ⟨by rfl, ?_⟩) ?_ ?_
  rotate_left
  · intro w'; go_simp; with_reducible rfl
  rotate_left
  · simp only [Act.put, List.setIfInBounds_toArray, List.set_cons_zero, List.set_cons_succ, i64_w, i32_w]; rfl
  refine take_ (i := 2) (N := some 81) (v := ?_) (a' := ?_) (bs 10 71) rfl rfl (by kernel_rfl) (fun _ _ _ h => h) (Or.inl ⟨by rfl, ?_⟩) hHeld ?_ ?_
  rotate_left
  · rintro w' ⟨s0, s1⟩; go_simp; with_reducible rfl
  rotate_left
  · simp only [Act.put, List.setIfInBounds_toArray, List.set_cons_zero, List.set_cons_succ, i64_w, i32_w]; rfl
  refine take_ (i := 7) (N := some 86) (v := ?_) (a' := ?_) (bs 10 199) rfl rfl (by kernel_rfl) (fun _ _ _ h => h) (Or.inl ⟨by rfl, ?_⟩) hHeld ?_ ?_
  rotate_left
  · rintro w' ⟨s0, s1⟩; go_simp; with_reducible rfl
  rotate_left
  · simp only [Act.put, List.setIfInBounds_toArray, List.set_cons_zero, List.set_cons_succ, i64_w, i32_w]; rfl
  refine join_ (σ := Value × Nat) 3 (bs 10 223) (fun s => [(82, s.1), (83, Value.slice (some ⟨s.2, 0, none⟩) 1 1)]) (fun s w' => OwnY w' base s.1 (acc ++ m) ∧ w'.cell? ⟨s.2, 0, none⟩ = some (.int .u8 46) ∧ Kept base W1 w') ?_ ?_
  rotate_left
  · intro hCont
    refine two_ (i := 3) (j := 4) (Ni := some 82) (Nj := some 83) (bs 10 207) (bs 10 215) rfl rfl rfl rfl (by kernel_rfl) (by decide) (by decide) (fun K hK => ?_) (fun K hK => ?_)
    · skip
      refine str_step base rfl (.tmp 79) (.tmp 81) rfl vb acc m rfl rfl (OwnY.drew HO1.out) (HSZ.out _ (Kept.of (belD14 W1.heap.size W1) (HSZ.out W1 (Kept.refl _ _)))) hl1 ?_
      intro v1 w3 hown1 hkept hgr
      have HOW := Lib.hid hown1; have HKP := Lib.hid ((Kept.of (belD14 W1.heap.size W1) (HSZ.out W1 (Kept.refl _ _))).trans hkept)
      clear hown1 hkept hgr
      refine hK.out _ _ ⟨(HB12.out _ HKP.out).1, (HB12.out _ HKP.out).2⟩ (fun hHeld => ?_)
      clear hK K
      refine norm_ (a' := ?_) ?_ ?_
      rotate_left
      · show Act.put _ (some 82) _ = _; simp only [Act.put, List.setIfInBounds_toArray, List.set_cons_zero, List.set_cons_succ, i64_w, i32_w]; rfl
      refine one_ (i := 4) (N := some 83) (bs 10 223) rfl rfl (by kernel_rfl) (by decide) (fun K hK => ?_)
      refine value_ (w1 := ?_) (v := ?_) (by rfl) rfl ?_ ?_
      rotate_left 2
      · go_simp
        constructor
        · rfl
        · rfl
      refine hK.out _ _ ⟨(HB12.out _ (HKP.out.trans (Kept.alloc w3 _ (HSZ.out w3 HKP.out)))).1, (HB12.out _ (HKP.out.trans (Kept.alloc w3 _ (HSZ.out w3 HKP.out)))).2⟩ (fun hHeld => ?_)
      clear hK K
      refine norm_ (a' := ?_) ?_ ?_
      rotate_left
      · show Act.put _ (some 83) _ = _; simp only [Act.put, List.setIfInBounds_toArray, List.set_cons_zero, List.set_cons_succ, i64_w, i32_w]; rfl
      exact norm_ (by simp only [putAll, Act.put, List.setIfInBounds_toArray, List.set_cons_zero, List.set_cons_succ]) (hCont (v1, w3.heap.size) _ ⟨HOW.out.alloc _, by simp, HKP.out.trans (Kept.alloc w3 _ (HSZ.out w3 HKP.out))⟩)
    · skip
      refine value_ (w1 := ?_) (v := ?_) (by rfl) rfl ?_ ?_
      rotate_left 2
      · go_simp
        constructor
        · rfl
        · rfl
      refine hK.out _ _ ⟨(HB12.out _ ((Kept.alloc W1 (.cells #[.int .u8 46] 5) (HSZ.out W1 (Kept.refl _ _))).trans (Kept.of (belD14 _ _) (by have := HSZ.out W1 (Kept.refl _ _); simp; omega)))).1, (HB12.out _ ((Kept.alloc W1 (.cells #[.int .u8 46] 5) (HSZ.out W1 (Kept.refl _ _))).trans (Kept.of (belD14 _ _) (by have := HSZ.out W1 (Kept.refl _ _); simp; omega)))).2⟩ (fun hHeld => ?_)
      clear hK K
      refine norm_ (a' := ?_) ?_ ?_
      rotate_left
      · show Act.put _ (some 83) _ = _; simp only [Act.put, List.setIfInBounds_toArray, List.set_cons_zero, List.set_cons_succ, i64_w, i32_w]; rfl
      refine one_ (i := 3) (N := some 82) (bs 10 223) rfl rfl (by kernel_rfl) (by decide) (fun K hK => ?_)
      refine str_step base rfl (.tmp 79) (.tmp 81) rfl vb acc m rfl rfl (OwnY.drew (OwnY.alloc HO1.out _)) (HSZ.out _ ((Kept.alloc W1 (.cells #[.int .u8 46] 5) (HSZ.out W1 (Kept.refl _ _))).trans (Kept.of (belD14 _ _) (by have := HSZ.out W1 (Kept.refl _ _); simp; omega)))) hl1 ?_
      intro v1 w3 hown1 hkept hgr
      have HOW := Lib.hid hown1; have HKP := Lib.hid (((Kept.alloc W1 (.cells #[.int .u8 46] 5) (HSZ.out W1 (Kept.refl _ _))).trans (Kept.of (belD14 _ _) (by have := HSZ.out W1 (Kept.refl _ _); simp; omega))).trans hkept)
      have HC := Lib.hid (show w3.cell? ⟨W1.heap.size, 0, none⟩ = some (.int .u8 46) from (World.cell?_of_block (hgr.block W1.heap.size (by simp [drew_size]) (fun e => by have h := (row_lt HO1.out _ e.symm).2; omega))).trans (one_blk (W := (W1.alloc (.cells #[.int .u8 46] 5)).drew) (MapKept.heap_alloc W1 (.cells #[.int .u8 46] 5)).1))
      clear hown1 hkept hgr
      refine hK.out _ _ ⟨(HB12.out _ HKP.out).1, (HB12.out _ HKP.out).2⟩ (fun hHeld => ?_)
      clear hK K
      refine norm_ (a' := ?_) ?_ ?_
      rotate_left
      · show Act.put _ (some 82) _ = _; simp only [Act.put, List.setIfInBounds_toArray, List.set_cons_zero, List.set_cons_succ, i64_w, i32_w]; rfl
      exact norm_ (by simp only [putAll, Act.put, List.setIfInBounds_toArray, List.set_cons_zero, List.set_cons_succ]) (hCont (v1, W1.heap.size) _ ⟨HOW.out, HC.out, HKP.out⟩)
  rintro ⟨v2, g2⟩ u2 ⟨hF1, hF2, hF3⟩
  dsimp only at hF1 hF2
  have HO2 := Lib.hid hF1; have HC2 := Lib.hid hF2; have K2 := Lib.hid hF3
  have hHeld := HB12.out u2 hF3
  clear hF1 hF2 hF3
  refine norm_ (a' := ?_) ?_ ?_
  rotate_left
  · simp only [putAll, Act.put, List.setIfInBounds_toArray, List.set_cons_zero, List.set_cons_succ]
    rfl
  refine one_ (i := 5) (N := some 84) (bs 10 255) rfl rfl (by kernel_rfl) (by decide) (fun K hK => ?_)
  refine byte_step base rfl (.tmp 82) (.tmp 83) rfl v2 (acc ++ m) 46 _ rfl rfl g2 rfl HC2.out HO2.out (HSZ.out _ K2.out) hl2 ?_
  intro v3 u3 hown3 hkept
  have HO3 := Lib.hid hown3; have K3 := Lib.hid (K2.out.trans hkept)
  clear hown3 hkept
  refine hK.out _ _ ⟨(HB12.out _ K3.out).1, (HB12.out _ K3.out).2⟩ (fun hHeld => ?_)
  clear hK K
  refine norm_ (a' := ?_) ?_ ?_
  rotate_left
  · show Act.put _ (some 84) _ = _; simp only [Act.put, List.setIfInBounds_toArray, List.set_cons_zero, List.set_cons_succ, i64_w, i32_w]; rfl
  refine one_ (i := 8) (N := some 87) (bs 10 511) rfl rfl (by kernel_rfl) (by decide) (fun K hK => ?_)
  refine str_step base rfl (.tmp 84) (.tmp 86) rfl v3 (acc ++ m ++ [46]) n rfl rfl HO3.out (HSZ.out _ K3.out) hl3 ?_
  intro v4 u4 hown4 hkept hgr
  have HO4 := Lib.hid hown4; have K4 := Lib.hid (K3.out.trans hkept)
  clear hown4 hkept hgr
  refine hK.out _ _ ⟨(HB12.out _ K4.out).1, (HB12.out _ K4.out).2⟩ (fun hHeld => ?_)
  clear hK K
  refine norm_ (a' := ?_) ?_ ?_
  rotate_left
  · show Act.put _ (some 87) _ = _; simp only [Act.put, List.setIfInBounds_toArray, List.set_cons_zero, List.set_cons_succ, i64_w, i32_w]; rfl
  refine pure_ (i := 9) (N := some 5) (v := ?_) (a' := ?_) (bs 10 1023) rfl rfl (by kernel_rfl) (fun _ _ _ h => h) (Or.inl ⟨by rfl, ?_⟩) ?_ ?_
  rotate_left
  · intro w'; go_simp; with_reducible rfl
  rotate_left
  · simp only [Act.put, List.setIfInBounds_toArray, List.set_cons_zero, List.set_cons_succ, i64_w, i32_w]; rfl
  refine done_ (by kernel_rfl) ?_
  clear hHeld
  have HI0 := Lib.hid (show MadeIn base W1 F xs u4 0 v4 (acc ++ m ++ [46] ++ n) from ⟨HO4.out, HF2.out, K4.out⟩)
  clear HO4 K4
  go_wp2_with fail
  go_loopw [5, 7] (fun o i wr => ∃ (j : Nat) (B : List UInt8), j ≤ N ∧ i = .int .i64 j ∧ Hid (MadeIn base W1 F xs wr j o B)) (fun _ i _ => N - (intOf i).toNat)
  case atStart => exact ⟨0, _, Nat.zero_le _, rfl, HI0⟩
  case round =>
    obtain ⟨j, B, hj, rfl, hI⟩ := hrel
    have x3 := HBX.out wr hI.out.k
    by_cases hlt : j < N
    · have hkX : j < xs.length := by have := HN.out; omega
      have hrw : RdL (fun b => b < base) w (.slice A xs.length c) xs := HR.out
      obtain ⟨e1, off, rfl, hkid⟩ := kid_at hrw (by omega)
      have HKID := Lib.hid (show ∀ X, Kept base W1 X → ∃ A2 c2, KidAt xs e1 off base X j A2 c2 from fun X hX => hkid X ((KA.out.trans hX).b) j hkX)
      obtain ⟨tt, htt⟩ : ∃ tt, tt = tyAt xs j := ⟨_, rfl⟩
      have HTT := Lib.hid htt
      have i0 : (0 : Int) ≤ (j : Int) := by omega
      have i2 : (j : Int) < (N : Int) := by omega
      by_cases h0 : j = 0
      · subst h0
        have hE := hI.out.eq
        rw [restM, if_pos rfl, if_neg (by omega), restC_zero xs hkX, ← htt] at hE
        have hE2 : F = (B ++ [91] ++ textT tt) ++ restM xs 1 := by rw [hE, restM, if_neg (by omega)]; simp only [List.append_assoc]
        have hB : (B ++ [91]).length + (textT tt).length ≤ 1000000000 := by
          have h1 := congrArg List.length hE2
          have h2 := HFL.out
          simp only [List.length_append] at h1 ⊢
          omega
        have hB2 : B.length + 1 ≤ 1000000000 := by simp only [List.length_append, List.length_singleton] at hB; omega
        have HE := Lib.hid hE2
        have hbw := HSZ.out wr hI.out.k
        clear hE hE2 htt hrw hkid
        go_wp2_with (at_builtin; refine byte_append base rfl (.tmp 97) (.tmp 98) rfl _ B 91 _ rfl rfl _ rfl rfl hI.out.own hbw hB2 ?_; intro v5 w5 hown5 hkept; have K5 := Lib.hid (hI.out.k.trans hkept); have y3 := HBX.out w5 K5.out; obtain ⟨A2, c2, hK⟩ := HKID.out w5 K5.out; have hcall := HIH.out tt (by rw [HTT.out]; exact tyAt_mem hkX) base (B ++ [91]) _ v5 w5 (HOK.out tt (by rw [HTT.out]; exact tyAt_mem hkX)) (by rw [HTT.out]; exact hK.v) hown5 (HSZ.out w5 K5.out) (HT.out w5 K5.out) hB; obtain ⟨g1, g2, g3, g4, g5, -⟩ := hK; rw [← HTT.out] at g1 g2 g3 g4 g5 hcall; simp only [Nat.zero_mul, Nat.add_zero] at g1 g2 g3 g4 g5; have HCALL := Lib.hid hcall; clear hcall hown5 hkept x3)
        refine HCALL.out.mono ?_
        rintro e w6 ⟨v6, rfl, hown6, hk6⟩
        have HI6 := Lib.hid (show MadeIn base W1 F xs w6 1 v6 (B ++ [91] ++ textT tt) from ⟨hown6, HE.out, K5.out.trans hk6⟩)
        clear HCALL hown6 hk6 g1 g2 g3 g4 g5 y3 hB hB2 hbw
        go_wp2
        go_roundw
        case rel => exact ⟨1, _, by omega, by go_num, HI6⟩
        case measure => simp [intOf]; omega
      · have hE := hI.out.eq
        rw [restM, if_neg h0, restC_succ xs j h0 hkX, ← htt] at hE
        have hE2 : F = (B ++ [44, 32] ++ textT tt) ++ restM xs (j + 1) := by rw [hE, restM, if_neg (by omega)]; simp only [List.append_assoc]
        have hB : (B ++ [44, 32]).length + (textT tt).length ≤ 1000000000 := by
          have h1 := congrArg List.length hE2
          have h2 := HFL.out
          simp only [List.length_append] at h1 ⊢
          omega
        have hB2 : B.length + [44, 32].length ≤ 1000000000 := by simp only [List.length_append] at hB; omega
        have i3 : ((j : Int) == 0) = false := by simpa using h0
        have HE := Lib.hid hE2
        have hbw := HSZ.out wr hI.out.k
        clear hE hE2 htt hrw hkid h0
        go_wp2_with (at_builtin; refine str_append base rfl (.tmp 100) (.const (.string ⟨#[44, 32]⟩)) rfl _ B [44, 32] rfl rfl hI.out.own hbw hB2 ?_; intro v5 w5 hown5 hkept; have K5 := Lib.hid (hI.out.k.trans hkept); have y3 := HBX.out w5 K5.out; obtain ⟨A2, c2, hK⟩ := HKID.out w5 K5.out; have hcall := HIH.out tt (by rw [HTT.out]; exact tyAt_mem hkX) base (B ++ [44, 32]) _ v5 w5 (HOK.out tt (by rw [HTT.out]; exact tyAt_mem hkX)) (by rw [HTT.out]; exact hK.v) hown5 (HSZ.out w5 K5.out) (HT.out w5 K5.out) hB; obtain ⟨g1, g2, g3, g4, g5, -⟩ := hK; rw [← HTT.out] at g1 g2 g3 g4 g5 hcall; have HCALL := Lib.hid hcall; clear hcall hown5 hkept x3)
        refine HCALL.out.mono ?_
        rintro e w6 ⟨v6, rfl, hown6, hk6⟩
        have HI6 := Lib.hid (show MadeIn base W1 F xs w6 (j + 1) v6 (B ++ [44, 32] ++ textT tt) from ⟨hown6, HE.out, K5.out.trans hk6⟩)
        clear HCALL hown6 hk6 g1 g2 g3 g4 g5 y3 hB hB2 hbw
        go_wp2
        go_roundw
        case rel => exact ⟨j + 1, _, by omega, by go_num, HI6⟩
        case measure => simp [intOf]; omega
    · obtain rfl : j = N := by omega
      have lt1 : ¬ ((j : Int) < (j : Int)) := by omega
      have hE := hI.out.eq
      by_cases h0 : j = 0
      · subst h0
        rw [restM, if_pos rfl, if_pos (by have := HN.out; omega), List.append_nil] at hE
        have HP := Lib.hid (show OwnY wr base _ F ∧ Kept base w wr from ⟨by rw [hE]; exact hI.out.own, KA.out.trans hI.out.k⟩)
        clear hE hlt
        go_wp2
        go_ret
        exact ⟨_, rfl, HP.out⟩
      · rw [restM, if_neg h0, restC_end xs j HN.out, List.nil_append] at hE
        have hB2 : B.length + 1 ≤ 1000000000 := by
          have h1 := congrArg List.length hE
          have h2 := HFL.out
          simp only [List.length_append, List.length_singleton] at h1
          omega
        have i3 : (0 : Int) < (j : Int) := by omega
        have HE := Lib.hid hE
        have hbw := HSZ.out wr hI.out.k
        clear hE hlt h0
        go_wp2_with (at_builtin; refine byte_append base rfl (.tmp 113) (.tmp 114) rfl _ B 93 _ rfl rfl _ rfl rfl hI.out.own hbw hB2 ?_; intro v5 w5 hown5 hkept; have HP := Lib.hid (show OwnY w5 base v5 F ∧ Kept base w w5 from ⟨by rw [HE.out]; exact hown5, KA.out.trans (hI.out.k.trans hkept)⟩); clear hown5 hkept x3)
        go_ret
        exact ⟨_, rfl, HP.out⟩

theorem rtext_calls (t : Ty) : RTextAt t := by
  induction t using Ty.ind with
  | h k m n xs v ih =>
    by_cases h1 : k = 1 ∨ k = 2 ∨ k = 3
    · exact text_leaf k m n xs v h1
    · by_cases h5 : k = 5
      · subst h5; exact text_fn m n xs v ih
      · by_cases h6 : k = 6
        · subst h6; exact text_var m n xs v
        · exact text_made k m n xs v (by omega) (by omega) (by omega) h5 h6 ih

set_option maxRecDepth 100000 in
set_option maxHeartbeats 4000000 in
theorem RText_ty_calls (t : Ty) (v : Value) (w : World) (hf : formedB t = true) (hv : RdV w v t) (ht : TabW w) : Calls Tryz.prog 45 #[v] w fun e w' => e = .returned (.string (S (textT t))) ∧ Below w.heap.size w w' := by
  obtain ⟨h1, A, c, rfl, hr⟩ := hv
  unfold tyV
  obtain ⟨hw, hl⟩ := formed_text hf
  obtain ⟨w1, hw1⟩ : ∃ w1, w1 = w.alloc (.cells #[.int .i64 t.kind, .string (S t.mod), .string (S t.name), .slice A t.args.length c, .int .i64 t.var] 24) := ⟨_, rfl⟩
  have B1 := Lib.hid (show Below w.heap.size w w1 by rw [hw1]; exact bel_alloc (Below.refl _ _) _)
  have hcall := rtext_calls t w1.heap.size [] _ (.slice none 0 0) w1 hw (RdV.below ⟨h1, A, c, rfl, hr⟩ B1.out) (OwnY.nil _ _) (Nat.le_refl _) (fun X hX => (ht.called B1.out).called hX) (by simp; omega)
  unfold tyV at hcall
  rw [List.nil_append] at hcall
  clear h1 hr hw hl hf ht
  go_enter Tryz.func45, Tryz.ntmps45
  go_wp2_with fail
  rw [← hw1]
  clear hw1
  refine hcall.mono ?_
  rintro e w2 ⟨v2, rfl, hown, hk⟩
  have HP := Lib.hid (show Below w.heap.size w w2 from B1.out.trans (hk.b.mono B1.out.size))
  have hcv := convY hown
  clear hown hk hcall
  go_wp2
  go_ret
  exact ⟨rfl, HP.out⟩

end Go.Proofs.YtplnfepdikbpfaaGreatDoor
