/- The walk of unify.write. Conditions: the type reads below the builder, it is one that can be written, the text takes at most 2^47 bytes. -/
import Derived.Test.YtplnfepdikbpfaaGreatDoorU4
import Derived.Deep.RegionHeld3
import Derived.Outline
import Derived.StillTailTactics
namespace Go.Proofs.YtplnfepdikbpfaaGreatDoor
open Go.RowKit
set_option linter.unusedVariables false
set_option linter.unusedSimpArgs false

theorem KeepB.two (b : Nat) (w : World) (o1 o2 : Obj) : KeepB b w ((w.alloc o1).alloc o2) := (KeepB.alloc b w o1).trans (KeepB.alloc b _ o2)
theorem bel_two (w : World) (o1 o2 : Obj) : Below w.heap.size w ((w.alloc o1).alloc o2) := bel_alloc (bel_alloc (Below.refl _ _) _) _

set_option maxHeartbeats 4000000 in
theorem write_123 (k : Int) (hk : k = 1 ∨ k = 2 ∨ k = 3) (m n : List UInt8) (xs : List Ty) (v : Int) (A : Option Addr) (c : Nat) (B b : Nat) (l : List UInt8) (w : World) (hB : BuildL B b l w) (hBs : B ≤ w.heap.size)
    (hlen : l.length + (textT (.mk k m n xs v)).length ≤ 140737488355328) :
    Calls Tryz.prog 65 #[.pointer (some ⟨b, 0, none⟩), .agg #[.int .i64 k, .string (S m), .string (S n), .slice A xs.length c, .int .i64 v]] w (Wrote B b (l ++ textT (.mk k m n xs v)) w) := by
  have HB := Lib.hid hB; clear hB
  rcases hk with rfl | rfl | rfl
  · have e : textT (.mk 1 m n xs v) = [73, 110, 116] := by simp [textT]
    rw [e] at hlen ⊢
    go_enter Tryz.func65, Tryz.ntmps65
    go_wp2_with fail
    refine (builder_Put B b l [73, 110, 116] _ (HB.out.below (bel_two _ _ _)) hlen (by simp; omega)).mono ?_
    rintro e w1 ⟨rfl, h1, h2, h3⟩
    go_wp2
    go_end0
    exact ⟨rfl, h1, ((bel_two _ _ _).mono hBs).trans h2, (KeepB.two _ _ _ _).trans h3⟩
  · have e : textT (.mk 2 m n xs v) = [66, 111, 111, 108] := by simp [textT]
    rw [e] at hlen ⊢
    go_enter Tryz.func65, Tryz.ntmps65
    go_wp2_with fail
    refine (builder_Put B b l [66, 111, 111, 108] _ (HB.out.below (bel_two _ _ _)) hlen (by simp; omega)).mono ?_
    rintro e w1 ⟨rfl, h1, h2, h3⟩
    go_wp2
    go_end0
    exact ⟨rfl, h1, ((bel_two _ _ _).mono hBs).trans h2, (KeepB.two _ _ _ _).trans h3⟩
  · have e : textT (.mk 3 m n xs v) = [84, 101, 120, 116] := by simp [textT]
    rw [e] at hlen ⊢
    go_enter Tryz.func65, Tryz.ntmps65
    go_wp2_with fail
    refine (builder_Put B b l [84, 101, 120, 116] _ (HB.out.below (bel_two _ _ _)) hlen (by simp; omega)).mono ?_
    rintro e w1 ⟨rfl, h1, h2, h3⟩
    go_wp2
    go_end0
    exact ⟨rfl, h1, ((bel_two _ _ _).mono hBs).trans h2, (KeepB.two _ _ _ _).trans h3⟩

set_option maxHeartbeats 4000000 in
theorem write_6 (m n : List UInt8) (xs : List Ty) (v : Int) (h0 : 0 ≤ v) (h1 : v ≤ 1048576) (A : Option Addr) (c : Nat) (B b : Nat) (l : List UInt8) (w : World) (hB : BuildL B b l w) (hBs : B ≤ w.heap.size) (ht : TabB B w)
    (hlen : l.length + (textT (.mk 6 m n xs v)).length ≤ 140737488355328) :
    Calls Tryz.prog 65 #[.pointer (some ⟨b, 0, none⟩), .agg #[.int .i64 6, .string (S m), .string (S n), .slice A xs.length c, .int .i64 v]] w (Wrote B b (l ++ textT (.mk 6 m n xs v)) w) := by
  have HB := Lib.hid hB; clear hB
  have HT := Lib.hid ht; clear ht
  have e : textT (.mk 6 m n xs v) = letterL v := by simp [textT]
  rw [e] at hlen ⊢
  clear e
  obtain ⟨W0, hW0⟩ : ∃ W0, W0 = (w.alloc (.cells #[.pointer (some ⟨b, 0, none⟩)] 100)).alloc (.cells #[.int .i64 6, .string (S m), .string (S n), .slice A xs.length c, .int .i64 v] 24) := ⟨_, rfl⟩
  have hal : Below w.heap.size w W0 := by rw [hW0]; exact bel_two _ _ _
  have hkp : KeepB b w W0 := by rw [hW0]; exact KeepB.two _ _ _ _
  have a0 : W0.cell? ⟨w.heap.size, 0, none⟩ = some (.pointer (some ⟨b, 0, none⟩)) := by rw [hW0]; go_simp
  have a1 : W0.cell? ⟨w.heap.size + 1, 4, none⟩ = some (.int .i64 v) := by rw [hW0]; go_simp
  have hz : w.heap.size + 1 < W0.heap.size := by rw [hW0]; simp
  have hz0 : w.heap.size < W0.heap.size := by omega
  have nb0 : NoBytes W0 w.heap.size := by rw [hW0]; exact NoBytes.of (c := #[.pointer (some ⟨b, 0, none⟩)]) (t := 100) (f := (0, 0)) (((bel_alloc (Below.refl _ _) _).block _ (by simp)).trans (heap_alloc_new w _)) (by decide)
  have nb1 : NoBytes W0 (w.heap.size + 1) := by rw [hW0]; exact NoBytes.of (c := #[.int .i64 6, .string (S m), .string (S n), .slice A xs.length c, .int .i64 v]) (t := 24) (f := (0, 0)) (by simpa using heap_alloc_new (w.alloc _) _) (by decide)
  have hbl := HB.out.lt
  have hne0 : w.heap.size ≠ b := by omega
  have hne1 : w.heap.size + 1 ≠ b := by omega
  go_enter Tryz.func65, Tryz.ntmps65
  go_wp2_with fail
  rw [← hW0]
  clear hW0
  go_region_held3 (fun W => W.cell? ⟨w.heap.size, 0, none⟩ = some (.pointer (some ⟨b, 0, none⟩)) ∧ W.cell? ⟨w.heap.size + 1, 4, none⟩ = some (.int .i64 v))
    (first | exact ⟨a0, a1⟩ | exact ⟨by simpa using a0, by simpa using a1⟩ | exact ⟨(hb1.cell (p := ⟨_, _, none⟩) hz0).trans a0, (hb1.cell (p := ⟨_, _, none⟩) hz).trans a1⟩ | exact ⟨(((KeepB.of_below hb1).trans hk2).cell hz0 hne0 nb0 0).trans a0, (((KeepB.of_below hb1).trans hk2).cell hz hne1 nb1 4).trans a1⟩)
    (first
      | (go_at_call 101; refine (letter_calls v _ h0 (by omega) (((HT.out.next (hal.mono hBs)).now).called (bel_drew (Below.refl _ _)))).mono ?_; rintro e w1 ⟨rfl, hb1⟩; replace hb1 : Below W0.heap.size W0 w1 := (bel_drew (Below.refl W0.heap.size W0)).trans hb1)
      | (go_at_call 110; refine (builder_Put B b l (letterL v) _ ((HB.out.below hal).below hb1) hlen (by have := hb1.size; omega)).mono ?_; rintro e w2 ⟨rfl, hbl2, hb2, hk2⟩))
  go_wp2
  go_end0
  exact ⟨rfl, hbl2, ((hal.mono hBs).trans (hb1.mono (Nat.le_trans hBs hal.size))).trans hb2, (hkp.trans (KeepB.of_below hb1)).trans hk2⟩

theorem RdL.take {ok : Nat → Prop} {w : World} {A : Option Addr} {n c : Nat} {xs : List Ty} (h : RdL ok w (.slice A n c) xs) (j : Nat) (hj : j ≤ n) : RdL ok w (.slice A j c) (xs.take j) := by
  obtain ⟨A', c', he, ⟨hl, hc⟩, hh⟩ := h
  simp only [Value.slice.injEq] at he
  obtain ⟨rfl, rfl, rfl⟩ := he
  have hlen : (xs.take j).length = j := by rw [List.length_take]; omega
  refine ⟨A, c, by rw [hlen], by rw [hlen]; omega, fun hne => ?_⟩
  obtain ⟨b, o, rfl, hb, hF⟩ := hh (by intro e; rw [e] at hne; simp at hne)
  refine ⟨b, o, rfl, hb, RdF_of fun k hk => ?_⟩
  rw [hlen] at hk
  have e : tyAt (xs.take j) k = tyAt xs k := by simp [tyAt, List.getD_eq_getElem?_getD, List.getElem?_take, hk]
  rw [e]
  exact RdF_at hF k (by omega)

/-- What write's two boxes hold, wherever the builder alone has been written. -/
structure Boxes (w0 : World) (b : Nat) (k : Int) (m n : List UInt8) (A : Option Addr) (len c : Nat) (v : Int) (W : World) : Prop where
  a : W.cell? ⟨w0.heap.size, 0, none⟩ = some (.pointer (some ⟨b, 0, none⟩))
  c0 : W.cell? ⟨w0.heap.size + 1, 0, none⟩ = some (.int .i64 k)
  c1 : W.cell? ⟨w0.heap.size + 1, 1, none⟩ = some (.string (S m))
  c2 : W.cell? ⟨w0.heap.size + 1, 2, none⟩ = some (.string (S n))
  c3 : W.cell? ⟨w0.heap.size + 1, 3, none⟩ = some (.slice A len c)
  c4 : W.cell? ⟨w0.heap.size + 1, 4, none⟩ = some (.int .i64 v)
  h : W.heap[w0.heap.size]? = some (.cells #[.pointer (some ⟨b, 0, none⟩)] 100 (0, 0))

theorem boxes (w0 : World) (b : Nat) (hb : b < w0.heap.size) (k : Int) (m n : List UInt8) (A : Option Addr) (len c : Nat) (v : Int) (W : World)
    (hk : KeepB b ((w0.alloc (.cells #[.pointer (some ⟨b, 0, none⟩)] 100)).alloc (.cells #[.int .i64 k, .string (S m), .string (S n), .slice A len c, .int .i64 v] 24)) W) : Boxes w0 b k m n A len c v W := by
  have nb0 : NoBytes ((w0.alloc (.cells #[.pointer (some ⟨b, 0, none⟩)] 100)).alloc (.cells #[.int .i64 k, .string (S m), .string (S n), .slice A len c, .int .i64 v] 24)) w0.heap.size :=
    NoBytes.of (c := #[.pointer (some ⟨b, 0, none⟩)]) (t := 100) (f := (0, 0)) (((bel_alloc (Below.refl _ _) _).block _ (by simp)).trans (heap_alloc_new w0 _)) (by decide)
  have nb1 : NoBytes ((w0.alloc (.cells #[.pointer (some ⟨b, 0, none⟩)] 100)).alloc (.cells #[.int .i64 k, .string (S m), .string (S n), .slice A len c, .int .i64 v] 24)) (w0.heap.size + 1) :=
    NoBytes.of (c := #[.int .i64 k, .string (S m), .string (S n), .slice A len c, .int .i64 v]) (t := 24) (f := (0, 0)) (by simpa using heap_alloc_new (w0.alloc _) _) (by decide)
  have k0 := fun o => hk.cell (k := w0.heap.size) (by simp; omega) (by omega) nb0 o
  have k1 := fun o => hk.cell (k := w0.heap.size + 1) (by simp) (by omega) nb1 o
  refine ⟨(k0 0).trans ?_, (k1 0).trans ?_, (k1 1).trans ?_, (k1 2).trans ?_, (k1 3).trans ?_, (k1 4).trans ?_, ?_⟩
  · go_simp
  · go_simp
  · go_simp
  · go_simp
  · go_simp
  · go_simp
  · rw [hk.2 w0.heap.size (by simp; omega) (by omega) nb0]
    exact ((bel_alloc (Below.refl _ _) _).block _ (by simp)).trans (heap_alloc_new w0 _)

set_option maxRecDepth 100000 in
set_option maxHeartbeats 8000000 in
theorem write_5 (m n : List UInt8) (xs : List Ty) (v : Int) (hx : 1 ≤ xs.length) (ih : ∀ t ∈ xs, WriteAt t) (hok : ∀ t ∈ xs, wrB t = true) (A : Option Addr) (c : Nat) (B b : Nat) (l : List UInt8) (w : World) (hv : RdL (LtB B) w (.slice A xs.length c) xs) (hB : BuildL B b l w) (hBs : B ≤ w.heap.size) (ht : TabB B w)
    (hlen : l.length + (textT (.mk 5 m n xs v)).length ≤ 140737488355328) :
    Calls Tryz.prog 65 #[.pointer (some ⟨b, 0, none⟩), .agg #[.int .i64 5, .string (S m), .string (S n), .slice A xs.length c, .int .i64 v]] w (Wrote B b (l ++ textT (.mk 5 m n xs v)) w) := by
  have HB := Lib.hid hB; have HT := Lib.hid ht; have HV := Lib.hid hv; have HO := Lib.hid hok
  have hbl := hB.lt
  clear hB ht hok
  obtain ⟨j, hj⟩ : ∃ j, xs.length = j + 1 := ⟨xs.length - 1, by omega⟩
  have hjl : j < xs.length := by omega
  have e : textT (.mk 5 m n xs v) = [40] ++ joinC (textsT (xs.take j)) ++ [41, 32, 45, 62, 32] ++ textT (tyAt xs j) := by
    have hs : xs = xs.take j ++ [tyAt xs j] := by rw [← take_ty xs j hjl, ← hj, List.take_length]
    simp only [textT]
    conv => lhs; rw [hs]
    simp [textsT_map]
  rw [e] at hlen ⊢
  clear e
  obtain ⟨W0, hW0⟩ : ∃ W0, W0 = (w.alloc (.cells #[.pointer (some ⟨b, 0, none⟩)] 100)).alloc (.cells #[.int .i64 5, .string (S m), .string (S n), .slice A xs.length c, .int .i64 v] 24) := ⟨_, rfl⟩
  have hal : Below w.heap.size w W0 := by rw [hW0]; exact bel_two _ _ _
  have hkp : KeepB b w W0 := by rw [hW0]; exact KeepB.two _ _ _ _
  have BX := Lib.hid (fun W (hk : KeepB b W0 W) => boxes w b hbl 5 m n A xs.length c v W (by rw [hW0] at hk; exact hk))
  have hz : w.heap.size + 1 < W0.heap.size := by rw [hW0]; simp
  obtain ⟨-, ⟨hlb, hcap⟩, -⟩ := hv.at_
  clear hv
  have HJ := Lib.hid hj
  obtain ⟨N, hN⟩ : ∃ N, N = xs.length := ⟨_, rfl⟩
  have HN := Lib.hid hN
  have eN : (N : Int) - 1 = (j : Int) := by omega
  have hNj : j < N := by omega
  rw [← hN] at HV BX hW0 hlb hcap ⊢
  clear hj hx hN
  have j0 : (0 : Int) ≤ (j : Int) := by omega
  have j1 : (j : Int) ≤ (c : Int) := by omega
  have j2 : (j : Int) < (N : Int) := by omega
  go_enter Tryz.func65, Tryz.ntmps65
  go_wp2_with fail
  rw [← hW0]
  clear hW0
  refine (builder_Put B b l [40] W0 (HB.out.below hal) (by simp at hlen ⊢; omega) (by omega)).mono ?_
  rintro e w1 ⟨rfl, hl1, hb1, hk1⟩
  obtain ⟨a0, c0, c1, c2, c3, c4, hh⟩ := BX.out w1 hk1
  have HL1 := Lib.hid hl1
  have HH1 := Lib.hid hh
  have hz1 := hk1.1
  clear hl1 hh
  have hlen2 : (l ++ [40]).length + (joinC (textsT (xs.take j))).length ≤ 140737488355328 := by simp only [List.length_append] at hlen ⊢; omega
  have hlen3 : (l ++ [40] ++ joinC (textsT (xs.take j))).length + ([41, 32, 45, 62, 32] : List UInt8).length ≤ 140737488355328 := by simp only [List.length_append] at hlen ⊢; omega
  have hlen4 : (l ++ [40] ++ joinC (textsT (xs.take j)) ++ [41, 32, 45, 62, 32]).length + (textT (tyAt xs j)).length ≤ 140737488355328 := by simp only [List.length_append] at hlen ⊢; omega
  have HL := Lib.hid hlen2; have HL3 := Lib.hid hlen3; have HL4 := Lib.hid hlen4
  clear hlen hlen2 hlen3 hlen4
  have hB1 := Lib.hid ((hal.mono hBs).trans hb1)
  have HK1 := Lib.hid hk1
  clear hb1 hk1
  go_wp2_with fail
  refine (write1_calls (xs.take j) (fun t ht => ih t (List.mem_of_mem_take ht)) B b w.heap.size _ _ w1 ((HV.out.belowB hB1.out).take j (by omega)) (fun t ht => HO.out t (List.mem_of_mem_take ht)) HL1.out (by omega) (HT.out.next hB1.out) HL.out HH1.out (by omega)).mono ?_
  rintro e w2 ⟨rfl, hl2, hb2, hk2⟩
  clear a0 c0 c1 c2 c3 c4
  have HK2 := Lib.hid (HK1.out.trans hk2)
  obtain ⟨a0, c0, c1, c2, c3, c4, hh⟩ := BX.out w2 HK2.out
  have HL2 := Lib.hid hl2
  have hB2 := Lib.hid (hB1.out.trans hb2)
  have hz2 := HK2.out.1
  clear hl2 hh hb2 hk2
  go_wp2_with fail
  refine (builder_Put B b _ [41, 32, 45, 62, 32] w2 HL2.out HL3.out (by omega)).mono ?_
  rintro e w3 ⟨rfl, hl3, hb3, hk3⟩
  clear a0 c0 c1 c2 c3 c4
  have HK3 := Lib.hid (HK2.out.trans hk3)
  obtain ⟨a0, c0, c1, c2, c3, c4, hh⟩ := BX.out w3 HK3.out
  have HL5 := Lib.hid hl3
  have hB3 := Lib.hid (hB2.out.trans hb3)
  have hz3 := HK3.out.1
  clear hl3 hh hb3 hk3
  obtain ⟨-, -, hxx⟩ := (HV.out.belowB hB3.out).at_
  obtain ⟨b1, off, rfl, hb0, hc⟩ := hxx (by omega)
  obtain ⟨A2, c2', g1, g2, g3, g4, g5, g6, g7⟩ := hc j (by omega)
  have hg6 := Lib.hid g6
  clear hc hxx g6
  go_wp2_with fail
  go_still_tail 6, (by kernel_rfl)
  change wpList _ _ _ _ _ (World.drew _)
  go_wp2_with fail
  have hdr : Below B w3 w3.drew := (Below.refl _ _).drew
  refine (ih _ (tyAt_mem hjl) B b _ _ _ ⟨g7, A2, c2', rfl, hg6.out.belowB hdr⟩ (HO.out _ (tyAt_mem hjl)) (HL5.out.below (Below.refl _ _).drew) (by show B ≤ w3.heap.size; omega) (HT.out.next (hB3.out.trans hdr)) HL4.out).mono ?_
  rintro e w4 ⟨rfl, hl4, hb4, hk4⟩
  have HL6 := Lib.hid hl4
  have hB4 := Lib.hid ((hB3.out.trans hdr).trans hb4)
  have HK4 := Lib.hid (hkp.trans (HK3.out.trans ((KeepB.of_below (Below.refl _ _).drew).trans hk4)))
  clear hl4 hb4 hk4
  go_wp2
  go_end0
  exact ⟨rfl, by simpa [List.append_assoc] using HL6.out, hB4.out, HK4.out⟩

set_option maxRecDepth 100000 in
set_option maxHeartbeats 8000000 in
theorem write_else (k : Int) (m n : List UInt8) (xs : List Ty) (v : Int) (n1 : k ≠ 1) (n2 : k ≠ 2) (n3 : k ≠ 3) (n5 : k ≠ 5) (n6 : k ≠ 6) (ih : ∀ t ∈ xs, WriteAt t) (hok : ∀ t ∈ xs, wrB t = true) (A : Option Addr) (c : Nat) (B b : Nat) (l : List UInt8) (w : World) (h1 : Ok1 (.mk k m n xs v)) (hv : RdL (LtB B) w (.slice A xs.length c) xs) (hB : BuildL B b l w) (hBs : B ≤ w.heap.size) (ht : TabB B w)
    (hlen : l.length + (textT (.mk k m n xs v)).length ≤ 140737488355328) :
    Calls Tryz.prog 65 #[.pointer (some ⟨b, 0, none⟩), .agg #[.int .i64 k, .string (S m), .string (S n), .slice A xs.length c, .int .i64 v]] w (Wrote B b (l ++ textT (.mk k m n xs v)) w) := by
  obtain ⟨h1, h2⟩ := h1
  simp only [Ty.mod, Ty.name] at h1 h2
  have HB := Lib.hid hB; have HT := Lib.hid ht; have HV := Lib.hid hv; have HO := Lib.hid hok
  have hbl := hB.lt
  clear hB ht hok
  have e : textT (.mk k m n xs v) = m ++ [46] ++ n ++ (if xs.length = 0 then [] else [91] ++ joinC (textsT xs) ++ [93]) := by simp only [textT]; rw [if_neg n1, if_neg n2, if_neg n3, if_neg n6, if_neg n5]
  obtain ⟨T, hT⟩ : ∃ T, T = textT (.mk k m n xs v) := ⟨_, rfl⟩
  rw [← hT] at hlen ⊢
  rw [← hT] at e
  have HE := Lib.hid e
  clear e hT
  have e1 : (k == 1) = false := by simpa using n1
  have e2 : (k == 2) = false := by simpa using n2
  have e3 : (k == 3) = false := by simpa using n3
  have e5 : (k == 5) = false := by simpa using n5
  have e6 : (k == 6) = false := by simpa using n6
  clear n1 n2 n3 n5 n6
  obtain ⟨W0, hW0⟩ : ∃ W0, W0 = (w.alloc (.cells #[.pointer (some ⟨b, 0, none⟩)] 100)).alloc (.cells #[.int .i64 k, .string (S m), .string (S n), .slice A xs.length c, .int .i64 v] 24) := ⟨_, rfl⟩
  have hal : Below w.heap.size w W0 := by rw [hW0]; exact bel_two _ _ _
  have hkp : KeepB b w W0 := by rw [hW0]; exact KeepB.two _ _ _ _
  have BX := Lib.hid (fun W (hk : KeepB b W0 W) => boxes w b hbl k m n A xs.length c v W (by rw [hW0] at hk; exact hk))
  have hz : w.heap.size + 1 < W0.heap.size := by rw [hW0]; simp
  obtain ⟨-, ⟨hlb, hcap⟩, -⟩ := hv.at_
  clear hv
  have q1 : ¬ 9223372036854775807 < m.length + ([46] : List UInt8).length := by simp; omega
  have q2 : ¬ 9223372036854775807 < (m ++ [46]).length + n.length := by simp; omega
  have q3 : ¬ 9223372036854775807 < m.length + 1 := by omega
  have q4 : ¬ 9223372036854775807 < m.length + 1 + n.length := by omega
  have hlen1 : l.length + (m ++ [46] ++ n).length ≤ 140737488355328 := by rw [HE.out] at hlen; simp only [List.length_append] at hlen ⊢; omega
  have HL1 := Lib.hid hlen1; clear hlen1
  have HLEN := Lib.hid hlen; clear hlen
  by_cases hx : xs.length = 0
  · have hxs : xs = [] := List.eq_nil_of_length_eq_zero hx
    subst hxs
    simp only [List.length_nil, if_true, List.append_nil] at HE
    simp only [List.length_nil] at BX hW0 ⊢
    clear hx
    go_enter Tryz.func65, Tryz.ntmps65
    go_wp2_with fail
    rw [← hW0]
    clear hW0
    refine (builder_Put B b l (m ++ [46] ++ n) W0 (HB.out.below hal) HL1.out (by omega)).mono ?_
    rintro e w1 ⟨rfl, hl1, hb1, hk1⟩
    obtain ⟨a0, c0, c1, c2, c3, c4, hh⟩ := BX.out w1 hk1
    have HL2 := Lib.hid hl1
    have hB1 := Lib.hid ((hal.mono hBs).trans hb1)
    have HK1 := Lib.hid (hkp.trans hk1)
    clear hl1 hb1 hk1 hh
    go_wp2
    go_end0
    exact ⟨rfl, by rw [HE.out]; exact HL2.out, hB1.out, HK1.out⟩
  · have HX := Lib.hid hx
    have px : 0 < xs.length := by omega
    rw [if_neg hx] at HE
    have hlen2 : (l ++ (m ++ [46] ++ n)).length + ([91] : List UInt8).length ≤ 140737488355328 := by have := HLEN.out; rw [HE.out] at this; simp only [List.length_append] at this ⊢; omega
    have hlen3 : (l ++ (m ++ [46] ++ n) ++ [91]).length + (joinC (textsT xs)).length ≤ 140737488355328 := by have := HLEN.out; rw [HE.out] at this; simp only [List.length_append] at this ⊢; omega
    have hlen4 : (l ++ (m ++ [46] ++ n) ++ [91] ++ joinC (textsT xs)).length + ([93] : List UInt8).length ≤ 140737488355328 := by have := HLEN.out; rw [HE.out] at this; simp only [List.length_append] at this ⊢; omega
    have HL2 := Lib.hid hlen2; have HL3 := Lib.hid hlen3; have HL4 := Lib.hid hlen4
    clear hlen2 hlen3 hlen4 hx
    go_enter Tryz.func65, Tryz.ntmps65
    go_wp2_with fail
    rw [← hW0]
    clear hW0
    refine (builder_Put B b l (m ++ [46] ++ n) W0 (HB.out.below hal) HL1.out (by omega)).mono ?_
    rintro e w1 ⟨rfl, hl1, hb1, hk1⟩
    obtain ⟨a0, c0, c1, c2, c3, c4, hh⟩ := BX.out w1 hk1
    have HT1 := Lib.hid hl1
    have hB1 := Lib.hid ((hal.mono hBs).trans hb1)
    have HK1 := Lib.hid hk1
    have hz1 := hk1.1
    clear hl1 hb1 hk1 hh
    go_wp2_with fail
    refine (builder_Put B b _ [91] w1 HT1.out HL2.out (by omega)).mono ?_
    rintro e w2 ⟨rfl, hl2, hb2, hk2⟩
    clear a0 c0 c1 c2 c3 c4
    have HK2 := Lib.hid (HK1.out.trans hk2)
    obtain ⟨a0, c0, c1, c2, c3, c4, hh⟩ := BX.out w2 HK2.out
    have HT2 := Lib.hid hl2
    have hB2 := Lib.hid (hB1.out.trans hb2)
    have hz2 := HK2.out.1
    have HH2 := Lib.hid hh
    clear hl2 hb2 hk2 hh
    go_wp2_with fail
    refine (write1_calls xs ih B b w.heap.size _ _ w2 (HV.out.belowB hB2.out) HO.out HT2.out (by omega) (HT.out.next hB2.out) HL3.out HH2.out (by omega)).mono ?_
    rintro e w3 ⟨rfl, hl3, hb3, hk3⟩
    clear a0 c0 c1 c2 c3 c4
    have HK3 := Lib.hid (HK2.out.trans hk3)
    obtain ⟨a0, c0, c1, c2, c3, c4, hh⟩ := BX.out w3 HK3.out
    have HT3 := Lib.hid hl3
    have hB3 := Lib.hid (hB2.out.trans hb3)
    have hz3 := HK3.out.1
    clear hl3 hb3 hk3 hh
    go_wp2_with fail
    refine (builder_Put B b _ [93] w3 HT3.out HL4.out (by omega)).mono ?_
    rintro e w4 ⟨rfl, hl4, hb4, hk4⟩
    have HT4 := Lib.hid hl4
    have hB4 := Lib.hid (hB3.out.trans hb4)
    have HK4 := Lib.hid (hkp.trans (HK3.out.trans hk4))
    clear a0 c0 c1 c2 c3 c4 hl4 hb4 hk4
    go_wp2
    go_end0
    exact ⟨rfl, by rw [HE.out]; simpa [List.append_assoc] using HT4.out, hB4.out, HK4.out⟩

theorem write_calls (t : Ty) : WriteAt t := by
  induction t using Ty.ind with
  | h k m n xs v ih =>
    intro B b l va w hv hok hB hBs ht hlen
    obtain ⟨h1, A, c, rfl, hr⟩ := hv
    simp only [wrB, Bool.and_eq_true, Bool.or_eq_true, bne_iff_ne, ne_eq, decide_eq_true_eq] at hok
    obtain ⟨⟨ho1, ho2⟩, ho3⟩ := hok
    have hmem := wrL_mem ho3
    by_cases e123 : k = 1 ∨ k = 2 ∨ k = 3
    · exact write_123 k e123 m n xs v A c B b l w hB hBs hlen
    · by_cases e6 : k = 6
      · subst e6
        have h6 : 0 ≤ v ∧ v ≤ 1048576 := by rcases ho2 with h | h; exact absurd rfl h; exact h
        exact write_6 m n xs v h6.1 h6.2 A c B b l w hB hBs ht hlen
      · by_cases e5 : k = 5
        · subst e5
          have h5 : 1 ≤ xs.length := by rcases ho1 with h | h; exact absurd rfl h; exact h
          exact write_5 m n xs v h5 ih hmem A c B b l w hr hB hBs ht hlen
        · exact write_else k m n xs v (by omega) (by omega) (by omega) e5 e6 ih hmem A c B b l w h1 hr hB hBs ht hlen

end Go.Proofs.YtplnfepdikbpfaaGreatDoor
