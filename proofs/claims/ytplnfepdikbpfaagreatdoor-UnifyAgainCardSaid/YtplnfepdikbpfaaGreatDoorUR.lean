/- The walk of the reader's read. Condition: the reader is a block of its own. strconv.Atoi at whatever string. Conditions: at most 2^48 bytes; the library's two error variables hold errors. -/
import Derived.Test.YtplnfepdikbpfaaGreatDoorUL
import Derived.Defers
namespace Go.Proofs.YtplnfepdikbpfaaGreatDoor
open Go.RowKit
set_option linter.unusedVariables false
set_option linter.unusedSimpArgs false

set_option maxHeartbeats 1000000 in
theorem read1_deferred (x p : Nat) (s : List UInt8) (b : Bool) (d : Int) (u : FrameMode) (w : World) (hr : RdrAt w p s b d) (hx : w.cell? ⟨x, 0, none⟩ = some (.pointer (some ⟨p, 0, none⟩))) (h0 : 0 ≤ d) (h1 : d ≤ 1000) :
    CallsD Tryz.prog 94 #[.pointer (some ⟨x, 0, none⟩)] u w fun e u' w' => u' = u ∧ (e = .returned (.tuple #[]) ∧ w' = w.setCell ⟨p, 2, none⟩ (.int .i64 (d - 1))) := by
  have c2 := hr.c2
  have f2 := hr.free 2
  clear hr
  go_enter_d Tryz.func94, Tryz.ntmps94
  go_wp2
  go_end0
  exact ⟨rfl, rfl⟩

/-- The door: the result lies in block r, the deferred call lowers the depth. -/
theorem read_door (tmps : Array Value) (R : Ending → World → Prop) (x r p : Nat) (s' : List UInt8) (b' : Bool) (d : Int) (t : Ty) (A : Option Addr) (c : Nat) (W : World) (hsz : 2 < tmps.size) (ht : tmps[2]? = some (.pointer (some ⟨r, 0, none⟩)))
    (hR : RdrAt W p s' b' (d + 1)) (h0 : 0 ≤ d) (h1 : d ≤ 900) (hx : W.cell? ⟨x, 0, none⟩ = some (.pointer (some ⟨p, 0, none⟩)))
    (c0 : W.cell? ⟨r, 0, none⟩ = some (.int .i64 t.kind)) (c1 : W.cell? ⟨r, 1, none⟩ = some (.string (S t.mod))) (c2 : W.cell? ⟨r, 2, none⟩ = some (.string (S t.name))) (c3 : W.cell? ⟨r, 3, none⟩ = some (.slice A t.args.length c)) (c4 : W.cell? ⟨r, 4, none⟩ = some (.int .i64 t.var)) (hpr : p ≠ r)
    (h : R (.returned (tyV t (.slice A t.args.length c))) (W.setCell ⟨p, 2, none⟩ (.int .i64 d))) :
    bodyPostD Tryz.prog Tryz.f61 R Exit.ret { tmps := tmps, defers := [{ target := Target.fn (Fn.func 94) #[.pointer (some ⟨x, 0, none⟩)], args := #[] }] } W := by
  refine leaves_cons (f := 94) (args := #[.pointer (some ⟨x, 0, none⟩)]) (by simp) (by simp [go_sem]) ?_
  refine (read1_deferred x p s' b' (d + 1) .returning W hR hx (by omega) (by omega)).mono ?_
  rintro e u' w'' ⟨rfl, rfl, rfl⟩
  have e1 : d + 1 - 1 = d := by omega
  rw [e1]
  have k : ∀ o, (W.setCell ⟨p, 2, none⟩ (.int .i64 d)).cell? ⟨r, o, none⟩ = W.cell? ⟨r, o, none⟩ := fun o => World.cell?_setCell_other _ _ _ _ (by intro e; simp only [Addr.mk.injEq] at e; exact hpr e.1)
  refine ⟨_, ?_, h⟩
  have q0 := (k 0).trans c0
  have q1 := (k 1).trans c1
  have q2 := (k 2).trans c2
  have q3 := (k 3).trans c3
  have q4 := (k 4).trans c4
  have hg : tmps[2]! = .pointer (some ⟨r, 0, none⟩) := by simp [Array.getElem!_eq_getD, Array.getD_eq_getD_getElem?, ht]
  simp [results, Tryz.results61, go_sem, ht, q0, q1, q2, q3, q4, tyV]

set_option maxRecDepth 100000 in
set_option maxHeartbeats 4000000 in
theorem read_bad (d : Int) (p : Nat) (s : List UInt8) (bad : Bool) (w : World) (hr : RdrAt w p s bad d) (h0 : 0 ≤ d) (h1 : d ≤ 900) (h : bad = true ∨ 100 < d + 1) :
    Calls Tryz.prog 61 #[.pointer (some ⟨p, 0, none⟩)] w (ReadPost w p d s bad) := by
  have HR := Lib.hid hr
  have pl := hr.lt
  have pl1 : p < w.heap.size + 1 := by omega
  have c0 := hr.c0
  have c1 := hr.c1
  have c2 := hr.c2
  have f1 := hr.free 1
  have f2 := hr.free 2
  clear hr
  have hmf : ∀ (fn : Fn) (first cap : Array Value) (w : World), (Instr.makeFunc fn first cap).run Tryz.prog w = .ok (.func fn first cap) w := fun _ _ _ _ => rfl
  have key : decide (d + 1 > 100) = true ∨ (decide (d + 1 > 100) = false ∧ bad = true) := by
    by_cases hd : 100 < d + 1
    · exact .inl (decide_eq_true hd)
    · exact .inr ⟨decide_eq_false hd, h.resolve_right hd⟩
  have HH := Lib.hid h; clear h
  have hF : readF 1 s bad d = some (.mk 0 [] [] [] 0, s, true) := by rw [readF, if_pos HH.out]
  have HF := Lib.hid hF; clear hF
  have hB2 : ∀ (W : World) (o1 o2 : Obj), Below W.heap.size W ((W.alloc o1).alloc o2) := fun W o1 o2 => bel_alloc (bel_alloc (Below.refl _ _) _) _
  rcases key with k1 | ⟨k1, rfl⟩
  · go_enter_defers Tryz.func61, Tryz.ntmps61
    go_wp2
    refine read_door _ _ w.heap.size (w.heap.size + 1) p s true d (.mk 0 [] [] [] 0) none 0 _ (by simp) (by simp) (((HR.out.set2 (d + 1)).set1 true).called (hB2 _ _ _)) h0 (by omega) (by go_simp) (by go_simp; rfl) (by go_simp; rfl) (by go_simp; rfl) (by go_simp; rfl) (by go_simp; rfl) (by omega) ?_
    exact ⟨1, _, s, true, _, HF.out, rfl, ⟨⟨by simp [Ty.mod], by simp [Ty.name]⟩, none, 0, rfl, RdL_nil _ _⟩, (((HR.out.set2 (d + 1)).set1 true).called (hB2 _ _ _)).set2 d, gb_trans (gb_trans (gb_trans (gb_set _ _ _ _) (gb_set _ _ _ _)) (gb_below (hB2 _ _ _) _)) (gb_set _ _ _ _)⟩
  · go_enter_defers Tryz.func61, Tryz.ntmps61
    go_wp2
    refine read_door _ _ w.heap.size (w.heap.size + 1) p s true d (.mk 0 [] [] [] 0) none 0 _ (by simp) (by simp) ((HR.out.set2 (d + 1)).called (hB2 _ _ _)) h0 (by omega) (by go_simp) (by go_simp; rfl) (by go_simp; rfl) (by go_simp; rfl) (by go_simp; rfl) (by go_simp; rfl) (by omega) ?_
    exact ⟨1, _, s, true, _, HF.out, rfl, ⟨⟨by simp [Ty.mod], by simp [Ty.name]⟩, none, 0, rfl, RdL_nil _ _⟩, ((HR.out.set2 (d + 1)).called (hB2 _ _ _)).set2 d, gb_trans (gb_trans (gb_set _ _ _ _) (gb_below (hB2 _ _ _) _)) (gb_set _ _ _ _)⟩

end Go.Proofs.YtplnfepdikbpfaaGreatDoor

namespace Go.Proofs.YtplnfepdikbpfaaGreatDoor
open Go.RowKit
set_option linter.unusedVariables false
set_option linter.unusedSimpArgs false

/-- What Atoi leaves: the number and no error, or some number and an error. -/
def AtoiPost (w : World) (l : List UInt8) (e : Ending) (w' : World) : Prop :=
  ((∃ n, Lib.atoiAll l = .ok n ∧ e = .returned (.tuple #[.int .i64 n, .nilIface])) ∨ ((∀ n, Lib.atoiAll l ≠ .ok n) ∧ ∃ (n : Int) (t : TypeId) (v : Value), e = .returned (.tuple #[.int .i64 n, .iface t v]))) ∧ Below w.heap.size w w'

theorem Atoi_calls (l : List UInt8) (w : World) (hl : l.length ≤ 281474976710656) (he : EnvW w) : Calls Tryz.prog 100 #[.string (S l)] w (AtoiPost w l) := by
  obtain ⟨-, ⟨t0, p0, h0⟩, ⟨t1, p1, h1⟩⟩ := he
  have hs : (S l).size ≤ 281474976710656 := by rw [S_size]; exact hl
  rcases h : Lib.atoiAll l with n | _ | _
  · refine (Tryz.strconv_Atoi_ok (S l) (by omega) n (by rw [S_data]; exact h) w).mono ?_
    rintro e w' ⟨rfl, hw⟩
    refine ⟨.inl ⟨n, h, rfl⟩, ?_⟩
    rcases hw with rfl | ⟨t, rfl⟩
    · exact Below.refl _ _
    · exact Lib.bytesWorld_below _ _ _
  · have hc := Any.strconv_Atoi_syntax Tryz.laysC172 (S l) hs (by rw [S_data]; exact h) _ w h0 (.inr ⟨t0, p0, rfl⟩)
    change Calls Tryz.prog 100 _ _ _ at hc
    refine hc.mono ?_
    rintro e w' ⟨N, rfl, -, -, hb⟩
    exact ⟨.inr ⟨fun n => by rw [h]; simp, _, _, _, rfl⟩, hb⟩
  · refine (Tryz.strconv_Atoi_range (S l) hs (by rw [S_data]; exact h) _ w h1 (.inr ⟨t1, p1, rfl⟩)).mono ?_
    rintro e w' ⟨N, rfl, -, -, hb⟩
    exact ⟨.inr ⟨fun n => by rw [h]; simp, _, _, _, rfl⟩, hb⟩

end Go.Proofs.YtplnfepdikbpfaaGreatDoor
