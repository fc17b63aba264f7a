/- The walks of the token package's tests of bytes, and of run. No condition. -/
import Derived.Test.YtepgjaecfoaenaaGreatDoorBase
import Derived.Test.YtepgjaecfoaenaaGreatDoorP1
namespace Go.Proofs.YtepgjaecfoaenaaGreatDoor
open Go.RowKit
set_option linter.unusedVariables false
set_option linter.unusedSimpArgs false

theorem isDigit_int : ∀ c : UInt8, isDigit c = (decide (48 ≤ (c.toNat : Int)) && decide ((c.toNat : Int) ≤ 57)) :=
  u8_all (by decide +kernel)
theorem isBlank_int : ∀ c : UInt8, isBlank c = ((c.toNat : Int) == 32 || (c.toNat : Int) == 9 || (c.toNat : Int) == 10 || (c.toNat : Int) == 13) :=
  u8_all (by decide +kernel)
theorem isLetter_int : ∀ c : UInt8, isLetter c = ((c.toNat : Int) == 95 || (decide (97 ≤ bits .or .u8 (c.toNat : Int) 32) && decide (bits .or .u8 (c.toNat : Int) 32 ≤ 122))) :=
  u8_all (by decide +kernel)

set_option maxHeartbeats 400000 in
theorem isDigit_calls (c : UInt8) (w : World) :
    Calls Tryz.prog 87 #[.int .u8 c.toNat] w fun e w' => e = .returned (.bool (isDigit c)) ∧ w = w' := by
  rw [isDigit_int]
  go_enter Tryz.func87, Tryz.ntmps87
  go_wp2
  all_goals go_ret
  all_goals (refine ⟨ret_bool ?_, rfl⟩; simp <;> omega)

set_option maxHeartbeats 400000 in
theorem isBlank_calls (c : UInt8) (w : World) :
    Calls Tryz.prog 82 #[.int .u8 c.toNat] w fun e w' => e = .returned (.bool (isBlank c)) ∧ w = w' := by
  rw [isBlank_int]
  go_enter Tryz.func82, Tryz.ntmps82
  go_wp2
  all_goals go_ret
  all_goals simp [*]

set_option maxHeartbeats 400000 in
theorem isLetter_calls (c : UInt8) (w : World) :
    Calls Tryz.prog 85 #[.int .u8 c.toNat] w fun e w' => e = .returned (.bool (isLetter c)) ∧ w = w' := by
  rw [isLetter_int]
  go_enter Tryz.func85, Tryz.ntmps85
  go_wp2
  all_goals go_ret
  all_goals (refine ⟨ret_bool ?_, rfl⟩; simp [*] <;> omega)

set_option maxHeartbeats 400000 in
theorem good1_calls (c : UInt8) (w : World) :
    Calls Tryz.prog 86 #[.int .u8 c.toNat] w fun e w' => e = .returned (.bool (isAlnum c)) ∧ w = w' := by
  unfold isAlnum
  go_enter Tryz.func86, Tryz.ntmps86
  go_wp2_with (first | (go_at_call 85; refine (isLetter_calls _ _).mono ?_; rintro e w' ⟨rfl, rfl⟩) | (go_at_call 87; refine (isDigit_calls _ _).mono ?_; rintro e w' ⟨rfl, rfl⟩))
  all_goals go_ret
  all_goals simp [*]

/-- The function tells of each byte what p tells, and leaves the world alone. -/
structure ByteFn (f : FuncId) (p : UInt8 → Bool) : Prop where
  enters : ∀ args w, (callFunc f args).run Tryz.prog w = .ok (.enter f args) w
  tells : ∀ (c : UInt8) (w : World), Calls Tryz.prog f #[.int .u8 (c.toNat : Int)] w fun e w' => e = .returned (.bool (p c)) ∧ w = w'

theorem byteFn_isDigit : ByteFn 87 isDigit := ⟨fun args w => by go_simp, isDigit_calls⟩
theorem byteFn_isBlank : ByteFn 82 isBlank := ⟨fun args w => by go_simp, isBlank_calls⟩
theorem byteFn_good1 : ByteFn 86 isAlnum := ⟨fun args w => by go_simp, good1_calls⟩

set_option maxHeartbeats 400000 in
theorem run_calls (l : List UInt8) (f : FuncId) (p : UInt8 → Bool) (w : World) (hs : l.length ≤ 9223372036854775807) (hf : ByteFn f p) :
    Calls Tryz.prog 83 #[.string (S l), .func (.func f) #[] #[]] w fun e w' => e = .returned (.int .i64 (runN p l)) ∧ w = w' := by
  have eg := hf.enters
  go_enter Tryz.func83, Tryz.ntmps83
  go_wp2
  go_loop [5] (fun i => ∃ k : Nat, k ≤ l.length ∧ i = .int .i64 k ∧ Hid (∀ j, j < k → p (at_ l j) = true)) (fun i => l.length - (intOf i).toNat)
  case atStart => exact ⟨0, Nat.zero_le _, rfl, Lib.hid (fun j hj => absurd hj (by omega))⟩
  case round =>
    obtain ⟨k, hk, rfl, hall⟩ := hrel
    by_cases hlt : k < l.length
    · go_wp2_with (refine (hf.tells _ _).mono ?_; rintro e w' ⟨rfl, rfl⟩)
      · have hp : p (at_ l k) = true := by assumption
        go_round
        case rel => exact ⟨k + 1, by omega, by go_num, Lib.hid (fun j hj => if h : j = k then h ▸ hp else hall.out j (by omega))⟩
        case measure => simp [intOf]; omega
      · have hp : p (at_ l k) = false := by assumption
        go_ret
        have hr : runN p l = k := runN_of p l k hk hall.out (.inr hp)
        rw [hr]
        exact ⟨rfl, rfl⟩
    · go_wp2
      go_ret
      have hr : runN p l = k := runN_of p l k hk hall.out (by omega)
      rw [hr]
      exact ⟨rfl, rfl⟩

end Go.Proofs.YtepgjaecfoaenaaGreatDoor
