/- rig: the calls of a nil rig. -/
import Derived.Test.YtocpppegmepolaaRnx
set_option linter.unusedVariables false
set_option linter.unusedSimpArgs false
namespace Go.Proofs.Ytocpppegmepolaa
open Go.RowKit
attribute [local go_sem ↓] Go.wp_at_zero Go.wp_at_succ
set_option maxHeartbeats 1000000 in
theorem nil_read (d i : Int) (w : World) : Calls Try.prog 40 #[.pointer none, .int .i64 d, .int .i64 i] w fun e w' => e = .returned (.tuple #[.string ⟨#[]⟩, .int .i64 1]) ∧ Kp No w w' := by
  go_enter Try.func40, Try.ntmps40
  go_wp2_with (go_at_call 139; refine (rmay_nil _ _ _).mono ?_; rintro e w' ⟨rfl, rfl⟩)
  go_ret2
  exact ⟨rfl, (((Kp.refl _ _).alloc _).alloc _).alloc _⟩
set_option maxHeartbeats 1000000 in
theorem nil_reg (w : World) : Calls Try.prog 31 #[.pointer none] w fun e w' => e = .returned (.tuple #[.string ⟨#[]⟩, .int .i64 1]) ∧ Kp No w w' := by
  go_enter Try.func31, Try.ntmps31
  go_wp2
  go_ret2
  exact ⟨rfl, Kp.refl _ _⟩
set_option maxHeartbeats 1000000 in
theorem nil_write (d i : Int) (s : ByteArray) (w : World) : Calls Try.prog 42 #[.pointer none, .int .i64 d, .int .i64 i, .string s] w fun e w' => e = .returned (.int .i64 1) ∧ Kp No w w' := by
  go_enter Try.func42, Try.ntmps42
  go_wp2_with (go_at_call 139; refine (rmay_nil _ _ _).mono ?_; rintro e w' ⟨rfl, rfl⟩)
  go_ret
  exact ⟨rfl, ((((Kp.refl _ _).alloc _).alloc _).alloc _).alloc _⟩
set_option maxHeartbeats 1000000 in
theorem nil_flush (d : Int) (w : World) : Calls Try.prog 43 #[.pointer none, .int .i64 d] w fun e w' => e = .returned (.int .i64 1) ∧ Kp No w w' := by
  go_enter Try.func43, Try.ntmps43
  go_wp2_with (go_at_call 139; refine (rmay_nil _ _ _).mono ?_; rintro e w' ⟨rfl, rfl⟩)
  go_ret
  exact ⟨rfl, Kp.refl _ _⟩
set_option maxHeartbeats 1000000 in
theorem nil_setreg (s : ByteArray) (w : World) : Calls Try.prog 29 #[.pointer none, .string s] w fun e w' => e = .returned (.int .i64 1) ∧ Kp No w w' := by
  go_enter Try.func29, Try.ntmps29
  go_wp2
  go_ret
  exact ⟨rfl, ((Kp.refl _ _).alloc _).alloc _⟩
set_option maxHeartbeats 1000000 in
theorem nil_tamper (d i : Int) (s : ByteArray) (w : World) : Calls Try.prog 44 #[.pointer none, .int .i64 d, .int .i64 i, .string s] w fun e w' => e = .returned (.int .i64 1) ∧ Kp No w w' := by
  go_enter Try.func44, Try.ntmps44
  go_wp2_with (go_at_call 139; refine (rmay_nil _ _ _).mono ?_; rintro e w' ⟨rfl, rfl⟩)
  go_ret
  exact ⟨rfl, Kp.refl _ _⟩
set_option maxHeartbeats 1000000 in
theorem nil_later (n d i : Int) (s : ByteArray) (w : World) : Calls Try.prog 45 #[.pointer none, .int .i64 n, .int .i64 d, .int .i64 i, .string s] w fun e w' => e = .returned (.int .i64 1) ∧ Kp No w w' := by
  go_enter Try.func45, Try.ntmps45
  go_wp2_with (go_at_call 139; refine (rmay_nil _ _ _).mono ?_; rintro e w' ⟨rfl, rfl⟩)
  go_ret
  exact ⟨rfl, Kp.refl _ _⟩
set_option maxHeartbeats 1000000 in
theorem nil_arm (n : Int) (w : World) : Calls Try.prog 46 #[.pointer none, .int .i64 n] w fun e w' => e = .returned (.int .i64 1) ∧ Kp No w w' := by
  go_enter Try.func46, Try.ntmps46
  go_wp2
  go_ret
  exact ⟨rfl, Kp.refl _ _⟩
set_option maxHeartbeats 1000000 in
theorem nil_fault (n : Int) (w : World) : Calls Try.prog 47 #[.pointer none, .int .i64 n] w fun e w' => e = .returned (.int .i64 1) ∧ Kp No w w' := by
  go_enter Try.func47, Try.ntmps47
  go_wp2
  go_ret
  exact ⟨rfl, Kp.refl _ _⟩
set_option maxHeartbeats 1000000 in
theorem nil_crash (xv yv : Value) (xt xb yt yb : Int) (w : World) : Calls Try.prog 32 #[.pointer none, .agg #[xv, .int .i64 xt, .int .i64 xb], .agg #[yv, .int .i64 yt, .int .i64 yb]] w fun e w' => e = .returned (.int .i64 1) ∧ Kp No w w' := by
  go_enter Try.func32, Try.ntmps32
  go_wp2
  go_ret
  exact ⟨rfl, ((Kp.refl _ _).alloc _).alloc _⟩
set_option maxHeartbeats 1000000 in
theorem nil_down (w : World) : Calls Try.prog 48 #[.pointer none] w fun e w' => e = .returned (.bool false) ∧ Kp No w w' := by
  go_enter Try.func48, Try.ntmps48
  go_wp2
  go_ret
  exact ⟨rfl, Kp.refl _ _⟩
set_option maxHeartbeats 1000000 in
theorem nil_calls (w : World) : Calls Try.prog 49 #[.pointer none] w fun e w' => e = .returned (.int .i64 0) ∧ Kp No w w' := by
  go_enter Try.func49, Try.ntmps49
  go_wp2
  go_ret
  exact ⟨rfl, Kp.refl _ _⟩
set_option maxHeartbeats 1000000 in
theorem nil_dev (d : Int) (w : World) : Calls Try.prog 41 #[.pointer none, .int .i64 d] w fun e w' => e = .returned (.pointer none) ∧ Kp No w w' := by
  go_enter Try.func41, Try.ntmps41
  go_wp2_with (go_at_call 139; refine (rmay_nil _ _ _).mono ?_; rintro e w' ⟨rfl, rfl⟩)
  go_ret
  exact ⟨rfl, Kp.refl _ _⟩
set_option maxHeartbeats 1000000 in
theorem nil_copy (w : World) : Calls Try.prog 50 #[.pointer none] w fun e w' => e = .returned (.pointer none) ∧ Kp No w w' := by
  go_enter Try.func50, Try.ntmps50
  go_wp2
  go_ret
  exact ⟨rfl, Kp.refl _ _⟩
end Go.Proofs.Ytocpppegmepolaa
