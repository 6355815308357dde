/- RigNone: any Act. -/
import Derived.Test.YtocpppegmepolaaRnc
import Derived.Test.YtocpppegmepolaaRnd
set_option linter.unusedVariables false
set_option linter.unusedSimpArgs false
namespace Go.Proofs.Ytocpppegmepolaa
open Go.RowKit
attribute [local go_sem ↓] Go.wp_at_zero Go.wp_at_succ
set_option maxHeartbeats 1000000 in
theorem none_many (kd d i m : Int) (s : ByteArray) (raw : Bool) (xv yv : Value) (xt xb yt yb : Int) (w : World) (hfew : ∀ W, Calls Try.prog 27 #[.agg #[.int .i64 kd, .int .i64 d, .int .i64 i, .int .i64 m, .string s, .bool raw, xv, .int .i64 xt, .int .i64 xb, yv, .int .i64 yt, .int .i64 yb]] W fun e w' => e = .returned (.bool false) ∧ Kp No W w') :
    Calls Try.prog 5 #[.agg #[.int .i64 kd, .int .i64 d, .int .i64 i, .int .i64 m, .string s, .bool raw, xv, .int .i64 xt, .int .i64 xb, yv, .int .i64 yt, .int .i64 yb]] w fun e w' => e = .returned (.bool true) ∧ Kp No w w' := by
  obtain ⟨W, hW⟩ : ∃ W, W = w.alloc (.cells #[.int .i64 kd, .int .i64 d, .int .i64 i, .int .i64 m, .string s, .bool raw, xv, .int .i64 xt, .int .i64 xb, yv, .int .i64 yt, .int .i64 yb] 34) := ⟨_, rfl⟩
  have HKW := Lib.hid (show Kp No w W by rw [hW]; exact (Kp.refl _ _).alloc _)
  have HW := Lib.hid hW
  have HF := Lib.hid hfew
  clear hfew hW
  go_enter Try.func5, Try.ntmps5
  go_wp2_with fail
  rw [← HW.out]
  refine (HF.out _).mono ?_
  rintro e w0 ⟨rfl, k0⟩
  have K0 := Lib.hid (HKW.out.trans' k0)
  clear k0 HKW HW HF
  go_wp2_with fail
  refine (awake12_any _).mono ?_
  rintro e w1 ⟨rfl, k1⟩
  have K1 := Lib.hid (K0.out.trans' k1)
  clear k1 K0
  go_wp2_with fail
  go_ret
  exact ⟨rfl, K1.out⟩
theorem rmay_ne {d : Int} (h0 : d ≠ 0) (h1 : d ≠ 1) : rmay d 0 ≠ 0 := by
  unfold rmay
  split <;> first | (intro h; cases h; done) | (intro h; omega) | omega
theorem none_any (a : LAct) (w : World) (ha : a.ok No w) : Calls Try.prog 5 #[a.val] w fun e w' => e = .returned (.bool true) ∧ Kp No w w' := by
  have hs := ha.2.1
  have hf := fun W => few_any a W hs
  obtain ⟨kd, d, i, m, s, raw, ⟨xv, xk, xt, xb⟩, ⟨yv, yk, yt, yb⟩⟩ := a
  cases h : fewF ⟨kd, d, i, m, s, raw, ⟨xv, xk, xt, xb⟩, ⟨yv, yk, yt, yb⟩⟩
  · rw [h] at hf
    exact none_many kd d i m s raw xv yv xt xb yt yb w hf
  · rw [h] at hf
    by_cases h0 : d = 0
    · subst h0
      exact none_zero kd i m s raw xv yv xt xb yt yb w hs hf
    · by_cases h1 : d = 1
      · subst h1
        exact none_one kd i m s raw xv yv xt xb yt yb w hs hf
      · exact none_bad kd d i m s raw xv yv xt xb yt yb w hs hf (rmay_ne h0 h1) h0 h1
end Go.Proofs.Ytocpppegmepolaa
