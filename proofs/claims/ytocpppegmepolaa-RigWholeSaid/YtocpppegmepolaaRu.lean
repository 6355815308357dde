/- layer 12's law: what is to come, of both rigs. -/
import Derived.Test.YtocpppegmepolaaRt
set_option linter.unusedVariables false
set_option linter.unusedSimpArgs false
namespace Go.Proofs.Ytocpppegmepolaa
open Go.RowKit
attribute [local go_sem ↓] Go.wp_at_zero Go.wp_at_succ
section
variable {w w' : World} {p q : Spots} {σ τ : RigS}

set_option maxRecDepth 100000 in
set_option maxHeartbeats 4000000 in
theorem comes10_any (a : LAct) (h : Pr w p q σ τ) (hk : a.kd = 10) :
    Calls Try.prog 124 #[.pointer (some ⟨p.b, 0, none⟩), .pointer (some ⟨q.b, 0, none⟩), a.val] w (DoP w p q σ τ) := by
  have hlt := h.lt
  obtain ⟨kd, d, i, m, s, raw, ⟨xv, xk, xt, xb⟩, ⟨yv, yk, yt, yb⟩⟩ := a
  obtain rfl : kd = 10 := hk
  show Calls Try.prog 124 #[.pointer (some ⟨p.b, 0, none⟩), .pointer (some ⟨q.b, 0, none⟩), .agg #[.int .i64 10, .int .i64 d, .int .i64 i, .int .i64 m, .string s, .bool raw, xv, .int .i64 xt, .int .i64 xb, yv, .int .i64 yt, .int .i64 yb]] w _
  obtain ⟨W, hW⟩ : ∃ W, W = w.alloc (.cells #[.int .i64 10, .int .i64 d, .int .i64 i, .int .i64 m, .string s, .bool raw, xv, .int .i64 xt, .int .i64 xb, yv, .int .i64 yt, .int .i64 yb] 34) := ⟨_, rfl⟩
  have hbx : W.heap[w.heap.size]? = some (.cells #[.int .i64 10, .int .i64 d, .int .i64 i, .int .i64 m, .string s, .bool raw, xv, .int .i64 xt, .int .i64 xb, yv, .int .i64 yt, .int .i64 yb] 34 (0, 0)) := by rw [hW]; exact heap_new w _
  have hkW : Kp No w W := by rw [hW]; exact (Kp.refl _ _).alloc _
  have HP := Lib.hid (h.no hkW)
  have nH : ¬ FF p q w.heap.size := fun x => by have := hlt _ x; omega
  have NH := Lib.hid nH
  have HK := Lib.hid hkW
  have HX := Lib.hid hbx
  have HW := Lib.hid hW
  have HP0 := Lib.hid h
  clear h hlt nH hbx hkW hW
  cases hr : rgt m
  · have hbd : m < 1 ∨ 1099511627776 < m := by
      have : ¬ (1 ≤ m ∧ m ≤ 1099511627776) := of_decide_eq_false hr
      omega
    have e1 : σ.setArm m = σ := by unfold RigS.setArm; rw [hr]; rfl
    have HR := Lib.hid hr
    have E1 := Lib.hid e1
    clear hr e1
    rcases hbd with hb1 | hb1
    · have z1 : decide ((1 : Int) ≤ m) = false := by simp; omega
      go_enter Try.func124, Try.ntmps124
      go_wp2_with fail
      rw [← HW.out]
      refine (arm_any m W HP.out.1).mono ?_
      rintro e w3 ⟨rfl, h3, k3⟩
      rw [HR.out]
      rw [E1.out] at h3
      have HP3 := Lib.hid (HP.out.rig h3 HP.out.2.2.1 k3)
      have K3 := Lib.hid (HK.out.no.trans' (k3.f1 (q := q)))
      clear h3 k3 HP HK HX HW
      go_wp2
      go_ret
      exact ⟨_, _, _, rfl, HP3.out, rfl, Nat.le_succ _, Nat.le_succ _, K3.out⟩
    · have z1 : decide ((1 : Int) ≤ m) = true := by simp; omega
      have z2 : decide (m ≤ (1099511627776 : Int)) = false := by simp; omega
      go_enter Try.func124, Try.ntmps124
      go_wp2_with fail
      rw [← HW.out]
      refine (arm_any m W HP.out.1).mono ?_
      rintro e w3 ⟨rfl, h3, k3⟩
      rw [HR.out]
      rw [E1.out] at h3
      have HP3 := Lib.hid (HP.out.rig h3 HP.out.2.2.1 k3)
      have K3 := Lib.hid (HK.out.no.trans' (k3.f1 (q := q)))
      clear h3 k3 HP HK HX HW
      go_wp2
      go_ret
      exact ⟨_, _, _, rfl, HP3.out, rfl, Nat.le_succ _, Nat.le_succ _, K3.out⟩
  · have hbd : 1 ≤ m ∧ m ≤ 1099511627776 := of_decide_eq_true hr
    obtain ⟨hb1, hb2⟩ := hbd
    obtain ⟨n, rfl⟩ := Int.eq_ofNat_of_zero_le (show 0 ≤ m by omega)
    have e1 : σ.setArm n = { σ with arm := n } := by unfold RigS.setArm; rw [hr]; rfl
    have c6 : W.cell? ⟨q.b, 6, none⟩ = some (.int .i64 τ.arm) := HP.out.2.1.cl 6
    have f6 := HP.out.2.1.fr 6
    have HQ := Lib.hid (HP.out.2.1.put 6 (.int .i64 n) { τ with arm := n } rfl)
    have KQ := Lib.hid (Kp.rr (p := q) ((Kp.refl _ W).setAt (b := q.b) 6 (.int .i64 n)))
    have c6' : (w.alloc (.cells #[.int .i64 10, .int .i64 d, .int .i64 i, .int .i64 n, .string s, .bool raw, xv, .int .i64 xt, .int .i64 xb, yv, .int .i64 yt, .int .i64 yb] 34)).cell? ⟨q.b, 6, none⟩ = some (.int .i64 τ.arm) := by rw [← HW.out]; exact c6
    have f6' : (w.alloc (.cells #[.int .i64 10, .int .i64 d, .int .i64 i, .int .i64 n, .string s, .bool raw, xv, .int .i64 xt, .int .i64 xb, yv, .int .i64 yt, .int .i64 yb] 34)).frozen? ⟨q.b, 6, none⟩ = false := by rw [← HW.out]; exact f6
    have x6 := (KQ.out.f2 (p := p)).heap HX.out NH.out
    have c7 : (W.setCell ⟨q.b, 6, none⟩ (.int .i64 n)).cell? ⟨w.heap.size, 3, none⟩ = some (.int .i64 n) := cellOf x6 3
    have c7' : ((w.alloc (.cells #[.int .i64 10, .int .i64 d, .int .i64 i, .int .i64 n, .string s, .bool raw, xv, .int .i64 xt, .int .i64 xb, yv, .int .i64 yt, .int .i64 yb] 34)).setCell ⟨q.b, 6, none⟩ (.int .i64 n)).cell? ⟨w.heap.size, 3, none⟩ = some (.int .i64 n) := by rw [← HW.out]; exact c7
    have hql : q.b < w.heap.size := by
      have h1 := (HP.out.2.1.lt _ (.inl rfl)).1
      have h2 : W.heap.size = w.heap.size + 1 := by rw [HW.out]; simp
      have h3 : q.b ≠ w.heap.size := fun e => NH.out (by rw [← e]; exact .inr (.inl rfl))
      omega
    have HR := Lib.hid hr
    have E1 := Lib.hid e1
    have z1 : decide ((1 : Int) ≤ (n : Int)) = true := by simp; omega
    have z2 : decide ((n : Int) ≤ (1099511627776 : Int)) = true := by simp; omega
    clear hr e1 c6 f6 x6 c7
    go_enter Try.func124, Try.ntmps124
    go_wp2_with fail
    have hpr : Pr (w.setCell ⟨q.b, 6, none⟩ (.int .i64 n)) p q σ { τ with arm := n } := HP0.out.ref (HP0.out.2.1.put 6 (.int .i64 n) { τ with arm := n } rfl) ⟨HP0.out.2.2.2.1, HP0.out.2.2.2.2.1, HP0.out.2.2.2.2.2.1, HP0.out.2.2.2.2.2.2.1, by show n ≤ _; omega, HP0.out.2.2.2.2.2.2.2.2⟩ (Kp.rr (p := q) ((Kp.refl _ w).setAt (b := q.b) 6 (.int .i64 n)))
    obtain ⟨W6, hW6⟩ : ∃ W6, W6 = (w.setCell ⟨q.b, 6, none⟩ (.int .i64 n)).alloc (.cells #[.int .i64 10, .int .i64 d, .int .i64 i, .int .i64 n, .string s, .bool raw, xv, .int .i64 xt, .int .i64 xb, yv, .int .i64 yt, .int .i64 yb] 34) := ⟨_, rfl⟩
    rw [← hW6]
    have HP6 := Lib.hid (show Pr W6 p q σ { τ with arm := n } by rw [hW6]; exact hpr.no ((Kp.refl _ _).alloc _))
    have K6 := Lib.hid (show Kp (FF p q) w W6 by rw [hW6]; exact ((Kp.rr (p := q) ((Kp.refl _ w).setAt (b := q.b) 6 (.int .i64 n))).f2 (p := p)).alloc _)
    clear hpr hW6 c6' f6' c7' HP0 HP HK HX HW HQ KQ
    refine (arm_any n W6 HP6.out.1).mono ?_
    rintro e w3 ⟨rfl, h3, k3⟩
    rw [HR.out]
    rw [E1.out] at h3
    have HP3 := Lib.hid (HP6.out.rig h3 ⟨HP6.out.2.2.1.1, HP6.out.2.2.1.2.1, HP6.out.2.2.1.2.2.1, HP6.out.2.2.1.2.2.2.1, HP6.out.2.2.1.2.2.2.2.1, HP6.out.2.2.1.2.2.2.2.2.1, by show n ≤ _; omega, HP6.out.2.2.1.2.2.2.2.2.2.2⟩ k3)
    have K3 := Lib.hid (K6.out.trans' (k3.f1 (q := q)))
    clear h3 k3 HP6 K6
    go_wp2
    go_ret
    exact ⟨_, _, _, rfl, HP3.out, rfl, Nat.le_succ _, Nat.le_succ _, K3.out⟩

set_option maxRecDepth 100000 in
set_option maxHeartbeats 4000000 in
theorem comes11_any (a : LAct) (h : Pr w p q σ τ) (hk : a.kd = 11) :
    Calls Try.prog 124 #[.pointer (some ⟨p.b, 0, none⟩), .pointer (some ⟨q.b, 0, none⟩), a.val] w (DoP w p q σ τ) := by
  have hlt := h.lt
  obtain ⟨kd, d, i, m, s, raw, ⟨xv, xk, xt, xb⟩, ⟨yv, yk, yt, yb⟩⟩ := a
  obtain rfl : kd = 11 := hk
  show Calls Try.prog 124 #[.pointer (some ⟨p.b, 0, none⟩), .pointer (some ⟨q.b, 0, none⟩), .agg #[.int .i64 11, .int .i64 d, .int .i64 i, .int .i64 m, .string s, .bool raw, xv, .int .i64 xt, .int .i64 xb, yv, .int .i64 yt, .int .i64 yb]] w _
  obtain ⟨W, hW⟩ : ∃ W, W = w.alloc (.cells #[.int .i64 11, .int .i64 d, .int .i64 i, .int .i64 m, .string s, .bool raw, xv, .int .i64 xt, .int .i64 xb, yv, .int .i64 yt, .int .i64 yb] 34) := ⟨_, rfl⟩
  have hbx : W.heap[w.heap.size]? = some (.cells #[.int .i64 11, .int .i64 d, .int .i64 i, .int .i64 m, .string s, .bool raw, xv, .int .i64 xt, .int .i64 xb, yv, .int .i64 yt, .int .i64 yb] 34 (0, 0)) := by rw [hW]; exact heap_new w _
  have hkW : Kp No w W := by rw [hW]; exact (Kp.refl _ _).alloc _
  have HP := Lib.hid (h.no hkW)
  have nH : ¬ FF p q w.heap.size := fun x => by have := hlt _ x; omega
  have NH := Lib.hid nH
  have HK := Lib.hid hkW
  have HX := Lib.hid hbx
  have HW := Lib.hid hW
  have HP0 := Lib.hid h
  clear h hlt nH hbx hkW hW
  cases hr : rgt m
  · have hbd : m < 1 ∨ 1099511627776 < m := by
      have : ¬ (1 ≤ m ∧ m ≤ 1099511627776) := of_decide_eq_false hr
      omega
    have e1 : σ.setFault m = σ := by unfold RigS.setFault; rw [hr]; rfl
    have HR := Lib.hid hr
    have E1 := Lib.hid e1
    clear hr e1
    rcases hbd with hb1 | hb1
    · have z1 : decide ((1 : Int) ≤ m) = false := by simp; omega
      go_enter Try.func124, Try.ntmps124
      go_wp2_with fail
      rw [← HW.out]
      refine (fault_any m W HP.out.1).mono ?_
      rintro e w3 ⟨rfl, h3, k3⟩
      rw [HR.out]
      rw [E1.out] at h3
      have HP3 := Lib.hid (HP.out.rig h3 HP.out.2.2.1 k3)
      have K3 := Lib.hid (HK.out.no.trans' (k3.f1 (q := q)))
      clear h3 k3 HP HK HX HW
      go_wp2
      go_ret
      exact ⟨_, _, _, rfl, HP3.out, rfl, Nat.le_succ _, Nat.le_succ _, K3.out⟩
    · have z1 : decide ((1 : Int) ≤ m) = true := by simp; omega
      have z2 : decide (m ≤ (1099511627776 : Int)) = false := by simp; omega
      go_enter Try.func124, Try.ntmps124
      go_wp2_with fail
      rw [← HW.out]
      refine (fault_any m W HP.out.1).mono ?_
      rintro e w3 ⟨rfl, h3, k3⟩
      rw [HR.out]
      rw [E1.out] at h3
      have HP3 := Lib.hid (HP.out.rig h3 HP.out.2.2.1 k3)
      have K3 := Lib.hid (HK.out.no.trans' (k3.f1 (q := q)))
      clear h3 k3 HP HK HX HW
      go_wp2
      go_ret
      exact ⟨_, _, _, rfl, HP3.out, rfl, Nat.le_succ _, Nat.le_succ _, K3.out⟩
  · have hbd : 1 ≤ m ∧ m ≤ 1099511627776 := of_decide_eq_true hr
    obtain ⟨hb1, hb2⟩ := hbd
    obtain ⟨n, rfl⟩ := Int.eq_ofNat_of_zero_le (show 0 ≤ m by omega)
    have e1 : σ.setFault n = { σ with fault := n } := by unfold RigS.setFault; rw [hr]; rfl
    have c6 : W.cell? ⟨q.b, 7, none⟩ = some (.int .i64 τ.fault) := HP.out.2.1.cl 7
    have f6 := HP.out.2.1.fr 7
    have HQ := Lib.hid (HP.out.2.1.put 7 (.int .i64 n) { τ with fault := n } rfl)
    have KQ := Lib.hid (Kp.rr (p := q) ((Kp.refl _ W).setAt (b := q.b) 7 (.int .i64 n)))
    have c6' : (w.alloc (.cells #[.int .i64 11, .int .i64 d, .int .i64 i, .int .i64 n, .string s, .bool raw, xv, .int .i64 xt, .int .i64 xb, yv, .int .i64 yt, .int .i64 yb] 34)).cell? ⟨q.b, 7, none⟩ = some (.int .i64 τ.fault) := by rw [← HW.out]; exact c6
    have f6' : (w.alloc (.cells #[.int .i64 11, .int .i64 d, .int .i64 i, .int .i64 n, .string s, .bool raw, xv, .int .i64 xt, .int .i64 xb, yv, .int .i64 yt, .int .i64 yb] 34)).frozen? ⟨q.b, 7, none⟩ = false := by rw [← HW.out]; exact f6
    have x6 := (KQ.out.f2 (p := p)).heap HX.out NH.out
    have c7 : (W.setCell ⟨q.b, 7, none⟩ (.int .i64 n)).cell? ⟨w.heap.size, 3, none⟩ = some (.int .i64 n) := cellOf x6 3
    have c7' : ((w.alloc (.cells #[.int .i64 11, .int .i64 d, .int .i64 i, .int .i64 n, .string s, .bool raw, xv, .int .i64 xt, .int .i64 xb, yv, .int .i64 yt, .int .i64 yb] 34)).setCell ⟨q.b, 7, none⟩ (.int .i64 n)).cell? ⟨w.heap.size, 3, none⟩ = some (.int .i64 n) := by rw [← HW.out]; exact c7
    have hql : q.b < w.heap.size := by
      have h1 := (HP.out.2.1.lt _ (.inl rfl)).1
      have h2 : W.heap.size = w.heap.size + 1 := by rw [HW.out]; simp
      have h3 : q.b ≠ w.heap.size := fun e => NH.out (by rw [← e]; exact .inr (.inl rfl))
      omega
    have HR := Lib.hid hr
    have E1 := Lib.hid e1
    have z1 : decide ((1 : Int) ≤ (n : Int)) = true := by simp; omega
    have z2 : decide ((n : Int) ≤ (1099511627776 : Int)) = true := by simp; omega
    clear hr e1 c6 f6 x6 c7
    go_enter Try.func124, Try.ntmps124
    go_wp2_with fail
    have hpr : Pr (w.setCell ⟨q.b, 7, none⟩ (.int .i64 n)) p q σ { τ with fault := n } := HP0.out.ref (HP0.out.2.1.put 7 (.int .i64 n) { τ with fault := n } rfl) ⟨HP0.out.2.2.2.1, HP0.out.2.2.2.2.1, HP0.out.2.2.2.2.2.1, HP0.out.2.2.2.2.2.2.1, HP0.out.2.2.2.2.2.2.2.1, by show n ≤ _; omega⟩ (Kp.rr (p := q) ((Kp.refl _ w).setAt (b := q.b) 7 (.int .i64 n)))
    obtain ⟨W6, hW6⟩ : ∃ W6, W6 = (w.setCell ⟨q.b, 7, none⟩ (.int .i64 n)).alloc (.cells #[.int .i64 11, .int .i64 d, .int .i64 i, .int .i64 n, .string s, .bool raw, xv, .int .i64 xt, .int .i64 xb, yv, .int .i64 yt, .int .i64 yb] 34) := ⟨_, rfl⟩
    rw [← hW6]
    have HP6 := Lib.hid (show Pr W6 p q σ { τ with fault := n } by rw [hW6]; exact hpr.no ((Kp.refl _ _).alloc _))
    have K6 := Lib.hid (show Kp (FF p q) w W6 by rw [hW6]; exact ((Kp.rr (p := q) ((Kp.refl _ w).setAt (b := q.b) 7 (.int .i64 n))).f2 (p := p)).alloc _)
    clear hpr hW6 c6' f6' c7' HP0 HP HK HX HW HQ KQ
    refine (fault_any n W6 HP6.out.1).mono ?_
    rintro e w3 ⟨rfl, h3, k3⟩
    rw [HR.out]
    rw [E1.out] at h3
    have HP3 := Lib.hid (HP6.out.rig h3 ⟨HP6.out.2.2.1.1, HP6.out.2.2.1.2.1, HP6.out.2.2.1.2.2.1, HP6.out.2.2.1.2.2.2.1, HP6.out.2.2.1.2.2.2.2.1, HP6.out.2.2.1.2.2.2.2.2.1, HP6.out.2.2.1.2.2.2.2.2.2.1, by show n ≤ _; omega⟩ k3)
    have K3 := Lib.hid (K6.out.trans' (k3.f1 (q := q)))
    clear h3 k3 HP6 K6
    go_wp2
    go_ret
    exact ⟨_, _, _, rfl, HP3.out, rfl, Nat.le_succ _, Nat.le_succ _, K3.out⟩
end
end Go.Proofs.Ytocpppegmepolaa
