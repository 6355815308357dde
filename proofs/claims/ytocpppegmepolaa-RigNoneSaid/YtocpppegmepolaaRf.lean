/- rig: may, right, Arm, Fault, Later, Down, Calls, Dev. -/
import Derived.Test.YtocpppegmepolaaRe
set_option linter.unusedVariables false
set_option linter.unusedSimpArgs false
namespace Go.Proofs.Ytocpppegmepolaa
open Go.RowKit
attribute [local go_sem ↓] Go.wp_at_zero Go.wp_at_succ

def rmay (d i : Int) : Int := if d < 0 ∨ 2 ≤ d then 2 else if i < 0 ∨ 288 ≤ i then 3 else 0
theorem rmay_zero {d i : Int} (h : rmay d i = 0) : 0 ≤ d ∧ d < 2 ∧ 0 ≤ i ∧ i < 288 := by
  unfold rmay at h; split at h; · omega
  split at h; · omega
  omega
theorem rmay_ok {d i : Nat} (hd : d < 2) (hi : i < 288) : rmay d i = 0 := by unfold rmay; rw [if_neg (by omega), if_neg (by omega)]

set_option maxHeartbeats 400000 in
theorem rmay_nil (d i : Int) (w : World) : Calls Try.prog 139 #[.pointer none, .int .i64 d, .int .i64 i] w fun e w' => e = .returned (.int .i64 1) ∧ w = w' := by
  go_enter Try.func139, Try.ntmps139
  go_wp2
  go_ret
  exact ⟨rfl, rfl⟩
set_option maxHeartbeats 400000 in
theorem rmay_any (b : Nat) (d i : Int) (w : World) : Calls Try.prog 139 #[.pointer (some ⟨b, 0, none⟩), .int .i64 d, .int .i64 i] w fun e w' => e = .returned (.int .i64 (rmay d i)) ∧ w = w' := by
  by_cases c1 : d < 0
  · go_enter Try.func139, Try.ntmps139
    go_wp2
    go_ret
    exact ⟨ret_int (by unfold rmay; rw [if_pos (by omega)]), rfl⟩
  · by_cases c2 : 2 ≤ d
    · go_enter Try.func139, Try.ntmps139
      go_wp2
      go_ret
      exact ⟨ret_int (by unfold rmay; rw [if_pos (by omega)]), rfl⟩
    · by_cases c3 : i < 0
      · go_enter Try.func139, Try.ntmps139
        go_wp2
        go_ret
        exact ⟨ret_int (by unfold rmay; rw [if_neg (by omega), if_pos (by omega)]), rfl⟩
      · by_cases c4 : 288 ≤ i
        · go_enter Try.func139, Try.ntmps139
          go_wp2
          go_ret
          exact ⟨ret_int (by unfold rmay; rw [if_neg (by omega), if_pos (by omega)]), rfl⟩
        · go_enter Try.func139, Try.ntmps139
          go_wp2
          go_ret
          exact ⟨ret_int (by unfold rmay; rw [if_neg (by omega), if_neg (by omega)]), rfl⟩

def rgt (n : Int) : Bool := decide (1 ≤ n ∧ n ≤ 1099511627776)
theorem rgt_f {n : Int} (h : ¬ (1 ≤ n ∧ n ≤ 1099511627776)) : false = rgt n := (decide_eq_false h).symm
theorem rgt_t {n : Int} (h : 1 ≤ n ∧ n ≤ 1099511627776) : true = rgt n := (decide_eq_true h).symm
set_option maxHeartbeats 400000 in
theorem rgt_any (n : Int) (w : World) : Calls Try.prog 146 #[.int .i64 n] w fun e w' => e = .returned (.bool (rgt n)) ∧ w = w' := by
  by_cases c1 : 1 ≤ n
  · by_cases c2 : n ≤ 1099511627776
    · go_enter Try.func146, Try.ntmps146
      go_wp2
      go_ret
      exact ⟨ret_bool (rgt_t ⟨c1, c2⟩), rfl⟩
    · go_enter Try.func146, Try.ntmps146
      go_wp2
      go_ret
      exact ⟨ret_bool (rgt_f (by omega)), rfl⟩
  · go_enter Try.func146, Try.ntmps146
    go_wp2
    go_ret
    exact ⟨ret_bool (rgt_f (by omega)), rfl⟩

section
variable {S : Nat → Prop} {p : Spots} {σ : RigS}
def RigS.setArm (σ : RigS) (n : Int) : RigS := if rgt n then { σ with arm := n.toNat } else σ
def RigS.setFault (σ : RigS) (n : Int) : RigS := if rgt n then { σ with fault := n.toNat } else σ
set_option maxHeartbeats 400000 in
theorem arm_any (n : Int) (w : World) (h : RigR S w p σ) :
    Calls Try.prog 46 #[.pointer (some ⟨p.b, 0, none⟩), .int .i64 n] w fun e w' => e = .returned (.int .i64 (if rgt n then 0 else 2)) ∧ RigR S w' p (σ.setArm n) ∧ Kp (RF p) w w' := by
  have hf := h.fr 6
  have hc : w.cell? ⟨p.b, 6, none⟩ = some (.int .i64 σ.arm) := h.cl 6
  obtain ⟨b, hb⟩ : ∃ b, b = p.b := ⟨_, rfl⟩
  cases hr : rgt n
  · have e1 : σ.setArm n = σ := by unfold RigS.setArm; rw [hr]; rfl
    rw [e1]
    have HR := Lib.hid hr
    have HH := Lib.hid h
    rw [← hb] at hf hc ⊢
    clear h e1 hr hb
    go_enter Try.func46, Try.ntmps46
    go_wp2_with (go_at_call 146; refine (rgt_any _ _).mono ?_; rintro e w' ⟨rfl, rfl⟩; rw [HR.out])
    go_ret
    exact ⟨rfl, HH.out, Kp.refl _ _⟩
  · have hn : 1 ≤ n ∧ n ≤ 1099511627776 := of_decide_eq_true hr
    obtain ⟨m, rfl⟩ := Int.eq_ofNat_of_zero_le (show 0 ≤ n by omega)
    have e1 : σ.setArm m = { σ with arm := m } := by unfold RigS.setArm; rw [hr]; rfl
    rw [e1]
    have hs := h.put 6 (.int .i64 m) { σ with arm := m } rfl rfl rfl
    have HS := Lib.hid hs
    have HR := Lib.hid hr
    have HB := Lib.hid hb
    rw [← hb] at hf hc ⊢
    obtain ⟨hn1, hn2⟩ := hn
    clear h hs e1 hr hb
    go_enter Try.func46, Try.ntmps46
    go_wp2_with (go_at_call 146; refine (rgt_any _ _).mono ?_; rintro e w' ⟨rfl, rfl⟩; rw [HR.out])
    go_ret
    exact ⟨rfl, by rw [HB.out]; exact HS.out, Kp.rfb (by rw [HB.out]; exact (Kp.refl _ _).setAt _ _)⟩
set_option maxHeartbeats 400000 in
theorem fault_any (n : Int) (w : World) (h : RigR S w p σ) :
    Calls Try.prog 47 #[.pointer (some ⟨p.b, 0, none⟩), .int .i64 n] w fun e w' => e = .returned (.int .i64 (if rgt n then 0 else 2)) ∧ RigR S w' p (σ.setFault n) ∧ Kp (RF p) w w' := by
  have hf := h.fr 7
  have hc : w.cell? ⟨p.b, 7, none⟩ = some (.int .i64 σ.fault) := h.cl 7
  obtain ⟨b, hb⟩ : ∃ b, b = p.b := ⟨_, rfl⟩
  cases hr : rgt n
  · have e1 : σ.setFault n = σ := by unfold RigS.setFault; rw [hr]; rfl
    rw [e1]
    have HR := Lib.hid hr
    have HH := Lib.hid h
    rw [← hb] at hf hc ⊢
    clear h e1 hr hb
    go_enter Try.func47, Try.ntmps47
    go_wp2_with (go_at_call 146; refine (rgt_any _ _).mono ?_; rintro e w' ⟨rfl, rfl⟩; rw [HR.out])
    go_ret
    exact ⟨rfl, HH.out, Kp.refl _ _⟩
  · have hn : 1 ≤ n ∧ n ≤ 1099511627776 := of_decide_eq_true hr
    obtain ⟨m, rfl⟩ := Int.eq_ofNat_of_zero_le (show 0 ≤ n by omega)
    have e1 : σ.setFault m = { σ with fault := m } := by unfold RigS.setFault; rw [hr]; rfl
    rw [e1]
    have hs := h.put 7 (.int .i64 m) { σ with fault := m } rfl rfl rfl
    have HS := Lib.hid hs
    have HR := Lib.hid hr
    have HB := Lib.hid hb
    rw [← hb] at hf hc ⊢
    obtain ⟨hn1, hn2⟩ := hn
    clear h hs e1 hr hb
    go_enter Try.func47, Try.ntmps47
    go_wp2_with (go_at_call 146; refine (rgt_any _ _).mono ?_; rintro e w' ⟨rfl, rfl⟩; rw [HR.out])
    go_ret
    exact ⟨rfl, by rw [HB.out]; exact HS.out, Kp.rfb (by rw [HB.out]; exact (Kp.refl _ _).setAt _ _)⟩
set_option maxHeartbeats 400000 in
theorem down_any (w : World) (h : RigR S w p σ) : Calls Try.prog 48 #[.pointer (some ⟨p.b, 0, none⟩)] w fun e w' => e = .returned (.bool σ.down) ∧ w = w' := by
  have hc : w.cell? ⟨p.b, 3, none⟩ = some (.bool σ.down) := h.cl 3
  clear h
  obtain ⟨b, hb⟩ : ∃ b, b = p.b := ⟨_, rfl⟩
  obtain ⟨t, ht⟩ : ∃ b, b = σ.down := ⟨_, rfl⟩
  rw [← hb, ← ht] at hc
  rw [← hb, ← ht]
  clear hb ht
  go_enter Try.func48, Try.ntmps48
  go_wp2
  go_ret
  exact ⟨rfl, rfl⟩
set_option maxHeartbeats 400000 in
theorem calls_any (w : World) (h : RigR S w p σ) : Calls Try.prog 49 #[.pointer (some ⟨p.b, 0, none⟩)] w fun e w' => e = .returned (.int .i64 σ.calls) ∧ w = w' := by
  have hc : w.cell? ⟨p.b, 4, none⟩ = some (.int .i64 σ.calls) := h.cl 4
  clear h
  obtain ⟨b, hb⟩ : ∃ b, b = p.b := ⟨_, rfl⟩
  obtain ⟨t, ht⟩ : ∃ b, b = σ.calls := ⟨_, rfl⟩
  rw [← hb, ← ht] at hc
  rw [← hb, ← ht]
  clear hb ht
  go_enter Try.func49, Try.ntmps49
  go_wp2
  go_ret
  exact ⟨rfl, rfl⟩
set_option maxHeartbeats 400000 in
theorem rdev_ok (d : Nat) (w : World) (hd : d < 2) (h : RigR S w p σ) : Calls Try.prog 41 #[.pointer (some ⟨p.b, 0, none⟩), .int .i64 d] w fun e w' => e = .returned (.pointer (some ⟨p.db d, 0, none⟩)) ∧ w = w' := by
  have hc0 : w.cell? ⟨p.b, 0, none⟩ = some (.pointer (some ⟨p.b0, 0, none⟩)) := h.cl 0
  have hc1 : w.cell? ⟨p.b, 1, none⟩ = some (.pointer (some ⟨p.b1, 0, none⟩)) := h.cl 1
  clear h
  have hm : rmay d 0 = 0 := rmay_ok (i := 0) hd (by omega)
  obtain ⟨b, b0, g0, b1, g1⟩ := p
  dsimp only at hc0 hc1 ⊢
  have HM := Lib.hid hm
  clear hm
  rcases (by omega : d = 0 ∨ d = 1) with rfl | rfl
  · show Calls Try.prog 41 #[.pointer (some ⟨b, 0, none⟩), .int .i64 0] w fun e w' => e = .returned (.pointer (some ⟨b0, 0, none⟩)) ∧ w = w'
    go_enter Try.func41, Try.ntmps41
    go_wp2_with (go_at_call 139; refine (rmay_any _ _ _ _).mono ?_; rintro e w' ⟨rfl, rfl⟩; rw [show rmay 0 0 = 0 from HM.out])
    go_ret
    exact ⟨rfl, rfl⟩
  · show Calls Try.prog 41 #[.pointer (some ⟨b, 0, none⟩), .int .i64 1] w fun e w' => e = .returned (.pointer (some ⟨b1, 0, none⟩)) ∧ w = w'
    go_enter Try.func41, Try.ntmps41
    go_wp2_with (go_at_call 139; refine (rmay_any _ _ _ _).mono ?_; rintro e w' ⟨rfl, rfl⟩; rw [show rmay 1 0 = 0 from HM.out])
    go_ret
    exact ⟨rfl, rfl⟩
set_option maxHeartbeats 400000 in
theorem rdev_bad (b : Nat) (d : Int) (w : World) (hd : rmay d 0 ≠ 0) : Calls Try.prog 41 #[.pointer (some ⟨b, 0, none⟩), .int .i64 d] w fun e w' => e = .returned (.pointer none) ∧ w = w' := by
  have hz : (rmay d 0 != 0) = true := by simpa using hd
  clear hd
  go_enter Try.func41, Try.ntmps41
  go_wp2_with (go_at_call 139; refine (rmay_any _ _ _ _).mono ?_; rintro e w' ⟨rfl, rfl⟩)
  go_ret
  exact ⟨rfl, rfl⟩
end
end Go.Proofs.Ytocpppegmepolaa
