/- rig: SetReg, Tamper, Later, Crash, New. -/
import Derived.Test.YtocpppegmepolaaRi
set_option linter.unusedVariables false
set_option linter.unusedSimpArgs false
namespace Go.Proofs.Ytocpppegmepolaa
open Go.RowKit
attribute [local go_sem ↓] Go.wp_at_zero Go.wp_at_succ

section
variable {S : Nat → Prop} {p : Spots} {σ : RigS}
set_option maxHeartbeats 400000 in
theorem setreg1_any (br bs : Nat) (s : ByteArray) (W : World) (h : RigR S W p σ) (c1 : W.cell? ⟨br, 0, none⟩ = some (.pointer (some ⟨p.b, 0, none⟩))) (c2 : W.cell? ⟨bs, 0, none⟩ = some (.string s)) :
    Calls Try.prog 117 #[.pointer (some ⟨bs, 0, none⟩), .pointer (some ⟨br, 0, none⟩)] W fun e w' => e = .returned (.int .i64 0) ∧ RigR S w' p { σ with reg := s } ∧ Kp (RF p) W w' := by
  have a2 : W.cell? ⟨p.b, 2, none⟩ = some (.string σ.reg) := h.cl 2
  have f2 := h.fr 2
  have H := Lib.hid (h.put 2 (.string s) { σ with reg := s } rfl rfl rfl)
  clear h
  go_enter Try.func117, Try.ntmps117
  go_wp2
  go_ret
  exact ⟨rfl, H.out, Kp.rfb ((Kp.refl _ _).setAt _ _)⟩
/-- What SetReg makes of a rig. -/
def RigS.regd (σ : RigS) (s : ByteArray) : RigS := if σ.stepE = 0 then { σ.step with reg := s } else σ.step
theorem wf_regd {σ : RigS} (s : ByteArray) (h : σ.wf) : (σ.regd s).wf := by unfold RigS.regd; split; exact wf_step h; exact wf_step h
theorem regd_reg (σ : RigS) (s : ByteArray) : (σ.regd s).reg = (if σ.stepE = 0 then s else σ.reg) ∧ (σ.regd s).calls ≤ σ.calls + 1 := by
  unfold RigS.regd; split
  · exact ⟨rfl, step_calls σ⟩
  · exact ⟨step_reg σ, step_calls σ⟩
set_option maxHeartbeats 1000000 in
theorem rsetreg_ok (s : ByteArray) (w : World) (h : RigR S w p σ) (hw : σ.wf) (hc : σ.calls ≤ 1000000000) (hs : s.size = 96) :
    Calls Try.prog 29 #[.pointer (some ⟨p.b, 0, none⟩), .string s] w fun e w' => e = .returned (.int .i64 σ.stepE) ∧ RigR S w' p (σ.regd s) ∧ Kp (RF p) w w' := by
  obtain ⟨W, hW⟩ : ∃ W, W = (w.alloc (.cells #[.pointer (some ⟨p.b, 0, none⟩)] 23)).alloc (.cells #[.string s] 9) := ⟨_, rfl⟩
  have hkW : Kp No w W := by rw [hW]; exact ((Kp.refl _ _).alloc _).alloc _
  have c1 : W.cell? ⟨w.heap.size, 0, none⟩ = some (.pointer (some ⟨p.b, 0, none⟩)) := by rw [hW]; simp [go_sem]
  have c2 : W.cell? ⟨w.heap.size + 1, 0, none⟩ = some (.string s) := by rw [hW]; simp [go_sem]
  have hR := h.no hkW
  have hfp := h.fp
  have nf : ∀ k, w.heap.size ≤ k → ¬ RF p k := fun k hk x => by have := (hfp k x).2; omega
  have HS := step_any (S := S) (p := p) 117 eg_setreg #[] #[.pointer (some ⟨w.heap.size + 1, 0, none⟩), .pointer (some ⟨w.heap.size, 0, none⟩)]
    (OneQ S W p σ.stepE (σ.regd s)) W hR hw hc
    (fun he W2 h2 k2 => ⟨rfl, by rw [show σ.regd s = σ.step from if_neg he]; exact h2, k2⟩)
    (fun he W2 h2 k2 => by
      rw [Array.empty_append]
      refine (setreg1_any _ _ s W2 h2 (k2.cell c1 (nf _ (by show _ ≤ w.heap.size; omega))) (k2.cell c2 (nf _ (by show _ ≤ w.heap.size + 1; omega)))).mono ?_
      rintro e W3 ⟨rfl, h3, k3⟩
      exact ⟨0, rfl, he.symm, by rw [show σ.regd s = { σ.step with reg := s } from if_pos he]; exact h3, k2.trans' k3⟩)
  have HS := Lib.hid HS
  have HW := Lib.hid hW
  have HK := Lib.hid hkW
  have hz : ((s.size : Int) != 96) = false := by rw [bne_eq_false_iff_eq]; omega
  clear hW hkW c1 c2 hR h hw hfp nf hs
  go_enter Try.func29, Try.ntmps29
  go_wp2_with fail
  rw [← HW.out]
  refine HS.out.mono ?_
  rintro e w2 ⟨n, rfl, rfl, h2, k2⟩
  have H2 := Lib.hid h2
  have K2 := Lib.hid k2
  clear h2 k2 HS
  go_wp2
  go_ret
  exact ⟨rfl, H2.out, HK.out.no.trans' K2.out⟩
set_option maxHeartbeats 400000 in
theorem rsetreg_bad (s : ByteArray) (b : Nat) (w : World) (hs : s.size ≠ 96) (hs2 : s.size ≤ 1000000) :
    Calls Try.prog 29 #[.pointer (some ⟨b, 0, none⟩), .string s] w fun e w' => e = .returned (.int .i64 6) ∧ Kp No w w' := by
  have hz : ((s.size : Int) != 96) = true := by rw [bne_iff_ne]; omega
  go_enter Try.func29, Try.ntmps29
  go_wp2
  go_ret
  exact ⟨rfl, ((Kp.refl _ _).alloc _).alloc _⟩

/-! Calls that are refused. -/
set_option maxHeartbeats 400000 in
theorem rread_bad (b : Nat) (d i : Int) (w : World) (hm : rmay d i ≠ 0) :
    Calls Try.prog 40 #[.pointer (some ⟨b, 0, none⟩), .int .i64 d, .int .i64 i] w fun e w' => e = .returned (.tuple #[.string ⟨#[]⟩, .int .i64 (rmay d i)]) ∧ Kp No w w' := by
  have hz : (rmay d i != 0) = true := by simpa using hm
  clear hm
  go_enter Try.func40, Try.ntmps40
  go_wp2_with (go_at_call 139; refine (rmay_any _ _ _ _).mono ?_; rintro e w' ⟨rfl, rfl⟩)
  go_ret2
  exact ⟨rfl, (((Kp.refl _ _).alloc _).alloc _).alloc _⟩
def rbad (d i : Int) (n : Nat) : Int := if rmay d i = 0 then (if n = 64 then 0 else 6) else rmay d i
set_option maxHeartbeats 400000 in
theorem rwrite_bad (b : Nat) (d i : Int) (s : ByteArray) (w : World) (hm : rbad d i s.size ≠ 0) (hs : s.size ≤ 1000000) :
    Calls Try.prog 42 #[.pointer (some ⟨b, 0, none⟩), .int .i64 d, .int .i64 i, .string s] w fun e w' => e = .returned (.int .i64 (rbad d i s.size)) ∧ Kp No w w' := by
  by_cases h0 : rmay d i = 0
  · have hn : s.size ≠ 64 := fun e => hm (by unfold rbad; rw [if_pos h0, if_pos e])
    have hz : ((s.size : Int) != 64) = true := by rw [bne_iff_ne]; omega
    have hr : rbad d i s.size = 6 := by unfold rbad; rw [if_pos h0, if_neg hn]
    rw [hr]
    have HM := Lib.hid h0
    clear h0 hm hr hn
    go_enter Try.func42, Try.ntmps42
    go_wp2_with (go_at_call 139; refine (rmay_any _ _ _ _).mono ?_; rintro e w' ⟨rfl, rfl⟩; rw [HM.out])
    go_ret
    exact ⟨rfl, ((((Kp.refl _ _).alloc _).alloc _).alloc _).alloc _⟩
  · have hz : (rmay d i != 0) = true := by simpa using h0
    have hr : rbad d i s.size = rmay d i := by unfold rbad; rw [if_neg h0]
    rw [hr]
    clear h0 hm hr
    go_enter Try.func42, Try.ntmps42
    go_wp2_with (go_at_call 139; refine (rmay_any _ _ _ _).mono ?_; rintro e w' ⟨rfl, rfl⟩)
    go_ret
    exact ⟨rfl, ((((Kp.refl _ _).alloc _).alloc _).alloc _).alloc _⟩
set_option maxHeartbeats 400000 in
theorem rflush_bad (b : Nat) (d : Int) (w : World) (hm : rmay d 0 ≠ 0) :
    Calls Try.prog 43 #[.pointer (some ⟨b, 0, none⟩), .int .i64 d] w fun e w' => e = .returned (.int .i64 (rmay d 0)) ∧ Kp No w w' := by
  have hz : (rmay d 0 != 0) = true := by simpa using hm
  clear hm
  go_enter Try.func43, Try.ntmps43
  go_wp2_with (go_at_call 139; refine (rmay_any _ _ _ _).mono ?_; rintro e w' ⟨rfl, rfl⟩)
  go_ret
  exact ⟨rfl, Kp.refl _ _⟩

/-! Tamper. -/
set_option maxHeartbeats 1000000 in
theorem rtamper_ok (d i : Nat) (s : ByteArray) (w : World) (h : RigR S w p σ) (hw : σ.wf) (hd : d < 2) (hi : i < 288) (hs : s.size = 64) :
    Calls Try.prog 44 #[.pointer (some ⟨p.b, 0, none⟩), .int .i64 d, .int .i64 i, .string s] w fun e w' => e = .returned (.int .i64 0) ∧ RigR S w' p (σ.setDev d (tamL (σ.dev d) i s)) ∧ Kp (RF p) w w' := by
  have hm := rmay_ok hd hi
  have cp := h.ptr hd
  have hok := wf_dev hw d
  have hil : i < (σ.dev d).length := by rw [hok.1]; exact hi
  have HR := dtamper_ok i s w (h.devS d) hil hs (by rw [hok.1]; omega)
  rw [show (σ.dev d).set i ⟨s, s, (σ.dev d)[i].is⟩ = tamL (σ.dev d) i s from by unfold tamL; rw [getD_at hil]] at HR
  obtain ⟨q, hq⟩ : ∃ q, q = p.db d := ⟨_, rfl⟩
  have HD : Hid (∀ {W' : World}, DevR S W' (p.db d) (p.dg d) (tamL (σ.dev d) i s) → Kp (fun k => k = p.dg d) w W' → RigR S W' p (σ.setDev d (tamL (σ.dev d) i s))) := Lib.hid (fun h1 h2 => h.devd d h1 h2)
  rw [← hq] at HR cp HD
  have HR := Lib.hid HR
  have HM := Lib.hid hm
  have i0 : (0 : Int) ≤ (d : Int) := by omega
  have i1 : (d : Int) < 2 := by omega
  have hz : ((s.size : Int) != 64) = false := by rw [bne_eq_false_iff_eq]; omega
  clear hok hil hq hw h hs hm
  go_enter Try.func44, Try.ntmps44
  go_wp2_with (first | (go_at_call 139; refine (rmay_any _ _ _ _).mono ?_; rintro e w' ⟨rfl, rfl⟩; rw [HM.out]) | (go_at_call 145; refine HR.out.mono ?_; rintro e w1 ⟨rfl, hd1, k1⟩; have H1 := Lib.hid (HD.out hd1 k1); have K1 := Lib.hid k1; clear hd1 k1 HR HD))
  go_ret
  exact ⟨rfl, H1.out, Kp.rfd K1.out⟩
set_option maxHeartbeats 400000 in
theorem rtamper_bad (b : Nat) (d i : Int) (s : ByteArray) (w : World) (hm : rbad d i s.size ≠ 0) (hs : s.size ≤ 1000000) :
    Calls Try.prog 44 #[.pointer (some ⟨b, 0, none⟩), .int .i64 d, .int .i64 i, .string s] w fun e w' => e = .returned (.int .i64 (rbad d i s.size)) ∧ w = w' := by
  by_cases h0 : rmay d i = 0
  · have hn : s.size ≠ 64 := fun e => hm (by unfold rbad; rw [if_pos h0, if_pos e])
    have hz : ((s.size : Int) != 64) = true := by rw [bne_iff_ne]; omega
    have hr : rbad d i s.size = 6 := by unfold rbad; rw [if_pos h0, if_neg hn]
    rw [hr]
    have HM := Lib.hid h0
    clear h0 hm hr hn
    go_enter Try.func44, Try.ntmps44
    go_wp2_with (go_at_call 139; refine (rmay_any _ _ _ _).mono ?_; rintro e w' ⟨rfl, rfl⟩; rw [HM.out])
    go_ret
    exact ⟨rfl, rfl⟩
  · have hz : (rmay d i != 0) = true := by simpa using h0
    have hr : rbad d i s.size = rmay d i := by unfold rbad; rw [if_neg h0]
    rw [hr]
    clear h0 hm hr
    go_enter Try.func44, Try.ntmps44
    go_wp2_with (go_at_call 139; refine (rmay_any _ _ _ _).mono ?_; rintro e w' ⟨rfl, rfl⟩)
    go_ret
    exact ⟨rfl, rfl⟩

/-! Later. -/
def rlat (n d i : Int) (m : Nat) : Int := if rgt n then rbad d i m else 2
set_option maxHeartbeats 1000000 in
theorem rlater_ok (n d i : Nat) (s : ByteArray) (w : World) (h : RigR S w p σ) (hn : rgt n = true) (hd : d < 2) (hi : i < 288) (hs : s.size = 64) :
    Calls Try.prog 45 #[.pointer (some ⟨p.b, 0, none⟩), .int .i64 n, .int .i64 d, .int .i64 i, .string s] w fun e w' => e = .returned (.int .i64 0) ∧ RigR S w' p { σ with later := n, td := d, ti := i, ts := s } ∧ Kp (RF p) w w' := by
  have hm := rmay_ok hd hi
  have a5 : w.cell? ⟨p.b, 5, none⟩ = some (.int .i64 σ.later) := h.cl 5
  have a8 : w.cell? ⟨p.b, 8, none⟩ = some (.int .i64 σ.td) := h.cl 8
  have a9 : w.cell? ⟨p.b, 9, none⟩ = some (.int .i64 σ.ti) := h.cl 9
  have a10 : w.cell? ⟨p.b, 10, none⟩ = some (.string σ.ts) := h.cl 10
  have f5 := h.fr 5
  have f8 := h.fr 8
  have f9 := h.fr 9
  have f10 := h.fr 10
  have h1 := (((h.put 5 (.int .i64 n) { σ with later := n } rfl rfl rfl).put 8 (.int .i64 d) { σ with later := n, td := d } rfl rfl rfl).put 9 (.int .i64 i) { σ with later := n, td := d, ti := i } rfl rfl rfl).put 10 (.string s) { σ with later := n, td := d, ti := i, ts := s } rfl rfl rfl
  have H1 := Lib.hid h1
  have HM := Lib.hid hm
  have HN := Lib.hid hn
  have hz : ((s.size : Int) != 64) = false := by rw [bne_eq_false_iff_eq]; omega
  clear h h1 hm hn hs
  go_enter Try.func45, Try.ntmps45
  go_wp2_with (first | (go_at_call 139; refine (rmay_any _ _ _ _).mono ?_; rintro e w' ⟨rfl, rfl⟩; rw [HM.out]) | (go_at_call 146; refine (rgt_any _ _).mono ?_; rintro e w' ⟨rfl, rfl⟩; rw [HN.out]))
  go_ret
  exact ⟨rfl, H1.out, Kp.rfb ((((((Kp.refl _ _).setAt _ _).setAt _ _).setAt _ _).setAt _ _))⟩
theorem rmay_12 (d i : Int) : (rmay d i == 1) = false := by
  rw [beq_eq_false_iff_ne]; unfold rmay; split
  · decide
  · split <;> decide
set_option maxHeartbeats 1000000 in
theorem rlater_bad (b : Nat) (n d i : Int) (s : ByteArray) (w : World) (hm : rlat n d i s.size ≠ 0) (hs : s.size ≤ 1000000) :
    Calls Try.prog 45 #[.pointer (some ⟨b, 0, none⟩), .int .i64 n, .int .i64 d, .int .i64 i, .string s] w fun e w' => e = .returned (.int .i64 (rlat n d i s.size)) ∧ w = w' := by
  have h1 := rmay_12 d i
  cases hr : rgt n
  · have e1 : rlat n d i s.size = 2 := by unfold rlat; rw [hr]; rfl
    rw [e1]
    have HR := Lib.hid hr
    clear hm hr e1
    go_enter Try.func45, Try.ntmps45
    go_wp2_with (first | (go_at_call 139; refine (rmay_any _ _ _ _).mono ?_; rintro e w' ⟨rfl, rfl⟩) | (go_at_call 146; refine (rgt_any _ _).mono ?_; rintro e w' ⟨rfl, rfl⟩; rw [HR.out]))
    go_ret
    exact ⟨rfl, rfl⟩
  · have e1 : rlat n d i s.size = rbad d i s.size := by unfold rlat; rw [hr]; rfl
    rw [e1] at hm ⊢
    have HR := Lib.hid hr
    clear hr e1
    by_cases h0 : rmay d i = 0
    · have hn : s.size ≠ 64 := fun e => hm (by unfold rbad; rw [if_pos h0, if_pos e])
      have hz : ((s.size : Int) != 64) = true := by rw [bne_iff_ne]; omega
      have hr : rbad d i s.size = 6 := by unfold rbad; rw [if_pos h0, if_neg hn]
      rw [hr]
      have HM := Lib.hid h0
      clear h0 hm hr hn h1
      go_enter Try.func45, Try.ntmps45
      go_wp2_with (first | (go_at_call 139; refine (rmay_any _ _ _ _).mono ?_; rintro e w' ⟨rfl, rfl⟩; rw [HM.out]) | (go_at_call 146; refine (rgt_any _ _).mono ?_; rintro e w' ⟨rfl, rfl⟩; rw [HR.out]))
      go_ret
      exact ⟨rfl, rfl⟩
    · have hz : (rmay d i != 0) = true := by simpa using h0
      have hr : rbad d i s.size = rmay d i := by unfold rbad; rw [if_neg h0]
      rw [hr]
      clear h0 hm hr
      go_enter Try.func45, Try.ntmps45
      go_wp2_with (first | (go_at_call 139; refine (rmay_any _ _ _ _).mono ?_; rintro e w' ⟨rfl, rfl⟩) | (go_at_call 146; refine (rgt_any _ _).mono ?_; rintro e w' ⟨rfl, rfl⟩; rw [HR.out]))
      go_ret
      exact ⟨rfl, rfl⟩
end
end Go.Proofs.Ytocpppegmepolaa
