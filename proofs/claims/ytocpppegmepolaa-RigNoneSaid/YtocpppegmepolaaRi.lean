/- rig: Write, Flush, Reg, SetReg, Tamper. -/
import Derived.Test.YtocpppegmepolaaRh
set_option linter.unusedVariables false
set_option linter.unusedSimpArgs false
namespace Go.Proofs.Ytocpppegmepolaa
open Go.RowKit
attribute [local go_sem ↓] Go.wp_at_zero Go.wp_at_succ

section
variable {S : Nat → Prop} {p : Spots} {σ : RigS}
/-- One number, and then what holds of the rig. -/
def OneQ (S : Nat → Prop) (W : World) (p : Spots) (n' : Int) (σ' : RigS) (n : Int) (W' : World) : Prop := n = n' ∧ RigR S W' p σ' ∧ Kp (RF p) W W'

set_option maxHeartbeats 1000000 in
theorem write1_any (d i br bd bi bs : Nat) (s : ByteArray) (W : World) (h : RigR S W p σ) (hw : σ.wf) (hd : d < 2) (hi : i < 288) (hs : s.size = 64)
    (c1 : W.cell? ⟨br, 0, none⟩ = some (.pointer (some ⟨p.b, 0, none⟩))) (c2 : W.cell? ⟨bd, 0, none⟩ = some (.int .i64 d)) (c3 : W.cell? ⟨bi, 0, none⟩ = some (.int .i64 i)) (c4 : W.cell? ⟨bs, 0, none⟩ = some (.string s))
    (nf : ∀ k, k = br ∨ k = bd ∨ k = bi ∨ k = bs → ¬ RF p k) :
    Calls Try.prog 142 #[.pointer (some ⟨br, 0, none⟩), .pointer (some ⟨bd, 0, none⟩), .pointer (some ⟨bi, 0, none⟩), .pointer (some ⟨bs, 0, none⟩)] W (RetI (OneQ S W p 0 (σ.setDev d (wrtL (σ.dev d) i s)))) := by
  have cp := h.ptr hd
  have hok := wf_dev hw d
  have hil : i < (σ.dev d).length := by rw [hok.1]; exact hi
  have HR := dwrite_ok i s W.drew (h.devS d).dr hil hs (by rw [hok.1]; omega)
  rw [show (σ.dev d).set i ⟨s, (σ.dev d)[i].safe, true⟩ = wrtL (σ.dev d) i s from by unfold wrtL; rw [getD_at hil]] at HR
  obtain ⟨q, hq⟩ : ∃ q, q = p.db d := ⟨_, rfl⟩
  have hgb := RF.ne_dg h d
  have m1 : ¬ br = p.dg d := fun e => nf br (.inl rfl) (e ▸ RF.dg p d)
  have m2 : ¬ bd = p.dg d := fun e => nf bd (.inr (.inl rfl)) (e ▸ RF.dg p d)
  have m3 : ¬ bi = p.dg d := fun e => nf bi (.inr (.inr (.inl rfl))) (e ▸ RF.dg p d)
  have m4 : ¬ bs = p.dg d := fun e => nf bs (.inr (.inr (.inr rfl))) (e ▸ RF.dg p d)
  have HD : Hid (∀ {W' : World}, DevR S W' (p.db d) (p.dg d) (wrtL (σ.dev d) i s) → Kp (fun k => k = p.dg d) W.drew W' → RigR S W' p (σ.setDev d (wrtL (σ.dev d) i s))) := Lib.hid (fun h1 h2 => (h.no (Kp.dr _)).devd d h1 h2)
  rw [← hq] at HR cp HD
  have HR := Lib.hid HR
  have i0 : (0 : Int) ≤ (d : Int) := by omega
  have i1 : (d : Int) < 2 := by omega
  clear hok hil hq hw h nf hs
  go_enter Try.func142, Try.ntmps142
  go_wp2
  go_region_held3 (fun w' => w'.cell? ⟨br, 0, none⟩ = some (.pointer (some ⟨p.b, 0, none⟩)) ∧ w'.cell? ⟨bd, 0, none⟩ = some (.int .i64 d) ∧ w'.cell? ⟨bi, 0, none⟩ = some (.int .i64 i) ∧ w'.cell? ⟨bs, 0, none⟩ = some (.string s) ∧ w'.cell? ⟨p.b, d, none⟩ = some (.pointer (some ⟨q, 0, none⟩))) (go_keep)
    ((go_at_call 143; refine HR.out.mono ?_; rintro e w1 ⟨rfl, hd1, k1⟩; have e1 := k1.cell (a := ⟨br, 0, none⟩) c1 m1; have e2 := k1.cell (a := ⟨bd, 0, none⟩) c2 m2; have e3 := k1.cell (a := ⟨bi, 0, none⟩) c3 m3; have e4 := k1.cell (a := ⟨bs, 0, none⟩) c4 m4; have e5 := k1.cell (a := ⟨p.b, d, none⟩) cp hgb))
  have H1 := Lib.hid (HD.out hd1 k1)
  have K1 := Lib.hid ((Kp.dr W).no.trans' (Kp.rfd (d := d) k1))
  clear hd1 k1 e1 e2 e3 e4 e5
  go_wp2
  go_ret
  exact ⟨0, rfl, rfl, H1.out, K1.out⟩

/-- What Write makes of a rig. -/
def RigS.wrote (σ : RigS) (d i : Nat) (s : ByteArray) : RigS := if σ.stepE = 0 then σ.step.setDev d (wrtL (σ.step.dev d) i s) else σ.step
theorem setDev_ok {σ : RigS} (d : Nat) (bs : List Blk) : (σ.setDev d bs).reg = σ.reg ∧ (σ.setDev d bs).calls = σ.calls ∧ (σ.setDev d bs).down = σ.down := by unfold RigS.setDev; split <;> exact ⟨rfl, rfl, rfl⟩
theorem wf_wrote {σ : RigS} {d i : Nat} {s : ByteArray} (h : σ.wf) (hi : i < 288) (hs : s.size = 64) : (σ.wrote d i s).wf := by
  unfold RigS.wrote; split
  · exact wf_setDev (wf_step h) _ (okD_wrt (wf_dev (wf_step h) _) (by rw [(wf_dev (wf_step h) d).1]; exact hi) hs)
  · exact wf_step h
theorem wrote_reg (σ : RigS) (d i : Nat) (s : ByteArray) : (σ.wrote d i s).reg = σ.reg ∧ (σ.wrote d i s).calls ≤ σ.calls + 1 := by
  unfold RigS.wrote; split
  · rw [(setDev_ok d _).1, (setDev_ok d _).2.1]; exact ⟨step_reg σ, step_calls σ⟩
  · exact ⟨step_reg σ, step_calls σ⟩

set_option maxHeartbeats 1000000 in
theorem rwrite_ok (d i : Nat) (s : ByteArray) (w : World) (h : RigR S w p σ) (hw : σ.wf) (hc : σ.calls ≤ 1000000000) (hd : d < 2) (hi : i < 288) (hs : s.size = 64) :
    Calls Try.prog 42 #[.pointer (some ⟨p.b, 0, none⟩), .int .i64 d, .int .i64 i, .string s] w fun e w' => e = .returned (.int .i64 σ.stepE) ∧ RigR S w' p (σ.wrote d i s) ∧ Kp (RF p) w w' := by
  have hm := rmay_ok hd hi
  obtain ⟨W, hW⟩ : ∃ W, W = (((w.alloc (.cells #[.pointer (some ⟨p.b, 0, none⟩)] 23)).alloc (.cells #[.int .i64 d] 3)).alloc (.cells #[.int .i64 i] 3)).alloc (.cells #[.string s] 9) := ⟨_, rfl⟩
  have hkW : Kp No w W := by rw [hW]; exact ((((Kp.refl _ _).alloc _).alloc _).alloc _).alloc _
  have c1 : W.cell? ⟨w.heap.size, 0, none⟩ = some (.pointer (some ⟨p.b, 0, none⟩)) := by rw [hW]; simp [go_sem]
  have c2 : W.cell? ⟨w.heap.size + 1, 0, none⟩ = some (.int .i64 d) := by rw [hW]; simp [go_sem]
  have c3 : W.cell? ⟨w.heap.size + 1 + 1, 0, none⟩ = some (.int .i64 i) := by rw [hW]; simp [go_sem]
  have c4 : W.cell? ⟨w.heap.size + 1 + 1 + 1, 0, none⟩ = some (.string s) := by rw [hW]; simp [go_sem]
  have hR := h.no hkW
  have hfp := h.fp
  have nf : ∀ k, w.heap.size ≤ k → ¬ RF p k := fun k hk x => by have := (hfp k x).2; omega
  have HS := step_any (S := S) (p := p) 142 eg_write #[] #[.pointer (some ⟨w.heap.size, 0, none⟩), .pointer (some ⟨w.heap.size + 1, 0, none⟩), .pointer (some ⟨w.heap.size + 1 + 1, 0, none⟩), .pointer (some ⟨w.heap.size + 1 + 1 + 1, 0, none⟩)]
    (OneQ S W p σ.stepE (σ.wrote d i s)) W hR hw hc
    (fun he W2 h2 k2 => ⟨rfl, by rw [show σ.wrote d i s = σ.step from if_neg he]; exact h2, k2⟩)
    (fun he W2 h2 k2 => by
      rw [Array.empty_append]
      refine (write1_any d i _ _ _ _ s W2 h2 (wf_step hw) hd hi hs (k2.cell c1 (nf _ (by show _ ≤ w.heap.size; omega))) (k2.cell c2 (nf _ (by show _ ≤ w.heap.size + 1; omega))) (k2.cell c3 (nf _ (by show _ ≤ w.heap.size + 1 + 1; omega))) (k2.cell c4 (nf _ (by show _ ≤ w.heap.size + 1 + 1 + 1; omega))) (fun k hk => nf k (by omega))).mono ?_
      rintro e W3 ⟨n, rfl, rfl, h3, k3⟩
      exact ⟨0, rfl, he.symm, by rw [show σ.wrote d i s = σ.step.setDev d (wrtL (σ.step.dev d) i s) from if_pos he]; exact h3, k2.trans' k3⟩)
  have HS := Lib.hid HS
  have HM := Lib.hid hm
  have HW := Lib.hid hW
  have HK := Lib.hid hkW
  have hz : ((s.size : Int) != 64) = false := by rw [bne_eq_false_iff_eq]; omega
  clear hm hW hkW c1 c2 c3 c4 hR h hw hfp nf hs
  go_enter Try.func42, Try.ntmps42
  go_wp2_with (go_at_call 139; refine (rmay_any _ _ _ _).mono ?_; rintro e w' ⟨rfl, rfl⟩; rw [HM.out])
  rw [← HW.out]
  refine HS.out.mono ?_
  rintro e w2 ⟨n, rfl, rfl, h2, k2⟩
  have H2 := Lib.hid h2
  have K2 := Lib.hid k2
  clear h2 k2 HS
  go_wp2
  go_ret
  exact ⟨rfl, H2.out, HK.out.no.trans' K2.out⟩

/-- What Flush makes of a rig. -/
def RigS.flushed (σ : RigS) (d : Nat) : RigS := if σ.stepE = 0 then σ.step.setDev d ((σ.step.dev d).map flB) else σ.step
theorem wf_flushed {σ : RigS} {d : Nat} (h : σ.wf) : (σ.flushed d).wf := by
  unfold RigS.flushed; split
  · exact wf_setDev (wf_step h) _ (okD_fl (wf_dev (wf_step h) _))
  · exact wf_step h
theorem flushed_reg (σ : RigS) (d : Nat) : (σ.flushed d).reg = σ.reg ∧ (σ.flushed d).calls ≤ σ.calls + 1 := by
  unfold RigS.flushed; split
  · rw [(setDev_ok d _).1, (setDev_ok d _).2.1]; exact ⟨step_reg σ, step_calls σ⟩
  · exact ⟨step_reg σ, step_calls σ⟩
set_option maxHeartbeats 1000000 in
theorem rflush_ok (d : Nat) (w : World) (h : RigR S w p σ) (hw : σ.wf) (hc : σ.calls ≤ 1000000000) (hd : d < 2) :
    Calls Try.prog 43 #[.pointer (some ⟨p.b, 0, none⟩), .int .i64 d] w fun e w' => e = .returned (.int .i64 σ.stepE) ∧ RigR S w' p (σ.flushed d) ∧ Kp (RF p) w w' := by
  have hm : rmay d 0 = 0 := rmay_ok (i := 0) hd (by omega)
  have cp := h.ptr hd
  have hok := wf_dev (wf_step hw) d
  have HS := step_any (S := S) (p := p) 144 eg_flush #[.pointer (some ⟨p.db d, 0, none⟩)] #[] (OneQ S w p σ.stepE (σ.flushed d)) w h hw hc
    (fun he W2 h2 k2 => ⟨rfl, by rw [show σ.flushed d = σ.step from if_neg he]; exact h2, k2⟩)
    (fun he W2 h2 k2 => by
      rw [Array.append_empty]
      refine (dflush_ok W2 (h2.devS d) (by rw [hok.1]; omega) (by rw [hok.1]; omega)).mono ?_
      rintro e W3 ⟨rfl, h3, k3⟩
      exact ⟨0, rfl, he.symm, by rw [show σ.flushed d = σ.step.setDev d ((σ.step.dev d).map flB) from if_pos he]; exact h2.devd d h3 k3, k2.trans' (Kp.rfd k3)⟩)
  obtain ⟨q, hq⟩ : ∃ q, q = p.db d := ⟨_, rfl⟩
  rw [← hq] at HS cp
  have HS := Lib.hid HS
  have HM := Lib.hid hm
  have i0 : (0 : Int) ≤ (d : Int) := by omega
  have i1 : (d : Int) < 2 := by omega
  clear hm h hw hok hq
  go_enter Try.func43, Try.ntmps43
  go_wp2_with (go_at_call 139; refine (rmay_any _ _ _ _).mono ?_; rintro e w' ⟨rfl, rfl⟩; rw [HM.out])
  refine HS.out.mono ?_
  rintro e w2 ⟨n, rfl, rfl, h2, k2⟩
  have H2 := Lib.hid h2
  have K2 := Lib.hid k2
  clear h2 k2 HS
  go_wp2
  go_ret
  exact ⟨rfl, H2.out, K2.out⟩

/-! The register. -/
set_option maxHeartbeats 400000 in
theorem reg1_any (W : World) : Calls Try.prog 127 #[] W fun e w' => e = .returned (.int .i64 0) ∧ W = w' := by
  go_enter Try.func127, Try.ntmps127
  go_wp2
  go_ret
  exact ⟨rfl, rfl⟩
set_option maxHeartbeats 1000000 in
theorem rreg_ok (w : World) (h : RigR S w p σ) (hw : σ.wf) (hc : σ.calls ≤ 1000000000) :
    Calls Try.prog 31 #[.pointer (some ⟨p.b, 0, none⟩)] w fun e w' => e = .returned (.tuple #[.string (if σ.stepE = 0 then σ.reg else ⟨#[]⟩), .int .i64 σ.stepE]) ∧ RigR S w' p σ.step ∧ Kp (RF p) w w' := by
  have HS := step_any (S := S) (p := p) 127 eg_reg #[] #[] (OneQ S w p σ.stepE σ.step) w h hw hc
    (fun he W2 h2 k2 => ⟨rfl, h2, k2⟩)
    (fun he W2 h2 k2 => by
      rw [Array.append_empty]
      refine (reg1_any W2).mono ?_
      rintro e W3 ⟨rfl, rfl⟩
      exact ⟨0, rfl, he.symm, h2, k2⟩)
  have HS := Lib.hid HS
  clear h hw
  by_cases hE : σ.stepE = 0
  · rw [hE] at HS ⊢
    clear hE
    go_enter Try.func31, Try.ntmps31
    go_wp2_with fail
    refine HS.out.mono ?_
    rintro e w2 ⟨n, rfl, rfl, h2, k2⟩
    have c2 : w2.cell? ⟨p.b, 2, none⟩ = some (.string σ.reg) := by rw [← step_reg σ]; exact h2.cl 2
    have H2 := Lib.hid h2
    have K2 := Lib.hid k2
    clear h2 k2 HS
    go_wp2
    go_ret2
    exact ⟨rfl, H2.out, K2.out⟩
  · have hz : (σ.stepE != 0) = true := by simpa using hE
    have hr : (if σ.stepE = 0 then σ.reg else ⟨#[]⟩ : ByteArray) = ⟨#[]⟩ := if_neg hE
    rw [hr]
    clear hE hr
    go_enter Try.func31, Try.ntmps31
    go_wp2_with fail
    refine HS.out.mono ?_
    rintro e w2 ⟨n, rfl, rfl, h2, k2⟩
    have H2 := Lib.hid h2
    have K2 := Lib.hid k2
    clear h2 k2 HS
    go_wp2
    go_ret2
    exact ⟨rfl, H2.out, K2.out⟩
end
end Go.Proofs.Ytocpppegmepolaa
