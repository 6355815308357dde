/- layer 12's law: Tamper, Crash, and any call of both rigs. -/
import Derived.Test.YtocpppegmepolaaRw
set_option linter.unusedVariables false
set_option linter.unusedSimpArgs false
namespace Go.Proofs.Ytocpppegmepolaa
open Go.RowKit
attribute [local go_sem ↓] Go.wp_at_zero Go.wp_at_succ
section
variable {w w' : World} {p q : Spots} {σ τ : RigS}

set_option maxRecDepth 100000 in
set_option maxHeartbeats 4000000 in
theorem do_k8 (a : LAct) (h : Pr w p q σ τ) (hkd : a.kd = 8) (hs : a.s.size < 300) (ha : a.ok (FF p q) w) (hc : σ.calls ≤ 1000000000) (hc2 : τ.calls ≤ 1000000000) :
    Calls Try.prog 30 #[.pointer (some ⟨p.b, 0, none⟩), .pointer (some ⟨q.b, 0, none⟩), a.val] w (DoP w p q σ τ) := by
  have hlt := h.lt
  have ht := fun W => text_64 a W hs
  have htl := tx_le hs (show 64 ≤ 300 by omega)
  have hb := fun W => block12_any a (tx a 64) W (by omega)
  obtain ⟨t, htt⟩ : ∃ t, t = tx a 64 := ⟨_, rfl⟩
  rw [← htt] at htl hb
  simp only [← htt] at ht
  obtain ⟨kd, d, i, m, s, raw, ⟨xv, xk, xt, xb⟩, ⟨yv, yk, yt, yb⟩⟩ := a
  obtain rfl : kd = 8 := hkd
  have hs' : s.size < 300 := hs
  show Calls Try.prog 30 #[.pointer (some ⟨p.b, 0, none⟩), .pointer (some ⟨q.b, 0, none⟩), .agg #[.int .i64 8, .int .i64 d, .int .i64 i, .int .i64 m, .string s, .bool raw, xv, .int .i64 xt, .int .i64 xb, yv, .int .i64 yt, .int .i64 yb]] w _
  obtain ⟨W, hW⟩ : ∃ W, W = w.alloc (.cells #[.int .i64 8, .int .i64 d, .int .i64 i, .int .i64 m, .string s, .bool raw, xv, .int .i64 xt, .int .i64 xb, yv, .int .i64 yt, .int .i64 yb] 34) := ⟨_, rfl⟩
  have hbx : W.heap[w.heap.size]? = some (.cells #[.int .i64 8, .int .i64 d, .int .i64 i, .int .i64 m, .string s, .bool raw, xv, .int .i64 xt, .int .i64 xb, yv, .int .i64 yt, .int .i64 yb] 34 (0, 0)) := by rw [hW]; exact heap_new w _
  have hkW : Kp No w W := by rw [hW]; exact (Kp.refl _ _).alloc _
  have HP := Lib.hid (h.no hkW)
  have nH : ¬ FF p q w.heap.size := fun x => by have := hlt _ x; omega
  have NH := Lib.hid nH
  have HK := Lib.hid hkW
  have HX := Lib.hid hbx
  have HW := Lib.hid hW
  have HT : Hid (∀ W', Calls Try.prog 28 #[.agg #[.int .i64 8, .int .i64 d, .int .i64 i, .int .i64 m, .string s, .bool raw, xv, .int .i64 xt, .int .i64 xb, yv, .int .i64 yt, .int .i64 yb], .int .i64 64] W' fun e w' => e = .returned (.string t) ∧ Kp No W' w') := Lib.hid ht
  have HB : Hid (∀ W', Calls Try.prog 122 #[.agg #[.int .i64 8, .int .i64 d, .int .i64 i, .int .i64 m, .string s, .bool raw, xv, .int .i64 xt, .int .i64 xb, yv, .int .i64 yt, .int .i64 yb], .string t] W' fun e w' => e = .returned (.int .i64 (rbad d i t.size)) ∧ Kp No W' w') := Lib.hid hb
  clear h hlt nH hbx hkW hW ha hs ht hb htt
  by_cases hr : rbad d i t.size = 0
  · obtain ⟨hm, h64⟩ := rbad_zero hr
    obtain ⟨d', i', rfl, rfl, hd', hi'⟩ := rmay_nat hm
    have HR := Lib.hid hr
    have H64 := Lib.hid h64
    clear hr hm h64
    go_enter Try.func30, Try.ntmps30
    go_wp2_with fail
    rw [← HW.out]
    refine (HT.out _).mono ?_
    rintro e w2 ⟨rfl, k2⟩
    have x2 := k2.heap HX.out id
    have y0 : w2.cell? ⟨w.heap.size, 0, none⟩ = some (.int .i64 8) := cellOf x2 0
    have y1 : w2.cell? ⟨w.heap.size, 1, none⟩ = some (.int .i64 d') := cellOf x2 1
    have y2 : w2.cell? ⟨w.heap.size, 2, none⟩ = some (.int .i64 i') := cellOf x2 2
    have y3 : w2.cell? ⟨w.heap.size, 3, none⟩ = some (.int .i64 m) := cellOf x2 3
    have y4 : w2.cell? ⟨w.heap.size, 4, none⟩ = some (.string s) := cellOf x2 4
    have y5 : w2.cell? ⟨w.heap.size, 5, none⟩ = some (.bool raw) := cellOf x2 5
    have y6 : w2.cell? ⟨w.heap.size, 6, none⟩ = some (xv) := cellOf x2 6
    have y7 : w2.cell? ⟨w.heap.size, 7, none⟩ = some (.int .i64 xt) := cellOf x2 7
    have y8 : w2.cell? ⟨w.heap.size, 8, none⟩ = some (.int .i64 xb) := cellOf x2 8
    have y9 : w2.cell? ⟨w.heap.size, 9, none⟩ = some (yv) := cellOf x2 9
    have y10 : w2.cell? ⟨w.heap.size, 10, none⟩ = some (.int .i64 yt) := cellOf x2 10
    have y11 : w2.cell? ⟨w.heap.size, 11, none⟩ = some (.int .i64 yb) := cellOf x2 11
    have HP2 := Lib.hid (HP.out.no k2)
    have K2 := Lib.hid (HK.out.trans' k2)
    have X2 := Lib.hid x2
    clear x2 k2 HP HK HX HW
    go_wp2_with fail
    refine (HB.out _).mono ?_
    rintro e w4 ⟨rfl, k4⟩
    rw [HR.out]
    have x4 := k4.heap X2.out id
    have d4 : w4.cell? ⟨w.heap.size, 1, none⟩ = some (.int .i64 d') := cellOf x4 1
    have i4 : w4.cell? ⟨w.heap.size, 2, none⟩ = some (.int .i64 i') := cellOf x4 2
    have HP4 := Lib.hid (HP2.out.no k4)
    have K4 := Lib.hid (K2.out.trans' k4)
    have X4 := Lib.hid x4
    have cp := HP4.out.2.1.ptr hd'
    obtain ⟨S', hrd, hup, hnq, hfq, hback⟩ := HP4.out.2.1.devd HP4.out.up d'
    obtain ⟨b0, hb0⟩ : ∃ b0, b0 = q.db d' := ⟨_, rfl⟩
    rw [← hb0] at cp hrd hnq hfq hback
    have HWr := Lib.hid (rdtamper_any (w := w4.drew) i' t (hrd.no (Kp.dr _)) hi' H64.out hup)
    have HBK := Lib.hid hback
    have i0 : (0 : Int) ≤ (d' : Int) := by omega
    have i1 : (d' : Int) < 2 := by omega
    have hHq : ¬ (w.heap.size = b0) := fun e => NH.out (by rw [e]; exact .inr hfq)
    have HF := Lib.hid hfq
    clear x4 k4 HP2 K2 X2 y0 y1 y2 y3 y4 y5 y6 y7 y8 y9 y10 y11 hb0 hrd hup hback hfq
    go_wp2_with fail
    go_region_held3 (fun w' => w'.cell? ⟨q.b, d', none⟩ = some (.pointer (some ⟨b0, 0, none⟩)) ∧ w'.cell? ⟨w.heap.size, 1, none⟩ = some (.int .i64 d') ∧ w'.cell? ⟨w.heap.size, 2, none⟩ = some (.int .i64 i')) (go_keep)
      ((go_at_call 123; refine HWr.out.mono ?_; rintro e w6 ⟨rfl, hd6, k6⟩; have e0 := k6.cell (a := ⟨q.b, d', none⟩) cp hnq; have e1 := k6.cell (a := ⟨w.heap.size, 1, none⟩) d4 hHq; have e2 := k6.cell (a := ⟨w.heap.size, 2, none⟩) i4 hHq))
    have kk := (Kp.dr w4).no.trans' k6
    have kk2 : Kp (RFr q) w4 w6 := kk.mono fun k _ e => e ▸ HF.out
    have HP6 := Lib.hid (HP4.out.ref (HBK.out _ hd6 kk) HP4.out.2.2.2 kk2)
    have K6 := Lib.hid (K4.out.no.trans' (kk2.f2 (p := p)))
    clear kk kk2 hd6 k6 HWr HBK HP4 K4
    go_wp2_with fail
    refine (rtamper_ok d' i' t w6 HP6.out.1 HP6.out.2.2.1 hd' hi' H64.out).mono ?_
    rintro e w7 ⟨rfl, h7, k7⟩
    have HP7 := Lib.hid (HP6.out.rig h7 (wf_setDev HP6.out.2.2.1 d' (okD_tam (wf_dev HP6.out.2.2.1 d') H64.out)) k7)
    have K7 := Lib.hid (K6.out.trans' (k7.f1 (q := q)))
    clear h7 k7 HP6 K6 e0 e1 e2
    go_wp2
    go_ret
    exact ⟨_, _, _, rfl, HP7.out, (setDev_ok d' _).1, by rw [(setDev_ok d' _).2.1]; exact Nat.le_succ _, Nat.le_succ _, K7.out⟩
  · have zb : (rbad d i t.size == 0) = false := by rw [beq_eq_false_iff_ne]; exact hr
    have HR := Lib.hid hr
    clear hr
    go_enter Try.func30, Try.ntmps30
    go_wp2_with fail
    rw [← HW.out]
    refine (HT.out _).mono ?_
    rintro e w2 ⟨rfl, k2⟩
    have x2 := k2.heap HX.out id
    have y0 : w2.cell? ⟨w.heap.size, 0, none⟩ = some (.int .i64 8) := cellOf x2 0
    have y1 : w2.cell? ⟨w.heap.size, 1, none⟩ = some (.int .i64 d) := cellOf x2 1
    have y2 : w2.cell? ⟨w.heap.size, 2, none⟩ = some (.int .i64 i) := cellOf x2 2
    have y3 : w2.cell? ⟨w.heap.size, 3, none⟩ = some (.int .i64 m) := cellOf x2 3
    have y4 : w2.cell? ⟨w.heap.size, 4, none⟩ = some (.string s) := cellOf x2 4
    have y5 : w2.cell? ⟨w.heap.size, 5, none⟩ = some (.bool raw) := cellOf x2 5
    have y6 : w2.cell? ⟨w.heap.size, 6, none⟩ = some (xv) := cellOf x2 6
    have y7 : w2.cell? ⟨w.heap.size, 7, none⟩ = some (.int .i64 xt) := cellOf x2 7
    have y8 : w2.cell? ⟨w.heap.size, 8, none⟩ = some (.int .i64 xb) := cellOf x2 8
    have y9 : w2.cell? ⟨w.heap.size, 9, none⟩ = some (yv) := cellOf x2 9
    have y10 : w2.cell? ⟨w.heap.size, 10, none⟩ = some (.int .i64 yt) := cellOf x2 10
    have y11 : w2.cell? ⟨w.heap.size, 11, none⟩ = some (.int .i64 yb) := cellOf x2 11
    have HP2 := Lib.hid (HP.out.no k2)
    have K2 := Lib.hid (HK.out.trans' k2)
    have X2 := Lib.hid x2
    clear x2 k2 HP HK HX HW
    go_wp2_with fail
    refine (HB.out _).mono ?_
    rintro e w4 ⟨rfl, k4⟩
    have x4 := k4.heap X2.out id
    have d4 : w4.cell? ⟨w.heap.size, 1, none⟩ = some (.int .i64 d) := cellOf x4 1
    have i4 : w4.cell? ⟨w.heap.size, 2, none⟩ = some (.int .i64 i) := cellOf x4 2
    have HP4 := Lib.hid (HP2.out.no k4)
    have K4 := Lib.hid (K2.out.trans' k4)
    clear x4 k4 HP2 K2 X2 y0 y1 y2 y3 y4 y5 y6 y7 y8 y9 y10 y11
    go_wp2_with fail
    refine (rtamper_bad p.b d i t w4 HR.out (by omega)).mono ?_
    rintro e w7 ⟨rfl, rfl⟩
    go_wp2
    go_ret
    exact ⟨_, _, _, rfl, HP4.out, rfl, Nat.le_succ _, Nat.le_succ _, K4.out.no⟩

set_option maxRecDepth 100000 in
set_option maxHeartbeats 4000000 in
theorem do_k12 (a : LAct) (h : Pr w p q σ τ) (hkd : a.kd = 12) (hs : a.s.size < 300) (ha : a.ok (FF p q) w) (hc : σ.calls ≤ 1000000000) (hc2 : τ.calls ≤ 1000000000) :
    Calls Try.prog 30 #[.pointer (some ⟨p.b, 0, none⟩), .pointer (some ⟨q.b, 0, none⟩), a.val] w (DoP w p q σ τ) := by
  have hlt := h.lt
  obtain ⟨kd, d, i, m, s, raw, ⟨xv, xk, xt, xb⟩, ⟨yv, yk, yt, yb⟩⟩ := a
  obtain rfl : kd = 12 := hkd
  have hs' : s.size < 300 := hs
  show Calls Try.prog 30 #[.pointer (some ⟨p.b, 0, none⟩), .pointer (some ⟨q.b, 0, none⟩), .agg #[.int .i64 12, .int .i64 d, .int .i64 i, .int .i64 m, .string s, .bool raw, xv, .int .i64 xt, .int .i64 xb, yv, .int .i64 yt, .int .i64 yb]] w _
  obtain ⟨W, hW⟩ : ∃ W, W = w.alloc (.cells #[.int .i64 12, .int .i64 d, .int .i64 i, .int .i64 m, .string s, .bool raw, xv, .int .i64 xt, .int .i64 xb, yv, .int .i64 yt, .int .i64 yb] 34) := ⟨_, rfl⟩
  have hbx : W.heap[w.heap.size]? = some (.cells #[.int .i64 12, .int .i64 d, .int .i64 i, .int .i64 m, .string s, .bool raw, xv, .int .i64 xt, .int .i64 xb, yv, .int .i64 yt, .int .i64 yb] 34 (0, 0)) := by rw [hW]; exact heap_new w _
  have hkW : Kp No w W := by rw [hW]; exact (Kp.refl _ _).alloc _
  have HP := Lib.hid (h.no hkW)
  have nH : ¬ FF p q w.heap.size := fun x => by have := hlt _ x; omega
  have NH := Lib.hid nH
  have HK := Lib.hid hkW
  have HX := Lib.hid hbx
  have HW := Lib.hid hW
  have hxx : LLoss.ok ⟨xv, xk, xt, xb⟩ (fun k => RF p k ∨ RFr q k) W := (ha.no hkW).2.2.1
  have hyy : LLoss.ok ⟨yv, yk, yt, yb⟩ (fun k => RF p k ∨ RFr q k) W := (ha.no hkW).2.2.2
  have HXX := Lib.hid hxx
  have HYY := Lib.hid hyy
  clear h hlt nH hbx hkW hW ha hs hxx hyy
  go_enter Try.func30, Try.ntmps30
  go_wp2_with fail
  rw [← HW.out]
  have HC : Hid (Calls Try.prog 125 #[.pointer (some ⟨q.b, 0, none⟩), .agg #[xv, .int .i64 xt, .int .i64 xb], .agg #[yv, .int .i64 yt, .int .i64 yb]] W (RCrashP (RF p) W q τ)) := Lib.hid (rcrash2_any ⟨xv, xk, xt, xb⟩ ⟨yv, yk, yt, yb⟩ HP.out.2.1 HP.out.2.2.2 HXX.out HYY.out HP.out.up)
  refine HC.out.mono ?_
  rintro e w3 ⟨τ3, rfl, h3, hw3, hcc3, k3⟩
  have HP3 := Lib.hid (HP.out.ref h3 hw3 k3)
  have k3f := k3.f2 (p := p)
  have K3 := Lib.hid (HK.out.no.trans' k3f)
  have x3 := k3f.heap HX.out NH.out
  have y0 : w3.cell? ⟨w.heap.size, 0, none⟩ = some (.int .i64 12) := cellOf x3 0
  have y1 : w3.cell? ⟨w.heap.size, 1, none⟩ = some (.int .i64 d) := cellOf x3 1
  have y2 : w3.cell? ⟨w.heap.size, 2, none⟩ = some (.int .i64 i) := cellOf x3 2
  have y3 : w3.cell? ⟨w.heap.size, 3, none⟩ = some (.int .i64 m) := cellOf x3 3
  have y4 : w3.cell? ⟨w.heap.size, 4, none⟩ = some (.string s) := cellOf x3 4
  have y5 : w3.cell? ⟨w.heap.size, 5, none⟩ = some (.bool raw) := cellOf x3 5
  have y6 : w3.cell? ⟨w.heap.size, 6, none⟩ = some (xv) := cellOf x3 6
  have y7 : w3.cell? ⟨w.heap.size, 7, none⟩ = some (.int .i64 xt) := cellOf x3 7
  have y8 : w3.cell? ⟨w.heap.size, 8, none⟩ = some (.int .i64 xb) := cellOf x3 8
  have y9 : w3.cell? ⟨w.heap.size, 9, none⟩ = some (yv) := cellOf x3 9
  have y10 : w3.cell? ⟨w.heap.size, 10, none⟩ = some (.int .i64 yt) := cellOf x3 10
  have y11 : w3.cell? ⟨w.heap.size, 11, none⟩ = some (.int .i64 yb) := cellOf x3 11
  have hx3 : LLoss.ok ⟨xv, xk, xt, xb⟩ (RF p) w3 := ⟨(HXX.out.kp k3f).1.less fun _ _ e => .inl e, HXX.out.2⟩
  have hy3 : LLoss.ok ⟨yv, yk, yt, yb⟩ (RF p) w3 := ⟨(HYY.out.kp k3f).1.less fun _ _ e => .inl e, HYY.out.2⟩
  have HC2 : Hid (Calls Try.prog 32 #[.pointer (some ⟨p.b, 0, none⟩), .agg #[xv, .int .i64 xt, .int .i64 xb], .agg #[yv, .int .i64 yt, .int .i64 yb]] w3 fun e w' => e = .returned (.int .i64 0) ∧ (∃ σ', RigR (RFr q) w' p σ' ∧ CrashR σ σ') ∧ Kp (RF p) w3 w') := Lib.hid (rcrash_ok ⟨xv, xk, xt, xb⟩ ⟨yv, yk, yt, yb⟩ w3 HP3.out.1 HP3.out.2.2.1 hx3 hy3)
  have HCC := Lib.hid hcc3
  clear h3 hw3 k3 k3f x3 hx3 hy3 hcc3 HC HP HK HX HW
  go_wp2_with fail
  refine HC2.out.mono ?_
  rintro e w4 ⟨rfl, ⟨σ4, h4, hcr⟩, k4⟩
  have hwc := wf_crash hcr HP3.out.2.2.1
  have HP4 := Lib.hid (HP3.out.rig h4 hwc.1 k4)
  have K4 := Lib.hid (K3.out.trans' (k4.f1 (q := q)))
  have HWC := Lib.hid hwc
  clear h4 hcr k4 hwc HC2 y0 y1 y2 y3 y4 y5 y6 y7 y8 y9 y10 y11
  go_wp2
  go_ret
  exact ⟨_, _, _, rfl, HP4.out, HWC.out.2.1, by rw [HWC.out.2.2]; exact Nat.le_succ _, by rw [HCC.out]; exact Nat.le_succ _, K4.out⟩
theorem do_any (a : LAct) (h : Pr w p q σ τ) (h7 : a.kd ≠ 7) (hs : a.s.size < 300) (ha : a.ok (FF p q) w) (hc : σ.calls ≤ 1000000000) (hc2 : τ.calls ≤ 1000000000) :
    Calls Try.prog 30 #[.pointer (some ⟨p.b, 0, none⟩), .pointer (some ⟨q.b, 0, none⟩), a.val] w (DoP w p q σ τ) := by
  by_cases c0 : a.kd = 0
  · exact do_k0 a h c0 hs ha hc hc2
  by_cases c1 : a.kd = 1
  · exact do_k1 a h c1 hs ha hc hc2
  by_cases c2 : a.kd = 2
  · exact do_k2 a h c2 hs ha hc hc2
  by_cases c5 : a.kd = 5
  · exact do_k5 a h c5 hs ha hc hc2
  by_cases c6 : a.kd = 6
  · exact do_k6 a h c6 hs ha hc hc2
  by_cases c8 : a.kd = 8
  · exact do_k8 a h c8 hs ha hc hc2
  by_cases c9 : a.kd = 9
  · exact do_k9 a h c9 hs ha hc hc2
  by_cases c10 : a.kd = 10
  · exact do_k10 a h c10 hs ha hc hc2
  by_cases c11 : a.kd = 11
  · exact do_k11 a h c11 hs ha hc hc2
  by_cases c12 : a.kd = 12
  · exact do_k12 a h c12 hs ha hc hc2
  exact do_oth a h ⟨⟨c0, c1, c2, c5, c6, h7, c8⟩, c9, c10, c11, c12⟩ hs ha hc hc2
end
end Go.Proofs.Ytocpppegmepolaa
