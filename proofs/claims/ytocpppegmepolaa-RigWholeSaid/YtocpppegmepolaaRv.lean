/- layer 12's law: a change that is to come, of both rigs. -/
import Derived.Test.YtocpppegmepolaaRu
set_option linter.unusedVariables false
set_option linter.unusedSimpArgs false
namespace Go.Proofs.Ytocpppegmepolaa
open Go.RowKit
attribute [local go_sem ↓] Go.wp_at_zero Go.wp_at_succ
section
variable {w w' : World} {p q : Spots} {σ τ : RigS}

set_option maxRecDepth 100000 in
set_option maxHeartbeats 4000000 in
theorem comes9_any (a : LAct) (h : Pr w p q σ τ) (hk : a.kd = 9) (hs : a.s.size < 300) :
    Calls Try.prog 124 #[.pointer (some ⟨p.b, 0, none⟩), .pointer (some ⟨q.b, 0, none⟩), a.val] w (DoP w p q σ τ) := by
  have hlt := h.lt
  have ht := fun W => text_64 a W hs
  have htl := tx_le hs (show 64 ≤ 300 by omega)
  have hb := fun W => block12_any a (tx a 64) W (by omega)
  obtain ⟨t, htt⟩ : ∃ t, t = tx a 64 := ⟨_, rfl⟩
  rw [← htt] at htl hb
  simp only [← htt] at ht
  obtain ⟨kd, d, i, m, s, raw, ⟨xv, xk, xt, xb⟩, ⟨yv, yk, yt, yb⟩⟩ := a
  obtain rfl : kd = 9 := hk
  show Calls Try.prog 124 #[.pointer (some ⟨p.b, 0, none⟩), .pointer (some ⟨q.b, 0, none⟩), .agg #[.int .i64 9, .int .i64 d, .int .i64 i, .int .i64 m, .string s, .bool raw, xv, .int .i64 xt, .int .i64 xb, yv, .int .i64 yt, .int .i64 yb]] w _
  obtain ⟨W, hW⟩ : ∃ W, W = w.alloc (.cells #[.int .i64 9, .int .i64 d, .int .i64 i, .int .i64 m, .string s, .bool raw, xv, .int .i64 xt, .int .i64 xb, yv, .int .i64 yt, .int .i64 yb] 34) := ⟨_, rfl⟩
  have hbx : W.heap[w.heap.size]? = some (.cells #[.int .i64 9, .int .i64 d, .int .i64 i, .int .i64 m, .string s, .bool raw, xv, .int .i64 xt, .int .i64 xb, yv, .int .i64 yt, .int .i64 yb] 34 (0, 0)) := by rw [hW]; exact heap_new w _
  have hkW : Kp No w W := by rw [hW]; exact (Kp.refl _ _).alloc _
  have HP := Lib.hid (h.no hkW)
  have nH : ¬ FF p q w.heap.size := fun x => by have := hlt _ x; omega
  have NH := Lib.hid nH
  have HK := Lib.hid hkW
  have HX := Lib.hid hbx
  have HW := Lib.hid hW
  have HT : Hid (∀ W', Calls Try.prog 28 #[.agg #[.int .i64 9, .int .i64 d, .int .i64 i, .int .i64 m, .string s, .bool raw, xv, .int .i64 xt, .int .i64 xb, yv, .int .i64 yt, .int .i64 yb], .int .i64 64] W' fun e w' => e = .returned (.string t) ∧ Kp No W' w') := Lib.hid ht
  have HB : Hid (∀ W', Calls Try.prog 122 #[.agg #[.int .i64 9, .int .i64 d, .int .i64 i, .int .i64 m, .string s, .bool raw, xv, .int .i64 xt, .int .i64 xb, yv, .int .i64 yt, .int .i64 yb], .string t] W' fun e w' => e = .returned (.int .i64 (rbad d i t.size)) ∧ Kp No W' w') := Lib.hid hb
  clear ht hb htt
  have HP0 := Lib.hid h
  clear h hlt nH hbx hkW hW
  cases hr : rgt m
  · have hbd : m < 1 ∨ 1099511627776 < m := by
      have : ¬ (1 ≤ m ∧ m ≤ 1099511627776) := of_decide_eq_false hr
      omega
    have e1 : rlat m d i t.size = 2 := by unfold rlat; rw [hr]; rfl
    have E1 := Lib.hid e1
    clear hr e1
    have hz : ∃ u v : Bool, decide ((1 : Int) ≤ m) = u ∧ decide (m ≤ (1099511627776 : Int)) = v ∧ (u && v) = false := ⟨_, _, rfl, rfl, by simp; omega⟩
    rcases hbd with hb1 | hb1
    case' inl => have z1 : decide ((1 : Int) ≤ m) = false := by simp; omega
    case' inr => have z1 : decide ((1 : Int) ≤ m) = true := by simp; omega
    case' inr => have z2 : decide (m ≤ (1099511627776 : Int)) = false := by simp; omega
    all_goals
      clear hz
      go_enter Try.func124, Try.ntmps124
      go_wp2_with fail
      rw [← HW.out]
      refine (HT.out _).mono ?_
      rintro e w2 ⟨rfl, k2⟩
      have x2 := k2.heap HX.out id
      have y0 : w2.cell? ⟨w.heap.size, 0, none⟩ = some (.int .i64 9) := cellOf x2 0
      have y1 : w2.cell? ⟨w.heap.size, 1, none⟩ = some (.int .i64 d) := cellOf x2 1
      have y2 : w2.cell? ⟨w.heap.size, 2, none⟩ = some (.int .i64 i) := cellOf x2 2
      have y3 : w2.cell? ⟨w.heap.size, 3, none⟩ = some (.int .i64 m) := cellOf x2 3
      have y4 : w2.cell? ⟨w.heap.size, 4, none⟩ = some (.string s) := cellOf x2 4
      have y5 : w2.cell? ⟨w.heap.size, 5, none⟩ = some (.bool raw) := cellOf x2 5
      have y6 : w2.cell? ⟨w.heap.size, 6, none⟩ = some (xv) := cellOf x2 6
      have y7 : w2.cell? ⟨w.heap.size, 7, none⟩ = some (.int .i64 xt) := cellOf x2 7
      have y8 : w2.cell? ⟨w.heap.size, 8, none⟩ = some (.int .i64 xb) := cellOf x2 8
      have y9 : w2.cell? ⟨w.heap.size, 9, none⟩ = some (yv) := cellOf x2 9
      have y10 : w2.cell? ⟨w.heap.size, 10, none⟩ = some (.int .i64 yt) := cellOf x2 10
      have y11 : w2.cell? ⟨w.heap.size, 11, none⟩ = some (.int .i64 yb) := cellOf x2 11
      have HP2 := Lib.hid (HP.out.no k2)
      have K2 := Lib.hid (HK.out.trans' k2)
      clear x2 k2 HP HK HX HW
      go_wp2_with fail
      refine (rlater_bad p.b m d i t w2 (by rw [E1.out]; decide) (by omega)).mono ?_
      rintro e w3 ⟨rfl, rfl⟩
      rw [E1.out]
      clear y0 y1 y2 y3 y4 y5 y6 y7 y8 y9 y10 y11
      go_wp2
      go_ret
      exact ⟨_, _, _, rfl, HP2.out, rfl, Nat.le_succ _, Nat.le_succ _, K2.out.no⟩
  · have hbd : 1 ≤ m ∧ m ≤ 1099511627776 := of_decide_eq_true hr
    obtain ⟨hb1, hb2⟩ := hbd
    obtain ⟨n, rfl⟩ := Int.eq_ofNat_of_zero_le (show 0 ≤ m by omega)
    have z1 : decide ((1 : Int) ≤ (n : Int)) = true := by simp; omega
    have z2 : decide ((n : Int) ≤ (1099511627776 : Int)) = true := by simp; omega
    have e1 : rlat n d i t.size = rbad d i t.size := by unfold rlat; rw [hr]; rfl
    have E1 := Lib.hid e1
    have HR := Lib.hid hr
    clear hr e1
    by_cases hbz : rbad d i t.size = 0
    · obtain ⟨hm, h64⟩ := rbad_zero hbz
      obtain ⟨d', i', rfl, rfl, hd', hi'⟩ := rmay_nat hm
      have HBZ := Lib.hid hbz
      have H64 := Lib.hid h64
      clear hbz hm h64
      go_enter Try.func124, Try.ntmps124
      go_wp2_with fail
      rw [← HW.out]
      refine (HT.out _).mono ?_
      rintro e w2 ⟨rfl, k2⟩
      have x2 := k2.heap HX.out id
      have y0 : w2.cell? ⟨w.heap.size, 0, none⟩ = some (.int .i64 9) := cellOf x2 0
      have y1 : w2.cell? ⟨w.heap.size, 1, none⟩ = some (.int .i64 d') := cellOf x2 1
      have y2 : w2.cell? ⟨w.heap.size, 2, none⟩ = some (.int .i64 i') := cellOf x2 2
      have y3 : w2.cell? ⟨w.heap.size, 3, none⟩ = some (.int .i64 n) := cellOf x2 3
      have y4 : w2.cell? ⟨w.heap.size, 4, none⟩ = some (.string s) := cellOf x2 4
      have y5 : w2.cell? ⟨w.heap.size, 5, none⟩ = some (.bool raw) := cellOf x2 5
      have y6 : w2.cell? ⟨w.heap.size, 6, none⟩ = some (xv) := cellOf x2 6
      have y7 : w2.cell? ⟨w.heap.size, 7, none⟩ = some (.int .i64 xt) := cellOf x2 7
      have y8 : w2.cell? ⟨w.heap.size, 8, none⟩ = some (.int .i64 xb) := cellOf x2 8
      have y9 : w2.cell? ⟨w.heap.size, 9, none⟩ = some (yv) := cellOf x2 9
      have y10 : w2.cell? ⟨w.heap.size, 10, none⟩ = some (.int .i64 yt) := cellOf x2 10
      have y11 : w2.cell? ⟨w.heap.size, 11, none⟩ = some (.int .i64 yb) := cellOf x2 11
      have HP2 := Lib.hid (HP.out.no k2)
      have K2 := Lib.hid (HK.out.trans' k2)
      have X2 := Lib.hid x2
      clear x2 k2 HP HK HX HW
      go_wp2_with fail
      refine (HB.out _).mono ?_
      rintro e w4 ⟨rfl, k4⟩
      rw [HBZ.out]
      have x4 := k4.heap X2.out id
      clear y0 y1 y2 y3 y4 y5 y6 y7 y8 y9 y10 y11
      have z0 : w4.cell? ⟨w.heap.size, 0, none⟩ = some (.int .i64 9) := cellOf x4 0
      have z1 : w4.cell? ⟨w.heap.size, 1, none⟩ = some (.int .i64 d') := cellOf x4 1
      have z2 : w4.cell? ⟨w.heap.size, 2, none⟩ = some (.int .i64 i') := cellOf x4 2
      have z3 : w4.cell? ⟨w.heap.size, 3, none⟩ = some (.int .i64 n) := cellOf x4 3
      have z4 : w4.cell? ⟨w.heap.size, 4, none⟩ = some (.string s) := cellOf x4 4
      have z5 : w4.cell? ⟨w.heap.size, 5, none⟩ = some (.bool raw) := cellOf x4 5
      have z6 : w4.cell? ⟨w.heap.size, 6, none⟩ = some (xv) := cellOf x4 6
      have z7 : w4.cell? ⟨w.heap.size, 7, none⟩ = some (.int .i64 xt) := cellOf x4 7
      have z8 : w4.cell? ⟨w.heap.size, 8, none⟩ = some (.int .i64 xb) := cellOf x4 8
      have z9 : w4.cell? ⟨w.heap.size, 9, none⟩ = some (yv) := cellOf x4 9
      have z10 : w4.cell? ⟨w.heap.size, 10, none⟩ = some (.int .i64 yt) := cellOf x4 10
      have z11 : w4.cell? ⟨w.heap.size, 11, none⟩ = some (.int .i64 yb) := cellOf x4 11
      have HP4 := Lib.hid (HP2.out.no k4)
      have K4 := Lib.hid (K2.out.trans' k4)
      have q5 : w4.cell? ⟨q.b, 5, none⟩ = some (.int .i64 τ.later) := HP4.out.2.1.cl 5
      have q8 : w4.cell? ⟨q.b, 8, none⟩ = some (.int .i64 τ.td) := HP4.out.2.1.cl 8
      have q9 : w4.cell? ⟨q.b, 9, none⟩ = some (.int .i64 τ.ti) := HP4.out.2.1.cl 9
      have q10 : w4.cell? ⟨q.b, 10, none⟩ = some (.string τ.ts) := HP4.out.2.1.cl 10
      have f5 := HP4.out.2.1.fr 5
      have f8 := HP4.out.2.1.fr 8
      have f9 := HP4.out.2.1.fr 9
      have f10 := HP4.out.2.1.fr 10
      have hqH : q.b ≠ w.heap.size := fun e => NH.out (by rw [← e]; exact .inr (.inl rfl))
      have hqH' := hqH.symm
      clear x4 k4 HP2 K2 X2
      go_wp2_with fail
      have hq4 := (((HP4.out.2.1.put 5 (.int .i64 n) { τ with later := n } rfl).put 8 (.int .i64 d') { τ with later := n, td := d' } rfl).put 9 (.int .i64 i') { τ with later := n, td := d', ti := i' } rfl).put 10 (.string t) { τ with later := n, td := d', ti := i', ts := t } rfl
      have kq4 : Kp (RFr q) w4 _ := Kp.rr (((((Kp.refl _ w4).setAt (b := q.b) 5 (.int .i64 n)).setAt 8 (.int .i64 d')).setAt 9 (.int .i64 i')).setAt 10 (.string t))
      have hpr := HP4.out.ref hq4 ⟨hd', hi', fun _ => H64.out, by show n ≤ _; omega, HP4.out.2.2.2.2.2.2.2.1, HP4.out.2.2.2.2.2.2.2.2⟩ kq4
      have HPR := Lib.hid hpr
      have KPR := Lib.hid (K4.out.no.trans' (kq4.f2 (p := p)))
      clear hq4 kq4 hpr q5 q8 q9 q10 f5 f8 f9 f10 z0 z1 z2 z3 z4 z5 z6 z7 z8 z9 z10 z11
      refine (rlater_ok n d' i' t _ HPR.out.1 HR.out hd' hi' H64.out).mono ?_
      rintro e w5 ⟨rfl, h5, k5⟩
      have hw5 := HPR.out.2.2.1
      have HP5 := Lib.hid (HPR.out.rig h5 ⟨hw5.1, hw5.2.1, hd', hi', fun _ => H64.out, by show n ≤ _; omega, hw5.2.2.2.2.2.2.1, hw5.2.2.2.2.2.2.2⟩ k5)
      have K5 := Lib.hid (KPR.out.trans' (k5.f1 (q := q)))
      clear h5 k5 hw5 HPR KPR HP4 K4
      go_wp2
      go_ret
      exact ⟨_, _, _, rfl, HP5.out, rfl, Nat.le_succ _, Nat.le_succ _, K5.out⟩
    · have zb : (rbad d i t.size == 0) = false := by rw [beq_eq_false_iff_ne]; exact hbz
      have HBZ := Lib.hid hbz
      clear hbz
      go_enter Try.func124, Try.ntmps124
      go_wp2_with fail
      rw [← HW.out]
      refine (HT.out _).mono ?_
      rintro e w2 ⟨rfl, k2⟩
      have x2 := k2.heap HX.out id
      have y0 : w2.cell? ⟨w.heap.size, 0, none⟩ = some (.int .i64 9) := cellOf x2 0
      have y1 : w2.cell? ⟨w.heap.size, 1, none⟩ = some (.int .i64 d) := cellOf x2 1
      have y2 : w2.cell? ⟨w.heap.size, 2, none⟩ = some (.int .i64 i) := cellOf x2 2
      have y3 : w2.cell? ⟨w.heap.size, 3, none⟩ = some (.int .i64 n) := cellOf x2 3
      have y4 : w2.cell? ⟨w.heap.size, 4, none⟩ = some (.string s) := cellOf x2 4
      have y5 : w2.cell? ⟨w.heap.size, 5, none⟩ = some (.bool raw) := cellOf x2 5
      have y6 : w2.cell? ⟨w.heap.size, 6, none⟩ = some (xv) := cellOf x2 6
      have y7 : w2.cell? ⟨w.heap.size, 7, none⟩ = some (.int .i64 xt) := cellOf x2 7
      have y8 : w2.cell? ⟨w.heap.size, 8, none⟩ = some (.int .i64 xb) := cellOf x2 8
      have y9 : w2.cell? ⟨w.heap.size, 9, none⟩ = some (yv) := cellOf x2 9
      have y10 : w2.cell? ⟨w.heap.size, 10, none⟩ = some (.int .i64 yt) := cellOf x2 10
      have y11 : w2.cell? ⟨w.heap.size, 11, none⟩ = some (.int .i64 yb) := cellOf x2 11
      have HP2 := Lib.hid (HP.out.no k2)
      have K2 := Lib.hid (HK.out.trans' k2)
      have X2 := Lib.hid x2
      clear x2 k2 HP HK HX HW
      go_wp2_with fail
      refine (HB.out _).mono ?_
      rintro e w4 ⟨rfl, k4⟩
      have x4 := k4.heap X2.out id
      clear y0 y1 y2 y3 y4 y5 y6 y7 y8 y9 y10 y11
      have z0 : w4.cell? ⟨w.heap.size, 0, none⟩ = some (.int .i64 9) := cellOf x4 0
      have z1 : w4.cell? ⟨w.heap.size, 1, none⟩ = some (.int .i64 d) := cellOf x4 1
      have z2 : w4.cell? ⟨w.heap.size, 2, none⟩ = some (.int .i64 i) := cellOf x4 2
      have z3 : w4.cell? ⟨w.heap.size, 3, none⟩ = some (.int .i64 n) := cellOf x4 3
      have z4 : w4.cell? ⟨w.heap.size, 4, none⟩ = some (.string s) := cellOf x4 4
      have z5 : w4.cell? ⟨w.heap.size, 5, none⟩ = some (.bool raw) := cellOf x4 5
      have z6 : w4.cell? ⟨w.heap.size, 6, none⟩ = some (xv) := cellOf x4 6
      have z7 : w4.cell? ⟨w.heap.size, 7, none⟩ = some (.int .i64 xt) := cellOf x4 7
      have z8 : w4.cell? ⟨w.heap.size, 8, none⟩ = some (.int .i64 xb) := cellOf x4 8
      have z9 : w4.cell? ⟨w.heap.size, 9, none⟩ = some (yv) := cellOf x4 9
      have z10 : w4.cell? ⟨w.heap.size, 10, none⟩ = some (.int .i64 yt) := cellOf x4 10
      have z11 : w4.cell? ⟨w.heap.size, 11, none⟩ = some (.int .i64 yb) := cellOf x4 11
      have HP4 := Lib.hid (HP2.out.no k4)
      have K4 := Lib.hid (K2.out.trans' k4)
      clear x4 k4 HP2 K2 X2
      go_wp2_with fail
      refine (rlater_bad p.b n d i t w4 (by rw [E1.out]; exact HBZ.out) (by omega)).mono ?_
      rintro e w3 ⟨rfl, rfl⟩
      rw [E1.out]
      clear z0 z1 z2 z3 z4 z5 z6 z7 z8 z9 z10 z11
      go_wp2
      go_ret
      exact ⟨_, _, _, rfl, HP4.out, rfl, Nat.le_succ _, Nat.le_succ _, K4.out.no⟩
end
end Go.Proofs.Ytocpppegmepolaa
