/- layer 12's law: one call of both rigs. -/
import Derived.Test.YtocpppegmepolaaRs
set_option linter.unusedVariables false
set_option linter.unusedSimpArgs false
namespace Go.Proofs.Ytocpppegmepolaa
open Go.RowKit
attribute [local go_sem ↓] Go.wp_at_zero Go.wp_at_succ

/-- Both rigs, apart from one another. -/
def Pr (w : World) (p q : Spots) (σ τ : RigS) : Prop := RigR (RFr q) w p σ ∧ RR (RF p) w q τ ∧ σ.wf ∧ τ.rwf
def FF (p q : Spots) (k : Nat) : Prop := RF p k ∨ RFr q k
/-- What a call of both leaves. -/
def DoP (w : World) (p q : Spots) (σ τ : RigS) (e : Ending) (w' : World) : Prop :=
  ∃ b σ' τ', e = .returned (.bool b) ∧ Pr w' p q σ' τ' ∧ σ'.reg = σ.reg ∧ σ'.calls ≤ σ.calls + 1 ∧ τ'.calls ≤ τ.calls + 1 ∧ Kp (FF p q) w w'
section
variable {w w' : World} {p q : Spots} {σ τ : RigS}
theorem Pr.no (h : Pr w p q σ τ) (hk : Kp No w w') : Pr w' p q σ τ := ⟨h.1.no hk, h.2.1.no hk, h.2.2⟩
theorem Pr.rig {σ' : RigS} (h : Pr w p q σ τ) (h' : RigR (RFr q) w' p σ') (hw : σ'.wf) (hk : Kp (RF p) w w') : Pr w' p q σ' τ := ⟨h', h.2.1.kp hk fun _ x => x, hw, h.2.2.2⟩
theorem Pr.ref {τ' : RigS} (h : Pr w p q σ τ) (h' : RR (RF p) w' q τ') (hw : τ'.rwf) (hk : Kp (RFr q) w w') : Pr w' p q σ τ' := ⟨h.1.kp hk fun _ x => x, h', h.2.2.1, hw⟩
theorem Pr.up (h : Pr w p q σ τ) : Up (RF p) w := fun k hk => (h.1.fp k hk).2
theorem Pr.lt (h : Pr w p q σ τ) : ∀ k, FF p q k → k < w.heap.size := fun k hk => by rcases hk with hk | hk; exact (h.1.fp k hk).2; exact (h.2.1.lt k hk).1
theorem Kp.f1 (h : Kp (RF p) w w') : Kp (FF p q) w w' := h.mono fun _ _ x => .inl x
theorem Kp.f2 (h : Kp (RFr q) w w') : Kp (FF p q) w w' := h.mono fun _ _ x => .inr x
theorem RR.ptr {S : Nat → Prop} (h : RR S w q τ) {d : Nat} (hd : d < 2) : w.cell? ⟨q.b, d, none⟩ = some (.pointer (some ⟨q.db d, 0, none⟩)) := by
  rcases (by omega : d = 0 ∨ d = 1) with rfl | rfl
  · exact h.cl 0
  · exact h.cl 1
/-- A device of the reference, by its number. -/
theorem RR.devd {S : Nat → Prop} (h : RR S w q τ) (hS : Up S w) (d : Nat) : ∃ S', RD S' w (q.db d) ∧ Up S' w ∧ q.b ≠ q.db d ∧ RFr q (q.db d) ∧ ∀ w', RD S' w' (q.db d) → Kp (fun k => k = q.db d) w w' → RR S w' q τ := by
  unfold Spots.db
  split
  · exact ⟨_, h.2.2.1, h.up0 hS, fun e => h.ne.1 e.symm, .inr (.inl rfl), fun w' h1 h2 => h.dev0 h1 h2⟩
  · exact ⟨_, h.2.2.2.1, h.up1 hS, fun e => h.ne.2.1 e.symm, .inr (.inr rfl), fun w' h1 h2 => h.dev1 h1 h2⟩
theorem rmay_nat {d i : Int} (h : rmay d i = 0) : ∃ d' i' : Nat, d = d' ∧ i = i' ∧ d' < 2 ∧ i' < 288 := by
  have := rmay_zero h
  exact ⟨d.toNat, i.toNat, by omega, by omega, by omega, by omega⟩
theorem rbad_zero {d i : Int} {n : Nat} (h : rbad d i n = 0) : rmay d i = 0 ∧ n = 64 := by
  unfold rbad at h
  split at h
  · split at h
    · exact ⟨by assumption, by assumption⟩
    · cases h
  · contradiction

set_option maxRecDepth 100000 in
set_option maxHeartbeats 4000000 in
theorem writes_any (a : LAct) (h : Pr w p q σ τ) (hs : a.s.size < 300) (hc : σ.calls ≤ 1000000000) (hc2 : τ.calls ≤ 1000000000) :
    Calls Try.prog 118 #[.pointer (some ⟨p.b, 0, none⟩), .pointer (some ⟨q.b, 0, none⟩), a.val] w (DoP w p q σ τ) := by
  have ht := text_64 a (w.alloc a.box) hs
  have htl := tx_le hs (show 64 ≤ 300 by omega)
  have hb := fun W => block12_any a (tx a 64) W (by omega)
  obtain ⟨t, htt⟩ : ∃ t, t = tx a 64 := ⟨_, rfl⟩
  rw [← htt] at ht htl hb
  have hlt := h.lt
  obtain ⟨kd, d, i, m, s, raw, ⟨xv, xk, xt, xb⟩, ⟨yv, yk, yt, yb⟩⟩ := a
  show Calls Try.prog 118 #[.pointer (some ⟨p.b, 0, none⟩), .pointer (some ⟨q.b, 0, none⟩), .agg #[.int .i64 kd, .int .i64 d, .int .i64 i, .int .i64 m, .string s, .bool raw, xv, .int .i64 xt, .int .i64 xb, yv, .int .i64 yt, .int .i64 yb]] w _
  obtain ⟨W, hW⟩ : ∃ W, W = w.alloc (.cells #[.int .i64 kd, .int .i64 d, .int .i64 i, .int .i64 m, .string s, .bool raw, xv, .int .i64 xt, .int .i64 xb, yv, .int .i64 yt, .int .i64 yb] 34) := ⟨_, rfl⟩
  have ht' : Calls Try.prog 28 #[.agg #[.int .i64 kd, .int .i64 d, .int .i64 i, .int .i64 m, .string s, .bool raw, xv, .int .i64 xt, .int .i64 xb, yv, .int .i64 yt, .int .i64 yb], .int .i64 64] W fun e w' => e = .returned (.string t) ∧ Kp No W w' := by rw [hW]; exact ht
  have HB : Hid (∀ W', Calls Try.prog 122 #[.agg #[.int .i64 kd, .int .i64 d, .int .i64 i, .int .i64 m, .string s, .bool raw, xv, .int .i64 xt, .int .i64 xb, yv, .int .i64 yt, .int .i64 yb], .string t] W' fun e w' => e = .returned (.int .i64 (rbad d i t.size)) ∧ Kp No W' w') := Lib.hid hb
  have hbx : W.heap[w.heap.size]? = some (.cells #[.int .i64 kd, .int .i64 d, .int .i64 i, .int .i64 m, .string s, .bool raw, xv, .int .i64 xt, .int .i64 xb, yv, .int .i64 yt, .int .i64 yb] 34 (0, 0)) := by rw [hW]; exact heap_new w _
  have hkW : Kp No w W := by rw [hW]; exact (Kp.refl _ _).alloc _
  have HT := Lib.hid ht'
  have HW := Lib.hid hW
  have HX := Lib.hid hbx
  have HK := Lib.hid hkW
  have HP := Lib.hid (h.no hkW)
  have nH : ¬ FF p q w.heap.size := fun x => by have := hlt _ x; omega
  have NH := Lib.hid nH
  clear ht ht' hb hW hbx hkW h hlt htt nH
  go_enter Try.func118, Try.ntmps118
  go_wp2_with fail
  rw [← HW.out]
  refine HT.out.mono ?_
  rintro e w2 ⟨rfl, k2⟩
  have x2 := k2.heap HX.out id
  have d2 : w2.cell? ⟨w.heap.size, 1, none⟩ = some (.int .i64 d) := cellOf x2 1
  have i2 : w2.cell? ⟨w.heap.size, 2, none⟩ = some (.int .i64 i) := cellOf x2 2
  have HP2 := Lib.hid (HP.out.no k2)
  have K2 := Lib.hid (HK.out.trans' k2)
  have X2 := Lib.hid x2
  clear k2 x2 HP HK HX HT HW
  by_cases hr : rbad d i t.size = 0
  · obtain ⟨hm, h64⟩ := rbad_zero hr
    obtain ⟨d', i', rfl, rfl, hd', hi'⟩ := rmay_nat hm
    go_wp2_with fail
    refine (rwrite_ok d' i' t w2 HP2.out.1 HP2.out.2.2.1 hc hd' hi' h64).mono ?_
    rintro e w3 ⟨rfl, h3, k3⟩
    have HP3 := Lib.hid (HP2.out.rig h3 (wf_wrote HP2.out.2.2.1 hi' h64) k3)
    have x3 := (k3.f1 (q := q)).heap X2.out NH.out
    have K3 := Lib.hid (K2.out.no.trans' (k3.f1 (q := q)))
    have v3 : w3.cell? ⟨w.heap.size, 0, none⟩ = some (.int .i64 kd) := cellOf x3 0
    have X3 := Lib.hid x3
    have y1 := cellOf x3 1
    have y2 := cellOf x3 2
    have y3 := cellOf x3 3
    have y4 := cellOf x3 4
    have y5 := cellOf x3 5
    have y6 := cellOf x3 6
    have y7 := cellOf x3 7
    have y8 := cellOf x3 8
    have y9 := cellOf x3 9
    have y10 := cellOf x3 10
    have y11 := cellOf x3 11
    have HR := Lib.hid hr
    clear h3 k3 x3 HP2 K2 X2 d2 i2 hr hm
    go_wp2_with fail
    refine (HB.out _).mono ?_
    rintro e w4 ⟨rfl, k4⟩
    rw [HR.out]
    have HP4 := Lib.hid (HP3.out.no k4)
    have K4 := Lib.hid (K3.out.transNo k4)
    have X4 := Lib.hid (k4.heap X3.out id)
    clear k4 HP3 K3 X3 v3 y1 y2 y3 y4 y5 y6 y7 y8 y9 y10 y11
    go_wp2_with fail
    refine (rstep_any HP4.out.2.1 HP4.out.2.2.2 hc2 HP4.out.up).mono ?_
    rintro e w5 ⟨n, τ5, rfl, h5, hw5, hcc5, k5⟩
    have HP5 := Lib.hid (HP4.out.ref h5 hw5 k5)
    have K5 := Lib.hid (K4.out.trans' (k5.f2 (p := p)))
    have x5 := (k5.f2 (p := p)).heap X4.out NH.out
    have d5 : w5.cell? ⟨w.heap.size, 1, none⟩ = some (.int .i64 d') := cellOf x5 1
    have i5 : w5.cell? ⟨w.heap.size, 2, none⟩ = some (.int .i64 i') := cellOf x5 2
    have HCC := Lib.hid hcc5
    clear h5 hw5 k5 HP4 K4 X4 x5 hcc5
    by_cases hn : n = 0
    · subst hn
      have cp := HP5.out.2.1.ptr hd'
      obtain ⟨S', hrd, hup, hnq, hfq, hback⟩ := HP5.out.2.1.devd HP5.out.up d'
      obtain ⟨b0, hb0⟩ : ∃ b0, b0 = q.db d' := ⟨_, rfl⟩
      rw [← hb0] at cp hrd hnq hfq hback
      have HWr := Lib.hid (rdwrite_any (w := w5.drew) i' t (hrd.no (Kp.dr _)) hi' h64 hup)
      have HBK := Lib.hid hback
      have i0 : (0 : Int) ≤ (d' : Int) := by omega
      have i1 : (d' : Int) < 2 := by omega
      have hHq : ¬ (w.heap.size = b0) := fun e => NH.out (by rw [e]; exact .inr hfq)
      have HF := Lib.hid hfq
      clear hb0 hrd hup hback hfq
      go_wp2_with fail
      go_region_held3 (fun w' => w'.cell? ⟨q.b, d', none⟩ = some (.pointer (some ⟨b0, 0, none⟩)) ∧ w'.cell? ⟨w.heap.size, 1, none⟩ = some (.int .i64 d') ∧ w'.cell? ⟨w.heap.size, 2, none⟩ = some (.int .i64 i')) (go_keep)
        ((go_at_call 178; refine HWr.out.mono ?_; rintro e w6 ⟨rfl, hd6, k6⟩; have e0 := k6.cell (a := ⟨q.b, d', none⟩) cp hnq; have e1 := k6.cell (a := ⟨w.heap.size, 1, none⟩) d5 hHq; have e2 := k6.cell (a := ⟨w.heap.size, 2, none⟩) i5 hHq))
      have kk := (Kp.dr w5).no.trans' k6
      have HP6 := Lib.hid (HP5.out.ref (HBK.out _ hd6 kk) HP5.out.2.2.2 (kk.mono fun k _ e => e ▸ HF.out))
      have K6 := Lib.hid (K5.out.trans' ((kk.mono fun k _ e => e ▸ HF.out : Kp (RFr q) w5 w6).f2 (p := p)))
      clear kk hd6 k6 e0 e1 e2 HWr HBK
      go_wp2
      go_ret
      exact ⟨_, _, _, rfl, HP6.out, (wrote_reg σ d' i' t).1, (wrote_reg σ d' i' t).2, HCC.out, K6.out⟩
    · have hz : (n == 0) = false := by rw [beq_eq_false_iff_ne]; exact hn
      clear hn
      go_wp2
      go_ret
      exact ⟨_, _, _, rfl, HP5.out, (wrote_reg σ d' i' t).1, (wrote_reg σ d' i' t).2, HCC.out, K5.out⟩
  · have hz : (rbad d i t.size != 0) = true := by simpa using hr
    go_wp2_with fail
    refine (rwrite_bad p.b d i t w2 hr (by omega)).mono ?_
    rintro e w3 ⟨rfl, k3⟩
    have x3 := k3.heap X2.out id
    have y0 := cellOf x3 0
    have y1 := cellOf x3 1
    have y2 := cellOf x3 2
    have y3 := cellOf x3 3
    have y4 := cellOf x3 4
    have y5 := cellOf x3 5
    have y6 := cellOf x3 6
    have y7 := cellOf x3 7
    have y8 := cellOf x3 8
    have y9 := cellOf x3 9
    have y10 := cellOf x3 10
    have y11 := cellOf x3 11
    have HP3 := Lib.hid (HP2.out.no k3)
    have K3 := Lib.hid (K2.out.trans' k3)
    clear k3 x3 HP2 K2 X2 d2 i2 hr
    go_wp2_with fail
    refine (HB.out _).mono ?_
    rintro e w4 ⟨rfl, k4⟩
    have HP4 := Lib.hid (HP3.out.no k4)
    have K4 := Lib.hid (K3.out.trans' k4)
    clear k4 HP3 K3 y0 y1 y2 y3 y4 y5 y6 y7 y8 y9 y10 y11
    go_wp2
    go_ret
    exact ⟨_, _, _, rfl, HP4.out, rfl, Nat.le_succ _, Nat.le_succ _, K4.out.no⟩

set_option maxRecDepth 100000 in
set_option maxHeartbeats 4000000 in
theorem reads_any (a : LAct) (h : Pr w p q σ τ) (hc : σ.calls ≤ 1000000000) (hc2 : τ.calls ≤ 1000000000) :
    Calls Try.prog 126 #[.pointer (some ⟨p.b, 0, none⟩), .pointer (some ⟨q.b, 0, none⟩), a.val] w (DoP w p q σ τ) := by
  have hmy := fun W => may12_any a W
  have hlt := h.lt
  obtain ⟨kd, d, i, m, s, raw, ⟨xv, xk, xt, xb⟩, ⟨yv, yk, yt, yb⟩⟩ := a
  show Calls Try.prog 126 #[.pointer (some ⟨p.b, 0, none⟩), .pointer (some ⟨q.b, 0, none⟩), .agg #[.int .i64 kd, .int .i64 d, .int .i64 i, .int .i64 m, .string s, .bool raw, xv, .int .i64 xt, .int .i64 xb, yv, .int .i64 yt, .int .i64 yb]] w _
  have HM : Hid (∀ W', Calls Try.prog 180 #[.agg #[.int .i64 kd, .int .i64 d, .int .i64 i, .int .i64 m, .string s, .bool raw, xv, .int .i64 xt, .int .i64 xb, yv, .int .i64 yt, .int .i64 yb]] W' fun e w' => e = .returned (.int .i64 (rmay d i)) ∧ Kp No W' w') := Lib.hid hmy
  obtain ⟨W, hW⟩ : ∃ W, W = w.alloc (.cells #[.int .i64 kd, .int .i64 d, .int .i64 i, .int .i64 m, .string s, .bool raw, xv, .int .i64 xt, .int .i64 xb, yv, .int .i64 yt, .int .i64 yb] 34) := ⟨_, rfl⟩
  have hbx : W.heap[w.heap.size]? = some (.cells #[.int .i64 kd, .int .i64 d, .int .i64 i, .int .i64 m, .string s, .bool raw, xv, .int .i64 xt, .int .i64 xb, yv, .int .i64 yt, .int .i64 yb] 34 (0, 0)) := by rw [hW]; exact heap_new w _
  have hkW : Kp No w W := by rw [hW]; exact (Kp.refl _ _).alloc _
  have HP := Lib.hid (h.no hkW)
  have nH : ¬ FF p q w.heap.size := fun x => by have := hlt _ x; omega
  have NH := Lib.hid nH
  have HK := Lib.hid hkW
  have HX := Lib.hid hbx
  have d2 : W.cell? ⟨w.heap.size, 1, none⟩ = some (.int .i64 d) := cellOf hbx 1
  have i2 : W.cell? ⟨w.heap.size, 2, none⟩ = some (.int .i64 i) := cellOf hbx 2
  have HW := Lib.hid hW
  clear hmy h hlt nH hbx hkW hW
  by_cases hr : rmay d i = 0
  · obtain ⟨d', i', rfl, rfl, hd', hi'⟩ := rmay_nat hr
    have HR := Lib.hid hr
    clear hr
    go_enter Try.func126, Try.ntmps126
    go_wp2_with fail
    rw [← HW.out]
    refine (rread_ok d' i' W HP.out.1 HP.out.2.2.1 hc hd' hi').mono ?_
    rintro e w3 ⟨rfl, h3, k3⟩
    have HP3 := Lib.hid (HP.out.rig h3 (wf_step HP.out.2.2.1) k3)
    have x3 := (k3.f1 (q := q)).heap HX.out NH.out
    have K3 := Lib.hid (HK.out.no.trans' (k3.f1 (q := q)))
    have X3 := Lib.hid x3
    have y0 := cellOf x3 0
    have y1 := cellOf x3 1
    have y2 := cellOf x3 2
    have y3 := cellOf x3 3
    have y4 := cellOf x3 4
    have y5 := cellOf x3 5
    have y6 := cellOf x3 6
    have y7 := cellOf x3 7
    have y8 := cellOf x3 8
    have y9 := cellOf x3 9
    have y10 := cellOf x3 10
    have y11 := cellOf x3 11
    obtain ⟨b, hb⟩ : ∃ b, b = σ.rd d' i' := ⟨_, rfl⟩
    rw [← hb]
    clear h3 k3 x3 HP HK HX d2 i2 hb HW
    go_wp2_with fail
    refine (HM.out _).mono ?_
    rintro e w4 ⟨rfl, k4⟩
    rw [HR.out]
    have HP4 := Lib.hid (HP3.out.no k4)
    have K4 := Lib.hid (K3.out.transNo k4)
    have X4 := Lib.hid (k4.heap X3.out id)
    clear k4 HP3 K3 X3 y0 y1 y2 y3 y4 y5 y6 y7 y8 y9 y10 y11
    go_wp2_with fail
    refine (rstep_any HP4.out.2.1 HP4.out.2.2.2 hc2 HP4.out.up).mono ?_
    rintro e w5 ⟨n, τ5, rfl, h5, hw5, hcc5, k5⟩
    have HP5 := Lib.hid (HP4.out.ref h5 hw5 k5)
    have K5 := Lib.hid (K4.out.trans' (k5.f2 (p := p)))
    have x5 := (k5.f2 (p := p)).heap X4.out NH.out
    have d5 : w5.cell? ⟨w.heap.size, 1, none⟩ = some (.int .i64 d') := cellOf x5 1
    have i5 : w5.cell? ⟨w.heap.size, 2, none⟩ = some (.int .i64 i') := cellOf x5 2
    have HCC := Lib.hid hcc5
    clear h5 hw5 k5 HP4 K4 X4 x5 hcc5
    by_cases hn : n = 0
    · subst hn
      have cp := HP5.out.2.1.ptr hd'
      obtain ⟨S', ⟨vN, vS, vI, now, safe, is, r1, r2, r3, r4, r5, r6, r7, r8⟩, hup, hnq, hfq, hback⟩ := HP5.out.2.1.devd HP5.out.up d'
      obtain ⟨bb, oo, cc, uu, rfl, hll, hcl, hcu, hru, hbl⟩ := r2.el rfl (i := i') (by rw [r5.1]; exact hi')
      have r0 := cellOf r1 0
      have hu := KStr_R hru
      subst hu
      obtain ⟨b0, hb0⟩ : ∃ b0, b0 = q.db d' := ⟨_, rfl⟩
      obtain ⟨nn, hnn⟩ : ∃ nn, nn = now.length := ⟨_, rfl⟩
      have r0' : w5.cell? ⟨q.db d', 0, none⟩ = some (.slice (some ⟨bb, oo, none⟩) now.length cc) := r0
      have hin : i' < nn := by rw [hnn, r5.1]; exact hi'
      rw [← hb0] at cp r0'
      rw [← hnn] at r0' hll
      obtain ⟨x', hx'⟩ : ∃ x', x' = now[i']'(by rw [r5.1]; exact hi') := ⟨_, rfl⟩
      rw [← hx'] at hcu
      have i0 : (0 : Int) ≤ (d' : Int) := by omega
      have i1 : (d' : Int) < 2 := by omega
      have i3 : (0 : Int) ≤ (i' : Int) := by omega
      have i4 : (i' : Int) < (nn : Int) := by omega
      clear hb0 hup hback hfq r1 r2 r3 r4 r6 r7 r8 r0 hru hnn hx' hnq
      by_cases hE : σ.stepE = 0
      · have zE : (σ.stepE == 0) = true := by rw [beq_iff_eq]; exact hE
        clear hE
        go_wp2_with fail
        go_quiet (fail)
        all_goals
          go_wp2
          go_ret
          exact ⟨_, _, _, rfl, HP5.out.no (Kp.dq _ _), step_reg σ, step_calls σ, HCC.out, K5.out.drewN _⟩
      · have zE : (σ.stepE == 0) = false := by rw [beq_eq_false_iff_ne]; exact hE
        clear hE
        go_wp2_with fail
        go_quiet (fail)
        all_goals
          go_wp2
          go_ret
          exact ⟨_, _, _, rfl, HP5.out.no (Kp.dq _ _), step_reg σ, step_calls σ, HCC.out, K5.out.drewN _⟩
    · have hz : (n != 0) = true := by rw [bne_iff_ne]; exact hn
      clear hn
      go_wp2
      all_goals
        go_ret
        exact ⟨_, _, _, rfl, HP5.out, step_reg σ, step_calls σ, HCC.out, K5.out⟩
  · have hz : (rmay d i != 0) = true := by simpa using hr
    go_enter Try.func126, Try.ntmps126
    go_wp2_with fail
    rw [← HW.out]
    refine (rread_bad p.b d i W hr).mono ?_
    rintro e w3 ⟨rfl, k3⟩
    have x3 := k3.heap HX.out id
    have y0 := cellOf x3 0
    have y1 := cellOf x3 1
    have y2 := cellOf x3 2
    have y3 := cellOf x3 3
    have y4 := cellOf x3 4
    have y5 := cellOf x3 5
    have y6 := cellOf x3 6
    have y7 := cellOf x3 7
    have y8 := cellOf x3 8
    have y9 := cellOf x3 9
    have y10 := cellOf x3 10
    have y11 := cellOf x3 11
    have HP3 := Lib.hid (HP.out.no k3)
    have K3 := Lib.hid (HK.out.trans' k3)
    clear k3 x3 HP HK HX d2 i2 hr HW
    go_wp2_with fail
    refine (HM.out _).mono ?_
    rintro e w4 ⟨rfl, k4⟩
    have HP4 := Lib.hid (HP3.out.no k4)
    have K4 := Lib.hid (K3.out.trans' k4)
    clear k4 HP3 K3 y0 y1 y2 y3 y4 y5 y6 y7 y8 y9 y10 y11
    go_wp2
    all_goals
      go_ret
      exact ⟨_, _, _, rfl, HP4.out, rfl, Nat.le_succ _, Nat.le_succ _, K4.out.no⟩

set_option maxRecDepth 100000 in
set_option maxHeartbeats 4000000 in
theorem regs_any (a : LAct) (h : Pr w p q σ τ) (hk6 : a.kd = 6) (hc : σ.calls ≤ 1000000000) (hc2 : τ.calls ≤ 1000000000) :
    Calls Try.prog 121 #[.pointer (some ⟨p.b, 0, none⟩), .pointer (some ⟨q.b, 0, none⟩), a.val] w (DoP w p q σ τ) := by
  have hlt := h.lt
  obtain ⟨kd, d, i, m, s, raw, ⟨xv, xk, xt, xb⟩, ⟨yv, yk, yt, yb⟩⟩ := a
  obtain rfl : kd = 6 := hk6
  show Calls Try.prog 121 #[.pointer (some ⟨p.b, 0, none⟩), .pointer (some ⟨q.b, 0, none⟩), .agg #[.int .i64 6, .int .i64 d, .int .i64 i, .int .i64 m, .string s, .bool raw, xv, .int .i64 xt, .int .i64 xb, yv, .int .i64 yt, .int .i64 yb]] w _
  obtain ⟨W, hW⟩ : ∃ W, W = w.alloc (.cells #[.int .i64 6, .int .i64 d, .int .i64 i, .int .i64 m, .string s, .bool raw, xv, .int .i64 xt, .int .i64 xb, yv, .int .i64 yt, .int .i64 yb] 34) := ⟨_, rfl⟩
  have hbx : W.heap[w.heap.size]? = some (.cells #[.int .i64 6, .int .i64 d, .int .i64 i, .int .i64 m, .string s, .bool raw, xv, .int .i64 xt, .int .i64 xb, yv, .int .i64 yt, .int .i64 yb] 34 (0, 0)) := by rw [hW]; exact heap_new w _
  have hkW : Kp No w W := by rw [hW]; exact (Kp.refl _ _).alloc _
  have HP := Lib.hid (h.no hkW)
  have nH : ¬ FF p q w.heap.size := fun x => by have := hlt _ x; omega
  have NH := Lib.hid nH
  have HK := Lib.hid hkW
  have HX := Lib.hid hbx
  have HW := Lib.hid hW
  clear h hlt nH hbx hkW hW
  go_enter Try.func121, Try.ntmps121
  go_wp2_with fail
  rw [← HW.out]
  refine (rreg_ok W HP.out.1 HP.out.2.2.1 hc).mono ?_
  rintro e w3 ⟨rfl, h3, k3⟩
  have HP3 := Lib.hid (HP.out.rig h3 (wf_step HP.out.2.2.1) k3)
  have K3 := Lib.hid (HK.out.no.trans' (k3.f1 (q := q)))
  obtain ⟨b, hb⟩ : ∃ b, b = (if σ.stepE = 0 then σ.reg else ⟨#[]⟩ : ByteArray) := ⟨_, rfl⟩
  rw [← hb]
  clear h3 k3 HP HK HX hb HW
  go_wp2_with fail
  refine (rstep_any HP3.out.2.1 HP3.out.2.2.2 hc2 HP3.out.up).mono ?_
  rintro e w5 ⟨n, τ5, rfl, h5, hw5, hcc5, k5⟩
  have HP5 := Lib.hid (HP3.out.ref h5 hw5 k5)
  have K5 := Lib.hid (K3.out.trans' (k5.f2 (p := p)))
  have c2 : w5.cell? ⟨q.b, 2, none⟩ = some (.string τ5.reg) := h5.cl 2
  have HCC := Lib.hid hcc5
  clear h5 hw5 k5 HP3 K3 hcc5
  by_cases hn : n = 0
  · subst hn
    go_wp2
    all_goals
      go_ret
      exact ⟨_, _, _, rfl, HP5.out, step_reg σ, step_calls σ, HCC.out, K5.out⟩
  · have hz : (n != 0) = true := by rw [bne_iff_ne]; exact hn
    clear hn
    go_wp2
    all_goals
      go_ret
      exact ⟨_, _, _, rfl, HP5.out, step_reg σ, step_calls σ, HCC.out, K5.out⟩
end
end Go.Proofs.Ytocpppegmepolaa
