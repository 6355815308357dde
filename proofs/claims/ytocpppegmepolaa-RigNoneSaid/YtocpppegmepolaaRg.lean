/- rig: a step. -/
import Derived.Test.YtocpppegmepolaaRf
set_option linter.unusedVariables false
set_option linter.unusedSimpArgs false
namespace Go.Proofs.Ytocpppegmepolaa
open Go.RowKit
attribute [local go_sem ↓] Go.wp_at_zero Go.wp_at_succ

def tamL (bs : List Blk) (i : Nat) (s : ByteArray) : List Blk := bs.set i ⟨s, s, (bs.getD i blk0).is⟩
def wrtL (bs : List Blk) (i : Nat) (s : ByteArray) : List Blk := bs.set i ⟨s, (bs.getD i blk0).safe, true⟩
theorem getD_at {bs : List Blk} {i : Nat} (h : i < bs.length) : bs.getD i blk0 = bs[i] := by rw [List.getD_eq_getElem?_getD, List.getElem?_eq_getElem h]; rfl
theorem okD_tam {bs : List Blk} {i : Nat} {s : ByteArray} (h : okD bs) (hs : s.size = 64) : okD (tamL bs i s) := by
  refine ⟨by unfold tamL; rw [List.length_set]; exact h.1, fun x hx => ?_⟩
  rcases List.mem_or_eq_of_mem_set hx with hx | rfl
  · exact h.2 x hx
  · exact ⟨hs, hs⟩
theorem okD_wrt {bs : List Blk} {i : Nat} {s : ByteArray} (h : okD bs) (hi : i < bs.length) (hs : s.size = 64) : okD (wrtL bs i s) := by
  refine ⟨by unfold wrtL; rw [List.length_set]; exact h.1, fun x hx => ?_⟩
  rcases List.mem_or_eq_of_mem_set hx with hx | rfl
  · exact h.2 x hx
  · exact ⟨hs, by show (bs.getD i blk0).safe.size = 64; rw [getD_at hi]; exact (h.2 _ (List.getElem_mem _)).2⟩
theorem okD_fl {bs : List Blk} (h : okD bs) : okD (bs.map flB) := by
  refine ⟨by rw [List.length_map]; exact h.1, fun x hx => ?_⟩
  obtain ⟨y, hy, rfl⟩ := List.mem_map.1 hx
  exact ⟨(h.2 y hy).1, (h.2 y hy).1⟩

def RigS.tam (σ : RigS) : RigS := if σ.later = 1 then σ.setDev σ.td (tamL (σ.dev σ.td) σ.ti σ.ts) else σ
def RigS.step (σ : RigS) : RigS :=
  if σ.down then σ else { σ.tam with calls := σ.calls + 1, later := σ.later - 1, fault := σ.fault - 1, arm := σ.arm - 1, down := decide (σ.arm = 1) }
def RigS.stepE (σ : RigS) : Int := if σ.down then 11 else if σ.arm = 1 then 11 else if σ.fault = 1 then 10 else 0
theorem wf_dev {σ : RigS} (h : σ.wf) (d : Nat) : okD (σ.dev d) := by unfold RigS.dev; split; exact h.1; exact h.2.1
theorem wf_setDev {σ : RigS} (h : σ.wf) (d : Nat) {bs : List Blk} (hb : okD bs) : (σ.setDev d bs).wf := by
  obtain ⟨h1, h2, h3⟩ := h
  unfold RigS.setDev; split
  · exact ⟨hb, h2, h3⟩
  · exact ⟨h1, hb, h3⟩
theorem wf_tam {σ : RigS} (h : σ.wf) : σ.tam.wf := by
  unfold RigS.tam; split
  · rename_i e; exact wf_setDev h _ (okD_tam (wf_dev h _) (h.2.2.2.2.1 (by omega)))
  · exact h
theorem tam_eq (σ : RigS) : σ.tam.reg = σ.reg ∧ σ.tam.td = σ.td ∧ σ.tam.ti = σ.ti ∧ σ.tam.ts = σ.ts := by
  unfold RigS.tam RigS.setDev; split
  · split <;> exact ⟨rfl, rfl, rfl, rfl⟩
  · exact ⟨rfl, rfl, rfl, rfl⟩
theorem wf_step {σ : RigS} (h : σ.wf) : σ.step.wf := by
  unfold RigS.step; split
  · exact h
  · obtain ⟨h1, h2, h3, h4, h5, h6, h7, h8⟩ := wf_tam h
    obtain ⟨_, _, e3, e4⟩ := tam_eq σ
    obtain ⟨_, _, g3, g4, g5, g6, g7, g8⟩ := h
    exact ⟨h1, h2, h3, h4, fun hl => by have hl' : 0 < σ.later - 1 := hl; show σ.tam.ts.size = 64; rw [e4]; exact g5 (by omega), by show σ.later - 1 ≤ _; omega, by show σ.arm - 1 ≤ _; omega, by show σ.fault - 1 ≤ _; omega⟩
theorem step_calls (σ : RigS) : σ.step.calls ≤ σ.calls + 1 := by unfold RigS.step; split; exact Nat.le_succ _; exact Nat.le_refl _
theorem step_reg (σ : RigS) : σ.step.reg = σ.reg := by unfold RigS.step; split; rfl; exact (tam_eq σ).1

/-- A number that is returned, and what holds then. -/
def RetI (Q : Int → World → Prop) (e : Ending) (w : World) : Prop := ∃ n, e = .returned (.int .i64 n) ∧ Q n w

section
variable {S : Nat → Prop} {p : Spots} {σ : RigS}
theorem comes_later (w : World) (h : RigR S w p σ) (hn : σ.later ≤ 1099511627776) :
    Calls Try.prog 177 #[.pointer (some ⟨p.b, 5, none⟩)] w fun e w' => e = .returned (.bool (decide (σ.later = 1))) ∧ RigR S w' p { σ with later := σ.later - 1 } ∧ Kp (fun k => k = p.b) w w' := by
  refine (comes_any σ.later p.b 5 w hn (h.cl 5) (h.fr 5)).mono ?_
  rintro e w' ⟨he, rfl⟩
  refine ⟨he, ?_⟩
  split
  · rename_i h0
    have : { σ with later := σ.later - 1 } = σ := by obtain ⟨_, _, _, later, _⟩ := σ; have h1 : later = 0 := h0; subst h1; rfl
    rw [this]; exact ⟨h, Kp.refl _ _⟩
  · exact ⟨h.put 5 _ _ rfl rfl rfl, (Kp.refl _ _).setAt _ _⟩
theorem comes_arm (w : World) (h : RigR S w p σ) (a : Nat) (ha : σ.arm = a) (hn : a ≤ 1099511627776) :
    Calls Try.prog 177 #[.pointer (some ⟨p.b, 6, none⟩)] w fun e w' => e = .returned (.bool (decide (a = 1))) ∧ RigR S w' p { σ with arm := a - 1 } ∧ Kp (fun k => k = p.b) w w' := by
  subst ha
  refine (comes_any σ.arm p.b 6 w hn (h.cl 6) (h.fr 6)).mono ?_
  rintro e w' ⟨he, rfl⟩
  refine ⟨he, ?_⟩
  split
  · rename_i h0
    have : { σ with arm := σ.arm - 1 } = σ := by obtain ⟨_, _, _, _, arm, fault, _⟩ := σ; have h1 : arm = 0 := h0; subst h1; rfl
    rw [this]; exact ⟨h, Kp.refl _ _⟩
  · exact ⟨h.put 6 _ _ rfl rfl rfl, (Kp.refl _ _).setAt _ _⟩
theorem comes_fault (w : World) (h : RigR S w p σ) (a : Nat) (ha : σ.fault = a) (hn : a ≤ 1099511627776) :
    Calls Try.prog 177 #[.pointer (some ⟨p.b, 7, none⟩)] w fun e w' => e = .returned (.bool (decide (a = 1))) ∧ RigR S w' p { σ with fault := a - 1 } ∧ Kp (fun k => k = p.b) w w' := by
  subst ha
  refine (comes_any σ.fault p.b 7 w hn (h.cl 7) (h.fr 7)).mono ?_
  rintro e w' ⟨he, rfl⟩
  refine ⟨he, ?_⟩
  split
  · rename_i h0
    have : { σ with fault := σ.fault - 1 } = σ := by obtain ⟨_, _, _, _, arm, fault, _⟩ := σ; have h1 : fault = 0 := h0; subst h1; rfl
    rw [this]; exact ⟨h, Kp.refl _ _⟩
  · exact ⟨h.put 7 _ _ rfl rfl rfl, (Kp.refl _ _).setAt _ _⟩
set_option maxRecDepth 100000 in
set_option maxHeartbeats 2000000 in
theorem step_any (f : Nat) (eg : ∀ args w, (callFunc f args).run Try.prog w = .ok (.enter f args) w) (first caps : Array Value) (Q : Int → World → Prop) (w : World) (h : RigR S w p σ) (hw : σ.wf) (hc : σ.calls ≤ 1000000000)
    (hE : σ.stepE ≠ 0 → ∀ W, RigR S W p σ.step → Kp (RF p) w W → Q σ.stepE W)
    (hD : σ.stepE = 0 → ∀ W, RigR S W p σ.step → Kp (RF p) w W → Calls Try.prog f (first ++ caps) W (RetI Q)) :
    Calls Try.prog 116 #[.pointer (some ⟨p.b, 0, none⟩), .func (.func f) first caps] w (RetI Q) := by
  have c3 : w.cell? ⟨p.b, 3, none⟩ = some (.bool σ.down) := h.cl 3
  have c4 : w.cell? ⟨p.b, 4, none⟩ = some (.int .i64 σ.calls) := h.cl 4
  have f4 := h.fr 4
  cases hdn : σ.down
  · have h1 := h.put 4 (.int .i64 ((σ.calls + 1 : Nat) : Int)) { σ with calls := σ.calls + 1 } rfl rfl rfl
    have ecalls : (σ.calls : Int) + 1 = ((σ.calls + 1 : Nat) : Int) := by omega
    rw [← ecalls] at h1
    have hk1 : Kp (RF p) w (w.setCell ⟨p.b, 4, none⟩ (.int .i64 ((σ.calls : Int) + 1))) := Kp.rfb ((Kp.refl _ _).setAt _ _)
    have H1 := Lib.hid h1
    have HK1 := Lib.hid hk1
    have HW := Lib.hid hw
    have HE := Lib.hid hE
    have HD := Lib.hid hD
    have HDN := Lib.hid hdn
    rw [hdn] at c3
    have HC := comes_later _ h1 (by show σ.later ≤ _; exact hw.2.2.2.2.2.1)
    have HC := Lib.hid HC
    have hst : σ.step = { σ.tam with calls := σ.calls + 1, later := σ.later - 1, fault := σ.fault - 1, arm := σ.arm - 1, down := decide (σ.arm = 1) } := by unfold RigS.step; rw [hdn]; rfl
    have hse : σ.stepE = if σ.arm = 1 then 11 else if σ.fault = 1 then 10 else 0 := by unfold RigS.stepE; rw [hdn]; rfl
    have HST := Lib.hid hst
    have HSE := Lib.hid hse
    clear h1 hk1 hw hE hD hdn ecalls h hst hse
    have hcase : σ.later ≠ 1 ∨ (σ.later = 1 ∧ σ.td = 0) ∨ (σ.later = 1 ∧ σ.td = 1) := by have := HW.out.2.2.1; omega
    rcases hcase with hl | ⟨hl, htd⟩ | ⟨hl, htd⟩
    case' inl =>
      have z1 : decide (σ.later = 1) = false := decide_eq_false hl
      have HL := Lib.hid hl
      clear hl
      go_enter Try.func116, Try.ntmps116
      go_wp2_with fail
      refine HC.out.mono ?_
      rintro e w2 ⟨rfl, h2, k2⟩
      rw [z1]
      have htm : σ.tam = σ := by unfold RigS.tam; exact if_neg HL.out
      have K2 := Lib.hid (HK1.out.trans' (Kp.rfb k2))
      have H2 : Hid (RigR S w2 p { σ.tam with calls := σ.calls + 1, later := σ.later - 1 }) := Lib.hid (by rw [htm]; exact h2)
      have Q3 : Hid (σ.tam.arm = σ.arm ∧ σ.tam.fault = σ.fault ∧ σ.tam.down = false) := Lib.hid (by rw [htm]; exact ⟨rfl, rfl, HDN.out⟩)
      clear k2 h2 htm c3 c4 f4 z1 HC HL
      go_wp2_with fail
    case' inr.inl =>
      have z1 : decide (σ.later = 1) = true := decide_eq_true hl
      have HL := Lib.hid hl
      have HTD := Lib.hid htd
      clear hl htd
      go_enter Try.func116, Try.ntmps116
      go_wp2_with fail
      refine HC.out.mono ?_
      rintro e w1 ⟨rfl, h1, k1⟩
      rw [z1]
      have htm : σ.tam = σ.setDev 0 (tamL σ.d0 σ.ti σ.ts) := by unfold RigS.tam; rw [if_pos HL.out, HTD.out]; rfl
      have a0 : w1.cell? ⟨p.b, 0, none⟩ = some (.pointer (some ⟨p.b0, 0, none⟩)) := h1.cl 0
      have a8 : w1.cell? ⟨p.b, 8, none⟩ = some (.int .i64 0) := by have : w1.cell? ⟨p.b, 8, none⟩ = some (.int .i64 σ.td) := h1.cl 8; rw [this, HTD.out]; rfl
      have a9 : w1.cell? ⟨p.b, 9, none⟩ = some (.int .i64 σ.ti) := h1.cl 9
      have a10 : w1.cell? ⟨p.b, 10, none⟩ = some (.string σ.ts) := h1.cl 10
      have hd0 : DevR S w1.drew p.b0 p.g0 σ.d0 := (h1.devS 0).dr
      have hok := HW.out.1
      have hti := HW.out.2.2.2.1
      have hts := HW.out.2.2.2.2.1 (by rw [HL.out]; decide)
      have hil : σ.ti < σ.d0.length := by rw [hok.1]; exact hti
      have HT := dtamper_ok σ.ti σ.ts _ hd0 hil hts (by rw [hok.1]; omega)
      rw [show σ.d0.set σ.ti ⟨σ.ts, σ.ts, σ.d0[σ.ti].is⟩ = tamL σ.d0 σ.ti σ.ts from by unfold tamL; rw [getD_at hil]] at HT
      have hnb : ¬ (p.b = p.g0) := fun e => h1.ne.1.2 e.symm
      have HT := Lib.hid HT
      have H1' := Lib.hid h1
      have K1 := Lib.hid (HK1.out.trans' (Kp.rfb k1))
      have HTM := Lib.hid htm
      clear c3 c4 f4 z1 h1 k1 htm hd0 hok hti hts hil HC
      go_wp2_with fail
      go_region_held3 (fun w' => w'.cell? ⟨p.b, 0, none⟩ = some (.pointer (some ⟨p.b0, 0, none⟩)) ∧ w'.cell? ⟨p.b, 8, none⟩ = some (.int .i64 0) ∧ w'.cell? ⟨p.b, 9, none⟩ = some (.int .i64 σ.ti) ∧ w'.cell? ⟨p.b, 10, none⟩ = some (.string σ.ts)) (go_keep)
        ((go_at_call 145; refine HT.out.mono ?_; rintro e w2 ⟨rfl, h2, k2⟩; have e0 := k2.cell (a := ⟨p.b, 0, none⟩) a0 hnb; have e8 := k2.cell (a := ⟨p.b, 8, none⟩) a8 hnb; have e9 := k2.cell (a := ⟨p.b, 9, none⟩) a9 hnb; have e10 := k2.cell (a := ⟨p.b, 10, none⟩) a10 hnb))
      have hr2 := (H1'.out.no (Kp.dr _)).devd 0 h2 k2
      have K2 := Lib.hid ((K1.out.transNo (Kp.dr _)).trans' (Kp.rfd (d := 0) k2))
      have H2 : Hid (RigR S w2 p { σ.tam with calls := σ.calls + 1, later := σ.later - 1 }) := Lib.hid (by rw [HTM.out]; exact hr2)
      have Q3 : Hid (σ.tam.arm = σ.arm ∧ σ.tam.fault = σ.fault ∧ σ.tam.down = false) := Lib.hid (by rw [HTM.out]; exact ⟨rfl, rfl, HDN.out⟩)
      clear h2 k2 hr2 e0 e8 e9 e10 a0 a8 a9 a10 HT HTM hnb HL HTD K1
      go_wp2_with fail
    case' inr.inr =>
      have z1 : decide (σ.later = 1) = true := decide_eq_true hl
      have HL := Lib.hid hl
      have HTD := Lib.hid htd
      clear hl htd
      go_enter Try.func116, Try.ntmps116
      go_wp2_with fail
      refine HC.out.mono ?_
      rintro e w1 ⟨rfl, h1, k1⟩
      rw [z1]
      have htm : σ.tam = σ.setDev 1 (tamL σ.d1 σ.ti σ.ts) := by unfold RigS.tam; rw [if_pos HL.out, HTD.out]; rfl
      have a0 : w1.cell? ⟨p.b, 1, none⟩ = some (.pointer (some ⟨p.b1, 0, none⟩)) := h1.cl 1
      have a8 : w1.cell? ⟨p.b, 8, none⟩ = some (.int .i64 1) := by have : w1.cell? ⟨p.b, 8, none⟩ = some (.int .i64 σ.td) := h1.cl 8; rw [this, HTD.out]; rfl
      have a9 : w1.cell? ⟨p.b, 9, none⟩ = some (.int .i64 σ.ti) := h1.cl 9
      have a10 : w1.cell? ⟨p.b, 10, none⟩ = some (.string σ.ts) := h1.cl 10
      have hd0 : DevR S w1.drew p.b1 p.g1 σ.d1 := (h1.devS 1).dr
      have hok := HW.out.2.1
      have hti := HW.out.2.2.2.1
      have hts := HW.out.2.2.2.2.1 (by rw [HL.out]; decide)
      have hil : σ.ti < σ.d1.length := by rw [hok.1]; exact hti
      have HT := dtamper_ok σ.ti σ.ts _ hd0 hil hts (by rw [hok.1]; omega)
      rw [show σ.d1.set σ.ti ⟨σ.ts, σ.ts, σ.d1[σ.ti].is⟩ = tamL σ.d1 σ.ti σ.ts from by unfold tamL; rw [getD_at hil]] at HT
      have hnb : ¬ (p.b = p.g1) := fun e => h1.ne.2.1.2 e.symm
      have HT := Lib.hid HT
      have H1' := Lib.hid h1
      have K1 := Lib.hid (HK1.out.trans' (Kp.rfb k1))
      have HTM := Lib.hid htm
      clear c3 c4 f4 z1 h1 k1 htm hd0 hok hti hts hil HC
      go_wp2_with fail
      go_region_held3 (fun w' => w'.cell? ⟨p.b, 1, none⟩ = some (.pointer (some ⟨p.b1, 0, none⟩)) ∧ w'.cell? ⟨p.b, 8, none⟩ = some (.int .i64 1) ∧ w'.cell? ⟨p.b, 9, none⟩ = some (.int .i64 σ.ti) ∧ w'.cell? ⟨p.b, 10, none⟩ = some (.string σ.ts)) (go_keep)
        ((go_at_call 145; refine HT.out.mono ?_; rintro e w2 ⟨rfl, h2, k2⟩; have e0 := k2.cell (a := ⟨p.b, 1, none⟩) a0 hnb; have e8 := k2.cell (a := ⟨p.b, 8, none⟩) a8 hnb; have e9 := k2.cell (a := ⟨p.b, 9, none⟩) a9 hnb; have e10 := k2.cell (a := ⟨p.b, 10, none⟩) a10 hnb))
      have hr2 := (H1'.out.no (Kp.dr _)).devd 1 h2 k2
      have K2 := Lib.hid ((K1.out.transNo (Kp.dr _)).trans' (Kp.rfd (d := 1) k2))
      have H2 : Hid (RigR S w2 p { σ.tam with calls := σ.calls + 1, later := σ.later - 1 }) := Lib.hid (by rw [HTM.out]; exact hr2)
      have Q3 : Hid (σ.tam.arm = σ.arm ∧ σ.tam.fault = σ.fault ∧ σ.tam.down = false) := Lib.hid (by rw [HTM.out]; exact ⟨rfl, rfl, HDN.out⟩)
      clear h2 k2 hr2 e0 e8 e9 e10 a0 a8 a9 a10 HT HTM hnb HL HTD K1
      go_wp2_with fail
    all_goals
      have HCF := Lib.hid (comes_fault _ H2.out σ.tam.fault rfl (by rw [Q3.out.2.1]; exact HW.out.2.2.2.2.2.2.2))
      refine HCF.out.mono ?_
      rintro e w3 ⟨rfl, h3, k3⟩
      have HCA := Lib.hid (comes_arm _ h3 σ.tam.arm rfl (by rw [Q3.out.1]; exact HW.out.2.2.2.2.2.2.1))
      have K3 := Lib.hid (K2.out.trans' (Kp.rfb k3))
      clear h3 k3 HCF H2
      by_cases ha : σ.tam.arm = 1
      · have za : decide (σ.tam.arm = 1) = true := decide_eq_true ha
        have ee : σ.stepE = 11 := by rw [HSE.out, if_pos (by rw [← Q3.out.1]; exact ha)]
        have HEE := Lib.hid ee
        have hfd : ∃ t, decide (σ.tam.fault = 1) = t := ⟨_, rfl⟩
        obtain ⟨t, ht⟩ := hfd
        have HA := Lib.hid ha
        rw [ht]
        clear ha ee ht
        go_wp2_with fail
        refine HCA.out.mono ?_
        rintro e w4 ⟨rfl, h4, k4⟩
        have z3 : w4.cell? ⟨p.b, 3, none⟩ = some (.bool σ.tam.down) := h4.cl 3
        have f3 := h4.fr 3
        have h5 := h4.put 3 (.bool true) { σ.tam with calls := σ.calls + 1, later := σ.later - 1, fault := σ.tam.fault - 1, arm := σ.tam.arm - 1, down := true } rfl rfl rfl
        have H5 := Lib.hid h5
        have K5 := Lib.hid ((K3.out.trans' (Kp.rfb k4)).trans' (Kp.rfb ((Kp.refl _ _).setAt 3 (.bool true))))
        rw [za]
        clear h4 k4 h5 HCA za
        go_wp2
        go_ret
        refine ⟨11, rfl, ?_⟩
        have := HE.out (by rw [HEE.out]; decide) _ (by rw [HST.out, ← Q3.out.1, HA.out, ← Q3.out.2.1]; have := H5.out; rw [HA.out] at this; exact this) K5.out
        rw [HEE.out] at this
        exact this
      · have za : decide (σ.tam.arm = 1) = false := decide_eq_false ha
        have HA := Lib.hid ha
        clear ha
        by_cases hf : σ.tam.fault = 1
        · have zf : decide (σ.tam.fault = 1) = true := decide_eq_true hf
          have ee : σ.stepE = 10 := by rw [HSE.out, if_neg (by rw [← Q3.out.1]; exact HA.out), if_pos (by rw [← Q3.out.2.1]; exact hf)]
          have HEE := Lib.hid ee
          rw [zf]
          clear hf ee zf
          go_wp2_with fail
          refine HCA.out.mono ?_
          rintro e w4 ⟨rfl, h4, k4⟩
          have H5 := Lib.hid h4
          have K5 := Lib.hid (K3.out.trans' (Kp.rfb k4))
          rw [za]
          clear h4 k4 HCA
          go_wp2
          go_ret
          refine ⟨10, rfl, ?_⟩
          have := HE.out (by rw [HEE.out]; decide) _ (by rw [HST.out, ← Q3.out.1, za, ← Q3.out.2.1, ← Q3.out.2.2]; exact H5.out) K5.out
          rw [HEE.out] at this
          exact this
        · have zf : decide (σ.tam.fault = 1) = false := decide_eq_false hf
          have ee : σ.stepE = 0 := by rw [HSE.out, if_neg (by rw [← Q3.out.1]; exact HA.out), if_neg (by rw [← Q3.out.2.1]; exact hf)]
          have HEE := Lib.hid ee
          rw [zf]
          clear hf ee zf
          go_wp2_with fail
          refine HCA.out.mono ?_
          rintro e w4 ⟨rfl, h4, k4⟩
          have H5 := Lib.hid h4
          have K5 := Lib.hid (K3.out.trans' (Kp.rfb k4))
          rw [za]
          clear h4 k4 HCA
          go_wp2_with fail
          refine (HD.out HEE.out _ (by rw [HST.out, ← Q3.out.1, za, ← Q3.out.2.1, ← Q3.out.2.2]; exact H5.out) K5.out).mono ?_
          rintro e w5 ⟨n, rfl, hq⟩
          have HQ := Lib.hid hq
          clear hq
          go_wp2
          go_ret
          exact ⟨n, rfl, HQ.out⟩
  · have e1 : σ.stepE = 11 := by unfold RigS.stepE; rw [hdn]; rfl
    have e2 : σ.step = σ := by unfold RigS.step; rw [hdn]; rfl
    have hq := hE (by rw [e1]; decide) w (by rw [e2]; exact h) (Kp.refl _ _)
    rw [e1] at hq
    have HQ := Lib.hid hq
    rw [hdn] at c3
    clear hq hE hD e1 e2 hdn h hw
    go_enter Try.func116, Try.ntmps116
    go_wp2
    go_ret
    exact ⟨11, rfl, HQ.out⟩
end
end Go.Proofs.Ytocpppegmepolaa
