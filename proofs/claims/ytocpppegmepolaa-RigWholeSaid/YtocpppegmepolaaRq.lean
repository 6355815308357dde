/- the reference of layer 12: its shape; New, Step, Crash. -/
import Derived.Test.YtocpppegmepolaaRo
import Derived.Test.YtocpppegmepolaaRp
set_option linter.unusedVariables false
set_option linter.unusedSimpArgs false
namespace Go.Proofs.Ytocpppegmepolaa
open Go.RowKit
attribute [local go_sem ↓] Go.wp_at_zero Go.wp_at_succ

/-- A reference's rig: its struct in block p.b, its devices in p.b0, p.b1 (p's other numbers and the lists of the state do not count). -/
def RR (S : Nat → Prop) (w : World) (p : Spots) (σ : RigS) : Prop :=
  w.heap[p.b]? = some (.cells (σ.cells p) 174 (0, 0)) ∧ ¬ S p.b ∧ RD (fun k => S k ∨ k = p.b ∨ k = p.b1) w p.b0 ∧ RD (fun k => S k ∨ k = p.b ∨ k = p.b0) w p.b1 ∧ p.b0 ≠ p.b1
def RFr (p : Spots) (k : Nat) : Prop := k = p.b ∨ k = p.b0 ∨ k = p.b1
def RigS.rwf (σ : RigS) : Prop := σ.td < 2 ∧ σ.ti < 288 ∧ (0 < σ.later → σ.ts.size = 64) ∧ σ.later ≤ 1099511627776 ∧ σ.arm ≤ 1099511627776 ∧ σ.fault ≤ 1099511627776
def Up (S : Nat → Prop) (w : World) : Prop := ∀ k, S k → k < w.heap.size
section
variable {S : Nat → Prop} {w w' : World} {p : Spots} {σ : RigS}
theorem RR.move {S' : Nat → Prop} (h : RR S w p σ) (hm : ∀ k, k < w.heap.size → ¬ S k → ¬ S' k ∧ w'.heap[k]? = w.heap[k]?) : RR S' w' p σ := by
  obtain ⟨h1, h2, h3, h4, h5⟩ := h
  have hb := hm p.b (blt h1) h2
  refine ⟨hb.2.trans h1, hb.1, h3.move fun k hk hn => ?_, h4.move fun k hk hn => ?_, h5⟩
  · have := hm k hk (fun x => hn (.inl x))
    exact ⟨fun x => by rcases x with x | x; exact this.1 x; exact hn (.inr x), this.2⟩
  · have := hm k hk (fun x => hn (.inl x))
    exact ⟨fun x => by rcases x with x | x; exact this.1 x; exact hn (.inr x), this.2⟩
theorem RR.no (h : RR S w p σ) (hk : Kp No w w') : RR S w' p σ := h.move fun k hk' hn => ⟨hn, hk.block k hk' id⟩
theorem RR.kp {T : Nat → Prop} (h : RR S w p σ) (hk : Kp T w w') (hT : ∀ k, T k → S k) : RR S w' p σ := h.move fun k hk' hn => ⟨hn, hk.block k hk' fun x => hn (hT k x)⟩
theorem RR.lt (h : RR S w p σ) : ∀ k, RFr p k → k < w.heap.size ∧ ¬ S k := by
  obtain ⟨h1, h2, h3, h4, h5⟩ := h
  intro k hk
  rcases hk with rfl | rfl | rfl
  · exact ⟨blt h1, h2⟩
  · exact ⟨h3.lt.1, fun x => h3.lt.2 (.inl x)⟩
  · exact ⟨h4.lt.1, fun x => h4.lt.2 (.inl x)⟩
theorem RR.ne (h : RR S w p σ) : p.b0 ≠ p.b ∧ p.b1 ≠ p.b ∧ p.b0 ≠ p.b1 := ⟨fun e => h.2.2.1.lt.2 (.inr (.inl e)), fun e => h.2.2.2.1.lt.2 (.inr (.inl e)), h.2.2.2.2⟩
theorem RR.put (h : RR S w p σ) (j : Nat) (v : Value) (σ' : RigS) (hc : (σ.cells p).setIfInBounds j v = σ'.cells p) : RR S (w.setCell ⟨p.b, j, none⟩ v) p σ' := by
  obtain ⟨h1, h2, h3, h4, h5⟩ := h
  exact ⟨by rw [heap_set h1, hc], h2, h3.move fun k _ hk => ⟨hk, Below.heap_setCell w _ v k fun e => hk (.inr (.inl e))⟩, h4.move fun k _ hk => ⟨hk, Below.heap_setCell w _ v k fun e => hk (.inr (.inl e))⟩, h5⟩
/-- A device has changed. -/
theorem RR.dev0 (h : RR S w p σ) (hd : RD (fun k => S k ∨ k = p.b ∨ k = p.b1) w' p.b0) (hk : Kp (fun k => k = p.b0) w w') : RR S w' p σ := by
  have hn := h.ne
  obtain ⟨h1, h2, h3, h4, h5⟩ := h
  exact ⟨hk.heap h1 (fun e => hn.1 e.symm), h2, hd, h4.kp hk (fun k e => .inr (.inr e)), h5⟩
theorem RR.dev1 (h : RR S w p σ) (hd : RD (fun k => S k ∨ k = p.b ∨ k = p.b0) w' p.b1) (hk : Kp (fun k => k = p.b1) w w') : RR S w' p σ := by
  have hn := h.ne
  obtain ⟨h1, h2, h3, h4, h5⟩ := h
  exact ⟨hk.heap h1 (fun e => hn.2.1 e.symm), h2, h3.kp hk (fun k e => .inr (.inr e)), hd, h5⟩
theorem RR.cl (h : RR S w p σ) (j : Nat) : w.cell? ⟨p.b, j, none⟩ = (σ.cells p)[j]? := cellOf h.1 j
theorem RR.fr (h : RR S w p σ) (j : Nat) : w.frozen? ⟨p.b, j, none⟩ = false := freeOf h.1 j
theorem Kp.rr (h : Kp (fun k => k = p.b) w w') : Kp (RFr p) w w' := h.mono fun k _ e => .inl e
theorem Kp.rr0 (h : Kp (fun k => k = p.b0) w w') : Kp (RFr p) w w' := h.mono fun k _ e => .inr (.inl e)
theorem Kp.rr1 (h : Kp (fun k => k = p.b1) w w') : Kp (RFr p) w w' := h.mono fun k _ e => .inr (.inr e)
theorem RR.up0 (h : RR S w p σ) (hS : Up S w) : Up (fun k => S k ∨ k = p.b ∨ k = p.b1) w := fun k hk => by
  rcases hk with hk | rfl | rfl
  · exact hS k hk
  · exact (h.lt _ (.inl rfl)).1
  · exact (h.lt _ (.inr (.inr rfl))).1
theorem RR.up1 (h : RR S w p σ) (hS : Up S w) : Up (fun k => S k ∨ k = p.b ∨ k = p.b0) w := fun k hk => by
  rcases hk with hk | rfl | rfl
  · exact hS k hk
  · exact (h.lt _ (.inl rfl)).1
  · exact (h.lt _ (.inr (.inl rfl))).1
theorem Up.le (hS : Up S w) (hk : w.heap.size ≤ w'.heap.size) : Up S w' := fun k h => Nat.lt_of_lt_of_le (hS k h) hk

set_option maxHeartbeats 400000 in
theorem less_any (n : Nat) (w : World) (hn : n ≤ 1099511627776) : Calls Try.prog 179 #[.int .i64 n] w fun e w' => e = .returned (.int .i64 ((n - 1 : Nat) : Int)) ∧ w = w' := by
  by_cases h0 : n = 0
  · subst h0
    go_enter Try.func179, Try.ntmps179
    go_wp2
    go_ret
    exact ⟨rfl, rfl⟩
  · have h1 : 0 < n := by omega
    have e1 : (n : Int) - 1 = ((n - 1 : Nat) : Int) := by omega
    have E1 := Lib.hid e1
    clear e1 h0
    go_enter Try.func179, Try.ntmps179
    go_wp2
    go_ret
    exact ⟨ret_int E1.out, rfl⟩

/-- What a step of the reference leaves. -/
def RStep (S : Nat → Prop) (w : World) (p : Spots) (σ : RigS) (e : Ending) (w' : World) : Prop :=
  ∃ n σ', e = .returned (.int .i64 n) ∧ RR S w' p σ' ∧ σ'.rwf ∧ σ'.calls ≤ σ.calls + 1 ∧ Kp (RFr p) w w'
set_option maxRecDepth 100000 in
set_option maxHeartbeats 8000000 in
theorem rstep_any (h : RR S w p σ) (hw : σ.rwf) (hc : σ.calls ≤ 1000000000) (hS : Up S w) : Calls Try.prog 119 #[.pointer (some ⟨p.b, 0, none⟩)] w (RStep S w p σ) := by
  have c3 : w.cell? ⟨p.b, 3, none⟩ = some (.bool σ.down) := h.cl 3
  have c4 : w.cell? ⟨p.b, 4, none⟩ = some (.int .i64 σ.calls) := h.cl 4
  have c5 : w.cell? ⟨p.b, 5, none⟩ = some (.int .i64 σ.later) := h.cl 5
  have f4 := h.fr 4
  cases hdn : σ.down
  · have h1 := h.put 4 (.int .i64 ((σ.calls + 1 : Nat) : Int)) { σ with calls := σ.calls + 1 } rfl
    have ecalls : (σ.calls : Int) + 1 = ((σ.calls + 1 : Nat) : Int) := by omega
    rw [← ecalls] at h1
    have hk1 : Kp (RFr p) w (w.setCell ⟨p.b, 4, none⟩ (.int .i64 ((σ.calls : Int) + 1))) := Kp.rr ((Kp.refl _ _).setAt _ _)
    have H1 := Lib.hid h1
    have HK1 := Lib.hid hk1
    have HW := Lib.hid hw
    have HS := Lib.hid hS
    have hcase : σ.later ≠ 1 ∨ (σ.later = 1 ∧ σ.td = 0) ∨ (σ.later = 1 ∧ σ.td = 1) := by have := hw.1; omega
    have a5 : (w.setCell ⟨p.b, 4, none⟩ (.int .i64 ((σ.calls : Int) + 1))).cell? ⟨p.b, 5, none⟩ = some (.int .i64 σ.later) := h1.cl 5
    rw [hdn] at c3
    have HDN := Lib.hid hdn
    clear h1 hk1 hw ecalls h hS hdn
    rcases hcase with hl | ⟨hl, htd⟩ | ⟨hl, htd⟩
    case' inl =>
      have zl : ((σ.later : Int) == 1) = false := by rw [beq_eq_false_iff_ne]; omega
      clear hl
      go_enter Try.func119, Try.ntmps119
      go_upto_region 6 with fail
      obtain ⟨w2, hw2⟩ : ∃ w2, w2 = w.setCell ⟨p.b, 4, none⟩ (.int .i64 ((σ.calls : Int) + 1)) := ⟨_, rfl⟩
      rw [← hw2]
      rw [← hw2] at H1 HK1
      have H2 := H1
      have K2 := HK1
      clear a5 c3 c4 c5 f4 hw2 zl H1 HK1
    case' inr.inl =>
      have zl : ((σ.later : Int) == 1) = true := by rw [beq_iff_eq]; omega
      have hts := HW.out.2.2.1 (by omega)
      have hti := HW.out.2.1
      have a0 : (w.setCell ⟨p.b, 4, none⟩ (.int .i64 ((σ.calls : Int) + 1))).cell? ⟨p.b, 0, none⟩ = some (.pointer (some ⟨p.b0, 0, none⟩)) := H1.out.cl 0
      have a8 : (w.setCell ⟨p.b, 4, none⟩ (.int .i64 ((σ.calls : Int) + 1))).cell? ⟨p.b, 8, none⟩ = some (.int .i64 0) := by have h8 := H1.out.cl 8; rw [show (({ σ with calls := σ.calls + 1 } : RigS).cells p)[8]? = some (.int .i64 (σ.td : Int)) from rfl, htd] at h8; exact h8
      have a9 : (w.setCell ⟨p.b, 4, none⟩ (.int .i64 ((σ.calls : Int) + 1))).cell? ⟨p.b, 9, none⟩ = some (.int .i64 σ.ti) := H1.out.cl 9
      have a10 : (w.setCell ⟨p.b, 4, none⟩ (.int .i64 ((σ.calls : Int) + 1))).cell? ⟨p.b, 10, none⟩ = some (.string σ.ts) := H1.out.cl 10
      have hU := HS.out.le (w' := w.setCell ⟨p.b, 4, none⟩ (.int .i64 ((σ.calls : Int) + 1))) (by simp)
      obtain ⟨W1, hW1⟩ : ∃ W1, W1 = w.setCell ⟨p.b, 4, none⟩ (.int .i64 ((σ.calls : Int) + 1)) := ⟨_, rfl⟩
      rw [← hW1] at H1 HK1 a0 a8 a9 a10 hU a5
      have HT := Lib.hid (rdtamper_any (S := _) (d := p.b0) (w := W1.drew) σ.ti σ.ts (H1.out.2.2.1.no (Kp.dr _)) hti hts (H1.out.up0 hU))
      have hnb : ¬ (p.b = p.b0) := fun e => H1.out.ne.1 e.symm
      have HW1 := Lib.hid hW1
      have zl2 := Lib.hid hl
      clear hl htd hts hti hU hW1
      go_enter Try.func119, Try.ntmps119
      go_upto_region 5 with fail
      rw [← HW1.out]
      go_region_held3 (fun w' => w'.cell? ⟨p.b, 0, none⟩ = some (.pointer (some ⟨p.b0, 0, none⟩)) ∧ w'.cell? ⟨p.b, 8, none⟩ = some (.int .i64 0) ∧ w'.cell? ⟨p.b, 9, none⟩ = some (.int .i64 σ.ti) ∧ w'.cell? ⟨p.b, 10, none⟩ = some (.string σ.ts)) (go_keep)
        ((go_at_call 123; refine HT.out.mono ?_; rintro e w2 ⟨rfl, hd2, k2⟩; have e0 := k2.cell (a := ⟨p.b, 0, none⟩) a0 hnb; have e8 := k2.cell (a := ⟨p.b, 8, none⟩) a8 hnb; have e9 := k2.cell (a := ⟨p.b, 9, none⟩) a9 hnb; have e10 := k2.cell (a := ⟨p.b, 10, none⟩) a10 hnb))
      have h2 := (H1.out.no (Kp.dr _)).dev0 hd2 k2
      have k12 := HK1.out.trans' ((Kp.dr W1).no.trans' (Kp.rr0 k2))
      have H2 := Lib.hid h2
      have K2 := Lib.hid k12
      clear hd2 k2 h2 k12 e0 e8 e9 e10 a0 a8 a9 a10 a5 HT hnb H1 HK1 HW1 zl zl2 c3 c4 c5 f4
    case' inr.inr =>
      have zl : ((σ.later : Int) == 1) = true := by rw [beq_iff_eq]; omega
      have hts := HW.out.2.2.1 (by omega)
      have hti := HW.out.2.1
      have a0 : (w.setCell ⟨p.b, 4, none⟩ (.int .i64 ((σ.calls : Int) + 1))).cell? ⟨p.b, 1, none⟩ = some (.pointer (some ⟨p.b1, 0, none⟩)) := H1.out.cl 1
      have a8 : (w.setCell ⟨p.b, 4, none⟩ (.int .i64 ((σ.calls : Int) + 1))).cell? ⟨p.b, 8, none⟩ = some (.int .i64 1) := by have h8 := H1.out.cl 8; rw [show (({ σ with calls := σ.calls + 1 } : RigS).cells p)[8]? = some (.int .i64 (σ.td : Int)) from rfl, htd] at h8; exact h8
      have a9 : (w.setCell ⟨p.b, 4, none⟩ (.int .i64 ((σ.calls : Int) + 1))).cell? ⟨p.b, 9, none⟩ = some (.int .i64 σ.ti) := H1.out.cl 9
      have a10 : (w.setCell ⟨p.b, 4, none⟩ (.int .i64 ((σ.calls : Int) + 1))).cell? ⟨p.b, 10, none⟩ = some (.string σ.ts) := H1.out.cl 10
      have hU := HS.out.le (w' := w.setCell ⟨p.b, 4, none⟩ (.int .i64 ((σ.calls : Int) + 1))) (by simp)
      obtain ⟨W1, hW1⟩ : ∃ W1, W1 = w.setCell ⟨p.b, 4, none⟩ (.int .i64 ((σ.calls : Int) + 1)) := ⟨_, rfl⟩
      rw [← hW1] at H1 HK1 a0 a8 a9 a10 hU a5
      have HT := Lib.hid (rdtamper_any (S := _) (d := p.b1) (w := W1.drew) σ.ti σ.ts (H1.out.2.2.2.1.no (Kp.dr _)) hti hts (H1.out.up1 hU))
      have hnb : ¬ (p.b = p.b1) := fun e => H1.out.ne.2.1 e.symm
      have HW1 := Lib.hid hW1
      have zl2 := Lib.hid hl
      clear hl htd hts hti hU hW1
      go_enter Try.func119, Try.ntmps119
      go_upto_region 5 with fail
      rw [← HW1.out]
      go_region_held3 (fun w' => w'.cell? ⟨p.b, 1, none⟩ = some (.pointer (some ⟨p.b1, 0, none⟩)) ∧ w'.cell? ⟨p.b, 8, none⟩ = some (.int .i64 1) ∧ w'.cell? ⟨p.b, 9, none⟩ = some (.int .i64 σ.ti) ∧ w'.cell? ⟨p.b, 10, none⟩ = some (.string σ.ts)) (go_keep)
        ((go_at_call 123; refine HT.out.mono ?_; rintro e w2 ⟨rfl, hd2, k2⟩; have e0 := k2.cell (a := ⟨p.b, 1, none⟩) a0 hnb; have e8 := k2.cell (a := ⟨p.b, 8, none⟩) a8 hnb; have e9 := k2.cell (a := ⟨p.b, 9, none⟩) a9 hnb; have e10 := k2.cell (a := ⟨p.b, 10, none⟩) a10 hnb))
      have h2 := (H1.out.no (Kp.dr _)).dev1 hd2 k2
      have k12 := HK1.out.trans' ((Kp.dr W1).no.trans' (Kp.rr1 k2))
      have H2 := Lib.hid h2
      have K2 := Lib.hid k12
      clear hd2 k2 h2 k12 e0 e8 e9 e10 a0 a8 a9 a10 a5 HT hnb H1 HK1 HW1 zl zl2 c3 c4 c5 f4
    all_goals
      have b3 : w2.cell? ⟨p.b, 3, none⟩ = some (.bool σ.down) := H2.out.cl 3
      have b5 : w2.cell? ⟨p.b, 5, none⟩ = some (.int .i64 σ.later) := H2.out.cl 5
      have b6 : w2.cell? ⟨p.b, 6, none⟩ = some (.int .i64 σ.arm) := H2.out.cl 6
      have b7 : w2.cell? ⟨p.b, 7, none⟩ = some (.int .i64 σ.fault) := H2.out.cl 7
      have g3 := H2.out.fr 3
      have g5 := H2.out.fr 5
      have g6 := H2.out.fr 6
      have g7 := H2.out.fr 7
      have hl5 := HW.out.2.2.2.1
      have hl6 := HW.out.2.2.2.2.1
      have hl7 := HW.out.2.2.2.2.2
      have hfa : ((σ.fault : Int) == 1) = true ∨ ((σ.fault : Int) == 1) = false := by cases ((σ.fault : Int) == 1); exact .inr rfl; exact .inl rfl
      have hrw : ∀ t, ({ σ with calls := σ.calls + 1, down := t, later := σ.later - 1, fault := σ.fault - 1, arm := σ.arm - 1 } : RigS).rwf := fun t => ⟨HW.out.1, HW.out.2.1, fun hl => HW.out.2.2.1 (by have : 0 < σ.later - 1 := hl; omega), by show σ.later - 1 ≤ _; omega, by show σ.arm - 1 ≤ _; omega, by show σ.fault - 1 ≤ _; omega⟩
      have HRW := Lib.hid hrw
      have HFA := Lib.hid hfa
      clear hrw hfa
      by_cases ha : σ.arm = 1
      · have za : ((σ.arm : Int) == 1) = true := by rw [beq_iff_eq]; omega
        have h3 := (((H2.out.put 3 (.bool true) { σ with calls := σ.calls + 1, down := true } rfl).put 5 (.int .i64 ((σ.later - 1 : Nat) : Int)) { σ with calls := σ.calls + 1, down := true, later := σ.later - 1 } rfl).put 7 (.int .i64 ((σ.fault - 1 : Nat) : Int)) { σ with calls := σ.calls + 1, down := true, later := σ.later - 1, fault := σ.fault - 1 } rfl).put 6 (.int .i64 ((σ.arm - 1 : Nat) : Int)) { σ with calls := σ.calls + 1, down := true, later := σ.later - 1, fault := σ.fault - 1, arm := σ.arm - 1 } rfl
        have H3 := Lib.hid h3
        have K3 := Lib.hid (K2.out.trans' (Kp.rr (p := p) ((((((Kp.refl _ w2).setAt (b := p.b) 3 (.bool true)).setAt 5 (.int .i64 ((σ.later - 1 : Nat) : Int))).setAt 7 (.int .i64 ((σ.fault - 1 : Nat) : Int))).setAt 6 (.int .i64 ((σ.arm - 1 : Nat) : Int))))))
        clear h3 ha H2
        rcases HFA.out with zf | zf
        all_goals
          go_wp2_with (go_at_call 179; first | (refine (less_any σ.later _ hl5).mono ?_; rintro e w' ⟨rfl, rfl⟩) | (refine (less_any σ.fault _ hl7).mono ?_; rintro e w' ⟨rfl, rfl⟩) | (refine (less_any σ.arm _ hl6).mono ?_; rintro e w' ⟨rfl, rfl⟩))
          go_ret
          exact ⟨11, _, rfl, H3.out, HRW.out _, Nat.le_refl _, K3.out⟩
      · have za : ((σ.arm : Int) == 1) = false := by rw [beq_eq_false_iff_ne]; omega
        have h3 := ((H2.out.put 5 (.int .i64 ((σ.later - 1 : Nat) : Int)) { σ with calls := σ.calls + 1, later := σ.later - 1 } rfl).put 7 (.int .i64 ((σ.fault - 1 : Nat) : Int)) { σ with calls := σ.calls + 1, later := σ.later - 1, fault := σ.fault - 1 } rfl).put 6 (.int .i64 ((σ.arm - 1 : Nat) : Int)) { σ with calls := σ.calls + 1, later := σ.later - 1, fault := σ.fault - 1, arm := σ.arm - 1 } rfl
        have H3 := Lib.hid h3
        have K3 := Lib.hid (K2.out.trans' (Kp.rr (p := p) (((((Kp.refl _ w2).setAt (b := p.b) 5 (.int .i64 ((σ.later - 1 : Nat) : Int))).setAt 7 (.int .i64 ((σ.fault - 1 : Nat) : Int))).setAt 6 (.int .i64 ((σ.arm - 1 : Nat) : Int))))))
        clear h3 ha H2
        rcases HFA.out with zf | zf
        all_goals
          go_wp2_with (go_at_call 179; first | (refine (less_any σ.later _ hl5).mono ?_; rintro e w' ⟨rfl, rfl⟩) | (refine (less_any σ.fault _ hl7).mono ?_; rintro e w' ⟨rfl, rfl⟩) | (refine (less_any σ.arm _ hl6).mono ?_; rintro e w' ⟨rfl, rfl⟩))
          go_ret
          exact ⟨_, _, rfl, H3.out, HRW.out _, Nat.le_refl _, K3.out⟩
  · rw [hdn] at c3
    have H := Lib.hid h
    have HW := Lib.hid hw
    clear h hw hdn
    go_enter Try.func119, Try.ntmps119
    go_wp2
    go_ret
    exact ⟨11, σ, rfl, H.out, HW.out, Nat.le_succ _, Kp.refl _ _⟩
end
end Go.Proofs.Ytocpppegmepolaa
