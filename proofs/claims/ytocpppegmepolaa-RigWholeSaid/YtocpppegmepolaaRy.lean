/- RigWhole: the walk. -/
import Derived.Test.YtocpppegmepolaaRx
set_option linter.unusedVariables false
set_option linter.unusedSimpArgs false
namespace Go.Proofs.Ytocpppegmepolaa
open Go.RowKit
attribute [local go_sem ↓] Go.wp_at_zero Go.wp_at_succ

theorem LLoss.ok.move {x : LLoss} {S S' : Nat → Prop} {w w' : World} (hm : ∀ k, k < w.heap.size → ¬ S k → ¬ S' k ∧ w'.heap[k]? = w.heap[k]?) (h : x.ok S w) : x.ok S' w' := ⟨h.1.move hm, h.2⟩
theorem LAct.ok.move {a : LAct} {S S' : Nat → Prop} {w w' : World} (hm : ∀ k, k < w.heap.size → ¬ S k → ¬ S' k ∧ w'.heap[k]? = w.heap[k]?) (h : a.ok S w) : a.ok S' w' := ⟨h.1, h.2.1, h.2.2.1.move hm, h.2.2.2.move hm⟩
def KAct : Kind LAct where
  sz := 12
  R := fun S w cs x => cs = x.cells ∧ x.ok S w
  len := by rintro _ _ _ x ⟨rfl, _⟩; rfl
  one := by
    rintro S w _ x ⟨rfl, h⟩ u hu
    simp [LAct.cells] at hu
    rcases hu with rfl | rfl | rfl | rfl | rfl | rfl | rfl | rfl | rfl | rfl | rfl | rfl <;> first | rfl | exact h.2.2.1.1.one | exact h.2.2.2.1.one
  move := fun hm h => ⟨h.1, h.2.move hm⟩
theorem actsOpen {S : Nat → Prop} {w : World} {v : Value} {xs : List LAct} (h : SlR KAct S w v xs) :
    ∃ A c, v = .slice A xs.length c ∧ c ≤ 9223372036854775807 ∧ xs.length ≤ c ∧ (0 < xs.length → ∃ b o, A = some ⟨b, o, none⟩ ∧ b < w.heap.size ∧ ∀ i (hi : i < xs.length), (xs[i]).ok S w ∧ ∀ j u, (xs[i]).cells[j]? = some u → w.cell? ⟨b, o + i * 12 + j, none⟩ = some u) := by
  obtain ⟨A, c, hv, hl, hc, h⟩ := h
  refine ⟨A, c, hv, hc, hl, fun h0 => ?_⟩
  obtain ⟨b, o, C, T, fr, rfl, hb, hh, hr⟩ := h h0
  refine ⟨b, o, rfl, blt hh, fun i hi => ?_⟩
  obtain ⟨h1, h2⟩ := hr i hi
  refine ⟨h2, fun j u hj => ?_⟩
  rw [cellOf hh]
  have := cut_at (n := 12) h1 hj
  simpa [KAct] using this
theorem crash_E {σ σ' : RigS} (h : CrashR σ σ') : σ'.stepE = 0 := by
  obtain ⟨c0, c1, _, _, rfl⟩ := h
  rfl
/-- Where RigWhole's loop stands. -/
def WInv (W : World) (p q : Spots) (k : Nat) (L : ByteArray) (wr : World) : Prop :=
  ∃ σ τ, L = σ.reg ∧ Pr wr p q σ τ ∧ σ.calls ≤ 2 * k ∧ τ.calls ≤ k ∧ Kp (FF p q) W wr

set_option maxRecDepth 100000 in
set_option maxHeartbeats 8000000 in
theorem whole_any (lv : Value) (acts : List LAct) (w : World) (hl : SlR KAct No w lv acts) :
    Calls Try.prog 3 #[lv] w fun e w' => e = .returned (.bool true) ∧ Kp No w w' := by
  obtain ⟨A, c, rfl, hc1, hc2, hA⟩ := actsOpen hl
  obtain ⟨la, hla⟩ : ∃ la, la = acts.length := ⟨_, rfl⟩
  rw [← hla] at hc2 ⊢
  have HLA := Lib.hid hla
  have HA := Lib.hid hA
  clear hA hl hla
  go_enter Try.func3, Try.ntmps3
  go_wp2_with fail
  refine (rignew_ok (S := No) w (fun _ h => h.elim)).mono ?_
  rintro e w1 ⟨p, rfl, h1, hf, k1⟩
  obtain ⟨σ0, hσ0⟩ : ∃ σ0, σ0 = rig0 := ⟨_, rfl⟩
  rw [← hσ0] at h1
  have hw0 : σ0.wf := by rw [hσ0]; exact wf_rig0
  have hr0 : σ0.reg = zeros 96 := by rw [hσ0]; rfl
  have hn0 : σ0.calls = 0 := by rw [hσ0]; rfl
  have H1 := Lib.hid h1
  have K1 := Lib.hid k1
  have HF := Lib.hid hf
  have HW0 := Lib.hid hw0
  have HR0 := Lib.hid hr0
  have HN0 := Lib.hid hn0
  clear h1 k1 hf hw0 hr0 hn0 hσ0
  go_wp2_with fail
  refine (awake12_any _).mono ?_
  rintro e w2 ⟨rfl, k2⟩
  have H2 := Lib.hid (H1.out.no k2)
  have K2 := Lib.hid (K1.out.trans' k2)
  clear k2 H1 K1
  go_wp2_with fail
  refine (zeros_96 _).mono ?_
  rintro e w3 ⟨rfl, k3⟩
  rw [← HR0.out]
  have H3 := Lib.hid (H2.out.no k3)
  have K3 := Lib.hid (K2.out.trans' k3)
  clear k3 H2 K2
  go_wp2_with fail
  refine (rnew_any (S := RF p) w3 (fun k hk => (H3.out.fp k hk).2)).mono ?_
  rintro e w4 ⟨q, τ0, rfl, h4, hw4, hn4, hf4, k4⟩
  have hPr : Pr w4 p q σ0 τ0 := ⟨H3.out.move fun k hk _ => ⟨fun x => by have := hf4 k x; omega, k4.block k hk id⟩, h4, HW0.out, hw4⟩
  have hI : WInv w4 p q 0 σ0.reg w4 := ⟨σ0, τ0, rfl, hPr, by rw [HN0.out]; omega, by rw [hn4]; omega, Kp.refl _ _⟩
  have HI := Lib.hid hI
  have hFF : ∀ k, FF p q k → w.heap.size ≤ k := fun k hk => by
    rcases hk with hk | hk
    · exact HF.out k hk
    · have := hf4 k hk; have := K3.out.size; omega
  have HFF := Lib.hid hFF
  have K4 := Lib.hid (K3.out.trans' k4)
  clear h4 hw4 hn4 hf4 k4 hPr hI hFF H3 K3 HF HW0 HR0 HN0
  go_wp2
  go_loopw [4, 6] (fun lst i wr => ∃ k : Nat, k ≤ la ∧ k ≤ 40 ∧ i = .int .i64 k ∧ ∃ L, lst = .string L ∧ WInv w4 p q k L wr) (fun _ i _ => la - (intOf i).toNat)
  case atStart => exact ⟨0, Nat.zero_le _, by omega, rfl, _, rfl, HI.out⟩
  case round =>
    clear HI
    obtain ⟨k, hkl, hk40, rfl, L, rfl, σ, τ, hL, hpr, hcs, hct, hkr⟩ := hrel
    by_cases hlt : k < la ∧ k < 40
    · obtain ⟨hlt1, hlt2⟩ := hlt
      have hkn : k < acts.length := by rw [← HLA.out]; exact hlt1
      obtain ⟨b0, o0, rfl, hb0, hrow⟩ := HA.out (by omega)
      obtain ⟨hwf, hcl⟩ := hrow k hkn
      obtain ⟨y, hy⟩ : ∃ y, y = acts[k] := ⟨_, rfl⟩
      rw [← hy] at hwf hcl
      have hm : ∀ j, j < w.heap.size → ¬ No j → ¬ FF p q j ∧ wr.heap[j]? = w.heap[j]? := fun j hj _ => by
        have hnf : ¬ FF p q j := fun x => by have := HFF.out j x; omega
        exact ⟨hnf, (hkr.block j (Nat.lt_of_lt_of_le hj K4.out.size) hnf).trans (K4.out.block j hj id)⟩
      have hok : y.ok (FF p q) wr := hwf.move hm
      have hcc : ∀ j u, y.cells[j]? = some u → wr.cell? ⟨b0, o0 + k * 12 + j, none⟩ = some u := fun j u hj => (World.cell?_of_block (hm b0 hb0 id).2).trans (hcl j u hj)
      have hys := hwf.2.1
      have hfew := few_any y wr hys
      have HOK := Lib.hid hok
      have HCC := Lib.hid hcc
      have HPR := Lib.hid hpr
      have HKR := Lib.hid hkr
      have HL := Lib.hid hL
      have hb1 : b0 < wr.heap.size := Nat.lt_of_lt_of_le hb0 (Nat.le_trans K4.out.size hkr.size)
      have hnb : ¬ FF p q b0 := (hm b0 hb0 id).1
      have HNB := Lib.hid hnb
      have hte := fun (hs : y.s.size < 300) W => text_96 y W hs
      have htl := fun (hs : y.s.size < 300) => tx_le (n := 96) hs (by omega)
      have hdo := fun (h7 : y.kd ≠ 7) (hs : y.s.size < 300) W (hp : Pr W p q σ τ) (ho : y.ok (FF p q) W) => do_any y hp h7 hs ho (by omega) (by omega)
      obtain ⟨t, htt⟩ : ∃ t, t = tx y 96 := ⟨_, rfl⟩
      simp only [← htt] at hte htl
      obtain ⟨f, hff⟩ : ∃ f, f = fewF y := ⟨_, rfl⟩
      rw [← hff] at hfew
      have hfs : f = true → y.s.size < 300 := fun h => by rw [hff] at h; exact of_decide_eq_true h
      obtain ⟨kd, d, i, m, s, raw, ⟨xv, xk, xt, xb⟩, ⟨yv, yk, yt, yb⟩⟩ := y
      have hc0 : wr.cell? ⟨b0, o0 + k * 12, none⟩ = some (.int .i64 kd) := hcc 0 _ rfl
      have hc1 := hcc 1 _ rfl
      have hc2' := hcc 2 _ rfl
      have hc3 := hcc 3 _ rfl
      have hc4 := hcc 4 _ rfl
      have hc5 := hcc 5 _ rfl
      have hc6 := hcc 6 _ rfl
      have hc7 := hcc 7 _ rfl
      have hc8 := hcc 8 _ rfl
      have hc9 := hcc 9 _ rfl
      have hc10 := hcc 10 _ rfl
      have hc11 := hcc 11 _ rfl
      have HFEW : Hid (Calls Try.prog 27 #[.agg #[.int .i64 kd, .int .i64 d, .int .i64 i, .int .i64 m, .string s, .bool raw, xv, .int .i64 xt, .int .i64 xb, yv, .int .i64 yt, .int .i64 yb]] wr fun e w' => e = .returned (.bool f) ∧ Kp No wr w') := Lib.hid hfew
      have HTE : Hid (s.size < 300 → ∀ W, Calls Try.prog 28 #[.agg #[.int .i64 kd, .int .i64 d, .int .i64 i, .int .i64 m, .string s, .bool raw, xv, .int .i64 xt, .int .i64 xb, yv, .int .i64 yt, .int .i64 yb], .int .i64 96] W fun e w' => e = .returned (.string t) ∧ Kp No W w') := Lib.hid hte
      have HDO : Hid (kd ≠ 7 → s.size < 300 → ∀ W, Pr W p q σ τ → LAct.ok ⟨kd, d, i, m, s, raw, ⟨xv, xk, xt, xb⟩, ⟨yv, yk, yt, yb⟩⟩ (FF p q) W → Calls Try.prog 30 #[.pointer (some ⟨p.b, 0, none⟩), .pointer (some ⟨q.b, 0, none⟩), .agg #[.int .i64 kd, .int .i64 d, .int .i64 i, .int .i64 m, .string s, .bool raw, xv, .int .i64 xt, .int .i64 xb, yv, .int .i64 yt, .int .i64 yb]] W (DoP W p q σ τ)) := Lib.hid hdo
      have HFS := Lib.hid hfs
      have HTL := Lib.hid htl
      have i0 : (0 : Int) ≤ (k : Int) := by omega
      have i1 : (k : Int) < (la : Int) := by omega
      have i2 : (k : Int) < 40 := by omega
      clear hy hwf hcl hm hok hcc hpr hkr hL hrow hfew hte hdo htt hff hfs htl hnb hys
      cases f
      · go_wp2_with fail
        refine HFEW.out.mono ?_
        rintro e w5 ⟨rfl, k5⟩
        have hfin : WInv w4 p q (k + 1) L w5 := ⟨σ, τ, HL.out, HPR.out.no k5, by omega, by omega, HKR.out.transNo k5⟩
        have HFIN := Lib.hid hfin
        clear hfin k5 hc0 hc1 hc2' hc3 hc4 hc5 hc6 hc7 hc8 hc9 hc10 hc11 HFEW HTE HDO
        go_wp2
        go_roundw
        case rel => exact ⟨k + 1, by omega, by omega, by go_num, L, rfl, HFIN.out⟩
        case measure => simp [intOf]; omega
      · have hs := HFS.out rfl
        have ht300 := HTL.out hs
        by_cases h7 : kd = 7
        · subst h7
          go_wp2_with fail
          refine HFEW.out.mono ?_
          rintro e w5 ⟨rfl, k5⟩
          have x0 := k5.cell' hc0
          have x1 := k5.cell' hc1
          have x2 := k5.cell' hc2'
          have x3 := k5.cell' hc3
          have x4 := k5.cell' hc4
          have x5 := k5.cell' hc5
          have x6 := k5.cell' hc6
          have x7 := k5.cell' hc7
          have x8 := k5.cell' hc8
          have x9 := k5.cell' hc9
          have x10 := k5.cell' hc10
          have x11 := k5.cell' hc11
          have HP5 := Lib.hid (HPR.out.no k5)
          have K5 := Lib.hid (HKR.out.transNo k5)
          clear k5 hc0 hc1 hc2' hc3 hc4 hc5 hc6 hc7 hc8 hc9 hc10 hc11 HFEW HDO HPR HKR
          go_wp2_with fail
          refine (HTE.out hs _).mono ?_
          rintro e w6 ⟨rfl, k6⟩
          have HP6 := Lib.hid (HP5.out.no k6)
          have K6 := Lib.hid (K5.out.transNo k6)
          clear k6 HP5 K5 HTE x0 x1 x2 x3 x4 x5 x6 x7 x8 x9 x10 x11
          by_cases h96 : t.size = 96
          · by_cases hE : σ.stepE = 0
            · go_wp2_with fail
              refine (rsetreg_ok t w6 HP6.out.1 HP6.out.2.2.1 (by omega) h96).mono ?_
              rintro e w3 ⟨rfl, h3, k3⟩
              rw [hE]
              have HP3 := Lib.hid (HP6.out.rig h3 (wf_regd t HP6.out.2.2.1) k3)
              have K3 := Lib.hid (K6.out.trans' (k3.f1 (q := q)))
              obtain ⟨σ3, hσ3⟩ : ∃ σ3, σ3 = σ.regd t := ⟨_, rfl⟩
              have hc3 : σ3.calls ≤ 2 * k + 1 := by rw [hσ3]; have := (regd_reg σ t).2; omega
              have HL3' : Hid (t = σ3.reg) := Lib.hid (by rw [hσ3, (regd_reg σ t).1, if_pos hE])
              rw [← hσ3] at HP3
              clear h3 k3 HP6 K6 hσ3 hE h96
              go_wp2_with fail
              obtain ⟨L3, hL3⟩ : ∃ L3, L3 = t := ⟨_, rfl⟩
              rw [← hL3] at HL3' ⊢
              have HL3 := HL3'
              obtain ⟨τ3, hτ3⟩ : ∃ τ3, τ3 = τ := ⟨_, rfl⟩
              rw [← hτ3] at HP3
              have ht3 : τ3.calls ≤ k + 1 := by rw [hτ3]; omega
              clear hL3 HL3' hτ3
              refine (rreg_ok w3 HP3.out.1 HP3.out.2.2.1 (by omega)).mono ?_
              rintro e w8 ⟨rfl, h8, k8⟩
              have hfin : WInv w4 p q (k + 1) L3 w8 := ⟨σ3.step, τ3, HL3.out.trans (step_reg σ3).symm, HP3.out.rig h8 (wf_step HP3.out.2.2.1) k8, by have := step_calls σ3; omega, by omega, K3.out.trans' (k8.f1 (q := q))⟩
              have HFIN := Lib.hid hfin
              clear hfin h8 k8 K3
              by_cases hE : σ3.stepE = 0
              · rw [if_pos hE, hE, ← HL3.out]
                clear hE
                go_wp2
                go_roundw
                case rel => exact ⟨k + 1, by omega, by omega, by go_num, L3, rfl, HFIN.out⟩
                case measure => simp [intOf]; omega
              · have zE : (σ3.stepE == 0) = false := by rw [beq_eq_false_iff_ne]; exact hE
                clear hE
                go_wp2
                go_roundw
                case rel => exact ⟨k + 1, by omega, by omega, by go_num, L3, rfl, HFIN.out⟩
                case measure => simp [intOf]; omega
            · have zE : (σ.stepE == 0) = false := by rw [beq_eq_false_iff_ne]; exact hE
              go_wp2_with fail
              refine (rsetreg_ok t w6 HP6.out.1 HP6.out.2.2.1 (by omega) h96).mono ?_
              rintro e w3 ⟨rfl, h3, k3⟩
              have HP3 := Lib.hid (HP6.out.rig h3 (wf_regd t HP6.out.2.2.1) k3)
              have K3 := Lib.hid (K6.out.trans' (k3.f1 (q := q)))
              obtain ⟨σ3, hσ3⟩ : ∃ σ3, σ3 = σ.regd t := ⟨_, rfl⟩
              have hc3 : σ3.calls ≤ 2 * k + 1 := by rw [hσ3]; have := (regd_reg σ t).2; omega
              have HL3' : Hid (L = σ3.reg) := Lib.hid (by rw [hσ3, (regd_reg σ t).1, if_neg hE]; exact HL.out)
              rw [← hσ3] at HP3
              clear h3 k3 HP6 K6 hσ3 hE h96
              go_wp2_with fail
              obtain ⟨L3, hL3⟩ : ∃ L3, L3 = L := ⟨_, rfl⟩
              rw [← hL3] at HL3' ⊢
              have HL3 := HL3'
              obtain ⟨τ3, hτ3⟩ : ∃ τ3, τ3 = τ := ⟨_, rfl⟩
              rw [← hτ3] at HP3
              have ht3 : τ3.calls ≤ k + 1 := by rw [hτ3]; omega
              clear hL3 HL3' hτ3 zE
              refine (rreg_ok w3 HP3.out.1 HP3.out.2.2.1 (by omega)).mono ?_
              rintro e w8 ⟨rfl, h8, k8⟩
              have hfin : WInv w4 p q (k + 1) L3 w8 := ⟨σ3.step, τ3, HL3.out.trans (step_reg σ3).symm, HP3.out.rig h8 (wf_step HP3.out.2.2.1) k8, by have := step_calls σ3; omega, by omega, K3.out.trans' (k8.f1 (q := q))⟩
              have HFIN := Lib.hid hfin
              clear hfin h8 k8 K3
              by_cases hE : σ3.stepE = 0
              · rw [if_pos hE, hE, ← HL3.out]
                clear hE
                go_wp2
                go_roundw
                case rel => exact ⟨k + 1, by omega, by omega, by go_num, L3, rfl, HFIN.out⟩
                case measure => simp [intOf]; omega
              · have zE : (σ3.stepE == 0) = false := by rw [beq_eq_false_iff_ne]; exact hE
                clear hE
                go_wp2
                go_roundw
                case rel => exact ⟨k + 1, by omega, by omega, by go_num, L3, rfl, HFIN.out⟩
                case measure => simp [intOf]; omega
          · go_wp2_with fail
            refine (rsetreg_bad t p.b w6 h96 (by omega)).mono ?_
            rintro e w3 ⟨rfl, k3⟩
            have HP3 := Lib.hid (HP6.out.no k3)
            have K3 := Lib.hid (K6.out.transNo k3)
            obtain ⟨σ3, hσ3⟩ : ∃ σ3, σ3 = σ := ⟨_, rfl⟩
            have hc3 : σ3.calls ≤ 2 * k + 1 := by rw [hσ3]; omega
            have HL3' : Hid (L = σ3.reg) := Lib.hid (by rw [hσ3]; exact HL.out)
            rw [← hσ3] at HP3
            clear k3 HP6 K6 hσ3 h96
            go_wp2_with fail
            obtain ⟨L3, hL3⟩ : ∃ L3, L3 = L := ⟨_, rfl⟩
            rw [← hL3] at HL3' ⊢
            have HL3 := HL3'
            obtain ⟨τ3, hτ3⟩ : ∃ τ3, τ3 = τ := ⟨_, rfl⟩
            rw [← hτ3] at HP3
            have ht3 : τ3.calls ≤ k + 1 := by rw [hτ3]; omega
            clear hL3 HL3' hτ3
            refine (rreg_ok w3 HP3.out.1 HP3.out.2.2.1 (by omega)).mono ?_
            rintro e w8 ⟨rfl, h8, k8⟩
            have hfin : WInv w4 p q (k + 1) L3 w8 := ⟨σ3.step, τ3, HL3.out.trans (step_reg σ3).symm, HP3.out.rig h8 (wf_step HP3.out.2.2.1) k8, by have := step_calls σ3; omega, by omega, K3.out.trans' (k8.f1 (q := q))⟩
            have HFIN := Lib.hid hfin
            clear hfin h8 k8 K3
            by_cases hE : σ3.stepE = 0
            · rw [if_pos hE, hE, ← HL3.out]
              clear hE
              go_wp2
              go_roundw
              case rel => exact ⟨k + 1, by omega, by omega, by go_num, L3, rfl, HFIN.out⟩
              case measure => simp [intOf]; omega
            · have zE : (σ3.stepE == 0) = false := by rw [beq_eq_false_iff_ne]; exact hE
              clear hE
              go_wp2
              go_roundw
              case rel => exact ⟨k + 1, by omega, by omega, by go_num, L3, rfl, HFIN.out⟩
              case measure => simp [intOf]; omega
        · have z7 : (kd == 7) = false := by rw [beq_eq_false_iff_ne]; exact h7
          have H7 := Lib.hid h7
          clear h7
          go_wp2_with fail
          refine HFEW.out.mono ?_
          rintro e w5 ⟨rfl, k5⟩
          have x0 := k5.cell' hc0
          have x1 := k5.cell' hc1
          have x2 := k5.cell' hc2'
          have x3 := k5.cell' hc3
          have x4 := k5.cell' hc4
          have x5 := k5.cell' hc5
          have x6 := k5.cell' hc6
          have x7 := k5.cell' hc7
          have x8 := k5.cell' hc8
          have x9 := k5.cell' hc9
          have x10 := k5.cell' hc10
          have x11 := k5.cell' hc11
          have HP5 := Lib.hid (HPR.out.no k5)
          have K5 := Lib.hid (HKR.out.transNo k5)
          have HOK5 := Lib.hid (HOK.out.no k5)
          clear k5 hc0 hc1 hc2' hc3 hc4 hc5 hc6 hc7 hc8 hc9 hc10 hc11 HFEW HPR HKR
          go_wp2_with fail
          refine (HDO.out H7.out hs _ HP5.out HOK5.out).mono ?_
          rintro e w3 ⟨b, σ3, τ3, rfl, h3, e1, e2, e3, k3⟩
          have HP3 := Lib.hid h3
          have K3 := Lib.hid (K5.out.trans' k3)
          have hc3 : σ3.calls ≤ 2 * k + 1 := by omega
          have ht3 : τ3.calls ≤ k + 1 := by omega
          obtain ⟨L3, hL3⟩ : ∃ L3, L3 = L := ⟨_, rfl⟩
          have HL3 : Hid (L3 = σ3.reg) := Lib.hid (by rw [hL3, e1]; exact HL.out)
          rw [← hL3]
          clear h3 k3 e1 e2 e3 HP5 K5 HDO hL3 x0 x1 x2 x3 x4 x5 x6 x7 x8 x9 x10 x11
          go_wp2_with fail
          refine (rreg_ok w3 HP3.out.1 HP3.out.2.2.1 (by omega)).mono ?_
          rintro e w8 ⟨rfl, h8, k8⟩
          have hfin : WInv w4 p q (k + 1) L3 w8 := ⟨σ3.step, τ3, HL3.out.trans (step_reg σ3).symm, HP3.out.rig h8 (wf_step HP3.out.2.2.1) k8, by have := step_calls σ3; omega, by omega, K3.out.trans' (k8.f1 (q := q))⟩
          have HFIN := Lib.hid hfin
          clear hfin h8 k8 K3
          by_cases hE : σ3.stepE = 0
          · rw [if_pos hE, hE, ← HL3.out]
            clear hE
            go_wp2
            go_roundw
            case rel => exact ⟨k + 1, by omega, by omega, by go_num, L3, rfl, HFIN.out⟩
            case measure => simp [intOf]; omega
          · have zE : (σ3.stepE == 0) = false := by rw [beq_eq_false_iff_ne]; exact hE
            clear hE
            go_wp2
            go_roundw
            case rel => exact ⟨k + 1, by omega, by omega, by go_num, L3, rfl, HFIN.out⟩
            case measure => simp [intOf]; omega
    · have hL2 : ∃ g : Bool, g = true := ⟨true, rfl⟩
      have hex : (k = la) ∨ (k < la ∧ k = 40) := by omega
      have HPR := Lib.hid hpr
      have HKR := Lib.hid hkr
      have HL := Lib.hid hL
      clear hpr hkr hL hlt HA hL2
      rcases hex with hq | ⟨hq1, hq2⟩
      case' inl => have hge : la ≤ k := by omega
      case' inl => clear hq
      case' inr => have hge : 40 ≤ k := by omega
      case' inr => clear hq2
      all_goals
        go_wp2_with fail
        refine (rcrash_ok Loss0 Loss0 wr HPR.out.1 HPR.out.2.2.1 (Loss0_ok _ _) (Loss0_ok _ _)).mono ?_
        rintro e w5 ⟨rfl, ⟨σ5, h5, hcr⟩, k5⟩
        have hwc := wf_crash hcr HPR.out.2.2.1
        have hE5 := crash_E hcr
        have HP5 := Lib.hid (HPR.out.rig h5 hwc.1 k5)
        have K5 := Lib.hid (HKR.out.trans' (k5.f1 (q := q)))
        have HL5 : Hid (L = σ5.reg) := Lib.hid (by rw [hwc.2.1]; exact HL.out)
        have hc5 : σ5.calls ≤ 1000000 := by rw [hwc.2.2]; omega
        have HE5 := Lib.hid hE5
        clear h5 hcr k5 hwc hE5 HPR HKR
        go_wp2_with fail
        refine (rreg_ok w5 HP5.out.1 HP5.out.2.2.1 (by omega)).mono ?_
        rintro e w6 ⟨rfl, h6, k6⟩
        rw [if_pos HE5.out, HE5.out, ← HL5.out]
        have K6 := Lib.hid (K5.out.trans' (k6.f1 (q := q)))
        clear h6 k6 HP5 K5 HL5 HE5 hc5
        go_wp2
        go_ret
        exact ⟨rfl, K4.out.trans K6.out (fun j hj x => by have := HFF.out j x; omega)⟩
end Go.Proofs.Ytocpppegmepolaa
