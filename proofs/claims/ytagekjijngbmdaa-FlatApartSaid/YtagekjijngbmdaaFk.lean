/- flat: Crash. -/
import Derived.Test.YtagekjijngbmdaaFj
set_option linter.unusedVariables false
set_option linter.unusedSimpArgs false
namespace Go.Proofs.Ytagekjijngbmdaa
open Go.RowKit
attribute [local go_sem ↓] Go.wp_at_zero Go.wp_at_succ

def one (s : St) : Ch := [s]
def has (outs : List St) (st : St) : Bool := outs.any fun o => decide (st = o)
theorem has_true {outs : List St} {st : St} : has outs st = true ↔ st ∈ outs := by
  unfold has
  rw [List.any_eq_true]
  exact ⟨fun ⟨x, hx, he⟩ => (of_decide_eq_true he) ▸ hx, fun h => ⟨st, h, decide_eq_true rfl⟩⟩

set_option maxHeartbeats 2000000 in
theorem there_any {S : Nat → Prop} (v sv : Value) (bo : Nat) (outs : List St) (st : St) (w : World) (hc : w.cell? ⟨bo, 0, none⟩ = some v) (h : SlR KCh S w v (outs.map one)) (h' : SlR KStr S w sv st) (hst : st.length ≤ 1000) (hos : ∀ s ∈ outs, s.length ≤ 1000) (hl : outs.length ≤ 1000000000) :
    Calls Try.prog 27 #[sv, .pointer (some ⟨bo, 0, none⟩)] w fun e w' => e = .returned (.bool (has outs st)) ∧ Kp No w w' := by
  obtain ⟨A, c, rfl, _, _, hA⟩ := h.open1' rfl
  obtain ⟨B, d, rfl, _, _⟩ := h'.slice
  have HA := Lib.hid hA
  have HS := Lib.hid h'
  have hml : (outs.map one).length = outs.length := List.length_map _
  rw [hml] at hc
  obtain ⟨n, hn⟩ : ∃ n, n = outs.length := ⟨_, rfl⟩
  rw [← hn] at hc hl
  have HN := Lib.hid hn
  obtain ⟨m, hm⟩ : ∃ m, m = st.length := ⟨_, rfl⟩
  rw [← hm] at HS hst ⊢
  have HM := Lib.hid hm
  clear hA h h' hn hm hml
  go_enter Try.func27, Try.ntmps27
  go_wp2
  go_step3
  go_wp2
  go_step3
  go_wp2
  go_loopw [5, 12] (fun f i wr => ∃ k : Nat, k ≤ n ∧ i = .int .i64 k ∧ f = .bool false ∧ (∀ o ∈ outs.take k, st ≠ o) ∧ Kp No w wr) (fun _ i _ => n - (intOf i).toNat)
  case atStart => exact ⟨0, Nat.zero_le _, rfl, rfl, by simp, Kp.refl _ _⟩
  case round =>
    obtain ⟨k, hk, rfl, rfl, he, hkr⟩ := hrel
    by_cases hlt : k < n
    · have hkn : k < outs.length := by rw [← HN.out]; exact hlt
      obtain ⟨b, o, rfl, _, hbl, hr⟩ := HA.out (by rw [List.length_map]; omega)
      obtain ⟨u, hcu, hu⟩ := hr k (by rw [List.length_map]; exact hkn)
      obtain ⟨os, hos'⟩ : ∃ os, os = outs[k] := ⟨_, rfl⟩
      rw [List.getElem_map, ← hos'] at hu
      have hu' : SlR (KSl KStr) S w u [os] := KSl_R hu
      obtain ⟨b2, o2, c2, rfl, hc2, _, _, _, hr2⟩ := hu'.open1 rfl (by simp)
      obtain ⟨u2, hcu2, hu2⟩ := hr2 0 (by simp)
      have hu3 : SlR KStr S w u2 os := KSl_R hu2
      obtain ⟨A3, c3, rfl, _, _⟩ := hu3.slice
      have hcr := hkr.cell' hcu
      have hcr2 := hkr.cell' hcu2
      have hol : os.length ≤ 1000 := hos os (hos' ▸ List.getElem_mem _)
      have i0 : (0 : Int) ≤ (k : Int) := by omega
      have i1 : (k : Int) < (n : Int) := by omega
      have HC := Lib.hid (same_any (S := S) _ _ st os wr (by have := HS.out; rw [HM.out] at this; exact this.no hkr) (hu3.no hkr) (by rw [← HM.out]; exact hst) hol)
      rw [← HM.out] at HC
      simp only [List.length_singleton, Nat.add_zero] at hcr hcr2 hc2
      have HE := Lib.hid he
      have HK := Lib.hid hkr
      have HO := Lib.hid hos'
      clear he hkr hos' hu hu' hu2 hu3 hr hr2 hcu hcu2
      by_cases hse : st = os
      · have hz : decide (st = os) = true := decide_eq_true hse
        have HSE := Lib.hid hse
        clear hse
        go_wp2_with (go_at_call 28; refine HC.out.mono ?_; rintro e w1 ⟨rfl, hk1⟩; rw [hz])
        rw [Exit.noGoto_ret]
        go_ret
        exact ⟨ret_bool (Eq.symm (has_true.2 (by rw [HSE.out, HO.out]; exact List.getElem_mem _))), HK.out.trans' hk1⟩
      · have hz : decide (st = os) = false := decide_eq_false hse
        have HSE := Lib.hid hse
        clear hse
        go_wp2_with (go_at_call 28; refine HC.out.mono ?_; rintro e w1 ⟨rfl, hk1⟩; rw [hz])
        go_roundw
        case rel =>
          refine ⟨k + 1, by omega, by go_num, rfl, ?_, HK.out.trans' hk1⟩
          intro o ho
          rw [List.take_succ_eq_append_getElem hkn, List.mem_append] at ho
          rcases ho with ho | ho
          · exact HE.out o ho
          · rw [List.mem_singleton.1 ho, ← HO.out]; exact HSE.out
        case measure => simp [intOf]; omega
    · obtain rfl : k = n := by omega
      have HE := Lib.hid he
      have HK := Lib.hid hkr
      clear he hkr
      go_wp2
      first | rw [Exit.noGoto_ret] | skip
      go_ret
      refine ⟨ret_bool (Eq.symm ?_), HK.out⟩
      rw [Bool.eq_false_iff, Ne, has_true]
      intro hm
      exact HE.out st (by rw [HN.out, List.take_length]; exact hm) rfl
end Go.Proofs.Ytagekjijngbmdaa
