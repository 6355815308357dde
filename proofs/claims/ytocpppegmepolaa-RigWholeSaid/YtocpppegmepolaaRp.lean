/- the reference of layer 10: New. -/
import Derived.Test.YtocpppegmepolaaRn
import Derived.Test.YtocpppegmepolaaStep
set_option linter.unusedVariables false
set_option linter.unusedSimpArgs false
namespace Go.Proofs.Ytocpppegmepolaa
open Go.RowKit
attribute [local go_sem ↓] Go.wp_at_zero Go.wp_at_succ

theorem eg_zeros : ∀ args w, (callFunc 25 args).run Try.prog w = .ok (.enter 25 args) w := enters_of Try.func25 (by kernel_rfl) rfl
theorem KStr_flat : KStr.flat := fun _ _ _ _ _ _ h => h
theorem KBool_flat : KBool.flat := fun _ _ _ _ _ _ h => h
theorem KInt_flat : KInt.flat := fun _ _ _ _ _ _ h => h

set_option maxHeartbeats 400000 in
theorem zeros_grow (w : World) :
    Calls Try.prog 25 #[.int .i64 64] w fun e w' => e = .returned (.string (zeros 64)) ∧ Kp No w w' ∧ w.heap.size < w'.heap.size := by
  have hmk : ∀ W : World, (Instr.makeSlice 108 (.int .i64 64) (.int .i64 64)).run Try.prog W = .ok (.slice (some ⟨W.heap.size, 0, none⟩) 64 64) (W.alloc (.cells (mz 64) 5)) := mz_mk 64 (by omega)
  have hcv := mz_cv 64
  obtain ⟨z, hz⟩ : ∃ z, z = zeros 64 := ⟨_, rfl⟩
  rw [← hz] at hcv ⊢
  clear hz
  go_enter Try.func25, Try.ntmps25
  go_wp2
  go_ret
  exact ⟨rfl, (Kp.refl _ _).alloc _, by simp⟩
/-- Where New's loop stands: the struct in block B, three rows of its own. -/
def RNew (S : Nat → Prop) (B : Nat) (z : ByteArray) (k : Nat) (w : World) : Prop :=
  ∃ vN vS vI, w.heap[B]? = some (.cells #[vN, vS, vI] 246 (0, 0)) ∧ OwR KStr 9 (B + 1) S w vN (List.replicate k z) ∧ OwR KStr 9 (B + 1) S w vS (List.replicate k z) ∧ OwR KBool 4 (B + 1) S w vI (List.replicate k false) ∧
    (∀ j, vN.ownBlock = some j → vS.ownBlock ≠ some j ∧ vI.ownBlock ≠ some j) ∧ (∀ j, vS.ownBlock = some j → vI.ownBlock ≠ some j)
set_option maxRecDepth 100000 in
set_option maxHeartbeats 8000000 in
theorem rdnew_any {S : Nat → Prop} (w : World) (hS : ∀ k, S k → k < w.heap.size) :
    Calls Try.prog 115 #[.int .i64 288] w fun e w' => ∃ d, e = .returned (.pointer (some ⟨d, 0, none⟩)) ∧ RD S w' d ∧ w.heap.size ≤ d ∧ Kp No w w' := by
  obtain ⟨N, hN⟩ : ∃ N, N = 288 := ⟨_, rfl⟩
  obtain ⟨z, hz⟩ : ∃ z, z = zeros 64 := ⟨_, rfl⟩
  have hZ : ∀ W, Calls Try.prog 25 #[.int .i64 64] W fun e w' => e = .returned (.string z) ∧ Kp No W w' ∧ W.heap.size < w'.heap.size := fun W => by rw [hz]; exact zeros_grow W
  have HZ := Lib.hid hZ
  have HZZ := Lib.hid hz
  have hNi : (288 : Int) = (N : Int) := by omega
  have hN3 : N ≤ 288 := by omega
  have HNN := Lib.hid hN
  obtain ⟨B, hB⟩ : ∃ B, B = w.heap.size := ⟨_, rfl⟩
  have hb0 := heap_new w (.cells #[.slice none 0 0, .slice none 0 0, .slice none 0 0] 246)
  rw [← hB] at hb0
  have HB0 := Lib.hid hb0
  have HB := Lib.hid hB
  have hBw : w.heap.size ≤ B := by omega
  have hBw2 : B ≤ w.heap.size := by omega
  have HS := Lib.hid hS
  rw [hNi]
  clear hZ hz hNi hN hb0 hS hB
  go_enter Try.func115, Try.ntmps115
  go_wp2
  rw [← HB.out]
  go_loopw [4] (fun i wr => ∃ k : Nat, k ≤ N ∧ i = .int .i64 k ∧ RNew S B z k wr ∧ Kp No w wr) (fun i _ => N - (intOf i).toNat)
  case atStart => exact ⟨0, Nat.zero_le _, rfl, ⟨_, _, _, HB0.out, OwR.nil _ _ _ _ _, OwR.nil _ _ _ _ _, OwR.nil _ _ _ _ _, fun j e => by simp [Value.ownBlock] at e, fun j e => by simp [Value.ownBlock] at e⟩, (Kp.refl _ _).alloc _⟩
  case round =>
    clear HB0
    obtain ⟨k, hk, rfl, ⟨vN, vS, vI, hb, hn, hs, hi, hd1, hd2⟩, hkr⟩ := hrel
    have hbl := blt hb
    have c0 := cellOf hb 0
    by_cases hlt : k < N
    · obtain ⟨A1, c1, rfl, _, _⟩ := hn.len
      rw [List.length_replicate] at hn hb c0 hd1
      have HN := Lib.hid hn
      have HSs := Lib.hid hs
      have HI := Lib.hid hi
      have HBk := Lib.hid hb
      have hne1 : Hid (∀ j, (Value.slice A1 k c1).ownBlock = some j → ¬ B = j) := Lib.hid fun j e x => by have := (hn.lt e).1; omega
      have HK := Lib.hid hkr
      have HD1 := Lib.hid hd1
      have HD2 := Lib.hid hd2
      clear hn hs hi hb hkr hd1 hd2
      go_wp2_with fail
      go_region_law ((first
          | (refine step_fn (f := 25) (by rfl) _ _ (by rfl) eg_zeros _ (by rfl) (HZ.out _) ?_; rintro e w1 ⟨rfl, k1, g1⟩; refine ⟨_, rfl, ?_⟩; have kk1 := (Kp.dr wr).trans' k1; have c0' := kk1.cell' c0; have hl1 := Nat.lt_of_lt_of_le hbl kk1.size)
          | (refine step_ap1 (K := KStr) (S := S) w1 (by rfl) _ _ 48 (by rfl) (B + 1) 9 9 _ 16 Try.underlying48 I_str rfl (by decide) (by decide) _ (List.replicate k z) (by rfl) ?_ 1 1 (by rfl) rfl _ z ?_ ?_ ?_ ?_; (exact HN.out.no kk1); rfl; (have := kk1.size; omega); (rw [List.length_replicate]; omega); intro v2 w2 hv2 hk2 hat; have hB2 := hk2.heap (kk1.heap HBk.out id) (fun x => hne1.out _ x rfl); have cB := cellOf hB2 0; have fB := freeOf hB2 0; obtain ⟨A2, d2, rfl, _, _⟩ := hv2.len)))
      all_goals
        obtain ⟨W1, hW1⟩ : ∃ W1, W1 = w2.setCell ⟨B, 0, none⟩ (.slice A2 (k + 1) d2) := ⟨_, rfl⟩
        rw [← hW1]
        rw [← List.replicate_succ'] at hv2
        have ha0 : ∀ j, (Value.slice A2 (k + 1) d2).ownBlock = some j → vS.ownBlock ≠ some j ∧ vI.ownBlock ≠ some j := fun j e => by
          rcases hat with h | ⟨b, h1, h2⟩
          · rw [List.length_append, List.length_replicate] at h
            exact HD1.out j (by rw [← e]; exact h.symm)
          · rw [List.length_append, List.length_replicate] at h1
            have : b = j := by have h3 : (Value.slice A2 (k + 1) d2).ownBlock = some b := h1; rw [h3] at e; injection e
            subst this
            have g9 : wr.heap.size < w1.heap.size := g1
            exact ⟨fun x => by have := (HSs.out.lt x).2; omega, fun x => by have := (HI.out.lt x).2; omega⟩
        have k12 : Kp (fun j => (Value.slice A1 k c1).ownBlock = some j) wr w2 := kk1.no.trans' hk2
        have e1 : W1.heap[B]? = some (.cells #[.slice A2 (k + 1) d2, vS, vI] 246 (0, 0)) := by rw [hW1, heap_set hB2]; rfl
        have e2 : OwR KStr 9 (B + 1) S W1 (.slice A2 (k + 1) d2) (List.replicate (k + 1) z) := by
          rw [hW1]
          have := hv2.far KStr_flat (p := ⟨B, 0, none⟩) (fun j e x => by have := (hv2.lt e).1; simp at x; omega) (.slice A2 (k + 1) d2)
          simpa using this
        have e3 : OwR KStr 9 (B + 1) S W1 vS (List.replicate k z) := by
          rw [hW1]
          refine (HSs.out.flat KStr_flat (fun j e => k12.block j (HSs.out.lt e).2 fun x => (HD1.out j x).1 e)).far KStr_flat (p := ⟨B, 0, none⟩) (fun j e x => ?_) _
          have := (HSs.out.lt e).1; simp at x; omega
        have e4 : OwR KBool 4 (B + 1) S W1 vI (List.replicate k false) := by
          rw [hW1]
          refine (HI.out.flat KBool_flat (fun j e => k12.block j (HI.out.lt e).2 fun x => (HD1.out j x).2 e)).far KBool_flat (p := ⟨B, 0, none⟩) (fun j e x => ?_) _
          have := (HI.out.lt e).1; simp at x; omega
        have e5 : Kp No w W1 := by
          rw [hW1]
          exact (HK.out.trans k12 (fun j hj e => by have := (HN.out.lt e).1; omega)).setCell (p := ⟨B, 0, none⟩) (.inr (by show w.heap.size ≤ B; exact hBw)) _
        have E1 := Lib.hid e1
        have E2 := Lib.hid e2
        have E3 := Lib.hid e3
        have E4 := Lib.hid e4
        have E5 := Lib.hid e5
        have HA0 := Lib.hid ha0
        clear hW1 hv2 hk2 hat hB2 cB fB k12 ha0 e1 e2 e3 e4 e5 hne1 HN HSs HI HBk HK HD1 kk1 k1 g1 c0
        try clear c0' hl1
        have hbl1 := blt E1.out
        have c1' := cellOf E1.out 1
        obtain ⟨A3, c3, rfl, _, _⟩ := E3.out.len
        have E3' := E3.out
        rw [List.length_replicate] at E3' c1'
        have c1'' : W1.cell? ⟨B, 1, none⟩ = some (.slice A3 k c3) := c1'
        have E3 := Lib.hid E3'
        have hne2 : Hid (∀ j, (Value.slice A3 k c3).ownBlock = some j → ¬ B = j) := Lib.hid fun j e x => by have := (E3.out.lt e).1; omega
        clear E3' c1'
        go_wp2_with fail
        go_region_law ((first
          | (refine step_fn (f := 25) (by rfl) _ _ (by rfl) eg_zeros _ (by rfl) (HZ.out _) ?_; rintro e w3 ⟨rfl, k3, g3⟩; refine ⟨_, rfl, ?_⟩; have kk3 := (Kp.dr W1).trans' k3; have c0'' := kk3.cell' c1''; have hl3 := Nat.lt_of_lt_of_le hbl1 kk3.size)
          | (refine step_ap1 (K := KStr) (S := S) w3 (by rfl) _ _ 48 (by rfl) (B + 1) 9 9 _ 16 Try.underlying48 I_str rfl (by decide) (by decide) _ (List.replicate k z) (by rfl) ?_ 1 1 (by rfl) rfl _ z ?_ ?_ ?_ ?_; (exact E3.out.no kk3); rfl; (have := kk3.size; omega); (rw [List.length_replicate]; omega); intro v4 w4 hv4 hk4 hat4; have hB4 := hk4.heap (kk3.heap E1.out id) (fun x => hne2.out _ x rfl); have cB4 := cellOf hB4 1; have fB4 := freeOf hB4 1; obtain ⟨A4, d4, rfl, _, _⟩ := hv4.len)))
        all_goals
          obtain ⟨W2, hW2⟩ : ∃ W2, W2 = w4.setCell ⟨B, 1, none⟩ (.slice A4 (k + 1) d4) := ⟨_, rfl⟩
          rw [← hW2]
          rw [← List.replicate_succ'] at hv4
          have g9 : W1.heap.size < w3.heap.size := g3
          have k34 : Kp (fun j => (Value.slice A3 k c3).ownBlock = some j) W1 w4 := kk3.no.trans' hk4
          have hb0 : ∀ j, (Value.slice A4 (k + 1) d4).ownBlock = some j → (Value.slice A3 k c3).ownBlock = some j ∨ W1.heap.size ≤ j := fun j e => by
            rcases hat4 with h | ⟨b, h1, h2⟩
            · rw [List.length_append, List.length_replicate] at h
              exact .inl (by rw [← e]; exact h.symm)
            · rw [List.length_append, List.length_replicate] at h1
              have : b = j := by have h3 : (Value.slice A4 (k + 1) d4).ownBlock = some b := h1; rw [h3] at e; injection e
              subst this
              exact .inr (by omega)
          have e1 : W2.heap[B]? = some (.cells #[.slice A2 (k + 1) d2, .slice A4 (k + 1) d4, vI] 246 (0, 0)) := by rw [hW2, heap_set hB4]; rfl
          have e2 : OwR KStr 9 (B + 1) S W2 (.slice A2 (k + 1) d2) (List.replicate (k + 1) z) := by
            rw [hW2]
            refine (E2.out.flat KStr_flat (fun j e => k34.block j (E2.out.lt e).2 fun x => (HA0.out j e).1 (by simpa using x))).far KStr_flat (p := ⟨B, 1, none⟩) (fun j e x => ?_) _
            have := (E2.out.lt e).1; simp at x; omega
          have e3 : OwR KStr 9 (B + 1) S W2 (.slice A4 (k + 1) d4) (List.replicate (k + 1) z) := by
            rw [hW2]
            have := hv4.far KStr_flat (p := ⟨B, 1, none⟩) (fun j e x => by have := (hv4.lt e).1; simp at x; omega) (.slice A4 (k + 1) d4)
            simpa using this
          have e4 : OwR KBool 4 (B + 1) S W2 vI (List.replicate k false) := by
            rw [hW2]
            refine (E4.out.flat KBool_flat (fun j e => k34.block j (E4.out.lt e).2 fun x => HD2.out j (by simpa using x) e)).far KBool_flat (p := ⟨B, 1, none⟩) (fun j e x => ?_) _
            have := (E4.out.lt e).1; simp at x; omega
          have e5 : Kp No w W2 := by
            rw [hW2]
            exact (E5.out.trans k34 (fun j hj e => by have := (E3.out.lt e).1; omega)).setCell (p := ⟨B, 1, none⟩) (.inr (by show w.heap.size ≤ B; exact hBw)) _
          have f1 : ∀ j, (Value.slice A2 (k + 1) d2).ownBlock = some j → (Value.slice A4 (k + 1) d4).ownBlock ≠ some j ∧ vI.ownBlock ≠ some j := fun j e => ⟨fun x => by
            rcases hb0 j x with h | h
            · exact (HA0.out j e).1 (by simpa using h)
            · have := (E2.out.lt e).2; omega, (HA0.out j e).2⟩
          have f2 : ∀ j, (Value.slice A4 (k + 1) d4).ownBlock = some j → vI.ownBlock ≠ some j := fun j e x => by
            rcases hb0 j e with h | h
            · exact HD2.out j (by simpa using h) x
            · have := (E4.out.lt x).2; omega
          have F1 := Lib.hid e1
          have F2 := Lib.hid e2
          have F3 := Lib.hid e3
          have F4 := Lib.hid e4
          have F5 := Lib.hid e5
          have G1 := Lib.hid f1
          have G2 := Lib.hid f2
          clear hW2 hv4 hk4 hat4 hB4 cB4 fB4 k34 hb0 e1 e2 e3 e4 e5 f1 f2 hne2 E1 E2 E3 E4 E5 HA0 HD2 kk3 k3 g3 g9 c1''
          try clear c0'' hl3
          have hbl2 := blt F1.out
          have x2 := cellOf F1.out 2
          obtain ⟨A5, c5, rfl, _, _⟩ := F4.out.len
          have F4' := F4.out
          rw [List.length_replicate] at F4' x2
          have x2' : W2.cell? ⟨B, 2, none⟩ = some (.slice A5 k c5) := x2
          have F4 := Lib.hid F4'
          have F5s := F5.out.size
          clear F4' x2
          go_wp2_with (at_builtin; refine wpList_ap1 (K := KBool) (S := S) W2 (by rfl) _ _ 30 (by rfl) (B + 1) 4 4 _ 1 Try.underlying30 I_bool rfl (by decide) (by decide) _ _ (by rfl) F4.out 1 1 (by rfl) rfl _ false ?c1 ?c2 ?c3 ?_)
          case c1 => rfl
          case c2 => omega
          case c3 => rw [List.length_replicate]; omega
          intro v6 w6 hv6 hk6 hat6
          rw [← List.replicate_succ'] at hv6
          obtain ⟨A6, d6, rfl, _, _⟩ := hv6.len
          rw [List.length_replicate] at hv6 hat6
          have hB6 := hk6.heap F1.out (fun x => by have := (F4.out.lt x).1; omega)
          have cB6 := cellOf hB6 2
          have fB6 := freeOf hB6 2
          have hblb := blt hB6
          have hb1 : ∀ j, (Value.slice A6 (k + 1) d6).ownBlock = some j → (Value.slice A5 k c5).ownBlock = some j ∨ W2.heap.size ≤ j := fun j e => by
            rcases hat6 with h | ⟨b, h1, h2⟩
            · exact .inl (by rw [← e]; exact h.symm)
            · rw [h1] at e; injection e with e; subst e; exact .inr h2
          have hfin : RNew S B z (k + 1) (w6.setCell ⟨B, 2, none⟩ (.slice A6 (k + 1) d6)) := by
            refine ⟨.slice A2 (k + 1) d2, .slice A4 (k + 1) d4, .slice A6 (k + 1) d6, by rw [heap_set hB6]; rfl, ?_, ?_, ?_, fun j e => ⟨(G1.out j e).1, fun x => ?_⟩, fun j e x => ?_⟩
            · refine (F2.out.flat KStr_flat (fun j e => hk6.block j (F2.out.lt e).2 fun x => (G1.out j e).2 (by simpa using x))).far KStr_flat (p := ⟨B, 2, none⟩) (fun j e x => ?_) _
              have := (F2.out.lt e).1; simp at x; omega
            · refine (F3.out.flat KStr_flat (fun j e => hk6.block j (F3.out.lt e).2 fun x => G2.out j e (by simpa using x))).far KStr_flat (p := ⟨B, 2, none⟩) (fun j e x => ?_) _
              have := (F3.out.lt e).1; simp at x; omega
            · exact hv6.far KBool_flat (p := ⟨B, 2, none⟩) (fun j e x => by have := (hv6.lt e).1; simp at x; omega) _
            · rcases hb1 j x with h | h
              · exact (G1.out j e).2 (by simpa using h)
              · have := (F2.out.lt e).2; omega
            · rcases hb1 j x with h | h
              · exact G2.out j e (by simpa using h)
              · have := (F3.out.lt e).2; omega
          have hkfin : Kp No w (w6.setCell ⟨B, 2, none⟩ (.slice A6 (k + 1) d6)) := (F5.out.trans hk6 (fun j hj e => by have := (F4.out.lt e).1; omega)).setCell (p := ⟨B, 2, none⟩) (.inr (by show w.heap.size ≤ B; exact hBw)) _
          have HFIN := Lib.hid hfin
          have HKF := Lib.hid hkfin
          clear hfin hkfin hv6 hk6 hat6 hB6 hb1 F1 F2 F3 F4 F5 G1 G2 x2'
          go_wp2
          go_roundw
          case rel => exact ⟨k + 1, by omega, by go_num, HFIN.out, HKF.out⟩
          case measure => simp [intOf]; omega
    · obtain rfl : k = N := by omega
      have H1 := Lib.hid hb
      have HN := Lib.hid hn
      have HSs := Lib.hid hs
      have HI := Lib.hid hi
      have HK := Lib.hid hkr
      clear hb hn hs hi hd1 hd2 hkr c0
      go_wp2
      go_ret
      have hA : A64 (List.replicate k z) := ⟨by rw [List.length_replicate]; exact HNN.out, fun s hs => by rw [List.eq_of_mem_replicate hs, HZZ.out]; exact zeros_size 64⟩
      have hb' : ∀ j, (S j ∨ j = B) → j < B + 1 := fun j hj => by rcases hj with hj | rfl; (have := HS.out j hj; omega); omega
      refine ⟨B, rfl, ⟨vN, vS, vI, List.replicate k z, List.replicate k z, List.replicate k false, H1.out, ?_, ?_, ?_, hA, hA, by rw [List.length_replicate]; exact HNN.out, fun x => by have := HS.out _ x; omega⟩, hBw, HK.out⟩
      · exact (HN.out.flat (S' := fun j => S j ∨ j = B) KStr_flat (fun _ _ => rfl)).slOf hb'
      · exact (HSs.out.flat (S' := fun j => S j ∨ j = B) KStr_flat (fun _ _ => rfl)).slOf hb'
      · exact (HI.out.flat (S' := fun j => S j ∨ j = B) KBool_flat (fun _ _ => rfl)).slOf hb'
end Go.Proofs.Ytocpppegmepolaa
