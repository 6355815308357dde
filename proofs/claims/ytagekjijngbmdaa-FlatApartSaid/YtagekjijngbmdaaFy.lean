/- FlatDoes: the walk. -/
import Derived.Test.YtagekjijngbmdaaFx
import Derived.Deep.RegionWith
set_option linter.unusedVariables false
set_option linter.unusedSimpArgs false
namespace Go.Proofs.Ytagekjijngbmdaa
open Go.RowKit
attribute [local go_sem ↓] Go.wp_at_zero Go.wp_at_succ

/-- A new model and a new answer, side by side. -/
theorem both_new {S : Nat → Prop} {w1 w2 w3 : World} {b g bx N : Nat} (hf : FlatR S w1 b g N [[zst N]]) (hS : ∀ k, S k → k < w1.heap.size) (hk : Kp No w1 w2) (hr : RefR (fun k => (S k ∨ k = b) ∨ k = g) w3 bx N [[zeros (48 * N)]]) (hbx : w2.heap.size ≤ bx) (hk3 : Kp No w2 w3) : Both S w3 b g bx N [[zst N]] := by
  refine ⟨hf.move fun k hk' hn => ⟨fun x => ?_, (hk.trans' hk3).block k hk' id⟩, ?_, zst_ok N, by simp⟩
  · have := hk.size
    rcases x with x | x
    · exact hn x
    · omega
  · have : refOf [[zst N]] = [[zeros (48 * N)]] := by unfold refOf; simp only [List.map_cons, List.map_nil]; rw [← cat_zst]; rfl
    rw [this]; exact hr

/-- Where a loop over calls of both stands. -/
def DoesInv (w : World) (b bx N k : Nat) (wr : World) : Prop :=
  ∃ g cs, Both No wr b g bx N cs ∧ cs.flatten.length ≤ 2 ^ k ∧ w.heap.size ≤ g ∧ Kp No w wr

theorem pow_30 {k : Nat} (h : k < 30) : 2 ^ k ≤ 536870912 := by
  have : 2 ^ k ≤ 2 ^ 29 := Nat.pow_le_pow_right (by omega) (by omega)
  omega

set_option maxRecDepth 100000 in
set_option maxHeartbeats 4000000 in
theorem does_any (n : Int) (lv : Value) (acts : List LAct) (w : World) (hn : i64 n) (hl : SlR KAct No w lv acts) :
    Calls Try.prog 4 #[.int .i64 n, lv] w fun e w' => e = .returned (.bool true) ∧ Kp No w w' := by
  obtain ⟨A, c, rfl, hc1, hc2, hA⟩ := actsOpen hl
  obtain ⟨la, hla⟩ : ∃ la, la = acts.length := ⟨_, rfl⟩
  have hla0 : 0 < la → 0 < acts.length := by omega
  rw [← hla] at hc2 ⊢
  have HLA := Lib.hid hla
  have HA := Lib.hid hA
  clear hA hl hla
  by_cases hn2 : n < 1 ∨ 64 < n
  · have HNB := Lib.hid (new_bad n w hn2 hn)
    have hor : (n < 1) ∨ (¬ n < 1 ∧ 64 < n) := by omega
    clear hn2 hn
    rcases hor with h1 | ⟨h1, h2⟩
    · go_enter Try.func4, Try.ntmps4
      go_wp2_with (first | (go_at_call 6; refine HNB.out.mono ?_; rintro e w1 ⟨rfl, rfl⟩) | (go_at_call 7; refine (awake_any _).mono ?_; rintro e w2 ⟨rfl, hk2⟩))
      go_ret
      exact ⟨rfl, hk2⟩
    · go_enter Try.func4, Try.ntmps4
      go_wp2_with (first | (go_at_call 6; refine HNB.out.mono ?_; rintro e w1 ⟨rfl, rfl⟩) | (go_at_call 7; refine (awake_any _).mono ?_; rintro e w2 ⟨rfl, hk2⟩))
      go_ret
      exact ⟨rfl, hk2⟩
  · obtain ⟨N, rfl⟩ : ∃ N : Nat, n = N := ⟨n.toNat, by omega⟩
    have hN1 : 1 ≤ N := by omega
    have hN2 : N ≤ 64 := by omega
    have hN3 : ¬ (N : Int) < 1 := by omega
    have hN4 : ¬ (64 : Int) < (N : Int) := by omega
    clear hn2 hn
    go_enter Try.func4, Try.ntmps4
    go_wp2_with fail
    refine (new_ok (S := No) N _ hN1 hN2 (fun _ h => h.elim)).mono ?_
    rintro e w1 ⟨b, g, rfl, hf, hb, hg, hk⟩
    have hflt := hf.lt
    have HF := Lib.hid hf
    have HK := Lib.hid hk
    clear hf hk
    go_wp2_with fail
    refine (rnew_ok (S := fun k => (No k ∨ k = b) ∨ k = g) N _ hN1 hN2 (fun k h => by rcases h with (h | h) | h; exact h.elim; omega; omega)).mono ?_
    rintro e w2 ⟨bx, rfl, hr, hbx, hk2⟩
    have hB := both_new HF.out (fun _ h => h.elim) (Kp.refl _ _) hr hbx hk2
    have HB := Lib.hid hB
    have HK2 := Lib.hid (HK.out.trans' hk2)
    clear hr hk2 hB HF HK
    go_wp2_with fail
    refine (awake_any _).mono ?_
    rintro e w3 ⟨rfl, hk3⟩
    have hI : DoesInv w b bx N 0 w3 := ⟨g, _, HB.out.no hk3, by simp, hg, HK2.out.trans' hk3⟩
    have HI := Lib.hid hI
    have hbw : w.heap.size ≤ b := hb
    have hs1 := HK2.out.size
    have hbxw : w.heap.size ≤ bx := by omega
    clear hI hk3 HB HK2
    go_wp2
    go_loopw [8] (fun i wr => ∃ k : Nat, k ≤ la ∧ k ≤ 30 ∧ i = .int .i64 k ∧ DoesInv w b bx N k wr) (fun i _ => la - (intOf i).toNat)
    case atStart => exact ⟨0, Nat.zero_le _, by omega, rfl, HI.out⟩
    case round =>
      clear HI
      obtain ⟨k, hkl, hk30, rfl, hinv⟩ := hrel
      by_cases hlt : k < la ∧ k < 30
      · obtain ⟨hlt1, hlt2⟩ := hlt
        have hkn : k < acts.length := by rw [← HLA.out]; exact hlt1
        obtain ⟨b0, o0, rfl, hrow⟩ := HA.out (by omega)
        obtain ⟨hwf, hcs⟩ := hrow k hkn
        obtain ⟨gk, cs, hB, hfl, hgk, hkr⟩ := hinv
        obtain ⟨x, hx⟩ : ∃ x, x = acts[k] := ⟨_, rfl⟩
        rw [← hx] at hwf hcs
        have hp30 := pow_30 hlt2
        have hb0w : b0 < w.heap.size := World.block_lt_of_cell? w _ (hcs 0 _ rfl)
        have hdo := do_any x wr.drew (hB.no (Kp.dr _)) (fun _ h => h.elim) hN1 hN2 hwf (by omega)
        obtain ⟨kd, at_, xn, xc, xo⟩ := x
        have hc0 : wr.cell? ⟨b0, o0 + k * 5, none⟩ = some (.int .i64 kd) := hkr.cell' (hcs 0 _ rfl)
        have hc1 := hkr.cell' (hcs 1 _ rfl)
        have hc2 := hkr.cell' (hcs 2 _ rfl)
        have hc3 := hkr.cell' (hcs 3 _ rfl)
        have hc4 := hkr.cell' (hcs 4 _ rfl)
        have hdo2 : Calls Try.prog 18 #[.pointer (some ⟨b, 0, none⟩), .pointer (some ⟨bx, 0, none⟩), .agg #[.int .i64 kd, .int .i64 at_, .int .i64 xn, .int .u8 xc, .bool xo]] wr.drew (DoPost No wr.drew b gk bx N cs) := hdo
        have HDO := Lib.hid hdo2
        have i0 : (0 : Int) ≤ (k : Int) := by omega
        have i1 : (k : Int) < (la : Int) := by omega
        have i2 : (k : Int) < 30 := by omega
        have HFL := Lib.hid hfl
        have HKR := Lib.hid hkr
        have HP := Lib.hid hp30
        clear hx hwf hcs hB hfl hkr hrow hdo hdo2 hp30
        go_wp2_with fail
        go_region_with
          (first
            | (go_at_call 18; refine HDO.out.mono ?_; rintro e w4 ⟨rfl, g4, cs4, hb4, hf4, hl4, hg4, hk4⟩; obtain ⟨v4, hv4, hs4, hn4⟩ := hb4.2.1; obtain ⟨A4, c4, rfl, hcc1, hcc2⟩ := hs4.slice; rw [refOf_len] at hv4; have hcv4 : w4.cell? ⟨bx, 1, none⟩ = some (.slice A4 cs4.length c4) := cellOf hv4 1; have hcnt : cnt cs4 ≤ 1000000000000 := (by rw [← flat_len]; have := HFL.out; have := HP.out; omega); have hln : cs4.length ≤ 1000000000 := (by have := HFL.out; have := HP.out; omega); have hno : ¬ ((b0 = b ∨ b0 = gk) ∨ b0 = bx) := (by omega); have hd0 := hk4.cell (a := ⟨b0, o0 + k * 5, none⟩) hc0 hno; have hd1 := hk4.cell (a := ⟨b0, o0 + k * 5 + 1, none⟩) hc1 hno; have hd2 := hk4.cell (a := ⟨b0, o0 + k * 5 + 2, none⟩) hc2 hno; have hd3 := hk4.cell (a := ⟨b0, o0 + k * 5 + 3, none⟩) hc3 hno; have hd4 := hk4.cell (a := ⟨b0, o0 + k * 5 + 4, none⟩) hc4 hno)
            | (go_at_call 15; refine (worlds_any _ hb4.1).mono ?_; rintro e w5 ⟨rfl, rfl⟩)
            | (go_at_call 19; refine (states_any _ hb4.1 hcnt hln).mono ?_; rintro e w6 ⟨rfl, rfl⟩)
            | (go_at_call 20; refine (rstates_ok _ hb4.2.1 (by rw [refOf_cnt]; exact hcnt) (by rw [refOf_len]; omega)).mono ?_; rintro e w7 ⟨rfl, rfl⟩; rw [refOf_cnt]))
        all_goals
          have hsz := HKR.out.size
          have hdw : wr.drew.heap.size = wr.heap.size := rfl
          have hfin : DoesInv w b bx N (k + 1) w4 := by
            refine ⟨g4, cs4, hb4, ?_, ?_, (HKR.out.trans' (Kp.dr wr)).trans hk4 (fun q hq e => ?_)⟩
            · have := HFL.out; rw [Nat.pow_succ]; omega
            · rcases hg4 with h | h
              · omega
              · rw [hdw] at h; omega
            · rcases e with (e | e) | e <;> omega
          have HFIN := Lib.hid hfin
          clear hfin hb4 hf4 hl4 hg4 hk4 hv4 hs4 hn4 hcv4 hcnt hln hd0 hd1 hd2 hd3 hd4 hcc1 hcc2 hdw hno
          go_wp2
          go_roundw
          case rel => exact ⟨k + 1, by omega, by omega, by go_num, HFIN.out⟩
          case measure => simp [intOf]; omega
      · obtain ⟨_, _, _, _, _, hkr⟩ := hinv
        have HKR := Lib.hid hkr
        have hor : (k < la ∧ ¬ k < 30) ∨ ¬ k < la := by omega
        clear hkr hlt
        rcases hor with ⟨hl, hnl⟩ | hl <;>
        · go_wp2
          go_ret
          exact ⟨rfl, HKR.out⟩
end Go.Proofs.Ytagekjijngbmdaa
