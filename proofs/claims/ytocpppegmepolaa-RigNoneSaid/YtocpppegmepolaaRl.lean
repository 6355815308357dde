/- the references' Zeros and Full; layer 12's awake. -/
import Derived.Test.YtocpppegmepolaaRk
set_option linter.unusedVariables false
set_option linter.unusedSimpArgs false
namespace Go.Proofs.Ytocpppegmepolaa
open Go.RowKit
attribute [local go_sem ↓] Go.wp_at_zero Go.wp_at_succ

set_option maxHeartbeats 400000 in
theorem zeros_any (n : Nat) (w : World) (hn : n ≤ 1000000) :
    Calls Try.prog 25 #[.int .i64 n] w fun e w' => e = .returned (.string (zeros n)) ∧ Kp No w w' := by
  have hmk := mz_mk n (by omega)
  have hcv := mz_cv n
  obtain ⟨z, hz⟩ : ∃ z, z = zeros n := ⟨_, rfl⟩
  rw [← hz] at hcv ⊢
  clear hz
  have hn1 : (0 : Int) ≤ (n : Int) := by omega
  go_enter Try.func25, Try.ntmps25
  go_wp2
  go_ret
  exact ⟨rfl, (Kp.refl _ _).alloc _⟩

def full (s : ByteArray) (n : Nat) : ByteArray := if s.size ≥ n then s else s ++ zeros (n - s.size)
theorem full_size {s : ByteArray} {n : Nat} (h : s.size ≤ n) : (full s n).size = n := by
  unfold full; split
  · omega
  · rw [ByteArray.size_append, zeros_size]; omega
theorem full_le {s : ByteArray} {n m : Nat} (h : s.size ≤ m) (hn : n ≤ m) : (full s n).size ≤ m := by
  unfold full; split
  · exact h
  · rw [ByteArray.size_append, zeros_size]; omega
set_option maxHeartbeats 400000 in
theorem full_any (s : ByteArray) (n : Nat) (w : World) (hn : n ≤ 1000000) (hs : s.size ≤ 1000000) :
    Calls Try.prog 91 #[.string s, .int .i64 n] w fun e w' => e = .returned (.string (full s n)) ∧ Kp No w w' := by
  by_cases h : n ≤ s.size
  · go_enter Try.func91, Try.ntmps91
    go_wp2
    go_ret
    exact ⟨ret_str (by unfold full; rw [if_pos h]), Kp.refl _ _⟩
  · have e1 : ((n : Nat) : Int) - (s.size : Int) = ((n - s.size : Nat) : Int) := by omega
    have HC := zeros_any (n - s.size) w (by omega)
    have hz := zeros_size (n - s.size)
    rw [← e1] at HC
    obtain ⟨z, hz'⟩ : ∃ z, z = zeros (n - s.size) := ⟨_, rfl⟩
    rw [← hz'] at HC hz
    have HC := Lib.hid HC
    have HZ := Lib.hid hz'
    have hzl : z.size ≤ 1000000 := by omega
    clear hz' hz e1
    go_enter Try.func91, Try.ntmps91
    go_wp2_with (go_at_call 25; refine HC.out.mono ?_; rintro e w' ⟨rfl, hk⟩)
    go_ret
    exact ⟨ret_str (by unfold full; rw [if_neg h, HZ.out]), hk⟩
theorem full_64 (s : ByteArray) (w : World) (hs : s.size ≤ 1000000) : Calls Try.prog 91 #[.string s, .int .i64 64] w fun e w' => e = .returned (.string (full s 64)) ∧ Kp No w w' := full_any s 64 w (by omega) hs
theorem full_96 (s : ByteArray) (w : World) (hs : s.size ≤ 1000000) : Calls Try.prog 91 #[.string s, .int .i64 96] w fun e w' => e = .returned (.string (full s 96)) ∧ Kp No w w' := full_any s 96 w (by omega) hs
theorem zeros_64 (w : World) : Calls Try.prog 25 #[.int .i64 64] w fun e w' => e = .returned (.string (zeros 64)) ∧ Kp No w w' := zeros_any 64 w (by omega)
theorem zeros_96 (w : World) : Calls Try.prog 25 #[.int .i64 96] w fun e w' => e = .returned (.string (zeros 96)) ∧ Kp No w w' := zeros_any 96 w (by omega)

/-! awake: its states. -/
def rigA (L M : List Blk) (r : ByteArray) (down : Bool) (calls arm : Nat) : RigS := ⟨r, down, calls, 0, arm, 0, 0, 0, ⟨#[]⟩, L, M⟩
def Lz (L : List Blk) : Prop := okD L ∧ ∀ x ∈ L, x.is = false ∧ x.now = zeros 64
theorem Lz_blk0 : Lz (List.replicate 288 blk0) := ⟨okD_blk0, fun x hx => by rw [List.eq_of_mem_replicate hx]; exact ⟨rfl, rfl⟩⟩
section
variable {L M : List Blk} {r : ByteArray}
theorem wf_rigA (hL : Lz L) (hM : Lz M) (t : Bool) (n a : Nat) (ha : a ≤ 2) : (rigA L M r t n a).wf := ⟨hL.1, hM.1, by show 0 < 2; omega, by show 0 < 288; omega, fun h => absurd h (Nat.lt_irrefl 0), Nat.zero_le _, by show a ≤ _; omega, Nat.zero_le _⟩
theorem now_z (hL : Lz L) : nowAt L 5 = zeros 64 := by
  have h5 : 5 < L.length := by rw [hL.1.1]; omega
  unfold nowAt
  rw [getD_at h5]
  exact (hL.2 _ (List.getElem_mem h5)).2
theorem aw_arm (n : Nat) : (rigA L M r false n 0).setArm 2 = rigA L M r false n 2 := rfl
theorem aw_1 (hL : Lz L) : (rigA L M r false 0 2).stepE = 0 ∧ (rigA L M r false 0 2).rd 0 5 = zeros 64 ∧ (rigA L M r false 0 2).step = rigA L M r false 1 1 := ⟨rfl, now_z hL, rfl⟩
theorem aw_2 (s : ByteArray) : (rigA L M r false 1 1).stepE = 11 ∧ (rigA L M r false 1 1).wrote 0 5 s = rigA L M r true 2 0 := ⟨rfl, rfl⟩
theorem aw_3 (hL : Lz L) (hM : Lz M) {σ : RigS} (h : CrashR (rigA L M r true 2 0) σ) : σ.wf ∧ σ.calls = 2 ∧ σ.stepE = 0 ∧ σ.rd 0 5 = zeros 64 ∧ σ.step.calls = 3 := by
  have hw := wf_crash h (wf_rigA hL hM true 2 0 (by omega))
  obtain ⟨c0, c1, h0, h1, rfl⟩ := h
  have h5 : 5 < L.length := by rw [hL.1.1]; omega
  have hx := hL.2 _ (List.getElem_mem h5)
  exact ⟨hw.1, rfl, rfl, (crash_now h0 (i := 5) h5 hx.1).trans hx.2, rfl⟩
end
theorem rig0_A : rig0 = rigA (List.replicate 288 blk0) (List.replicate 288 blk0) (zeros 96) false 0 0 := rfl
def Loss0 : LLoss := ⟨.slice none 0 0, [], 0, 0⟩
theorem Loss0_ok (S : Nat → Prop) (w : World) : Loss0.ok S w := ⟨SlR.nil _ _ _, by unfold i64; decide, by unfold i64; decide⟩

set_option maxRecDepth 100000 in
set_option maxHeartbeats 4000000 in
theorem awake12_any (w : World) : Calls Try.prog 24 #[] w fun e w' => e = .returned (.bool true) ∧ Kp No w w' := by
  have ha : (full ⟨#[97]⟩ 64).size = 64 := full_size (by decide)
  obtain ⟨a, haa⟩ : ∃ a, a = full ⟨#[97]⟩ 64 := ⟨_, rfl⟩
  rw [← haa] at ha
  have HA := Lib.hid haa
  have HAS := Lib.hid ha
  obtain ⟨z, hzz⟩ : ∃ z, z = zeros 64 := ⟨_, rfl⟩
  have HZ := Lib.hid hzz
  clear haa ha hzz
  go_enter Try.func24, Try.ntmps24
  go_wp2_with fail
  refine (rignew_ok (S := No) w (fun _ h => h.elim)).mono ?_
  rintro e w1 ⟨p, rfl, h1, hf, k1⟩
  rw [rig0_A] at h1
  have HL := Lib.hid Lz_blk0
  generalize List.replicate 288 blk0 = L at h1 HL
  generalize zeros 96 = rg at h1
  have H1 := Lib.hid h1
  have K1 := Lib.hid k1
  have HF := Lib.hid hf
  clear h1 hf k1
  go_wp2_with fail
  refine (full_64 ⟨#[97]⟩ _ (by decide)).mono ?_
  rintro e w2 ⟨rfl, k2⟩
  rw [← HA.out]
  have H2 := Lib.hid (H1.out.no k2)
  have K2 := Lib.hid (K1.out.trans' k2)
  clear k2 H1 K1
  go_wp2_with fail
  refine (arm_any 2 _ H2.out).mono ?_
  rintro e w3 ⟨rfl, h3, k3⟩
  rw [show (if rgt 2 then 0 else 2 : Int) = 0 from rfl]
  rw [aw_arm] at h3
  have H3 := Lib.hid h3
  have K3 := Lib.hid (K2.out.trans k3 (fun k hk x => absurd (HF.out k x) (by omega)))
  clear h3 k3 H2 K2
  go_wp2_with fail
  refine (rread_ok 0 5 _ H3.out (wf_rigA HL.out HL.out _ _ _ (by omega)) (by show 0 ≤ _; omega) (by omega) (by omega)).mono ?_
  rintro e w4 ⟨rfl, h4, k4⟩
  rw [(aw_1 HL.out).1, (aw_1 HL.out).2.1, ← HZ.out]
  rw [(aw_1 HL.out).2.2] at h4
  have H4 := Lib.hid h4
  have K4 := Lib.hid (K3.out.trans k4 (fun k hk x => absurd (HF.out k x) (by omega)))
  clear h4 k4 H3 K3
  go_wp2_with fail
  refine (rwrite_ok 0 5 a _ H4.out (wf_rigA HL.out HL.out _ _ _ (by omega)) (by show 1 ≤ _; omega) (by omega) (by omega) HAS.out).mono ?_
  rintro e w5 ⟨rfl, h5, k5⟩
  rw [(aw_2 a).1]
  rw [(aw_2 a).2] at h5
  have H5 := Lib.hid h5
  have K5 := Lib.hid (K4.out.trans k5 (fun k hk x => absurd (HF.out k x) (by omega)))
  clear h5 k5 H4 K4
  go_wp2_with fail
  refine (down_any _ H5.out).mono ?_
  rintro e w6 ⟨rfl, rfl⟩
  go_wp2_with fail
  refine (rcrash_ok Loss0 Loss0 _ H5.out (wf_rigA HL.out HL.out _ _ _ (by omega)) (Loss0_ok _ _) (Loss0_ok _ _)).mono ?_
  rintro e w7 ⟨rfl, ⟨σ, h7, hcr⟩, k7⟩
  obtain ⟨s1, s2, s3, s4, s5⟩ := aw_3 HL.out HL.out hcr
  have H7 := Lib.hid h7
  have K7 := Lib.hid (K5.out.trans k7 (fun k hk x => absurd (HF.out k x) (by omega)))
  have S1 := Lib.hid s1
  have S2 := Lib.hid s2
  have S3 := Lib.hid s3
  have S4 := Lib.hid s4
  have S5 := Lib.hid s5
  clear h7 k7 hcr s1 s2 s3 s4 s5 H5 K5
  go_wp2_with fail
  refine (rread_ok 0 5 _ H7.out S1.out (by rw [S2.out]; decide) (by omega) (by omega)).mono ?_
  rintro e w8 ⟨rfl, h8, k8⟩
  rw [S3.out, S4.out, ← HZ.out]
  have H8 := Lib.hid h8
  have K8 := Lib.hid (K7.out.trans k8 (fun k hk x => absurd (HF.out k x) (by omega)))
  clear h8 k8 H7 K7
  go_wp2_with fail
  refine (zeros_64 _).mono ?_
  rintro e w9 ⟨rfl, k9⟩
  rw [← HZ.out]
  have H9 := Lib.hid (H8.out.no k9)
  have K9 := Lib.hid (K8.out.trans' k9)
  clear k9 H8 K8
  go_wp2_with fail
  refine (calls_any _ H9.out).mono ?_
  rintro e w10 ⟨rfl, rfl⟩
  rw [S5.out]
  go_wp2_with fail
  refine (rdev_ok 1 _ (by omega) H9.out).mono ?_
  rintro e w11 ⟨rfl, rfl⟩
  go_wp2
  go_ret
  exact ⟨rfl, K9.out⟩
end Go.Proofs.Ytocpppegmepolaa
