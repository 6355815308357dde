/- awake. -/
import Derived.Test.YtagekjijngbmdaaFm
set_option linter.unusedVariables false
set_option linter.unusedSimpArgs false
namespace Go.Proofs.Ytagekjijngbmdaa
open Go.RowKit
attribute [local go_sem ↓] Go.wp_at_zero Go.wp_at_succ

def aa : ByteArray := dat 1 97 false
theorem aa_size : aa.size = 48 := by rw [aa, dat_size]; rfl
theorem aw1 : [[zst 2]].map (wr1 0 aa) = [[zst 2, [aa, zeros 48]]] := by decide +kernel
theorem aw2 : (crashS [[zst 2, [aa, zeros 48]]]).map one = [[zst 2], [[aa, zeros 48]]] := by decide +kernel
theorem aw3 : [[zst 2], [[aa, zeros 48]]].filter (sw 0 aa) = [[[aa, zeros 48]]] := by decide +kernel
theorem aw4 : ([[zst 2], [[aa, zeros 48]]] : List Ch).all (fun c => decide (pt 0 1 c = pt 0 1 [zst 2])) = false := by decide +kernel
theorem aw5 : pt 0 2 [[aa, zeros 48]] = aa ++ zeros 48 := by decide +kernel
theorem aw6 : ([[[aa, zeros 48]]] : List Ch).all (fun c => decide (pt 0 2 c = pt 0 2 [[aa, zeros 48]])) = true := by decide +kernel
theorem zst_ok (n : Nat) : Okc n [[zst n]] := by
  intro c hc
  simp at hc
  subst hc
  refine ⟨by simp, fun s hs => ?_⟩
  simp at hs
  subst hs
  refine ⟨by simp [zst], fun x hx => ?_⟩
  obtain ⟨_, rfl⟩ := List.mem_replicate.1 hx
  exact zeros_size 48
theorem az_ok : ∀ x ∈ [aa, zeros 48], x.size = 48 := by
  intro x hx
  simp at hx
  rcases hx with rfl | rfl
  · exact aa_size
  · exact zeros_size 48
theorem ok2 : Okc 2 [[zst 2, [aa, zeros 48]]] := by
  intro c hc
  simp at hc
  subst hc
  refine ⟨by simp, fun s hs => ?_⟩
  simp at hs
  rcases hs with rfl | rfl
  · exact (zst_ok 2 [zst 2] (List.mem_singleton.2 rfl)).2 _ (List.mem_singleton.2 rfl)
  · exact ⟨rfl, az_ok⟩
theorem ok3 : Okc 2 [[zst 2], [[aa, zeros 48]]] := by
  intro c hc
  simp at hc
  rcases hc with rfl | rfl
  · exact zst_ok 2 [zst 2] (List.mem_singleton.2 rfl)
  · refine ⟨by simp, fun s hs => ?_⟩
    simp at hs
    subst hs
    exact ⟨rfl, az_ok⟩
theorem ok4 : Okc 2 [[[aa, zeros 48]]] := by
  intro c hc
  simp at hc
  subst hc
  exact ok3 _ (List.mem_cons_of_mem _ (List.mem_singleton.2 rfl))

theorem aw7 : readRes 0 1 [[zst 2], [[aa, zeros 48]]] [zst 2] = .tuple #[.string ⟨#[]⟩, .int .i64 15] := by
  unfold readRes
  rw [if_neg (by rw [aw4]; decide)]
theorem aw8 : readRes 0 2 [[[aa, zeros 48]]] [[aa, zeros 48]] = .tuple #[.string (aa ++ zeros 48), .int .i64 0] := by
  unfold readRes
  rw [if_pos aw6, aw5]

set_option maxHeartbeats 2000000 in
theorem awake_any (w : World) :
    Calls Try.prog 7 #[] w fun e w' => e = .returned (.bool true) ∧ Kp No w w' := by
  have has := aa_size
  have hzs := zeros_size 48
  go_enter Try.func7, Try.ntmps7
  go_wp2_with fail
  refine (new_ok (S := No) 2 w (by omega) (by omega) (fun _ h => h.elim)).mono ?_
  rintro e w1 ⟨b, g, rfl, hf1, _, _, hk1⟩
  have HF1 := Lib.hid hf1
  have HK1 := Lib.hid hk1
  clear hf1 hk1
  go_wp2_with fail
  refine (dat_any 0 0 1 97 false _ (by unfold i64; omega)).mono ?_
  rintro e w2 ⟨rfl, hk2⟩
  rw [show dat 1 97 false = aa from rfl]
  have HF2 := Lib.hid (HF1.out.no hk2)
  have HK2 := Lib.hid (HK1.out.trans' hk2)
  clear hk2 HF1 HK1
  go_wp2_with fail
  refine (write_ok (S := No) 0 aa _ HF2.out (by omega) (by omega) (zst_ok 2) (by omega) (by rw [has]; rfl) (by omega) (fun _ h => h.elim) (by simp) (by simp)).mono ?_
  rintro e w3 ⟨rfl, hf, hk⟩
  have HF3 := Lib.hid (show FlatR No w3 b g 2 [[zst 2, [aa, zeros 48]]] by have h1 := aw1; rw [has] at *; exact h1 ▸ hf)
  have HK3 := Lib.hid (HK2.out.trans hk (fun k h1 h2 => by omega))
  clear hf hk HF2 HK2
  go_wp2_with fail
  refine (crash_any (S := No) _ HF3.out (by omega) ok2 (by simp) (fun _ h => h.elim) (by simp) (by simp) (by simp)).mono ?_
  rintro e w4 ⟨rfl, g2, hg2, hf, hk⟩
  have HF4 := Lib.hid (show FlatR No w4 b g2 2 [[zst 2], [[aa, zeros 48]]] from aw2 ▸ hf)
  have HK4 := Lib.hid (HK3.out.trans hk (fun k h1 h2 => by omega))
  clear hf hk HF3 HK3
  go_wp2_with fail
  refine (read_ok (S := No) 0 1 _ HF4.out (by omega) (by omega) ok3 (by simp) (by rfl) (by simp)).mono ?_
  rintro e w5 ⟨rfl, hk⟩
  rw [show readRes 0 1 [[zst 2], [[aa, zeros 48]]] ([[zst 2], [[aa, zeros 48]]] : List Ch)[0] = .tuple #[.string ⟨#[]⟩, .int .i64 15] from aw7]
  have HF5 := Lib.hid (HF4.out.no hk)
  have HK5 := Lib.hid (HK4.out.trans' hk)
  clear hk HF4 HK4
  go_wp2_with fail
  refine (worlds_any (S := No) _ HF5.out).mono ?_
  rintro e w' ⟨rfl, rfl⟩
  go_wp2_with fail
  refine (saw_ok (S := No) 0 aa _ HF5.out (by omega) (by omega) ok3 (by omega) (by rw [has]; rfl) (fun _ h => h.elim) (by simp)).mono ?_
  rintro e w6 ⟨rfl, _, hq⟩
  rw [aw3] at hq ⊢
  obtain ⟨g3, hg3, hf, hk⟩ := hq (by simp)
  have HF6 := Lib.hid hf
  have HK6 := Lib.hid (HK5.out.trans hk (fun k h1 h2 => by omega))
  clear hf hk hq HF5 HK5
  go_wp2_with fail
  refine (read_ok (S := No) 0 2 _ HF6.out (by omega) (by omega) ok4 (by simp) (by rfl) (by simp)).mono ?_
  rintro e w7 ⟨rfl, hk⟩
  rw [show readRes 0 2 [[[aa, zeros 48]]] ([[[aa, zeros 48]]] : List Ch)[0] = .tuple #[.string (aa ++ zeros 48), .int .i64 0] from aw8]
  have HF7 := Lib.hid (HF6.out.no hk)
  have HK7 := Lib.hid (HK6.out.trans' hk)
  clear hk HF6 HK6
  go_wp2_with fail
  refine (worlds_any (S := No) _ HF7.out).mono ?_
  rintro e w' ⟨rfl, rfl⟩
  go_wp2_with fail
  refine (zeros_any 48 _ (by omega)).mono ?_
  rintro e w8 ⟨rfl, hk⟩
  have HK8 := Lib.hid (HK7.out.trans' hk)
  clear hk HF7 HK7
  go_wp2
  go_ret
  exact ⟨rfl, HK8.out⟩
end Go.Proofs.Ytagekjijngbmdaa
