/- One call of both: the walks. -/
import Derived.Test.YtagekjijngbmdaaFw
import Derived.Test.YtagekjijngbmdaaFn
import Derived.Test.YtagekjijngbmdaaActs
set_option linter.unusedVariables false
set_option linter.unusedSimpArgs false
namespace Go.Proofs.Ytagekjijngbmdaa
open Go.RowKit
attribute [local go_sem ↓] Go.wp_at_zero Go.wp_at_succ

set_option maxRecDepth 100000 in
set_option maxHeartbeats 4000000 in
theorem do_any {S : Nat → Prop} {b g bx N : Nat} {cs : List Ch} (x : LAct) (w : World) (h : Both S w b g bx N cs) (hS : ∀ k, S k → k < w.heap.size) (h1 : 1 ≤ N) (h2 : N ≤ 64) (hw : x.wf) (hf : cs.flatten.length ≤ 1000000000) :
    Calls Try.prog 18 #[.pointer (some ⟨b, 0, none⟩), .pointer (some ⟨bx, 0, none⟩), .agg x.cells.toArray] w (DoPost S w b g bx N cs) := by
  obtain ⟨kd, at_, xn, xc, xo⟩ := x
  obtain ⟨hw0, hw1, hw2, hw3⟩ := hw
  have hfl := h.1.lt
  have hrl := h.2.1.lt
  have hka : Kp No w (w.alloc (.cells #[.int .i64 kd, .int .i64 at_, .int .i64 xn, .int .u8 xc, .bool xo] 34)) := (Kp.refl _ _).alloc _
  have hd0 := dat_any kd at_ xn xc xo (w.alloc (.cells #[.int .i64 kd, .int .i64 at_, .int .i64 xn, .int .u8 xc, .bool xo] 34)) hw2
  have hds := dat_size xn xc xo
  have hdn := nn_le xn
  obtain ⟨d, hd⟩ : ∃ d, d = dat xn xc xo := ⟨_, rfl⟩
  rw [← hd] at hds hd0
  have hd1 : d.size ≤ 3361 := by rw [hds]; cases xo <;> simp <;> omega
  have HD := Lib.hid hd0
  have HB := Lib.hid (h.no hka)
  have HKA := Lib.hid hka
  have HSS := Lib.hid hS
  have HF := Lib.hid hf
  have HW2 := Lib.hid hw2
  clear hd hds hd0 hka h hS hf hw0 hw2 hw3
  show Calls Try.prog 18 #[.pointer (some ⟨b, 0, none⟩), .pointer (some ⟨bx, 0, none⟩), .agg #[.int .i64 kd, .int .i64 at_, .int .i64 xn, .int .u8 xc, .bool xo]] w (DoPost S w b g bx N cs)
  go_enter Try.func18, Try.ntmps18
  go_wp2_with fail
  refine HD.out.mono ?_
  rintro e w1 ⟨rfl, hk1⟩
  have hbx := hk1.heap (heap_new w _) id
  have hx0 : w1.cell? ⟨w.heap.size, 0, none⟩ = some (.int .i64 kd) := cellOf hbx 0
  have hx1 : w1.cell? ⟨w.heap.size, 1, none⟩ = some (.int .i64 at_) := cellOf hbx 1
  have hb := HB.out.no hk1
  have hrc : w1.cell? ⟨bx, 0, none⟩ = some (.int .i64 N) := by obtain ⟨_, ⟨v, hr, _⟩, _⟩ := hb; exact cellOf hr 0
  have hx2 : w1.cell? ⟨w.heap.size, 2, none⟩ = some (.int .i64 xn) := cellOf hbx 2
  have HX2 := Lib.hid hx2
  have HB1 := Lib.hid hb
  have HK1 := Lib.hid (HKA.out.trans' hk1)
  have hs1 := hk1.size
  simp only [World.size_alloc] at hs1
  clear hk1 hbx hb HD HB HKA hx2
  go_wp2_with fail
  refine (rdata_any at_ N d bx w1 (by omega) (by omega) hw1 (by omega) hrc).mono ?_
  rintro e w' ⟨rfl, rfl⟩
  have hnf := num_le_flat HB1.out.2.2.1
  have hx2 : w1.cell? ⟨w.heap.size, 2, none⟩ = some (.int .i64 xn) := HX2.out
  have hcl : ∀ c ∈ cs, c.length ≤ 1000000000 := fun c hc => Nat.le_trans (len_le_flat hc) HF.out
  have HCL := Lib.hid hcl
  have hlen : cs.length ≤ 1000000000 := Nat.le_trans hnf HF.out
  have HRL := Lib.hid (show (refOf cs).length ≤ 1000000000 by rw [refOf_len]; exact hlen)
  have hfS : ∀ k, (S k ∨ k = bx) → k < w1.heap.size := fun k hk => by rcases hk with hk | hk; (have := HSS.out _ hk; omega); omega
  have hrS : ∀ k, ((S k ∨ k = b) ∨ k = g) → k < w1.heap.size := fun k hk => by rcases hk with (hk | hk) | hk; (have := HSS.out _ hk; omega); omega; omega
  have HFS := Lib.hid hfS
  have HRS := Lib.hid hrS
  clear hfS hrS hcl HX2
  by_cases hkd : 0 ≤ kd ∧ kd < 3
  · obtain ⟨hk0, hk3⟩ := hkd
    by_cases hz : dataF N at_ d.size = 0
    · obtain ⟨hd48, hmz⟩ := data_zero hz
      obtain ⟨hm1, hm2, hm3, hm4⟩ := may_zero hmz
      obtain ⟨a, rfl⟩ : ∃ a : Nat, at_ = a := ⟨at_.toNat, by omega⟩
      rw [hz]
      obtain ⟨hbf, hbr, hbo, hb0⟩ := HB1.out
      have HRW := Lib.hid (rwrite_ok a d w1 hbr h2 (okr_of hbo HF.out) (by omega) HRS.out HRL.out)
      have HAT := Lib.hid hd48
      have HM4 := Lib.hid hm4
      have HZ := Lib.hid hz
      clear hd48 hmz hm1 hm2 hm3 hm4 hbf hbr hbo hb0 hz
      have hkk : kd = 0 ∨ kd = 1 ∨ kd = 2 := by omega
      rcases hkk with rfl | rfl | rfl <;>
      · go_wp2_with fail
        refine HRW.out.mono ?_
        rintro e w2 ⟨rfl, hr2, hk2⟩
        have hy1 := hk2.cell hx1 (by show ¬ (w.heap.size = bx); omega)
        have hf2 := flat_after HB1.out.1 hk2
        have hs2 := hk2.size
        have HR2 := Lib.hid hr2
        have HF2 := Lib.hid hf2
        have HK2 := Lib.hid hk2
        clear hr2 hf2 hk2
        go_wp2_with fail
        refine (write_ok a d w2 HF2.out (by omega) (by omega) HB1.out.2.2.1 (by omega) HZ.out (by have := HM4.out; omega) (fun q hq => Nat.lt_of_lt_of_le (HFS.out q hq) hs2) hlen HCL.out).mono ?_
        rintro e w3 ⟨rfl, hf3, hk3⟩
        have hr3 := ref_after HR2.out hk3 (fun q e => .inr e) (.inl rfl)
        rw [refOf_wr1 HB1.out.2.2.1 HAT.out (by have := HM4.out; omega)] at hr3
        have hfin : DoPost S w b g bx N cs (.returned (.bool true)) w3 := ⟨rfl, g, _, ⟨hf3, hr3, okc_wr HB1.out.2.2.1, by rw [List.length_map]; exact HB1.out.2.2.2⟩, by rw [flat_wr1]; omega, by rw [List.length_map]; exact hnf, .inl rfl, (HK1.out.no.trans HK2.out (fun q _ e => .inr e)).trans hk3 (fun q _ e => .inl (.inr e))⟩
        have HFIN := Lib.hid hfin
        clear hf3 hk3 hr3 hfin
        go_wp2
        go_ret
        exact HFIN.out
    · have HWB := Lib.hid (write_bad at_ d w1 HB1.out.1 (by omega) (by omega) hw1 (by omega) hz)
      have hzb : (dataF N at_ d.size == 0) = false := by simpa using hz
      obtain ⟨z, hzz⟩ : ∃ z, z = dataF N at_ d.size := ⟨_, rfl⟩
      rw [← hzz] at HWB hzb hz ⊢
      clear hzz
      have hkk : kd = 0 ∨ kd = 1 ∨ kd = 2 := by omega
      rcases hkk with rfl | rfl | rfl <;>
      · go_wp2_with fail
        refine HWB.out.mono ?_
        rintro e w2 ⟨rfl, hk2⟩
        have hfin : DoPost S w b g bx N cs (.returned (.bool true)) w2 := ⟨rfl, g, cs, HB1.out.no hk2, by omega, hnf, .inl rfl, (HK1.out.trans' hk2).no⟩
        have HFIN := Lib.hid hfin
        clear hk2 hfin
        go_wp2
        go_ret
        exact HFIN.out
  · by_cases hk3 : kd = 3
    · subst hk3
      have hw2 : i64 xn := HW2.out
      by_cases hz : mayF N at_ xn = 0
      · obtain ⟨hm1, hm2, hm3, hm4⟩ := may_zero hz
        obtain ⟨a, rfl⟩ : ∃ a : Nat, at_ = a := ⟨at_.toNat, by omega⟩
        obtain ⟨n, rfl⟩ : ∃ n : Nat, xn = n := ⟨xn.toNat, by omega⟩
        obtain ⟨q, hq⟩ : ∃ q, q = dataF N a d.size := ⟨_, rfl⟩
        rw [← hq]
        have hzn : (zeros (48 * n)).size = 48 * n := zeros_size _
        have HRW := Lib.hid (fun W (hk : Kp No w1 W) => rwrite_ok a (zeros (48 * n)) W (HB1.out.2.1.no hk) h2 (okr_of HB1.out.2.2.1 HF.out) (by rw [hzn]; omega) (fun q hq => Nat.lt_of_lt_of_le (HRS.out q hq) hk.size) HRL.out)
        have hzz := fun W => zeros_any (48 * n) W (by omega)
        rw [show ((48 * n : Nat) : Int) = 48 * (n : Int) from by omega] at hzz
        have HZZ := Lib.hid hzz
        have HWR := Lib.hid (wrap_small (48 * (n : Int)) (by omega) (by omega))
        have HZ := Lib.hid hz
        have HMM := Lib.hid (rmay_any a n N bx w1 (by omega) (by omega) hw1 hw2 hrc)
        have hm4' : (a : Int) + (n : Int) ≤ (N : Int) := hm4
        have HZN := Lib.hid hzn
        clear hz hzz hq hzn
        go_wp2_with (go_at_call 33; refine HMM.out.mono ?_; rintro e w' ⟨rfl, rfl⟩; rw [HZ.out])
        go_region_held3 (fun w' => w'.cell? ⟨w.heap.size, 1, none⟩ = some (.int .i64 (a : Int)) ∧ w'.cell? ⟨w.heap.size, 2, none⟩ = some (.int .i64 (n : Int))) (go_keep)
          (first
            | (go_at_call 8; rw [HWR.out]; refine (HZZ.out _).mono ?_; rintro e w2 ⟨rfl, hk2⟩; have hk2' := (Kp.dr w1).trans' hk2; have hy1 := hk2'.cell' hx1; have hy2 := hk2'.cell' hx2)
            | (go_at_call 32; refine (HRW.out _ hk2').mono ?_; rintro e w3 ⟨rfl, hr3, hk3⟩; have hy3 := hk3.cell hy1 (by show ¬ (w.heap.size = bx); omega); have hy4 := hk3.cell hy2 (by show ¬ (w.heap.size = bx); omega)))
        have hk13 : Kp (fun k => k = bx) w1 w3 := hk2'.no.trans' hk3
        have hs13 := hk13.size
        have hf3 := flat_after HB1.out.1 hk13
        have HR3 := Lib.hid hr3
        have HF3 := Lib.hid hf3
        have HK3 := Lib.hid hk13
        have HDO := Lib.hid (discard_ok a n w3 hf3 h1 h2 HB1.out.2.2.1 HZ.out (fun q hq => Nat.lt_of_lt_of_le (HFS.out q hq) hs13) hlen HCL.out)
        clear hr3 hk3 hk2 hk2' hf3 hk13 hy1 hy2
        go_wp2_with fail
        refine HDO.out.mono ?_
        rintro e w4 ⟨rfl, hf4, hk4⟩
        have hr4 := ref_after HR3.out hk4 (fun q e => .inr e) (.inl rfl)
        rw [refOf_wr1 HB1.out.2.2.1 (by rw [HZN.out]; omega) (by rw [HZN.out]; omega)] at hr4
        have hfin : DoPost S w b g bx N cs (.returned (.bool true)) w4 := ⟨rfl, g, _, ⟨hf4, hr4, okc_wr HB1.out.2.2.1, by rw [List.length_map]; exact HB1.out.2.2.2⟩, by rw [flat_wr1]; omega, by rw [List.length_map]; exact hnf, .inl rfl, (HK1.out.no.trans HK3.out (fun q _ e => .inr e)).trans hk4 (fun q _ e => .inl (.inr e))⟩
        have HFIN := Lib.hid hfin
        clear hf4 hk4 hr4 hfin
        go_wp2
        go_ret
        exact HFIN.out
      · obtain ⟨q, hq⟩ : ∃ q, q = dataF N at_ d.size := ⟨_, rfl⟩
        rw [← hq]
        have HMM := Lib.hid (rmay_any at_ xn N bx w1 (by omega) (by omega) hw1 hw2 hrc)
        have HWB := Lib.hid (discard_bad at_ xn w1 HB1.out.1 h1 h2 hw1 hw2 hz)
        have hzb : (mayF N at_ xn == 0) = false := by simpa using hz
        obtain ⟨z, hzz⟩ : ∃ z, z = mayF N at_ xn := ⟨_, rfl⟩
        rw [← hzz] at HWB hzb hz HMM
        clear hzz hq
        go_wp2_with (first | (go_at_call 33; refine HMM.out.mono ?_; rintro e w' ⟨rfl, rfl⟩) | (go_at_call 22; refine HWB.out.mono ?_; rintro e w2 ⟨rfl, rfl⟩))
        have hfin : DoPost S w b g bx N cs (.returned (.bool true)) w1 := ⟨rfl, g, cs, HB1.out, by omega, hnf, .inl rfl, HK1.out.no⟩
        have HFIN := Lib.hid hfin
        clear hfin
        go_wp2
        go_ret
        exact HFIN.out
    · by_cases hk5 : kd = 5
      · subst hk5
        by_cases hz : dataF N at_ d.size = 0
        · obtain ⟨hd48, hmz⟩ := data_zero hz
          obtain ⟨hm1, hm2, hm3, hm4⟩ := may_zero hmz
          obtain ⟨a, rfl⟩ : ∃ a : Nat, at_ = a := ⟨at_.toNat, by omega⟩
          rw [hz]
          obtain ⟨fl, hfl'⟩ : ∃ fl, fl = cs.filter (sw a d) := ⟨_, rfl⟩
          have hrfl := refOf_filter (at_ := a) HB1.out.2.2.1 hd48
          rw [← hfl'] at hrfl
          have HSW := Lib.hid (saw_ok a d w1.drew (HB1.out.1.no (Kp.dr _)) h1 h2 HB1.out.2.2.1 (by omega) hz (fun q hq => HFS.out q hq) hlen)
          rw [← hfl'] at HSW
          have HRS2 := Lib.hid (fun g' (W : World) (hk : Kp (fun k => k = b) w1 W) (hg : g' = g ∨ w1.heap.size ≤ g') (hg2 : g' < W.heap.size) => rsaw_ok a d W (ref_after HB1.out.2.1 hk (fun q e => .inl e) hg) h2 (okr_of HB1.out.2.2.1 HF.out) (by omega) (fun q hq => by rcases hq with hq | hq; exact Nat.lt_of_lt_of_le (HRS.out q (.inl hq)) hk.size; omega) HRL.out)
          rw [hrfl] at HRS2
          have HFLL := Lib.hid hfl'
          clear hd48 hmz hm1 hm2 hm3 hm4 hz hfl' hrfl
          by_cases hfe : fl = []
          · have he1 : fl.isEmpty = true := by rw [hfe]; rfl
            have he2 : (refOf fl).isEmpty = true := by rw [hfe]; rfl
            have HFE := Lib.hid hfe
            clear hfe
            go_wp2_with fail
            go_region_held3 (fun w' => w'.cell? ⟨w.heap.size, 1, none⟩ = some (.int .i64 (a : Int))) (go_keep)
              (first
                | (go_at_call 14; refine HSW.out.mono ?_; rintro e w2 ⟨rfl, hq1, hq2⟩; have hk2 : Kp No w1 w2 := (Kp.dr w1).trans' (hq1 HFE.out).2; have hf2 := (hq1 HFE.out).1; have hy1 := hk2.cell' hx1)
                | (go_at_call 34; refine (HRS2.out g _ hk2.no (.inl rfl) (by have := hk2.size; omega)).mono ?_; rintro e w3 ⟨rfl, hr3, hk3⟩; have hy2 := hk3.cell hy1 (by show ¬ (w.heap.size = bx); omega)))
            rw [he2, if_pos rfl] at hr3
            have hfin : DoPost S w b g bx N cs (.returned (.bool true)) w3 := ⟨rfl, g, cs, ⟨flat_after hf2 hk3, hr3, HB1.out.2.2⟩, by omega, hnf, .inl rfl, (HK1.out.trans' hk2).no.trans hk3 (fun q _ e => .inr e)⟩
            have HFIN := Lib.hid hfin
            clear hfin hr3 hk3 hk2 hf2 hq1 hq2
            go_wp2
            go_ret
            exact HFIN.out
          · have he1 : fl.isEmpty = false := by cases fl with | nil => exact absurd rfl hfe | cons _ _ => rfl
            have he2 : (refOf fl).isEmpty = false := by rw [refOf_empty]; exact he1
            have HFE := Lib.hid hfe
            clear hfe
            go_wp2_with fail
            go_region_held3 (fun w' => w'.cell? ⟨w.heap.size, 1, none⟩ = some (.int .i64 (a : Int))) (go_keep)
              (first
                | (go_at_call 14; refine HSW.out.mono ?_; rintro e w2 ⟨rfl, hq1, hq2⟩; obtain ⟨g', hg', hf2, hk2'⟩ := hq2 HFE.out; have hk2 : Kp (fun k => k = b) w1 w2 := (Kp.dr w1).no.trans' hk2'; have hg2 := hf2.lt.2; have hg1 : w1.heap.size ≤ g' := hg'; have hy1 := hk2.cell hx1 (by show ¬ (w.heap.size = b); omega))
                | (go_at_call 34; refine (HRS2.out g' _ hk2 (.inr hg1) hg2).mono ?_; rintro e w3 ⟨rfl, hr3, hk3⟩; have hy2 := hk3.cell hy1 (by show ¬ (w.heap.size = bx); omega)))
            rw [he2, if_neg (by simp)] at hr3
            have hflp : 0 < fl.length := by cases fl with | nil => simp at he1 | cons _ _ => simp
            have hfl1 : fl.flatten.length ≤ cs.flatten.length := by rw [HFLL.out]; exact flat_filter _ _
            have hokf : Okc N fl := by rw [HFLL.out]; exact okc_filter HB1.out.2.2.1 _
            have hfin : DoPost S w b g bx N cs (.returned (.bool true)) w3 := ⟨rfl, g', fl, ⟨flat_after hf2 hk3, hr3, hokf, hflp⟩, by omega, Nat.le_trans (num_le_flat hokf) hfl1, .inr (by omega), (HK1.out.no.trans hk2 (fun q _ e => .inl (.inl e))).trans hk3 (fun q _ e => .inr e)⟩
            have HFIN := Lib.hid hfin
            clear hfin hr3 hk3 hk2 hf2 hq1 hq2 hokf hfl1 hk2'
            go_wp2
            go_ret
            exact HFIN.out
        · have HWB := Lib.hid (saw_bad at_ d w1 HB1.out.1 h1 h2 hw1 (by omega) hz)
          have hzb : (dataF N at_ d.size != 0) = true := by simpa using hz
          obtain ⟨z, hzz⟩ : ∃ z, z = dataF N at_ d.size := ⟨_, rfl⟩
          rw [← hzz] at hzb hz ⊢
          clear hzz
          have hfin : DoPost S w b g bx N cs (.returned (.bool true)) w1 := ⟨rfl, g, cs, HB1.out, by omega, hnf, .inl rfl, HK1.out.no⟩
          have HFIN := Lib.hid hfin
          clear hfin
          go_wp2_with (go_at_call 14; refine HWB.out.mono ?_; rintro e w2 ⟨rfl, rfl⟩)
          go_ret
          exact HFIN.out
      · obtain ⟨z, hzz⟩ : ∃ z, z = dataF N at_ d.size := ⟨_, rfl⟩
        rw [← hzz]
        clear hzz
        by_cases hk6 : kd = 6
        · subst hk6
          have HRW := Lib.hid (rsafe_ok w1 HB1.out.2.1 (okr_of HB1.out.2.2.1 HF.out) HRS.out HRL.out)
          go_wp2_with fail
          refine HRW.out.mono ?_
          rintro e w2 ⟨rfl, hr2, hk2⟩
          have hf2 := flat_after HB1.out.1 hk2
          have hs2 := hk2.size
          have HR2 := Lib.hid hr2
          have HF2 := Lib.hid hf2
          have HK2 := Lib.hid hk2
          clear hr2 hf2 hk2
          go_wp2_with fail
          refine (safe_any w2 HF2.out HB1.out.2.2.1 (fun q hq => Nat.lt_of_lt_of_le (HFS.out q hq) hs2) hlen HCL.out).mono ?_
          rintro e w3 ⟨rfl, hf3, hk3⟩
          have hr3 := ref_after HR2.out hk3 (fun q e => .inr e) (.inl rfl)
          rw [refOf_sf1 HB1.out.2.2.1] at hr3
          have hfin : DoPost S w b g bx N cs (.returned (.bool true)) w3 := ⟨rfl, g, _, ⟨hf3, hr3, okc_sf1 HB1.out.2.2.1, by rw [List.length_map]; exact HB1.out.2.2.2⟩, by rw [flat_sf1]; omega, by rw [List.length_map]; exact hnf, .inl rfl, (HK1.out.no.trans HK2.out (fun q _ e => .inr e)).trans hk3 (fun q _ e => .inl (.inr e))⟩
          have HFIN := Lib.hid hfin
          clear hf3 hk3 hr3 hfin
          go_wp2
          go_ret
          exact HFIN.out
        · by_cases hk7 : kd = 7
          · subst hk7
            have HRW := Lib.hid (rcrash_ok w1 HB1.out.2.1 (okr_of HB1.out.2.2.1 HF.out) HRS.out HRL.out (by rw [refOf_flat, List.length_map]; exact HF.out))
            go_wp2_with fail
            refine HRW.out.mono ?_
            rintro e w2 ⟨rfl, hr2, hk2⟩
            have hf2 := flat_after HB1.out.1 hk2
            have hs2 := hk2.size
            have HR2 := Lib.hid hr2
            have HF2 := Lib.hid hf2
            have HK2 := Lib.hid hk2
            clear hr2 hf2 hk2
            go_wp2_with fail
            refine (crash_any w2 HF2.out h2 HB1.out.2.2.1 HB1.out.2.2.2 (fun q hq => Nat.lt_of_lt_of_le (HFS.out q hq) hs2) hlen HCL.out HF.out).mono ?_
            rintro e w3 ⟨rfl, g', hg', hf3, hk3⟩
            have hr3 := ref_after HR2.out hk3 (fun q e => .inl e) (.inr hg')
            rw [refOf_crash HB1.out.2.2.1] at hr3
            have hcl2 := crash_le cs
            have hfin : DoPost S w b g bx N cs (.returned (.bool true)) w3 := ⟨rfl, g', _, ⟨hf3, hr3, okc_crash HB1.out.2.2.1, by rw [List.length_map]; exact crash_pos' HB1.out.2.2.1 HB1.out.2.2.2⟩, by rw [flat_one]; omega, by rw [List.length_map]; exact hcl2, .inr (by omega), (HK1.out.no.trans HK2.out (fun q _ e => .inr e)).trans hk3 (fun q _ e => .inl (.inl e))⟩
            have HFIN := Lib.hid hfin
            clear hf3 hk3 hr3 hfin
            go_wp2
            go_ret
            exact HFIN.out
          · have hw2 : i64 xn := HW2.out
            have ha0 : (kd == 0) = false := by simp; omega
            have ha1 : (kd == 1) = false := by simp; omega
            have ha2 : (kd == 2) = false := by simp; omega
            have ha3 : (kd == 3) = false := by simpa using hk3
            have ha5 : (kd == 5) = false := by simpa using hk5
            have ha6 : (kd == 6) = false := by simpa using hk6
            have ha7 : (kd == 7) = false := by simpa using hk7
            by_cases hz : mayF N at_ xn = 0
            · obtain ⟨hm1, hm2, hm3, hm4⟩ := may_zero hz
              obtain ⟨a, rfl⟩ : ∃ a : Nat, at_ = a := ⟨at_.toNat, by omega⟩
              obtain ⟨n, rfl⟩ : ∃ n : Nat, xn = n := ⟨xn.toNat, by omega⟩
              have HZ := Lib.hid hz
              have hp0 : 0 < (refOf cs).length := by rw [refOf_len]; exact HB1.out.2.2.2
              have HRD := Lib.hid (read_ok a n w1 HB1.out.1 h1 h2 HB1.out.2.2.1 HB1.out.2.2.2 hz hlen)
              have HRR := Lib.hid (fun W (hk : Kp No w1 W) => rread_ok a n W (HB1.out.2.1.no hk) h2 (okr_of HB1.out.2.2.1 HF.out) hp0 (by omega) HRL.out)
              have HMM := Lib.hid (fun W (hk : Kp No w1 W) => rmay_any a n N bx W (by omega) (by omega) hw1 hw2 (hk.cell' hrc))
              rcases read_both (at_ := a) (n := n) HB1.out.2.2.1 HB1.out.2.2.2 hp0 with ⟨t, e1, e2⟩ | ⟨e1, e2⟩
              · rw [e1] at HRD
                rw [e2] at HRR
                have htt := str_eq (rfl : t = t)
                clear e1 e2 hz
                go_wp2_with (first | (go_at_call 21; refine HRD.out.mono ?_; rintro e w2 ⟨rfl, hk2⟩; have hy1 := hk2.cell' hx1; have hy2 := hk2.cell' hx2) | (go_at_call 33; refine (HMM.out _ hk2).mono ?_; rintro e w' ⟨rfl, rfl⟩; rw [HZ.out]) | (go_at_call 37; refine (HRR.out _ hk2).mono ?_; rintro e w3 ⟨rfl, hk3⟩))
                have hkk := hk2.trans' hk3
                have hfin : DoPost S w b g bx N cs (.returned (.bool true)) w3 := ⟨rfl, g, cs, HB1.out.no hkk, by omega, hnf, .inl rfl, (HK1.out.trans' hkk).no⟩
                have HFIN := Lib.hid hfin
                clear hfin hkk hk2 hk3
                go_wp2
                go_ret
                exact HFIN.out
              · rw [e1] at HRD
                rw [e2] at HRR
                clear e1 e2 hz
                go_wp2_with (first | (go_at_call 21; refine HRD.out.mono ?_; rintro e w2 ⟨rfl, hk2⟩; have hy1 := hk2.cell' hx1; have hy2 := hk2.cell' hx2) | (go_at_call 33; refine (HMM.out _ hk2).mono ?_; rintro e w' ⟨rfl, rfl⟩; rw [HZ.out]) | (go_at_call 37; refine (HRR.out _ hk2).mono ?_; rintro e w3 ⟨rfl, hk3⟩))
                have hkk := hk2.trans' hk3
                have hfin : DoPost S w b g bx N cs (.returned (.bool true)) w3 := ⟨rfl, g, cs, HB1.out.no hkk, by omega, hnf, .inl rfl, (HK1.out.trans' hkk).no⟩
                have HFIN := Lib.hid hfin
                clear hfin hkk hk2 hk3
                go_wp2
                go_ret
                exact HFIN.out
            · have HRD := Lib.hid (read_bad at_ xn w1 HB1.out.1 h1 h2 hw1 hw2 hz)
              have HMM := Lib.hid (fun W (hk : Kp No w1 W) => rmay_any at_ xn N bx W (by omega) (by omega) hw1 hw2 (hk.cell' hrc))
              have hzb : (mayF N at_ xn != 0) = true := by simpa using hz
              obtain ⟨m, hmm⟩ : ∃ m, m = mayF N at_ xn := ⟨_, rfl⟩
              rw [← hmm] at hzb hz HRD HMM
              clear hmm
              have hfin : DoPost S w b g bx N cs (.returned (.bool true)) w1 := ⟨rfl, g, cs, HB1.out, by omega, hnf, .inl rfl, HK1.out.no⟩
              have HFIN := Lib.hid hfin
              clear hfin
              go_wp2_with (first | (go_at_call 21; refine HRD.out.mono ?_; rintro e w2 ⟨rfl, rfl⟩) | (go_at_call 33; refine (HMM.out _ (Kp.refl _ _)).mono ?_; rintro e w' ⟨rfl, rfl⟩))
              go_ret
              exact HFIN.out
end Go.Proofs.Ytagekjijngbmdaa
