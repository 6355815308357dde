/- The document's answer: Safe, States, Read. -/
import Derived.Test.YtagekjijngbmdaaFs
set_option linter.unusedVariables false
set_option linter.unusedSimpArgs false
namespace Go.Proofs.Ytagekjijngbmdaa
open Go.RowKit
attribute [local go_sem ↓] Go.wp_at_zero Go.wp_at_succ

def rsf (c : RCh) : RCh := [rlst c]

set_option maxHeartbeats 4000000 in
theorem rsafe_ok {S : Nat → Prop} {b N : Nat} {rs : List RCh} (w : World) (h : RefR S w b N rs) (hok : Okr N rs)
    (hS : ∀ k, S k → k < w.heap.size) (hlen : rs.length ≤ 1000000000) :
    Calls Try.prog 35 #[.pointer (some ⟨b, 0, none⟩)] w fun e w' => e = .returned (.tuple #[]) ∧ RefR S w' b N (rs.map rsf) ∧ Kp (fun k => k = b) w w' := by
  obtain ⟨v, hb, hv, hSb⟩ := h
  obtain ⟨A, c, rfl, hc1, hc2, hA⟩ := rchainAt hv
  obtain ⟨n, hn⟩ : ∃ n, n = rs.length := ⟨_, rfl⟩
  have hlb := blt hb
  rw [← hn] at hb hlen hc2
  have hcb : w.cell? ⟨b, 1, none⟩ = some (.slice A n c) := cellOf hb 1
  have HN := Lib.hid hn
  have HA := Lib.hid hA
  have HB := Lib.hid hb
  have HOK := Lib.hid hok
  have HSS := Lib.hid hS
  clear hv hA hn hb hok hS
  go_enter Try.func35, Try.ntmps35
  go_wp2
  go_loopw [2, 3] (fun v i wr => ∃ k : Nat, k ≤ n ∧ i = .int .i64 k ∧ OwR KRC 66 w.heap.size (fun k => S k ∨ k = b) wr v ((rs.take k).map rsf) ∧ Kp No w wr) (fun _ i _ => n - (intOf i).toNat)
  case atStart => exact ⟨0, Nat.zero_le _, rfl, OwR.nil _ _ _ _ _, Kp.refl _ _⟩
  case round =>
    obtain ⟨k, hk, rfl, ho, hkr⟩ := hrel
    have hcr := hkr.cell' hcb
    by_cases hlt : k < n
    · have hkn : k < rs.length := by rw [← HN.out]; exact hlt
      obtain ⟨b1, o1, rfl, hr⟩ := HA.out (by omega)
      obtain ⟨u, hcu, hu⟩ := hr k hkn
      obtain ⟨ch, hch⟩ : ∃ ch, ch = rs[k] := ⟨_, rfl⟩
      rw [← hch] at hu
      obtain ⟨hp, hp2, hp3⟩ := HOK.out ch (hch ▸ List.getElem_mem _)
      have hx := rlst_get hp
      have hcu' := hkr.cell' hcu
      have hur := hu.no hkr
      obtain ⟨Au, cu, rfl, hcu1, hcu2⟩ := hur.slice
      have HL := Lib.hid (rlast_any _ ch (rlst ch) wr hur hx)
      have hst : (rs.take (k + 1)).map rsf = (rs.take k).map rsf ++ [[rlst ch]] := by
        rw [List.take_succ_eq_append_getElem hkn, List.map_append, ← hch]; rfl
      obtain ⟨x, hxx⟩ : ∃ x, x = rlst ch := ⟨_, rfl⟩
      rw [← hxx] at HL hst
      have hfl : ((rs.take k).map rsf).length ≤ 1000000000 := by rw [List.length_map, List.length_take]; omega
      have HFL := Lib.hid hfl
      obtain ⟨m, hm⟩ : ∃ m, m = ch.length := ⟨_, rfl⟩
      rw [← hm] at hcu1 hcu' HL hp2 hu
      have k0 : (0 : Int) ≤ (k : Int) := by omega
      have k1 : (k : Int) < (n : Int) := by omega
      have HO := Lib.hid ho
      have HKR := Lib.hid hkr
      have HST := Lib.hid hst
      have hsr := hkr.size
      clear ho hkr hr hcu hu hch hp hp3 hx hur hxx hst hm hfl
      go_wp2_with fail
      refine HL.out.mono ?_
      rintro e w1 ⟨rfl, hk1⟩
      have hcr1 := hk1.cell' hcr
      have hs1 := hk1.size
      have HK1 := Lib.hid hk1
      clear hk1
      go_wp2_with (at_builtin; refine wpList_ap1h (K := KRC) (S := fun k => S k ∨ k = b) (w1.alloc (.cells #[.string x] 9)) (w1.heap.size + 1) (by simp) (by rfl) _ _ 45 (by rfl) w.heap.size 66 66 _ 24 Try.underlying45 I_rch rfl (by decide) (by decide) _ _ (by rfl) (HO.out.no (HK1.out.alloc _)) 1 1 (by rfl) rfl _ [x] ?c1 ?c2 ?c3 ?_)
      case c1 =>
        refine ⟨_, rfl, SlR.lit1 rfl ?_⟩
        rintro ((y | y) | y)
        · have := HSS.out _ y; omega
        · omega
        · have := (HO.out.lt y).2; omega
      case c2 => simp; omega
      case c3 => have := HFL.out; omega
      intro v5 W5 hv5 hk5 hat5
      rw [← List.map_take, ← HST.out] at hv5
      have hk6 : Kp No w W5 := (HKR.out.trans' (HK1.out.alloc _)).trans hk5 (fun q hq e => by have := (HO.out.lt e).1; omega)
      have HV5 := Lib.hid hv5
      have HK6 := Lib.hid hk6
      clear hv5 hk5 hat5 hk6
      go_wp2
      go_roundw
      case rel => exact ⟨k + 1, by omega, by go_num, HV5.out, HK6.out⟩
      case measure => simp [intOf]; omega
    · obtain rfl : k = n := by omega
      have htk : rs.take k = rs := by rw [HN.out, List.take_length]
      rw [htk] at ho
      obtain ⟨A9, c9, e9, _, _⟩ := ho.len
      obtain ⟨l9, hl9⟩ : ∃ l9, l9 = (rs.map rsf).length := ⟨_, rfl⟩
      rw [← hl9] at e9
      subst e9
      clear hl9
      have hb2 := hkr.heap HB.out id
      have hcf := freeOf hb2 1
      have HO := Lib.hid ho
      have HKR := Lib.hid hkr
      have hbs := heap_set hb2 1 (.slice A9 l9 c9)
      have HBS := Lib.hid hbs
      clear ho hkr htk hb2 hbs
      go_wp2
      go_returns
      have hset : Kp (fun j => j = b) w (wr.setCell ⟨b, 1, none⟩ (.slice A9 l9 c9)) := (HKR.out.no).setAt 1 _
      have hset2 : Kp (fun j => j = b) wr (wr.setCell ⟨b, 1, none⟩ (.slice A9 l9 c9)) := (Kp.refl _ _).setAt 1 _
      refine ⟨rfl, ⟨_, HBS.out, ?_, hSb⟩, hset⟩
      refine (HO.out.slR (fun q e x => ?_)).kp hset2 (fun q _ e => .inr e)
      have := (HO.out.lt e).1
      rcases x with x | x
      · have := HSS.out _ x; omega
      · omega

/-- How many states there are. -/
def rcnt (rs : List RCh) : Nat := (rs.map List.length).sum
theorem rcnt_take {rs : List RCh} {k : Nat} (hk : k < rs.length) : rcnt (rs.take (k + 1)) = rcnt (rs.take k) + rs[k].length := by
  unfold rcnt
  rw [List.take_succ_eq_append_getElem hk, List.map_append, List.sum_append]
  simp
theorem rcnt_take_le (rs : List RCh) (k : Nat) : rcnt (rs.take k) ≤ rcnt rs := by
  unfold rcnt
  conv => rhs; rw [← List.take_append_drop k rs]
  rw [List.map_append, List.sum_append]
  omega

set_option maxHeartbeats 1000000 in
theorem rstates_ok {S : Nat → Prop} {b N : Nat} {rs : List RCh} (w : World) (h : RefR S w b N rs) (hc : rcnt rs ≤ 1000000000000) (hlen : rs.length ≤ 2000000000) :
    Calls Try.prog 20 #[.pointer (some ⟨b, 0, none⟩)] w fun e w' => e = .returned (.int .i64 (rcnt rs)) ∧ w = w' := by
  obtain ⟨v, hb, hv, hSb⟩ := h
  obtain ⟨A, c, rfl, hc1, hc2, hA⟩ := rchainAt hv
  obtain ⟨n, hn⟩ : ∃ n, n = rs.length := ⟨_, rfl⟩
  rw [← hn] at hb hlen hc2
  have hcb : w.cell? ⟨b, 1, none⟩ = some (.slice A n c) := cellOf hb 1
  have HN := Lib.hid hn
  have HA := Lib.hid hA
  clear hv hA hn hb
  go_enter Try.func20, Try.ntmps20
  go_wp2
  go_loop [3, 4] (fun s i => ∃ k : Nat, k ≤ n ∧ i = .int .i64 k ∧ s = .int .i64 (rcnt (rs.take k))) (fun _ i => n - (intOf i).toNat)
  case atStart => exact ⟨0, Nat.zero_le _, rfl, rfl⟩
  case round =>
    obtain ⟨k, hk, rfl, rfl⟩ := hrel
    by_cases hlt : k < n
    · have hkn : k < rs.length := by rw [← HN.out]; exact hlt
      obtain ⟨b1, o1, rfl, hr⟩ := HA.out (by omega)
      obtain ⟨u, hcu, hu⟩ := hr k hkn
      obtain ⟨ch, hch⟩ : ∃ ch, ch = rs[k] := ⟨_, rfl⟩
      have hst := rcnt_take hkn
      have hle := rcnt_take_le rs (k + 1)
      rw [← hch] at hu hst
      obtain ⟨Au, cu, rfl, hcu1, hcu2⟩ := hu.slice
      obtain ⟨m, hm⟩ : ∃ m, m = ch.length := ⟨_, rfl⟩
      rw [← hm] at hcu1 hcu hst
      obtain ⟨q, hq⟩ : ∃ q, q = rcnt (rs.take k) := ⟨_, rfl⟩
      rw [← hq] at hst ⊢
      have k0 : (0 : Int) ≤ (k : Int) := by omega
      have k1 : (k : Int) < (n : Int) := by omega
      have hqm : q + m ≤ 1000000000000 := by omega
      have HST := Lib.hid hst
      clear hr hu hch hm hst hle hq
      go_wp2
      go_round
      case rel => exact ⟨k + 1, by omega, by go_num, by rw [HST.out]; go_num⟩
      case measure => simp [intOf]; omega
    · obtain rfl : k = n := by omega
      have htk : rs.take k = rs := by rw [HN.out, List.take_length]
      rw [htk]
      clear htk
      go_wp2
      go_ret
      exact ⟨rfl, rfl⟩
end Go.Proofs.Ytagekjijngbmdaa
