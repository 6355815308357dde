/- The document's answer: Read. -/
import Derived.Test.YtagekjijngbmdaaFt
set_option linter.unusedVariables false
set_option linter.unusedSimpArgs false
namespace Go.Proofs.Ytagekjijngbmdaa
open Go.RowKit
attribute [local go_sem ↓] Go.wp_at_zero Go.wp_at_succ

def rpt (at_ n : Nat) (c : RCh) : ByteArray := (rlst c).extract (48 * at_) (48 * at_ + 48 * n)
def rreadRes (at_ n : Nat) (rs : List RCh) (c0 : RCh) : Value := if rs.all (fun c => decide (rpt at_ n c = rpt at_ n c0)) then .tuple #[.string (rpt at_ n c0), .bool true] else .tuple #[.string ⟨#[]⟩, .bool false]

set_option maxHeartbeats 2000000 in
theorem rread_ok {S : Nat → Prop} {b N : Nat} {rs : List RCh} (at_ n : Nat) (w : World) (h : RefR S w b N rs) (h2 : N ≤ 64) (hok : Okr N rs) (h0 : 0 < rs.length) (hd : at_ + n ≤ N) (hlen : rs.length ≤ 1000000000) :
    Calls Try.prog 37 #[.pointer (some ⟨b, 0, none⟩), .int .i64 at_, .int .i64 n] w fun e w' => e = .returned (rreadRes at_ n rs rs[0]) ∧ Kp No w w' := by
  obtain ⟨v, hb, hv, hSb⟩ := h
  obtain ⟨A, c, rfl, hc1, hc2, hA⟩ := rchainAt hv
  obtain ⟨l, hl⟩ : ∃ l, l = rs.length := ⟨_, rfl⟩
  rw [← hl] at hb hlen hc2
  have hcb : w.cell? ⟨b, 1, none⟩ = some (.slice A l c) := cellOf hb 1
  obtain ⟨b1, o1, rfl, hr⟩ := hA h0
  obtain ⟨u0, hcu0, hu0⟩ := hr 0 h0
  rw [Nat.add_zero] at hcu0
  obtain ⟨c0, hc0⟩ : ∃ c0, c0 = rs[0] := ⟨_, rfl⟩
  rw [← hc0] at hu0 ⊢
  obtain ⟨hp0, hp2, hp3⟩ := hok c0 (hc0 ▸ List.getElem_mem _)
  obtain ⟨A0, d0, rfl, _, _⟩ := hu0.slice
  have HL0 := Lib.hid (rlast_any _ c0 (rlst c0) w hu0 (rlst_get hp0))
  have hx0s := hp3 _ (rlst_mem hp0)
  have hp : rpt at_ n c0 = (rlst c0).extract (48 * at_) (48 * at_ + 48 * n) := rfl
  obtain ⟨p, hpp⟩ : ∃ p, p = rpt at_ n c0 := ⟨_, rfl⟩
  rw [← hpp] at hp
  obtain ⟨x0, hx0⟩ : ∃ x0, x0 = rlst c0 := ⟨_, rfl⟩
  rw [← hx0] at HL0 hx0s hp
  obtain ⟨m0, hm0⟩ : ∃ m0, m0 = c0.length := ⟨_, rfl⟩
  rw [← hm0] at hcu0 HL0
  have l0 : (0 : Int) < (l : Int) := by omega
  have j1 : (0 : Int) ≤ 48 * (at_ : Int) := by omega
  have j2 : 48 * (at_ : Int) ≤ 48 * (at_ : Int) + 48 * (n : Int) := by omega
  have j4 : 48 * (at_ : Int) + 48 * (n : Int) ≤ (x0.size : Int) := by omega
  have HL := Lib.hid hl
  have HR := Lib.hid hr
  have HOK := Lib.hid hok
  have HP := Lib.hid hp
  have HPP := Lib.hid hpp
  have HC0 := Lib.hid hc0
  clear hl hr hok hp hv hA hb hpp hx0 hm0 hu0 hc0 hp3 hp2 hp0
  go_enter Try.func37, Try.ntmps37
  go_wp2_with (go_at_call 42; refine HL0.out.mono ?_; rintro e w1 ⟨rfl, hk1⟩)
  rw [← HP.out]
  go_loopw [9] (fun i wr => ∃ k : Nat, k ≤ l ∧ i = .int .i64 k ∧ (∀ x ∈ rs.take k, rpt at_ n x = p) ∧ Kp No w wr) (fun i _ => l - (intOf i).toNat)
  case atStart => exact ⟨0, Nat.zero_le _, rfl, by simp, hk1⟩
  case round =>
    clear hcu0
    obtain ⟨k, hk, rfl, he, hkr⟩ := hrel
    have hcr := hkr.cell' hcb
    by_cases hlt : k < l
    · have hkn : k < rs.length := by rw [← HL.out]; exact hlt
      obtain ⟨u, hcu, hu⟩ := HR.out k hkn
      obtain ⟨ch, hch⟩ : ∃ ch, ch = rs[k] := ⟨_, rfl⟩
      rw [← hch] at hu
      obtain ⟨hp, hp2, hp3⟩ := HOK.out ch (hch ▸ List.getElem_mem _)
      have hx := rlst_get hp
      have hxs := hp3 _ (rlst_mem hp)
      have hcu' := hkr.cell' hcu
      have hur := hu.no hkr
      obtain ⟨Au, cu, rfl, hcu1, hcu2⟩ := hur.slice
      have HLA := Lib.hid (rlast_any _ ch (rlst ch) wr hur hx)
      have hq : rpt at_ n ch = (rlst ch).extract (48 * at_) (48 * at_ + 48 * n) := rfl
      obtain ⟨x, hxx⟩ : ∃ x, x = rlst ch := ⟨_, rfl⟩
      rw [← hxx] at HLA hxs hq
      obtain ⟨m, hm⟩ : ∃ m, m = ch.length := ⟨_, rfl⟩
      rw [← hm] at hcu1 hcu' HLA
      have i0 : (0 : Int) ≤ (k : Int) := by omega
      have i1 : (k : Int) < (l : Int) := by omega
      have j5 : 48 * (at_ : Int) + 48 * (n : Int) ≤ (x.size : Int) := by omega
      have HE := Lib.hid he
      have HK := Lib.hid hkr
      have HQ := Lib.hid hq
      have HCH := Lib.hid hch
      clear he hkr hq hch hk1 hcu hu hur hx hp hp2 hp3 hxx hm
      by_cases hpq : x.extract (48 * at_) (48 * at_ + 48 * n) = p
      · have hz := str_eq hpq
        have HPQ := Lib.hid hpq
        clear hpq
        go_wp2_with (go_at_call 42; refine HLA.out.mono ?_; rintro e w1 ⟨rfl, hk1⟩)
        go_roundw
        case rel =>
          refine ⟨k + 1, by omega, by go_num, ?_, HK.out.trans' hk1⟩
          intro y hy
          rw [List.take_succ_eq_append_getElem hkn, List.mem_append] at hy
          rcases hy with hy | hy
          · exact HE.out y hy
          · rw [List.mem_singleton.1 hy, ← HCH.out, HQ.out]; exact HPQ.out
        case measure => simp [intOf]; omega
      · have hz := str_ne hpq
        have HPQ := Lib.hid hpq
        clear hpq
        go_wp2_with (go_at_call 42; refine HLA.out.mono ?_; rintro e w1 ⟨rfl, hk1⟩)
        go_ret2
        refine ⟨ret_eq (Eq.symm ?_), HK.out.trans' hk1⟩
        unfold rreadRes
        rw [if_neg]
        · rfl
        · rw [List.all_eq_true]
          intro hall
          have := hall ch (HCH.out ▸ List.getElem_mem _)
          rw [HQ.out, ← HPP.out] at this
          exact HPQ.out (of_decide_eq_true this)
    · obtain rfl : k = l := by omega
      have HE := Lib.hid he
      have HK := Lib.hid hkr
      clear he hkr hk1
      go_wp2
      go_ret2
      refine ⟨ret_eq (Eq.symm ?_), HK.out⟩
      unfold rreadRes
      rw [if_pos]
      · rw [← HPP.out]; rfl
      · rw [List.all_eq_true]
        intro y hy
        have := HE.out y (by rw [HL.out, List.take_length]; exact hy)
        rw [this, ← HPP.out]
        exact decide_eq_true rfl
end Go.Proofs.Ytagekjijngbmdaa
