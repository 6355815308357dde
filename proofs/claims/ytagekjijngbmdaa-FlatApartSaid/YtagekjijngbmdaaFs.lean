/- The document's answer: Saw, Safe. -/
import Derived.Test.YtagekjijngbmdaaFr
set_option linter.unusedVariables false
set_option linter.unusedSimpArgs false
namespace Go.Proofs.Ytagekjijngbmdaa
open Go.RowKit
attribute [local go_sem ↓] Go.wp_at_zero Go.wp_at_succ

def rsw (at_ : Nat) (d : ByteArray) (c : RCh) : Bool := decide ((rlst c).extract (48 * at_) (48 * at_ + d.size) = d)
def RSawPost (S : Nat → Prop) (w : World) (b N : Nat) (rs fl : List RCh) (e : Ending) (w' : World) : Prop :=
  e = .returned (.bool (!fl.isEmpty)) ∧ RefR S w' b N (if fl.isEmpty then rs else fl) ∧ Kp (fun k => k = b) w w'

set_option maxHeartbeats 4000000 in
theorem rsaw_ok {S : Nat → Prop} {b N : Nat} {rs : List RCh} (at_ : Nat) (d : ByteArray) (w : World) (h : RefR S w b N rs) (h2 : N ≤ 64) (hok : Okr N rs) (hd : 48 * at_ + d.size ≤ 48 * N)
    (hS : ∀ k, S k → k < w.heap.size) (hlen : rs.length ≤ 1000000000) :
    Calls Try.prog 34 #[.pointer (some ⟨b, 0, none⟩), .int .i64 at_, .string d] w (RSawPost S w b N rs (rs.filter (rsw at_ d))) := by
  have HR0 := Lib.hid h
  obtain ⟨v, hb, hv, hSb⟩ := h
  obtain ⟨A, c, rfl, hc1, hc2, hA⟩ := rchainAt hv
  obtain ⟨n, hn⟩ : ∃ n, n = rs.length := ⟨_, rfl⟩
  have hlb := blt hb
  rw [← hn] at hb hlen hc2
  have hcb : w.cell? ⟨b, 1, none⟩ = some (.slice A n c) := cellOf hb 1
  have HN := Lib.hid hn
  have HA := Lib.hid hA
  have HB := Lib.hid hb
  have HOK := Lib.hid hok
  have HSS := Lib.hid hS
  obtain ⟨fl, hfl⟩ : ∃ fl, fl = rs.filter (rsw at_ d) := ⟨_, rfl⟩
  rw [← hfl]
  have HF := Lib.hid hfl
  clear hv hA hn hb hok hS hfl
  go_enter Try.func34, Try.ntmps34
  go_wp2
  go_loopw [7, 8] (fun v i wr => ∃ k : Nat, k ≤ n ∧ i = .int .i64 k ∧ OwR KRC 66 w.heap.size (fun k => S k ∨ k = b) wr v ((rs.take k).filter (rsw at_ d)) ∧ Kp No w wr) (fun _ i _ => n - (intOf i).toNat)
  case atStart => exact ⟨0, Nat.zero_le _, rfl, OwR.nil _ _ _ _ _, Kp.refl _ _⟩
  case round =>
    obtain ⟨k, hk, rfl, ho, hkr⟩ := hrel
    have hcr := hkr.cell' hcb
    by_cases hlt : k < n
    · have hkn : k < rs.length := by rw [← HN.out]; exact hlt
      obtain ⟨b1, o1, rfl, hr⟩ := HA.out (by omega)
      obtain ⟨u, hcu, hu⟩ := hr k hkn
      obtain ⟨ch, hch⟩ : ∃ ch, ch = rs[k] := ⟨_, rfl⟩
      rw [← hch] at hu
      obtain ⟨hp, hp2, hp3⟩ := HOK.out ch (hch ▸ List.getElem_mem _)
      have hx := rlst_get hp
      have hxs := hp3 _ (rlst_mem hp)
      have hcu' := hkr.cell' hcu
      have hur := hu.no hkr
      obtain ⟨Au, cu, rfl, hcu1, hcu2⟩ := hur.slice
      have HL := Lib.hid (rlast_any _ ch (rlst ch) wr hur hx)
      have hst : (rs.take (k + 1)).filter (rsw at_ d) = (rs.take k).filter (rsw at_ d) ++ (if rsw at_ d ch then [ch] else []) := by
        rw [List.take_succ_eq_append_getElem hkn, List.filter_append, ← hch, List.filter_cons, List.filter_nil]
      have hrs : rsw at_ d ch = decide ((rlst ch).extract (48 * at_) (48 * at_ + d.size) = d) := rfl
      obtain ⟨x, hxx⟩ : ∃ x, x = rlst ch := ⟨_, rfl⟩
      rw [← hxx] at HL hxs hrs
      obtain ⟨m, hm⟩ : ∃ m, m = ch.length := ⟨_, rfl⟩
      rw [← hm] at hcu1 hcu' HL hp2 hu
      have k0 : (0 : Int) ≤ (k : Int) := by omega
      have k1 : (k : Int) < (n : Int) := by omega
      have j1 : (0 : Int) ≤ 48 * (at_ : Int) := by omega
      have j2 : 48 * (at_ : Int) ≤ 48 * (at_ : Int) + (d.size : Int) := by omega
      have j4 : 48 * (at_ : Int) + (d.size : Int) ≤ (x.size : Int) := by omega
      have HO := Lib.hid ho
      have HKR := Lib.hid hkr
      have HU := Lib.hid hu
      have hfl : ((rs.take k).filter (rsw at_ d)).length ≤ 1000000000 := by
        have h1 := List.length_filter_le (rsw at_ d) (rs.take k)
        have h2 := List.length_take_le k rs
        omega
      have HFL := Lib.hid hfl
      have HST := Lib.hid hst
      have HM := Lib.hid hm
      clear ho hkr hr hcu hu hch hp hp3 hx hur hxx hst hm hfl
      by_cases hz : x.extract (48 * at_) (48 * at_ + d.size) = d
      · rw [decide_eq_true hz] at hrs
        rw [hrs, if_pos rfl] at HST
        have hzz := str_eq hz
        have hHL := HL.out
        clear hrs hz
        go_wp2_with (first | (go_at_call 42; refine HL.out.mono ?_; rintro e w1 ⟨rfl, hk1⟩; have hcu1 := hk1.cell' hcu'; have hcr1 := hk1.cell' hcr) | (at_builtin; refine wpList_ap1 (K := KRC) (S := fun k => S k ∨ k = b) w1 (by rfl) _ _ 45 (by rfl) w.heap.size 66 66 _ 24 Try.underlying45 I_rch rfl (by decide) (by decide) _ _ (by rfl) (HO.out.no hk1) 1 1 (by rfl) rfl _ ch ?c1 ?c2 ?c3 ?_))
        case c1 => exact Kind.fresh (K := KRC) (w := w) ⟨_, rfl, HU.out⟩ (HKR.out.trans' hk1) (fun q e => (HO.out.lt e).1)
        case c2 => exact Nat.le_trans HKR.out.size hk1.size
        case c3 => have := HFL.out; omega
        intro v5 W5 hv5 hk5 hat5
        rw [← HST.out] at hv5
        have hk6 : Kp No w W5 := (HKR.out.trans' hk1).trans hk5 (fun q hq e => by have := (HO.out.lt e).1; omega)
        have HV5 := Lib.hid hv5
        have HK6 := Lib.hid hk6
        clear hv5 hk5 hat5 hk6
        go_wp2
        go_roundw
        case rel => exact ⟨k + 1, by omega, by go_num, HV5.out, HK6.out⟩
        case measure => simp [intOf]; omega
      · rw [decide_eq_false hz] at hrs
        rw [hrs, if_neg (by simp), List.append_nil] at HST
        have hzz := str_ne hz
        clear hrs hz
        go_wp2_with (go_at_call 42; refine HL.out.mono ?_; rintro e w1 ⟨rfl, hk1⟩; have hcu1 := hk1.cell' hcu'; have hcr1 := hk1.cell' hcr)
        go_roundw
        case rel => exact ⟨k + 1, by omega, by go_num, by rw [HST.out]; exact HO.out.no hk1, HKR.out.trans' hk1⟩
        case measure => simp [intOf]; omega
    · obtain rfl : k = n := by omega
      have htk : rs.take k = rs := by rw [HN.out, List.take_length]
      rw [htk] at ho
      obtain ⟨A9, c9, e9, _, _⟩ := ho.len
      rw [← HF.out] at ho e9
      obtain ⟨l9, hl9⟩ : ∃ l9, l9 = fl.length := ⟨_, rfl⟩
      rw [← hl9] at e9
      subst e9
      by_cases h0 : l9 = 0
      · subst h0
        have hnil : fl = [] := List.eq_nil_of_length_eq_zero hl9.symm
        have HNIL := Lib.hid hnil
        have HKR := Lib.hid hkr
        clear hl9 hnil ho htk hkr
        go_wp2
        go_ret
        rw [HNIL.out]
        exact ⟨rfl, HR0.out.no HKR.out, HKR.out.no⟩
      · have h0' : ¬ (l9 : Int) = 0 := by omega
        have hne : fl.isEmpty = false := by cases fl with | nil => simp at hl9; omega | cons a r => rfl
        have hb2 := hkr.heap HB.out id
        have hcf := freeOf hb2 1
        have HNE := Lib.hid hne
        have HO := Lib.hid ho
        have HKR := Lib.hid hkr
        have hbs := heap_set hb2 1 (.slice A9 l9 c9)
        have HBS := Lib.hid hbs
        clear ho hkr htk hb2 hbs hl9 hne h0
        go_wp2
        go_ret
        have hset : Kp (fun j => j = b) w (wr.setCell ⟨b, 1, none⟩ (.slice A9 l9 c9)) := (HKR.out.no).setAt 1 _
        have hset2 : Kp (fun j => j = b) wr (wr.setCell ⟨b, 1, none⟩ (.slice A9 l9 c9)) := (Kp.refl _ _).setAt 1 _
        refine ⟨by rw [HNE.out]; rfl, ?_, hset⟩
        rw [HNE.out, if_neg (by simp)]
        refine ⟨_, HBS.out, ?_, hSb⟩
        refine (HO.out.slR (fun q e x => ?_)).kp hset2 (fun q _ e => .inr e)
        have := (HO.out.lt e).1
        rcases x with x | x
        · have := HSS.out _ x; omega
        · omega
end Go.Proofs.Ytagekjijngbmdaa
