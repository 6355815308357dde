/- flat: Saw. -/
import Derived.Test.YtagekjijngbmdaaFi
set_option linter.unusedVariables false
set_option linter.unusedSimpArgs false
namespace Go.Proofs.Ytagekjijngbmdaa
open Go.RowKit
attribute [local go_sem ↓] Go.wp_at_zero Go.wp_at_succ

def sw (at_ : Nat) (d : ByteArray) (c : Ch) : Bool := decide (pt at_ (d.size / 48) c = d)

set_option maxHeartbeats 400000 in
theorem saw_nil (at_ : Int) (d : ByteArray) (w : World) (hd : d.size ≤ 1000000) : Calls Try.prog 14 #[.pointer none, .int .i64 at_, .string d] w fun e w' => e = .returned (.bool false) ∧ w = w' := by
  go_enter Try.func14, Try.ntmps14
  go_wp2_with (go_at_call 23; refine (data_nil _ _ _ hd).mono ?_; rintro e w' ⟨rfl, rfl⟩)
  go_ret
  exact ⟨rfl, rfl⟩
set_option maxHeartbeats 400000 in
theorem saw_bad {S : Nat → Prop} {b g N : Nat} {cs : List Ch} (at_ : Int) (d : ByteArray) (w : World) (h : FlatR S w b g N cs) (h1 : 1 ≤ N) (h2 : N ≤ 64) (ha : i64 at_) (hd : d.size ≤ 1000000) (hne : dataF N at_ d.size ≠ 0) :
    Calls Try.prog 14 #[.pointer (some ⟨b, 0, none⟩), .int .i64 at_, .string d] w fun e w' => e = .returned (.bool false) ∧ w = w' := by
  obtain ⟨c, hb, _⟩ := h
  have hc0 : w.cell? ⟨b, 0, none⟩ = some (.int .i64 N) := cellOf hb 0
  have hz : (dataF N at_ d.size != 0) = true := by simpa using hne
  go_enter Try.func14, Try.ntmps14
  go_wp2_with (go_at_call 23; refine (data_some at_ N d b _ (by omega) (by omega) ha hd hc0).mono ?_; rintro e w' ⟨rfl, rfl⟩)
  go_ret
  exact ⟨rfl, rfl⟩

theorem data_zero {N at_ : Int} {n : Nat} (h : dataF N at_ n = 0) : n % 48 = 0 ∧ mayF N at_ (n / 48 : Nat) = 0 := by
  unfold dataF at h
  split at h
  · omega
  · rename_i h'; exact ⟨by omega, h⟩

def SawPost (S : Nat → Prop) (w : World) (b g N : Nat) (cs : List Ch) (fl : List Ch) (e : Ending) (w' : World) : Prop :=
  e = .returned (.bool (!fl.isEmpty)) ∧ (fl = [] → FlatR S w' b g N cs ∧ Kp No w w') ∧ (fl ≠ [] → ∃ g', w.heap.size ≤ g' ∧ FlatR S w' b g' N fl ∧ Kp (fun k => k = b) w w')

set_option maxHeartbeats 2000000 in
theorem saw_ok {S : Nat → Prop} {b g N : Nat} {cs : List Ch} (at_ : Nat) (d : ByteArray) (w : World) (h : FlatR S w b g N cs) (h1 : 1 ≤ N) (h2 : N ≤ 64) (hok : Okc N cs) (hd : d.size ≤ 1000000) (hne : dataF N at_ d.size = 0)
    (hS : ∀ k, S k → k < w.heap.size) (hlen : cs.length ≤ 1000000000) :
    Calls Try.prog 14 #[.pointer (some ⟨b, 0, none⟩), .int .i64 at_, .string d] w (SawPost S w b g N cs (cs.filter (sw at_ d))) := by
  have hF := Lib.hid h
  obtain ⟨hd48, hmz⟩ := data_zero hne
  have hm := may_zero hmz
  obtain ⟨c, hb, ho, hgb, hSb, hSg⟩ := h
  have hc0 : w.cell? ⟨b, 0, none⟩ = some (.int .i64 N) := cellOf hb 0
  have hc1 : w.cell? ⟨b, 1, none⟩ = some (.slice (some ⟨g, 0, none⟩) cs.length c) := cellOf hb 1
  have hlb := blt hb
  have hlg := (ho.lt (k := g) rfl).2
  obtain ⟨l, hl⟩ : ∃ l, l = cs.length := ⟨_, rfl⟩
  obtain ⟨n, hn⟩ : ∃ n, n = d.size / 48 := ⟨_, rfl⟩
  rw [← hl] at hc1 ho hlen
  rw [← hn] at hm
  have hdi : ((d.size : Nat) : Int) / 48 = (n : Int) := by omega
  have HL := Lib.hid hl
  have HN := Lib.hid hn
  have HO := Lib.hid ho
  have HM := Lib.hid hne
  have HB := Lib.hid hb
  clear ho hb hl hn hne hd48 hmz
  go_enter Try.func14, Try.ntmps14
  go_wp2_with (go_at_call 23; refine (data_some at_ N d b _ (by omega) (by omega) (by unfold i64; omega) hd hc0).mono ?_; rintro e w' ⟨rfl, rfl⟩; rw [HM.out])
  go_loopw [7, 20] (fun v i wr => ∃ k : Nat, k ≤ l ∧ i = .int .i64 k ∧ OwR KCh 55 w.heap.size (fun k => (S k ∨ k = b) ∨ k = g) wr v ((cs.take k).filter (sw at_ d)) ∧ Kp No w wr) (fun _ i _ => l - (intOf i).toNat)
  case atStart => exact ⟨0, Nat.zero_le _, rfl, OwR.nil _ _ _ _ _, Kp.refl _ _⟩
  case round =>
    obtain ⟨k, hk, rfl, hv, hkr⟩ := hrel
    by_cases hlt : k < l
    · have hkn : k < cs.length := by rw [← HL.out]; exact hlt
      obtain ⟨A', m', d', hcw, hu', hx', hl1', hl2'⟩ := chainAt HO.out hok hkn
      have hcu' := hkr.cell' hcw
      obtain ⟨ch, hch⟩ : ∃ ch, ch = cs[k] := ⟨_, rfl⟩
      have hpt' : cat (((lst ch).drop at_).take n) = pt at_ n ch := rfl
      rw [← hch] at hu' hx' hl1' hl2'
      obtain ⟨q, hq⟩ : ∃ q, q = pt at_ n ch := ⟨_, rfl⟩
      have i0 : (0 : Int) ≤ (k : Int) := by omega
      have i1 : (k : Int) < (l : Int) := by omega
      have htk : (cs.take (k + 1)).filter (sw at_ d) = (cs.take k).filter (sw at_ d) ++ if q = d then [ch] else [] := by
        rw [List.take_succ_eq_append_getElem hkn, List.filter_append, ← hch]
        congr 1
        by_cases hqd : q = d
        · have : sw at_ d ch = true := decide_eq_true (by rw [← HN.out, ← hq]; exact hqd)
          rw [if_pos hqd, List.filter_cons_of_pos this]; rfl
        · have : ¬ sw at_ d ch = true := by unfold sw; rw [decide_eq_true_eq, ← HN.out, ← hq]; exact hqd
          rw [if_neg hqd, List.filter_cons_of_neg this]; rfl
      have hfl : ((cs.take k).filter (sw at_ d)).length ≤ k := Nat.le_trans (List.length_filter_le _ _) (by simp; omega)
      have HT := Lib.hid htk
      have HV := Lib.hid hv
      have HK := Lib.hid hkr
      have HX' := Lib.hid hx'
      have HU' := Lib.hid hu'
      have HL1' := Lib.hid hl1'
      have HL2' := Lib.hid hl2'
      have HPT' := Lib.hid hpt'
      have HQ := Lib.hid hq
      have HCH := Lib.hid hch
      have HFL := Lib.hid hfl
      have hc2 := hkr.size
      clear hcw hkr hx' hu' hl1' hl2' hpt' hq hch hv htk hfl
      by_cases hpq : q = d
      · have hz := str_eq hpq
        have HPQ := Lib.hid hpq
        clear hpq
        go_wp2_with (first | (go_at_call 25; refine (last_any _ ch (lst ch) _ (HU'.out.no HK.out) HX'.out).mono ?_; rintro e w' ⟨⟨u, rfl, hu⟩, rfl⟩; obtain ⟨Au, du, rfl, _, _⟩ := hu.slice) | (go_at_call 30; refine (part_any _ (lst ch) at_ n _ hu (by omega) (by rw [HL1'.out]; omega) (by rw [HL1'.out]; omega) (fun x hx => by rw [HL2'.out x hx]; omega)).mono ?_; rintro e w1 ⟨rfl, hk1⟩; rw [HPT'.out, ← HQ.out]) | (at_builtin; refine wpList_ap1 (K := KCh) (S := fun k => (S k ∨ k = b) ∨ k = g) w1 (by rfl) _ _ 56 (by rfl) w.heap.size 55 55 _ 24 Try.underlying56 I_chain rfl (by decide) (by decide) _ _ (by rfl) (HV.out.no hk1) 1 1 (by rfl) rfl _ ch ?c1 ?c2 ?c3 ?_))
        case c1 => exact Kind.fresh (K := KCh) ⟨_, rfl, HU'.out⟩ (HK.out.trans' hk1) (fun j e => (HV.out.lt e).1)
        case c2 => have := hk1.size; omega
        case c3 => have := HFL.out; omega
        intro v2 w2 hv2 hk2 hat
        go_wp2
        go_roundw
        case rel => exact ⟨k + 1, by omega, by go_num, by rw [HT.out, if_pos HPQ.out]; exact hv2, (HK.out.trans' hk1).trans hk2 (fun j hj e => by have := (HV.out.lt e).1; omega)⟩
        case measure => simp [intOf]; omega
      · have hz := str_ne hpq
        have HPQ := Lib.hid hpq
        clear hpq
        go_wp2_with (first | (go_at_call 25; refine (last_any _ ch (lst ch) _ (HU'.out.no HK.out) HX'.out).mono ?_; rintro e w' ⟨⟨u, rfl, hu⟩, rfl⟩; obtain ⟨Au, du, rfl, _, _⟩ := hu.slice) | (go_at_call 30; refine (part_any _ (lst ch) at_ n _ hu (by omega) (by rw [HL1'.out]; omega) (by rw [HL1'.out]; omega) (fun x hx => by rw [HL2'.out x hx]; omega)).mono ?_; rintro e w1 ⟨rfl, hk1⟩; rw [HPT'.out, ← HQ.out]))
        go_roundw
        case rel => exact ⟨k + 1, by omega, by go_num, by rw [HT.out, if_neg HPQ.out, List.append_nil]; exact HV.out.no hk1, HK.out.trans' hk1⟩
        case measure => simp [intOf]; omega
    · obtain rfl : k = l := by omega
      have hall : cs.take k = cs := by rw [HL.out, List.take_length]
      rw [hall] at hv
      obtain ⟨fl, hfl⟩ : ∃ fl, fl = cs.filter (sw at_ d) := ⟨_, rfl⟩
      rw [← hfl] at hv ⊢
      have hll : fl.length ≤ 1000000000 := by rw [hfl]; exact Nat.le_trans (List.length_filter_le _ _) (by rw [← HL.out]; exact hlen)
      have hr1 := hkr.cell' hc1
      have HFL := Lib.hid hfl
      have hb2 := hkr.heap HB.out id
      have hf1 := freeOf hb2 1
      rcases Nat.eq_zero_or_pos fl.length with h0 | h0
      · obtain rfl : fl = [] := List.eq_nil_of_length_eq_zero h0
        obtain ⟨A, cc, rfl, _, _⟩ := hv.len
        have HK := Lib.hid hkr
        clear hv hkr hfl hb2 h0
        go_wp2
        go_ret
        rw [← HFL.out]
        exact ⟨rfl, fun _ => ⟨hF.out.no HK.out, HK.out⟩, fun h => absurd rfl h⟩
      · obtain ⟨g', cc, cur, rfl, hg', _⟩ := hv.block h0
        have hbw := hkr.size
        have HK := Lib.hid hkr
        have HV := Lib.hid hv
        have HB2 := Lib.hid hb2
        have h0' : (0 : Int) < (fl.length : Int) := by omega
        obtain ⟨m, hm'⟩ : ∃ m, m = fl.length := ⟨_, rfl⟩
        rw [← hm'] at HV h0 h0' hll ⊢
        have HM' := Lib.hid hm'
        have hse := World.size_setCell (w := wr) (a := ⟨b, 1, none⟩) (v := .slice (some ⟨g', 0, none⟩) m cc)
        clear hv hkr hfl hb2 hm' hse
        go_wp2
        go_ret
        rw [← HFL.out]
        refine ⟨ret_bool ?_, fun h => ?_, fun _ => ⟨g', hg', ⟨cc, ?_, ?_, by omega, hSb, fun x => by have := hS _ x; omega⟩, HK.out.no.setAt 1 _⟩⟩
        · cases fl with
          | nil => have := HM'.out; simp at this; omega
          | cons x r => simp
        · rw [HM'.out, h] at h0; simp at h0
        · have := heap_set HB2.out 1 (.slice (some ⟨g', 0, none⟩) m cc)
          rw [← HM'.out]
          exact this
        · rw [← HM'.out]
          have hg2 := (HV.out.lt (k := g') rfl).2
          refine (HV.out.base (Nat.zero_le _)).move (fun j e => ?_) (fun j hj hn hne => ?_)
          · obtain rfl : g' = j := (by simpa [Value.ownBlock] using e)
            exact Below.heap_setCell wr _ _ _ (by show g' ≠ b; omega)
          · exact ⟨fun x => hn (.inl x), Below.heap_setCell wr _ _ _ (fun e => hn (.inl (.inr e)))⟩
end Go.Proofs.Ytagekjijngbmdaa
