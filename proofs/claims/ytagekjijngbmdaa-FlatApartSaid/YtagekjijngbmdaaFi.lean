/- flat: Read. -/
import Derived.Test.YtagekjijngbmdaaFh
set_option linter.unusedVariables false
set_option linter.unusedSimpArgs false
namespace Go.Proofs.Ytagekjijngbmdaa
open Go.RowKit
attribute [local go_sem ↓] Go.wp_at_zero Go.wp_at_succ

def pt (at_ n : Nat) (c : Ch) : ByteArray := cat (((lst c).drop at_).take n)

set_option maxHeartbeats 400000 in
theorem read_nil (at_ n : Int) (w : World) : Calls Try.prog 21 #[.pointer none, .int .i64 at_, .int .i64 n] w fun e w' => e = .returned (.tuple #[.string ⟨#[]⟩, .int .i64 1]) ∧ w = w' := by
  go_enter Try.func21, Try.ntmps21
  go_wp2_with (go_at_call 38; refine (may_nil _ _ _).mono ?_; rintro e w' ⟨rfl, rfl⟩)
  go_ret2
  exact ⟨rfl, rfl⟩
set_option maxHeartbeats 400000 in
theorem read_bad {S : Nat → Prop} {b g N : Nat} {cs : List Ch} (at_ n : Int) (w : World) (h : FlatR S w b g N cs) (h1 : 1 ≤ N) (h2 : N ≤ 64) (ha : i64 at_) (hn : i64 n) (hne : mayF N at_ n ≠ 0) :
    Calls Try.prog 21 #[.pointer (some ⟨b, 0, none⟩), .int .i64 at_, .int .i64 n] w fun e w' => e = .returned (.tuple #[.string ⟨#[]⟩, .int .i64 (mayF N at_ n)]) ∧ w = w' := by
  obtain ⟨c, hb, _⟩ := h
  have hc0 : w.cell? ⟨b, 0, none⟩ = some (.int .i64 N) := cellOf hb 0
  have hz : (mayF N at_ n != 0) = true := by simpa using hne
  go_enter Try.func21, Try.ntmps21
  go_wp2_with (go_at_call 38; refine (may_some _ _ N b _ (by omega) (by omega) ha hn hc0).mono ?_; rintro e w' ⟨rfl, rfl⟩)
  go_ret2
  exact ⟨rfl, rfl⟩

/-- The facts of chain k, as a walk wants them. -/
theorem chainAt {S : Nat → Prop} {w : World} {g c n N k : Nat} {cs : List Ch} (ho : OwR KCh 55 0 S w (.slice (some ⟨g, 0, none⟩) n c) cs) (hok : Okc N cs) (hk : k < cs.length) :
    ∃ A m d, w.cell? ⟨g, k, none⟩ = some (.slice A m d) ∧ SlR (KSl KStr) (fun j => S j ∨ j = g) w (.slice A m d) cs[k] ∧ cs[k][cs[k].length - 1]? = some (lst cs[k]) ∧ (lst cs[k]).length = N ∧ ∀ x ∈ lst cs[k], x.size = 48 := by
  obtain ⟨u, hcu, _, hu⟩ := ho.at1 rfl hk
  have hu' := KSl_R hu
  obtain ⟨A, d, rfl, _, _⟩ := hu'.slice
  obtain ⟨hp, hq⟩ := hok _ (List.getElem_mem hk)
  obtain ⟨h1, h2⟩ := hq _ (lst_mem hp)
  exact ⟨A, _, d, hcu, hu', lst_get hp, h1, h2⟩

def readRes (at_ n : Nat) (cs : List Ch) (c0 : Ch) : Value := if cs.all (fun c => decide (pt at_ n c = pt at_ n c0)) then .tuple #[.string (pt at_ n c0), .int .i64 0] else .tuple #[.string ⟨#[]⟩, .int .i64 15]
theorem ret_eq {a b : Value} (h : a = b) : Ending.returned a = .returned b := by rw [h]

set_option maxHeartbeats 2000000 in
theorem read_ok {S : Nat → Prop} {b g N : Nat} {cs : List Ch} (at_ n : Nat) (w : World) (h : FlatR S w b g N cs) (h1 : 1 ≤ N) (h2 : N ≤ 64) (hok : Okc N cs) (h0 : 0 < cs.length) (hne : mayF N at_ n = 0) (hlen : cs.length ≤ 1000000000) :
    Calls Try.prog 21 #[.pointer (some ⟨b, 0, none⟩), .int .i64 at_, .int .i64 n] w fun e w' => e = .returned (readRes at_ n cs cs[0]) ∧ Kp No w w' := by
  have hm := may_zero hne
  obtain ⟨c, hb, ho, hgb, hSb, hSg⟩ := h
  have hc0 : w.cell? ⟨b, 0, none⟩ = some (.int .i64 N) := cellOf hb 0
  have hc1 : w.cell? ⟨b, 1, none⟩ = some (.slice (some ⟨g, 0, none⟩) cs.length c) := cellOf hb 1
  obtain ⟨A, m, d, hcu, hu, hx, hl1, hl2⟩ := chainAt ho hok h0
  obtain ⟨c0, hc0'⟩ : ∃ c0, c0 = cs[0] := ⟨_, rfl⟩
  have hpt : cat (((lst c0).drop at_).take n) = pt at_ n c0 := rfl
  rw [← hc0'] at hu hx hl1 hl2 ⊢
  obtain ⟨p, hp⟩ : ∃ p, p = pt at_ n c0 := ⟨_, rfl⟩
  obtain ⟨l, hl⟩ : ∃ l, l = cs.length := ⟨_, rfl⟩
  rw [← hl] at hc1 ho hlen h0
  have HL := Lib.hid hl
  have HP := Lib.hid hp
  have HO := Lib.hid ho
  have HM := Lib.hid hne
  have HX := Lib.hid hx
  have HU := Lib.hid hu
  have HL1 := Lib.hid hl1
  have HL2 := Lib.hid hl2
  have HPT := Lib.hid hpt
  have HC0 := Lib.hid hc0'
  clear ho hb hl hp hne hx hu hl1 hl2 hpt hc0'
  go_enter Try.func21, Try.ntmps21
  go_wp2_with (first | (go_at_call 38; refine (may_some _ _ N b _ (by omega) (by omega) (by unfold i64; omega) (by unfold i64; omega) hc0).mono ?_; rintro e w' ⟨rfl, rfl⟩; rw [HM.out]) | (go_at_call 25; refine (last_any _ c0 (lst c0) _ HU.out HX.out).mono ?_; rintro e w' ⟨⟨u, rfl, hu⟩, rfl⟩; obtain ⟨Au, du, rfl, _, _⟩ := hu.slice) | (go_at_call 30; refine (part_any _ (lst c0) at_ n _ hu (by omega) (by rw [HL1.out]; omega) (by rw [HL1.out]; omega) (fun x hx => by rw [HL2.out x hx]; omega)).mono ?_; rintro e w1 ⟨rfl, hk1⟩; rw [HPT.out, ← HP.out]; have hc2 := hk1.cell' hc1))
  go_loopw [34] (fun i wr => ∃ k : Nat, k ≤ l ∧ i = .int .i64 k ∧ (∀ x ∈ cs.take k, pt at_ n x = p) ∧ Kp No w wr) (fun i _ => l - (intOf i).toNat)
  case atStart => exact ⟨0, Nat.zero_le _, rfl, by simp, hk1⟩
  case round =>
    clear hc2 hcu
    obtain ⟨k, hk, rfl, he, hkr⟩ := hrel
    by_cases hlt : k < l
    · have hkn : k < cs.length := by rw [← HL.out]; exact hlt
      obtain ⟨A', m', d', hcu', hu', hx', hl1', hl2'⟩ := chainAt (HO.out.no hkr) hok hkn
      obtain ⟨ch, hch⟩ : ∃ ch, ch = cs[k] := ⟨_, rfl⟩
      have hpt' : cat (((lst ch).drop at_).take n) = pt at_ n ch := rfl
      rw [← hch] at hu' hx' hl1' hl2'
      obtain ⟨q, hq⟩ : ∃ q, q = pt at_ n ch := ⟨_, rfl⟩
      have i0 : (0 : Int) ≤ (k : Int) := by omega
      have i1 : (k : Int) < (l : Int) := by omega
      have HE := Lib.hid he
      have HK := Lib.hid hkr
      have HX' := Lib.hid hx'
      have HU' := Lib.hid hu'
      have HL1' := Lib.hid hl1'
      have HL2' := Lib.hid hl2'
      have HPT' := Lib.hid hpt'
      have HQ := Lib.hid hq
      have HCH := Lib.hid hch
      clear he hkr hx' hu' hl1' hl2' hpt' hq hch hu hk1
      by_cases hpq : q = p
      · have hz := str_eq hpq
        have HPQ := Lib.hid hpq
        clear hpq
        go_wp2_with (first | (go_at_call 25; refine (last_any _ ch (lst ch) _ HU'.out HX'.out).mono ?_; rintro e w' ⟨⟨u, rfl, hu⟩, rfl⟩; obtain ⟨Au, du, rfl, _, _⟩ := hu.slice) | (go_at_call 30; refine (part_any _ (lst ch) at_ n _ hu (by omega) (by rw [HL1'.out]; omega) (by rw [HL1'.out]; omega) (fun x hx => by rw [HL2'.out x hx]; omega)).mono ?_; rintro e w1 ⟨rfl, hk1⟩; rw [HPT'.out, ← HQ.out]))
        go_roundw
        case rel =>
          refine ⟨k + 1, by omega, by go_num, ?_, HK.out.trans' hk1⟩
          intro x hx
          rw [List.take_succ_eq_append_getElem hkn, List.mem_append] at hx
          rcases hx with hx | hx
          · exact HE.out x hx
          · rw [List.mem_singleton.1 hx, ← HCH.out, ← HQ.out]; exact HPQ.out
        case measure => simp [intOf]; omega
      · have hz := str_ne hpq
        have HPQ := Lib.hid hpq
        clear hpq
        go_wp2_with (first | (go_at_call 25; refine (last_any _ ch (lst ch) _ HU'.out HX'.out).mono ?_; rintro e w' ⟨⟨u, rfl, hu⟩, rfl⟩; obtain ⟨Au, du, rfl, _, _⟩ := hu.slice) | (go_at_call 30; refine (part_any _ (lst ch) at_ n _ hu (by omega) (by rw [HL1'.out]; omega) (by rw [HL1'.out]; omega) (fun x hx => by rw [HL2'.out x hx]; omega)).mono ?_; rintro e w1 ⟨rfl, hk1⟩; rw [HPT'.out, ← HQ.out]))
        go_ret2
        refine ⟨ret_eq (Eq.symm ?_), HK.out.trans' hk1⟩
        unfold readRes
        rw [if_neg]
        · rfl
        · rw [List.all_eq_true]
          intro hall
          have := hall ch (HCH.out ▸ List.getElem_mem _)
          rw [← HQ.out, ← HP.out] at this
          exact HPQ.out (of_decide_eq_true this)
    · obtain rfl : k = l := by omega
      have HE := Lib.hid he
      have HK := Lib.hid hkr
      clear he hkr hu hk1
      go_wp2
      go_ret2
      refine ⟨ret_eq (Eq.symm ?_), HK.out⟩
      unfold readRes
      rw [if_pos]
      · rw [← HP.out]; rfl
      · rw [List.all_eq_true]
        intro x hx
        have := HE.out x (by rw [HL.out, List.take_length]; exact hx)
        rw [this, ← HP.out]
        exact decide_eq_true rfl
end Go.Proofs.Ytagekjijngbmdaa
