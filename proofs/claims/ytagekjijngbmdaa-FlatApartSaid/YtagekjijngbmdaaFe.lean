/- flat: Equal, same, the looks of a model, Safe. -/
import Derived.Test.YtagekjijngbmdaaFd
import Derived.Deep.LoopGhost
set_option linter.unusedVariables false
set_option linter.unusedSimpArgs false
namespace Go.Proofs.Ytagekjijngbmdaa
open Go.RowKit
attribute [local go_sem ↓] Go.wp_at_zero Go.wp_at_succ

theorem toList_inj {x y : ByteArray} : x.toList = y.toList ↔ x = y := by
  rw [ByteArray.toList_eq, ByteArray.toList_eq]
  constructor
  · intro h
    cases x; cases y
    simp at h
    simp [h]
  · rintro rfl; rfl
theorem str_eq {x y : ByteArray} (h : x = y) : (x.toList == y.toList) = true := by simp [h]
theorem str_ne {x y : ByteArray} (h : x ≠ y) : (x.toList == y.toList) = false := by
  rw [beq_eq_false_iff_ne]; exact fun e => h (toList_inj.1 e)
theorem take_eq_succ {α : Type} {xs ys : List α} {k : Nat} (h : xs.take k = ys.take k) (hx : k < xs.length) (hy : k < ys.length) (he : xs[k] = ys[k]) : xs.take (k + 1) = ys.take (k + 1) := by
  rw [List.take_succ_eq_append_getElem hx, List.take_succ_eq_append_getElem hy, h, he]

set_option maxHeartbeats 1000000 in
theorem equal_any {S : Nat → Prop} (u v : Value) (xs ys : List ByteArray) (w : World) (h : SlR KStr S w u xs) (h' : SlR KStr S w v ys) (hx : xs.length ≤ 1000) (hy : ys.length ≤ 1000) :
    Calls Try.prog 40 #[u, v] w fun e w' => e = .returned (.bool (decide (xs = ys))) ∧ Kp No w w' := by
  obtain ⟨A, c, rfl, _, _, hA⟩ := h.open1' rfl
  obtain ⟨B, d, rfl, _, _, hB⟩ := h'.open1' rfl
  have HA := Lib.hid hA
  have HB := Lib.hid hB
  obtain ⟨n, hn⟩ : ∃ n, n = xs.length := ⟨_, rfl⟩
  obtain ⟨m, hm⟩ : ∃ m, m = ys.length := ⟨_, rfl⟩
  rw [← hn] at hx ⊢
  rw [← hm] at hy ⊢
  have HN := Lib.hid hn
  have HM := Lib.hid hm
  clear hA hB h h' hn hm
  by_cases hnm : n = m
  · subst hnm
    go_enter Try.func40, Try.ntmps40
    go_wp2
    go_loopw [13] (fun i wr => ∃ k : Nat, k ≤ n ∧ i = .int .i64 k ∧ xs.take k = ys.take k ∧ Kp No w wr) (fun i _ => n - (intOf i).toNat)
    case atStart => exact ⟨0, Nat.zero_le _, rfl, rfl, Kp.refl _ _⟩
    case round =>
      obtain ⟨k, hk, rfl, he, hkr⟩ := hrel
      by_cases hlt : k < n
      · have hkx : k < xs.length := by rw [← HN.out]; exact hlt
        have hky : k < ys.length := by rw [← HM.out]; exact hlt
        obtain ⟨b, o, rfl, _, _, hr⟩ := HA.out (by omega)
        obtain ⟨b', o', rfl, _, _, hr'⟩ := HB.out (by omega)
        obtain ⟨p, hp, hpR⟩ := hr k hkx
        obtain ⟨q, hq, hqR⟩ := hr' k hky
        obtain rfl := KStr_R hpR
        obtain rfl := KStr_R hqR
        have hp2 := hkr.cell' hp
        have hq2 := hkr.cell' hq
        obtain ⟨x, hx'⟩ : ∃ x, x = xs[k] := ⟨_, rfl⟩
        obtain ⟨y, hy'⟩ : ∃ y, y = ys[k] := ⟨_, rfl⟩
        rw [← hx'] at hp2
        rw [← hy'] at hq2
        have HE := Lib.hid he
        have HX := Lib.hid hx'
        have HY := Lib.hid hy'
        have HK := Lib.hid hkr
        have i0 : (0 : Int) ≤ (k : Int) := by omega
        have i1 : (k : Int) < (n : Int) := by omega
        clear hr hr' hp hq hpR hqR he hx' hy' hkr
        by_cases hxy : x = y
        · have hz := str_eq hxy
          have HXY := Lib.hid hxy
          clear hxy
          go_wp2_with fail
          go_quiet (fail)
          go_wp2
          go_roundw
          case rel => exact ⟨k + 1, by omega, by go_num, take_eq_succ HE.out hkx hky (by rw [← HX.out, ← HY.out]; exact HXY.out), HK.out.drewN _⟩
          case measure => simp [intOf]; omega
        · have hz := str_ne hxy
          have HXY := Lib.hid hxy
          clear hxy
          go_wp2_with fail
          go_quiet (fail)
          go_wp2
          go_ret
          refine ⟨ret_bool (Eq.symm (decide_eq_false fun e => HXY.out ?_)), HK.out.drewN _⟩
          rw [HX.out, HY.out]
          simp [e]
      · obtain rfl : k = n := by omega
        have HE := Lib.hid he
        have HK := Lib.hid hkr
        clear he hkr
        go_wp2
        go_ret
        refine ⟨ret_bool (Eq.symm (decide_eq_true ?_)), HK.out⟩
        have := HE.out
        rw [HN.out, List.take_length, ← HN.out, HM.out, List.take_length] at this
        exact this
  · go_enter Try.func40, Try.ntmps40
    go_wp2
    go_ret
    refine ⟨ret_bool (Eq.symm (decide_eq_false fun e => ?_)), Kp.refl _ _⟩
    apply hnm
    rw [HN.out, HM.out, e]

set_option maxHeartbeats 400000 in
theorem same_any {S : Nat → Prop} (u v : Value) (xs ys : List ByteArray) (w : World) (h : SlR KStr S w u xs) (h' : SlR KStr S w v ys) (hx : xs.length ≤ 1000) (hy : ys.length ≤ 1000) :
    Calls Try.prog 28 #[u, v] w fun e w' => e = .returned (.bool (decide (xs = ys))) ∧ Kp No w w' := by
  have HC := Lib.hid (equal_any u v xs ys w h h' hx hy)
  obtain ⟨A, c, rfl, _, _⟩ := h.slice
  obtain ⟨B, d, rfl, _, _⟩ := h'.slice
  clear h h'
  go_enter Try.func28, Try.ntmps28
  go_wp2_with (go_at_call 40; refine HC.out.mono ?_; rintro e w' ⟨rfl, hk⟩)
  go_ret
  exact ⟨rfl, hk⟩

/-! The looks. -/
set_option maxHeartbeats 400000 in
theorem worlds_nil (w : World) : Calls Try.prog 15 #[.pointer none] w fun e w' => e = .returned (.int .i64 0) ∧ w = w' := by
  go_enter Try.func15, Try.ntmps15
  go_wp2
  go_ret
  exact ⟨rfl, rfl⟩
set_option maxHeartbeats 400000 in
theorem worlds_any {S : Nat → Prop} {b g N : Nat} {cs : List Ch} (w : World) (h : FlatR S w b g N cs) :
    Calls Try.prog 15 #[.pointer (some ⟨b, 0, none⟩)] w fun e w' => e = .returned (.int .i64 cs.length) ∧ w = w' := by
  obtain ⟨c, hb, _⟩ := h
  have hc1 : w.cell? ⟨b, 1, none⟩ = some (.slice (some ⟨g, 0, none⟩) cs.length c) := cellOf hb 1
  go_enter Try.func15, Try.ntmps15
  go_wp2
  go_ret
  exact ⟨rfl, rfl⟩
set_option maxHeartbeats 400000 in
theorem states_nil (w : World) : Calls Try.prog 19 #[.pointer none] w fun e w' => e = .returned (.int .i64 0) ∧ w = w' := by
  go_enter Try.func19, Try.ntmps19
  go_wp2
  go_ret
  exact ⟨rfl, rfl⟩

def cnt (cs : List Ch) : Nat := (cs.map List.length).sum
theorem cnt_le {cs : List Ch} {m : Nat} (h : ∀ c ∈ cs, c.length ≤ m) : cnt cs ≤ cs.length * m := by
  unfold cnt
  induction cs with
  | nil => simp
  | cons c r ih =>
    have h1 := h c (by simp)
    have h2 := ih fun x hx => h x (by simp [hx])
    simp only [List.map_cons, List.sum_cons, List.length_cons, Nat.add_mul, Nat.one_mul]
    omega
theorem cnt_take {cs : List Ch} {k : Nat} (hk : k < cs.length) : cnt (cs.take (k + 1)) = cnt (cs.take k) + cs[k].length := by
  unfold cnt
  rw [List.take_succ_eq_append_getElem hk]
  simp only [List.map_append, List.sum_append, List.map_cons, List.map_nil, List.sum_cons, List.sum_nil, Nat.add_zero]
theorem cnt_take_le (cs : List Ch) (k : Nat) : cnt (cs.take k) ≤ cnt cs := by
  unfold cnt
  have := List.take_append_drop k cs
  calc _ ≤ ((cs.take k).map List.length).sum + ((cs.drop k).map List.length).sum := by omega
    _ = _ := by rw [← List.sum_append, ← List.map_append, List.take_append_drop]

set_option maxHeartbeats 400000 in
theorem states_any {S : Nat → Prop} {b g N : Nat} {cs : List Ch} (w : World) (h : FlatR S w b g N cs) (hc : cnt cs ≤ 1000000000000) (hl : cs.length ≤ 1000000000) :
    Calls Try.prog 19 #[.pointer (some ⟨b, 0, none⟩)] w fun e w' => e = .returned (.int .i64 (cnt cs)) ∧ w = w' := by
  obtain ⟨c, hb, ho, _⟩ := h
  have hc1 : w.cell? ⟨b, 1, none⟩ = some (.slice (some ⟨g, 0, none⟩) cs.length c) := cellOf hb 1
  obtain ⟨n, hn⟩ : ∃ n, n = cs.length := ⟨_, rfl⟩
  rw [← hn] at hc1 hl ho
  have HO := Lib.hid ho
  have HN := Lib.hid hn
  clear hb ho hn
  go_enter Try.func19, Try.ntmps19
  go_wp2
  go_loop [3, 14] (fun s i => ∃ k : Nat, k ≤ n ∧ i = .int .i64 k ∧ s = .int .i64 (cnt (cs.take k))) (fun _ i => n - (intOf i).toNat)
  case atStart => exact ⟨0, Nat.zero_le _, rfl, rfl⟩
  case round =>
    obtain ⟨k, hk, rfl, rfl⟩ := hrel
    by_cases hlt : k < n
    · have hkx : k < cs.length := by rw [← HN.out]; exact hlt
      obtain ⟨u, hcu, _, hu⟩ := HO.out.at1 rfl hkx
      obtain ⟨A, c', rfl, _, _⟩ := (KSl_R hu).slice
      have h1 := cnt_take hkx
      have h2 := cnt_take_le cs (k + 1)
      have i0 : (0 : Int) ≤ (k : Int) := by omega
      have i1 : (k : Int) < (n : Int) := by omega
      obtain ⟨m, hm⟩ : ∃ m, m = (cs[k]).length := ⟨_, rfl⟩
      obtain ⟨p, hp⟩ : ∃ p, p = cnt (cs.take k) := ⟨_, rfl⟩
      rw [← hm] at hcu h1
      rw [← hp] at h1 ⊢
      have h3 : p + m ≤ 1000000000000 := by omega
      have H1 := Lib.hid h1
      clear hu h1 h2 hm hp
      go_wp2
      go_round
      case rel => exact ⟨k + 1, by omega, by go_num, by rw [H1.out]; go_num⟩
      case measure => simp [intOf]; omega
    · obtain rfl : k = n := by omega
      go_wp2
      go_ret
      exact ⟨ret_int (by rw [HN.out, List.take_length]), rfl⟩
end Go.Proofs.Ytagekjijngbmdaa
