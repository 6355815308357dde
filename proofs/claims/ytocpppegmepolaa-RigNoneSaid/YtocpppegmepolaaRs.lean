/- layer 12's law: its own small functions: few, text, may, block. -/
import Derived.Test.YtocpppegmepolaaRl
set_option linter.unusedVariables false
set_option linter.unusedSimpArgs false
namespace Go.Proofs.Ytocpppegmepolaa
open Go.RowKit
attribute [local go_sem ↓] Go.wp_at_zero Go.wp_at_succ

structure LAct where
  kd : Int
  d : Int
  i : Int
  n : Int
  s : ByteArray
  raw : Bool
  x : LLoss
  y : LLoss
def LAct.cells (a : LAct) : List Value := [.int .i64 a.kd, .int .i64 a.d, .int .i64 a.i, .int .i64 a.n, .string a.s, .bool a.raw, a.x.kv, .int .i64 a.x.torn, .int .i64 a.x.by_, a.y.kv, .int .i64 a.y.torn, .int .i64 a.y.by_]
def LAct.val (a : LAct) : Value := .agg a.cells.toArray
def LAct.ok (a : LAct) (S : Nat → Prop) (w : World) : Prop := (i64 a.kd ∧ i64 a.d ∧ i64 a.i ∧ i64 a.n) ∧ a.s.size ≤ 9223372036854775807 ∧ a.x.ok S w ∧ a.y.ok S w
theorem LAct.ok.no {a : LAct} {S : Nat → Prop} {w w' : World} (h : a.ok S w) (hk : Kp No w w') : a.ok S w' := ⟨h.1, h.2.1, h.2.2.1.no hk, h.2.2.2.no hk⟩
theorem LAct.ok.kp {a : LAct} {S : Nat → Prop} {w w' : World} (h : a.ok S w) (hk : Kp S w w') : a.ok S w' := ⟨h.1, h.2.1, h.2.2.1.kp hk, h.2.2.2.kp hk⟩
/-- The block into which a callee puts its copy. -/
def LAct.box (a : LAct) : Obj := .cells a.cells.toArray 34

def fewF (a : LAct) : Bool := decide (a.s.size < 300)
set_option maxHeartbeats 1000000 in
theorem few_any (a : LAct) (w : World) (hs : a.s.size ≤ 9223372036854775807) : Calls Try.prog 27 #[a.val] w fun e w' => e = .returned (.bool (fewF a)) ∧ Kp No w w' := by
  obtain ⟨kd, d, i, n, s, raw, ⟨xv, xk, xt, xb⟩, ⟨yv, yk, yt, yb⟩⟩ := a
  show Calls Try.prog 27 #[.agg #[.int .i64 kd, .int .i64 d, .int .i64 i, .int .i64 n, .string s, .bool raw, xv, .int .i64 xt, .int .i64 xb, yv, .int .i64 yt, .int .i64 yb]] w _
  have hs' : s.size ≤ 9223372036854775807 := hs
  clear hs
  by_cases h : s.size < 300
  · have e1 : fewF ⟨kd, d, i, n, s, raw, ⟨xv, xk, xt, xb⟩, ⟨yv, yk, yt, yb⟩⟩ = true := by unfold fewF; exact decide_eq_true h
    rw [e1]
    clear e1
    have hz : decide ((s.size : Int) < 300) = true := by simp; omega
    go_enter Try.func27, Try.ntmps27
    go_wp2
    go_ret
    exact ⟨rfl, (Kp.refl _ _).alloc _⟩
  · have e1 : fewF ⟨kd, d, i, n, s, raw, ⟨xv, xk, xt, xb⟩, ⟨yv, yk, yt, yb⟩⟩ = false := by unfold fewF; exact decide_eq_false h
    rw [e1]
    clear e1
    have hz : decide ((s.size : Int) < 300) = false := by simp; omega
    go_enter Try.func27, Try.ntmps27
    go_wp2
    go_ret
    exact ⟨rfl, (Kp.refl _ _).alloc _⟩
def tx (a : LAct) (n : Nat) : ByteArray := if a.raw = true ∨ n < a.s.size then a.s else full a.s n
theorem tx_le {a : LAct} {n : Nat} (h : a.s.size < 300) (hn : n ≤ 300) : (tx a n).size ≤ 300 := by
  unfold tx; split
  · omega
  · exact full_le (by omega) hn
set_option maxHeartbeats 1000000 in
theorem text_any (a : LAct) (n : Nat) (w : World) (hs : a.s.size < 300) (hn : n ≤ 300) : Calls Try.prog 28 #[a.val, .int .i64 n] w fun e w' => e = .returned (.string (tx a n)) ∧ Kp No w w' := by
  have hf := full_any a.s n (w.alloc a.box) (by omega) (by omega)
  have htx : tx a n = if a.raw = true ∨ n < a.s.size then a.s else full a.s n := rfl
  rw [htx]
  clear htx
  obtain ⟨kd, d, i, m, s, raw, ⟨xv, xk, xt, xb⟩, ⟨yv, yk, yt, yb⟩⟩ := a
  have hs' : s.size < 300 := hs
  show Calls Try.prog 28 #[.agg #[.int .i64 kd, .int .i64 d, .int .i64 i, .int .i64 m, .string s, .bool raw, xv, .int .i64 xt, .int .i64 xb, yv, .int .i64 yt, .int .i64 yb], .int .i64 n] w fun e w' => e = .returned (.string (if raw = true ∨ n < s.size then s else full s n)) ∧ Kp No w w'
  have hf' : Calls Try.prog 91 #[.string s, .int .i64 n] (w.alloc (.cells #[.int .i64 kd, .int .i64 d, .int .i64 i, .int .i64 m, .string s, .bool raw, xv, .int .i64 xt, .int .i64 xb, yv, .int .i64 yt, .int .i64 yb] 34)) fun e w' => e = .returned (.string (full s n)) ∧ Kp No (w.alloc (.cells #[.int .i64 kd, .int .i64 d, .int .i64 i, .int .i64 m, .string s, .bool raw, xv, .int .i64 xt, .int .i64 xb, yv, .int .i64 yt, .int .i64 yb] 34)) w' := hf
  have HF := Lib.hid hf'
  clear hf hf' hs
  by_cases hr : raw = true
  · have e1 : (if raw = true ∨ n < s.size then s else full s n) = s := if_pos (.inl hr)
    rw [e1]
    clear e1
    subst hr
    go_enter Try.func28, Try.ntmps28
    go_wp2
    go_ret
    exact ⟨rfl, (Kp.refl _ _).alloc _⟩
  · by_cases hl : n < s.size
    · have e1 : (if raw = true ∨ n < s.size then s else full s n) = s := if_pos (.inr hl)
      rw [e1]
      clear e1
      obtain rfl : raw = false := by simpa using hr
      clear hr
      go_enter Try.func28, Try.ntmps28
      go_wp2
      go_ret
      exact ⟨rfl, (Kp.refl _ _).alloc _⟩
    · have e1 : (if raw = true ∨ n < s.size then s else full s n) = full s n := if_neg (fun h => by rcases h with h | h; exact hr h; exact hl h)
      rw [e1]
      clear e1
      obtain rfl : raw = false := by simpa using hr
      clear hr
      go_enter Try.func28, Try.ntmps28
      go_wp2_with (go_at_call 91; refine HF.out.mono ?_; rintro e w' ⟨rfl, hk⟩)
      go_ret
      exact ⟨rfl, ((Kp.refl _ _).alloc _).trans' hk⟩
theorem text_64 (a : LAct) (w : World) (hs : a.s.size < 300) : Calls Try.prog 28 #[a.val, .int .i64 64] w fun e w' => e = .returned (.string (tx a 64)) ∧ Kp No w w' := text_any a 64 w hs (by omega)
theorem text_96 (a : LAct) (w : World) (hs : a.s.size < 300) : Calls Try.prog 28 #[a.val, .int .i64 96] w fun e w' => e = .returned (.string (tx a 96)) ∧ Kp No w w' := text_any a 96 w hs (by omega)

set_option maxHeartbeats 2000000 in
theorem may12_any (a : LAct) (w : World) : Calls Try.prog 180 #[a.val] w fun e w' => e = .returned (.int .i64 (rmay a.d a.i)) ∧ Kp No w w' := by
  obtain ⟨kd, d, i, m, s, raw, ⟨xv, xk, xt, xb⟩, ⟨yv, yk, yt, yb⟩⟩ := a
  show Calls Try.prog 180 #[.agg #[.int .i64 kd, .int .i64 d, .int .i64 i, .int .i64 m, .string s, .bool raw, xv, .int .i64 xt, .int .i64 xb, yv, .int .i64 yt, .int .i64 yb]] w fun e w' => e = .returned (.int .i64 (rmay d i)) ∧ Kp No w w'
  by_cases c1 : d < 0
  · go_enter Try.func180, Try.ntmps180
    go_wp2
    go_ret
    exact ⟨ret_int (by unfold rmay; rw [if_pos (by omega)]), (Kp.refl _ _).alloc _⟩
  · by_cases c2 : 1 < d
    · go_enter Try.func180, Try.ntmps180
      go_wp2
      go_ret
      exact ⟨ret_int (by unfold rmay; rw [if_pos (by omega)]), (Kp.refl _ _).alloc _⟩
    · by_cases c3 : i < 0
      · go_enter Try.func180, Try.ntmps180
        go_wp2
        go_ret
        exact ⟨ret_int (by unfold rmay; rw [if_neg (by omega), if_pos (by omega)]), (Kp.refl _ _).alloc _⟩
      · by_cases c4 : 287 < i
        · go_enter Try.func180, Try.ntmps180
          go_wp2
          go_ret
          exact ⟨ret_int (by unfold rmay; rw [if_neg (by omega), if_pos (by omega)]), (Kp.refl _ _).alloc _⟩
        · go_enter Try.func180, Try.ntmps180
          go_wp2
          go_ret
          exact ⟨ret_int (by unfold rmay; rw [if_neg (by omega), if_neg (by omega)]), (Kp.refl _ _).alloc _⟩

set_option maxHeartbeats 2000000 in
theorem block12_any (a : LAct) (t : ByteArray) (w : World) (ht : t.size ≤ 1000000) : Calls Try.prog 122 #[a.val, .string t] w fun e w' => e = .returned (.int .i64 (rbad a.d a.i t.size)) ∧ Kp No w w' := by
  have hm := may12_any a (w.alloc a.box)
  have hr : rbad a.d a.i t.size = if rmay a.d a.i = 0 then (if t.size = 64 then 0 else 6) else rmay a.d a.i := rfl
  rw [hr]
  obtain ⟨kd, d, i, m, s, raw, ⟨xv, xk, xt, xb⟩, ⟨yv, yk, yt, yb⟩⟩ := a
  have hm' : Calls Try.prog 180 #[.agg #[.int .i64 kd, .int .i64 d, .int .i64 i, .int .i64 m, .string s, .bool raw, xv, .int .i64 xt, .int .i64 xb, yv, .int .i64 yt, .int .i64 yb]] (w.alloc (.cells #[.int .i64 kd, .int .i64 d, .int .i64 i, .int .i64 m, .string s, .bool raw, xv, .int .i64 xt, .int .i64 xb, yv, .int .i64 yt, .int .i64 yb] 34)) fun e w' => e = .returned (.int .i64 (rmay d i)) ∧ Kp No (w.alloc (.cells #[.int .i64 kd, .int .i64 d, .int .i64 i, .int .i64 m, .string s, .bool raw, xv, .int .i64 xt, .int .i64 xb, yv, .int .i64 yt, .int .i64 yb] 34)) w' := hm
  have HM := Lib.hid hm'
  clear hm hm' hr
  show Calls Try.prog 122 #[.agg #[.int .i64 kd, .int .i64 d, .int .i64 i, .int .i64 m, .string s, .bool raw, xv, .int .i64 xt, .int .i64 xb, yv, .int .i64 yt, .int .i64 yb], .string t] w fun e w' => e = .returned (.int .i64 (if rmay d i = 0 then (if t.size = 64 then 0 else 6) else rmay d i)) ∧ Kp No w w'
  obtain ⟨r, hr⟩ : ∃ r, r = rmay d i := ⟨_, rfl⟩
  rw [← hr] at HM ⊢
  clear hr
  by_cases h0 : r = 0
  · subst h0
    by_cases h6 : t.size = 64
    · have hz : ((t.size : Int) != 64) = false := by rw [bne_eq_false_iff_eq]; omega
      have e1 : (if (0 : Int) = 0 then (if t.size = 64 then (0 : Int) else 6) else 0) = 0 := by rw [if_pos rfl, if_pos h6]
      rw [e1]
      clear e1 h6
      go_enter Try.func122, Try.ntmps122
      go_wp2_with (go_at_call 180; refine HM.out.mono ?_; rintro e w' ⟨rfl, hk⟩)
      go_ret
      exact ⟨rfl, ((Kp.refl _ _).alloc _).trans' hk⟩
    · have hz : ((t.size : Int) != 64) = true := by rw [bne_iff_ne]; omega
      have e1 : (if (0 : Int) = 0 then (if t.size = 64 then (0 : Int) else 6) else 0) = 6 := by rw [if_pos rfl, if_neg h6]
      rw [e1]
      clear e1 h6
      go_enter Try.func122, Try.ntmps122
      go_wp2_with (go_at_call 180; refine HM.out.mono ?_; rintro e w' ⟨rfl, hk⟩)
      go_ret
      exact ⟨rfl, ((Kp.refl _ _).alloc _).trans' hk⟩
  · have hz : (r == 0) = false := by rw [beq_eq_false_iff_ne]; exact h0
    have e1 : (if r = 0 then (if t.size = 64 then (0 : Int) else 6) else r) = r := if_neg h0
    rw [e1]
    clear e1 h0
    go_enter Try.func122, Try.ntmps122
    go_wp2_with (go_at_call 180; refine HM.out.mono ?_; rintro e w' ⟨rfl, hk⟩)
    go_ret
    exact ⟨rfl, ((Kp.refl _ _).alloc _).trans' hk⟩
end Go.Proofs.Ytocpppegmepolaa
