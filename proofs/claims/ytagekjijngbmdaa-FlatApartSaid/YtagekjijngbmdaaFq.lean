/- The document's answer (cellaretref26): a model in memory; New, May, Data, Last, States. -/
import Derived.Test.YtagekjijngbmdaaPl
import Derived.Test.YtagekjijngbmdaaFm
set_option linter.unusedVariables false
set_option linter.unusedSimpArgs false
namespace Go.Proofs.Ytagekjijngbmdaa
open Go.RowKit
attribute [local go_sem ↓] Go.wp_at_zero Go.wp_at_succ

abbrev RCh := List ByteArray
abbrev KRC : Kind (List ByteArray) := KSl KStr
theorem I_rch : (Try.prog.info? 66).map (fun i => (i.zero, i.size, i.bytes)) = some (some (.agg #[.slice none 0 0]), 1, 24) := by kernel_rfl

/-- The reference's model: its struct lies in block b; what it leads to is not in S, nor that block. -/
def RefR (S : Nat → Prop) (w : World) (b : Nat) (n : Nat) (rs : List RCh) : Prop :=
  ∃ v, w.heap[b]? = some (.cells #[.int .i64 n, v] 47 (0, 0)) ∧ SlR KRC (fun k => S k ∨ k = b) w v rs ∧ ¬ S b
theorem RefR.move {S S' : Nat → Prop} {w w' : World} {b n : Nat} {rs : List RCh} (h : RefR S w b n rs) (hm : ∀ k, k < w.heap.size → ¬ S k → ¬ S' k ∧ w'.heap[k]? = w.heap[k]?) : RefR S' w' b n rs := by
  obtain ⟨v, h1, h2, h3⟩ := h
  have hb := hm b (blt h1) h3
  exact ⟨v, hb.2.trans h1, h2.move (fun k hk hn => ⟨fun x => by rcases x with x | x; exact (hm k hk fun y => hn (.inl y)).1 x; exact hn (.inr x), (hm k hk fun y => hn (.inl y)).2⟩), hb.1⟩
theorem RefR.no {S : Nat → Prop} {w w' : World} {b n : Nat} {rs : List RCh} (h : RefR S w b n rs) (hk : Kp No w w') : RefR S w' b n rs := h.move fun k hk' hn => ⟨hn, hk.block k hk' id⟩

set_option maxHeartbeats 1000000 in
theorem rnew_ok {S : Nat → Prop} (n : Nat) (w : World) (h1 : 1 ≤ n) (h2 : n ≤ 64) (hS : ∀ k, S k → k < w.heap.size) :
    Calls Try.prog 17 #[.int .i64 n] w fun e w' => ∃ b, e = .returned (.pointer (some ⟨b, 0, none⟩)) ∧ RefR S w' b n [[zeros (48 * n)]] ∧ w.heap.size ≤ b ∧ Kp No w w' := by
  have hz := zeros_any (48 * n) w (by omega)
  rw [show ((48 * n : Nat) : Int) = 48 * (n : Int) from by omega] at hz
  obtain ⟨z, hzz⟩ : ∃ z, z = zeros (48 * n) := ⟨_, rfl⟩
  rw [← hzz] at hz ⊢
  have HZ := Lib.hid hz
  clear hz hzz
  go_enter Try.func17, Try.ntmps17
  go_wp2_with fail
  refine HZ.out.mono ?_
  rintro e w1 ⟨rfl, hk⟩
  have HK := Lib.hid hk
  clear hk
  go_wp2
  go_ret
  have hsz := HK.out.size
  have hS1 : ¬ (S w1.heap.size ∨ w1.heap.size = w1.heap.size + 1 + 1) := fun x => by rcases x with x | x; (have := hS _ x; omega); omega
  have hS2 : ¬ (S (w1.heap.size + 1) ∨ w1.heap.size + 1 = w1.heap.size + 1 + 1) := fun x => by rcases x with x | x; (have := hS _ x; omega); omega
  have a1 : SlR KStr (fun k => S k ∨ k = w1.heap.size + 1 + 1) (w1.alloc (.cells #[.string z] 9)) (.slice (some ⟨w1.heap.size, 0, none⟩) 1 1) [z] := SlR.lit1 rfl hS1
  have hsz2 : (w1.alloc (.cells #[.string z] 9)).heap.size = w1.heap.size + 1 := by simp
  have a2 : SlR KRC (fun k => S k ∨ k = w1.heap.size + 1 + 1) ((w1.alloc (.cells #[.string z] 9)).alloc (.cells #[.slice (some ⟨w1.heap.size, 0, none⟩) 1 1] 66)) (.slice (some ⟨(w1.alloc (.cells #[.string z] 9)).heap.size, 0, none⟩) 1 1) [[z]] := SlR.lit1 ⟨_, rfl, a1⟩ (by rw [hsz2]; exact hS2)
  rw [hsz2] at a2
  have a3 := heap_new ((w1.alloc (.cells #[.string z] 9)).alloc (.cells #[.slice (some ⟨w1.heap.size, 0, none⟩) 1 1] 66)) (.cells #[.int .i64 (n : Int), .slice (some ⟨w1.heap.size + 1, 0, none⟩) 1 1] 47)
  have hsz3 : ((w1.alloc (.cells #[.string z] 9)).alloc (.cells #[.slice (some ⟨w1.heap.size, 0, none⟩) 1 1] 66)).heap.size = w1.heap.size + 1 + 1 := by simp
  rw [hsz3] at a3
  refine ⟨_, rfl, ⟨_, a3, a2.no ((Kp.refl _ _).alloc _), ?_⟩, ?_, ((HK.out.alloc _).alloc _).alloc _⟩
  · intro x; have := hS _ x; omega
  · omega

set_option maxHeartbeats 400000 in
theorem rmay_any (at_ n N : Int) (b : Nat) (w : World) (h1 : 1 ≤ N) (h2 : N ≤ 64) (ha : i64 at_) (hn : i64 n)
    (hc : w.cell? ⟨b, 0, none⟩ = some (.int .i64 N)) :
    Calls Try.prog 33 #[.pointer (some ⟨b, 0, none⟩), .int .i64 at_, .int .i64 n] w fun e w' => e = .returned (.int .i64 (mayF N at_ n)) ∧ w = w' := by
  unfold i64 at ha hn
  by_cases c1 : n < 1
  · go_enter Try.func33, Try.ntmps33
    go_wp2
    go_ret
    exact ⟨ret_int (by unfold mayF; rw [if_pos (by omega)]), rfl⟩
  · by_cases c2 : at_ < 0
    · go_enter Try.func33, Try.ntmps33
      go_wp2
      go_ret
      exact ⟨ret_int (by unfold mayF; rw [if_neg (by omega), if_pos (by omega)]), rfl⟩
    · by_cases c3 : N ≤ at_
      · go_enter Try.func33, Try.ntmps33
        go_wp2
        go_ret
        exact ⟨ret_int (by unfold mayF; rw [if_neg (by omega), if_pos (by omega)]), rfl⟩
      · by_cases c4 : N - at_ < n
        · go_enter Try.func33, Try.ntmps33
          go_wp2
          go_ret
          exact ⟨ret_int (by unfold mayF; rw [if_neg (by omega), if_pos (by omega)]), rfl⟩
        · go_enter Try.func33, Try.ntmps33
          go_wp2
          go_ret
          exact ⟨ret_int (by unfold mayF; rw [if_neg (by omega), if_neg (by omega)]), rfl⟩

set_option maxHeartbeats 400000 in
theorem rdata_any (at_ N : Int) (s : ByteArray) (b : Nat) (w : World) (h1 : 1 ≤ N) (h2 : N ≤ 64) (ha : i64 at_) (hs : s.size ≤ 1000000)
    (hc : w.cell? ⟨b, 0, none⟩ = some (.int .i64 N)) :
    Calls Try.prog 31 #[.pointer (some ⟨b, 0, none⟩), .int .i64 at_, .string s] w fun e w' => e = .returned (.int .i64 (dataF N at_ s.size)) ∧ w = w' := by
  by_cases c1 : (s.size : Int) % 48 = 0
  · by_cases c2 : s.size = 0
    · have hr : dataF N at_ s.size = 2 := by unfold dataF; rw [if_neg (by omega)]; unfold mayF; rw [if_pos (by omega)]
      have HR := Lib.hid hr
      have c3 : (s.size : Int) = 0 := by omega
      clear hr c2
      go_enter Try.func31, Try.ntmps31
      go_wp2
      go_ret
      exact ⟨ret_int HR.out.symm, rfl⟩
    · have c3 : ¬ (s.size : Int) = 0 := by omega
      go_enter Try.func31, Try.ntmps31
      go_wp2_with (go_at_call 33; refine (rmay_any _ _ N b _ h1 h2 ha ?_ hc).mono ?_; (unfold i64; omega); rintro e w' ⟨rfl, rfl⟩)
      go_ret
      exact ⟨ret_int (by unfold dataF; rw [if_neg (by omega)]; rfl), rfl⟩
  · go_enter Try.func31, Try.ntmps31
    go_wp2
    go_ret
    exact ⟨ret_int (by unfold dataF; rw [if_pos (by omega)]), rfl⟩

/-! A chain's last state. -/
set_option maxHeartbeats 400000 in
theorem rlast_any {S : Nat → Prop} (v : Value) (xs : List ByteArray) (x : ByteArray) (w : World) (h : SlR KStr S w v xs) (hx : xs[xs.length - 1]? = some x) :
    Calls Try.prog 42 #[.agg #[v]] w fun e w' => e = .returned (.string x) ∧ Kp No w w' := by
  obtain ⟨hlt, hx'⟩ := List.getElem?_eq_some_iff.1 hx
  have h0 : 0 < xs.length := by omega
  obtain ⟨b, o, c, rfl, h1, h2, _, h4, hr⟩ := h.open1 rfl h0
  obtain ⟨u, hc, hu⟩ := hr (xs.length - 1) hlt
  rw [hx'] at hu
  obtain rfl := KStr_R hu
  obtain ⟨n, hn⟩ : ∃ n, n = xs.length := ⟨_, rfl⟩
  rw [← hn] at hc h0 h1 ⊢
  have hk : Kp No w (w.alloc (.cells #[.slice (some ⟨b, o, none⟩) n c] 66)) := (Kp.refl _ _).alloc _
  have hc' := hk.cell' hc
  have HK := Lib.hid hk
  clear hu hr h hlt hx hx' hn hk
  go_enter Try.func42, Try.ntmps42
  go_wp2
  go_ret
  exact ⟨rfl, HK.out⟩
end Go.Proofs.Ytagekjijngbmdaa
