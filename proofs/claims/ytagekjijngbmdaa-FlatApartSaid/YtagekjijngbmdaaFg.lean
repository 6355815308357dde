/- flat: New, Copy. -/
import Derived.Test.YtagekjijngbmdaaFf
import Derived.Test.YtagekjijngbmdaaMem3
set_option linter.unusedVariables false
set_option linter.unusedSimpArgs false
namespace Go.Proofs.Ytagekjijngbmdaa
open Go.RowKit
attribute [local go_sem ↓] Go.wp_at_zero Go.wp_at_succ

theorem I_u8 : (Try.prog.info? 5).map (fun i => (i.zero, i.size, i.bytes)) = some (some (.int .u8 0), 1, 1) := by kernel_rfl

def zst (n : Nat) : St := List.replicate n (zeros 48)
def mixz (n k : Nat) : List ByteArray := List.replicate k (zeros 48) ++ List.replicate (n - k) ⟨#[]⟩
theorem mixz_set {n k : Nat} (h : k < n) : (mixz n k).set k (zeros 48) = mixz n (k + 1) := by
  unfold mixz
  rw [List.set_append_right _ _ (by simp), List.length_replicate, Nat.sub_self]
  have : n - k = (n - (k + 1)) + 1 := by omega
  rw [this, List.replicate_succ, List.set_cons_zero, List.replicate_succ', List.append_assoc]
  rfl
theorem mixz_len {n k : Nat} (h : k ≤ n) : (mixz n k).length = n := by unfold mixz; simp; omega

theorem FlatR.mk {S : Nat → Prop} {W : World} {g c n : Nat} {cs : List Ch} (h : OwR KCh 55 0 S W (.slice (some ⟨g, 0, none⟩) cs.length c) cs) (hg : ¬ S g) (hS : ∀ k, S k → k < W.heap.size) :
    FlatR S (W.alloc (.cells #[.int .i64 n, .slice (some ⟨g, 0, none⟩) cs.length c] 58)) W.heap.size g n cs := by
  have hgl := (h.lt (k := g) rfl).2
  refine ⟨c, heap_alloc_new W _, h.kp ((Kp.refl No W).alloc _) (fun _ _ h => h.elim) (fun _ _ h => h.elim) (fun k hk x => ?_), by omega, fun x => by have := hS _ x; omega, hg⟩
  rcases x with x | x
  · exact x
  · omega

set_option maxHeartbeats 400000 in
theorem new_bad (N : Int) (w : World) (h : N < 1 ∨ 64 < N) (hN : i64 N) :
    Calls Try.prog 6 #[.int .i64 N] w fun e w' => e = .returned (.tuple #[.pointer none, .int .i64 2]) ∧ w = w' := by
  unfold i64 at hN
  by_cases h1 : N < 1
  · go_enter Try.func6, Try.ntmps6
    go_wp2
    go_ret2
    exact ⟨rfl, rfl⟩
  · have h2 : 64 < N := by omega
    go_enter Try.func6, Try.ntmps6
    go_wp2
    go_ret2
    exact ⟨rfl, rfl⟩

set_option maxHeartbeats 2000000 in
theorem new_ok {S : Nat → Prop} (n : Nat) (w : World) (h1 : 1 ≤ n) (h2 : n ≤ 64) (hS : ∀ k, S k → k < w.heap.size) :
    Calls Try.prog 6 #[.int .i64 n] w fun e w' => ∃ b g, e = .returned (.tuple #[.pointer (some ⟨b, 0, none⟩), .int .i64 0]) ∧ FlatR S w' b g n [[zst n]] ∧ w.heap.size ≤ b ∧ w.heap.size ≤ g ∧ Kp No w w' := by
  have hmk := mk_row (P := Try.prog) 53 9 (.string ⟨#[]⟩) 16 Try.underlying53 I_str rfl (by omega) n (by omega)
  have hmz : ∀ W : World, (Instr.makeSlice 23 (.int .i64 48) (.int .i64 48)).run Try.prog W = .ok (.slice (some ⟨W.heap.size, 0, none⟩) 48 48) (W.alloc (.cells (madeCells #[.int .u8 0] 48) 5)) := fun W => mk_zeros (P := Try.prog) 23 5 Try.underlying23 I_u8 48 (by omega) W
  have hcv := cv_zeros (P := Try.prog) 23 9 5 Try.underlying23 Try.underlying5 Try.underlying9 48
  have hi1 : (1 : Int) ≤ (n : Int) := by omega
  have hi2 : (n : Int) ≤ 64 := by omega
  obtain ⟨z, hz⟩ : ∃ z, z = zeros 48 := ⟨_, rfl⟩
  rw [← hz] at hcv
  have HZ := Lib.hid hz
  clear hz
  have hO := OwR.made (K := KStr) (S := No) 9 w.heap.size w (.string ⟨#[]⟩) (⟨#[]⟩ : ByteArray) n rfl (Nat.le_refl _) (by omega) (fun _ _ => rfl)
  have HO := Lib.hid hO
  clear hO
  go_enter Try.func6, Try.ntmps6
  go_wp2
  go_loopw [16] (fun i wr => ∃ k : Nat, k ≤ n ∧ i = .int .i64 k ∧ wr.ownsRow w.heap.size 9 1 (.slice (some ⟨w.heap.size, 0, none⟩) n n) n ((mixz n k).map .string) ∧ Kp No w wr ∧ w.heap.size < wr.heap.size) (fun i _ => n - (intOf i).toNat)
  case atStart => exact ⟨0, Nat.zero_le _, rfl, by have := HO.out.str; simpa [mixz] using this, (Kp.refl _ _).alloc _, by simp⟩
  case round =>
    clear HO
    obtain ⟨k, hk1', rfl, ho, hkr, hsz⟩ := hrel
    by_cases hlt : k < n
    · have hml := mixz_len (n := n) (k := k) (by omega)
      obtain ⟨x, hcell⟩ : ∃ x, wr.cell? ⟨w.heap.size, k, none⟩ = some x := by
        rw [ho.cellAt _ (by omega)]
        exact ⟨_, List.getElem?_eq_getElem (by rw [ho.1]; omega)⟩
      have hfr := ho.frozenAt k
      have ho2 := (ho.stored k (.string z)).1
      have hk2 := (hkr.setCell (p := ⟨w.heap.size, k, none⟩) (.inr (Nat.le_refl _)) (.string z))
      rw [← List.map_set, HZ.out, mixz_set hlt, ← HZ.out] at ho2
      have HO2 := Lib.hid ho2
      have HK2 := Lib.hid hk2
      clear ho ho2 hk2 hml
      go_wp2
      go_roundw
      case rel => exact ⟨k + 1, by omega, by go_num, HO2.out.alloc _, HK2.out.alloc _, by simp; omega⟩
      case measure => simp [intOf]; omega
    · obtain rfl : k = n := by omega
      have HO := Lib.hid ho
      have HK := Lib.hid hkr
      clear ho hkr
      go_wp2
      go_ret2
      have hst : SlR KStr S wr (.slice (some ⟨w.heap.size, 0, none⟩) (zst k).length k) (zst k) := by
        have h0 := HO.out
        have e1 : mixz k k = zst k := by simp [mixz, zst]
        have e2 : (zst k).length = k := by simp [zst]
        rw [e1] at h0
        have h3 : OwR KStr 9 w.heap.size S wr (.slice (some ⟨w.heap.size, 0, none⟩) (zst k).length k) (zst k) := OwR.of_str (by rw [e2]; exact h0)
        exact h3.slOf hS
      have e2 : (zst k).length = k := by simp [zst]
      rw [e2] at hst
      have hS1 : ¬ S wr.heap.size := fun x => by have := hS _ x; omega
      have hS2 : ¬ S (wr.heap.size + 1) := fun x => by have := hS _ x; omega
      have h1 : SlR (KSl KStr) S (wr.alloc (.cells #[.slice (some ⟨w.heap.size, 0, none⟩) k k] 53)) (.slice (some ⟨wr.heap.size, 0, none⟩) 1 1) [zst k] := SlR.lit1 ⟨_, rfl, hst⟩ hS1
      have h2 : OwR KCh 55 0 S _ _ [[zst k]] := OwR.lit1 (e' := 55) (base := 0) (news := #[.slice (some ⟨wr.heap.size, 0, none⟩) 1 1]) (W := wr.alloc (.cells #[.slice (some ⟨w.heap.size, 0, none⟩) k k] 53)) rfl (Nat.zero_le _) ⟨_, rfl, h1⟩
      have hsz2 : (wr.alloc (.cells #[.slice (some ⟨w.heap.size, 0, none⟩) k k] 53)).heap.size = wr.heap.size + 1 := by simp
      rw [hsz2] at h2
      have h3 := FlatR.mk (n := k) (c := 1) h2 hS2 (fun j hj => by have := hS _ hj; simp; omega)
      refine ⟨wr.heap.size + 1 + 1, wr.heap.size + 1, rfl, ?_, by omega, by omega, ((HK.out.alloc _).alloc _).alloc _⟩
      simpa using h3

end Go.Proofs.Ytagekjijngbmdaa
