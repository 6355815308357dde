/- dev: New, Crash. -/
import Derived.Test.YtocpppegmepolaaRb
set_option linter.unusedVariables false
set_option linter.unusedSimpArgs false
namespace Go.Proofs.Ytocpppegmepolaa
open Go.RowKit
attribute [local go_sem ↓] Go.wp_at_zero Go.wp_at_succ

theorem I_u8 : (Try.prog.info? 5).map (fun i => (i.zero, i.size, i.bytes)) = some (some (.int .u8 0), 1, 1) := by kernel_rfl
theorem I_str : (Try.prog.info? 9).map (fun i => (i.zero, i.size, i.bytes)) = some (some (.string ⟨#[]⟩), 1, 16) := by kernel_rfl
theorem I_bool : (Try.prog.info? 4).map (fun i => (i.zero, i.size, i.bytes)) = some (some (.bool false), 1, 1) := by kernel_rfl
theorem I_int : (Try.prog.info? 3).map (fun i => (i.zero, i.size, i.bytes)) = some (some (.int .i64 0), 1, 8) := by kernel_rfl
theorem I_blk : (Try.prog.info? 244).map (fun i => (i.zero, i.size, i.bytes)) = some (some (.agg #[.string ⟨#[]⟩, .string ⟨#[]⟩, .bool false]), 3, 40) := by kernel_rfl

/-- A row of bytes 0, made; closed to the walk. -/
def mz (m : Nat) : Array Value := madeCells #[.int .u8 0] m
theorem mz_mk (m : Nat) (hn : m ≤ 281474976710656) : ∀ W : World, (Instr.makeSlice 108 (.int .i64 (m : Int)) (.int .i64 (m : Int))).run Try.prog W = .ok (.slice (some ⟨W.heap.size, 0, none⟩) m m) (W.alloc (.cells (mz m) 5)) :=
  mk_zeros (P := Try.prog) 108 5 Try.underlying108 I_u8 m hn
theorem mz_cv (m : Nat) : ∀ W : World, (convert 108 9 (.slice (some ⟨W.heap.size, 0, none⟩) m m)).run Try.prog (W.alloc (.cells (mz m) 5)) = .ok (.string (zeros m)) (W.alloc (.cells (mz m) 5)) :=
  cv_zeros (P := Try.prog) 108 9 5 Try.underlying108 Try.underlying5 Try.underlying9 m

def blk0 : Blk := ⟨zeros 64, zeros 64, false⟩

set_option maxRecDepth 100000 in
set_option maxHeartbeats 2000000 in
theorem dnew_ok {S : Nat → Prop} (n : Nat) (w : World) (h1 : 1 ≤ n) (h2 : n ≤ 512) (hS : ∀ k, S k → k < w.heap.size) :
    Calls Try.prog 114 #[.int .i64 n] w fun e w' => ∃ b g, e = .returned (.tuple #[.pointer (some ⟨b, 0, none⟩), .int .i64 0]) ∧ DevR S w' b g (List.replicate n blk0) ∧ w.heap.size ≤ b ∧ w.heap.size ≤ g ∧ Kp No w w' := by
  have hmz : ∀ W : World, (Instr.makeSlice 108 (.int .i64 64) (.int .i64 64)).run Try.prog W = .ok (.slice (some ⟨W.heap.size, 0, none⟩) 64 64) (W.alloc (.cells (mz 64) 5)) := mz_mk 64 (by omega)
  have hcv := mz_cv 64 (w.alloc (.cells #[.slice none 0 0] 242))
  rw [World.size_alloc] at hcv
  have hi1 : (1 : Int) ≤ (n : Int) := by omega
  have hi2 : (n : Int) ≤ 512 := by omega
  obtain ⟨z, hz⟩ : ∃ z, z = zeros 64 := ⟨_, rfl⟩
  rw [← hz] at hcv
  have HZ := Lib.hid hz
  clear hz
  have hb0 := heap_al (heap_new w (.cells #[.slice none 0 0] 242)) (.cells (mz 64) 5)
  have HB := Lib.hid hb0
  clear hb0
  go_enter Try.func114, Try.ntmps114
  go_wp2
  go_loopw [17] (fun i wr => ∃ k : Nat, k ≤ n ∧ i = .int .i64 k ∧ (∃ v, wr.heap[w.heap.size]? = some (.cells #[v] 242 (0, 0)) ∧ OwR KBlk 244 (w.heap.size + 1) S wr v (List.replicate k ⟨z, z, false⟩)) ∧ Kp No w wr) (fun i _ => n - (intOf i).toNat)
  case atStart => exact ⟨0, Nat.zero_le _, rfl, ⟨_, HB.out, OwR.nil _ _ _ _ _⟩, ((Kp.refl _ _).alloc _).alloc _⟩
  case round =>
    clear HB
    obtain ⟨k, hk, rfl, ⟨v, hb, ho⟩, hkr⟩ := hrel
    have hsz := blt hb
    have hc := cellOf hb 0
    have hf := freeOf hb 0
    by_cases hlt : k < n
    · obtain ⟨A, c, rfl, _, _⟩ := ho.len
      rw [List.length_replicate] at hc ho hb
      have hc' : wr.cell? ⟨w.heap.size, 0, none⟩ = some (.slice A k c) := hc
      have HO := Lib.hid ho
      have HK := Lib.hid hkr
      have HB := Lib.hid hb
      clear ho hkr hc hb
      go_wp2_with (at_builtin; refine wpList_ap1 (K := KBlk) (S := S) wr (by rfl) _ _ 240 (by rfl) (w.heap.size + 1) 244 244 _ 40 Try.underlying240 I_blk rfl (by decide) (by decide) _ _ (by rfl) HO.out 1 1 (by rfl) rfl _ ⟨z, z, false⟩ ?c1 ?c2 ?c3 ?_)
      case c1 => rfl
      case c2 => exact hsz
      case c3 => rw [List.length_replicate]; omega
      intro v2 w2 hv2 hk2 hat
      rw [← List.replicate_succ'] at hv2
      have hne : ∀ k', (Value.slice A k c).ownBlock = some k' → ¬ w.heap.size = k' := fun k' e x => by have := (HO.out.lt e).1; omega
      have hb2 := hk2.heap HB.out (fun x => hne _ x rfl)
      have hsz2 := blt hb2
      have hc2 := cellOf hb2 0
      have hf2 := freeOf hb2 0
      have HV := Lib.hid hv2
      have HK2 := Lib.hid hk2
      have HB2 := Lib.hid hb2
      clear hv2 hk2 hb2 hat hne
      obtain ⟨A2, d2, rfl, _, _⟩ := HV.out.len
      go_wp2
      go_roundw
      case rel =>
        refine ⟨k + 1, by omega, by go_num, ⟨_, heap_set HB2.out 0 _, ?_⟩, ?_⟩
        · have := HV.out.far KBlk_flat (p := ⟨w.heap.size, 0, none⟩) (fun j e x => by have := (HV.out.lt e).1; simp at x; omega) (.slice A2 (List.replicate (k + 1) (⟨z, z, false⟩ : Blk)).length d2)
          simpa using this
        · exact (HK.out.trans HK2.out (fun j hj e => by have := (HO.out.lt e).1; omega)).setCell (.inr (Nat.le_refl _)) _
      case measure => simp [intOf]; omega
    · obtain rfl : k = n := by omega
      have HO := Lib.hid ho
      have HB := Lib.hid hb
      have HK := Lib.hid hkr
      clear ho hb hkr hc hf
      go_wp2
      go_ret2
      obtain ⟨A, c, rfl, _, _⟩ := HO.out.len
      obtain ⟨g, c', cur, hv, hbase, _⟩ := HO.out.block (by rw [List.length_replicate]; omega)
      injection hv with e1 e2 e3
      subst e1 e3
      have hk0 : ⟨z, z, false⟩ = blk0 := by unfold blk0; rw [HZ.out]
      have hO := HO.out
      have hB := HB.out
      rw [hk0] at hO hB
      exact ⟨w.heap.size, g, rfl, ⟨c, hB, (hO.base (Nat.zero_le _)), by omega, fun x => by have := hS _ x; omega, fun x => by have := hS _ x; omega⟩, Nat.le_refl _, by omega, HK.out⟩
end Go.Proofs.Ytocpppegmepolaa
