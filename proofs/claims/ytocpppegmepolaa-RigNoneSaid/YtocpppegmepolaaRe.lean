/- rig: its state, and how it lies in memory; comes, may, right. -/
import Derived.Test.YtocpppegmepolaaRd
set_option linter.unusedVariables false
set_option linter.unusedSimpArgs false
namespace Go.Proofs.Ytocpppegmepolaa
open Go.RowKit
attribute [local go_sem ↓] Go.wp_at_zero Go.wp_at_succ

structure RigS where
  reg : ByteArray
  down : Bool
  calls : Nat
  later : Nat
  arm : Nat
  fault : Nat
  td : Nat
  ti : Nat
  ts : ByteArray
  d0 : List Blk
  d1 : List Blk
/-- Where a rig lies: its struct, each device's struct and row. -/
structure Spots where
  b : Nat
  b0 : Nat
  g0 : Nat
  b1 : Nat
  g1 : Nat
def RF (p : Spots) (k : Nat) : Prop := k = p.b ∨ k = p.b0 ∨ k = p.g0 ∨ k = p.b1 ∨ k = p.g1
def RigS.cells (p : Spots) (σ : RigS) : Array Value :=
  #[.pointer (some ⟨p.b0, 0, none⟩), .pointer (some ⟨p.b1, 0, none⟩), .string σ.reg, .bool σ.down, .int .i64 σ.calls, .int .i64 σ.later, .int .i64 σ.arm, .int .i64 σ.fault, .int .i64 σ.td, .int .i64 σ.ti, .string σ.ts]
def RigR (S : Nat → Prop) (w : World) (p : Spots) (σ : RigS) : Prop :=
  w.heap[p.b]? = some (.cells (σ.cells p) 166 (0, 0)) ∧ ¬ S p.b ∧
  DevR (fun k => S k ∨ k = p.b ∨ k = p.b1 ∨ k = p.g1) w p.b0 p.g0 σ.d0 ∧ DevR (fun k => S k ∨ k = p.b ∨ k = p.b0 ∨ k = p.g0) w p.b1 p.g1 σ.d1
def okD (bs : List Blk) : Prop := bs.length = 288 ∧ ∀ x ∈ bs, B64 x
def RigS.wf (σ : RigS) : Prop := okD σ.d0 ∧ okD σ.d1 ∧ σ.td < 2 ∧ σ.ti < 288 ∧ (0 < σ.later → σ.ts.size = 64) ∧ σ.later ≤ 1099511627776 ∧ σ.arm ≤ 1099511627776 ∧ σ.fault ≤ 1099511627776

def RigS.dev (σ : RigS) (d : Nat) : List Blk := if d = 0 then σ.d0 else σ.d1
def RigS.setDev (σ : RigS) (d : Nat) (bs : List Blk) : RigS := if d = 0 then { σ with d0 := bs } else { σ with d1 := bs }
def Spots.db (p : Spots) (d : Nat) : Nat := if d = 0 then p.b0 else p.b1
def Spots.dg (p : Spots) (d : Nat) : Nat := if d = 0 then p.g0 else p.g1
theorem RigS.setDev_cells (p : Spots) (σ : RigS) (d : Nat) (bs : List Blk) : (σ.setDev d bs).cells p = σ.cells p := by unfold RigS.setDev; split <;> rfl

section
variable {S : Nat → Prop} {w w' : World} {p : Spots} {σ : RigS}
theorem RigR.move {S' : Nat → Prop} (h : RigR S w p σ) (hm : ∀ k, k < w.heap.size → ¬ S k → ¬ S' k ∧ w'.heap[k]? = w.heap[k]?) : RigR S' w' p σ := by
  obtain ⟨h1, h2, h3, h4⟩ := h
  have hb := hm p.b (blt h1) h2
  refine ⟨hb.2.trans h1, hb.1, h3.move fun k hk hn => ?_, h4.move fun k hk hn => ?_⟩
  · have := hm k hk (fun x => hn (.inl x))
    exact ⟨fun x => by rcases x with x | x; exact this.1 x; exact hn (.inr x), this.2⟩
  · have := hm k hk (fun x => hn (.inl x))
    exact ⟨fun x => by rcases x with x | x; exact this.1 x; exact hn (.inr x), this.2⟩
theorem RigR.no (h : RigR S w p σ) (hk : Kp No w w') : RigR S w' p σ := h.move fun k hk' hn => ⟨hn, hk.block k hk' id⟩
theorem RigR.kp {T : Nat → Prop} (h : RigR S w p σ) (hk : Kp T w w') (hT : ∀ k, T k → S k) : RigR S w' p σ := h.move fun k hk' hn => ⟨hn, hk.block k hk' fun x => hn (hT k x)⟩
theorem RigR.lt (h : RigR S w p σ) : p.b < w.heap.size ∧ (p.b0 < w.heap.size ∧ p.g0 < w.heap.size) ∧ p.b1 < w.heap.size ∧ p.g1 < w.heap.size := ⟨blt h.1, h.2.2.1.lt, h.2.2.2.lt⟩
theorem RigR.ne (h : RigR S w p σ) : (p.b0 ≠ p.b ∧ p.g0 ≠ p.b) ∧ (p.b1 ≠ p.b ∧ p.g1 ≠ p.b) ∧ p.b0 ≠ p.b1 ∧ p.b0 ≠ p.g1 ∧ p.g0 ≠ p.b1 ∧ p.g0 ≠ p.g1 ∧ p.g0 ≠ p.b0 ∧ p.g1 ≠ p.b1 := by
  obtain ⟨h1, h2, ⟨_, _, _, n0, h3, h4⟩, ⟨_, _, _, n1, h5, h6⟩⟩ := h
  refine ⟨⟨fun e => h3 (.inr (.inl e)), fun e => h4 (.inr (.inl e))⟩, ⟨fun e => h5 (.inr (.inl e)), fun e => h6 (.inr (.inl e))⟩, fun e => h3 (.inr (.inr (.inl e))), fun e => h3 (.inr (.inr (.inr e))), fun e => h4 (.inr (.inr (.inl e))), fun e => h4 (.inr (.inr (.inr e))), n0, n1⟩
theorem RigR.fp (h : RigR S w p σ) : ∀ k, RF p k → ¬ S k ∧ k < w.heap.size := by
  have hl := h.lt
  obtain ⟨h1, h2, ⟨_, _, _, n0, h3, h4⟩, ⟨_, _, _, n1, h5, h6⟩⟩ := h
  intro k hk
  rcases hk with rfl | rfl | rfl | rfl | rfl
  · exact ⟨h2, hl.1⟩
  · exact ⟨fun x => h3 (.inl x), hl.2.1.1⟩
  · exact ⟨fun x => h4 (.inl x), hl.2.1.2⟩
  · exact ⟨fun x => h5 (.inl x), hl.2.2.1⟩
  · exact ⟨fun x => h6 (.inl x), hl.2.2.2⟩
/-- A store into the struct. -/
theorem RigR.put (h : RigR S w p σ) (j : Nat) (v : Value) (σ' : RigS) (hc : (σ.cells p).setIfInBounds j v = σ'.cells p) (h0 : σ'.d0 = σ.d0) (h1 : σ'.d1 = σ.d1) : RigR S (w.setCell ⟨p.b, j, none⟩ v) p σ' := by
  have hn := h.ne
  obtain ⟨a1, a2, a3, a4⟩ := h
  refine ⟨by rw [heap_set a1, hc], a2, ?_, ?_⟩
  · rw [h0]; exact a3.move fun k _ hk => ⟨hk, Below.heap_setCell w _ v k fun e => hk (.inr (.inl e))⟩
  · rw [h1]; exact a4.move fun k _ hk => ⟨hk, Below.heap_setCell w _ v k fun e => hk (.inr (.inl e))⟩
theorem RigR.dev (h : RigR S w p σ) (d : Nat) : ∃ S', DevR S' w (p.db d) (p.dg d) (σ.dev d) ∧ p.dg d ≠ p.b := by
  have hn := h.ne
  unfold Spots.db Spots.dg RigS.dev
  split
  · exact ⟨_, h.2.2.1, hn.1.2⟩
  · exact ⟨_, h.2.2.2, hn.2.1.2⟩
theorem RigR.devS (h : RigR S w p σ) (d : Nat) : DevR S w (p.db d) (p.dg d) (σ.dev d) := by
  unfold Spots.db Spots.dg RigS.dev
  split
  · exact h.2.2.1.move fun k _ hn => ⟨fun x => hn (.inl x), rfl⟩
  · exact h.2.2.2.move fun k _ hn => ⟨fun x => hn (.inl x), rfl⟩
/-- A device has changed. -/
theorem RigR.devd (h : RigR S w p σ) (d : Nat) {bs : List Blk} (hd : DevR S w' (p.db d) (p.dg d) bs) (hk : Kp (fun k => k = p.dg d) w w') : RigR S w' p (σ.setDev d bs) := by
  have hn := h.ne
  have hf := h.fp
  obtain ⟨a1, a2, a3, a4⟩ := h
  refine ⟨?_, a2, ?_⟩
  · rw [RigS.setDev_cells]
    refine hk.heap a1 ?_
    unfold Spots.dg; split
    · exact fun e => hn.1.2 e.symm
    · exact fun e => hn.2.1.2 e.symm
  · unfold Spots.db Spots.dg at hd
    unfold Spots.dg at hk
    unfold RigS.setDev
    split
    · rename_i e
      simp only [if_pos e] at hd hk
      refine ⟨?_, a4.move fun k hk' hn' => ⟨hn', hk.block k hk' fun x => hn' (.inr (.inr (.inr x)))⟩⟩
      obtain ⟨c, h1, h2, h3, h4, h5⟩ := hd
      refine ⟨c, h1, h2.flat KBlk_flat fun _ _ => rfl, h3, ?_, ?_⟩
      · exact fun x => by rcases x with x | x | x | x; exact h4 x; exact hn.1.1 x; exact hn.2.2.1 x; exact hn.2.2.2.1 x
      · exact fun x => by rcases x with x | x | x | x; exact h5 x; exact hn.1.2 x; exact hn.2.2.2.2.1 x; exact hn.2.2.2.2.2.1 x
    · rename_i e
      simp only [if_neg e] at hd hk
      refine ⟨a3.move fun k hk' hn' => ⟨hn', hk.block k hk' fun x => hn' (.inr (.inr (.inr x)))⟩, ?_⟩
      obtain ⟨c, h1, h2, h3, h4, h5⟩ := hd
      refine ⟨c, h1, h2.flat KBlk_flat fun _ _ => rfl, h3, ?_, ?_⟩
      · exact fun x => by rcases x with x | x | x | x; exact h4 x; exact hn.2.1.1 x; exact hn.2.2.1 x.symm; exact hn.2.2.2.2.1 x.symm
      · exact fun x => by rcases x with x | x | x | x; exact h5 x; exact hn.2.1.2 x; exact hn.2.2.2.1 x.symm; exact hn.2.2.2.2.2.1 x.symm
theorem RF.dg (p : Spots) (d : Nat) : RF p (p.dg d) := by
  unfold Spots.dg; split
  · exact .inr (.inr (.inl rfl))
  · exact .inr (.inr (.inr (.inr rfl)))
theorem Kp.rfd {d : Nat} (h : Kp (fun k => k = p.dg d) w w') : Kp (RF p) w w' := h.mono fun k _ e => e ▸ RF.dg p d
theorem Kp.rfb (h : Kp (fun k => k = p.b) w w') : Kp (RF p) w w' := h.mono fun k _ e => .inl e
theorem RigR.cl (h : RigR S w p σ) (j : Nat) : w.cell? ⟨p.b, j, none⟩ = (σ.cells p)[j]? := cellOf h.1 j
theorem RigR.fr (h : RigR S w p σ) (j : Nat) : w.frozen? ⟨p.b, j, none⟩ = false := freeOf h.1 j
end

/-! comes, right, may -/
set_option maxHeartbeats 400000 in
theorem comes_any (n b o : Nat) (w : World) (hn : n ≤ 1099511627776) (hc : w.cell? ⟨b, o, none⟩ = some (.int .i64 n)) (hf : w.frozen? ⟨b, o, none⟩ = false) :
    Calls Try.prog 177 #[.pointer (some ⟨b, o, none⟩)] w fun e w' => e = .returned (.bool (decide (n = 1))) ∧ w' = if n = 0 then w else w.setCell ⟨b, o, none⟩ (.int .i64 ((n - 1 : Nat) : Int)) := by
  by_cases h0 : n = 0
  · subst h0
    go_enter Try.func177, Try.ntmps177
    go_wp2
    go_ret
    exact ⟨rfl, rfl⟩
  · have e1 : (n : Int) - 1 = ((n - 1 : Nat) : Int) := by omega
    have z1 : ((n : Int) == 0) = false := by rw [beq_eq_false_iff_ne]; omega
    by_cases h1 : n = 1
    · subst h1
      go_enter Try.func177, Try.ntmps177
      go_wp2
      go_ret
      exact ⟨rfl, rfl⟩
    · have z2 : (((n - 1 : Nat) : Int) == 0) = false := by rw [beq_eq_false_iff_ne]; omega
      have hr : decide (n = 1) = false := decide_eq_false h1
      have hif : (if n = 0 then w else w.setCell ⟨b, o, none⟩ (.int .i64 ((n - 1 : Nat) : Int))) = w.setCell ⟨b, o, none⟩ (.int .i64 ((n - 1 : Nat) : Int)) := if_neg h0
      rw [hr, hif]
      clear hif hr
      have z3 : ((n : Int) - 1 == 0) = false := by rw [beq_eq_false_iff_ne]; omega
      obtain ⟨m, hm⟩ : ∃ m, m = n - 1 := ⟨_, rfl⟩
      rw [← hm] at z2 e1 ⊢
      have E1 := Lib.hid e1
      clear hm e1 h0 h1
      go_enter Try.func177, Try.ntmps177
      go_wp2
      go_ret
      exact ⟨rfl, by rw [E1.out]⟩
end Go.Proofs.Ytocpppegmepolaa
