/- rig: Read, Write, Flush. -/
import Derived.Test.YtocpppegmepolaaRg
import Derived.Shelf.Abstract
set_option linter.unusedVariables false
set_option linter.unusedSimpArgs false
namespace Go.Proofs.Ytocpppegmepolaa
open Go.RowKit
attribute [local go_sem ↓] Go.wp_at_zero Go.wp_at_succ

theorem DevR.frame {S : Nat → Prop} {w w' : World} {b g : Nat} {bs : List Blk} (h : DevR S w b g bs) (hb : w'.heap[b]? = w.heap[b]?) (hg : w'.heap[g]? = w.heap[g]?) : DevR S w' b g bs := by
  obtain ⟨c, h1, h2, h3, h4, h5⟩ := h
  exact ⟨c, hb.trans h1, h2.flat KBlk_flat (fun k e => by obtain rfl : g = k := (by simpa [Value.ownBlock] using e); exact hg), h3, h4, h5⟩
section
variable {S : Nat → Prop} {w w' : World} {p : Spots} {σ : RigS}
theorem RigR.frame (h : RigR S w p σ) (hm : ∀ k, RF p k → w'.heap[k]? = w.heap[k]?) : RigR S w' p σ :=
  ⟨(hm _ (.inl rfl)).trans h.1, h.2.1, h.2.2.1.frame (hm _ (.inr (.inl rfl))) (hm _ (.inr (.inr (.inl rfl)))), h.2.2.2.frame (hm _ (.inr (.inr (.inr (.inl rfl))))) (hm _ (.inr (.inr (.inr (.inr rfl)))))⟩
theorem RigR.far (h : RigR S w p σ) {a : Addr} (ha : ¬ RF p a.block) (u : Value) : RigR S (w.setCell a u) p σ :=
  h.frame fun k hk => Below.heap_setCell w a u k fun e => ha (e ▸ hk)
theorem RigR.ptr (h : RigR S w p σ) {d : Nat} (hd : d < 2) : w.cell? ⟨p.b, d, none⟩ = some (.pointer (some ⟨p.db d, 0, none⟩)) := by
  rcases (by omega : d = 0 ∨ d = 1) with rfl | rfl
  · exact h.cl 0
  · exact h.cl 1
theorem RF.ne_dg (h : RigR S w p σ) (d : Nat) : ¬ (p.b = p.dg d) := by
  unfold Spots.dg; split
  · exact fun e => h.ne.1.2 e.symm
  · exact fun e => h.ne.2.1.2 e.symm
end

section
variable {S : Nat → Prop} {p : Spots} {σ : RigS}
def nowAt (bs : List Blk) (i : Nat) : ByteArray := (bs.getD i blk0).now

def Read1Post (S : Nat → Prop) (W : World) (p : Spots) (σ : RigS) (bs : Nat) (s : ByteArray) (n : Int) (W' : World) : Prop :=
  n = 0 ∧ RigR S W' p σ ∧ W'.cell? ⟨bs, 0, none⟩ = some (.string s) ∧ Kp (fun k => k = bs) W W'
set_option maxHeartbeats 1000000 in
theorem read1_any (d i br bd bi bs : Nat) (s0 : ByteArray) (W : World) (h : RigR S W p σ) (hw : σ.wf) (hd : d < 2) (hi : i < 288)
    (c1 : W.cell? ⟨br, 0, none⟩ = some (.pointer (some ⟨p.b, 0, none⟩))) (c2 : W.cell? ⟨bd, 0, none⟩ = some (.int .i64 d)) (c3 : W.cell? ⟨bi, 0, none⟩ = some (.int .i64 i)) (c4 : W.cell? ⟨bs, 0, none⟩ = some (.string s0)) (f4 : W.frozen? ⟨bs, 0, none⟩ = false) (hbs : ¬ RF p bs) (n1 : br ≠ bs) (n2 : bd ≠ bs) (n3 : bi ≠ bs) :
    Calls Try.prog 140 #[.pointer (some ⟨br, 0, none⟩), .pointer (some ⟨bd, 0, none⟩), .pointer (some ⟨bi, 0, none⟩), .pointer (some ⟨bs, 0, none⟩)] W (RetI (Read1Post S W p σ bs (nowAt (σ.dev d) i))) := by
  have cp := h.ptr hd
  have hok := wf_dev hw d
  have hil : i < (σ.dev d).length := by rw [hok.1]; exact hi
  have HR := dread_ok i W.drew (h.devS d).dr hil
  rw [show (σ.dev d)[i].now = nowAt (σ.dev d) i from by unfold nowAt; rw [getD_at hil]] at HR
  obtain ⟨s, hs⟩ : ∃ s, s = nowAt (σ.dev d) i := ⟨_, rfl⟩
  rw [← hs] at HR ⊢
  obtain ⟨q, hq⟩ : ∃ q, q = p.db d := ⟨_, rfl⟩
  rw [← hq] at HR cp
  have HR := Lib.hid HR
  have HH := Lib.hid h
  have HB := Lib.hid hbs
  have n4 : bs ≠ p.b := fun e => hbs (.inl e)
  have n1' := n1.symm
  have n2' := n2.symm
  have n3' := n3.symm
  have i0 : (0 : Int) ≤ (d : Int) := by omega
  have i1 : (d : Int) < 2 := by omega
  have hb4 := World.block_lt_of_cell? W _ c4
  have hcs : (W.setCell ⟨bs, 0, none⟩ (.string s)).cell? ⟨bs, 0, none⟩ = some (.string s) := World.cell?_setCell_same' W _ _ (by rw [c4]; rfl)
  have HCS := Lib.hid hcs
  clear hok hil hs hq hw h hbs hcs
  go_enter Try.func140, Try.ntmps140
  go_wp2
  go_region_held3 (fun w' => w'.cell? ⟨br, 0, none⟩ = some (.pointer (some ⟨p.b, 0, none⟩)) ∧ w'.cell? ⟨bd, 0, none⟩ = some (.int .i64 d) ∧ w'.cell? ⟨bi, 0, none⟩ = some (.int .i64 i) ∧ w'.cell? ⟨p.b, d, none⟩ = some (.pointer (some ⟨q, 0, none⟩))) (go_keep)
    ((go_at_call 141; refine HR.out.mono ?_; rintro e w1 ⟨rfl, rfl⟩))
  go_wp2
  go_ret
  exact ⟨0, rfl, rfl, ((HH.out.far HB.out _).no (Kp.dr _)), HCS.out, ((Kp.refl _ _).setAt _ _).drew⟩

theorem eg_read : ∀ args w, (callFunc 140 args).run Try.prog w = .ok (.enter 140 args) w := enters_of Try.func140 (by kernel_rfl) rfl
theorem eg_write : ∀ args w, (callFunc 142 args).run Try.prog w = .ok (.enter 142 args) w := enters_of Try.func142 (by kernel_rfl) rfl
theorem eg_flush : ∀ args w, (callFunc 144 args).run Try.prog w = .ok (.enter 144 args) w := enters_of Try.func144 (by kernel_rfl) rfl
theorem eg_reg : ∀ args w, (callFunc 127 args).run Try.prog w = .ok (.enter 127 args) w := enters_of Try.func127 (by kernel_rfl) rfl
theorem eg_setreg : ∀ args w, (callFunc 117 args).run Try.prog w = .ok (.enter 117 args) w := enters_of Try.func117 (by kernel_rfl) rfl

/-- What Read tells. -/
def RigS.rd (σ : RigS) (d i : Nat) : ByteArray := if σ.stepE = 0 then nowAt (σ.step.dev d) i else ⟨#[]⟩
def ReadQ (S : Nat → Prop) (W : World) (p : Spots) (σ : RigS) (bs : Nat) (s : ByteArray) (n : Int) (W' : World) : Prop :=
  n = σ.stepE ∧ RigR S W' p σ.step ∧ W'.cell? ⟨bs, 0, none⟩ = some (.string s) ∧ Kp (fun k => RF p k ∨ k = bs) W W'

set_option maxHeartbeats 1000000 in
theorem rread_ok (d i : Nat) (w : World) (h : RigR S w p σ) (hw : σ.wf) (hc : σ.calls ≤ 1000000000) (hd : d < 2) (hi : i < 288) :
    Calls Try.prog 40 #[.pointer (some ⟨p.b, 0, none⟩), .int .i64 d, .int .i64 i] w fun e w' => e = .returned (.tuple #[.string (σ.rd d i), .int .i64 σ.stepE]) ∧ RigR S w' p σ.step ∧ Kp (RF p) w w' := by
  have hm := rmay_ok hd hi
  obtain ⟨W, hW⟩ : ∃ W, W = (((w.alloc (.cells #[.pointer (some ⟨p.b, 0, none⟩)] 23)).alloc (.cells #[.int .i64 d] 3)).alloc (.cells #[.int .i64 i] 3)).alloc (.cells #[.string ⟨#[]⟩] 9) := ⟨_, rfl⟩
  have hkW : Kp No w W := by rw [hW]; exact ((((Kp.refl _ _).alloc _).alloc _).alloc _).alloc _
  have c1 : W.cell? ⟨w.heap.size, 0, none⟩ = some (.pointer (some ⟨p.b, 0, none⟩)) := by rw [hW]; simp [go_sem]
  have c2 : W.cell? ⟨w.heap.size + 1, 0, none⟩ = some (.int .i64 d) := by rw [hW]; simp [go_sem]
  have c3 : W.cell? ⟨w.heap.size + 1 + 1, 0, none⟩ = some (.int .i64 i) := by rw [hW]; simp [go_sem]
  have c4 : W.cell? ⟨w.heap.size + 1 + 1 + 1, 0, none⟩ = some (.string ⟨#[]⟩) := by rw [hW]; simp [go_sem]
  have f4 : W.frozen? ⟨w.heap.size + 1 + 1 + 1, 0, none⟩ = false := by rw [hW]; simp [go_sem]
  have hsz : w.heap.size + 1 + 1 + 1 < W.heap.size := by rw [hW]; simp
  have hR := h.no hkW
  have hfp := h.fp
  have nf : ∀ k, w.heap.size ≤ k → ¬ RF p k := fun k hk x => by have := (hfp k x).2; omega
  have HS := step_any (S := S) (p := p) 140 eg_read #[] #[.pointer (some ⟨w.heap.size, 0, none⟩), .pointer (some ⟨w.heap.size + 1, 0, none⟩), .pointer (some ⟨w.heap.size + 1 + 1, 0, none⟩), .pointer (some ⟨w.heap.size + 1 + 1 + 1, 0, none⟩)]
    (ReadQ S W p σ (w.heap.size + 1 + 1 + 1) (σ.rd d i)) W hR hw hc
    (fun he W2 h2 k2 => ⟨rfl, h2, by rw [show σ.rd d i = ⟨#[]⟩ from if_neg he]; exact k2.cell c4 (nf _ (by show _ ≤ w.heap.size + 1 + 1 + 1; omega)), k2.mono fun _ _ x => .inl x⟩)
    (fun he W2 h2 k2 => by
      rw [Array.empty_append]
      refine (read1_any d i _ _ _ _ ⟨#[]⟩ W2 h2 (wf_step hw) hd hi (k2.cell c1 (nf _ (by show _ ≤ w.heap.size; omega))) (k2.cell c2 (nf _ (by show _ ≤ w.heap.size + 1; omega))) (k2.cell c3 (nf _ (by show _ ≤ w.heap.size + 1 + 1; omega))) (k2.cell c4 (nf _ (by show _ ≤ w.heap.size + 1 + 1 + 1; omega))) ((k2.frozen (a := ⟨w.heap.size + 1 + 1 + 1, 0, none⟩) hsz (nf _ (by show _ ≤ w.heap.size + 1 + 1 + 1; omega))).trans f4) (nf _ (by omega)) (by omega) (by omega) (by omega)).mono ?_
      rintro e W3 ⟨n, rfl, rfl, h3, hc3, k3⟩
      exact ⟨0, rfl, he.symm, h3, by rw [show σ.rd d i = nowAt (σ.step.dev d) i from if_pos he]; exact hc3, (k2.mono fun _ _ x => .inl x).trans k3 fun _ _ x => .inr x⟩)
  have HS := Lib.hid HS
  have HM := Lib.hid hm
  have HW := Lib.hid hW
  have HK := Lib.hid hkW
  clear hm hW hkW c1 c2 c3 c4 f4 hR h hw hfp nf hsz
  go_enter Try.func40, Try.ntmps40
  go_wp2_with (go_at_call 139; refine (rmay_any _ _ _ _).mono ?_; rintro e w' ⟨rfl, rfl⟩; rw [HM.out])
  rw [← HW.out]
  refine HS.out.mono ?_
  rintro e w2 ⟨n, rfl, rfl, h2, hc2, k2⟩
  have H2 := Lib.hid h2
  have K2 := Lib.hid k2
  clear h2 k2 HS
  go_wp2
  go_ret2
  exact ⟨rfl, H2.out, HK.out.no.trans K2.out (fun k hk x => by rcases x with x | x; exact x; omega)⟩
end
end Go.Proofs.Ytocpppegmepolaa
