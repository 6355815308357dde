/- rig: Crash, New; calls of a nil rig. -/
import Derived.Test.YtocpppegmepolaaRj
set_option linter.unusedVariables false
set_option linter.unusedSimpArgs false
namespace Go.Proofs.Ytocpppegmepolaa
open Go.RowKit
attribute [local go_sem ↓] Go.wp_at_zero Go.wp_at_succ

structure LLoss where
  kv : Value
  keep : List Bool
  torn : Int
  by_ : Int
def LLoss.val (x : LLoss) : Value := .agg #[x.kv, .int .i64 x.torn, .int .i64 x.by_]
def LLoss.ok (x : LLoss) (S : Nat → Prop) (w : World) : Prop := SlR KBool S w x.kv x.keep ∧ i64 x.torn ∧ i64 x.by_
theorem LLoss.ok.kp {x : LLoss} {S : Nat → Prop} {w w' : World} (h : x.ok S w) (hk : Kp S w w') : x.ok S w' := ⟨h.1.kp hk fun _ _ h => h, h.2⟩
theorem LLoss.ok.no {x : LLoss} {S : Nat → Prop} {w w' : World} (h : x.ok S w) (hk : Kp No w w') : x.ok S w' := ⟨h.1.no hk, h.2⟩

theorem okD_crash {bs cs : List Blk} (h : CrashP bs cs) (hb : okD bs) : okD cs := by
  obtain ⟨h1, h2, _⟩ := h
  refine ⟨h1.trans hb.1, fun x hx => ?_⟩
  obtain ⟨j, hj, rfl⟩ := List.getElem_of_mem hx
  exact (h2 j hj (by omega) (by omega)).1
theorem crash_now {bs cs : List Blk} (h : CrashP bs cs) {i : Nat} (hi : i < bs.length) (hs : bs[i].is = false) : nowAt cs i = bs[i].now := by
  obtain ⟨h1, h2, _⟩ := h
  unfold nowAt
  rw [getD_at (by omega)]
  exact (h2 i (by omega) hi hi).2 hs
/-- What a crash makes of a rig. -/
def CrashR (σ σ' : RigS) : Prop := ∃ c0 c1, CrashP σ.d0 c0 ∧ CrashP σ.d1 c1 ∧ σ' = { σ with d0 := c0, d1 := c1, down := false, later := 0, arm := 0, fault := 0 }
theorem wf_crash {σ σ' : RigS} (h : CrashR σ σ') (hw : σ.wf) : σ'.wf ∧ σ'.reg = σ.reg ∧ σ'.calls = σ.calls := by
  obtain ⟨c0, c1, h0, h1, rfl⟩ := h
  exact ⟨⟨okD_crash h0 hw.1, okD_crash h1 hw.2.1, hw.2.2.1, hw.2.2.2.1, fun h => absurd h (Nat.lt_irrefl 0), Nat.zero_le _, Nat.zero_le _, Nat.zero_le _⟩, rfl, rfl⟩

section
variable {S : Nat → Prop} {p : Spots} {σ : RigS}
theorem RF_g0 (p : Spots) : RF p p.g0 := .inr (.inr (.inl rfl))
theorem RF_g1 (p : Spots) : RF p p.g1 := .inr (.inr (.inr (.inr rfl)))
set_option maxHeartbeats 2000000 in
theorem rcrash_ok (x y : LLoss) (w : World) (h : RigR S w p σ) (hw : σ.wf) (hx : x.ok (RF p) w) (hy : y.ok (RF p) w) :
    Calls Try.prog 32 #[.pointer (some ⟨p.b, 0, none⟩), x.val, y.val] w fun e w' => e = .returned (.int .i64 0) ∧ (∃ σ', RigR S w' p σ' ∧ CrashR σ σ') ∧ Kp (RF p) w w' := by
  obtain ⟨xv, xk, xt, xb⟩ := x
  obtain ⟨yv, yk, yt, yb⟩ := y
  obtain ⟨hx1, hx2, hx3⟩ := hx
  obtain ⟨hy1, hy2, hy3⟩ := hy
  dsimp only at hx1 hx2 hx3 hy1 hy2 hy3
  show Calls Try.prog 32 #[.pointer (some ⟨p.b, 0, none⟩), .agg #[xv, .int .i64 xt, .int .i64 xb], .agg #[yv, .int .i64 yt, .int .i64 yb]] w _
  obtain ⟨W, hW⟩ : ∃ W, W = (w.alloc (.cells #[xv, .int .i64 xt, .int .i64 xb] 32)).alloc (.cells #[yv, .int .i64 yt, .int .i64 yb] 32) := ⟨_, rfl⟩
  have hkW : Kp No w W := by rw [hW]; exact ((Kp.refl _ _).alloc _).alloc _
  obtain ⟨hb0, hb1⟩ : w.heap.size < W.heap.size ∧ w.heap.size + 1 < W.heap.size := by rw [hW]; simp; omega
  have u0 : W.cell? ⟨w.heap.size, 0, none⟩ = some xv := by rw [hW]; simp [go_sem]
  have u1 : W.cell? ⟨w.heap.size, 1, none⟩ = some (.int .i64 xt) := by rw [hW]; simp [go_sem]
  have u2 : W.cell? ⟨w.heap.size, 2, none⟩ = some (.int .i64 xb) := by rw [hW]; simp [go_sem]
  have v0 : W.cell? ⟨w.heap.size + 1, 0, none⟩ = some yv := by rw [hW]; simp [go_sem]
  have v1 : W.cell? ⟨w.heap.size + 1, 1, none⟩ = some (.int .i64 yt) := by rw [hW]; simp [go_sem]
  have v2 : W.cell? ⟨w.heap.size + 1, 2, none⟩ = some (.int .i64 yb) := by rw [hW]; simp [go_sem]
  have hR := h.no hkW
  have c0 : W.cell? ⟨p.b, 0, none⟩ = some (.pointer (some ⟨p.b0, 0, none⟩)) := hR.cl 0
  have c1 : W.cell? ⟨p.b, 1, none⟩ = some (.pointer (some ⟨p.b1, 0, none⟩)) := hR.cl 1
  have hfp := h.fp
  have nf : ∀ k, w.heap.size ≤ k → ¬ RF p k := fun k hk e => by have := (hfp k e).2; omega
  have hX := (hx1.no hkW).less (S' := fun k => k = p.g0) (fun k _ e => e ▸ RF_g0 p)
  have HC0 := dcrash_ok xv xk xt xb W.drew (hR.devS 0).dr (hX.no (Kp.dr _)) (by rw [show σ.dev 0 = σ.d0 from rfl, hw.1.1]; omega) (by rw [show σ.dev 0 = σ.d0 from rfl, hw.1.1]; omega) hw.1.2 hx2 hx3
  have HC0 : Hid (Calls Try.prog 128 #[.pointer (some ⟨p.b0, 0, none⟩), .agg #[xv, .int .i64 xt, .int .i64 xb]] W.drew fun e w' => e = .returned (.int .i64 0) ∧ (∃ cs, DevR S w' p.b0 p.g0 cs ∧ CrashP σ.d0 cs) ∧ Kp (fun k => k = p.g0) W.drew w') := Lib.hid HC0
  have HY := Lib.hid (hy1.no hkW)
  have HR := Lib.hid hR
  have HW := Lib.hid hW
  have HK := Lib.hid hkW
  have HWF := Lib.hid hw
  have g0u : ¬ (w.heap.size = p.g0) := fun e => nf w.heap.size (Nat.le_refl _) (by rw [e]; exact RF_g0 p)
  have g0v : ¬ (w.heap.size + 1 = p.g0) := fun e => nf (w.heap.size + 1) (Nat.le_succ _) (by rw [e]; exact RF_g0 p)
  have g0b : ¬ (p.b = p.g0) := fun e => h.ne.1.2 e.symm
  have g1v : ¬ (w.heap.size + 1 = p.g1) := fun e => nf (w.heap.size + 1) (Nat.le_succ _) (by rw [e]; exact RF_g1 p)
  have g1b : ¬ (p.b = p.g1) := fun e => h.ne.2.1.2 e.symm
  clear hx1 hx2 hx3 hy1 hW hkW hR hfp nf hX h hw
  go_enter Try.func32, Try.ntmps32
  go_wp2_with fail
  rw [← HW.out]
  go_region_held3 (fun w' => w'.cell? ⟨p.b, 0, none⟩ = some (.pointer (some ⟨p.b0, 0, none⟩)) ∧ w'.cell? ⟨w.heap.size, 0, none⟩ = some xv ∧ w'.cell? ⟨w.heap.size, 1, none⟩ = some (.int .i64 xt) ∧ w'.cell? ⟨w.heap.size, 2, none⟩ = some (.int .i64 xb)) (go_keep)
    ((go_at_call 128; refine HC0.out.mono ?_; rintro e w1 ⟨rfl, ⟨d0, hd1, hc1⟩, k1⟩; have e0 := k1.cell (a := ⟨p.b, 0, none⟩) c0 g0b; have e1 := k1.cell (a := ⟨w.heap.size, 0, none⟩) u0 g0u; have e2 := k1.cell (a := ⟨w.heap.size, 1, none⟩) u1 g0u; have e3 := k1.cell (a := ⟨w.heap.size, 2, none⟩) u2 g0u))
  have b1 := k1.cell (a := ⟨p.b, 1, none⟩) c1 g0b
  have y0 := k1.cell (a := ⟨w.heap.size + 1, 0, none⟩) v0 g0v
  have y1 := k1.cell (a := ⟨w.heap.size + 1, 1, none⟩) v1 g0v
  have y2 := k1.cell (a := ⟨w.heap.size + 1, 2, none⟩) v2 g0v
  have h1 := (HR.out.no (Kp.dr _)).devd 0 hd1 k1
  have k1' : Kp (RF p) W w1 := (Kp.dr W).no.trans' (Kp.rfd (d := 0) k1)
  have hY := (HY.out.kp k1' (fun _ _ h => h)).less (S' := fun k => k = p.g1) (fun k _ e => e ▸ RF_g1 p)
  have hok1 : okD (σ.setDev 0 d0).d1 := HWF.out.2.1
  have HC1 := dcrash_ok yv yk yt yb w1.drew (h1.devS 1).dr (hY.no (Kp.dr _)) (by rw [show (σ.setDev 0 d0).dev 1 = σ.d1 from rfl, HWF.out.2.1.1]; omega) (by rw [show (σ.setDev 0 d0).dev 1 = σ.d1 from rfl, HWF.out.2.1.1]; omega) HWF.out.2.1.2 hy2 hy3
  have HC1 : Hid (Calls Try.prog 128 #[.pointer (some ⟨p.b1, 0, none⟩), .agg #[yv, .int .i64 yt, .int .i64 yb]] w1.drew fun e w' => e = .returned (.int .i64 0) ∧ (∃ cs, DevR S w' p.b1 p.g1 cs ∧ CrashP σ.d1 cs) ∧ Kp (fun k => k = p.g1) w1.drew w') := Lib.hid HC1
  have H1 := Lib.hid h1
  have K1 := Lib.hid k1'
  have HCR0 := Lib.hid hc1
  clear h1 k1' hc1 hd1 k1 hY hok1 e0 e1 e2 e3 HC0
  go_wp2_with fail
  go_region_held3 (fun w' => w'.cell? ⟨p.b, 1, none⟩ = some (.pointer (some ⟨p.b1, 0, none⟩)) ∧ w'.cell? ⟨w.heap.size + 1, 0, none⟩ = some yv ∧ w'.cell? ⟨w.heap.size + 1, 1, none⟩ = some (.int .i64 yt) ∧ w'.cell? ⟨w.heap.size + 1, 2, none⟩ = some (.int .i64 yb)) (go_keep)
    ((go_at_call 128; refine HC1.out.mono ?_; rintro e w2 ⟨rfl, ⟨d1, hd2, hc2⟩, k2⟩; have e0 := k2.cell (a := ⟨p.b, 1, none⟩) b1 g1b; have e1 := k2.cell (a := ⟨w.heap.size + 1, 0, none⟩) y0 g1v; have e2 := k2.cell (a := ⟨w.heap.size + 1, 1, none⟩) y1 g1v; have e3 := k2.cell (a := ⟨w.heap.size + 1, 2, none⟩) y2 g1v))
  have h2 := (H1.out.no (Kp.dr _)).devd 1 hd2 k2
  have h2' : RigR S w2 p { σ with d0 := d0, d1 := d1 } := h2
  have k2' : Kp (RF p) w1 w2 := (Kp.dr w1).no.trans' (Kp.rfd (d := 1) k2)
  have a3 : w2.cell? ⟨p.b, 3, none⟩ = some (.bool σ.down) := h2'.cl 3
  have a5 : w2.cell? ⟨p.b, 5, none⟩ = some (.int .i64 σ.later) := h2'.cl 5
  have a6 : w2.cell? ⟨p.b, 6, none⟩ = some (.int .i64 σ.arm) := h2'.cl 6
  have a7 : w2.cell? ⟨p.b, 7, none⟩ = some (.int .i64 σ.fault) := h2'.cl 7
  have f3 := h2'.fr 3
  have f5 := h2'.fr 5
  have f6 := h2'.fr 6
  have f7 := h2'.fr 7
  have h3 := (((h2'.put 3 (.bool false) { σ with d0 := d0, d1 := d1, down := false } rfl rfl rfl).put 5 (.int .i64 0) { σ with d0 := d0, d1 := d1, down := false, later := 0 } rfl rfl rfl).put 6 (.int .i64 0) { σ with d0 := d0, d1 := d1, down := false, later := 0, arm := 0 } rfl rfl rfl).put 7 (.int .i64 0) { σ with d0 := d0, d1 := d1, down := false, later := 0, arm := 0, fault := 0 } rfl rfl rfl
  have H3 := Lib.hid h3
  have K2 := Lib.hid k2'
  have HCR1 := Lib.hid hc2
  clear h2 h2' k2' h3 hc2 hd2 k2 e0 e1 e2 e3 HC1
  go_wp2
  go_ret
  exact ⟨rfl, ⟨_, H3.out, d0, d1, HCR0.out, HCR1.out, rfl⟩, (HK.out.no.trans' (K1.out.trans' K2.out)).trans' (Kp.rfb (((((Kp.refl _ _).setAt _ _).setAt _ _).setAt _ _).setAt _ _))⟩

/-! New. -/
theorem I_rig : (Try.prog.info? 166).map (·.size) = some 11 := by kernel_rfl
def rig0 : RigS := ⟨zeros 96, false, 0, 0, 0, 0, 0, 0, ⟨#[]⟩, List.replicate 288 blk0, List.replicate 288 blk0⟩
theorem okD_blk0 : okD (List.replicate 288 blk0) := ⟨List.length_replicate, fun x hx => by rw [List.eq_of_mem_replicate hx]; exact ⟨zeros_size 64, zeros_size 64⟩⟩
theorem wf_rig0 : rig0.wf := ⟨okD_blk0, okD_blk0, by decide, by decide, fun h => absurd h (Nat.lt_irrefl 0), Nat.zero_le _, Nat.zero_le _, Nat.zero_le _⟩
theorem dnew_288 {S : Nat → Prop} (w : World) (hS : ∀ k, S k → k < w.heap.size) :
    Calls Try.prog 114 #[.int .i64 288] w fun e w' => ∃ b g, e = .returned (.tuple #[.pointer (some ⟨b, 0, none⟩), .int .i64 0]) ∧ DevR S w' b g (List.replicate 288 blk0) ∧ w.heap.size ≤ b ∧ w.heap.size ≤ g ∧ Kp No w w' :=
  dnew_ok 288 w (by omega) (by omega) hS
/-- A new rig: its blocks are new ones. -/
def NewRig (S : Nat → Prop) (w : World) (e : Ending) (w' : World) : Prop := ∃ p, e = .returned (.pointer (some ⟨p.b, 0, none⟩)) ∧ RigR S w' p rig0 ∧ (∀ k, RF p k → w.heap.size ≤ k) ∧ Kp No w w'
set_option maxRecDepth 100000 in
set_option maxHeartbeats 2000000 in
theorem rignew_ok (w : World) (hS : ∀ k, S k → k < w.heap.size) : Calls Try.prog 23 #[] w (NewRig S w) := by
  have hmz : ∀ W : World, (Instr.makeSlice 108 (.int .i64 96) (.int .i64 96)).run Try.prog W = .ok (.slice (some ⟨W.heap.size, 0, none⟩) 96 96) (W.alloc (.cells (mz 96) 5)) := mz_mk 96 (by omega)
  have hcv := mz_cv 96 w
  obtain ⟨z, hz⟩ : ∃ z, z = zeros 96 := ⟨_, rfl⟩
  rw [← hz] at hcv
  have HZ := Lib.hid hz
  clear hz
  go_enter Try.func23, Try.ntmps23
  go_wp2
  refine wp_loop_rounds 3 ?_
  rw [rounds_succ]
  obtain ⟨w0, hw0⟩ : ∃ w0, w0 = (w.alloc (.cells (mz 96) 5)).alloc (.cells #[.pointer none, .pointer none, .string z, .bool false, .int .i64 0, .int .i64 0, .int .i64 0, .int .i64 0, .int .i64 0, .int .i64 0, .string ⟨#[]⟩] 166) := ⟨_, rfl⟩
  have hk0 : Kp No w w0 := by rw [hw0]; exact ((Kp.refl _ _).alloc _).alloc _
  have hb0 : w0.heap[w.heap.size + 1]? = some (.cells #[.pointer none, .pointer none, .string z, .bool false, .int .i64 0, .int .i64 0, .int .i64 0, .int .i64 0, .int .i64 0, .int .i64 0, .string ⟨#[]⟩] 166 (0, 0)) := by
    rw [hw0]; have := heap_alloc_new (w.alloc (.cells (mz 96) 5)) (.cells #[.pointer none, .pointer none, .string z, .bool false, .int .i64 0, .int .i64 0, .int .i64 0, .int .i64 0, .int .i64 0, .int .i64 0, .string ⟨#[]⟩] 166); simpa using this
  obtain ⟨B, hB⟩ : ∃ B, B = w.heap.size + 1 := ⟨_, rfl⟩
  have hsz0 := blt hb0
  have HC0 := Lib.hid (dnew_288 (S := fun k => S k ∨ k = B) w0.drew (fun k hk => by show k < w0.heap.size; rcases hk with hk | hk; (have := hS k hk; have := hk0.size; omega); omega))
  rw [← hw0]
  rw [← hB] at hb0 hsz0 ⊢
  have hwB : w.heap.size < B := by omega
  have HB0 := Lib.hid hb0
  have HK0 := Lib.hid hk0
  have HS := Lib.hid hS
  clear hcv hmz hb0 hk0 hw0 hB hS
  go_wp2_with fail
  go_region_held3 (fun _ => True) (exact trivial) ((go_at_call 114; refine HC0.out.mono ?_; rintro e w1 ⟨b0, g0, rfl, hd0, hb0, hg0, k1⟩; have hB1 := k1.heap (b := B) HB0.out id; have x0 := cellOf hB1 0; have y0 := freeOf hB1 0; have HB1 := Lib.hid hB1; clear hB1))
  obtain ⟨W1, hW1⟩ : ∃ W1, W1 = w1.setCell ⟨B, 0, none⟩ (.pointer (some ⟨b0, 0, none⟩)) := ⟨_, rfl⟩
  have hbW1 : W1.heap[B]? = some (.cells #[.pointer (some ⟨b0, 0, none⟩), .pointer none, .string z, .bool false, .int .i64 0, .int .i64 0, .int .i64 0, .int .i64 0, .int .i64 0, .int .i64 0, .string ⟨#[]⟩] 166 (0, 0)) := by rw [hW1, heap_set HB1.out]; rfl
  have hdW1 : DevR (fun k => S k ∨ k = B) W1 b0 g0 (List.replicate 288 blk0) := by rw [hW1]; exact hd0.move fun k _ hn => ⟨hn, Below.heap_setCell w1 _ _ k fun e => hn (.inr e)⟩
  have hkW1 : Kp No w W1 := by rw [hW1]; exact ((HK0.out.drew).trans' k1).setCell (p := ⟨B, 0, none⟩) (.inr (Nat.le_of_lt hwB)) _
  have hlt := hdW1.lt
  have hn0 : b0 ≠ B ∧ g0 ≠ B := ⟨fun e => by obtain ⟨_, _, _, _, q, _⟩ := hdW1; exact q (.inr e), fun e => by obtain ⟨_, _, _, _, _, q⟩ := hdW1; exact q (.inr e)⟩
  have hwb : w.heap.size ≤ b0 ∧ w.heap.size ≤ g0 := by have h1 := hb0; have h2 := hg0; have h3 : w0.drew.heap.size = w0.heap.size := rfl; omega
  have hBs := blt hbW1
  have hws := hkW1.size
  have HC1 := Lib.hid (dnew_288 (S := fun k => S k ∨ k = B ∨ k = b0 ∨ k = g0) W1.drew (fun k hk => by show k < W1.heap.size; rcases hk with hk | hk | hk | hk; (have := HS.out k hk; omega); omega; (have := hlt.1; omega); (have := hlt.2; omega)))
  rw [← hW1]
  have HBW1 := Lib.hid hbW1
  have HDW1 := Lib.hid hdW1
  have HKW1 := Lib.hid hkW1
  clear hbW1 hdW1 hkW1 hd0 k1 x0 y0 HC0 HB0 HK0 HB1 hW1
  go_wp2_with fail
  rw [rounds_succ]
  go_wp2_with fail
  go_region_held3 (fun _ => True) (exact trivial) ((go_at_call 114; refine HC1.out.mono ?_; rintro e w2 ⟨b1, g1, rfl, hd1, hb1, hg1, k2⟩; have hB2 := k2.heap (b := B) HBW1.out id; have x0 := cellOf hB2 1; have y0 := freeOf hB2 1; have HB2 := Lib.hid hB2; clear hB2))
  obtain ⟨W2, hW2⟩ : ∃ W2, W2 = w2.setCell ⟨B, 1, none⟩ (.pointer (some ⟨b1, 0, none⟩)) := ⟨_, rfl⟩
  have hbW2 : W2.heap[B]? = some (.cells #[.pointer (some ⟨b0, 0, none⟩), .pointer (some ⟨b1, 0, none⟩), .string z, .bool false, .int .i64 0, .int .i64 0, .int .i64 0, .int .i64 0, .int .i64 0, .int .i64 0, .string ⟨#[]⟩] 166 (0, 0)) := by rw [hW2, heap_set HB2.out]; rfl
  have hdW2 : DevR (fun k => S k ∨ k = B ∨ k = b0 ∨ k = g0) W2 b1 g1 (List.replicate 288 blk0) := by rw [hW2]; exact hd1.move fun k _ hn => ⟨hn, Below.heap_setCell w2 _ _ k fun e => hn (.inr (.inl e))⟩
  have hd0W2 : DevR (fun k => S k ∨ k = B ∨ k = b1 ∨ k = g1) W2 b0 g0 (List.replicate 288 blk0) := by
    have hq : b1 ≠ b0 ∧ b1 ≠ g0 ∧ g1 ≠ b0 ∧ g1 ≠ g0 := by
      obtain ⟨_, _, _, _, q1, q2⟩ := hdW2
      exact ⟨fun e => q1 (.inr (.inr (.inl e))), fun e => q1 (.inr (.inr (.inr e))), fun e => q2 (.inr (.inr (.inl e))), fun e => q2 (.inr (.inr (.inr e)))⟩
    obtain ⟨c, a1, a2, a3, a4, a5⟩ := HDW1.out.no ((Kp.dr W1).trans' k2)
    rw [hW2]
    exact ⟨c, heap_set_far a1 (p := ⟨B, 1, none⟩) hn0.1 _, a2.far KBlk_flat (p := ⟨B, 1, none⟩) (fun k e => by obtain rfl : g0 = k := (by simpa [Value.ownBlock] using e); exact hn0.2) _, a3, fun x => by rcases x with x | x | x | x; exact a4 (.inl x); exact a4 (.inr x); exact hq.1 x.symm; exact hq.2.2.1 x.symm, fun x => by rcases x with x | x | x | x; exact a5 (.inl x); exact a5 (.inr x); exact hq.2.1 x.symm; exact hq.2.2.2 x.symm⟩
  have hkW2 : Kp No w W2 := by rw [hW2]; exact ((HKW1.out.drew).trans' k2).setCell (p := ⟨B, 1, none⟩) (.inr (Nat.le_of_lt hwB)) _
  have hwb1 : w.heap.size ≤ b1 ∧ w.heap.size ≤ g1 := by have h1 := hb1; have h2 := hg1; have h3 : W1.drew.heap.size = W1.heap.size := rfl; omega
  rw [← hW2]
  have HBW2 := Lib.hid hbW2
  have HDW2 := Lib.hid hdW2
  have HD0W2 := Lib.hid hd0W2
  have HKW2 := Lib.hid hkW2
  clear hbW2 hdW2 hd0W2 hkW2 hd1 k2 x0 y0 HC1 HBW1 HDW1 HKW1 HB2 hW2
  go_wp2_with fail
  rw [rounds_succ]
  go_wp2_with fail
  go_ret
  refine ⟨⟨B, b0, g0, b1, g1⟩, rfl, ⟨?_, fun x => by have := HS.out _ x; have h' : B < w.heap.size := this; omega, HD0W2.out, HDW2.out⟩, ?_, HKW2.out⟩
  · have := HBW2.out
    rw [HZ.out] at this
    exact this
  · intro k hk
    rcases hk with rfl | rfl | rfl | rfl | rfl
    · exact Nat.le_of_lt hwB
    · exact hwb.1
    · exact hwb.2
    · exact hwb1.1
    · exact hwb1.2
end
end Go.Proofs.Ytocpppegmepolaa
