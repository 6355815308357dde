/- the reference of layer 12: New, Crash. -/
import Derived.Test.YtocpppegmepolaaRq
set_option linter.unusedVariables false
set_option linter.unusedSimpArgs false
namespace Go.Proofs.Ytocpppegmepolaa
open Go.RowKit
attribute [local go_sem ↓] Go.wp_at_zero Go.wp_at_succ
section
variable {S : Nat → Prop} {w w' : World} {p : Spots} {σ : RigS}
def RNewP (S : Nat → Prop) (w : World) (e : Ending) (w' : World) : Prop := ∃ p σ, e = .returned (.pointer (some ⟨p.b, 0, none⟩)) ∧ RR S w' p σ ∧ σ.rwf ∧ σ.calls = 0 ∧ (∀ k, RFr p k → w.heap.size ≤ k) ∧ Kp No w w'
set_option maxRecDepth 100000 in
set_option maxHeartbeats 2000000 in
theorem rnew_any (w : World) (hS : Up S w) : Calls Try.prog 26 #[] w (RNewP S w) := by
  have HS := Lib.hid hS
  obtain ⟨z, hz⟩ : ∃ z, z = zeros 96 := ⟨_, rfl⟩
  have HZ : Hid (∀ W, Calls Try.prog 25 #[.int .i64 96] W fun e w' => e = .returned (.string z) ∧ Kp No W w') := Lib.hid fun W => by rw [hz]; exact zeros_96 W
  clear hS hz
  go_enter Try.func26, Try.ntmps26
  go_wp2_with fail
  refine (rdnew_any (S := S) w HS.out).mono ?_
  rintro e w1 ⟨d0, rfl, h0, hd0, k1⟩
  have hl0 := h0.lt
  have H0 := Lib.hid h0
  have K1 := Lib.hid k1
  have hs1 := k1.size
  clear h0 k1
  go_wp2_with fail
  refine (rdnew_any (S := fun k => S k ∨ k = d0) w1 (fun k hk => by rcases hk with hk | rfl; exact Nat.lt_of_lt_of_le (HS.out k hk) hs1; exact hl0.1)).mono ?_
  rintro e w2 ⟨d1, rfl, h1, hd1, k2⟩
  have H1 := Lib.hid h1
  have K2 := Lib.hid k2
  have hs2 := k2.size
  have hl1 := h1.lt
  clear h1 k2
  go_wp2_with fail
  refine (HZ.out _).mono ?_
  rintro e w3 ⟨rfl, k3⟩
  have K3 := Lib.hid k3
  have hs3 := k3.size
  clear k3
  go_wp2
  go_ret
  have kal : Kp No w3 (w3.alloc (.cells #[.pointer (some ⟨d0, 0, none⟩), .pointer (some ⟨d1, 0, none⟩), .string z, .bool false, .int .i64 0, .int .i64 0, .int .i64 0, .int .i64 0, .int .i64 0, .int .i64 0, .string ⟨#[]⟩] 174)) := (Kp.refl _ _).alloc _
  refine ⟨⟨w3.heap.size, d0, 0, d1, 0⟩, ⟨z, false, 0, 0, 0, 0, 0, 0, ⟨#[]⟩, [], []⟩, rfl, ⟨heap_new w3 _, fun x => by have := HS.out _ x; have h' : w3.heap.size < w.heap.size := this; omega, ?_, ?_, ?_⟩, ⟨by show 0 < 2; omega, by show 0 < 288; omega, fun h => absurd h (Nat.lt_irrefl 0), Nat.zero_le _, Nat.zero_le _, Nat.zero_le _⟩, rfl, ?_, ((K1.out.trans' K2.out).trans' K3.out).trans' kal⟩
  · refine H0.out.move fun k hk hn => ⟨fun x => ?_, ((K2.out.trans' K3.out).trans' kal).block k hk id⟩
    rcases x with x | x | x
    · exact hn x
    · have h' : k = w3.heap.size := x; omega
    · have h' : k = d1 := x; omega
  · refine H1.out.move fun k hk hn => ⟨fun x => ?_, (K3.out.trans' kal).block k hk id⟩
    rcases x with x | x | x
    · exact hn (.inl x)
    · have h' : k = w3.heap.size := x; omega
    · exact hn (.inr x)
  · show d0 ≠ d1; omega
  · intro k hk
    rcases hk with h | h | h
    · have h' : k = w3.heap.size := h; omega
    · have h' : k = d0 := h; omega
    · have h' : k = d1 := h; omega

/-- What a crash of the reference leaves. -/
def RCrashP (S : Nat → Prop) (w : World) (p : Spots) (σ : RigS) (e : Ending) (w' : World) : Prop := ∃ σ', e = .returned (.tuple #[]) ∧ RR S w' p σ' ∧ σ'.rwf ∧ σ'.calls = σ.calls ∧ Kp (RFr p) w w'
set_option maxHeartbeats 2000000 in
theorem rcrash2_any (x y : LLoss) (h : RR S w p σ) (hw : σ.rwf) (hx : x.ok (fun k => S k ∨ RFr p k) w) (hy : y.ok (fun k => S k ∨ RFr p k) w) (hS : Up S w) :
    Calls Try.prog 125 #[.pointer (some ⟨p.b, 0, none⟩), x.val, y.val] w (RCrashP S w p σ) := by
  obtain ⟨xv, xk, xt, xb⟩ := x
  obtain ⟨yv, yk, yt, yb⟩ := y
  show Calls Try.prog 125 #[.pointer (some ⟨p.b, 0, none⟩), .agg #[xv, .int .i64 xt, .int .i64 xb], .agg #[yv, .int .i64 yt, .int .i64 yb]] w _
  obtain ⟨W, hW⟩ : ∃ W, W = (w.alloc (.cells #[xv, .int .i64 xt, .int .i64 xb] 32)).alloc (.cells #[yv, .int .i64 yt, .int .i64 yb] 32) := ⟨_, rfl⟩
  have hkW : Kp No w W := by rw [hW]; exact ((Kp.refl _ _).alloc _).alloc _
  obtain ⟨hb0, hb1⟩ : w.heap.size < W.heap.size ∧ w.heap.size + 1 < W.heap.size := by rw [hW]; simp; omega
  have u0 : W.cell? ⟨w.heap.size, 0, none⟩ = some xv := by rw [hW]; simp [go_sem]
  have u1 : W.cell? ⟨w.heap.size, 1, none⟩ = some (.int .i64 xt) := by rw [hW]; simp [go_sem]
  have u2 : W.cell? ⟨w.heap.size, 2, none⟩ = some (.int .i64 xb) := by rw [hW]; simp [go_sem]
  have v0 : W.cell? ⟨w.heap.size + 1, 0, none⟩ = some yv := by rw [hW]; simp [go_sem]
  have v1 : W.cell? ⟨w.heap.size + 1, 1, none⟩ = some (.int .i64 yt) := by rw [hW]; simp [go_sem]
  have v2 : W.cell? ⟨w.heap.size + 1, 2, none⟩ = some (.int .i64 yb) := by rw [hW]; simp [go_sem]
  have hR := h.no hkW
  have c0 : W.cell? ⟨p.b, 0, none⟩ = some (.pointer (some ⟨p.b0, 0, none⟩)) := hR.cl 0
  have c1 : W.cell? ⟨p.b, 1, none⟩ = some (.pointer (some ⟨p.b1, 0, none⟩)) := hR.cl 1
  have nf : ∀ k, w.heap.size ≤ k → ¬ RFr p k := fun k hk e => by have := (h.lt k e).1; omega
  have hSW : Up S W := hS.le hkW.size
  have hxW : LLoss.ok ⟨xv, xk, xt, xb⟩ (fun k => (S k ∨ k = p.b ∨ k = p.b1) ∨ k = p.b0) W.drew := by
    refine ⟨((hx.1.no hkW).no (Kp.dr _)).less fun k _ e => ?_, hx.2⟩
    rcases e with (e | e | e) | e
    · exact .inl e
    · exact .inr (.inl e)
    · exact .inr (.inr (.inr e))
    · exact .inr (.inr (.inl e))
  have HC0 : Hid (Calls Try.prog 182 #[.pointer (some ⟨p.b0, 0, none⟩), .agg #[xv, .int .i64 xt, .int .i64 xb]] W.drew fun e w' => e = .returned (.tuple #[]) ∧ RD (fun k => S k ∨ k = p.b ∨ k = p.b1) w' p.b0 ∧ Kp (fun k => k = p.b0) W.drew w') :=
    Lib.hid (rdcrash_any ⟨xv, xk, xt, xb⟩ (hR.2.2.1.no (Kp.dr _)) hxW (hR.up0 hSW))
  have HY := Lib.hid hy
  have HR := Lib.hid hR
  have HW := Lib.hid hW
  have HK := Lib.hid hkW
  have HWF := Lib.hid hw
  have HSW := Lib.hid hSW
  have g0u : ¬ (w.heap.size = p.b0) := fun e => nf w.heap.size (Nat.le_refl _) (by rw [e]; exact .inr (.inl rfl))
  have g0v : ¬ (w.heap.size + 1 = p.b0) := fun e => nf (w.heap.size + 1) (Nat.le_succ _) (by rw [e]; exact .inr (.inl rfl))
  have g0b : ¬ (p.b = p.b0) := fun e => h.ne.1 e.symm
  have g1v : ¬ (w.heap.size + 1 = p.b1) := fun e => nf (w.heap.size + 1) (Nat.le_succ _) (by rw [e]; exact .inr (.inr rfl))
  have g1b : ¬ (p.b = p.b1) := fun e => h.ne.2.1 e.symm
  clear hx hy hW hkW hR nf h hw hSW hxW hS
  go_enter Try.func125, Try.ntmps125
  go_wp2_with fail
  rw [← HW.out]
  go_region_held3 (fun w' => w'.cell? ⟨p.b, 0, none⟩ = some (.pointer (some ⟨p.b0, 0, none⟩)) ∧ w'.cell? ⟨w.heap.size, 0, none⟩ = some xv ∧ w'.cell? ⟨w.heap.size, 1, none⟩ = some (.int .i64 xt) ∧ w'.cell? ⟨w.heap.size, 2, none⟩ = some (.int .i64 xb)) (go_keep)
    ((go_at_call 182; refine HC0.out.mono ?_; rintro e w1 ⟨rfl, hd1, k1⟩; have e0 := k1.cell (a := ⟨p.b, 0, none⟩) c0 g0b; have e1 := k1.cell (a := ⟨w.heap.size, 0, none⟩) u0 g0u; have e2 := k1.cell (a := ⟨w.heap.size, 1, none⟩) u1 g0u; have e3 := k1.cell (a := ⟨w.heap.size, 2, none⟩) u2 g0u))
  have b1 := k1.cell (a := ⟨p.b, 1, none⟩) c1 g0b
  have y0 := k1.cell (a := ⟨w.heap.size + 1, 0, none⟩) v0 g0v
  have y1 := k1.cell (a := ⟨w.heap.size + 1, 1, none⟩) v1 g0v
  have y2 := k1.cell (a := ⟨w.heap.size + 1, 2, none⟩) v2 g0v
  have h1 := (HR.out.no (Kp.dr _)).dev0 hd1 k1
  have k1' : Kp (RFr p) W w1 := (Kp.dr W).no.trans' (Kp.rr0 k1)
  have hyW : LLoss.ok ⟨yv, yk, yt, yb⟩ (fun k => (S k ∨ k = p.b ∨ k = p.b0) ∨ k = p.b1) w1.drew := by
    refine ⟨(((HY.out.1.no HK.out).kp k1' (fun _ _ h => .inr h)).no (Kp.dr _)).less fun k _ e => ?_, HY.out.2⟩
    rcases e with (e | e | e) | e
    · exact .inl e
    · exact .inr (.inl e)
    · exact .inr (.inr (.inl e))
    · exact .inr (.inr (.inr e))
  have HC1 : Hid (Calls Try.prog 182 #[.pointer (some ⟨p.b1, 0, none⟩), .agg #[yv, .int .i64 yt, .int .i64 yb]] w1.drew fun e w' => e = .returned (.tuple #[]) ∧ RD (fun k => S k ∨ k = p.b ∨ k = p.b0) w' p.b1 ∧ Kp (fun k => k = p.b1) w1.drew w') :=
    Lib.hid (rdcrash_any ⟨yv, yk, yt, yb⟩ (h1.2.2.2.1.no (Kp.dr _)) hyW (h1.up1 (HSW.out.le k1'.size)))
  have H1 := Lib.hid h1
  have K1 := Lib.hid k1'
  clear h1 k1' hd1 k1 hyW e0 e1 e2 e3 HC0
  go_wp2_with fail
  go_region_held3 (fun w' => w'.cell? ⟨p.b, 1, none⟩ = some (.pointer (some ⟨p.b1, 0, none⟩)) ∧ w'.cell? ⟨w.heap.size + 1, 0, none⟩ = some yv ∧ w'.cell? ⟨w.heap.size + 1, 1, none⟩ = some (.int .i64 yt) ∧ w'.cell? ⟨w.heap.size + 1, 2, none⟩ = some (.int .i64 yb)) (go_keep)
    ((go_at_call 182; refine HC1.out.mono ?_; rintro e w2 ⟨rfl, hd2, k2⟩; have e0 := k2.cell (a := ⟨p.b, 1, none⟩) b1 g1b; have e1 := k2.cell (a := ⟨w.heap.size + 1, 0, none⟩) y0 g1v; have e2 := k2.cell (a := ⟨w.heap.size + 1, 1, none⟩) y1 g1v; have e3 := k2.cell (a := ⟨w.heap.size + 1, 2, none⟩) y2 g1v))
  have h2' := (H1.out.no (Kp.dr _)).dev1 hd2 k2
  have k2' : Kp (RFr p) w1 w2 := (Kp.dr w1).no.trans' (Kp.rr1 k2)
  have a3 : w2.cell? ⟨p.b, 3, none⟩ = some (.bool σ.down) := h2'.cl 3
  have a5 : w2.cell? ⟨p.b, 5, none⟩ = some (.int .i64 σ.later) := h2'.cl 5
  have a6 : w2.cell? ⟨p.b, 6, none⟩ = some (.int .i64 σ.arm) := h2'.cl 6
  have a7 : w2.cell? ⟨p.b, 7, none⟩ = some (.int .i64 σ.fault) := h2'.cl 7
  have f3 := h2'.fr 3
  have f5 := h2'.fr 5
  have f6 := h2'.fr 6
  have f7 := h2'.fr 7
  have h3 := (((h2'.put 3 (.bool false) { σ with down := false } rfl).put 5 (.int .i64 0) { σ with down := false, later := 0 } rfl).put 6 (.int .i64 0) { σ with down := false, later := 0, arm := 0 } rfl).put 7 (.int .i64 0) { σ with down := false, later := 0, arm := 0, fault := 0 } rfl
  have H3 := Lib.hid h3
  have K2 := Lib.hid k2'
  clear h2' k2' h3 hd2 k2 e0 e1 e2 e3 HC1
  go_wp2
  go_end0
  exact ⟨_, rfl, H3.out, ⟨HWF.out.1, HWF.out.2.1, fun h => absurd h (Nat.lt_irrefl 0), Nat.zero_le _, Nat.zero_le _, Nat.zero_le _⟩, rfl, (HK.out.no.trans' (K1.out.trans' K2.out)).trans' (Kp.rr (((((Kp.refl _ _).setAt _ _).setAt _ _).setAt _ _).setAt _ _))⟩
end
end Go.Proofs.Ytocpppegmepolaa
