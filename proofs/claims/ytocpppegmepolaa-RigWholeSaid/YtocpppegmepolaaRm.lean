/- the reference of layer 10: its devices' shape; put, mark, Write, Flush, Tamper. -/
import Derived.Test.YtocpppegmepolaaRl
set_option linter.unusedVariables false
set_option linter.unusedSimpArgs false
namespace Go.Proofs.Ytocpppegmepolaa
open Go.RowKit
attribute [local go_sem ↓] Go.wp_at_zero Go.wp_at_succ

set_option maxHeartbeats 1000000 in
theorem rput_any {S : Nat → Prop} (v : Value) (xs : List ByteArray) (i : Nat) (s : ByteArray) (w : World) (h : SlR KStr S w v xs) (hi : i < xs.length) (hl : xs.length ≤ 1000000) (hS : ∀ k, S k → k < w.heap.size) :
    Calls Try.prog 181 #[v, .int .i64 i, .string s] w fun e w' => (∃ u, e = .returned u ∧ SlR KStr S w' u (xs.set i s)) ∧ Kp No w w' := by
  obtain ⟨b, o, c, news, rfl, ⟨hc1, hc2⟩, _, hb, hnl, hnc, hnr⟩ := h.news (by omega)
  have HNL := Lib.hid hnl
  have HNC := Lib.hid hnc
  have HNR := Lib.hid hnr
  obtain ⟨n, hn⟩ : ∃ n, n = xs.length := ⟨_, rfl⟩
  simp only [← hn] at hl hi hc1 ⊢
  have HN := Lib.hid hn
  have i0 : (0 : Int) ≤ (i : Int) := by omega
  have i1 : (i : Int) < (n : Int) := by omega
  have HS := Lib.hid hS
  have hal : Hid (Kp No w (w.alloc (.cells #[] 9))) := Lib.hid ((Kp.refl _ _).alloc _)
  clear hn hnl hnc hnr h hS
  go_enter Try.func181, Try.ntmps181
  go_wp2_with (at_builtin; refine wpList_ap (K := KStr) (S := S) (w.alloc (.cells #[] 9)) (by rfl) _ _ 48 (by rfl) w.heap.size 9 _ 16 Try.underlying48 I_str rfl (by decide) (by decide) _ _ (by rfl) (OwR.lit0 w _ _ (Nat.le_refl _)) ⟨b, o, none⟩ n c (by rfl) news xs HN.out ?c1 ?c2 ?c3 ?c4 ?c5 ?_)
  case c1 => rw [HN.out]; exact HNL.out
  case c2 => exact fun j u hj => hal.out.cell' (HNC.out j u hj)
  case c3 => exact fun q hq => Kind.fresh (HNR.out q hq) hal.out (fun k e => by simp [Value.ownBlock] at e; omega)
  case c4 => simp
  case c5 => simp; omega
  intro v2 w2 hv2 hk2 hat
  obtain ⟨g, c', cur, rfl, hg, _⟩ := hv2.block (by rw [← HN.out]; omega)
  obtain ⟨u0, hcu, hfu, _⟩ := hv2.at1 rfl (i := i) (by rw [← HN.out]; exact hi)
  have hv3 := hv2.set1 rfl (i := i) (by rw [← HN.out]; exact hi) (u := .string s) (y := s) rfl
  have hk3 : Kp No w w2 := hal.out.trans hk2 (fun k hk e => by simp [Value.ownBlock] at e; omega)
  have hk4 := hk3.setCell (p := ⟨g, i, none⟩) (.inr hg) (.string s)
  have hr := (hv3.slOf (fun k hk => HS.out k hk))
  rw [← HN.out] at hr
  have HR := Lib.hid hr
  have HK4 := Lib.hid hk4
  simp only [← HN.out]
  clear hv2 hv3 hk2 hk3 hk4 hat hr HNL HNC HNR
  go_wp2
  go_ret
  exact ⟨⟨_, rfl, HR.out⟩, HK4.out⟩

set_option maxHeartbeats 1000000 in
theorem rmark_any {S : Nat → Prop} (v : Value) (xs : List Bool) (i : Nat) (s : Bool) (w : World) (h : SlR KBool S w v xs) (hi : i < xs.length) (hl : xs.length ≤ 1000000) (hS : ∀ k, S k → k < w.heap.size) :
    Calls Try.prog 210 #[v, .int .i64 i, .bool s] w fun e w' => (∃ u, e = .returned u ∧ SlR KBool S w' u (xs.set i s)) ∧ Kp No w w' := by
  obtain ⟨b, o, c, news, rfl, ⟨hc1, hc2⟩, _, hb, hnl, hnc, hnr⟩ := h.news (by omega)
  have HNL := Lib.hid hnl
  have HNC := Lib.hid hnc
  have HNR := Lib.hid hnr
  obtain ⟨n, hn⟩ : ∃ n, n = xs.length := ⟨_, rfl⟩
  simp only [← hn] at hl hi hc1 ⊢
  have HN := Lib.hid hn
  have i0 : (0 : Int) ≤ (i : Int) := by omega
  have i1 : (i : Int) < (n : Int) := by omega
  have HS := Lib.hid hS
  have hal : Hid (Kp No w (w.alloc (.cells #[] 4))) := Lib.hid ((Kp.refl _ _).alloc _)
  clear hn hnl hnc hnr h hS
  go_enter Try.func210, Try.ntmps210
  go_wp2_with (at_builtin; refine wpList_ap (K := KBool) (S := S) (w.alloc (.cells #[] 4)) (by rfl) _ _ 30 (by rfl) w.heap.size 4 _ 1 Try.underlying30 I_bool rfl (by decide) (by decide) _ _ (by rfl) (OwR.lit0 w _ _ (Nat.le_refl _)) ⟨b, o, none⟩ n c (by rfl) news xs HN.out ?c1 ?c2 ?c3 ?c4 ?c5 ?_)
  case c1 => rw [HN.out]; exact HNL.out
  case c2 => exact fun j u hj => hal.out.cell' (HNC.out j u hj)
  case c3 => exact fun q hq => Kind.fresh (HNR.out q hq) hal.out (fun k e => by simp [Value.ownBlock] at e; omega)
  case c4 => simp
  case c5 => simp; omega
  intro v2 w2 hv2 hk2 hat
  obtain ⟨g, c', cur, rfl, hg, _⟩ := hv2.block (by rw [← HN.out]; omega)
  obtain ⟨u0, hcu, hfu, _⟩ := hv2.at1 rfl (i := i) (by rw [← HN.out]; exact hi)
  have hv3 := hv2.set1 rfl (i := i) (by rw [← HN.out]; exact hi) (u := .bool s) (y := s) rfl
  have hk3 : Kp No w w2 := hal.out.trans hk2 (fun k hk e => by simp [Value.ownBlock] at e; omega)
  have hk4 := hk3.setCell (p := ⟨g, i, none⟩) (.inr hg) (.bool s)
  have hr := (hv3.slOf (fun k hk => HS.out k hk))
  rw [← HN.out] at hr
  have HR := Lib.hid hr
  have HK4 := Lib.hid hk4
  simp only [← HN.out]
  clear hv2 hv3 hk2 hk3 hk4 hat hr HNL HNC HNR
  go_wp2
  go_ret
  exact ⟨⟨_, rfl, HR.out⟩, HK4.out⟩
end Go.Proofs.Ytocpppegmepolaa
