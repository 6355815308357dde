/- flat: the closure of Write. -/
import Derived.Test.YtagekjijngbmdaaFb
import Derived.Deep.RegionHeld3
import Derived.Deep.DrawnRows
set_option linter.unusedVariables false
set_option linter.unusedSimpArgs false
namespace Go.Proofs.Ytagekjijngbmdaa
open Go.RowKit
attribute [local go_sem ↓] Go.wp_at_zero Go.wp_at_succ

theorem I_state : (Try.prog.info? 53).map (fun i => (i.zero, i.size, i.bytes)) = some (some (.slice none 0 0), 1, 24) := by kernel_rfl

set_option maxHeartbeats 1000000 in
theorem more_any {S : Nat → Prop} (v : Value) (ch : List (List ByteArray)) (st : List ByteArray) (ba bd at_ : Nat) (d : ByteArray) (w : World) (h : SlR (KSl KStr) S w v ch) (hx : ch[ch.length - 1]? = some st)
    (hca : w.cell? ⟨ba, 0, none⟩ = some (.int .i64 at_)) (hcd : w.cell? ⟨bd, 0, none⟩ = some (.string d))
    (h0 : 0 < st.length) (h3 : st.length ≤ 1000) (h4 : at_ + d.size / 48 ≤ st.length) (hd : d.size ≤ 1000000) (hl : ch.length ≤ 1000000000) (hS : ∀ k, S k → k < w.heap.size) :
    Calls Try.prog 24 #[v, .pointer (some ⟨ba, 0, none⟩), .pointer (some ⟨bd, 0, none⟩)] w fun e w' => (∃ u, e = .returned u ∧ SlR (KSl KStr) S w' u (ch ++ [wth at_ d (d.size / 48) st])) ∧ Kp No w w' := by
  obtain ⟨hlt, _⟩ := List.getElem?_eq_some_iff.1 hx
  have HSl := Lib.hid h
  obtain ⟨b, o, c, news, rfl, ⟨hc1, hc2⟩, _, hb, hnl, hnc, hnr⟩ := h.news (by omega)
  have HNL := Lib.hid hnl
  have HNC := Lib.hid hnc
  have HNR := Lib.hid hnr
  have HX := Lib.hid hx
  obtain ⟨n, hn⟩ : ∃ n, n = ch.length := ⟨_, rfl⟩
  simp only [← hn] at hl hlt hc1 HSl ⊢
  have HN := Lib.hid hn
  have hnb : (0 : Int) ≤ (n : Int) := by omega
  have hnc' : (n : Int) ≤ (c : Int) := by omega
  clear hn hnl hnc hnr h hx
  go_enter Try.func24, Try.ntmps24
  go_wp2_with fail
  go_region_held3 (fun w' => w'.cell? ⟨ba, 0, none⟩ = some (.int .i64 at_) ∧ w'.cell? ⟨bd, 0, none⟩ = some (.string d)) (go_keep)
    (first
      | (go_at_call 25; refine (last_any (S := S) (K := KStr) _ ch st _ ?_ HX.out).mono ?_; (exact HSl.out); rintro e w' ⟨⟨u, rfl, hu⟩, rfl⟩)
      | (go_at_call 26; refine (with_any (S := S) _ st at_ d _ ?_ h0 h3 h4 hd).mono ?_; (exact hu); rintro e w1 ⟨⟨u1, rfl, hu1⟩, hk1⟩; obtain ⟨A1, c1, rfl, _, _⟩ := hu1.len; have hk2 := (Kp.dr w).trans' hk1; have hca1 := hk2.cell' hca; have hcd1 := hk2.cell' hcd)
      | (refine step_apg1 (K := KSl KStr) (S := S) w1 (by rfl) _ _ _ (by rfl) 53 53 _ 24 Try.underlying55 I_state rfl (by decide) (by decide) ⟨b, o, none⟩ ch n n (by rfl) HN.out news HNL.out ?_ ?_ 1 1 (by rfl) rfl _ (wth at_ d (d.size / 48) st) ?_ ?_ ?_ ?_; (intro j u hj; exact hk2.cell' (HNC.out j u hj)); (intro i hi; exact Kind.no (HNR.out i hi) hk2); (exact ⟨_, rfl, hu1.slOf hS⟩); (rw [← HN.out]; omega); (rw [← HN.out]; omega); intro v2 w2 hv2 hk3; have hca2 := hk3.cell' hca1; have hcd2 := hk3.cell' hcd1))
  go_wp2
  go_ret
  refine ⟨⟨_, rfl, ?_⟩, hk2.trans' hk3⟩
  exact hv2.slOf fun k x => Nat.lt_of_lt_of_le (hS k x) hk2.size
end Go.Proofs.Ytagekjijngbmdaa
