/- flat: Copy, Discard, Read. -/
import Derived.Test.YtagekjijngbmdaaFg
set_option linter.unusedVariables false
set_option linter.unusedSimpArgs false
namespace Go.Proofs.Ytagekjijngbmdaa
open Go.RowKit
attribute [local go_sem ↓] Go.wp_at_zero Go.wp_at_succ

set_option maxHeartbeats 400000 in
theorem clone_chains {S : Nat → Prop} (b o n c : Nat) (xs : List Ch) (news : List Value) (w : World) (hn' : n = xs.length) (hl : news.length = xs.length * 1) (hn : ∀ j u, news[j]? = some u → w.cell? ((⟨b, o, none⟩ : Addr).add j) = some u) (hr : ∀ i (h : i < xs.length), KCh.R S w (cut news (i * 1) 1) xs[i]) (h3 : xs.length ≤ 1000000000) :
    Calls Try.prog 29 #[.slice (some ⟨b, o, none⟩) n c] w fun e w' => (∃ u, e = .returned u ∧ OwR KCh 55 w.heap.size S w' u xs) ∧ Kp No w w' := by
  have qT : ∀ (w : World) (a : Option Addr) (n c n' c' : Nat), (binOp .eql 56 (.slice a n c) (.slice none n' c')).run Try.prog w = .ok (.bool a.isNone) w := fun w a n c n' c' => Lib.run_eql_slice_nil w _ _ a n c n' c' Try.underlying56
  have hal : Kp No w (w.alloc (.cells #[] 55)) := (Kp.refl _ _).alloc _
  simp only [← hn'] at h3 hl ⊢
  have HN := Lib.hid hn'
  have HL := Lib.hid hl
  have HC := Lib.hid hn
  have HR := Lib.hid hr
  clear hn' hn hl hr
  go_enter Try.func29, Try.ntmps29
  go_wp2_with (at_builtin; refine wpList_ap (K := KCh) (S := S) _ rfl _ _ 56 rfl w.heap.size 55 _ 24 Try.underlying56 I_chain rfl (by decide) (by decide) _ [] rfl (OwR.lit0 w _ _ (Nat.le_refl _)) _ n c rfl news xs HN.out HL.out ?c1 ?c2 ?c3 ?c4 ?_)
  case c1 => intro j u hj; exact hal.cell' (HC.out j u hj)
  case c2 => intro i hi; exact Kind.fresh (HR.out i hi) hal (by rintro k ⟨⟩; exact Nat.le_refl _)
  case c3 => simp
  case c4 => simp; omega
  intro v' w' h1 h2 h3
  go_wp2
  go_ret
  exact ⟨⟨_, rfl, by simpa using h1⟩, hal.trans h2 (by intro k hk e; simp [Value.ownBlock] at e; omega)⟩

set_option maxHeartbeats 400000 in
theorem copy_nil (w : World) : Calls Try.prog 13 #[.pointer none] w fun e w' => e = .returned (.pointer none) ∧ w = w' := by
  go_enter Try.func13, Try.ntmps13
  go_wp2
  go_ret
  exact ⟨rfl, rfl⟩

def CopyPost (S : Nat → Prop) (w : World) (b g n : Nat) (cs : List Ch) (e : Ending) (w' : World) : Prop :=
  ∃ b' g', e = .returned (.pointer (some ⟨b', 0, none⟩)) ∧ FlatR (fun k => (S k ∨ k = b) ∨ k = g) w' b' g' n cs ∧ w.heap.size ≤ b' ∧ w.heap.size ≤ g' ∧ Kp No w w'

set_option maxHeartbeats 2000000 in
theorem copy_any {S : Nat → Prop} {b g N : Nat} {cs : List Ch} (w : World) (h : FlatR S w b g N cs) (hS : ∀ k, S k → k < w.heap.size) (h0 : 0 < cs.length) (hlen : cs.length ≤ 1000000000) :
    Calls Try.prog 13 #[.pointer (some ⟨b, 0, none⟩)] w (CopyPost S w b g N cs) := by
  obtain ⟨c, hb, ho, hgb, hSb, hSg⟩ := h
  have hc0 : w.cell? ⟨b, 0, none⟩ = some (.int .i64 N) := cellOf hb 0
  have hc1 : w.cell? ⟨b, 1, none⟩ = some (.slice (some ⟨g, 0, none⟩) cs.length c) := cellOf hb 1
  obtain ⟨news, hn, hnl, hnc, hnr⟩ := ho.news
  have HC := Lib.hid (clone_chains g 0 cs.length c cs news w.drew rfl hnl hnc (fun i hi => Kind.no (hnr i hi) (Kp.dr _)) hlen)
  have hlg := (ho.lt (k := g) rfl).2
  have hlb := blt hb
  have hne0 := World.new_ne w _ hc0
  have hne1 := World.new_ne w _ hc1
  clear hn
  obtain ⟨n, hn⟩ : ∃ n, n = cs.length := ⟨_, rfl⟩
  rw [← hn] at hc1 HC
  have HN := Lib.hid hn
  clear ho hb hnl hnc hnr hn
  go_enter Try.func13, Try.ntmps13
  go_wp2_with fail
  go_region_held3 (fun w' => w'.cell? ⟨b, 0, none⟩ = some (.int .i64 N) ∧ w'.cell? ⟨b, 1, none⟩ = some (.slice (some ⟨g, 0, none⟩) n c)) (go_keep)
    (first | (go_at_call 29; refine HC.out.mono ?_; rintro e w1 ⟨⟨u2, rfl, hu2⟩, hk⟩; obtain ⟨g2, c2, cur2, rfl, hg2, _⟩ := hu2.block h0; have hr0 := hk.cell' hc0; have hr1 := hk.cell' hc1; have hq0 := World.new_ne w1 _ hr0; have hq1 := World.new_ne w1 _ hr1))
  go_wp2
  go_ret
  have hk2 := (Kp.dr w).trans' hk
  have hz := hk2.size
  exact ⟨w1.heap.size, g2, rfl, FlatR.mk (hu2.base (Nat.zero_le _)) (by have : w.heap.size ≤ g2 := hg2; rintro ((x | x) | x); (have := hS _ x; omega); omega; omega) (by rintro k ((x | x) | x); (have := hS _ x; omega); omega; omega), hz, hg2, hk2.alloc _⟩

/-! Discard. -/
set_option maxHeartbeats 400000 in
theorem discard_nil (at_ n : Int) (w : World) : Calls Try.prog 22 #[.pointer none, .int .i64 at_, .int .i64 n] w fun e w' => e = .returned (.int .i64 1) ∧ w = w' := by
  go_enter Try.func22, Try.ntmps22
  go_wp2_with (go_at_call 38; refine (may_nil _ _ _).mono ?_; rintro e w' ⟨rfl, rfl⟩)
  go_ret
  exact ⟨rfl, rfl⟩
set_option maxHeartbeats 400000 in
theorem discard_bad {S : Nat → Prop} {b g N : Nat} {cs : List Ch} (at_ n : Int) (w : World) (h : FlatR S w b g N cs) (h1 : 1 ≤ N) (h2 : N ≤ 64) (ha : i64 at_) (hn : i64 n) (hne : mayF N at_ n ≠ 0) :
    Calls Try.prog 22 #[.pointer (some ⟨b, 0, none⟩), .int .i64 at_, .int .i64 n] w fun e w' => e = .returned (.int .i64 (mayF N at_ n)) ∧ w = w' := by
  obtain ⟨c, hb, _⟩ := h
  have hc0 : w.cell? ⟨b, 0, none⟩ = some (.int .i64 N) := cellOf hb 0
  have hz : (mayF N at_ n != 0) = true := by simpa using hne
  go_enter Try.func22, Try.ntmps22
  go_wp2_with (go_at_call 38; refine (may_some _ _ N b _ (by omega) (by omega) ha hn hc0).mono ?_; rintro e w' ⟨rfl, rfl⟩)
  go_ret
  exact ⟨rfl, rfl⟩
theorem may_zero {N at_ n : Int} (h : mayF N at_ n = 0) : 1 ≤ n ∧ 0 ≤ at_ ∧ n ≤ N ∧ at_ + n ≤ N := by
  unfold mayF at h
  split at h
  · omega
  · split at h <;> omega
theorem data_of_may {N at_ : Int} {n : Nat} : dataF N at_ (48 * n) = mayF N at_ n := by
  unfold dataF
  rw [if_neg (by omega)]
  congr 1
  omega
set_option maxHeartbeats 2000000 in
theorem discard_ok {S : Nat → Prop} {b g N : Nat} {cs : List Ch} (at_ n : Nat) (w : World) (h : FlatR S w b g N cs) (h1 : 1 ≤ N) (h2 : N ≤ 64) (hok : Okc N cs) (hne : mayF N at_ n = 0)
    (hS : ∀ k, S k → k < w.heap.size) (hlen : cs.length ≤ 1000000000) (hcl : ∀ c ∈ cs, c.length ≤ 1000000000) :
    Calls Try.prog 22 #[.pointer (some ⟨b, 0, none⟩), .int .i64 at_, .int .i64 n] w fun e w' => e = .returned (.int .i64 0) ∧ FlatR S w' b g N (cs.map (wr1 at_ (zeros (48 * n)))) ∧ Kp (fun k => k = g) w w' := by
  have hm := may_zero hne
  have hc0 : w.cell? ⟨b, 0, none⟩ = some (.int .i64 N) := by obtain ⟨c, hb, _⟩ := h; exact cellOf hb 0
  have hmk := mk_zeros (P := Try.prog) 23 5 Try.underlying23 I_u8 (48 * n) (by omega)
  have hcv := cv_zeros (P := Try.prog) 23 9 5 Try.underlying23 Try.underlying5 Try.underlying9 (48 * n)
  have e1 : ((48 * n : Nat) : Int) = 48 * (n : Int) := by omega
  rw [e1] at hmk
  have hal : Kp No w (w.alloc (.cells (madeCells #[.int .u8 0] (48 * n)) 5)) := (Kp.refl _ _).alloc _
  have hz := zeros_size (48 * n)
  have HC := Lib.hid (write_ok at_ (zeros (48 * n)) _ (h.no hal) h1 h2 hok (by rw [hz]; omega) (by rw [hz, data_of_may]; exact hne) (by rw [hz]; omega) (fun k hk => by have := hS k hk; simp; omega) hlen hcl)
  obtain ⟨z, hz'⟩ : ∃ z, z = zeros (48 * n) := ⟨_, rfl⟩
  rw [← hz'] at hcv HC ⊢
  have hn1 : (1 : Int) ≤ (n : Int) := by omega
  have hn2 : (n : Int) ≤ 64 := by omega
  have HM := Lib.hid hne
  have HA := Lib.hid hal
  clear hz hz' hne hal e1 h
  go_enter Try.func22, Try.ntmps22
  go_wp2_with (first | (go_at_call 38; refine (may_some _ _ N b _ (by omega) (by omega) (by unfold i64; omega) (by unfold i64; omega) hc0).mono ?_; rintro e w' ⟨rfl, rfl⟩; rw [HM.out]) | (go_at_call 10; refine HC.out.mono ?_; rintro e w' ⟨rfl, hf, hk⟩))
  go_ret
  exact ⟨rfl, hf, HA.out.no.trans' hk⟩
end Go.Proofs.Ytagekjijngbmdaa
