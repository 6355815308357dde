/- flat: Clone, with, the closure of Write. -/
import Derived.Test.YtagekjijngbmdaaFa
set_option linter.unusedVariables false
set_option linter.unusedSimpArgs false
namespace Go.Proofs.Ytagekjijngbmdaa
open Go.RowKit

set_option maxHeartbeats 400000 in
theorem clone_state {S : Nat → Prop} (v : Value) (xs : List ByteArray) (w : World) (h : SlR KStr S w v xs) (h0 : 0 < xs.length) (h3 : xs.length ≤ 1000) :
    Calls Try.prog 39 #[v] w fun e w' => (∃ u, e = .returned u ∧ OwR KStr 9 w.heap.size S w' u xs) ∧ Kp No w w' := by
  obtain ⟨b, o, c, news, rfl, _, _, hb, hl, hn, hr⟩ := h.news h0
  have qT : ∀ (w : World) (a : Option Addr) (n c n' c' : Nat), (binOp .eql 53 (.slice a n c) (.slice none n' c')).run Try.prog w = .ok (.bool a.isNone) w := fun w a n c n' c' => Lib.run_eql_slice_nil w _ _ a n c n' c' Try.underlying53
  have hal : Kp No w (w.alloc (.cells #[] 9)) := (Kp.refl _ _).alloc _
  obtain ⟨n, hn'⟩ : ∃ n, n = xs.length := ⟨_, rfl⟩
  simp only [← hn'] at h0 h3 hl ⊢
  have HN := Lib.hid hn'
  have HL := Lib.hid hl
  have HC := Lib.hid hn
  have HR := Lib.hid hr
  clear hn' hn hl hr h
  go_enter Try.func39, Try.ntmps39
  go_wp2_with (at_builtin; refine wpList_ap (K := KStr) (S := S) _ rfl _ _ 53 rfl w.heap.size 9 _ 16 Try.underlying53 I_str rfl (by decide) (by decide) _ [] rfl (OwR.lit0 w _ _ (Nat.le_refl _)) _ n c rfl news xs HN.out HL.out ?c1 ?c2 ?c3 ?c4 ?_)
  case c1 => intro j u hj; exact hal.cell' (HC.out j u hj)
  case c2 => intro i hi; exact Kind.fresh (HR.out i hi) hal (by rintro k ⟨⟩; exact Nat.le_refl _)
  case c3 => simp
  case c4 => simp; omega
  intro v' w' h1 h2 h3
  go_wp2
  go_ret
  exact ⟨⟨_, rfl, by simpa using h1⟩, hal.trans h2 (by intro k hk e; simp [Value.ownBlock] at e; omega)⟩


/-- A state with k further blocks of a text. -/
def wth (at_ : Nat) (d : ByteArray) : Nat → List ByteArray → List ByteArray
  | 0, st => st
  | k + 1, st => (wth at_ d k st).set (at_ + k) (d.extract (48 * k) (48 * (k + 1)))
theorem wth_len (at_ : Nat) (d : ByteArray) (k : Nat) (st : List ByteArray) : (wth at_ d k st).length = st.length := by
  induction k with
  | zero => rfl
  | succ k ih => simp [wth, ih]

theorem cut1 (l : List Value) (i : Nat) : cut l (i * 1) 1 = l[i]?.toList := by
  unfold cut
  rw [Nat.mul_one]
  cases h : l[i]? with
  | none => simp at h; simp [List.drop_of_length_le h]
  | some u => obtain ⟨hlt, rfl⟩ := List.getElem?_eq_some_iff.1 h; rw [List.drop_eq_getElem_cons hlt]; rfl
/-- An owned row of texts, its cells written out. -/
theorem OwR.str {e base : Nat} {S : Nat → Prop} {w : World} {v : Value} {xs : List ByteArray} (h : OwR KStr e base S w v xs) : w.ownsRow base e 1 v xs.length (xs.map .string) := by
  obtain ⟨cells, ho, hr⟩ := h
  have hl : cells.length = xs.length := by have := ho.1; simpa [KStr, Kind.scal] using this
  have : cells = xs.map Value.string := by
    refine List.ext_getElem? fun i => ?_
    by_cases hi : i < xs.length
    · have h1 := hr i hi
      rw [show KStr.sz = 1 from rfl, cut1] at h1
      have h2 : cells[i]?.toList = [Value.string xs[i]] := h1
      rw [List.getElem?_eq_getElem (by omega)] at h2 ⊢
      simp at h2
      simp [h2, hi]
    · rw [List.getElem?_eq_none (by omega), List.getElem?_eq_none (by simp; omega)]
  subst this
  exact ho
theorem OwR.of_str {e base : Nat} {S : Nat → Prop} {w : World} {v : Value} {xs : List ByteArray} (h : w.ownsRow base e 1 v xs.length (xs.map .string)) : OwR KStr e base S w v xs :=
  ⟨_, h, fun i hi => by rw [show KStr.sz = 1 from rfl, cut1]; show _ = [_]; simp [hi]⟩

set_option maxHeartbeats 1000000 in
theorem with_any {S : Nat → Prop} (v : Value) (st : List ByteArray) (at_ : Nat) (d : ByteArray) (w : World) (h : SlR KStr S w v st) (h0 : 0 < st.length) (h3 : st.length ≤ 1000) (h4 : at_ + d.size / 48 ≤ st.length) (hd : d.size ≤ 1000000) :
    Calls Try.prog 26 #[v, .int .i64 at_, .string d] w fun e w' => (∃ u, e = .returned u ∧ OwR KStr 9 w.heap.size S w' u (wth at_ d (d.size / 48) st)) ∧ Kp No w w' := by
  go_enter Try.func26, Try.ntmps26
  go_wp2_with (go_at_call 39; refine (clone_state v st _ h h0 h3).mono ?_; rintro e w1 ⟨⟨u, rfl, hu⟩, hk⟩)
  obtain ⟨g, c, cur, rfl, hg, hc1, hc2, _, _, _⟩ := hu.block h0
  have hst := st.length
  obtain ⟨n, hn⟩ : ∃ n, n = st.length := ⟨_, rfl⟩
  have hu' := hu.str
  have HU := Lib.hid hu'
  simp only [← hn] at h0 h3 h4 hc1 ⊢
  rw [← hn] at HU
  have HN := Lib.hid hn
  clear hn hu hu' h
  go_loopw [8] (fun i wr => ∃ k : Nat, k ≤ d.size / 48 ∧ i = .int .i64 k ∧ wr.ownsRow w.heap.size 9 1 (.slice (some ⟨g, 0, none⟩) n c) n ((wth at_ d k st).map .string) ∧ Kp No w wr) (fun i _ => d.size / 48 - (intOf i).toNat)
  case atStart => exact ⟨0, Nat.zero_le _, rfl, HU.out, hk⟩
  case round =>
    clear HU
    obtain ⟨k, hk1, rfl, ho, hkr⟩ := hrel
    by_cases hlt : k < d.size / 48
    · have hl := wth_len at_ d k st
      obtain ⟨x, hcell⟩ : ∃ x, wr.cell? ⟨g, at_ + k, none⟩ = some x := by
        rw [ho.cellAt _ (by omega)]
        exact ⟨_, List.getElem?_eq_getElem (by rw [ho.1]; omega)⟩
      have hfr := ho.frozenAt (at_ + k)
      have ho2 := ho.stored (at_ + k) (.string (d.extract (48 * k) (48 * (k + 1))))
      have hk2 := hkr.setCell (p := ⟨g, at_ + k, none⟩) (.inr hg) (.string (d.extract (48 * k) (48 * (k + 1))))
      have HO := Lib.hid ho2
      have HK := Lib.hid hk2
      clear ho ho2 hk2 hl
      go_wp2
      go_roundw
      case rel => exact ⟨k + 1, by omega, by go_num, by rw [wth, List.map_set]; exact HO.out.1, HK.out⟩
      case measure => simp [intOf]; omega
    · obtain rfl : k = d.size / 48 := by omega
      have HO := Lib.hid ho
      clear ho
      go_wp2
      go_ret
      exact ⟨⟨_, rfl, OwR.of_str (by rw [wth_len, ← HN.out]; exact HO.out)⟩, hkr⟩
end Go.Proofs.Ytagekjijngbmdaa
