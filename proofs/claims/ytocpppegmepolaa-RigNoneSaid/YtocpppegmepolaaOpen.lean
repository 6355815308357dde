/- Arguments that came in, read as lists: a slice's cells by the reading of the claim. -/
import Derived.Test.YtocpppegmepolaaMem2
import Derived.Deep.Slices
import Derived.Deep.Fields
import Derived.ChangeSame
namespace Go.Proofs.Ytocpppegmepolaa
open Go.RowKit Go.ChangeShapes Go.WideShapes Go.Deep

theorem list_of {α : Type} {P : Nat → α → Prop} : ∀ n : Nat, (∀ i, i < n → ∃ x, P i x) → ∃ xs : List α, xs.length = n ∧ ∀ i (h : i < xs.length), P i xs[i]
  | 0, _ => ⟨[], rfl, fun i h => absurd h (by simp)⟩
  | n + 1, h => by
    obtain ⟨xs, hl, hx⟩ := list_of n fun i hi => h i (by omega)
    obtain ⟨x, hx'⟩ := h n (by omega)
    refine ⟨xs ++ [x], by simp [hl], fun i hi => ?_⟩
    rw [List.length_append, List.length_singleton] at hi
    by_cases hlt : i < xs.length
    · rw [List.getElem_append_left hlt]; exact hx i hlt
    · obtain rfl : i = xs.length := by omega
      rw [List.getElem_append_right (by omega)]
      simp only [Nat.sub_self, List.getElem_cons_zero]
      rw [hl]; exact hx'

theorem SlR.of_cells {α : Type} {K : Kind α} {w : World} (hz : 0 < K.sz) (a : Addr) (len cap : Nat) (xs : List α) (hlen : xs.length = len) (hl : len ≤ cap) (hc : cap ≤ 9223372036854775807)
    (h : ∀ i (hi : i < xs.length), ∃ cs, (∀ j, j < K.sz → w.cell? (a.add (i * K.sz + j)) = cs[j]?) ∧ K.R No w cs xs[i]) : SlR K No w (.slice (some a) len cap) xs := by
  subst hlen
  refine ⟨some a, cap, rfl, hl, hc, fun h0 => ?_⟩
  obtain ⟨cs0, h1, h2⟩ := h 0 h0
  have hl0 := K.len h2
  have h3 := h1 0 hz
  rw [List.getElem?_eq_getElem (by omega)] at h3
  have h4 : a.add (0 * K.sz + 0) = a := by simp [Addr.add]
  rw [h4] at h3
  have hs := World.cell?_spot h3
  obtain ⟨b, o, s⟩ := a
  obtain rfl : s = none := hs
  have hcell : ∃ C T fr, w.heap[b]? = some (.cells C T fr) := by
    unfold World.cell? at h3
    simp only at h3
    split at h3
    · rename_i C T fr e; exact ⟨C, T, fr, e⟩
    · cases h3
  obtain ⟨C, T, fr, hh⟩ := hcell
  refine ⟨b, o, C, T, fr, rfl, id, hh, fun i hi => ?_⟩
  obtain ⟨cs, h5, h6⟩ := h i hi
  have hlc := K.len h6
  have : cut C.toList (o + i * K.sz) K.sz = cs := by
    apply List.ext_getElem?
    intro j
    unfold cut
    rw [List.getElem?_take, List.getElem?_drop]
    by_cases hj : j < K.sz
    · rw [if_pos hj, ← h5 j hj]
      have : (⟨b, o, none⟩ : Addr).add (i * K.sz + j) = ⟨b, o + (i * K.sz + j), none⟩ := by
        unfold Addr.add; split <;> simp_all
      rw [this, cellOf hh, ← Nat.add_assoc]
      simp
    · rw [if_neg hj, List.getElem?_eq_none (by omega)]
  rw [this]
  exact h6

theorem SlR.of_trod {α : Type} {K : Kind α} {H : Type} {enc : TypeId × Value → H} {P : Program} {w : World} {base : Nat} {spare : Nat → Bool} {held : Bool} {fuel : Nat} {t e : TypeId} {v : Value} {x : DataW H × List MemPlace}
    (ht : P.underlying t = some (.slice e)) (hc : P.cellsOf e = K.sz) (hz : 0 < K.sz) (h : DataW.trod enc P w base spare held fuel t [v] = some x)
    (hel : ∀ n cs y, DataW.trod enc P w base spare held n e cs = some y → cs.length = K.sz → ∃ a, K.R No w cs a) : ∃ xs, SlR K No w v xs := by
  rcases open_slice ht h with ⟨h0, _⟩ | ⟨a, len, cap, m, n, D, Pl, hcs, _, hl, hm, hmm, _, hi⟩
  · simp at h0; subst h0; exact ⟨[], SlR.nil _ _ _⟩
  · simp at hcs
    subst hcs
    rw [hc] at hi
    have hlm : len ≤ m := by rw [hmm]; split <;> omega
    obtain ⟨xs, hxl, hx⟩ := list_of (P := fun i x => ∃ cs, (∀ j, j < K.sz → w.cell? (a.add (i * K.sz + j)) = cs[j]?) ∧ K.R No w cs x) len fun i hil => by
      obtain ⟨cs', h1, h2⟩ := hi i (by omega)
      obtain ⟨_, h3, h4⟩ := World.cells?_some h1
      obtain ⟨x, hx⟩ := hel n cs' _ h2 h3
      refine ⟨x, cs', fun j hj => ?_, hx⟩
      rw [← h4 j hj, Go.Deep.add_add]
    exact ⟨xs, SlR.of_cells hz a len cap xs hxl hl (by simpa [maxLen] using hm) hx⟩

theorem u8_of {H : Type} {enc : TypeId × Value → H} {P : Program} {w : World} {base : Nat} {spare : Nat → Bool} {held : Bool} {n : Nat} {t : TypeId} {cs : List Value} {y : DataW H × List MemPlace}
    (ht : P.underlying t = some (.int .u8)) (h : DataW.trod enc P w base spare held n t cs = some y) : ∃ a, KU8.R No w cs a := by
  obtain ⟨m, rfl, _, _⟩ := DataW.trod_int ht h
  exact ⟨m, rfl⟩
theorem i64_of {m : Int} (h : (Lit.int .i64 m).wf = true) : -9223372036854775808 ≤ m ∧ m ≤ 9223372036854775807 := by simp only [Lit.wf, Bool.and_eq_true, decide_eq_true_eq] at h; exact h
theorem u8r_of {m : Int} (h : (Lit.int .u8 m).wf = true) : 0 ≤ m ∧ m ≤ 255 := by simp only [Lit.wf, Bool.and_eq_true, decide_eq_true_eq] at h; exact h
end Go.Proofs.Ytocpppegmepolaa
