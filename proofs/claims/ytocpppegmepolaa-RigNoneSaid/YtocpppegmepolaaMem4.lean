/- Rows of structs of several cells that the call owns: a field read, a field stored. -/
import Derived.Test.YtocpppegmepolaaMem2
set_option linter.unusedVariables false
namespace Go.Proofs.Ytocpppegmepolaa
open Go.RowKit

theorem cut_get {C : List Value} {o n j : Nat} (hj : j < n) : (cut C o n)[j]? = C[o + j]? := by
  unfold cut; rw [List.getElem?_take, if_pos hj, List.getElem?_drop]
theorem cut_ext {C D : List Value} {o n : Nat} (h : ∀ j, j < n → C[o + j]? = D[o + j]?) : cut C o n = cut D o n := by
  apply List.ext_getElem?
  intro j
  by_cases hj : j < n
  · rw [cut_get hj, cut_get hj, h j hj]
  · unfold cut; rw [List.getElem?_take, List.getElem?_take, if_neg hj, if_neg hj]
theorem cut_set_ne {C : List Value} {i q sz j : Nat} {u : Value} (hj : j < sz) (hq : q ≠ i) : cut (C.set (i * sz + j) u) (q * sz) sz = cut C (q * sz) sz := by
  apply cut_ext
  intro t ht
  rw [List.getElem?_set_ne]
  intro e
  rcases Nat.lt_or_gt_of_ne hq with h | h
  · have : (q + 1) * sz ≤ i * sz := Nat.mul_le_mul_right _ h
    rw [Nat.add_mul] at this; omega
  · have : (i + 1) * sz ≤ q * sz := Nat.mul_le_mul_right _ h
    rw [Nat.add_mul] at this; omega
theorem cut_set_eq {C : List Value} {o sz j : Nat} {u : Value} (hj : j < sz) : cut (C.set (o + j) u) o sz = (cut C o sz).set j u := by
  apply List.ext_getElem?
  intro t
  by_cases ht : t < sz
  · rw [cut_get ht]
    by_cases htj : t = j
    · subst htj
      rw [List.getElem?_set_self', List.getElem?_set_self', cut_get ht]
    · rw [List.getElem?_set_ne (by omega), List.getElem?_set_ne (by omega), cut_get ht]
  · rw [List.getElem?_eq_none (by unfold cut; rw [List.length_take]; omega), List.getElem?_eq_none (by rw [List.length_set]; unfold cut; rw [List.length_take]; omega)]

section
variable {α : Type} {K : Kind α} {S : Nat → Prop}
theorem OwR.atF {e base g c n : Nat} {w : World} {xs : List α} (h : OwR K e base S w (.slice (some ⟨g, 0, none⟩) n c) xs) {i : Nat} (hi : i < xs.length) :
    ∃ cs, K.R (fun k => S k ∨ k = g) w cs xs[i] ∧ cs.length = K.sz ∧ ∀ j, j < K.sz → w.cell? ⟨g, i * K.sz + j, none⟩ = cs[j]? ∧ w.frozen? ⟨g, i * K.sz + j, none⟩ = false := by
  obtain ⟨g', c', cur, hv, _, _, _, hh, _, hr⟩ := h.block (by omega)
  injection hv with e1 e2 e3
  injection e1 with e1
  injection e1 with e1
  subst e1
  have h1 := hr i hi
  exact ⟨_, h1, K.len h1, fun j hj => ⟨by rw [cellOf hh, cut_get hj]; simp, freeOf hh _⟩⟩
theorem OwR.setF {e base g c n : Nat} {w : World} {xs : List α} (h : OwR K e base S w (.slice (some ⟨g, 0, none⟩) n c) xs) {i : Nat} (hi : i < xs.length) {j : Nat} (hj : j < K.sz) {u : Value} {y : α}
    (hy : ∀ cs, K.R (fun k => S k ∨ k = g) w cs xs[i] → K.R (fun k => S k ∨ k = g) w (cs.set j u) y) :
    OwR K e base S (w.setCell ⟨g, i * K.sz + j, none⟩ u) (.slice (some ⟨g, 0, none⟩) n c) (xs.set i y) := by
  obtain ⟨cells, ho, hr⟩ := h
  have hn : n = xs.length := by
    rcases ho.2 with ⟨h', _⟩ | ⟨g', cap, cur, h', _⟩
    · cases h'
    · injection h'
  subst hn
  have hk : Kp (fun k => k = g) w (w.setCell ⟨g, i * K.sz + j, none⟩ u) := (Kp.refl (fun k => k = g) w).setCell (p := ⟨g, i * K.sz + j, none⟩) (.inl rfl) u
  have hmv : ∀ k, k < w.heap.size → ¬ (S k ∨ (Value.slice (some ⟨g, 0, none⟩) xs.length c).ownBlock = some k) → ¬ (S k ∨ (Value.slice (some ⟨g, 0, none⟩) xs.length c).ownBlock = some k) ∧ (w.setCell ⟨g, i * K.sz + j, none⟩ u).heap[k]? = w.heap[k]? :=
    fun k hk' hn => ⟨hn, hk.block k hk' fun x => hn (.inr (by simp [Value.ownBlock, x]))⟩
  have hless : ∀ {cs : List Value} {x : α}, K.R (fun k => S k ∨ (Value.slice (some ⟨g, 0, none⟩) xs.length c).ownBlock = some k) w cs x → K.R (fun k => S k ∨ k = g) w cs x :=
    fun hh => Kind.less hh fun k _ x => by rcases x with x | x; exact .inl x; exact .inr (by simp [Value.ownBlock, x])
  have hmore : ∀ {cs : List Value} {x : α}, K.R (fun k => S k ∨ k = g) w cs x → K.R (fun k => S k ∨ (Value.slice (some ⟨g, 0, none⟩) xs.length c).ownBlock = some k) w cs x :=
    fun hh => Kind.less hh fun k _ x => by rcases x with x | x; exact .inl x; exact .inr (by simpa [Value.ownBlock, eq_comm] using x)
  refine ⟨cells.set (i * K.sz + j) u, ?_, fun q hq => ?_⟩
  · have := (ho.stored (i * K.sz + j) u).1
    simpa using this
  · rw [List.length_set] at hq
    by_cases hij : i = q
    · subst hij
      rw [List.getElem_set_self, cut_set_eq hj]
      exact K.move hmv (hmore (hy _ (hless (hr i hi))))
    · rw [List.getElem_set_ne hij, cut_set_ne hj (Ne.symm hij)]
      exact K.move hmv (hr q hq)
end

/-- A kind whose reading looks at no other memory. -/
def Kind.flat {α : Type} (K : Kind α) : Prop := ∀ (S S' : Nat → Prop) (w w' : World) (cs : List Value) (x : α), K.R S w cs x → K.R S' w' cs x
theorem OwR.flat {α : Type} {K : Kind α} {e base : Nat} {S S' : Nat → Prop} {w w' : World} {v : Value} {xs : List α} (hf : K.flat) (h : OwR K e base S w v xs) (hown : ∀ k, v.ownBlock = some k → w'.heap[k]? = w.heap[k]?) : OwR K e base S' w' v xs := by
  obtain ⟨cells, ho, hr⟩ := h
  exact ⟨cells, ownsRow_move ho hown, fun i hi => hf _ _ _ _ _ _ (hr i hi)⟩
theorem SlR.flat {α : Type} {K : Kind α} {S S' : Nat → Prop} {w w' : World} {v : Value} {xs : List α} (hf : K.flat) (h : SlR K S w v xs) (hS : ∀ k, k < w.heap.size → ¬ S k → ¬ S' k ∧ w'.heap[k]? = w.heap[k]?) : SlR K S' w' v xs := h.move hS
/-- A store elsewhere. -/
theorem OwR.far {α : Type} {K : Kind α} {e base : Nat} {S : Nat → Prop} {w : World} {v : Value} {xs : List α} (hf : K.flat) (h : OwR K e base S w v xs) {p : Addr} (hp : ∀ k, v.ownBlock = some k → k ≠ p.block) (u : Value) : OwR K e base S (w.setCell p u) v xs :=
  h.flat hf fun k hk => Below.heap_setCell w p u k (hp k hk)
end Go.Proofs.Ytocpppegmepolaa
