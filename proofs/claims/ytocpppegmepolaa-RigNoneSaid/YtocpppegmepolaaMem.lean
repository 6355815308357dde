/- Words for memory: what may have changed between two worlds, and how values read as lists of plain data. -/
import Derived.WalkKit
import Derived.WalkSpells
import Derived.Maps.AppendAt
import Derived.Deep.AppendLies
import Derived.Deep.Draws
namespace Go.Proofs.Ytocpppegmepolaa
open Go.RowKit

/-! ## Which blocks may have changed -/
structure Kp (S : Nat → Prop) (w w' : World) : Prop where
  os : w'.os = w.os
  tape : w'.tape = w.tape
  output : w'.output = w.output
  size : w.heap.size ≤ w'.heap.size
  block : ∀ k, k < w.heap.size → ¬ S k → w'.heap[k]? = w.heap[k]?

/-- No block. -/
def No : Nat → Prop := fun _ => False

section
variable {S S' S1 : Nat → Prop} {w w1 w' : World}
theorem Kp.refl (S : Nat → Prop) (w : World) : Kp S w w := ⟨rfl, rfl, rfl, Nat.le_refl _, fun _ _ _ => rfl⟩
theorem Kp.mono (h : Kp S w w') (hs : ∀ k, k < w.heap.size → S k → S' k) : Kp S' w w' := ⟨h.os, h.tape, h.output, h.size, fun k hk hn => h.block k hk fun x => hn (hs k hk x)⟩
theorem Kp.trans (h : Kp S w w1) (h1 : Kp S1 w1 w') (hs : ∀ k, k < w.heap.size → S1 k → S k) : Kp S w w' :=
  ⟨h1.os.trans h.os, h1.tape.trans h.tape, h1.output.trans h.output, Nat.le_trans h.size h1.size, fun k hk hn => (h1.block k (Nat.lt_of_lt_of_le hk h.size) fun x => hn (hs k hk x)).trans (h.block k hk hn)⟩
theorem Kp.trans' (h : Kp S w w1) (h1 : Kp S w1 w') : Kp S w w' := h.trans h1 fun _ _ h => h
theorem Kp.no (h : Kp No w w') : Kp S w w' := h.mono fun _ _ x => x.elim
theorem Kp.transNo (h : Kp S w w1) (h1 : Kp No w1 w') : Kp S w w' := h.trans h1 fun _ _ h => h.elim
theorem Kp.alloc (h : Kp S w w1) (o : Obj) : Kp S w (w1.alloc o) :=
  ⟨h.os, h.tape, h.output, Nat.le_trans h.size (by simp), fun k hk hn => (Below.heap_alloc w1 o k (Nat.lt_of_lt_of_le hk h.size)).trans (h.block k hk hn)⟩
theorem Kp.drew (h : Kp S w w1) : Kp S w w1.drew := ⟨h.os, h.tape, h.output, h.size, h.block⟩
theorem Kp.drewN (h : Kp S w w1) (n : Nat) : Kp S w (w1.drewN n) := ⟨h.os, h.tape, h.output, h.size, h.block⟩
theorem Kp.setCell (h : Kp S w w1) {p : Addr} (hp : S p.block ∨ w.heap.size ≤ p.block) (u : Value) : Kp S w (w1.setCell p u) :=
  ⟨h.os, h.tape, h.output, by simpa using h.size, fun k hk hn => (Below.heap_setCell w1 p u k (fun e => by subst e; rcases hp with hp | hp; exact hn hp; omega)).trans (h.block k hk hn)⟩
theorem Kp.setAt {b : Nat} (h : Kp (fun k => k = b) w w1) (i : Nat) (u : Value) : Kp (fun k => k = b) w (w1.setCell ⟨b, i, none⟩ u) := Kp.setCell (S := fun k => k = b) h (p := ⟨b, i, none⟩) (.inl rfl) u
theorem Kp.grown (h : Kp S w w1) {row : Option Nat} (hg : w1.grownBy w' row) (hr : ∀ k, row = some k → S k ∨ w.heap.size ≤ k) : Kp S w w' :=
  ⟨hg.os.trans h.os, hg.tape.trans h.tape, hg.output.trans h.output, Nat.le_trans h.size hg.size, fun k hk hn => (hg.block k (Nat.lt_of_lt_of_le hk h.size) (fun e => by rcases hr k e.symm with x | x; exact hn x; omega)).trans (h.block k hk hn)⟩
theorem Kp.of_below (h : Below w.heap.size w w') : Kp S w w' := ⟨h.os, h.tape, h.output, h.size, fun k hk _ => h.block k hk⟩
theorem Kp.below (h : Kp No w w') : Below w.heap.size w w' := ⟨h.os, h.tape, h.output, h.size, fun k hk => h.block k hk id⟩
theorem Kp.of_grown {row : Option Nat} (hg : w.grownBy w' row) : Kp (fun k => row = some k) w w' := (Kp.refl _ w).grown hg fun _ e => .inl e
theorem Kp.cell (h : Kp S w w') {a : Addr} {v : Value} (hc : w.cell? a = some v) (hn : ¬ S a.block) : w'.cell? a = some v :=
  (World.cell?_of_block (h.block _ (World.block_lt_of_cell? w a hc) hn)).trans hc
theorem Kp.cell' (h : Kp No w w') {a : Addr} {v : Value} (hc : w.cell? a = some v) : w'.cell? a = some v := h.cell hc id
theorem Kp.frozen (h : Kp S w w') {a : Addr} (hl : a.block < w.heap.size) (hn : ¬ S a.block) : w'.frozen? a = w.frozen? a := World.frozen?_of_block (h.block _ hl hn)
theorem Kp.heap (h : Kp S w w') {b : Nat} {o : Obj} (hc : w.heap[b]? = some o) (hn : ¬ S b) : w'.heap[b]? = some o :=
  (h.block _ (Array.getElem?_eq_some_iff.1 hc).1 hn).trans hc
end

theorem blt {w : World} {b : Nat} {o : Obj} (h : w.heap[b]? = some o) : b < w.heap.size := (Array.getElem?_eq_some_iff.1 h).1
theorem cellOf {w : World} {b : Nat} {C : Array Value} {T : TypeId} {fr : Nat × Nat} (h : w.heap[b]? = some (.cells C T fr)) (i : Nat) : w.cell? ⟨b, i, none⟩ = C[i]? := cell_of_row w b i C T fr h
theorem freeOf {w : World} {b : Nat} {C : Array Value} {T : TypeId} (h : w.heap[b]? = some (.cells C T (0, 0))) (i : Nat) : w.frozen? ⟨b, i, none⟩ = false := by simp [World.frozen?, h]
theorem heap_set {w : World} {b : Nat} {C : Array Value} {T : TypeId} {fr : Nat × Nat} (h : w.heap[b]? = some (.cells C T fr)) (i : Nat) (u : Value) : (w.setCell ⟨b, i, none⟩ u).heap[b]? = some (.cells (C.setIfInBounds i u) T fr) := by
  simp [World.setCell, Array.getElem?_modify, h]
theorem heap_set_far {w : World} {b : Nat} {o : Obj} (h : w.heap[b]? = some o) {p : Addr} (hp : b ≠ p.block) (u : Value) : (w.setCell p u).heap[b]? = some o := (Below.heap_setCell w p u b hp).trans h
theorem heap_al {w : World} {b : Nat} {o : Obj} (h : w.heap[b]? = some o) (o' : Obj) : (w.alloc o').heap[b]? = some o := (Below.heap_alloc w o' b (blt h)).trans h
theorem heap_new (w : World) (o : Obj) : (w.alloc o).heap[w.heap.size]? = some o := heap_alloc_new w o

/-! ## Kinds: how a row of cells reads as a datum; S: the blocks that the reading does not touch -/
structure Kind (α : Type) where
  sz : Nat
  R : (Nat → Prop) → World → List Value → α → Prop
  len : ∀ {S w cs x}, R S w cs x → cs.length = sz
  one : ∀ {S w cs x}, R S w cs x → ∀ u ∈ cs, u.oneCell' = true
  move : ∀ {S S' : Nat → Prop} {w w' : World} {cs x}, (∀ k, k < w.heap.size → ¬ S k → ¬ S' k ∧ w'.heap[k]? = w.heap[k]?) → R S w cs x → R S' w' cs x

def Kind.scal {α : Type} (enc : α → Value) (h : ∀ x, (enc x).oneCell' = true) : Kind α where
  sz := 1
  R := fun _ _ cs x => cs = [enc x]
  len := by rintro _ _ _ _ rfl; rfl
  one := by rintro _ _ _ x rfl u hu; simp at hu; subst hu; exact h x
  move := fun _ h => h

def KInt : Kind Int := Kind.scal (.int .i64) fun _ => rfl
def KU8 : Kind Int := Kind.scal (.int .u8) fun _ => rfl
def KBool : Kind Bool := Kind.scal .bool fun _ => rfl
def KStr : Kind ByteArray := Kind.scal .string fun _ => rfl

/-- The cells of element i. -/
def cut (C : List Value) (o n : Nat) : List Value := (C.drop o).take n

/-- A slice value that reads as a list. -/
def SlR {α : Type} (K : Kind α) (S : Nat → Prop) (w : World) (v : Value) (xs : List α) : Prop :=
  ∃ A c, v = .slice A xs.length c ∧ xs.length ≤ c ∧ c ≤ 9223372036854775807 ∧
    (0 < xs.length → ∃ b o C T fr, A = some ⟨b, o, none⟩ ∧ ¬ S b ∧ w.heap[b]? = some (.cells C T fr) ∧ ∀ i (h : i < xs.length), K.R S w (cut C.toList (o + i * K.sz) K.sz) xs[i])

section
variable {α : Type} {K : Kind α} {S S' : Nat → Prop} {w w' : World} {v : Value} {xs : List α}
theorem SlR.move (hm : ∀ k, k < w.heap.size → ¬ S k → ¬ S' k ∧ w'.heap[k]? = w.heap[k]?) (h : SlR K S w v xs) : SlR K S' w' v xs := by
  obtain ⟨A, c, hv, hl, hc, h⟩ := h
  refine ⟨A, c, hv, hl, hc, fun h0 => ?_⟩
  obtain ⟨b, o, C, T, fr, hA, hb, hh, hr⟩ := h h0
  have := hm b (blt hh) hb
  exact ⟨b, o, C, T, fr, hA, this.1, this.2.trans hh, fun i hi => K.move hm (hr i hi)⟩
theorem SlR.one (h : SlR K S w v xs) : v.oneCell' = true := by obtain ⟨A, c, rfl, _⟩ := h; rfl
end

def KSl {α : Type} (K : Kind α) : Kind (List α) where
  sz := 1
  R := fun S w cs xs => ∃ v, cs = [v] ∧ SlR K S w v xs
  len := by rintro _ _ _ _ ⟨v, rfl, _⟩; rfl
  one := by rintro _ _ _ _ ⟨v, rfl, h⟩ u hu; simp at hu; subst hu; exact h.one
  move := by rintro S S' w w' _ _ hm ⟨v, rfl, h⟩; exact ⟨v, rfl, h.move hm⟩

section
variable {α : Type} {K : Kind α} {S S' : Nat → Prop} {w w' : World} {v : Value} {xs : List α} {cs : List Value} {x : α}
theorem mv_kp {T : Nat → Prop} (hk : Kp T w w') (hs : ∀ k, k < w.heap.size → T k → S k) (hs' : ∀ k, k < w.heap.size → S' k → S k) : ∀ k, k < w.heap.size → ¬ S k → ¬ S' k ∧ w'.heap[k]? = w.heap[k]? :=
  fun k hk' hn => ⟨fun h => hn (hs' k hk' h), hk.block k hk' fun h => hn (hs k hk' h)⟩
/-- Behind a call that changes nothing of what is read. -/
theorem SlR.kp {T : Nat → Prop} (h : SlR K S w v xs) (hk : Kp T w w') (hs : ∀ k, k < w.heap.size → T k → S k) : SlR K S w' v xs := h.move (mv_kp hk hs fun _ _ h => h)
theorem SlR.no (h : SlR K S w v xs) (hk : Kp No w w') : SlR K S w' v xs := h.kp hk fun _ _ h => h.elim
theorem SlR.less (h : SlR K S w v xs) (hs : ∀ k, k < w.heap.size → S' k → S k) : SlR K S' w v xs := h.move (mv_kp (Kp.refl No w) (fun _ _ h => h.elim) hs)
theorem Kind.kp {T : Nat → Prop} (h : K.R S w cs x) (hk : Kp T w w') (hs : ∀ k, k < w.heap.size → T k → S k) : K.R S w' cs x := K.move (mv_kp hk hs fun _ _ h => h) h
theorem Kind.no (h : K.R S w cs x) (hk : Kp No w w') : K.R S w' cs x := K.move (mv_kp hk (fun _ _ h => h.elim) fun _ _ h => h) h
theorem Kind.less (h : K.R S w cs x) (hs : ∀ k, k < w.heap.size → S' k → S k) : K.R S' w cs x := K.move (mv_kp (Kp.refl No w) (fun _ _ h => h.elim) hs) h
theorem SlR.slice (h : SlR K S w v xs) : ∃ A c, v = .slice A xs.length c ∧ xs.length ≤ c ∧ c ≤ 9223372036854775807 := by obtain ⟨A, c, h1, h2, h3, _⟩ := h; exact ⟨A, c, h1, h2, h3⟩
theorem SlR.nil (K : Kind α) (S : Nat → Prop) (w : World) : SlR K S w (.slice none 0 0) [] := ⟨none, 0, rfl, by simp, by omega, fun h => absurd h (by simp)⟩

theorem cut_one {C : List Value} {o : Nat} {u : Value} (h : cut C o 1 = [u]) : C[o]? = some u := by
  unfold cut at h
  have : ((C.drop o).take 1)[0]? = some u := by rw [h]; rfl
  simpa [List.getElem?_take, List.getElem?_drop] using this
theorem cut_at {C cs : List Value} {o n j : Nat} {u : Value} (h : cut C o n = cs) (hj : cs[j]? = some u) : C[o + j]? = some u := by
  unfold cut at h
  rw [← h] at hj
  rw [List.getElem?_take] at hj
  split at hj
  · simpa [List.getElem?_drop] using hj
  · cases hj
theorem cut_len_one {C : List Value} {o : Nat} (h : (cut C o 1).length = 1) : ∃ u, cut C o 1 = [u] ∧ C[o]? = some u := by
  match hc : cut C o 1, h with
  | [u], _ => exact ⟨u, rfl, cut_one hc⟩

/-- A slice of elements of one cell, opened; for lists that are not empty. -/
theorem SlR.open1 (h : SlR K S w v xs) (hz : K.sz = 1) (h0 : 0 < xs.length) :
    ∃ b o c, v = .slice (some ⟨b, o, none⟩) xs.length c ∧ xs.length ≤ c ∧ c ≤ 9223372036854775807 ∧ ¬ S b ∧ b < w.heap.size ∧ ∀ i (hi : i < xs.length), ∃ u, w.cell? ⟨b, o + i, none⟩ = some u ∧ K.R S w [u] xs[i] := by
  obtain ⟨A, c, hv, hl, hc, h⟩ := h
  obtain ⟨b, o, C, T, fr, rfl, hb, hh, hr⟩ := h h0
  refine ⟨b, o, c, hv, hl, hc, hb, blt hh, fun i hi => ?_⟩
  have := hr i hi
  rw [hz, Nat.mul_one] at this
  have hlen := K.len this
  rw [hz] at hlen
  obtain ⟨u, hu, hC⟩ := cut_len_one hlen
  rw [hu] at this
  exact ⟨u, (cellOf hh _).trans (by simpa using hC), this⟩
/-- The same for whole lists, the address behind a condition. -/
theorem SlR.open1' (h : SlR K S w v xs) (hz : K.sz = 1) :
    ∃ A c, v = .slice A xs.length c ∧ xs.length ≤ c ∧ c ≤ 9223372036854775807 ∧ (0 < xs.length → ∃ b o, A = some ⟨b, o, none⟩ ∧ ¬ S b ∧ b < w.heap.size ∧ ∀ i (hi : i < xs.length), ∃ u, w.cell? ⟨b, o + i, none⟩ = some u ∧ K.R S w [u] xs[i]) := by
  obtain ⟨A, c, hv, hl, hc⟩ := h.slice
  refine ⟨A, c, hv, hl, hc, fun h0 => ?_⟩
  obtain ⟨b, o, c', hv', _, _, h1, h2, h3⟩ := h.open1 hz h0
  rw [hv] at hv'
  injection hv' with e1 _ _
  exact ⟨b, o, e1, h1, h2, h3⟩
end
theorem KStr_R {S : Nat → Prop} {w : World} {u : Value} {x : ByteArray} (h : KStr.R S w [u] x) : u = .string x := by
  have : [u] = [Value.string x] := h
  simpa using this
theorem KInt_R {S : Nat → Prop} {w : World} {u : Value} {x : Int} (h : KInt.R S w [u] x) : u = .int .i64 x := by
  have : [u] = [Value.int .i64 x] := h
  simpa using this
theorem KBool_R {S : Nat → Prop} {w : World} {u : Value} {x : Bool} (h : KBool.R S w [u] x) : u = .bool x := by
  have : [u] = [Value.bool x] := h
  simpa using this
theorem KSl_R {α : Type} {K : Kind α} {S : Nat → Prop} {w : World} {u : Value} {x : List α} (h : (KSl K).R S w [u] x) : SlR K S w u x := by
  obtain ⟨v, hv, h⟩ := h
  simp at hv
  subst hv
  exact h

/-! ## A row of the call's own -/
/-- The slice value v owns its row (blocks from base on); its elements read as xs and lie apart from that row and from S. -/
def OwR {α : Type} (K : Kind α) (e base : Nat) (S : Nat → Prop) (w : World) (v : Value) (xs : List α) : Prop :=
  ∃ cells, w.ownsRow base e K.sz v xs.length cells ∧ ∀ i (h : i < xs.length), K.R (fun k => S k ∨ v.ownBlock = some k) w (cut cells (i * K.sz) K.sz) xs[i]

section
variable {α : Type} {K : Kind α} {e base : Nat} {S S' : Nat → Prop} {w w' : World} {v : Value} {xs : List α}
theorem OwR.nil (K : Kind α) (e base : Nat) (S : Nat → Prop) (w : World) : OwR K e base S w (.slice none 0 0) [] := ⟨[], World.ownsRow_nil _ _ _ _, fun i h => absurd h (by simp)⟩
theorem OwR.lt (h : OwR K e base S w v xs) {k : Nat} (hk : v.ownBlock = some k) : base ≤ k ∧ k < w.heap.size := by
  obtain ⟨cells, ho, _⟩ := h
  exact ho.lt k hk
theorem ownsRow_move {sz n : Nat} {cells : List Value} (h : w.ownsRow base e sz v n cells) (hm : ∀ k, v.ownBlock = some k → w'.heap[k]? = w.heap[k]?) : w'.ownsRow base e sz v n cells := by
  obtain ⟨h1, h2⟩ := h
  refine ⟨h1, ?_⟩
  rcases h2 with h2 | ⟨g, cap, cur, rfl, hg, hh, r⟩
  · exact .inl h2
  · exact .inr ⟨g, cap, cur, rfl, hg, (hm g (by simp [Value.ownBlock])).trans hh, r⟩
theorem OwR.move (h : OwR K e base S w v xs) (hown : ∀ k, v.ownBlock = some k → w'.heap[k]? = w.heap[k]?) (hm : ∀ k, k < w.heap.size → ¬ S k → v.ownBlock ≠ some k → ¬ S' k ∧ w'.heap[k]? = w.heap[k]?) : OwR K e base S' w' v xs := by
  obtain ⟨cells, ho, hr⟩ := h
  refine ⟨cells, ownsRow_move ho hown, fun i hi => K.move (fun k hk hn => ?_) (hr i hi)⟩
  have h1 : ¬ S k := fun x => hn (.inl x)
  have h2 : v.ownBlock ≠ some k := fun x => hn (.inr x)
  have := hm k hk h1 h2
  exact ⟨fun x => by rcases x with x | x; exact this.1 x; exact h2 x, this.2⟩
theorem OwR.kp {T : Nat → Prop} (h : OwR K e base S w v xs) (hk : Kp T w w') (hT : ∀ k, k < w.heap.size → T k → S k) (hv : ∀ k, v.ownBlock = some k → ¬ T k) (hS : ∀ k, k < w.heap.size → S' k → S k) : OwR K e base S' w' v xs :=
  h.move (fun k hk' => hk.block k (h.lt hk').2 (hv k hk')) fun k hk' hn _ => ⟨fun x => hn (hS k hk' x), hk.block k hk' fun x => hn (hT k hk' x)⟩
theorem OwR.no (h : OwR K e base S w v xs) (hk : Kp No w w') : OwR K e base S w' v xs := h.kp hk (fun _ _ h => h.elim) (fun _ _ h => h.elim) fun _ _ h => h
theorem OwR.len (h : OwR K e base S w v xs) : ∃ A c, v = .slice A xs.length c ∧ xs.length ≤ c ∧ c ≤ 9223372036854775807 := by
  obtain ⟨cells, ho, _⟩ := h
  rcases ho.2 with ⟨rfl, hn⟩ | ⟨g, cap, cur, rfl, _, _, h1, h2, _⟩
  · exact ⟨none, 0, by rw [hn], by omega, by omega⟩
  · exact ⟨_, cap, rfl, h1, by simpa [maxLen] using h2⟩
/-- What is owned, given away. -/
theorem OwR.slR (h : OwR K e base S w v xs) (hb : ∀ k, v.ownBlock = some k → ¬ S k) : SlR K S w v xs := by
  obtain ⟨cells, ho, hr⟩ := h
  rcases ho.2 with ⟨rfl, hn⟩ | ⟨g, cap, cur, rfl, _, hh, h1, h2, h3, h4⟩
  · exact ⟨none, 0, by rw [hn], by omega, by omega, fun h0 => absurd h0 (by omega)⟩
  · refine ⟨_, cap, rfl, h1, by simpa [maxLen] using h2, fun _ => ⟨g, 0, cur, e, (0, 0), rfl, hb g (by simp [Value.ownBlock]), hh, fun i hi => ?_⟩⟩
    have := Kind.less (S' := S) (hr i hi) (fun k _ x => .inl x)
    have hcut : cut cur.toList (0 + i * K.sz) K.sz = cut cells (i * K.sz) K.sz := by
      unfold cut
      rw [← h4, Nat.zero_add]
      have hle : (i + 1) * K.sz ≤ xs.length * K.sz := Nat.mul_le_mul_right _ hi
      rw [List.drop_take, List.take_take]
      congr 1
      rw [Nat.add_mul, Nat.one_mul] at hle
      omega
    rw [hcut]
    exact this
theorem OwR.slOf (h : OwR K e base S w v xs) (hb : ∀ k, S k → k < base) : SlR K S w v xs := h.slR fun k hk x => by have := (h.lt hk).1; have := hb k x; omega
/-- An owned row, opened: its block and all cells. -/
theorem OwR.block (h : OwR K e base S w v xs) (h0 : 0 < xs.length) :
    ∃ g c cur, v = .slice (some ⟨g, 0, none⟩) xs.length c ∧ base ≤ g ∧ xs.length ≤ c ∧ c ≤ 9223372036854775807 ∧ w.heap[g]? = some (.cells cur e (0, 0)) ∧ cur.size = c * K.sz ∧ ∀ i (hi : i < xs.length), K.R (fun k => S k ∨ k = g) w (cut cur.toList (i * K.sz) K.sz) xs[i] := by
  obtain ⟨cells, ho, hr⟩ := h
  rcases ho.2 with ⟨rfl, hn⟩ | ⟨g, cap, cur, rfl, hbase, hh, h1, h2, h3, h4⟩
  · omega
  · refine ⟨g, cap, cur, rfl, hbase, h1, by simpa [maxLen] using h2, hh, h3, fun i hi => ?_⟩
    have := Kind.less (S' := fun k => S k ∨ k = g) (hr i hi) (fun k _ x => by rcases x with x | x; exact .inl x; exact .inr (by simp [Value.ownBlock, x]))
    have hcut : cut cur.toList (i * K.sz) K.sz = cut cells (i * K.sz) K.sz := by
      unfold cut
      rw [← h4]
      have hle : (i + 1) * K.sz ≤ xs.length * K.sz := Nat.mul_le_mul_right _ hi
      rw [List.drop_take, List.take_take]
      congr 1
      rw [Nat.add_mul, Nat.one_mul] at hle
      omega
    rw [hcut]
    exact this
end

end Go.Proofs.Ytocpppegmepolaa
