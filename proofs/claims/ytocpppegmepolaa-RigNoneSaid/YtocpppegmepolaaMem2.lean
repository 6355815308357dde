/- append onto a row of the call's own, said of lists of plain data. -/
import Derived.Test.YtocpppegmepolaaMem
import Derived.RegionTactic
import Derived.OwnWalk
namespace Go.Proofs.Ytocpppegmepolaa
open Go.RowKit

section
variable {α : Type} {K : Kind α}

theorem mem_cut {l : List Value} {m sz : Nat} (hl : l.length = m * sz) (hs : 0 < sz) {u : Value} (hu : u ∈ l) : ∃ i, i < m ∧ u ∈ cut l (i * sz) sz := by
  obtain ⟨j, hj, rfl⟩ := List.mem_iff_getElem.1 hu
  have hd : j / sz < m := by rw [Nat.div_lt_iff_lt_mul hs]; omega
  refine ⟨j / sz, hd, ?_⟩
  have hm : sz * (j / sz) + j % sz = j := Nat.div_add_mod j sz
  have hlt : j % sz < sz := Nat.mod_lt _ hs
  refine List.mem_iff_getElem?.2 ⟨j % sz, ?_⟩
  unfold cut
  rw [List.getElem?_take, if_pos hlt, List.getElem?_drop, Nat.mul_comm, hm]
  simp

theorem cut_left {a b : List Value} {o n : Nat} (h : o + n ≤ a.length) : cut (a ++ b) o n = cut a o n := by
  unfold cut
  rw [List.drop_append_of_le_length (by omega), List.take_append_of_le_length (by simp; omega)]
theorem cut_right {a b : List Value} {o n : Nat} : cut (a ++ b) (a.length + o) n = cut b o n := by
  unfold cut
  rw [show (a ++ b).drop (a.length + o) = b.drop o from by rw [List.drop_append]; simp]

variable {P : Program} {S : Nat → Prop}
theorem run_ap (W : World) (base : Nat) (t ty e : TypeId) (z : Value) (bytes : Nat) (ht : P.underlying t = some (.slice e))
    (hinfo : (P.info? e).map (fun i => (i.zero, i.size, i.bytes)) = some (some z, K.sz, bytes)) (hz : z.cells.size = K.sz) (hsz : 0 < K.sz) (hb0 : 0 < bytes)
    (v : Value) (xs : List α) (HO : OwR K e base S W v xs) (ad : Addr) (m c : Nat) (news : List Value) (ys : List α) (hm : m = ys.length)
    (hl : news.length = m * K.sz) (hnews : ∀ j u, news[j]? = some u → W.cell? (ad.add j) = some u)
    (hR : ∀ i (h : i < ys.length), K.R (fun k => S k ∨ v.ownBlock = some k) W (cut news (i * K.sz) K.sz) ys[i])
    (hbase : base ≤ W.heap.size) (hbytes : (xs.length + m) * bytes ≤ 140737488355328) :
    ∃ v' w', (Builtin.append_ #[t, t] ty #[v, .slice (some ad) m c]).run P W = .ok v' w' ∧ OwR K e base S w' v' (xs ++ ys) ∧ Kp (fun k => v.ownBlock = some k) W w' ∧ (v'.ownBlock = v.ownBlock ∨ v'.ownBlock = some W.heap.size) := by
  obtain ⟨i0, hi, h0, h1, h2⟩ := info_parts hinfo
  obtain ⟨cells, ho, hr⟩ := HO
  have hlen : xs.length + m ≤ 140737488355328 := Nat.le_trans (Nat.le_mul_of_pos_right _ hb0) hbytes
  have hone : ∀ u ∈ news, u.oneCell' = true := by
    intro u hu
    obtain ⟨i, him, hc⟩ := mem_cut hl hsz hu
    exact K.one (hR i (by omega)) u hc
  obtain ⟨v', w', hrun, h3, h4, _, h6⟩ := run_append_own_at (P := P) W base t ty e i0 z K.sz bytes ht hi h0 h1 h2 hz hsz v xs.length cells ho ad m c news hl hnews hone (by simp only [maxLen]; omega) hbytes hbase
  have hk : Kp (fun k => v.ownBlock = some k) W w' := (Kp.refl _ W).grown h4 fun k e => .inl e
  have hmv : ∀ k, k < W.heap.size → ¬ (S k ∨ v.ownBlock = some k) → ¬ (S k ∨ v'.ownBlock = some k) ∧ w'.heap[k]? = W.heap[k]? := by
    intro k hk' hn
    refine ⟨fun x => ?_, hk.block k hk' fun x => hn (.inr x)⟩
    rcases x with x | x
    · exact hn (.inl x)
    · rcases h6 with e | e
      · exact hn (.inr (e ▸ x))
      · rw [e] at x; injection x with x; omega
  have hcl : cells.length = xs.length * K.sz := ho.1
  refine ⟨v', w', hrun, ⟨cells ++ news, by rw [List.length_append, ← hm]; exact h3, fun i hi => ?_⟩, hk, h6⟩
  by_cases hlt : i < xs.length
  · have hle : (i + 1) * K.sz ≤ xs.length * K.sz := Nat.mul_le_mul_right _ hlt
    rw [Nat.add_mul, Nat.one_mul] at hle
    rw [cut_left (by omega), List.getElem_append_left hlt]
    exact K.move hmv (hr i hlt)
  · have hge : xs.length ≤ i := by omega
    rw [List.length_append] at hi
    have e1 : i * K.sz = cells.length + (i - xs.length) * K.sz := by rw [hcl, ← Nat.add_mul]; congr 1; omega
    rw [e1, cut_right, List.getElem_append_right hge]
    exact K.move hmv (hR _ (by omega))

theorem wp_ap (W : World) {o : Oper} {a : Act} {KK : Act → World → Prop} {Q : Exit → Act → World → Prop} (s x : Operand) (t : TypeId)
    (ho : o.op = .call { callee := .builtin .append, args := #[s, x], argTypes := #[t, t] })
    (base : Nat) (e : TypeId) (z : Value) (bytes : Nat) (ht : P.underlying t = some (.slice e))
    (hinfo : (P.info? e).map (fun i => (i.zero, i.size, i.bytes)) = some (some z, K.sz, bytes)) (hz : z.cells.size = K.sz) (hsz : 0 < K.sz) (hb0 : 0 < bytes)
    (v : Value) (xs : List α) (hs : a.eval s = v) (HO : OwR K e base S W v xs) (ad : Addr) (m c : Nat) (hx : a.eval x = .slice (some ad) m c) (news : List Value) (ys : List α) (hm : m = ys.length)
    (hl : news.length = m * K.sz) (hnews : ∀ j u, news[j]? = some u → W.cell? (ad.add j) = some u)
    (hR : ∀ i (h : i < ys.length), K.R (fun k => S k ∨ v.ownBlock = some k) W (cut news (i * K.sz) K.sz) ys[i])
    (hbase : base ≤ W.heap.size) (hbytes : (xs.length + m) * bytes ≤ 140737488355328)
    (h : ∀ v' w', OwR K e base S w' v' (xs ++ ys) → Kp (fun k => v.ownBlock = some k) W w' → (v'.ownBlock = v.ownBlock ∨ v'.ownBlock = some W.heap.size) → KK (a.put o.dst v') w') : o.wp P a W KK Q := by
  obtain ⟨v', w', hrun, h2, h3, h4⟩ := run_ap (P := P) W base t o.type e z bytes ht hinfo hz hsz hb0 v xs HO ad m c news ys hm hl hnews hR hbase hbytes
  unfold Oper.wp execOp
  simp only [ho, resolve, invoke, builtin, Sem.run_bind, Sem.run_pure, Result.andThen_ok, List.map_toArray, List.map_cons, List.map_nil, hs, hx, hrun]
  exact h v' w' h2 h3 h4

theorem wpList_ap (W : World) {ops : Array Oper} {rest : List Oper} {o : Oper} {a : Act} {Q : Exit → Act → World → Prop} (hgd : o.guard = none) (s x : Operand) (t : TypeId)
    (ho : o.op = .call { callee := .builtin .append, args := #[s, x], argTypes := #[t, t] })
    (base : Nat) (e : TypeId) (z : Value) (bytes : Nat) (ht : P.underlying t = some (.slice e))
    (hinfo : (P.info? e).map (fun i => (i.zero, i.size, i.bytes)) = some (some z, K.sz, bytes)) (hz : z.cells.size = K.sz) (hsz : 0 < K.sz) (hb0 : 0 < bytes)
    (v : Value) (xs : List α) (hs : a.eval s = v) (HO : OwR K e base S W v xs) (ad : Addr) (m c : Nat) (hx : a.eval x = .slice (some ad) m c) (news : List Value) (ys : List α) (hm : m = ys.length)
    (hl : news.length = m * K.sz) (hnews : ∀ j u, news[j]? = some u → W.cell? (ad.add j) = some u)
    (hR : ∀ i (h : i < ys.length), K.R (fun k => S k ∨ v.ownBlock = some k) W (cut news (i * K.sz) K.sz) ys[i])
    (hbase : base ≤ W.heap.size) (hbytes : (xs.length + m) * bytes ≤ 140737488355328)
    (h : ∀ v' w', OwR K e base S w' v' (xs ++ ys) → Kp (fun k => v.ownBlock = some k) W w' → (v'.ownBlock = v.ownBlock ∨ v'.ownBlock = some W.heap.size) → wpList P ops Q rest (a.put o.dst v') w') :
    wpList P ops Q (o :: rest) a W :=
  wpList_plain hgd fun _ hK => wp_ap W s x t ho base e z bytes ht hinfo hz hsz hb0 v xs hs HO ad m c hx news ys hm hl hnews hR hbase hbytes fun v' w' h2 h3 h4 => hK _ _ (h v' w' h2 h3 h4)

/-- One element, boxed by the translation just ahead of the append: the world is 'W.alloc' of its cells. -/
theorem wpList_ap1 (W : World) {ops : Array Oper} {rest : List Oper} {o : Oper} {a : Act} {Q : Exit → Act → World → Prop} (hgd : o.guard = none) (s x : Operand) (t : TypeId)
    (ho : o.op = .call { callee := .builtin .append, args := #[s, x], argTypes := #[t, t] })
    (base : Nat) (e e' : TypeId) (z : Value) (bytes : Nat) (ht : P.underlying t = some (.slice e))
    (hinfo : (P.info? e).map (fun i => (i.zero, i.size, i.bytes)) = some (some z, K.sz, bytes)) (hz : z.cells.size = K.sz) (hsz : 0 < K.sz) (hb0 : 0 < bytes)
    (v : Value) (xs : List α) (hs : a.eval s = v) (HO : OwR K e base S W v xs) (n c : Nat) (hx : a.eval x = .slice (some ⟨W.heap.size, 0, none⟩) n c) (hn : n = 1) (news : Array Value) (y : α)
    (hy : K.R (fun k => S k ∨ v.ownBlock = some k) W news.toList y)
    (hbase : base ≤ W.heap.size) (hbytes : (xs.length + 1) * bytes ≤ 140737488355328)
    (h : ∀ v' w', OwR K e base S w' v' (xs ++ [y]) → Kp (fun k => v.ownBlock = some k) W w' → (v'.ownBlock = v.ownBlock ∨ ∃ b, v'.ownBlock = some b ∧ W.heap.size ≤ b) → wpList P ops Q rest (a.put o.dst v') w') :
    wpList P ops Q (o :: rest) a (W.alloc (.cells news e')) := by
  subst hn
  have hal : Kp No W (W.alloc (.cells news e')) := (Kp.refl _ _).alloc _
  have hlen := K.len hy
  refine wpList_ap (K := K) (S := S) (W.alloc (.cells news e')) hgd s x t ho base e z bytes ht hinfo hz hsz hb0 v xs hs (HO.no hal) ⟨W.heap.size, 0, none⟩ 1 c hx news.toList [y] rfl (by simpa using hlen)
    (World.news_of_block (cs := news) (t := e') (fr := (0, 0)) (heap_alloc_new W _)) (fun i hi => ?_) (by simp; omega) hbytes (fun v' w' h1 h2 h3 => ?_)
  · have : i = 0 := by simpa using hi
    subst this
    simp only [Nat.zero_mul, List.getElem_cons_zero]
    have : cut news.toList 0 K.sz = news.toList := by unfold cut; rw [List.drop_zero, List.take_of_length_le (by omega)]
    rw [this]
    exact Kind.no hy hal
  · refine h v' w' h1 (((Kp.refl _ W).alloc _).trans' h2) ?_
    rcases h3 with h3 | h3
    · exact .inl h3
    · exact .inr ⟨_, h3, by simp⟩

/-- The same, the box's number as the walk writes it. -/
theorem wpList_ap1h (W : World) (H : Nat) (hH : W.heap.size = H) {ops : Array Oper} {rest : List Oper} {o : Oper} {a : Act} {Q : Exit → Act → World → Prop} (hgd : o.guard = none) (s x : Operand) (t : TypeId)
    (ho : o.op = .call { callee := .builtin .append, args := #[s, x], argTypes := #[t, t] })
    (base : Nat) (e e' : TypeId) (z : Value) (bytes : Nat) (ht : P.underlying t = some (.slice e))
    (hinfo : (P.info? e).map (fun i => (i.zero, i.size, i.bytes)) = some (some z, K.sz, bytes)) (hz : z.cells.size = K.sz) (hsz : 0 < K.sz) (hb0 : 0 < bytes)
    (v : Value) (xs : List α) (hs : a.eval s = v) (HO : OwR K e base S W v xs) (n c : Nat) (hx : a.eval x = .slice (some ⟨H, 0, none⟩) n c) (hn : n = 1) (news : Array Value) (y : α)
    (hy : K.R (fun k => S k ∨ v.ownBlock = some k) W news.toList y)
    (hbase : base ≤ W.heap.size) (hbytes : (xs.length + 1) * bytes ≤ 140737488355328)
    (h : ∀ v' w', OwR K e base S w' v' (xs ++ [y]) → Kp (fun k => v.ownBlock = some k) W w' → (v'.ownBlock = v.ownBlock ∨ ∃ b, v'.ownBlock = some b ∧ W.heap.size ≤ b) → wpList P ops Q rest (a.put o.dst v') w') :
    wpList P ops Q (o :: rest) a (W.alloc (.cells news e')) := by
  subst hH
  exact wpList_ap1 W hgd s x t ho base e e' z bytes ht hinfo hz hsz hb0 v xs hs HO n c hx hn news y hy hbase hbytes h

/-- The same as one step of a region that draws its order. -/
theorem step_ap1 (W : World) {ops : Array Oper} {o : Oper} {a : Act} {KK : Act → World → Prop} {Q : Exit → Act → World → Prop} {E : Prop} (hgd : o.guard = none) (s x : Operand) (t : TypeId)
    (ho : o.op = .call { callee := .builtin .append, args := #[s, x], argTypes := #[t, t] })
    (base : Nat) (e e' : TypeId) (z : Value) (bytes : Nat) (ht : P.underlying t = some (.slice e))
    (hinfo : (P.info? e).map (fun i => (i.zero, i.size, i.bytes)) = some (some z, K.sz, bytes)) (hz : z.cells.size = K.sz) (hsz : 0 < K.sz) (hb0 : 0 < bytes)
    (v : Value) (xs : List α) (hs : a.eval s = v) (HO : OwR K e base S W v xs) (n c : Nat) (hx : a.eval x = .slice (some ⟨W.heap.size, 0, none⟩) n c) (hn : n = 1) (news : Array Value) (y : α)
    (hy : K.R (fun k => S k ∨ v.ownBlock = some k) W news.toList y)
    (hbase : base ≤ W.heap.size) (hbytes : (xs.length + 1) * bytes ≤ 140737488355328)
    (h : ∀ v' w', OwR K e base S w' v' (xs ++ [y]) → Kp (fun k => v.ownBlock = some k) W w' → (v'.ownBlock = v.ownBlock ∨ ∃ b, v'.ownBlock = some b ∧ W.heap.size ≤ b) → KK (a.put o.dst v') w') :
    if Region.wanted o (yielded ops a.tmps) = true then Oper.wp P o a (W.alloc (.cells news e')) KK Q else E := by
  have hw : Region.wanted o (yielded ops a.tmps) = true := by simp [Region.wanted, hgd]
  rw [if_pos hw]
  subst hn
  have hal : Kp No W (W.alloc (.cells news e')) := (Kp.refl _ _).alloc _
  have hlen := K.len hy
  refine wp_ap (K := K) (S := S) (W.alloc (.cells news e')) s x t ho base e z bytes ht hinfo hz hsz hb0 v xs hs (HO.no hal) ⟨W.heap.size, 0, none⟩ 1 c hx news.toList [y] rfl (by simpa using hlen)
    (World.news_of_block (cs := news) (t := e') (fr := (0, 0)) (heap_alloc_new W _)) (fun i hi => ?_) (by simp; omega) hbytes (fun v' w' h1 h2 h3 => ?_)
  · have : i = 0 := by simpa using hi
    subst this
    simp only [Nat.zero_mul, List.getElem_cons_zero]
    have : cut news.toList 0 K.sz = news.toList := by unfold cut; rw [List.drop_zero, List.take_of_length_le (by omega)]
    rw [this]
    exact Kind.no hy hal
  · refine h v' w' h1 (((Kp.refl _ W).alloc _).trans' h2) ?_
    rcases h3 with h3 | h3
    · exact .inl h3
    · exact .inr ⟨_, h3, by simp⟩

/-- A slice that is appended: its cells. -/
theorem SlR.news {w : World} {v : Value} {ys : List α} (h : SlR K S w v ys) (h0 : 0 < ys.length) :
    ∃ b o c news, v = .slice (some ⟨b, o, none⟩) ys.length c ∧ (ys.length ≤ c ∧ c ≤ 9223372036854775807) ∧ ¬ S b ∧ b < w.heap.size ∧ news.length = ys.length * K.sz ∧ (∀ j u, news[j]? = some u → w.cell? ((⟨b, o, none⟩ : Addr).add j) = some u) ∧ ∀ i (h : i < ys.length), K.R S w (cut news (i * K.sz) K.sz) ys[i] := by
  obtain ⟨A, c, hv, hl, hc, h⟩ := h
  obtain ⟨b, o, C, T, fr, rfl, hb, hh, hr⟩ := h h0
  have hlast := K.len (hr (ys.length - 1) (by omega))
  have hle : o + ys.length * K.sz ≤ C.toList.length ∨ K.sz = 0 := by
    rcases Nat.eq_zero_or_pos K.sz with h | h
    · exact .inr h
    · left
      unfold cut at hlast
      rw [List.length_take, List.length_drop] at hlast
      have e : ys.length * K.sz = (ys.length - 1) * K.sz + K.sz := by
        have : ys.length = (ys.length - 1) + 1 := by omega
        rw [this, Nat.add_mul, Nat.one_mul]; simp
      omega
  have hcut : ∀ i, i < ys.length → cut (cut C.toList o (ys.length * K.sz)) (i * K.sz) K.sz = cut C.toList (o + i * K.sz) K.sz := by
    intro i hi
    have hle : (i + 1) * K.sz ≤ ys.length * K.sz := Nat.mul_le_mul_right _ hi
    rw [Nat.add_mul, Nat.one_mul] at hle
    unfold cut
    rw [List.drop_take, List.take_take, List.drop_drop]
    congr 1
    omega
  refine ⟨b, o, c, cut C.toList o (ys.length * K.sz), hv, ⟨hl, hc⟩, hb, blt hh, ?_, fun j u hj => ?_, fun i hi => by rw [hcut i hi]; exact hr i hi⟩
  · unfold cut
    rw [List.length_take, List.length_drop]
    rcases hle with h | h
    · omega
    · rw [h]; simp
  · rw [Addr.add_lit, cellOf hh]
    have : C.toList[o + j]? = some u := by
      unfold cut at hj
      rw [List.getElem?_take] at hj
      split at hj
      · rwa [List.getElem?_drop] at hj
      · cases hj
    simpa using this

theorem OwR.lit0 (w : World) (e base : Nat) (hb : base ≤ w.heap.size) : OwR K e base S (w.alloc (.cells #[] e)) (.slice (some ⟨w.heap.size, 0, none⟩) 0 0) [] :=
  ⟨[], ⟨by simp, .inr ⟨w.heap.size, 0, #[], rfl, hb, heap_alloc_new w _, by simp, by simp, by simp, by simp⟩⟩, fun i h => absurd h (by simp)⟩
/-- What was read in an elder world lies apart from a row that is younger. -/
theorem Kind.fresh {w W : World} {cs : List Value} {x : α} {v : Value} (h : K.R S w cs x) (hk : Kp No w W) (hv : ∀ k, v.ownBlock = some k → w.heap.size ≤ k) : K.R (fun k => S k ∨ v.ownBlock = some k) W cs x :=
  K.move (fun k hk' hn => ⟨fun x => by rcases x with x | x; exact hn x; have := hv k x; omega, hk.block k hk' id⟩) h

/-- append where the row must grow ('c[:n:n]'): a new row, the old one stays. -/
theorem run_apg (W : World) (t ty e : TypeId) (z : Value) (bytes : Nat) (ht : P.underlying t = some (.slice e))
    (hinfo : (P.info? e).map (fun i => (i.zero, i.size, i.bytes)) = some (some z, K.sz, bytes)) (hz : z.cells.size = K.sz) (hsz : 0 < K.sz) (hb0 : 0 < bytes)
    (bb : Addr) (xs : List α) (cap : Nat) (olds : List Value) (hol : olds.length = xs.length * K.sz) (holds : ∀ j u, olds[j]? = some u → W.cell? (bb.add j) = some u) (hO : ∀ i (h : i < xs.length), K.R S W (cut olds (i * K.sz) K.sz) xs[i])
    (ad : Addr) (m c : Nat) (news : List Value) (ys : List α) (hm : m = ys.length)
    (hl : news.length = m * K.sz) (hnews : ∀ j u, news[j]? = some u → W.cell? (ad.add j) = some u)
    (hR : ∀ i (h : i < ys.length), K.R S W (cut news (i * K.sz) K.sz) ys[i])
    (hg : cap < xs.length + m) (hbytes : (xs.length + m) * bytes ≤ 140737488355328) :
    ∃ v' w', (Builtin.append_ #[t, t] ty #[.slice (some bb) xs.length cap, .slice (some ad) m c]).run P W = .ok v' w' ∧ OwR K e W.heap.size S w' v' (xs ++ ys) ∧ Kp No W w' := by
  obtain ⟨i0, hi, h0, h1, h2⟩ := info_parts hinfo
  have hlen : xs.length + m ≤ 140737488355328 := Nat.le_trans (Nat.le_mul_of_pos_right _ hb0) hbytes
  obtain ⟨v', w', hrun, h3, h4⟩ := run_append_arg_grows (P := P) W t ty e i0 z K.sz bytes ht hi h0 h1 h2 hz hsz bb xs.length cap olds hol holds ad m c news hl hnews hg (by simp only [maxLen]; omega) hbytes
  have hk : Kp No W w' := (Kp.refl _ W).grown h4 fun k e => by cases e
  refine ⟨v', w', hrun, ⟨olds ++ news, by rw [List.length_append, ← hm]; exact h3, fun i hi => ?_⟩, hk⟩
  have hv : ∀ k, v'.ownBlock = some k → W.heap.size ≤ k := fun k e => (h3.lt k e).1
  by_cases hlt : i < xs.length
  · have hle : (i + 1) * K.sz ≤ xs.length * K.sz := Nat.mul_le_mul_right _ hlt
    rw [Nat.add_mul, Nat.one_mul] at hle
    rw [cut_left (by omega), List.getElem_append_left hlt]
    exact Kind.fresh (hO i hlt) hk hv
  · have hge : xs.length ≤ i := by omega
    rw [List.length_append] at hi
    have e1 : i * K.sz = olds.length + (i - xs.length) * K.sz := by rw [hol, ← Nat.add_mul]; congr 1; omega
    rw [e1, cut_right, List.getElem_append_right hge]
    exact Kind.fresh (hR _ (by omega)) hk hv

theorem wp_apg (W : World) {o : Oper} {a : Act} {KK : Act → World → Prop} {Q : Exit → Act → World → Prop} (s x : Operand) (t : TypeId)
    (ho : o.op = .call { callee := .builtin .append, args := #[s, x], argTypes := #[t, t] })
    (e : TypeId) (z : Value) (bytes : Nat) (ht : P.underlying t = some (.slice e))
    (hinfo : (P.info? e).map (fun i => (i.zero, i.size, i.bytes)) = some (some z, K.sz, bytes)) (hz : z.cells.size = K.sz) (hsz : 0 < K.sz) (hb0 : 0 < bytes)
    (bb : Addr) (xs : List α) (n cap : Nat) (hs : a.eval s = .slice (some bb) n cap) (hn : n = xs.length) (olds : List Value) (hol : olds.length = xs.length * K.sz) (holds : ∀ j u, olds[j]? = some u → W.cell? (bb.add j) = some u) (hO : ∀ i (h : i < xs.length), K.R S W (cut olds (i * K.sz) K.sz) xs[i])
    (ad : Addr) (m c : Nat) (hx : a.eval x = .slice (some ad) m c) (news : List Value) (ys : List α) (hm : m = ys.length)
    (hl : news.length = m * K.sz) (hnews : ∀ j u, news[j]? = some u → W.cell? (ad.add j) = some u)
    (hR : ∀ i (h : i < ys.length), K.R S W (cut news (i * K.sz) K.sz) ys[i])
    (hg : cap < xs.length + m) (hbytes : (xs.length + m) * bytes ≤ 140737488355328)
    (h : ∀ v' w', OwR K e W.heap.size S w' v' (xs ++ ys) → Kp No W w' → KK (a.put o.dst v') w') : o.wp P a W KK Q := by
  subst hn
  obtain ⟨v', w', hrun, h2, h3⟩ := run_apg (P := P) W t o.type e z bytes ht hinfo hz hsz hb0 bb xs cap olds hol holds hO ad m c news ys hm hl hnews hR hg hbytes
  unfold Oper.wp execOp
  simp only [ho, resolve, invoke, builtin, Sem.run_bind, Sem.run_pure, Result.andThen_ok, List.map_toArray, List.map_cons, List.map_nil, hs, hx, hrun]
  exact h v' w' h2 h3

theorem step_apg (W : World) {ops : Array Oper} {o : Oper} {a : Act} {KK : Act → World → Prop} {Q : Exit → Act → World → Prop} {E : Prop} (hgd : o.guard = none) (s x : Operand) (t : TypeId)
    (ho : o.op = .call { callee := .builtin .append, args := #[s, x], argTypes := #[t, t] })
    (e : TypeId) (z : Value) (bytes : Nat) (ht : P.underlying t = some (.slice e))
    (hinfo : (P.info? e).map (fun i => (i.zero, i.size, i.bytes)) = some (some z, K.sz, bytes)) (hz : z.cells.size = K.sz) (hsz : 0 < K.sz) (hb0 : 0 < bytes)
    (bb : Addr) (xs : List α) (n cap : Nat) (hs : a.eval s = .slice (some bb) n cap) (hn : n = xs.length) (olds : List Value) (hol : olds.length = xs.length * K.sz) (holds : ∀ j u, olds[j]? = some u → W.cell? (bb.add j) = some u) (hO : ∀ i (h : i < xs.length), K.R S W (cut olds (i * K.sz) K.sz) xs[i])
    (ad : Addr) (m c : Nat) (hx : a.eval x = .slice (some ad) m c) (news : List Value) (ys : List α) (hm : m = ys.length)
    (hl : news.length = m * K.sz) (hnews : ∀ j u, news[j]? = some u → W.cell? (ad.add j) = some u)
    (hR : ∀ i (h : i < ys.length), K.R S W (cut news (i * K.sz) K.sz) ys[i])
    (hg : cap < xs.length + m) (hbytes : (xs.length + m) * bytes ≤ 140737488355328)
    (h : ∀ v' w', OwR K e W.heap.size S w' v' (xs ++ ys) → Kp No W w' → KK (a.put o.dst v') w') :
    if Region.wanted o (yielded ops a.tmps) = true then Oper.wp P o a W KK Q else E := by
  have hw : Region.wanted o (yielded ops a.tmps) = true := by simp [Region.wanted, hgd]
  rw [if_pos hw]
  exact wp_apg W s x t ho e z bytes ht hinfo hz hsz hb0 bb xs n cap hs hn olds hol holds hO ad m c hx news ys hm hl hnews hR hg hbytes h

theorem OwR.base {e base base' : Nat} {w : World} {v : Value} {xs : List α} (h : OwR K e base S w v xs) (hb : base' ≤ base) : OwR K e base' S w v xs := by
  obtain ⟨cells, ⟨h1, h2⟩, hr⟩ := h
  refine ⟨cells, ⟨h1, ?_⟩, hr⟩
  rcases h2 with h2 | ⟨g, cap, cur, rfl, hg, r⟩
  · exact .inl h2
  · exact .inr ⟨g, cap, cur, rfl, Nat.le_trans hb hg, r⟩

theorem step_apg1 (W : World) {ops : Array Oper} {o : Oper} {a : Act} {KK : Act → World → Prop} {Q : Exit → Act → World → Prop} {E : Prop} (hgd : o.guard = none) (s x : Operand) (t : TypeId)
    (ho : o.op = .call { callee := .builtin .append, args := #[s, x], argTypes := #[t, t] })
    (e e' : TypeId) (z : Value) (bytes : Nat) (ht : P.underlying t = some (.slice e))
    (hinfo : (P.info? e).map (fun i => (i.zero, i.size, i.bytes)) = some (some z, K.sz, bytes)) (hz : z.cells.size = K.sz) (hsz : 0 < K.sz) (hb0 : 0 < bytes)
    (bb : Addr) (xs : List α) (n cap : Nat) (hs : a.eval s = .slice (some bb) n cap) (hn : n = xs.length) (olds : List Value) (hol : olds.length = xs.length * K.sz) (holds : ∀ j u, olds[j]? = some u → W.cell? (bb.add j) = some u) (hO : ∀ i (h : i < xs.length), K.R S W (cut olds (i * K.sz) K.sz) xs[i])
    (m c : Nat) (hx : a.eval x = .slice (some ⟨W.heap.size, 0, none⟩) m c) (hm : m = 1) (news : Array Value) (y : α) (hy : K.R S W news.toList y)
    (hg : cap < xs.length + 1) (hbytes : (xs.length + 1) * bytes ≤ 140737488355328)
    (h : ∀ v' w', OwR K e W.heap.size S w' v' (xs ++ [y]) → Kp No W w' → KK (a.put o.dst v') w') :
    if Region.wanted o (yielded ops a.tmps) = true then Oper.wp P o a (W.alloc (.cells news e')) KK Q else E := by
  have hw : Region.wanted o (yielded ops a.tmps) = true := by simp [Region.wanted, hgd]
  rw [if_pos hw]
  subst hm
  have hal : Kp No W (W.alloc (.cells news e')) := (Kp.refl _ _).alloc _
  have hlen := K.len hy
  refine wp_apg (K := K) (S := S) (W.alloc (.cells news e')) s x t ho e z bytes ht hinfo hz hsz hb0 bb xs n cap hs hn olds hol (fun j u hj => hal.cell' (holds j u hj)) (fun i hi => Kind.no (hO i hi) hal) ⟨W.heap.size, 0, none⟩ 1 c hx news.toList [y] rfl (by simpa using hlen)
    (World.news_of_block (cs := news) (t := e') (fr := (0, 0)) (heap_alloc_new W _)) (fun i hi => ?_) hg hbytes (fun v' w' h1 h2 => h v' w' (h1.base (by simp)) (hal.trans' h2))
  have : i = 0 := by simpa using hi
  subst this
  simp only [Nat.zero_mul, List.getElem_cons_zero]
  have : cut news.toList 0 K.sz = news.toList := by unfold cut; rw [List.drop_zero, List.take_of_length_le (by omega)]
  rw [this]
  exact Kind.no hy hal
theorem Kp.dr (w : World) : Kp No w w.drew := (Kp.refl _ _).drew

/-! Elements of one cell: read, and stored. -/
theorem cut_row (C : List Value) (i : Nat) (hz : K.sz = 1) : cut C (i * K.sz) K.sz = C[i]?.toList := by
  rw [hz, Nat.mul_one]
  unfold cut
  cases h : C[i]? with
  | none => simp at h; simp [List.drop_of_length_le h]
  | some u => obtain ⟨hlt, rfl⟩ := List.getElem?_eq_some_iff.1 h; rw [List.drop_eq_getElem_cons hlt]; rfl
theorem OwR.at1 {e base g c n : Nat} {w : World} {xs : List α} (h : OwR K e base S w (.slice (some ⟨g, 0, none⟩) n c) xs) (hz : K.sz = 1) {i : Nat} (hi : i < xs.length) :
    ∃ u, w.cell? ⟨g, i, none⟩ = some u ∧ w.frozen? ⟨g, i, none⟩ = false ∧ K.R (fun k => S k ∨ k = g) w [u] xs[i] := by
  obtain ⟨g', c', cur, hv, _, _, _, hh, _, hr⟩ := h.block (by omega)
  injection hv with e1 e2 e3
  injection e1 with e1
  injection e1 with e1
  subst e1
  have h1 := hr i hi
  have hlen := K.len h1
  rw [hz] at h1 hlen
  obtain ⟨u, hu, hC⟩ := cut_len_one hlen
  rw [hu] at h1
  rw [Nat.mul_one] at hC
  exact ⟨u, (cellOf hh _).trans (by simpa using hC), freeOf hh _, h1⟩
theorem OwR.set1 {e base g c n : Nat} {w : World} {xs : List α} (h : OwR K e base S w (.slice (some ⟨g, 0, none⟩) n c) xs) (hz : K.sz = 1) {i : Nat} (hi : i < xs.length) {u : Value} {y : α} (hy : K.R (fun k => S k ∨ k = g) w [u] y) :
    OwR K e base S (w.setCell ⟨g, i, none⟩ u) (.slice (some ⟨g, 0, none⟩) n c) (xs.set i y) := by
  obtain ⟨cells, ho, hr⟩ := h
  have hn : n = xs.length := by
    rcases ho.2 with ⟨h', _⟩ | ⟨g', cap, cur, h', _⟩
    · cases h'
    · injection h'
  subst hn
  have hk : Kp (fun k => k = g) w (w.setCell ⟨g, i, none⟩ u) := (Kp.refl (fun k => k = g) w).setCell (p := ⟨g, i, none⟩) (.inl rfl) u
  have hmv : ∀ k, k < w.heap.size → ¬ (S k ∨ (Value.slice (some ⟨g, 0, none⟩) xs.length c).ownBlock = some k) → ¬ (S k ∨ (Value.slice (some ⟨g, 0, none⟩) xs.length c).ownBlock = some k) ∧ (w.setCell ⟨g, i, none⟩ u).heap[k]? = w.heap[k]? :=
    fun k hk' hn => ⟨hn, hk.block k hk' fun x => hn (.inr (by simp [Value.ownBlock, x]))⟩
  refine ⟨cells.set i u, ?_, fun j hj => ?_⟩
  · have := (ho.stored i u).1
    simpa using this
  · rw [List.length_set] at hj
    rw [cut_row _ _ hz]
    by_cases hij : i = j
    · subst hij
      have hl : i < cells.length := by rw [ho.1, hz]; omega
      rw [List.getElem?_set_self hl, List.getElem_set_self]
      exact K.move hmv (Kind.less hy fun k _ x => by rcases x with x | x; exact .inl x; exact .inr (by simpa [Value.ownBlock, eq_comm] using x))
    · rw [List.getElem?_set_ne hij, List.getElem_set_ne hij, ← cut_row (K := K) _ _ hz]
      exact K.move hmv (hr j hj)

/-- A slice literal of one element. -/
theorem SlR.lit1 {W : World} {news : Array Value} {e : TypeId} {y : α} (hy : K.R S W news.toList y) (hS : ¬ S W.heap.size) : SlR K S (W.alloc (.cells news e)) (.slice (some ⟨W.heap.size, 0, none⟩) 1 1) [y] := by
  have hal : Kp No W (W.alloc (.cells news e)) := (Kp.refl _ _).alloc _
  have hlen := K.len hy
  refine ⟨_, 1, rfl, by simp, by omega, fun _ => ⟨W.heap.size, 0, news, e, (0, 0), rfl, hS, heap_alloc_new W _, fun i hi => ?_⟩⟩
  have : i = 0 := by simpa using hi
  subst this
  simp only [Nat.zero_mul, Nat.add_zero, List.getElem_cons_zero]
  have : cut news.toList 0 K.sz = news.toList := by unfold cut; rw [List.drop_zero, List.take_of_length_le (by omega)]
  rw [this]
  exact Kind.no hy hal
theorem OwR.lit1 {base : Nat} {W : World} {news : Array Value} {e e' : TypeId} {y : α} (he : e' = e) (hb : base ≤ W.heap.size) (hy : K.R S W news.toList y) : OwR K e base S (W.alloc (.cells news e')) (.slice (some ⟨W.heap.size, 0, none⟩) 1 1) [y] := by
  subst he
  have hal : Kp No W (W.alloc (.cells news e')) := (Kp.refl _ _).alloc _
  have hlen := K.len hy
  refine ⟨news.toList, ⟨by simpa using hlen, .inr ⟨W.heap.size, 1, news, rfl, hb, heap_alloc_new W _, by simp, by simp [maxLen], by simpa using hlen, ?_⟩⟩, fun i hi => ?_⟩
  · simp only [List.length_singleton, Nat.one_mul]; rw [List.take_of_length_le (by omega)]
  · have : i = 0 := by simpa using hi
    subst this
    simp only [Nat.zero_mul, List.getElem_cons_zero]
    have : cut news.toList 0 K.sz = news.toList := by unfold cut; rw [List.drop_zero, List.take_of_length_le (by omega)]
    rw [this]
    exact Kind.fresh hy hal (by intro k hk; simp [Value.ownBlock] at hk; omega)

theorem OwR.news {e base g c n : Nat} {w : World} {ys : List α} (h : OwR K e base S w (.slice (some ⟨g, 0, none⟩) n c) ys) :
    ∃ news, n = ys.length ∧ news.length = ys.length * K.sz ∧ (∀ j u, news[j]? = some u → w.cell? ((⟨g, 0, none⟩ : Addr).add j) = some u) ∧ ∀ i (h : i < ys.length), K.R (fun k => S k ∨ k = g) w (cut news (i * K.sz) K.sz) ys[i] := by
  obtain ⟨cells, ho, hr⟩ := h
  have hn : n = ys.length := by
    rcases ho.2 with ⟨h', _⟩ | ⟨g', cap, cur, h', _⟩
    · cases h'
    · injection h'
  subst hn
  exact ⟨cells, rfl, ho.1, ho.cells (g := g) rfl, fun i hi => Kind.less (hr i hi) fun k _ x => by rcases x with x | x; exact .inl x; exact .inr (by simp [Value.ownBlock, x])⟩
end
end Go.Proofs.Ytocpppegmepolaa
