/- The model and the document's answer, side by side: the plain part. -/
import Derived.Test.YtagekjijngbmdaaFv
set_option linter.unusedVariables false
set_option linter.unusedSimpArgs false
namespace Go.Proofs.Ytagekjijngbmdaa
open Go.RowKit

/-- The reference's chains: each state as one text. -/
def refOf (cs : List Ch) : List RCh := cs.map (·.map cat)
theorem rlst_cat {c : Ch} (h : 0 < c.length) : rlst (c.map cat) = cat (lst c) := by
  have h1 := rlst_get (c := c.map cat) (by simpa using h)
  have h2 := lst_get h
  rw [List.length_map, List.getElem?_map, h2] at h1
  simpa using h1.symm
theorem refOf_len (cs : List Ch) : (refOf cs).length = cs.length := by simp [refOf]
theorem flat_len (cs : List Ch) : cs.flatten.length = cnt cs := by simp [cnt, List.length_flatten]
theorem refOf_cnt (cs : List Ch) : rcnt (refOf cs) = cnt cs := by
  unfold rcnt cnt refOf
  rw [List.map_map]
  congr 1
  apply List.map_congr_left
  intro c _
  simp
theorem refOf_flat (cs : List Ch) : (refOf cs).flatten = cs.flatten.map cat := by
  unfold refOf
  rw [List.map_flatten]
theorem len_le_flat {cs : List Ch} {c : Ch} (h : c ∈ cs) : c.length ≤ cs.flatten.length := by
  induction cs with
  | nil => simp at h
  | cons x r ih =>
    rw [List.flatten_cons, List.length_append]
    rcases List.mem_cons.1 h with rfl | h
    · omega
    · have := ih h; omega
theorem num_le_flat {N : Nat} {cs : List Ch} (h : Okc N cs) : cs.length ≤ cs.flatten.length := by
  induction cs with
  | nil => simp
  | cons x r ih =>
    have h1 := (h x (by simp)).1
    have h2 := ih fun c hc => h c (by simp [hc])
    rw [List.flatten_cons, List.length_append, List.length_cons]
    omega
theorem okr_of {N : Nat} {cs : List Ch} (h : Okc N cs) (hf : cs.flatten.length ≤ 1000000000) : Okr N (refOf cs) := by
  intro c hc
  obtain ⟨c', hc', rfl⟩ := List.mem_map.1 hc
  obtain ⟨h1, h2⟩ := h c' hc'
  have := len_le_flat hc'
  refine ⟨by simpa using h1, by rw [List.length_map]; omega, fun x hx => ?_⟩
  obtain ⟨s, hs, rfl⟩ := List.mem_map.1 hx
  rw [cat_size (h2 s hs).2, (h2 s hs).1]

/-! Write -/
theorem refOf_wr1 {N at_ : Nat} {d : ByteArray} {cs : List Ch} (h : Okc N cs) (hd : d.size % 48 = 0) (hk : at_ + d.size / 48 ≤ N) : (refOf cs).map (rw1 at_ d) = refOf (cs.map (wr1 at_ d)) := by
  unfold refOf
  rw [List.map_map, List.map_map]
  apply List.map_congr_left
  intro c hc
  obtain ⟨h1, h2⟩ := h c hc
  obtain ⟨h3, h4⟩ := h2 _ (lst_mem h1)
  show rw1 at_ d (c.map cat) = (wr1 at_ d c).map cat
  unfold rw1 wr1 rwr
  rw [rlst_cat h1, List.map_append, List.map_singleton, cat_wth h4 hd (by rw [h3]; exact hk)]
theorem flat_wr1 (at_ : Nat) (d : ByteArray) (cs : List Ch) : (cs.map (wr1 at_ d)).flatten.length = cs.flatten.length + cs.length := by
  induction cs with
  | nil => rfl
  | cons c r ih =>
    rw [List.map_cons, List.flatten_cons, List.flatten_cons, List.length_append, List.length_append, ih, List.length_cons]
    unfold wr1
    rw [List.length_append, List.length_singleton]
    omega
theorem okc_wr {N at_ : Nat} {d : ByteArray} {cs : List Ch} (h : Okc N cs) : Okc N (cs.map (wr1 at_ d)) := by
  intro c hc
  obtain ⟨c', hc', rfl⟩ := List.mem_map.1 hc
  obtain ⟨h1, h2⟩ := h c' hc'
  refine ⟨by unfold wr1; simp, fun s hs => ?_⟩
  rcases List.mem_append.1 hs with hs | hs
  · exact h2 s hs
  · obtain rfl : s = wth at_ d (d.size / 48) (lst c') := by simpa using hs
    obtain ⟨h3, h4⟩ := h2 _ (lst_mem h1)
    exact ⟨by rw [wth_len, h3], wth_48 h4 (by omega)⟩

/-! Safe -/
theorem refOf_sf1 {N : Nat} {cs : List Ch} (h : Okc N cs) : (refOf cs).map rsf = refOf (cs.map sf1) := by
  unfold refOf
  rw [List.map_map, List.map_map]
  apply List.map_congr_left
  intro c hc
  show rsf (c.map cat) = (sf1 c).map cat
  unfold rsf sf1
  rw [rlst_cat (h c hc).1]
  rfl
theorem flat_sf1 (cs : List Ch) : (cs.map sf1).flatten.length = cs.length := by
  induction cs with
  | nil => rfl
  | cons c r ih => rw [List.map_cons, List.flatten_cons, List.length_append, ih, List.length_cons]; unfold sf1; rw [List.length_singleton]; omega
theorem okc_sf1 {N : Nat} {cs : List Ch} (h : Okc N cs) : Okc N (cs.map sf1) := by
  intro c hc
  obtain ⟨c', hc', rfl⟩ := List.mem_map.1 hc
  obtain ⟨h1, h2⟩ := h c' hc'
  refine ⟨by simp [sf1], fun s hs => ?_⟩
  obtain rfl : s = lst c' := by simpa [sf1] using hs
  exact h2 _ (lst_mem h1)

/-! Saw, Read -/
theorem catL_drop {xs : List ByteArray} (h : B48 xs) (i : Nat) : (catL xs).drop (48 * i) = catL (xs.drop i) := by
  induction i generalizing xs with
  | zero => rfl
  | succ i ih =>
    cases xs with
    | nil => simp [catL_nil]
    | cons x r =>
      have hx : x.data.toList.length = 48 := by rw [size_list, h x (by simp)]
      rw [catL_cons, show 48 * (i + 1) = x.data.toList.length + 48 * i by omega, List.drop_length_add_append, ih fun y hy => h y (by simp [hy])]
      rfl
theorem catL_take {xs : List ByteArray} (h : B48 xs) (i : Nat) : (catL xs).take (48 * i) = catL (xs.take i) := by
  induction i generalizing xs with
  | zero => rfl
  | succ i ih =>
    cases xs with
    | nil => simp [catL_nil]
    | cons x r =>
      have hx : x.data.toList.length = 48 := by rw [size_list, h x (by simp)]
      rw [catL_cons, show 48 * (i + 1) = x.data.toList.length + 48 * i by omega, List.take_length_add_append, ih fun y hy => h y (by simp [hy]), List.take_succ_cons, catL_cons]
theorem cat_part {xs : List ByteArray} (h : B48 xs) (a n : Nat) : (cat xs).extract (48 * a) (48 * a + 48 * n) = cat ((xs.drop a).take n) := by
  apply ba_ext
  rw [extract_list, cat_data, cat_data, ← List.take_drop, catL_drop h, catL_take fun x hx => h x (List.mem_of_mem_drop hx)]
theorem rpt_pt {N at_ n : Nat} {cs : List Ch} (h : Okc N cs) {c : Ch} (hc : c ∈ cs) : rpt at_ n (c.map cat) = pt at_ n c := by
  obtain ⟨h1, h2⟩ := h c hc
  unfold rpt pt
  rw [rlst_cat h1, cat_part (h2 _ (lst_mem h1)).2]
theorem refOf_filter {N at_ : Nat} {d : ByteArray} {cs : List Ch} (h : Okc N cs) (hd : d.size % 48 = 0) : (refOf cs).filter (rsw at_ d) = refOf (cs.filter (sw at_ d)) := by
  unfold refOf
  rw [List.filter_map]
  congr 1
  apply List.filter_congr
  intro c hc
  have h1 := rpt_pt (at_ := at_) (n := d.size / 48) h hc
  unfold rpt at h1
  show rsw at_ d (c.map cat) = sw at_ d c
  unfold rsw sw
  rw [← h1, show 48 * (d.size / 48) = d.size by omega]
theorem refOf_empty (cs : List Ch) : (refOf cs).isEmpty = cs.isEmpty := by cases cs <;> rfl
theorem okc_filter {N : Nat} {cs : List Ch} (h : Okc N cs) (p : Ch → Bool) : Okc N (cs.filter p) := fun c hc => h c (List.mem_filter.1 hc).1
theorem flat_filter (p : Ch → Bool) (cs : List Ch) : (cs.filter p).flatten.length ≤ cs.flatten.length := by
  induction cs with
  | nil => simp
  | cons c r ih =>
    rw [List.filter_cons]
    split
    · simp only [List.flatten_cons, List.length_append]; omega
    · simp only [List.flatten_cons, List.length_append]; omega
theorem read_both {N at_ n : Nat} {cs : List Ch} (h : Okc N cs) (h0 : 0 < cs.length) (h0' : 0 < (refOf cs).length) :
    (∃ t, readRes at_ n cs cs[0] = .tuple #[.string t, .int .i64 0] ∧ rreadRes at_ n (refOf cs) (refOf cs)[0] = .tuple #[.string t, .bool true]) ∨
    (readRes at_ n cs cs[0] = .tuple #[.string ⟨#[]⟩, .int .i64 15] ∧ rreadRes at_ n (refOf cs) (refOf cs)[0] = .tuple #[.string ⟨#[]⟩, .bool false]) := by
  have e0 : (refOf cs)[0] = (cs[0]).map cat := by simp [refOf]
  have hp0 := rpt_pt (at_ := at_) (n := n) h (List.getElem_mem h0)
  have hall : ((refOf cs).all fun c => decide (rpt at_ n c = rpt at_ n (refOf cs)[0])) = cs.all fun c => decide (pt at_ n c = pt at_ n cs[0]) := by
    rw [e0, hp0]
    unfold refOf
    rw [List.all_map]
    rw [Bool.eq_iff_iff, List.all_eq_true, List.all_eq_true]
    constructor
    · intro hh c hc
      have := hh c hc
      simp only [Function.comp_apply] at this
      rwa [rpt_pt h hc] at this
    · intro hh c hc
      have := hh c hc
      simp only [Function.comp_apply]
      rwa [rpt_pt h hc]
  unfold readRes rreadRes
  rw [hall]
  cases hb : (cs.all fun c => decide (pt at_ n c = pt at_ n cs[0]))
  · exact .inr ⟨rfl, rfl⟩
  · refine .inl ⟨pt at_ n cs[0], rfl, ?_⟩
    rw [e0, hp0]; rfl

/-! Crash -/
theorem rhas_cat {os : List St} {s : St} (ho : ∀ o ∈ os, B48 o) (hs : B48 s) : rhas (os.map cat) (cat s) = has os s := by
  unfold rhas has
  rw [List.any_map, Bool.eq_iff_iff, List.any_eq_true, List.any_eq_true]
  constructor
  · rintro ⟨o, h1, h2⟩
    exact ⟨o, h1, decide_eq_true (cat_inj (ho o h1) hs (of_decide_eq_true h2)).symm⟩
  · rintro ⟨o, h1, h2⟩
    exact ⟨o, h1, decide_eq_true (by rw [of_decide_eq_true h2])⟩
theorem rddps_cat (l : List St) : ∀ os : List St, (∀ o ∈ os, B48 o) → (∀ o ∈ l, B48 o) → (l.map cat).foldl rddp (os.map cat) = (l.foldl ddp os).map cat := by
  induction l with
  | nil => intro os _ _; rfl
  | cons s r ih =>
    intro os ho hl
    have h1 : rddp (os.map cat) (cat s) = (ddp os s).map cat := by
      unfold rddp ddp
      rw [rhas_cat ho (hl s (by simp))]
      split
      · rfl
      · rw [List.map_append]; rfl
    rw [List.map_cons, List.foldl_cons, List.foldl_cons, h1]
    refine ih _ (fun o h => ?_) fun o h => hl o (by simp [h])
    rcases ddp_mem h with h | rfl
    · exact ho o h
    · exact hl _ (by simp)
theorem refOf_crash {N : Nat} {cs : List Ch} (h : Okc N cs) : (rcrashS (refOf cs)).map rone = refOf ((crashS cs).map one) := by
  unfold rcrashS
  rw [refOf_flat]
  have := rddps_cat cs.flatten [] (by simp) fun o ho => by
    obtain ⟨c, hc, hs⟩ := List.mem_flatten.1 ho
    exact ((h c hc).2 o hs).2
  rw [List.map_nil] at this
  rw [this]
  unfold refOf crashS
  rw [List.map_map, List.map_map]
  rfl
theorem flat_one (l : List St) : (l.map one).flatten.length = l.length := by
  induction l with
  | nil => rfl
  | cons c r ih => rw [List.map_cons, List.flatten_cons, List.length_append, ih, List.length_cons]; unfold one; rw [List.length_singleton]; omega
theorem crash_le (cs : List Ch) : (crashS cs).length ≤ cs.flatten.length := by
  have := ddps_len cs.flatten []
  simpa [crashS] using this
theorem okc_crash {N : Nat} {cs : List Ch} (h : Okc N cs) : Okc N ((crashS cs).map one) := by
  intro c hc
  obtain ⟨s, hs, rfl⟩ := List.mem_map.1 hc
  obtain ⟨c', hc', hs'⟩ := List.mem_flatten.1 (mem_crash.1 hs)
  exact ⟨by simp [one], fun t ht => by obtain rfl : t = s := (by simpa [one] using ht); exact (h c' hc').2 t hs'⟩
theorem crash_pos' {N : Nat} {cs : List Ch} (h : Okc N cs) (h0 : 0 < cs.length) : 0 < (crashS cs).length := by
  have h1 := (h cs[0] (List.getElem_mem h0)).1
  exact List.length_pos_of_mem (mem_crash.2 (List.mem_flatten.2 ⟨cs[0], List.getElem_mem h0, List.getElem_mem (n := 0) h1⟩))

/-! ## Both in memory -/
/-- A model and the document's answer, that say the same; neither touches the other, nor S. -/
def Both (S : Nat → Prop) (w : World) (b g bx N : Nat) (cs : List Ch) : Prop :=
  FlatR (fun k => S k ∨ k = bx) w b g N cs ∧ RefR (fun k => (S k ∨ k = b) ∨ k = g) w bx N (refOf cs) ∧ Okc N cs ∧ 0 < cs.length
theorem FlatR.lt {S : Nat → Prop} {w : World} {b g N : Nat} {cs : List Ch} (h : FlatR S w b g N cs) : b < w.heap.size ∧ g < w.heap.size := by
  obtain ⟨c, h1, h2, _⟩ := h
  exact ⟨blt h1, (h2.lt (k := g) rfl).2⟩
theorem RefR.lt {S : Nat → Prop} {w : World} {b N : Nat} {rs : List RCh} (h : RefR S w b N rs) : b < w.heap.size := by
  obtain ⟨c, h1, _⟩ := h
  exact blt h1
theorem Both.no {S : Nat → Prop} {w w' : World} {b g bx N : Nat} {cs : List Ch} (h : Both S w b g bx N cs) (hk : Kp No w w') : Both S w' b g bx N cs := ⟨h.1.no hk, h.2.1.no hk, h.2.2⟩
theorem Both.move {S S' : Nat → Prop} {w w' : World} {b g bx N : Nat} {cs : List Ch} (h : Both S w b g bx N cs) (hm : ∀ k, k < w.heap.size → ¬ S k → ¬ S' k ∧ w'.heap[k]? = w.heap[k]?) : Both S' w' b g bx N cs := by
  refine ⟨h.1.move fun k hk hn => ?_, h.2.1.move fun k hk hn => ?_, h.2.2⟩
  · have := hm k hk fun x => hn (.inl x)
    exact ⟨fun x => by rcases x with x | x; exact this.1 x; exact hn (.inr x), this.2⟩
  · have := hm k hk fun x => hn (.inl (.inl x))
    exact ⟨fun x => by rcases x with (x | x) | x; exact this.1 x; exact hn (.inl (.inr x)); exact hn (.inr x), this.2⟩
theorem ref_after {S T : Nat → Prop} {w w1 : World} {b g g' bx N : Nat} {rs : List RCh} (h : RefR (fun k => (S k ∨ k = b) ∨ k = g) w bx N rs) (hk : Kp T w w1) (hT : ∀ k, T k → k = b ∨ k = g) (hg : g' = g ∨ w.heap.size ≤ g') : RefR (fun k => (S k ∨ k = b) ∨ k = g') w1 bx N rs :=
  h.move fun k hk' hn => ⟨fun x => by
    rcases x with x | x
    · exact hn (.inl x)
    · rcases hg with hg | hg
      · exact hn (.inr (x.trans hg))
      · omega, hk.block k hk' fun x => hn (by rcases hT k x with y | y; exact .inl (.inr y); exact .inr y)⟩
theorem flat_after {S : Nat → Prop} {w w1 : World} {b g bx N : Nat} {cs : List Ch} (h : FlatR (fun k => S k ∨ k = bx) w b g N cs) (hk : Kp (fun k => k = bx) w w1) : FlatR (fun k => S k ∨ k = bx) w1 b g N cs :=
  h.move fun k hk' hn => ⟨hn, hk.block k hk' fun x => hn (.inr x)⟩
/-- What one call of both leaves. -/
def DoPost (S : Nat → Prop) (w : World) (b g bx N : Nat) (cs : List Ch) (e : Ending) (w' : World) : Prop :=
  e = .returned (.bool true) ∧ ∃ g' cs', Both S w' b g' bx N cs' ∧ cs'.flatten.length ≤ 2 * cs.flatten.length ∧ cs'.length ≤ cs.flatten.length ∧ (g' = g ∨ w.heap.size ≤ g') ∧ Kp (fun k => (k = b ∨ k = g) ∨ k = bx) w w'
end Go.Proofs.Ytagekjijngbmdaa
