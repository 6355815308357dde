/- flat, the plain part: joined states. -/
import Derived.Test.YtagekjijngbmdaaFl
import Derived.Test.YtagekjijngbmdaaMem3
set_option linter.unusedVariables false
set_option linter.unusedSimpArgs false
namespace Go.Proofs.Ytagekjijngbmdaa

def catL (xs : List ByteArray) : List UInt8 := (xs.map (·.data.toList)).flatten
theorem cat_data (xs : List ByteArray) : (cat xs).data.toList = catL xs := by simp [cat, catL]
theorem ba_ext {x y : ByteArray} (h : x.data.toList = y.data.toList) : x = y := by
  cases x; cases y
  simp at h
  simp [h]
def B48 (xs : List ByteArray) : Prop := ∀ x ∈ xs, x.size = 48
theorem size_list (x : ByteArray) : x.data.toList.length = x.size := rfl

theorem catL_nil : catL [] = [] := rfl
theorem catL_cons (x : ByteArray) (r : List ByteArray) : catL (x :: r) = x.data.toList ++ catL r := by simp [catL]
theorem catL_len {xs : List ByteArray} (h : B48 xs) : (catL xs).length = 48 * xs.length := by
  induction xs with
  | nil => rfl
  | cons x r ih =>
    rw [catL_cons, List.length_append, size_list, h x (by simp), ih fun y hy => h y (by simp [hy]), List.length_cons]
    omega
theorem cat_size {xs : List ByteArray} (h : B48 xs) : (cat xs).size = 48 * xs.length := by rw [← size_list, cat_data, catL_len h]
theorem catL_inj {xs ys : List ByteArray} (hx : B48 xs) (hy : B48 ys) (h : catL xs = catL ys) : xs = ys := by
  induction xs generalizing ys with
  | nil =>
    have := catL_len hy
    rw [← h] at this
    cases ys with
    | nil => rfl
    | cons y r => simp [catL_nil] at this
  | cons x r ih =>
    cases ys with
    | nil => have := catL_len hx; rw [h] at this; simp [catL_nil] at this
    | cons y q =>
      rw [catL_cons, catL_cons] at h
      have hl : x.data.toList.length = y.data.toList.length := by rw [size_list, size_list, hx x (by simp), hy y (by simp)]
      obtain ⟨h1, h2⟩ := List.append_inj h hl
      rw [ba_ext h1, ih (fun z hz => hx z (by simp [hz])) (fun z hz => hy z (by simp [hz])) h2]
theorem cat_inj {xs ys : List ByteArray} (hx : B48 xs) (hy : B48 ys) (h : cat xs = cat ys) : xs = ys :=
  catL_inj hx hy (by rw [← cat_data, ← cat_data, h])

theorem catL_set {xs : List ByteArray} (h : B48 xs) {b : ByteArray} (i : Nat) (hi : i < xs.length) : catL (xs.set i b) = (catL xs).take (48 * i) ++ b.data.toList ++ (catL xs).drop (48 * (i + 1)) := by
  induction xs generalizing i with
  | nil => simp at hi
  | cons x r ih =>
    have hx : x.data.toList.length = 48 := by rw [size_list, h x (by simp)]
    cases i with
    | zero => rw [List.set_cons_zero, catL_cons, catL_cons]; simp [← hx]
    | succ i =>
      rw [List.set_cons_succ, catL_cons, catL_cons, ih (fun y hy => h y (by simp [hy])) i (by simpa using hi)]
      have e1 : 48 * (i + 1) = x.data.toList.length + 48 * i := by omega
      have e2 : 48 * (i + 1 + 1) = x.data.toList.length + 48 * (i + 1) := by omega
      rw [e2, List.drop_length_add_append, e1, List.take_length_add_append, ← e1]
      simp only [List.append_assoc]

theorem extract_list (d : ByteArray) (a b : Nat) : (d.extract a b).data.toList = (d.data.toList.take b).drop a := by
  rw [Lib.extract_data, List.drop_take]
theorem wth_48 {at_ k : Nat} {d : ByteArray} {st : List ByteArray} (h : B48 st) (hd : 48 * k ≤ d.size) : B48 (wth at_ d k st) := by
  induction k with
  | zero => exact h
  | succ k ih =>
    intro x hx
    rcases List.mem_or_eq_of_mem_set hx with hx | rfl
    · exact ih (by omega) x hx
    · rw [← size_list, extract_list]
      simp
      omega
theorem catL_wth {at_ k : Nat} {d : ByteArray} {st : List ByteArray} (h : B48 st) (hd : 48 * k ≤ d.size) (hk : at_ + k ≤ st.length) :
    catL (wth at_ d k st) = (catL st).take (48 * at_) ++ d.data.toList.take (48 * k) ++ (catL st).drop (48 * (at_ + k)) := by
  induction k with
  | zero => simp [wth]
  | succ k ih =>
    have hl := catL_len h
    have hdl := size_list d
    rw [wth, catL_set (wth_48 h (by omega)) _ (by rw [wth_len]; omega), ih (by omega) (by omega), extract_list]
    have h1 : ((catL st).take (48 * at_)).length = 48 * at_ := by simp; omega
    have h2 : (d.data.toList.take (48 * k)).length = 48 * k := by rw [List.length_take]; omega
    have h3 : ((catL st).take (48 * at_) ++ d.data.toList.take (48 * k)).length = 48 * (at_ + k) := by rw [List.length_append, h1, h2]; omega
    obtain ⟨X, hX⟩ : ∃ X, X = (catL st).take (48 * at_) ++ d.data.toList.take (48 * k) := ⟨_, rfl⟩
    rw [← hX] at h3 ⊢
    have e1 : 48 * (at_ + k + 1) = X.length + 48 := by rw [h3]; omega
    have e2 : d.data.toList.take (48 * (k + 1)) = d.data.toList.take (48 * k) ++ (d.data.toList.take (48 * (k + 1))).drop (48 * k) := by
      have := List.take_append_drop (48 * k) (d.data.toList.take (48 * (k + 1)))
      rw [List.take_take, Nat.min_eq_left (by omega)] at this
      exact this.symm
    rw [e1, List.drop_length_add_append, ← h3, List.take_left, List.drop_drop, h3, hX]
    conv => rhs; rw [e2]
    simp only [List.append_assoc]
    congr 4
/-- What the statement reckons for a Write: the joined state behind it. -/
theorem cat_wth {at_ : Nat} {d : ByteArray} {st : List ByteArray} (h : B48 st) (hd : d.size % 48 = 0) (hk : at_ + d.size / 48 ≤ st.length) :
    (cat st).extract 0 (48 * at_) ++ d ++ (cat st).extract (48 * at_ + d.size) (cat st).size = cat (wth at_ d (d.size / 48) st) := by
  apply ba_ext
  have hds : 48 * (d.size / 48) = d.size := by omega
  rw [cat_data, catL_wth h (by omega) hk, hds, ByteArray.data_append, ByteArray.data_append, Array.toList_append, Array.toList_append, extract_list, extract_list, cat_data]
  have hl := catL_len h
  rw [cat_size h]
  congr 1
  · congr 1
    rw [List.take_of_length_le (l := d.data.toList) (by rw [size_list]; omega)]
  · rw [List.take_of_length_le (by omega)]
    congr 1
    omega
theorem zeros_list (n : Nat) : (zeros n).data.toList = List.replicate n 0 := by simp [zeros]
theorem cat_zst (n : Nat) : cat (List.replicate n (zeros 48)) = zeros (48 * n) := by
  apply ba_ext
  rw [cat_data, zeros_list]
  induction n with
  | zero => rfl
  | succ n ih => rw [List.replicate_succ, catL_cons, ih, zeros_list, List.replicate_append_replicate]; congr 1; omega

/-! ## What may be behind a crash -/
theorem ddps_nodup (l : List St) : ∀ outs, outs.Nodup → (l.foldl ddp outs).Nodup := by
  induction l with
  | nil => intro outs h; exact h
  | cons s r ih =>
    intro outs h
    refine ih _ ?_
    unfold ddp
    split
    · exact h
    · rename_i hn
      refine List.nodup_append.2 ⟨h, by simp, fun a ha b hb => ?_⟩
      obtain rfl : b = s := by simpa using hb
      rintro rfl
      exact hn (has_true.2 ha)
theorem mem_crash {cs : List Ch} {x : St} : x ∈ crashS cs ↔ x ∈ cs.flatten :=
  ⟨fun h => by rcases ddps_mem _ _ _ h with h | h; simp at h; exact h, fun h => ddps_all _ _ _ h⟩
theorem filter_one {α : Type} {l : List α} (h : l.Nodup) {a : α} (ha : a ∈ l) {p : α → Bool} (hp : ∀ x ∈ l, p x = true ↔ x = a) : l.filter p = [a] := by
  induction l with
  | nil => simp at ha
  | cons y r ih =>
    rw [List.nodup_cons] at h
    by_cases hy : y = a
    · subst hy
      rw [List.filter_cons_of_pos ((hp y (by simp)).2 rfl)]
      congr 1
      rw [List.filter_eq_nil_iff]
      intro x hx hpx
      have := (hp x (by simp [hx])).1 hpx
      subst this
      exact h.1 hx
    · rw [List.filter_cons_of_neg (fun hpx => hy ((hp y (by simp)).1 hpx))]
      refine ih h.2 ?_ fun x hx => hp x (by simp [hx])
      rcases List.mem_cons.1 ha with h' | h'
      · exact absurd h'.symm hy
      · exact h'
theorem filter_map_one (p : Ch → Bool) (l : List St) : (l.map one).filter p = (l.filter fun s => p (one s)).map one := by
  rw [List.filter_map]; rfl
theorem sw_one {N : Nat} {st : St} {x : ByteArray} (hx : x.size = 48 * N) (hst : st.length = N) : sw 0 x (one st) = decide (cat st = x) := by
  have : x.size / 48 = N := by omega
  unfold sw pt
  rw [this]
  have : lst (one st) = st := rfl
  rw [this, List.drop_zero, List.take_of_length_le (by omega)]
/-- One state is found, and it alone is left. -/
theorem crash_saw {N : Nat} {ch : Ch} (hok : Okc N [ch]) {s : ByteArray} (hs : s ∈ ch.map cat) : s.size = 48 * N ∧ ∃ st, st ∈ ch ∧ ((crashS [ch]).map one).filter (sw 0 s) = [one st] := by
  obtain ⟨st, hst, rfl⟩ := List.mem_map.1 hs
  have h := (hok ch (by simp)).2
  have hz : (cat st).size = 48 * N := by rw [cat_size (h st hst).2, (h st hst).1]
  refine ⟨hz, st, hst, ?_⟩
  have := filter_one (a := st) (p := fun s => sw 0 (cat st) (one s)) (l := crashS [ch]) (ddps_nodup _ _ (by simp)) (mem_crash.2 (by simpa using hst)) fun x hx => by
    have hx' : x ∈ ch := by simpa using mem_crash.1 hx
    rw [sw_one hz (h x hx').1, decide_eq_true_eq]
    exact ⟨fun e => cat_inj (h x hx').2 (h st hst).2 e, fun e => by rw [e]⟩
  rw [filter_map_one, this]
  rfl
theorem crash_pos {N : Nat} {ch : Ch} (hok : Okc N [ch]) : 0 < (crashS [ch]).length := by
  have h := (hok ch (by simp)).1
  cases ch with
  | nil => simp at h
  | cons s r => exact List.length_pos_of_mem (mem_crash.2 (show s ∈ [s :: r].flatten by simp))
theorem crash_len (ch : Ch) : (crashS [ch]).length ≤ ch.length := by
  have := ddps_len [ch].flatten []
  simpa [crashS] using this
theorem crash_ok {N : Nat} {ch : Ch} (hok : Okc N [ch]) : Okc N ((crashS [ch]).map one) := by
  intro c hc
  obtain ⟨s, hs, rfl⟩ := List.mem_map.1 hc
  have hs' : s ∈ ch := by simpa using mem_crash.1 hs
  exact ⟨by simp [one], fun t ht => by obtain rfl : t = s := (by simpa [one] using ht); exact (hok ch (by simp)).2 t hs'⟩
theorem crash_is {N : Nat} {ch : Ch} (hok : Okc N [ch]) {x : ByteArray} (hx : x.size = 48 * N) : (!(((crashS [ch]).map one).filter (sw 0 x)).isEmpty) = (ch.map cat).any fun y => decide (y = x) := by
  have h := (hok ch (by simp)).2
  rw [filter_map_one]
  by_cases hy : ∃ st ∈ ch, cat st = x
  · obtain ⟨st, hst, rfl⟩ := hy
    have h1 : (ch.map cat).any (fun y => decide (y = cat st)) = true := List.any_eq_true.2 ⟨cat st, List.mem_map.2 ⟨st, hst, rfl⟩, by simp⟩
    have h2 : st ∈ (crashS [ch]).filter fun s => sw 0 (cat st) (one s) := List.mem_filter.2 ⟨mem_crash.2 (by simpa using hst), by rw [sw_one hx (h st hst).1]; simp⟩
    rw [h1]
    cases hl : (crashS [ch]).filter fun s => sw 0 (cat st) (one s) with
    | nil => rw [hl] at h2; simp at h2
    | cons a r => rfl
  · have h1 : (ch.map cat).any (fun y => decide (y = x)) = false := by
      rw [List.any_eq_false]
      intro y hy' he
      obtain ⟨st, hst, rfl⟩ := List.mem_map.1 hy'
      exact hy ⟨st, hst, by simpa using he⟩
    have h2 : (crashS [ch]).filter (fun s => sw 0 x (one s)) = [] := by
      rw [List.filter_eq_nil_iff]
      intro s hs
      have hs' : s ∈ ch := by simpa using mem_crash.1 hs
      rw [sw_one hx (h s hs').1, decide_eq_true_eq]
      exact fun e => hy ⟨s, hs', e⟩
    rw [h1, h2]
    rfl
end Go.Proofs.Ytagekjijngbmdaa
