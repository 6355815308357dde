/- Contracts of the small functions of flat. -/
import Derived.Test.YtagekjijngbmdaaRows
import Derived.Test.YtagekjijngbmdaaMem2
import Derived.Test.YtagekjijngbmdaaShelf
import Derived.WalkLawsBesides
import Derived.Lib.Hide
import Derived.Handy
import Derived.BigQuiet
import Derived.Deep.QuietTactic
set_option linter.unusedVariables false
set_option linter.unusedSimpArgs false
namespace Go.Proofs.Ytagekjijngbmdaa
open Go.RowKit

theorem I_str : (Try.prog.info? 9).map (fun i => (i.zero, i.size, i.bytes)) = some (some (.string ⟨#[]⟩), 1, 16) := by kernel_rfl

theorem ret_int {k : IntKind} {a b : Int} (h : a = b) : Ending.returned (.int k a) = .returned (.int k b) := by rw [h]
theorem ret_bool {a b : Bool} (h : a = b) : Ending.returned (.bool a) = .returned (.bool b) := by rw [h]
theorem ret_str {a b : ByteArray} (h : a = b) : Ending.returned (.string a) = .returned (.string b) := by rw [h]
def i64 (n : Int) : Prop := -9223372036854775808 ≤ n ∧ n ≤ 9223372036854775807

def mayF (N at_ n : Int) : Int := if n < 1 then 2 else if at_ < 0 ∨ n > N ∨ at_ > N - n then 3 else 0
def dataF (N at_ : Int) (len : Nat) : Int := if len % 48 ≠ 0 then 2 else mayF N at_ (len / 48 : Nat)

set_option maxHeartbeats 400000 in
theorem may_nil (at_ n : Int) (w : World) :
    Calls Try.prog 38 #[.pointer none, .int .i64 at_, .int .i64 n] w fun e w' => e = .returned (.int .i64 1) ∧ w = w' := by
  go_enter Try.func38, Try.ntmps38
  go_wp2
  go_ret
  exact ⟨rfl, rfl⟩

set_option maxHeartbeats 400000 in
theorem may_some (at_ n N : Int) (b : Nat) (w : World) (h1 : 1 ≤ N) (h2 : N ≤ 64) (ha : i64 at_) (hn : i64 n)
    (hc : w.cell? ⟨b, 0, none⟩ = some (.int .i64 N)) :
    Calls Try.prog 38 #[.pointer (some ⟨b, 0, none⟩), .int .i64 at_, .int .i64 n] w fun e w' => e = .returned (.int .i64 (mayF N at_ n)) ∧ w = w' := by
  unfold i64 at ha hn
  by_cases c1 : n < 1
  · go_enter Try.func38, Try.ntmps38
    go_wp2
    go_ret
    exact ⟨by simp [mayF, c1], rfl⟩
  · by_cases c2 : at_ < 0
    · go_enter Try.func38, Try.ntmps38
      go_wp2
      go_ret
      exact ⟨by simp [mayF, c1, c2], rfl⟩
    · by_cases c3 : N < n
      · go_enter Try.func38, Try.ntmps38
        go_wp2
        go_ret
        exact ⟨by simp [mayF, c1, c2, c3], rfl⟩
      · by_cases c4 : N - n < at_
        · go_enter Try.func38, Try.ntmps38
          go_wp2
          go_ret
          exact ⟨by simp [mayF, c1, c2, c3, c4], rfl⟩
        · go_enter Try.func38, Try.ntmps38
          go_wp2
          go_ret
          exact ⟨ret_int (by unfold mayF; rw [if_neg (by omega), if_neg (by omega)]), rfl⟩

set_option maxHeartbeats 400000 in
theorem data_nil (at_ : Int) (s : ByteArray) (w : World) (hs : s.size ≤ 1000000) :
    Calls Try.prog 23 #[.pointer none, .int .i64 at_, .string s] w fun e w' => e = .returned (.int .i64 1) ∧ w = w' := by
  go_enter Try.func23, Try.ntmps23
  go_wp2_with (go_at_call 38; refine (may_nil _ _ _).mono ?_; rintro e w' ⟨rfl, rfl⟩)
  go_ret
  exact ⟨rfl, rfl⟩

set_option maxHeartbeats 400000 in
theorem data_some (at_ N : Int) (s : ByteArray) (b : Nat) (w : World) (h1 : 1 ≤ N) (h2 : N ≤ 64) (ha : i64 at_) (hs : s.size ≤ 1000000)
    (hc : w.cell? ⟨b, 0, none⟩ = some (.int .i64 N)) :
    Calls Try.prog 23 #[.pointer (some ⟨b, 0, none⟩), .int .i64 at_, .string s] w fun e w' => e = .returned (.int .i64 (dataF N at_ s.size)) ∧ w = w' := by
  by_cases c1 : (s.size : Int) % 48 = 0
  · go_enter Try.func23, Try.ntmps23
    go_wp2_with (go_at_call 38; refine (may_some _ _ N b _ h1 h2 ha ?_ hc).mono ?_; (unfold i64; omega); rintro e w' ⟨rfl, rfl⟩)
    go_ret
    exact ⟨ret_int (by unfold dataF; rw [if_neg (by omega)]; rfl), rfl⟩
  · go_enter Try.func23, Try.ntmps23
    go_wp2
    go_ret
    exact ⟨ret_int (by unfold dataF; rw [if_pos (by omega)]), rfl⟩

/-! A chain's last state. -/
set_option maxHeartbeats 400000 in
theorem last_any {α : Type} {K : Kind α} {S : Nat → Prop} (v : Value) (xs : List (List α)) (x : List α) (w : World) (h : SlR (KSl K) S w v xs) (hx : xs[xs.length - 1]? = some x) :
    Calls Try.prog 25 #[v] w fun e w' => (∃ u, e = .returned u ∧ SlR K S w u x) ∧ w = w' := by
  obtain ⟨hlt, hx'⟩ := List.getElem?_eq_some_iff.1 hx
  have h0 : 0 < xs.length := by omega
  obtain ⟨b, o, c, rfl, h1, h2, _, _, hr⟩ := h.open1 rfl h0
  obtain ⟨u, hc, hu⟩ := hr (xs.length - 1) hlt
  rw [hx'] at hu
  obtain ⟨n, hn⟩ : ∃ n, n = xs.length := ⟨_, rfl⟩
  simp only [← hn] at hc h0 h1 ⊢
  have HU := Lib.hid (KSl_R hu)
  clear hu hr h hlt hx hx' hn
  go_enter Try.func25, Try.ntmps25
  go_wp2
  go_ret
  exact ⟨⟨_, rfl, HU.out⟩, rfl⟩

/-! Blocks of a state, joined. -/
def cat (xs : List ByteArray) : ByteArray := ⟨(xs.map (·.data.toList)).flatten.toArray⟩
theorem intersperse_nil : ∀ l : List (List UInt8), (l.intersperse []).flatten = l.flatten
  | [] => rfl
  | [x] => rfl
  | x :: y :: r => by rw [List.intersperse_cons_cons, List.flatten_cons, List.flatten_cons, intersperse_nil (y :: r)]; simp
theorem join_nil (l : List (List UInt8)) : Lib.join l [] = l.flatten := intersperse_nil l
theorem cat_len (xs : List ByteArray) (m : Nat) (h : ∀ x ∈ xs, x.size ≤ m) : (cat xs).size ≤ xs.length * m := by
  unfold cat
  induction xs with
  | nil => simp [ByteArray.size]
  | cons x r ih =>
    have h1 := h x (by simp)
    have h2 := ih (fun y hy => h y (by simp [hy]))
    simp only [ByteArray.size, List.size_toArray] at h1 h2
    simp only [List.map_cons, List.flatten_cons, ByteArray.size, List.size_toArray, List.length_append, List.length_cons, Nat.add_mul, Nat.one_mul, Array.length_toList]
    omega

set_option maxHeartbeats 400000 in
theorem part_any {S : Nat → Prop} (v : Value) (xs : List ByteArray) (at_ n : Nat) (w : World) (h : SlR KStr S w v xs) (h1 : 1 ≤ n) (h2 : at_ + n ≤ xs.length) (h3 : xs.length ≤ 1000) (h4 : ∀ x ∈ xs, x.size ≤ 1000) :
    Calls Try.prog 30 #[v, .int .i64 at_, .int .i64 n] w fun e w' => e = .returned (.string (cat ((xs.drop at_).take n))) ∧ Kp No w w' := by
  obtain ⟨b, o, c, rfl, hc1, hc2, _, hb, hr⟩ := h.open1 rfl (by omega)
  obtain ⟨ys, hys⟩ : ∃ ys, ys = (xs.drop at_).take n := ⟨_, rfl⟩
  have hyl : ys.length = n := by rw [hys]; simp; omega
  have hcells : ∀ (j : Nat) x, ys[j]? = some x → w.cell? ⟨b, o + at_ + j, none⟩ = some (.string x) := by
    intro j x hx
    have hj : j < ys.length := (List.getElem?_eq_some_iff.1 hx).1
    rw [hys, List.getElem?_take, if_pos (by omega), List.getElem?_drop] at hx
    obtain ⟨hlt, hx'⟩ := List.getElem?_eq_some_iff.1 hx
    obtain ⟨u, hu, hR⟩ := hr (at_ + j) hlt
    rw [hx'] at hR
    rw [← KStr_R hR, Nat.add_assoc]
    exact hu
  have hlen := cat_len ys 1000 (fun x hx => h4 x (List.mem_of_mem_drop (List.mem_of_mem_take (hys ▸ hx))))
  have hjl : (Lib.join (ys.map (·.data.toList)) (ByteArray.mk #[]).data.toList) = (ys.map (·.data.toList)).flatten := join_nil _
  have hcl : (cat ys).size = (ys.map (·.data.toList)).flatten.length := by simp [cat, ByteArray.size]
  have hm : n * 1000 ≤ 1000000 := by omega
  have HJ := Any.strings_Join Try.lays156 Try.Builder_Extra_156 b (o + at_) (c - at_) ys ⟨#[]⟩ w hcells hb (by omega) (by omega) (by rw [hjl]; rw [hyl] at hlen; omega)
  rw [hjl, hyl] at HJ
  have HJ' := Lib.hid HJ
  rw [← hys]
  clear HJ hlen hjl hcl hcells hyl hys hr h h4 hm
  go_enter Try.func30, Try.ntmps30
  go_wp2_with (go_at_call 41; refine HJ'.out.mono ?_; rintro e w' ⟨rfl, hb⟩)
  go_ret
  exact ⟨rfl, Kp.of_below hb⟩

end Go.Proofs.Ytagekjijngbmdaa
