/- the law's own small functions: Zeros, Full, data. -/
import Derived.Test.YtagekjijngbmdaaFl
set_option linter.unusedVariables false
set_option linter.unusedSimpArgs false
namespace Go.Proofs.Ytagekjijngbmdaa
open Go.RowKit
attribute [local go_sem ↓] Go.wp_at_zero Go.wp_at_succ

set_option maxHeartbeats 400000 in
theorem zeros_any (n : Nat) (w : World) (hn : n ≤ 1000000) :
    Calls Try.prog 8 #[.int .i64 n] w fun e w' => e = .returned (.string (zeros n)) ∧ Kp No w w' := by
  have hmk := mk_zeros (P := Try.prog) 23 5 Try.underlying23 I_u8 n (by omega)
  have hcv := cv_zeros (P := Try.prog) 23 9 5 Try.underlying23 Try.underlying5 Try.underlying9 n
  obtain ⟨z, hz⟩ : ∃ z, z = zeros n := ⟨_, rfl⟩
  rw [← hz] at hcv ⊢
  clear hz
  have hn1 : (0 : Int) ≤ (n : Int) := by omega
  go_enter Try.func8, Try.ntmps8
  go_wp2
  go_ret
  exact ⟨rfl, (Kp.refl _ _).alloc _⟩

def full (s : ByteArray) (n : Nat) : ByteArray := if s.size ≥ n then s else s ++ zeros (n - s.size)
set_option maxHeartbeats 400000 in
theorem full_any (s : ByteArray) (n : Nat) (w : World) (hn : n ≤ 1000000) (hs : s.size ≤ 1000000) :
    Calls Try.prog 16 #[.string s, .int .i64 n] w fun e w' => e = .returned (.string (full s n)) ∧ Kp No w w' := by
  by_cases h : n ≤ s.size
  · go_enter Try.func16, Try.ntmps16
    go_wp2
    go_ret
    exact ⟨ret_str (by unfold full; rw [if_pos h]), Kp.refl _ _⟩
  · have e1 : ((n : Nat) : Int) - (s.size : Int) = ((n - s.size : Nat) : Int) := by omega
    have HC := zeros_any (n - s.size) w (by omega)
    have hz := zeros_size (n - s.size)
    rw [← e1] at HC
    obtain ⟨z, hz'⟩ : ∃ z, z = zeros (n - s.size) := ⟨_, rfl⟩
    rw [← hz'] at HC hz
    have HC := Lib.hid HC
    have HZ := Lib.hid hz'
    have hzl : z.size ≤ 1000000 := by omega
    clear hz' hz e1
    go_enter Try.func16, Try.ntmps16
    go_wp2_with (go_at_call 8; refine HC.out.mono ?_; rintro e w' ⟨rfl, hk⟩)
    go_ret
    exact ⟨ret_str (by unfold full; rw [if_neg h, HZ.out]), hk⟩

/-- The bytes of a row that the call owns, as a text. -/
theorem cv_own {P : Program} {src dst e e' base : Nat} {S : Nat → Prop} {W : World} {v : Value} {xs : List Int} (hs : P.underlying src = some (.slice e)) (he : P.underlying e = some (.int .u8)) (hd : P.underlying dst = some .string) (h : OwR KU8 e' base S W v xs) :
    (convert src dst v).run P W = .ok (.string (strOfNums xs)) W := by
  obtain ⟨cells, ho, hr⟩ := h
  rcases ho.2 with ⟨rfl, hn⟩ | ⟨g, cap, cur, rfl, _, hh, h1, h2, h3, h4⟩
  · obtain rfl : xs = [] := List.eq_nil_of_length_eq_zero hn
    exact run_convert_bytes_nil W src e hs he 0 0 dst hd
  · refine run_convert_bytes_arg W src e hs he g 0 xs.length cap xs rfl (fun i hi => ?_) dst hd
    have h5 := hr i hi
    rw [cut_row (K := KU8) _ _ rfl] at h5
    have h6 : cells[i]?.toList = [Value.int .u8 xs[i]] := h5
    have hl : i < cells.length := by rw [ho.1, show KU8.sz = 1 from rfl]; omega
    rw [List.getElem?_eq_getElem hl] at h6
    simp at h6
    rw [cellOf hh, Nat.zero_add, List.getD_eq_getElem?_getD, List.getElem?_eq_getElem hi]
    have : cells[i]? = cur.toList[i]? := by
      rw [← h4, List.getElem?_take, if_pos]
      rw [show KU8.sz = 1 from rfl]; omega
    rw [List.getElem?_eq_getElem hl, h6] at this
    simpa using this.symm

def nn (n : Int) : Nat := (min (max n 0) 70).toNat
def datL (n c : Int) (odd : Bool) : List Int := List.replicate (48 * nn n) c ++ if odd then [c] else []
def dat (n c : Int) (odd : Bool) : ByteArray := strOfNums (datL n c odd)
def mixc (c : Int) (m k : Nat) : List Int := List.replicate k c ++ List.replicate (m - k) 0
theorem mixc_set {c : Int} {m k : Nat} (h : k < m) : (mixc c m k).set k c = mixc c m (k + 1) := by
  unfold mixc
  rw [List.set_append_right _ _ (by simp), List.length_replicate, Nat.sub_self]
  have : m - k = (m - (k + 1)) + 1 := by omega
  rw [this, List.replicate_succ, List.set_cons_zero, List.replicate_succ', List.append_assoc]
  rfl
theorem mixc_len {c : Int} {m k : Nat} (h : k ≤ m) : (mixc c m k).length = m := by unfold mixc; simp; omega
theorem dat_size (n c : Int) (odd : Bool) : (dat n c odd).size = 48 * nn n + if odd then 1 else 0 := by
  unfold dat; rw [strOfNums_size]; unfold datL; cases odd <;> simp
theorem nn_le (n : Int) : nn n ≤ 70 := by unfold nn; omega

set_option maxHeartbeats 1000000 in
theorem dat_any (kd at_ n c : Int) (odd : Bool) (w : World) (hn : i64 n) :
    Calls Try.prog 9 #[.agg #[.int .i64 kd, .int .i64 at_, .int .i64 n, .int .u8 c, .bool odd]] w fun e w' => e = .returned (.string (dat n c odd)) ∧ Kp No w w' := by
  obtain ⟨m, hm⟩ : ∃ m, m = nn n := ⟨_, rfl⟩
  have hm70 := nn_le n
  rw [← hm] at hm70
  have hmk := mk_zeros (P := Try.prog) 23 5 Try.underlying23 I_u8 (48 * m) (by omega)
  have e1 : ((48 * m : Nat) : Int) = 48 * (m : Int) := by omega
  rw [e1] at hmk
  have hmm : (min (max n 0) 70 : Int) = (m : Int) := by rw [hm]; unfold nn; omega
  have HM := Lib.hid hm
  obtain ⟨L, hL⟩ : ∃ L, L = 48 * m := ⟨_, rfl⟩
  have hLi : 48 * (m : Int) = (L : Int) := by omega
  have hL7 : L ≤ 3360 := by omega
  have HL := Lib.hid hL
  rw [← hL, hLi] at hmk
  have hO := OwR.made (K := KU8) (S := No) 5 w.heap.size (w.alloc (.cells #[.int .i64 kd, .int .i64 at_, .int .i64 n, .int .u8 c, .bool odd] 34)) (.int .u8 0) (0 : Int) L rfl (by simp) (by omega) (fun _ _ => rfl)
  simp only [World.size_alloc] at hO
  have HO := Lib.hid hO
  have hb0 := heap_alloc_new w (.cells #[.int .i64 kd, .int .i64 at_, .int .i64 n, .int .u8 c, .bool odd] 34)
  have HB0 := Lib.hid hb0
  clear hm e1 hL hO hb0
  go_enter Try.func9, Try.ntmps9
  go_wp2
  go_loopw [5] (fun i wr => ∃ k : Nat, k ≤ L ∧ i = .int .i64 k ∧ OwR KU8 5 w.heap.size No wr (.slice (some ⟨w.heap.size + 1, 0, none⟩) L L) (mixc c L k) ∧ Kp No w wr ∧ wr.heap[w.heap.size]? = some (.cells #[.int .i64 kd, .int .i64 at_, .int .i64 n, .int .u8 c, .bool odd] 34 (0, 0))) (fun i _ => L - (intOf i).toNat)
  case atStart => exact ⟨0, Nat.zero_le _, rfl, by simpa [mixc] using HO.out, ((Kp.refl _ _).alloc _).alloc _, heap_al HB0.out _⟩
  case round =>
    clear HO HB0
    obtain ⟨k, hk, rfl, ho, hkr, hb⟩ := hrel
    have hc3 : wr.cell? ⟨w.heap.size, 3, none⟩ = some (.int .u8 c) := cellOf hb 3
    have hc4 : wr.cell? ⟨w.heap.size, 4, none⟩ = some (.bool odd) := cellOf hb 4
    by_cases hlt : k < L
    · have hml := mixc_len (c := c) (m := L) (k := k) (by omega)
      obtain ⟨u, hcu, hfu, hxx⟩ := ho.at1 rfl (i := k) (by rw [hml]; exact hlt)
      clear hxx
      have ho2 := ho.set1 (i := k) rfl (by rw [hml]; exact hlt) (u := .int .u8 c) (y := c) rfl
      rw [mixc_set hlt] at ho2
      have hk2 := hkr.setCell (p := ⟨w.heap.size + 1, k, none⟩) (.inr (by simp)) (.int .u8 c)
      have hb2 := heap_set_far hb (p := ⟨w.heap.size + 1, k, none⟩) (by simp) (.int .u8 c)
      have HO := Lib.hid ho2
      have HK := Lib.hid hk2
      have HB := Lib.hid hb2
      clear ho ho2 hkr hk2 hb2 hb hml
      go_wp2
      go_roundw
      case rel => exact ⟨k + 1, by omega, by go_num, HO.out, HK.out, HB.out⟩
      case measure => simp [intOf]; omega
    · obtain rfl : k = L := by omega
      have hfull : mixc c k k = List.replicate k c := by simp [mixc]
      rw [hfull] at ho
      cases odd
      · have hcv := cv_own (P := Try.prog) (src := 23) (dst := 9) (e := 5) Try.underlying23 Try.underlying5 Try.underlying9 ho
        have hd : strOfNums (List.replicate k c) = dat n c false := by unfold dat datL; rw [HL.out, HM.out]; simp
        rw [hd] at hcv
        have HK := Lib.hid hkr
        clear ho hkr hb hd hfull
        go_wp2
        go_ret
        exact ⟨rfl, HK.out⟩
      · have HO := Lib.hid ho
        have HK := Lib.hid hkr
        clear ho hkr hb hfull
        go_wp2_with (at_builtin; refine wpList_ap1 (K := KU8) (S := No) wr (by rfl) _ _ 23 (by rfl) w.heap.size 5 5 _ 1 Try.underlying23 I_u8 rfl (by decide) (by decide) _ _ (by rfl) HO.out 1 1 (by rfl) rfl _ c ?c1 ?c2 ?c3 ?_)
        case c1 => rfl
        case c2 => exact HK.out.size
        case c3 => rw [List.length_replicate]; omega
        intro v2 w2 hv2 hk2 hat
        have hcv := cv_own (P := Try.prog) (src := 23) (dst := 9) (e := 5) Try.underlying23 Try.underlying5 Try.underlying9 hv2
        have hd : strOfNums (List.replicate k c ++ [c]) = dat n c true := by unfold dat datL; rw [HL.out, HM.out]; simp
        rw [hd] at hcv
        have HK2 := Lib.hid hk2
        clear hv2 hk2 hat hd
        go_wp2
        go_ret
        exact ⟨rfl, HK.out.trans HK2.out (fun q hq e => by have := (HO.out.lt e).1; omega)⟩
end Go.Proofs.Ytagekjijngbmdaa
