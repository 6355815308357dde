/- The document's answer: Write. -/
import Derived.Test.YtagekjijngbmdaaFq
set_option linter.unusedVariables false
set_option linter.unusedSimpArgs false
namespace Go.Proofs.Ytagekjijngbmdaa
open Go.RowKit
attribute [local go_sem ↓] Go.wp_at_zero Go.wp_at_succ

def rlst (c : RCh) : ByteArray := c.getD (c.length - 1) ⟨#[]⟩
def rwr (at_ : Nat) (d x : ByteArray) : ByteArray := x.extract 0 (48 * at_) ++ d ++ x.extract (48 * at_ + d.size) x.size
def rw1 (at_ : Nat) (d : ByteArray) (c : RCh) : RCh := c ++ [rwr at_ d (rlst c)]
/-- Joined states of N blocks; chains that are not empty. -/
def Okr (N : Nat) (rs : List RCh) : Prop := ∀ c ∈ rs, 0 < c.length ∧ c.length ≤ 1000000000 ∧ ∀ x ∈ c, x.size = 48 * N
theorem rlst_get {c : RCh} (h : 0 < c.length) : c[c.length - 1]? = some (rlst c) := by
  unfold rlst
  rw [List.getD_eq_getElem?_getD, List.getElem?_eq_getElem (by omega)]
  rfl
theorem rlst_mem {c : RCh} (h : 0 < c.length) : rlst c ∈ c := List.mem_of_getElem? (rlst_get h)

theorem OwR.strMv {e base : Nat} {S S' : Nat → Prop} {w w' : World} {v : Value} {xs : List ByteArray} (h : OwR KStr e base S w v xs) (hm : ∀ k, v.ownBlock = some k → w'.heap[k]? = w.heap[k]?) : OwR KStr e base S' w' v xs :=
  OwR.of_str (ownsRow_move h.str hm)
/-- Chain k of the reference's model, in memory. -/
theorem rchainAt {S : Nat → Prop} {w : World} {v : Value} {rs : List RCh} (h : SlR KRC S w v rs) :
    ∃ A c, v = .slice A rs.length c ∧ c ≤ 9223372036854775807 ∧ rs.length ≤ c ∧ (0 < rs.length → ∃ b o, A = some ⟨b, o, none⟩ ∧ ∀ k (hk : k < rs.length), ∃ u, w.cell? ⟨b, o + k, none⟩ = some u ∧ SlR KStr S w u rs[k]) := by
  obtain ⟨A, c, hv, hl, hc, h⟩ := h.open1' rfl
  refine ⟨A, c, hv, hc, hl, fun h0 => ?_⟩
  obtain ⟨b, o, hA, _, _, hr⟩ := h h0
  refine ⟨b, o, hA, fun k hk => ?_⟩
  obtain ⟨u, h1, h2⟩ := hr k hk
  exact ⟨u, h1, KSl_R h2⟩

set_option maxHeartbeats 4000000 in
theorem rwrite_ok {S : Nat → Prop} {b N : Nat} {rs : List RCh} (at_ : Nat) (d : ByteArray) (w : World) (h : RefR S w b N rs) (h2 : N ≤ 64) (hok : Okr N rs) (hd : 48 * at_ + d.size ≤ 48 * N)
    (hS : ∀ k, S k → k < w.heap.size) (hlen : rs.length ≤ 1000000000) :
    Calls Try.prog 32 #[.pointer (some ⟨b, 0, none⟩), .int .i64 at_, .string d] w fun e w' => e = .returned (.tuple #[]) ∧ RefR S w' b N (rs.map (rw1 at_ d)) ∧ Kp (fun k => k = b) w w' := by
  obtain ⟨v, hb, hv, hSb⟩ := h
  obtain ⟨A, c, rfl, hc1, hc2, hA⟩ := rchainAt hv
  obtain ⟨n, hn⟩ : ∃ n, n = rs.length := ⟨_, rfl⟩
  have hlb := blt hb
  rw [← hn] at hb hlen hc2
  have hcb : w.cell? ⟨b, 1, none⟩ = some (.slice A n c) := cellOf hb 1
  have HN := Lib.hid hn
  have HA := Lib.hid hA
  have HB := Lib.hid hb
  have HOK := Lib.hid hok
  have HSS := Lib.hid hS
  clear hv hA hn hb hok hS
  go_enter Try.func32, Try.ntmps32
  go_wp2
  go_loopw [6, 7] (fun v i wr => ∃ k : Nat, k ≤ n ∧ i = .int .i64 k ∧ OwR KRC 66 w.heap.size (fun k => S k ∨ k = b) wr v ((rs.take k).map (rw1 at_ d)) ∧ Kp No w wr) (fun _ i _ => n - (intOf i).toNat)
  case atStart => exact ⟨0, Nat.zero_le _, rfl, OwR.nil _ _ _ _ _, Kp.refl _ _⟩
  case round =>
    obtain ⟨k, hk, rfl, ho, hkr⟩ := hrel
    have hcr := hkr.cell' hcb
    by_cases hlt : k < n
    · have hkn : k < rs.length := by rw [← HN.out]; exact hlt
      obtain ⟨b1, o1, rfl, hr⟩ := HA.out (by omega)
      obtain ⟨u, hcu, hu⟩ := hr k hkn
      obtain ⟨ch, hch⟩ : ∃ ch, ch = rs[k] := ⟨_, rfl⟩
      rw [← hch] at hu
      obtain ⟨hp, hp2, hp3⟩ := HOK.out ch (hch ▸ List.getElem_mem _)
      have hx := rlst_get hp
      have hxs := hp3 _ (rlst_mem hp)
      have hcu' := hkr.cell' hcu
      have hur := hu.no hkr
      obtain ⟨Au, cu, rfl, hcu1, hcu2⟩ := hur.slice
      have HL := Lib.hid (rlast_any _ ch (rlst ch) wr hur hx)
      obtain ⟨x, hxx⟩ : ∃ x, x = rlst ch := ⟨_, rfl⟩
      rw [← hxx] at HL hxs
      have hst : (rs.take (k + 1)).map (rw1 at_ d) = (rs.take k).map (rw1 at_ d) ++ [ch ++ [x.extract 0 (48 * at_) ++ d ++ x.extract (48 * at_ + d.size) (48 * N)]] := by
        rw [List.take_succ_eq_append_getElem hkn, List.map_append, ← hch, ← hxs, hxx]; rfl
      obtain ⟨m, hm⟩ : ∃ m, m = ch.length := ⟨_, rfl⟩
      rw [← hm] at hcu1 hcu' HL hp2
      obtain ⟨b2, o2, c2, news, hv2, _, _, hb2, hnl, hnc, hnr⟩ := hur.news hp
      injection hv2 with e1 e2 e3
      subst e1
      have k0 : (0 : Int) ≤ (k : Int) := by omega
      have k1 : (k : Int) < (n : Int) := by omega
      have j1 : (0 : Int) ≤ 48 * (at_ : Int) := by omega
      have j2 : 48 * (at_ : Int) ≤ (x.size : Int) := by omega
      have j3 : (0 : Int) ≤ 48 * (at_ : Int) + (d.size : Int) := by omega
      have j4 : 48 * (at_ : Int) + (d.size : Int) ≤ (x.size : Int) := by omega
      have HO := Lib.hid ho
      have HKR := Lib.hid hkr
      have HNL := Lib.hid hnl
      have HNC := Lib.hid hnc
      have HNR := Lib.hid hnr
      have HM := Lib.hid hm
      have HST := Lib.hid hst
      clear ho hkr hr hcu hu hch hp hp3 hx hur hxx hst hm e2 e3 hnl hnc hnr
      go_wp2_with fail
      refine HL.out.mono ?_
      rintro e w1 ⟨rfl, hk1⟩
      have hcu1 := hk1.cell' hcu'
      have hcr1 := hk1.cell' hcr
      have HK1 := Lib.hid hk1
      clear hk1 hcu' hcr
      go_wp2_with fail
      go_quiet (fail)
      have hkq : Kp No wr (w1.drewN nq) := HK1.out.drewN nq
      have hcr2 : (w1.drewN nq).cell? ⟨b, 1, none⟩ = some (.slice (some ⟨b1, o1, none⟩) n c) := hcr1
      have hcu2 : (w1.drewN nq).cell? ⟨b1, o1 + k, none⟩ = some (.slice (some ⟨b2, o2, none⟩) m cu) := hcu1
      obtain ⟨W2, hW2⟩ : ∃ W2, W2 = w1.drewN nq := ⟨_, rfl⟩
      rw [← hW2] at hkq hcr2 hcu2 ⊢
      obtain ⟨y, hy⟩ : ∃ y, y = x.extract 0 (48 * at_) ++ d ++ x.extract (48 * at_ + d.size) (48 * N) := ⟨_, rfl⟩
      rw [← hy] at HST ⊢
      have HK2 := Lib.hid hkq
      have hk2s := hkq.size
      clear hkq hW2 hy HK1 hcr1 hcu1
      have hcr3 : (W2.alloc (.cells #[] 9)).cell? ⟨b, 1, none⟩ = some (.slice (some ⟨b1, o1, none⟩) n c) := ((Kp.refl No W2).alloc _).cell' hcr2
      have hcu3 : (W2.alloc (.cells #[] 9)).cell? ⟨b1, o1 + k, none⟩ = some (.slice (some ⟨b2, o2, none⟩) m cu) := ((Kp.refl No W2).alloc _).cell' hcu2
      have hal : Kp No W2 (W2.alloc (.cells #[] 9)) := (Kp.refl _ _).alloc _
      go_wp2_with (at_builtin; refine wpList_ap (K := KStr) (S := fun k => S k ∨ k = b) (W2.alloc (.cells #[] 9)) (by rfl) _ _ 32 (by rfl) W2.heap.size 9 _ 16 Try.underlying32 I_str rfl (by decide) (by decide) _ _ (by rfl) (OwR.lit0 W2 _ _ (Nat.le_refl _)) ⟨b2, o2, none⟩ m cu (by rfl) news ch HM.out ?c1 ?c2 ?c3 ?c4 ?c5 ?_)
      case c1 => rw [HM.out]; exact HNL.out
      case c2 => exact fun j u hj => hal.cell' (HK2.out.cell' (HNC.out j u hj))
      case c3 => exact fun i hi => Kind.fresh (Kind.no (HNR.out i hi) HK2.out) hal (fun q e => by simp [Value.ownBlock] at e; omega)
      case c4 => simp
      case c5 => simp; omega
      intro v3 W3 hv3 hk3 hat3
      have hk23 : Kp No W2 W3 := hal.trans hk3 (fun q hq e => by simp [Value.ownBlock] at e; omega)
      obtain ⟨A3, c3, e3, _, _⟩ := hv3.len
      rw [← HM.out] at e3
      subst e3
      have HV3 := Lib.hid hv3
      have HK3 := Lib.hid (HK2.out.trans' hk23)
      have hs3 := hk23.size
      clear hv3 hk3 hat3 hk23 hal hcr3 hcu3 hcr2 hcu2
      go_wp2_with (at_builtin; refine wpList_ap1 (K := KStr) (S := fun k => S k ∨ k = b) W3 (by rfl) _ _ 32 (by rfl) W2.heap.size 9 9 _ 16 Try.underlying32 I_str rfl (by decide) (by decide) _ _ (by rfl) HV3.out 1 1 (by rfl) rfl _ y ?c1 ?c2 ?c3 ?_)
      case c1 => rfl
      case c2 => exact hs3
      case c3 => have := HM.out; omega
      intro v4 W4 hv4 hk4 hat4
      have hk34 : Kp No wr W4 := HK3.out.trans hk4 (fun q hq e => by have := (HV3.out.lt e).1; omega)
      obtain ⟨A4, c4, e4, _, _⟩ := hv4.len
      have hsl : SlR KStr (fun k => (S k ∨ k = b) ∨ u6.ownBlock = some k) W4 v4 (ch ++ [y]) :=
        (hv4.strMv (S' := fun k => (S k ∨ k = b) ∨ u6.ownBlock = some k) (fun q _ => rfl)).slR (fun q e x => by
          have := (hv4.lt e).1
          have := HK2.out.size
          have hwr := HKR.out.size
          rcases x with (x | x) | x
          · have := HSS.out _ x; omega
          · omega
          · have := (HO.out.lt x).2; omega)
      obtain ⟨l4, hl4⟩ : ∃ l4, l4 = (ch ++ [y]).length := ⟨_, rfl⟩
      rw [← hl4] at e4
      subst e4
      have HSL := Lib.hid hsl
      have HO4 := Lib.hid (HO.out.no hk34)
      have HK4 := Lib.hid hk34
      clear hv4 hk4 hat4 hk34 hsl hl4
      go_wp2_with (at_builtin; refine wpList_ap1 (K := KRC) (S := fun k => S k ∨ k = b) W4 (by rfl) _ _ 45 (by rfl) w.heap.size 66 66 _ 24 Try.underlying45 I_rch rfl (by decide) (by decide) _ _ (by rfl) HO4.out 1 1 (by rfl) rfl _ (ch ++ [y]) ?c1 ?c2 ?c3 ?_)
      case c1 => exact ⟨_, rfl, HSL.out⟩
      case c2 => exact Nat.le_trans HKR.out.size HK4.out.size
      case c3 => rw [List.length_map, List.length_take]; omega
      intro v5 W5 hv5 hk5 hat5
      rw [← List.map_take, ← HST.out] at hv5
      have hk6 : Kp No w W5 := (HKR.out.trans' HK4.out).trans hk5 (fun q hq e => by have := (HO.out.lt e).1; omega)
      have HV5 := Lib.hid hv5
      have HK6 := Lib.hid hk6
      clear hv5 hk5 hat5 hk6
      go_wp2
      go_roundw
      case rel => exact ⟨k + 1, by omega, by go_num, HV5.out, HK6.out⟩
      case measure => simp [intOf]; omega
    · obtain rfl : k = n := by omega
      have htk : rs.take k = rs := by rw [HN.out, List.take_length]
      rw [htk] at ho
      obtain ⟨A9, c9, e9, _, _⟩ := ho.len
      obtain ⟨l9, hl9⟩ : ∃ l9, l9 = (rs.map (rw1 at_ d)).length := ⟨_, rfl⟩
      rw [← hl9] at e9
      subst e9
      clear hl9
      have hb2 := hkr.heap HB.out id
      have hcf := freeOf hb2 1
      have HO := Lib.hid ho
      have HKR := Lib.hid hkr
      have hbs := heap_set hb2 1 (.slice A9 l9 c9)
      have HBS := Lib.hid hbs
      clear ho hkr htk hb2 hbs
      go_wp2
      go_returns
      have hset : Kp (fun j => j = b) w (wr.setCell ⟨b, 1, none⟩ (.slice A9 l9 c9)) := (HKR.out.no).setAt 1 _
      have hset2 : Kp (fun j => j = b) wr (wr.setCell ⟨b, 1, none⟩ (.slice A9 l9 c9)) := (Kp.refl _ _).setAt 1 _
      refine ⟨rfl, ⟨_, HBS.out, ?_, hSb⟩, hset⟩
      refine (HO.out.slR (fun q e x => ?_)).kp hset2 (fun q _ e => .inr e)
      have := (HO.out.lt e).1
      rcases x with x | x
      · have := HSS.out _ x; omega
      · omega
end Go.Proofs.Ytagekjijngbmdaa
