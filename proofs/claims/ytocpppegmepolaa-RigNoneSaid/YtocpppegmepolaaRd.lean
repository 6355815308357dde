/- dev: Crash. -/
import Derived.Test.YtocpppegmepolaaRc
set_option linter.unusedVariables false
set_option linter.unusedSimpArgs false
namespace Go.Proofs.Ytocpppegmepolaa
open Go.RowKit
attribute [local go_sem ↓] Go.wp_at_zero Go.wp_at_succ

/-- Blocks of 64 bytes. -/
def B64 (x : Blk) : Prop := x.now.size = 64 ∧ x.safe.size = 64
/-- What a crash may leave of a block. -/
def KeptP (x : Blk) (s : ByteArray) : Prop := s.size = 64 ∧ (x.is = false → s = x.now)

theorem torn_size {a b : ByteArray} {n : Nat} (ha : a.size = 64) (hb : b.size = 64) (hn : n ≤ 64) : (a.extract 0 n ++ b.extract n b.size).size = 64 := by
  rw [ByteArray.size_append, ByteArray.size_extract, ByteArray.size_extract]; omega

set_option maxHeartbeats 2000000 in
theorem kept_any {S : Nat → Prop} {b g : Nat} {bs : List Blk} (kv : Value) (keep : List Bool) (torn : Int) (n : Nat) (bd bx bn i : Nat) (w : World) (h : DevR S w b g bs) (hk : SlR KBool No w kv keep) (hi : i < bs.length) (hn : bs.length ≤ 1000000) (hn64 : n ≤ 64) (h64 : B64 bs[i]) (ht : i64 torn)
    (c0 : w.cell? ⟨bd, 0, none⟩ = some (.pointer (some ⟨b, 0, none⟩))) (c1 : w.cell? ⟨bx, 0, none⟩ = some kv) (c2 : w.cell? ⟨bx, 1, none⟩ = some (.int .i64 torn)) (c3 : w.cell? ⟨bn, 0, none⟩ = some (.int .i64 n)) :
    Calls Try.prog 183 #[.int .i64 i, .pointer (some ⟨bd, 0, none⟩), .pointer (some ⟨bx, 0, none⟩), .pointer (some ⟨bn, 0, none⟩)] w fun e w' => (∃ s, e = .returned (.string s) ∧ KeptP bs[i] s) ∧ Kp No w w' := by
  obtain ⟨c, h0, hl, hc, h1, h2, h3, hf⟩ := h.at hi
  obtain ⟨m, hm⟩ : ∃ n, n = bs.length := ⟨_, rfl⟩
  rw [← hm] at h0 hl hn
  have hi' : i < m := by omega
  have i0 : (0 : Int) ≤ (i : Int) := by omega
  have i1 : (i : Int) < (m : Int) := by omega
  obtain ⟨x, hx⟩ : ∃ x, x = bs[i] := ⟨_, rfl⟩
  rw [← hx] at h1 h2 h3 h64 ⊢
  obtain ⟨h64a, h64b⟩ := h64
  obtain ⟨now, safe, is⟩ := x
  dsimp only at h1 h2 h3 h64a h64b
  have HNS := Lib.hid h64a
  have HSS := Lib.hid h64b
  obtain ⟨A, ck, rfl, hkl, hkc, hA⟩ := hk.open1' rfl
  obtain ⟨km, hkm⟩ : ∃ n, n = keep.length := ⟨_, rfl⟩
  rw [← hkm] at c1 hkl
  have HKM := Lib.hid hkm
  have HA := Lib.hid hA
  clear hA hk hm hx hf hkm h64a h64b hi h
  obtain ⟨q, hq⟩ : ∃ q, q = i % 64 := ⟨_, rfl⟩
  have hqi : (i : Int) % 64 = (q : Int) := by omega
  have hq64 : q < 64 := by omega
  have q0 : (0 : Int) ≤ (q : Int) := by omega
  unfold i64 at ht
  clear hq
  have lx : bx < w.heap.size := World.block_lt_of_cell? w _ c2
  have ln : bn < w.heap.size := World.block_lt_of_cell? w _ c3
  have n0 : (0 : Int) ≤ (n : Int) := by omega
  have n1 : (n : Int) ≤ (now.size : Int) := by rw [HNS.out]; omega
  have n2 : (n : Int) ≤ (safe.size : Int) := by rw [HSS.out]; omega
  have n3 : now.size ≤ 64 := by rw [HNS.out]; omega
  have n4 : safe.size ≤ 64 := by rw [HSS.out]; omega
  have HA0 : ∀ (o : Obj), Kp No w (w.alloc o) := fun o => (Kp.refl _ _).alloc _
  have HAL := Lib.hid HA0
  clear HA0
  cases is
  · go_enter Try.func183, Try.ntmps183
    go_wp2
    go_ret
    exact ⟨⟨_, rfl, HNS.out, fun _ => rfl⟩, HAL.out _⟩
  · by_cases hkk : q < km
    · obtain ⟨bk, ok, rfl, _, _, hr⟩ := HA.out (by rw [← HKM.out]; omega)
      obtain ⟨u, hcu, hu⟩ := hr q (by rw [← HKM.out]; omega)
      have hu' := KBool_R hu
      obtain ⟨kq, hkq⟩ : ∃ kq, kq = keep[q]'(by rw [← HKM.out]; omega) := ⟨_, rfl⟩
      rw [← hkq] at hu'
      subst hu'
      have q1 : (q : Int) < (km : Int) := by omega
      clear hr hu hkq
      cases kq
      · by_cases hti : (i : Int) = torn
        · subst hti
          go_enter Try.func183, Try.ntmps183
          go_wp2
          go_quiet (fail)
          go_wp2
          go_ret
          exact ⟨⟨_, rfl, torn_size HNS.out HSS.out hn64, fun h => by cases h⟩, (HAL.out _).drewN _⟩
        · go_enter Try.func183, Try.ntmps183
          go_wp2
          go_ret
          exact ⟨⟨_, rfl, HSS.out, fun h => by cases h⟩, HAL.out _⟩
      · go_enter Try.func183, Try.ntmps183
        go_wp2
        go_ret
        exact ⟨⟨_, rfl, HNS.out, fun h => by cases h⟩, HAL.out _⟩
    · by_cases hti : (i : Int) = torn
      · subst hti
        go_enter Try.func183, Try.ntmps183
        go_wp2
        go_quiet (fail)
        go_wp2
        go_ret
        exact ⟨⟨_, rfl, torn_size HNS.out HSS.out hn64, fun h => by cases h⟩, (HAL.out _).drewN _⟩
      · go_enter Try.func183, Try.ntmps183
        go_wp2
        go_ret
        exact ⟨⟨_, rfl, HSS.out, fun h => by cases h⟩, HAL.out _⟩

def CrashI (bs cs : List Blk) (k : Nat) : Prop := cs.length = bs.length ∧ (∀ j (h : j < cs.length) (h' : j < bs.length), j < k → B64 cs[j] ∧ (bs[j].is = false → cs[j].now = bs[j].now)) ∧ ∀ j (h : j < cs.length) (h' : j < bs.length), k ≤ j → cs[j] = bs[j]
theorem CrashI.zero (bs : List Blk) : CrashI bs bs 0 := ⟨rfl, fun _ _ _ h => absurd h (by omega), fun _ _ _ _ => rfl⟩
theorem CrashI.step {bs cs : List Blk} {k : Nat} (h : CrashI bs cs k) (hk : k < cs.length) {s : ByteArray} (hs : KeptP cs[k] s) (t : Bool) : CrashI bs (cs.set k ⟨s, s, t⟩) (k + 1) := by
  obtain ⟨h1, h2, h3⟩ := h
  refine ⟨by rw [List.length_set]; exact h1, fun j hj hj' hlt => ?_, fun j hj hj' hle => ?_⟩
  · by_cases e : k = j
    · subst e
      rw [List.getElem_set_self]
      have := h3 k hk hj' (Nat.le_refl _)
      exact ⟨⟨hs.1, hs.1⟩, fun hi => by show s = _; rw [hs.2 (by rw [this]; exact hi), this]⟩
    · rw [List.getElem_set_ne e]
      exact h2 j (by rw [List.length_set] at hj; exact hj) hj' (by omega)
  · rw [List.getElem_set_ne (by omega)]
    exact h3 j (by rw [List.length_set] at hj; exact hj) hj' (by omega)
/-- What a crash makes of a device. -/
def CrashP (bs cs : List Blk) : Prop := CrashI bs cs bs.length

set_option maxHeartbeats 2000000 in
theorem dcrash_ok {S : Nat → Prop} {b g : Nat} {bs : List Blk} (kv : Value) (keep : List Bool) (torn by_ : Int) (w : World) (h : DevR S w b g bs) (hk : SlR KBool (fun k => k = g) w kv keep) (h0 : 0 < bs.length) (hn : bs.length ≤ 1000000) (h64 : ∀ x ∈ bs, B64 x) (ht : i64 torn) (hb : i64 by_) :
    Calls Try.prog 128 #[.pointer (some ⟨b, 0, none⟩), .agg #[kv, .int .i64 torn, .int .i64 by_]] w fun e w' => e = .returned (.int .i64 0) ∧ (∃ cs, DevR S w' b g cs ∧ CrashP bs cs) ∧ Kp (fun k => k = g) w w' := by
  obtain ⟨c, hcb, hl, hc, _⟩ := h.at h0
  obtain ⟨n, hn'⟩ : ∃ n, n = bs.length := ⟨_, rfl⟩
  rw [← hn'] at hcb hl hn h0
  have HN := Lib.hid hn'
  obtain ⟨hlb, hlg⟩ := h.lt
  obtain ⟨m, hm⟩ : ∃ m : Nat, m = (min (max by_ 0) 64).toNat := ⟨_, rfl⟩
  have hm64 : m ≤ 64 := by omega
  obtain ⟨W, hW⟩ : ∃ W, W = ((w.alloc (.cells #[.pointer (some ⟨b, 0, none⟩)] 61)).alloc (.cells #[kv, .int .i64 torn, .int .i64 by_] 32)).alloc (.cells #[.int .i64 m] 3) := ⟨_, rfl⟩
  have hkW : Kp No w W := by rw [hW]; exact (((Kp.refl _ _).alloc _).alloc _).alloc _
  have w0 : W.cell? ⟨w.heap.size, 0, none⟩ = some (.pointer (some ⟨b, 0, none⟩)) := by rw [hW]; simp [go_sem]
  have w1 : W.cell? ⟨w.heap.size + 1, 0, none⟩ = some kv := by rw [hW]; simp [go_sem]
  have w2 : W.cell? ⟨w.heap.size + 1, 1, none⟩ = some (.int .i64 torn) := by rw [hW]; simp [go_sem]
  have w3 : W.cell? ⟨w.heap.size + 1 + 1, 0, none⟩ = some (.int .i64 m) := by rw [hW]; simp [go_sem]
  have hWs : w.heap.size + 3 ≤ W.heap.size := by rw [hW]; simp
  have HW := Lib.hid hW
  have HKW := Lib.hid hkW
  have HH := Lib.hid (h.no hkW)
  have HKV := Lib.hid (hk.no hkW)
  have H64 := Lib.hid h64
  have hcc : by_ < 0 ∧ m = 0 ∨ 64 < by_ ∧ m = 64 ∨ (0 ≤ by_ ∧ by_ ≤ 64) ∧ by_ = (m : Int) := by omega
  have hal : ∀ o1 o2 o3, (((w.alloc o1).alloc o2).alloc o3).cell? ⟨b, 0, none⟩ = some (.slice (some ⟨g, 0, none⟩) n c) := fun o1 o2 o3 => ((((Kp.refl No w).alloc _).alloc _).alloc _).cell' hcb
  clear hn' hW hkW h hk h64 hm
  rcases hcc with ⟨h1, rfl⟩ | ⟨h1, rfl⟩ | ⟨⟨h1, h2⟩, rfl⟩
  all_goals
    go_enter Try.func128, Try.ntmps128
    go_wp2
    go_loopw [21] (fun i wr => ∃ k : Nat, k ≤ n ∧ i = .int .i64 k ∧ (∃ cs, DevR S wr b g cs ∧ CrashI bs cs k) ∧ Kp (fun j => j = g) W wr) (fun i _ => n - (intOf i).toNat)
    case atStart => exact ⟨0, Nat.zero_le _, rfl, ⟨bs, by have := HH.out; rw [HW.out] at this; exact this, CrashI.zero _⟩, by rw [HW.out]; exact Kp.refl _ _⟩
    case round =>
      clear HH hcb hal
      obtain ⟨k, hk, rfl, ⟨cs, hd, hci⟩, hkr⟩ := hrel
      by_cases hlt : k < n
      · have hkc : k < cs.length := by rw [hci.1, ← HN.out]; exact hlt
        have hkb : k < bs.length := by rw [← HN.out]; exact hlt
        have v0 := hkr.cell w0 (by show ¬ (w.heap.size = g); omega)
        have v1 := hkr.cell w1 (by show ¬ (w.heap.size + 1 = g); omega)
        have v2 := hkr.cell w2 (by show ¬ (w.heap.size + 1 = g); omega)
        have v3 := hkr.cell w3 (by show ¬ (w.heap.size + 1 + 1 = g); omega)
        obtain ⟨A, ck, rfl, _, _⟩ := HKV.out.slice
        have hkv := (HKV.out.kp hkr (fun _ _ h => h)).less (S' := No) (fun _ _ h => h.elim)
        have h64k : B64 cs[k] := by rw [hci.2.2 k hkc hkb (Nat.le_refl _)]; exact H64.out _ (List.getElem_mem _)
        have HC := Lib.hid (kept_any _ keep torn _ _ _ _ k wr hd hkv hkc (by rw [hci.1, ← HN.out]; exact hn) hm64 h64k ht v0 v1 v2 v3)
        obtain ⟨c', u0, ul, uc, u1, u2, u3, uf⟩ := hd.at hkc
        rw [hci.1, ← HN.out] at u0
        have uf0 := uf (k * 3)
        have uf1 := uf (k * 3 + 1)
        have uf2 := uf (k * 3 + 2)
        have i0 : (0 : Int) ≤ (k : Int) := by omega
        have i1 : (k : Int) < (n : Int) := by omega
        have HD := Lib.hid hd
        have HCI := Lib.hid hci
        have HK := Lib.hid hkr
        clear hd hci hkr hkv h64k uf ul uc v1 v2 v3
        go_wp2_with fail
        refine HC.out.mono ?_
        rintro e w4 ⟨⟨s, rfl, hs⟩, hk4⟩
        have x0 := hk4.cell' v0
        have x1 := hk4.cell' u0
        have x2 := hk4.cell' u1
        have x3 := hk4.cell' u2
        have x4 := hk4.cell' u3
        have hgl : g < wr.heap.size := HD.out.lt.2
        have y2 := (hk4.frozen (a := ⟨g, k * 3, none⟩) hgl id).trans uf0
        have y3 := (hk4.frozen (a := ⟨g, k * 3 + 1, none⟩) hgl id).trans uf1
        have y4 := (hk4.frozen (a := ⟨g, k * 3 + 2, none⟩) hgl id).trans uf2
        have HS := Lib.hid hs
        have HK4 := Lib.hid hk4
        clear v0 u0 u1 u2 u3 uf0 uf1 uf2 hs hk4 HC
        go_wp2
        go_roundw
        case rel =>
          refine ⟨k + 1, by omega, by go_num, ⟨cs.set k ⟨s, s, false⟩, ?_, HCI.out.step hkc HS.out false⟩, (((HK.out.transNo HK4.out).setAt _ _).setAt _ _).setAt _ _⟩
          have hd := ((((HD.out.no HK4.out).setN hkc s).setS (i := k) (by rw [List.length_set]; exact hkc) s)).setI (i := k) (by rw [List.length_set, List.length_set]; exact hkc) false
          simpa only [List.getElem_set_self, List.set_set] using hd
        case measure => simp [intOf]; omega
      · obtain rfl : k = n := by omega
        have HD := Lib.hid hd
        have HCI := Lib.hid hci
        have HK := Lib.hid hkr
        clear hd hci hkr
        go_wp2
        go_ret
        exact ⟨rfl, ⟨cs, HD.out, by unfold CrashP; rw [← HN.out]; exact HCI.out⟩, HKW.out.no.trans' HK.out⟩
end Go.Proofs.Ytocpppegmepolaa
