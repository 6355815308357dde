/- the reference of layer 10: Crash, New. -/
import Derived.Test.YtocpppegmepolaaRn
import Derived.Deep.DeepFit
import Derived.Deep.CutBlock
import Derived.Deep.DeepCutAuto
set_option linter.unusedVariables false
set_option linter.unusedSimpArgs false
namespace Go.Proofs.Ytocpppegmepolaa
open Go.RowKit
attribute [local go_sem ↓] Go.wp_at_zero Go.wp_at_succ

/-- One element of a list of one-cell elements. -/
theorem SlR.el {α : Type} {K : Kind α} {S : Nat → Prop} {w : World} {v : Value} {xs : List α} (h : SlR K S w v xs) (hz : K.sz = 1) {i : Nat} (hi : i < xs.length) :
    ∃ b o c u, v = .slice (some ⟨b, o, none⟩) xs.length c ∧ xs.length ≤ c ∧ c ≤ 9223372036854775807 ∧ w.cell? ⟨b, o + i, none⟩ = some u ∧ K.R S w [u] xs[i] ∧ b < w.heap.size := by
  obtain ⟨b, o, c, hv, h1, h2, h3, h4, h5⟩ := h.open1 hz (by omega)
  obtain ⟨u, hc, hr⟩ := h5 i hi
  exact ⟨b, o, c, u, hv, h1, h2, hc, hr, h4⟩

theorem Kp.dq (w : World) (n : Nat) : Kp No w (w.drewN n) := (Kp.refl _ _).drewN n
section
variable {S : Nat → Prop} {w : World} {d : Nat}
set_option maxRecDepth 100000 in
set_option maxHeartbeats 8000000 in
theorem rdcrash_any (x : LLoss) (h : RD S w d) (hx : x.ok (fun k => S k ∨ k = d) w) (hS : ∀ k, S k → k < w.heap.size) :
    Calls Try.prog 182 #[.pointer (some ⟨d, 0, none⟩), x.val] w fun e w' => e = .returned (.tuple #[]) ∧ RD S w' d ∧ Kp (fun k => k = d) w w' := by
  obtain ⟨kv, keep, torn, by_⟩ := x
  obtain ⟨hk, ht, hby⟩ := hx
  dsimp only at hk ht hby
  show Calls Try.prog 182 #[.pointer (some ⟨d, 0, none⟩), .agg #[kv, .int .i64 torn, .int .i64 by_]] w _
  obtain ⟨vN, vS, vI, now, safe, is, h1, h2, h3, h4, h5, h6, h7, h8⟩ := h
  have hdl := blt h1
  have hS2 : ∀ k, (S k ∨ k = d) → k < w.heap.size := fun k hk => by rcases hk with hk | rfl; exact hS k hk; exact hdl
  obtain ⟨A, ck, rfl, hkl, hkc, hA⟩ := hk.open1' rfl
  obtain ⟨km, hkm⟩ : ∃ n, n = keep.length := ⟨_, rfl⟩
  rw [← hkm] at hkl ⊢
  have HKM := Lib.hid hkm
  have HA := Lib.hid hA
  obtain ⟨N, hN⟩ : ∃ N, N = 288 := ⟨_, rfl⟩
  have hn1 : now.length = N := by rw [hN]; exact h5.1
  have hn2 : safe.length = N := by rw [hN]; exact h6.1
  have hn3 : is.length = N := by rw [hN]; exact h7
  obtain ⟨b1, o1, c1, u1, rfl, l1, m1, cc1, rr1, q1⟩ := h2.el rfl (i := 0) (by omega)
  clear cc1 rr1 u1
  obtain ⟨b2, o2, c2, u2, rfl, l2, m2, cc2, rr2, q2⟩ := h3.el rfl (i := 0) (by omega)
  clear cc2 rr2 u2
  obtain ⟨b3, o3, c3, u3, rfl, l3, m3, cc3, rr3, q3⟩ := h4.el rfl (i := 0) (by omega)
  clear cc3 rr3 u3
  have e1 : ∀ i, i < N → i < now.length := fun i hi => by omega
  have e2 : ∀ i, i < N → i < safe.length := fun i hi => by omega
  have e3 : ∀ i, i < N → i < is.length := fun i hi => by omega
  have hcN : ∀ i (hi : i < N), w.cell? ⟨b1, o1 + i, none⟩ = some (.string (now[i]'(e1 i hi))) := fun i hi => by
    obtain ⟨b, o, c, u, e, _, _, hc, hr, _⟩ := h2.el rfl (i := i) (by omega)
    injection e with f1 _ _; injection f1 with f1; injection f1 with f1 f2 _; subst f1 f2
    rw [hc, KStr_R hr]
  have hcS : ∀ i (hi : i < N), w.cell? ⟨b2, o2 + i, none⟩ = some (.string (safe[i]'(e2 i hi))) := fun i hi => by
    obtain ⟨b, o, c, u, e, _, _, hc, hr, _⟩ := h3.el rfl (i := i) (by omega)
    injection e with f1 _ _; injection f1 with f1; injection f1 with f1 f2 _; subst f1 f2
    rw [hc, KStr_R hr]
  have hcI : ∀ i (hi : i < N), w.cell? ⟨b3, o3 + i, none⟩ = some (.bool (is[i]'(e3 i hi))) := fun i hi => by
    obtain ⟨b, o, c, u, e, _, _, hc, hr, _⟩ := h4.el rfl (i := i) (by omega)
    injection e with f1 _ _; injection f1 with f1; injection f1 with f1 f2 _; subst f1 f2
    rw [hc, KBool_R hr]
  have H64N : Hid (∀ i (hi : i < N), (now[i]'(e1 i hi)).size = 64) := Lib.hid (fun i hi => h5.2 _ (List.getElem_mem _))
  have H64S : Hid (∀ i (hi : i < N), (safe[i]'(e2 i hi)).size = 64) := Lib.hid (fun i hi => h6.2 _ (List.getElem_mem _))
  have HCN := Lib.hid hcN
  have HCS := Lib.hid hcS
  have HCI := Lib.hid hcI
  have HN1 := Lib.hid hn1
  have HN2 := Lib.hid hn2
  have HN3 := Lib.hid hn3
  have HNN := Lib.hid hN
  have H3 := Lib.hid h3
  have H4 := Lib.hid h4
  have H6 := Lib.hid h6
  have H8 := Lib.hid h8
  have HS2 := Lib.hid hS2
  have HS := Lib.hid hS
  rw [hn1] at h1 l1
  rw [hn2] at h1 l2
  rw [hn3] at h1 l3
  have H1 := Lib.hid h1
  have hNle : N ≤ 288 := by omega
  have hN0 : 0 < N := by omega
  obtain ⟨m, hm⟩ : ∃ m : Nat, m = (min (max by_ 0) 64).toNat := ⟨_, rfl⟩
  have hm64 : m ≤ 64 := by omega
  obtain ⟨W, hW⟩ : ∃ W, W = w.alloc (.cells #[.slice A km ck, .int .i64 torn, .int .i64 by_] 32) := ⟨_, rfl⟩
  have hkW : Kp No w W := by rw [hW]; exact (Kp.refl _ _).alloc _
  have w0 : W.cell? ⟨w.heap.size, 0, none⟩ = some (.slice A km ck) := by rw [hW]; simp [go_sem]
  have w1 : W.cell? ⟨w.heap.size, 1, none⟩ = some (.int .i64 torn) := by rw [hW]; simp [go_sem]
  have d0 := hkW.cell' (cellOf h1 0)
  have d1 := hkW.cell' (cellOf h1 1)
  have d2 := hkW.cell' (cellOf h1 2)
  have hWs : w.heap.size < W.heap.size := by rw [hW]; simp
  have HW := Lib.hid hW
  have HKW := Lib.hid hkW
  have hcc : (64 < (max by_ 0) ∧ m = 64) ∨ ((max by_ 0) ≤ 64 ∧ max by_ 0 = (m : Int)) := by omega
  have HCC := Lib.hid hcc
  have hi1 : -9223372036854775808 ≤ by_ ∧ by_ ≤ 9223372036854775807 := hby
  unfold i64 at ht
  clear hN hn1 hn2 hn3 h1 h2 h3 h4 h5 h6 h7 h8 hcN hcS hcI hS hS2 hW hkW hm hk hA hkm hby hcc
  obtain ⟨m1, hm1⟩ : ∃ m1, m1 = max by_ 0 := ⟨_, rfl⟩
  rw [← hm1] at HCC
  have HM1 := Lib.hid hm1
  clear hm1
  go_enter Try.func182, Try.ntmps182
  go_upto_if 12 with fail
  rw [← HW.out]
  go_cut [4] (fun nv wx => nv = .int .i64 m1 ∧ wx = W)
  case first =>
    by_cases hb : by_ < 0
    · have e1 : m1 = 0 := by rw [HM1.out]; omega
      have E1 := Lib.hid e1
      clear e1
      go_wp2
      go_meet
      case rel => exact ⟨by rw [E1.out], rfl⟩
    · have e1 : m1 = by_ := by rw [HM1.out]; omega
      have E1 := Lib.hid e1
      clear e1
      go_wp2
      go_meet
      case rel => exact ⟨by rw [E1.out], rfl⟩
  case rest =>
   obtain ⟨rfl, hwx⟩ := hcut; obtain rfl : W = _ := hwx.symm
   go_upto_if 14 with fail
   go_cut [4] (fun nv wx => nv = .int .i64 m ∧ wx = W)
   case first =>
    rcases HCC.out with ⟨hb, e1⟩ | ⟨hb, e1⟩
    · have E1 := Lib.hid e1
      clear e1
      go_wp2
      go_meet
      case rel => exact ⟨by rw [E1.out]; rfl, rfl⟩
    · have E1 := Lib.hid e1
      clear e1
      go_wp2
      go_meet
      case rel => exact ⟨by rw [E1.out], rfl⟩
   case rest =>
    obtain ⟨rfl, hwx⟩ := hcut; obtain rfl : W = _ := hwx.symm
    go_wp2
    go_loopw [5, 6] (fun v i wr => ∃ k : Nat, k ≤ N ∧ i = .int .i64 k ∧ (∃ out, OwR KStr 9 W.heap.size (fun k => S k ∨ k = d) wr v out ∧ out.length = k ∧ ∀ s ∈ out, s.size = 64) ∧ Kp No W wr) (fun _ i _ => N - (intOf i).toNat)
    case atStart => exact ⟨0, Nat.zero_le _, rfl, ⟨[], OwR.nil _ _ _ _ _, rfl, fun s hs => by cases hs⟩, Kp.refl _ _⟩
    case round =>
      obtain ⟨k, hk, rfl, ⟨out, ho, hol, hos⟩, hkr⟩ := hrel
      obtain ⟨A2, c4, rfl, _, _⟩ := ho.len
      rw [hol] at ho ⊢
      have r0 := hkr.cell' w0
      have r1 := hkr.cell' w1
      have s0 := hkr.cell' d0
      have s1 := hkr.cell' d1
      have s2 := hkr.cell' d2
      have HK := Lib.hid hkr
      have HO := Lib.hid ho
      have HOL := Lib.hid hol
      have HOS := Lib.hid hos
      have hwr := hkr.size
      clear w0 w1 d0 d1 d2 ho hol hos hkr
      by_cases hlt : k < N
      · have g1 := HK.out.cell' (HKW.out.cell' (HCN.out k hlt))
        have g2 := HK.out.cell' (HKW.out.cell' (HCS.out k hlt))
        have g3 := HK.out.cell' (HKW.out.cell' (HCI.out k hlt))
        have z1 := H64N.out k hlt
        have z2 := H64S.out k hlt
        obtain ⟨nk, hnk⟩ : ∃ x, x = now[k]'(e1 k hlt) := ⟨_, rfl⟩
        obtain ⟨sk, hsk⟩ : ∃ x, x = safe[k]'(e2 k hlt) := ⟨_, rfl⟩
        obtain ⟨ik, hik⟩ : ∃ x, x = is[k]'(e3 k hlt) := ⟨_, rfl⟩
        rw [← hnk] at g1 z1
        rw [← hsk] at g2 z2
        rw [← hik] at g3
        have Z1 := Lib.hid z1
        have Z2 := Lib.hid z2
        have n3 : nk.size ≤ 64 := by omega
        have n4 : sk.size ≤ 64 := by omega
        obtain ⟨q, hq⟩ : ∃ q, q = k % 64 := ⟨_, rfl⟩
        have hqi : (k : Int) % 64 = (q : Int) := by omega
        have hq64 : q < 64 := by omega
        have q0 : (0 : Int) ≤ (q : Int) := by omega
        have i0 : (0 : Int) ≤ (k : Int) := by omega
        have i1 : (k : Int) < (N : Int) := by omega
        have t0 : (0 : Int) ≤ (m : Int) := by omega
        have t1 : (m : Int) ≤ (nk.size : Int) := by rw [Z1.out]; omega
        have t2 : (m : Int) ≤ (sk.size : Int) := by rw [Z2.out]; omega
        clear hnk hsk hik z1 z2 hq
        cases ik
        · skip
          go_wp2_with (at_builtin; refine wpList_ap1 (K := KStr) (S := fun k => S k ∨ k = d) _ (by rfl) _ _ 48 (by rfl) W.heap.size 9 9 _ 16 Try.underlying48 I_str rfl (by decide) (by decide) _ _ (by rfl) HO.out 1 1 (by rfl) rfl _ (nk) ?c1 ?c2 ?c3 ?_)
          case c1 => rfl
          case c2 => show W.heap.size ≤ wr.heap.size; omega
          case c3 => rw [HOL.out]; omega
          intro v2 w2 hv2 hk2 hat
          have K2 := Lib.hid (HK.out.trans hk2 (fun j hj e => absurd (HO.out.lt e).1 (by omega)))
          have HV := Lib.hid hv2
          clear hv2 hk2 hat
          go_wp2
          go_roundw
          case rel => exact ⟨k + 1, by omega, by go_num, ⟨_, HV.out, by rw [List.length_append, HOL.out]; rfl, fun s hs => by rcases List.mem_append.1 hs with hs | hs; exact HOS.out s hs; rw [List.mem_singleton.1 hs]; exact Z1.out⟩, K2.out⟩
          case measure => simp [intOf]; omega
        · by_cases hkk : q < km
          · obtain ⟨bk, ok, rfl, _, _, hr⟩ := HA.out (by rw [← HKM.out]; omega)
            obtain ⟨u, hcu, hu⟩ := hr q (by rw [← HKM.out]; omega)
            have hu' := KBool_R hu
            obtain ⟨kq, hkq⟩ : ∃ kq, kq = keep[q]'(by rw [← HKM.out]; omega) := ⟨_, rfl⟩
            rw [← hkq] at hu'
            subst hu'
            have hcu := HK.out.cell' (HKW.out.cell' hcu)
            have q9 : (q : Int) < (km : Int) := by omega
            clear hr hu hkq
            cases kq
            · by_cases hti : (k : Int) = torn
              · subst hti
                go_wp2
                go_quiet (fail)
                go_wp2_with (at_builtin; refine wpList_ap1 (K := KStr) (S := fun k => S k ∨ k = d) _ (by rfl) _ _ 48 (by rfl) W.heap.size 9 9 _ 16 Try.underlying48 I_str rfl (by decide) (by decide) _ _ (by rfl) (HO.out.no (Kp.dq wr nq)) 1 1 (by rfl) rfl _ (nk.extract 0 m ++ sk.extract m sk.size) ?c1 ?c2 ?c3 ?_)
                case c1 => rfl
                case c2 => show W.heap.size ≤ wr.heap.size; omega
                case c3 => rw [HOL.out]; omega
                intro v2 w2 hv2 hk2 hat
                have K2 := Lib.hid ((HK.out.drewN nq).trans hk2 (fun j hj e => absurd (HO.out.lt e).1 (by omega)))
                have HV := Lib.hid hv2
                clear hv2 hk2 hat
                go_wp2
                go_roundw
                case rel => exact ⟨k + 1, by omega, by go_num, ⟨_, HV.out, by rw [List.length_append, HOL.out]; rfl, fun s hs => by rcases List.mem_append.1 hs with hs | hs; exact HOS.out s hs; rw [List.mem_singleton.1 hs]; exact torn_size Z1.out Z2.out hm64⟩, K2.out⟩
                case measure => simp [intOf]; omega
              · skip
                go_wp2_with (at_builtin; refine wpList_ap1 (K := KStr) (S := fun k => S k ∨ k = d) _ (by rfl) _ _ 48 (by rfl) W.heap.size 9 9 _ 16 Try.underlying48 I_str rfl (by decide) (by decide) _ _ (by rfl) HO.out 1 1 (by rfl) rfl _ (sk) ?c1 ?c2 ?c3 ?_)
                case c1 => rfl
                case c2 => show W.heap.size ≤ wr.heap.size; omega
                case c3 => rw [HOL.out]; omega
                intro v2 w2 hv2 hk2 hat
                have K2 := Lib.hid (HK.out.trans hk2 (fun j hj e => absurd (HO.out.lt e).1 (by omega)))
                have HV := Lib.hid hv2
                clear hv2 hk2 hat
                go_wp2
                go_roundw
                case rel => exact ⟨k + 1, by omega, by go_num, ⟨_, HV.out, by rw [List.length_append, HOL.out]; rfl, fun s hs => by rcases List.mem_append.1 hs with hs | hs; exact HOS.out s hs; rw [List.mem_singleton.1 hs]; exact Z2.out⟩, K2.out⟩
                case measure => simp [intOf]; omega
            · skip
              go_wp2_with (at_builtin; refine wpList_ap1 (K := KStr) (S := fun k => S k ∨ k = d) _ (by rfl) _ _ 48 (by rfl) W.heap.size 9 9 _ 16 Try.underlying48 I_str rfl (by decide) (by decide) _ _ (by rfl) HO.out 1 1 (by rfl) rfl _ (nk) ?c1 ?c2 ?c3 ?_)
              case c1 => rfl
              case c2 => show W.heap.size ≤ wr.heap.size; omega
              case c3 => rw [HOL.out]; omega
              intro v2 w2 hv2 hk2 hat
              have K2 := Lib.hid (HK.out.trans hk2 (fun j hj e => absurd (HO.out.lt e).1 (by omega)))
              have HV := Lib.hid hv2
              clear hv2 hk2 hat
              go_wp2
              go_roundw
              case rel => exact ⟨k + 1, by omega, by go_num, ⟨_, HV.out, by rw [List.length_append, HOL.out]; rfl, fun s hs => by rcases List.mem_append.1 hs with hs | hs; exact HOS.out s hs; rw [List.mem_singleton.1 hs]; exact Z1.out⟩, K2.out⟩
              case measure => simp [intOf]; omega
          · by_cases hti : (k : Int) = torn
            · subst hti
              go_wp2
              go_quiet (fail)
              go_wp2_with (at_builtin; refine wpList_ap1 (K := KStr) (S := fun k => S k ∨ k = d) _ (by rfl) _ _ 48 (by rfl) W.heap.size 9 9 _ 16 Try.underlying48 I_str rfl (by decide) (by decide) _ _ (by rfl) (HO.out.no (Kp.dq wr nq)) 1 1 (by rfl) rfl _ (nk.extract 0 m ++ sk.extract m sk.size) ?c1 ?c2 ?c3 ?_)
              case c1 => rfl
              case c2 => show W.heap.size ≤ wr.heap.size; omega
              case c3 => rw [HOL.out]; omega
              intro v2 w2 hv2 hk2 hat
              have K2 := Lib.hid ((HK.out.drewN nq).trans hk2 (fun j hj e => absurd (HO.out.lt e).1 (by omega)))
              have HV := Lib.hid hv2
              clear hv2 hk2 hat
              go_wp2
              go_roundw
              case rel => exact ⟨k + 1, by omega, by go_num, ⟨_, HV.out, by rw [List.length_append, HOL.out]; rfl, fun s hs => by rcases List.mem_append.1 hs with hs | hs; exact HOS.out s hs; rw [List.mem_singleton.1 hs]; exact torn_size Z1.out Z2.out hm64⟩, K2.out⟩
              case measure => simp [intOf]; omega
            · skip
              go_wp2_with (at_builtin; refine wpList_ap1 (K := KStr) (S := fun k => S k ∨ k = d) _ (by rfl) _ _ 48 (by rfl) W.heap.size 9 9 _ 16 Try.underlying48 I_str rfl (by decide) (by decide) _ _ (by rfl) HO.out 1 1 (by rfl) rfl _ (sk) ?c1 ?c2 ?c3 ?_)
              case c1 => rfl
              case c2 => show W.heap.size ≤ wr.heap.size; omega
              case c3 => rw [HOL.out]; omega
              intro v2 w2 hv2 hk2 hat
              have K2 := Lib.hid (HK.out.trans hk2 (fun j hj e => absurd (HO.out.lt e).1 (by omega)))
              have HV := Lib.hid hv2
              clear hv2 hk2 hat
              go_wp2
              go_roundw
              case rel => exact ⟨k + 1, by omega, by go_num, ⟨_, HV.out, by rw [List.length_append, HOL.out]; rfl, fun s hs => by rcases List.mem_append.1 hs with hs | hs; exact HOS.out s hs; rw [List.mem_singleton.1 hs]; exact Z2.out⟩, K2.out⟩
              case measure => simp [intOf]; omega
      · obtain rfl : k = N := by omega
        have hsl := HO.out.slOf (fun j hj => Nat.lt_trans (HS2.out j hj) hWs)
        have kw : Kp No w wr := HKW.out.trans' HK.out
        have a1 := kw.heap H1.out id
        have x0 := freeOf a1 0
        have hrd : RD S (wr.setCell ⟨d, 0, none⟩ (.slice A2 k c4)) d := by
          refine ⟨_, _, _, out, safe, is, by rw [heap_set a1]; rfl, hsl.dset 0 _, ?_, ?_, ⟨HOL.out.trans HNN.out, HOS.out⟩, H6.out, HN3.out.trans HNN.out, H8.out⟩
          · have := (H3.out.no kw).dset 0 (.slice A2 k c4); rw [HN2.out] at this; exact this
          · have := (H4.out.no kw).dset 0 (.slice A2 k c4); rw [HN3.out] at this; exact this
        have HF := Lib.hid (rdflush_any hrd (fun j hj => by have := HS.out j hj; have := kw.size; simp; omega))
        have KW := Lib.hid ((kw.no (S := fun k => k = d)).setAt 0 (.slice A2 k c4))
        have hlen : ((List.length out : Nat) : Int) = (k : Int) := by rw [HOL.out]
        have HOL2 := HOL.out
        clear hsl kw a1 hrd hlen HOL2
        go_wp2_with fail
        refine HF.out.mono ?_
        rintro e w5 ⟨rfl, h5, k5⟩
        have H5 := Lib.hid h5
        have K5 := Lib.hid (KW.out.trans' k5)
        clear h5 k5 HF
        go_wp2
        go_end0
        exact ⟨rfl, H5.out, K5.out⟩
end
end Go.Proofs.Ytocpppegmepolaa
