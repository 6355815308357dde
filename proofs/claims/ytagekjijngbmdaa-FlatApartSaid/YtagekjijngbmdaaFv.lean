/- The document's answer: Crash. -/
import Derived.Test.YtagekjijngbmdaaFu
set_option linter.unusedVariables false
set_option linter.unusedSimpArgs false
namespace Go.Proofs.Ytagekjijngbmdaa
open Go.RowKit
attribute [local go_sem ↓] Go.wp_at_zero Go.wp_at_succ

def rhas (all : List ByteArray) (s : ByteArray) : Bool := all.any fun o => decide (o = s)
def rddp (all : List ByteArray) (s : ByteArray) : List ByteArray := if rhas all s then all else all ++ [s]
def rcrashS (rs : List RCh) : List ByteArray := rs.flatten.foldl rddp []
def rone (s : ByteArray) : RCh := [s]
theorem rddp_len (outs : List ByteArray) (s : ByteArray) : (rddp outs s).length ≤ outs.length + 1 := by unfold rddp; split <;> simp
theorem rddps_len (l : List ByteArray) : ∀ outs, (l.foldl rddp outs).length ≤ outs.length + l.length := by
  induction l with
  | nil => intro outs; simp
  | cons s r ih => intro outs; have h1 := ih (rddp outs s); have h2 := rddp_len outs s; simp only [List.foldl_cons, List.length_cons]; omega
theorem rgathered {rs : List RCh} {ch : RCh} {k j : Nat} (hkn : k < rs.length) (hch : ch = rs[k]) (hj : j ≤ ch.length) :
    ((ch.take j).foldl rddp ((rs.take k).flatten.foldl rddp [])).length ≤ rs.flatten.length := by
  have h1 := rddps_len (ch.take j) ((rs.take k).flatten.foldl rddp [])
  have h2 := rddps_len (rs.take k).flatten []
  have h3 : (rs.take (k + 1)).flatten.length ≤ rs.flatten.length := by
    conv => rhs; rw [← List.take_append_drop (k + 1) rs]
    rw [List.flatten_append, List.length_append]; omega
  rw [List.take_succ_eq_append_getElem hkn, ← hch, List.flatten_append, List.length_append] at h3
  simp only [List.length_take, List.flatten_cons, List.flatten_nil, List.append_nil, List.length_nil] at *
  omega

set_option maxHeartbeats 8000000 in
theorem rcrash_ok {S : Nat → Prop} {b N : Nat} {rs : List RCh} (w : World) (h : RefR S w b N rs) (hok : Okr N rs)
    (hS : ∀ k, S k → k < w.heap.size) (hlen : rs.length ≤ 1000000000) (hall : rs.flatten.length ≤ 1000000000) :
    Calls Try.prog 36 #[.pointer (some ⟨b, 0, none⟩)] w fun e w' => e = .returned (.tuple #[]) ∧ RefR S w' b N ((rcrashS rs).map rone) ∧ Kp (fun k => k = b) w w' := by
  obtain ⟨v, hb, hv, hSb⟩ := h
  obtain ⟨A, c, rfl, hc1, hc2, hA⟩ := rchainAt hv
  obtain ⟨n, hn⟩ : ∃ n, n = rs.length := ⟨_, rfl⟩
  have hlb := blt hb
  rw [← hn] at hb hlen hc2
  have hcb : w.cell? ⟨b, 1, none⟩ = some (.slice A n c) := cellOf hb 1
  have HN := Lib.hid hn
  have HA := Lib.hid hA
  have HB := Lib.hid hb
  have HOK := Lib.hid hok
  have HSS := Lib.hid hS
  have HALL := Lib.hid hall
  clear hv hA hn hb hok hS hall
  go_enter Try.func36, Try.ntmps36
  go_wp2
  go_loopw [2, 3] (fun v i wr => ∃ k : Nat, k ≤ n ∧ i = .int .i64 k ∧ OwR KStr 9 w.heap.size No wr v ((rs.take k).flatten.foldl rddp []) ∧ Kp No w wr) (fun _ i _ => n - (intOf i).toNat)
  case atStart => exact ⟨0, Nat.zero_le _, rfl, OwR.nil _ _ _ _ _, Kp.refl _ _⟩
  case round =>
    obtain ⟨k, hk, rfl, ho, hkr⟩ := hrel
    have hcr := hkr.cell' hcb
    by_cases hlt : k < n
    · have hkn : k < rs.length := by rw [← HN.out]; exact hlt
      obtain ⟨b1, o1, rfl, hr⟩ := HA.out (by omega)
      obtain ⟨u, hcu, hu⟩ := hr k hkn
      obtain ⟨ch, hch⟩ : ∃ ch, ch = rs[k] := ⟨_, rfl⟩
      rw [← hch] at hu
      obtain ⟨hp, hp2, hp3⟩ := HOK.out ch (hch ▸ List.getElem_mem _)
      have hcu' := hkr.cell' hcu
      obtain ⟨Au, cu, rfl, hcu1, hcu2⟩ := hu.slice
      have hst : (rs.take (k + 1)).flatten.foldl rddp [] = ch.foldl rddp ((rs.take k).flatten.foldl rddp []) := by
        rw [List.take_succ_eq_append_getElem hkn, ← hch]; simp
      obtain ⟨m, hm⟩ : ∃ m, m = ch.length := ⟨_, rfl⟩
      rw [← hm] at hcu1 hcu' hu hcu hp2
      have k0 : (0 : Int) ≤ (k : Int) := by omega
      have k1 : (k : Int) < (n : Int) := by omega
      have HO := Lib.hid ho
      have HKR := Lib.hid hkr
      have HU := Lib.hid hu
      have HCU := Lib.hid hcu
      have HST := Lib.hid hst
      have HM := Lib.hid hm
      have HCH := Lib.hid hch
      clear ho hkr hr hcu hu hch hp hp3 hst hm
      go_wp2
      obtain ⟨wo, hwo⟩ : ∃ wo : World, wo = wr := ⟨_, rfl⟩
      go_loopw [2, 4] (fun v i w2 => ∃ j : Nat, j ≤ m ∧ i = .int .i64 j ∧ OwR KStr 9 w.heap.size No w2 v ((ch.take j).foldl rddp ((rs.take k).flatten.foldl rddp [])) ∧ Kp No w w2) (fun _ i _ => m - (intOf i).toNat)
      case atStart => exact ⟨0, Nat.zero_le _, rfl, HO.out, HKR.out⟩
      case round =>
        clear HO HKR hwo hcr hcu'
        obtain ⟨j, hj, rfl, ho, hkr⟩ := hrel
        have hcr := hkr.cell' hcb
        have hcu' := hkr.cell' HCU.out
        by_cases hlt2 : j < m
        · have hjn : j < ch.length := by rw [← HM.out]; exact hlt2
          have hg := rgathered hkn HCH.out (j := j) (by omega)
          have hst2 : (ch.take (j + 1)).foldl rddp ((rs.take k).flatten.foldl rddp []) = rddp ((ch.take j).foldl rddp ((rs.take k).flatten.foldl rddp [])) ch[j] := by
            rw [List.take_succ_eq_append_getElem hjn, List.foldl_append]; rfl
          obtain ⟨os, hos⟩ : ∃ os, os = (ch.take j).foldl rddp ((rs.take k).flatten.foldl rddp []) := ⟨_, rfl⟩
          rw [← hos] at ho hg hst2
          obtain ⟨b3, o3, c3, hv3, _, _, _, _, hr3⟩ := HU.out.open1 rfl (by omega)
          injection hv3 with e1 e2 e3
          subst e1
          obtain ⟨us, hcs, hus⟩ := hr3 j hjn
          obtain rfl := KStr_R hus
          obtain ⟨s, hs⟩ : ∃ s, s = ch[j] := ⟨_, rfl⟩
          rw [← hs] at hcs hst2
          have hcs' := hkr.cell' hcs
          obtain ⟨A2, cc2, ev, hl1, hl2⟩ := ho.len
          obtain ⟨l2, hl2'⟩ : ∃ l2, l2 = os.length := ⟨_, rfl⟩
          rw [← hl2'] at ev hl1 hg
          subst ev
          have j0 : (0 : Int) ≤ (j : Int) := by omega
          have j1 : (j : Int) < (m : Int) := by omega
          have hgl : l2 ≤ 1000000000 := Nat.le_trans hg HALL.out
          have HO := Lib.hid ho
          have HKR := Lib.hid hkr
          have HST2 := Lib.hid hst2
          have HL2 := Lib.hid hl2'
          clear ho hkr hst2 hos hr3 hcs hus hs e2 e3 hg hl2'
          go_wp2
          go_loop [6, 7] (fun is i => ∃ q : Nat, q ≤ l2 ∧ i = .int .i64 q ∧ is = .bool ((os.take q).any fun y => decide (y = s))) (fun _ i => l2 - (intOf i).toNat)
          case atStart => exact ⟨0, Nat.zero_le _, rfl, rfl⟩
          case round =>
            obtain ⟨q, hq, rfl, rfl⟩ := hrel
            by_cases hql : q < l2
            · have hqn : q < os.length := by rw [← HL2.out]; exact hql
              obtain ⟨g3, cc3, _, ev, _⟩ := HO.out.block (by omega)
              injection ev with e1 e2 e3
              subst e1
              clear e2 e3
              obtain ⟨u3, hcu3, hfu3, hur3⟩ := HO.out.at1 rfl hqn
              obtain rfl := KStr_R hur3
              have hst3 : ((os.take (q + 1)).any fun y => decide (y = s)) = (((os.take q).any fun y => decide (y = s)) || decide (os[q] = s)) := by
                rw [List.take_succ_eq_append_getElem hqn, List.any_append]; simp
              have HST3 := Lib.hid hst3
              obtain ⟨y, hy⟩ : ∃ y, y = os[q] := ⟨_, rfl⟩
              rw [← hy] at hcu3 HST3
              obtain ⟨v, hv⟩ : ∃ v, v = ((os.take q).any fun y => decide (y = s)) := ⟨_, rfl⟩
              rw [← hv] at HST3 ⊢
              have q0 : (0 : Int) ≤ (q : Int) := by omega
              have q1 : (q : Int) < (l2 : Int) := by omega
              clear hur3 hst3 hy hv hqn
              cases v
              · by_cases hyx : y = s
                · have hc := str_eq hyx
                  have hd := decide_eq_true hyx
                  rw [hd] at HST3
                  clear hyx hd
                  go_wp2
                  go_round
                  case rel => exact ⟨q + 1, by omega, by go_num, by rw [HST3.out]; rfl⟩
                  case measure => simp [intOf]; omega
                · have hc := str_ne hyx
                  have hd := decide_eq_false hyx
                  rw [hd] at HST3
                  clear hyx hd
                  go_wp2
                  go_round
                  case rel => exact ⟨q + 1, by omega, by go_num, by rw [HST3.out]; rfl⟩
                  case measure => simp [intOf]; omega
              · go_wp2
                go_round
                case rel => exact ⟨q + 1, by omega, by go_num, by rw [HST3.out]; rfl⟩
                case measure => simp [intOf]; omega
            · obtain rfl : q = l2 := by omega
              have hallq : ((os.take q).any fun y => decide (y = s)) = rhas os s := by rw [HL2.out, List.take_length]; rfl
              rw [hallq]
              obtain ⟨v, hv⟩ : ∃ v, v = rhas os s := ⟨_, rfl⟩
              rw [← hv]
              have HV := Lib.hid hv
              clear hallq hv
              cases v
              · go_wp2_with (at_builtin; refine wpList_ap1 (K := KStr) (S := No) wr (by rfl) _ _ 32 (by rfl) w.heap.size 9 9 _ 16 Try.underlying32 I_str rfl (by decide) (by decide) _ _ (by rfl) HO.out 1 1 (by rfl) rfl _ s ?c1 ?c2 ?c3 ?_)
                case c1 => rfl
                case c2 => exact HKR.out.size
                case c3 => rw [← HL2.out]; omega
                intro v5 W5 hv5 hk5 hat5
                have hd : rddp os s = os ++ [s] := by unfold rddp; rw [← HV.out]; rfl
                rw [← hd, ← HST2.out] at hv5
                have HV5 := Lib.hid hv5
                have HK6 := Lib.hid (HKR.out.trans hk5 (fun q hq e => by have := (HO.out.lt e).1; omega))
                clear hv5 hk5 hat5 hd
                go_wp2
                go_roundw
                case rel => exact ⟨j + 1, by omega, by go_num, HV5.out, HK6.out⟩
                case measure => simp [intOf]; omega
              · go_wp2
                go_roundw
                case rel => exact ⟨j + 1, by omega, by go_num, by rw [HST2.out]; unfold rddp; rw [← HV.out]; exact HO.out, HKR.out⟩
                case measure => simp [intOf]; omega
        · obtain rfl : j = m := by omega
          have htk : ch.take j = ch := by rw [HM.out, List.take_length]
          rw [htk, ← HST.out] at ho
          have HO := Lib.hid ho
          have HKR := Lib.hid hkr
          clear ho hkr htk
          go_wp2
          go_roundw
          case rel => exact ⟨k + 1, by omega, by go_num, HO.out, HKR.out⟩
          case measure => simp [intOf]; omega
    · obtain rfl : k = n := by omega
      have htk : rs.take k = rs := by rw [HN.out, List.take_length]
      rw [htk] at ho
      have hcs : rs.flatten.foldl rddp [] = rcrashS rs := rfl
      rw [hcs] at ho
      obtain ⟨A2, cc2, ev, hl1, hl2⟩ := ho.len
      have hl3 := rddps_len rs.flatten []
      rw [hcs, List.length_nil, Nat.zero_add] at hl3
      obtain ⟨os, hos⟩ : ∃ os, os = rcrashS rs := ⟨_, rfl⟩
      rw [← hos] at ho ev hl1 hl3
      have HOS := Lib.hid hos
      obtain ⟨l2, hl2'⟩ : ∃ l2, l2 = os.length := ⟨_, rfl⟩
      rw [← hl2'] at ev hl1 hl3
      subst ev
      have hgl : l2 ≤ 1000000000 := Nat.le_trans hl3 HALL.out
      have HO := Lib.hid ho
      have HKR := Lib.hid hkr
      have HL2 := Lib.hid hl2'
      have hsr := hkr.size
      clear ho hkr hcs hl3 hos hl2' htk
      go_wp2
      go_loopw [8, 9] (fun v i w2 => ∃ j : Nat, j ≤ l2 ∧ i = .int .i64 j ∧ OwR KRC 66 wr.heap.size (fun k => S k ∨ k = b) w2 v ((os.take j).map rone) ∧ Kp No wr w2) (fun _ i _ => l2 - (intOf i).toNat)
      case atStart => exact ⟨0, Nat.zero_le _, rfl, OwR.nil _ _ _ _ _, Kp.refl _ _⟩
      case round =>
        obtain ⟨j, hj, rfl, ho, hkr⟩ := hrel
        have hcr2 := hkr.cell' hcr
        by_cases hjl : j < l2
        · have hjn : j < os.length := by rw [← HL2.out]; exact hjl
          obtain ⟨g3, cc3, _, ev, _⟩ := HO.out.block (by omega)
          injection ev with e1 e2 e3
          subst e1
          clear e2 e3
          obtain ⟨u3, hcu3, hfu3, hur3⟩ := (HO.out.no hkr).at1 rfl hjn
          obtain rfl := KStr_R hur3
          obtain ⟨x, hx⟩ : ∃ x, x = os[j] := ⟨_, rfl⟩
          have hst : (os.take (j + 1)).map rone = (os.take j).map rone ++ [[x]] := by
            rw [List.take_succ_eq_append_getElem hjn, List.map_append, ← hx]; rfl
          rw [← hx] at hcu3
          have j0 : (0 : Int) ≤ (j : Int) := by omega
          have j1 : (j : Int) < (l2 : Int) := by omega
          have HST := Lib.hid hst
          have HOO := Lib.hid ho
          have HKO := Lib.hid hkr
          have hs1 := hkr.size
          clear hur3 hst hx ho hkr hjn
          go_wp2_with (at_builtin; refine wpList_ap1h (K := KRC) (S := fun k => S k ∨ k = b) (wr.alloc (.cells #[.string x] 9)) (wr.heap.size + 1) (by simp) (by rfl) _ _ 45 (by rfl) _ 66 66 _ 24 Try.underlying45 I_rch rfl (by decide) (by decide) _ _ (by rfl) (HOO.out.no ((Kp.refl No wr).alloc _)) 1 1 (by rfl) rfl _ [x] ?c1 ?c2 ?c3 ?_)
          case c1 =>
            refine ⟨_, rfl, SlR.lit1 rfl ?_⟩
            rintro ((y | y) | y)
            · have := HSS.out _ y; omega
            · omega
            · have := (HOO.out.lt y).2; omega
          case c2 => simp; omega
          case c3 => rw [List.length_map, List.length_take]; omega
          intro v5 W5 hv5 hk5 hat5
          rw [← List.map_take, ← HST.out] at hv5
          have hk6 := (HKO.out.alloc (.cells #[.string x] 9)).trans hk5 (fun q hq e => by have := (HOO.out.lt e).1; omega)
          have HV5 := Lib.hid hv5
          have HK6 := Lib.hid hk6
          clear hv5 hk5 hat5 hk6
          go_wp2
          go_roundw
          case rel => exact ⟨j + 1, by omega, by go_num, HV5.out, HK6.out⟩
          case measure => simp [intOf]; omega
        · obtain rfl : j = l2 := by omega
          have htk : os.take j = os := by rw [HL2.out, List.take_length]
          rw [htk] at ho
          obtain ⟨A9, c9, e9, _, _⟩ := ho.len
          obtain ⟨l9, hl9⟩ : ∃ l9, l9 = (os.map rone).length := ⟨_, rfl⟩
          rw [← hl9] at e9
          subst e9
          clear hl9
          have hkw := HKR.out.trans' hkr
          have hb2 := hkw.heap HB.out id
          have hcf := freeOf hb2 1
          have hkwo := hkr.size
          have HOO := Lib.hid ho
          have HKO := Lib.hid hkw
          have hbs := heap_set hb2 1 (.slice A9 l9 c9)
          have HBS := Lib.hid hbs
          clear ho hkr htk hb2 hbs hkw
          go_wp2
          go_returns
          have hset : Kp (fun j => j = b) w (wr.setCell ⟨b, 1, none⟩ (.slice A9 l9 c9)) := (HKO.out.no).setAt 1 _
          have hset2 : Kp (fun j => j = b) wr (wr.setCell ⟨b, 1, none⟩ (.slice A9 l9 c9)) := (Kp.refl _ _).setAt 1 _
          refine ⟨rfl, ⟨_, HBS.out, ?_, hSb⟩, hset⟩
          rw [← HOS.out]
          refine (HOO.out.slR (fun q e x => ?_)).kp hset2 (fun q _ e => .inr e)
          have := (HOO.out.lt e).1
          rcases x with x | x
          · have := HSS.out _ x; omega
          · omega
end Go.Proofs.Ytagekjijngbmdaa
