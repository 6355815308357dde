/- flat: Crash. -/
import Derived.Test.YtagekjijngbmdaaFk
set_option linter.unusedVariables false
set_option linter.unusedSimpArgs false
namespace Go.Proofs.Ytagekjijngbmdaa
open Go.RowKit
attribute [local go_sem ↓] Go.wp_at_zero Go.wp_at_succ

def ddp (outs : List St) (s : St) : List St := if has outs s then outs else outs ++ [s]
def crashS (cs : List Ch) : List St := cs.flatten.foldl ddp []
theorem ddp_yes {outs : List St} {s : St} (h : has outs s = true) : ddp outs s = outs := if_pos h
theorem ddp_no {outs : List St} {s : St} (h : has outs s = false) : ddp outs s = outs ++ [s] := if_neg (by simp [h])
theorem ddp_len (outs : List St) (s : St) : (ddp outs s).length ≤ outs.length + 1 := by unfold ddp; split <;> simp
theorem ddp_mem {outs : List St} {s x : St} (h : x ∈ ddp outs s) : x ∈ outs ∨ x = s := by
  unfold ddp at h
  split at h
  · exact .inl h
  · simpa using h
theorem ddps_len (l : List St) : ∀ outs, (l.foldl ddp outs).length ≤ outs.length + l.length := by
  induction l with
  | nil => intro outs; simp
  | cons s r ih => intro outs; have h1 := ih (ddp outs s); have h2 := ddp_len outs s; simp only [List.foldl_cons, List.length_cons]; omega
theorem ddps_mem (l : List St) : ∀ outs x, x ∈ l.foldl ddp outs → x ∈ outs ∨ x ∈ l := by
  induction l with
  | nil => intro outs x h; exact .inl h
  | cons s r ih =>
    intro outs x h
    rcases ih _ _ h with h | h
    · rcases ddp_mem h with h | h
      · exact .inl h
      · exact .inr (by simp [h])
    · exact .inr (by simp [h])
theorem ddp_keeps {outs : List St} {s x : St} (h : x ∈ outs) : x ∈ ddp outs s := by
  unfold ddp; split
  · exact h
  · simp [h]
theorem ddp_new (outs : List St) (s : St) : s ∈ ddp outs s := by
  unfold ddp; split
  · rename_i h; exact has_true.1 h
  · simp
theorem ddps_keeps (l : List St) : ∀ outs x, x ∈ outs → x ∈ l.foldl ddp outs := by
  induction l with
  | nil => intro outs x h; exact h
  | cons s r ih => intro outs x h; exact ih _ _ (ddp_keeps h)
theorem ddps_all (l : List St) : ∀ outs x, x ∈ l → x ∈ l.foldl ddp outs := by
  induction l with
  | nil => intro outs x h; simp at h
  | cons s r ih =>
    intro outs x h
    rcases List.mem_cons.1 h with rfl | h
    · exact ddps_keeps r _ _ (ddp_new _ _)
    · exact ih _ _ h

/-- The variable 'out' (block bo) while Crash gathers. -/
def OutR (S : Nat → Prop) (w wr : World) (bo : Nat) (outs : List St) : Prop :=
  ∃ v, wr.heap[bo]? = some (.cells #[v] 56 (0, 0)) ∧ OwR KCh 55 (bo + 1) (fun k => S k ∨ k = bo) wr v (outs.map one) ∧ Kp No w wr

theorem OutR.no {S : Nat → Prop} {w wr w1 : World} {bo : Nat} {outs : List St} (h : OutR S w wr bo outs) (hk : Kp No wr w1) : OutR S w w1 bo outs := by
  obtain ⟨v, h1, h2, h3⟩ := h
  exact ⟨v, hk.heap h1 id, h2.no hk, h3.trans' hk⟩

set_option maxHeartbeats 400000 in
theorem crash_nil (w : World) : Calls Try.prog 12 #[.pointer none] w fun e w' => e = .returned (.tuple #[]) ∧ w = w' := by
  go_enter Try.func12, Try.ntmps12
  go_wp2
  go_returns
  exact ⟨rfl, rfl⟩

theorem gathered {cs : List Ch} {ch : Ch} {k j N : Nat} (hok : Okc N cs) (hkn : k < cs.length) (hch : ch = cs[k]) (hj : j ≤ ch.length) :
    (∀ s ∈ (ch.take j).foldl ddp ((cs.take k).flatten.foldl ddp []), s.length = N) ∧ ((ch.take j).foldl ddp ((cs.take k).flatten.foldl ddp [])).length ≤ cs.flatten.length := by
  constructor
  · intro s hs
    rcases ddps_mem _ _ _ hs with hs | hs
    · rcases ddps_mem _ _ _ hs with hs | hs
      · simp at hs
      · obtain ⟨c, hc, hs⟩ := List.mem_flatten.1 hs
        exact ((hok c (List.mem_of_mem_take hc)).2 s hs).1
    · exact ((hok ch (hch ▸ List.getElem_mem _)).2 s (List.mem_of_mem_take hs)).1
  · have h1 := ddps_len (ch.take j) ((cs.take k).flatten.foldl ddp [])
    have h2 := ddps_len (cs.take k).flatten []
    have h3 : (cs.take (k + 1)).flatten.length ≤ cs.flatten.length := by
      conv => rhs; rw [← List.take_append_drop (k + 1) cs]
      rw [List.flatten_append, List.length_append]; omega
    rw [List.take_succ_eq_append_getElem hkn, ← hch, List.flatten_append, List.length_append] at h3
    simp only [List.length_take, List.flatten_cons, List.flatten_nil, List.append_nil, List.length_nil] at *
    omega

def CrashPost (S : Nat → Prop) (w : World) (b N : Nat) (l : List Ch) (e : Ending) (w' : World) : Prop :=
  e = .returned (.tuple #[]) ∧ ∃ g', w.heap.size ≤ g' ∧ FlatR S w' b g' N l ∧ Kp (fun k => k = b) w w'

set_option maxHeartbeats 4000000 in
theorem crash_any {S : Nat → Prop} {b g N : Nat} {cs : List Ch} (w : World) (h : FlatR S w b g N cs) (h2 : N ≤ 64) (hok : Okc N cs) (h0 : 0 < cs.length)
    (hS : ∀ k, S k → k < w.heap.size) (hlen : cs.length ≤ 1000000000) (hcl : ∀ c ∈ cs, c.length ≤ 1000000000) (hall : cs.flatten.length ≤ 1000000000) :
    Calls Try.prog 12 #[.pointer (some ⟨b, 0, none⟩)] w (CrashPost S w b N ((crashS cs).map one)) := by
  obtain ⟨c, hb, ho, hgb, hSb, hSg⟩ := h
  have hc1 : w.cell? ⟨b, 1, none⟩ = some (.slice (some ⟨g, 0, none⟩) cs.length c) := cellOf hb 1
  have hlb := blt hb
  have hlg := (ho.lt (k := g) rfl).2
  obtain ⟨n, hn⟩ : ∃ n, n = cs.length := ⟨_, rfl⟩
  rw [← hn] at hc1 ho hlen
  have HN := Lib.hid hn
  have HO := Lib.hid ho
  have HB := Lib.hid hb
  have HA := Lib.hid hall
  have hinit : OutR (fun k => (S k ∨ k = b) ∨ k = g) w (w.alloc (.cells #[.slice none 0 0] 56)) w.heap.size [] :=
    ⟨_, heap_alloc_new w _, OwR.nil _ _ _ _ _, (Kp.refl _ _).alloc _⟩
  have HI := Lib.hid hinit
  clear ho hb hn hinit hall
  go_enter Try.func12, Try.ntmps12
  go_wp2
  go_loopw [16] (fun i wr => ∃ k : Nat, k ≤ n ∧ i = .int .i64 k ∧ OutR (fun k => (S k ∨ k = b) ∨ k = g) w wr w.heap.size ((cs.take k).flatten.foldl ddp [])) (fun i _ => n - (intOf i).toNat)
  case atStart => exact ⟨0, Nat.zero_le _, rfl, HI.out⟩
  case round =>
    clear HI
    obtain ⟨k, hk, rfl, hout⟩ := hrel
    by_cases hlt : k < n
    · have hkn : k < cs.length := by rw [← HN.out]; exact hlt
      obtain ⟨A', m', d', hcw, hu', hx', hl1', hl2'⟩ := chainAt HO.out hok hkn
      have hkr : Kp No w wr := by obtain ⟨_, _, _, h⟩ := hout; exact h
      have hcu' := hkr.cell' hcw
      have hsz := hkr.size
      obtain ⟨ch, hch⟩ : ∃ ch, ch = cs[k] := ⟨_, rfl⟩
      rw [← hch] at hu' hx' hl1' hl2'
      obtain ⟨m, hm⟩ : ∃ m, m = ch.length := ⟨_, rfl⟩
      have hm' : m' = m := by
        obtain ⟨_, _, hv, _, _⟩ := hu'.slice
        injection hv with _ e2 _
        rw [e2, hm]
      subst hm'
      have i0 : (0 : Int) ≤ (k : Int) := by omega
      have i1 : (k : Int) < (n : Int) := by omega
      have hml : m' ≤ 1000000000 := by rw [hm]; exact hcl _ (hch ▸ List.getElem_mem _)
      have hstep : (cs.take (k + 1)).flatten.foldl ddp [] = ch.foldl ddp ((cs.take k).flatten.foldl ddp []) := by
        rw [List.take_succ_eq_append_getElem hkn, ← hch]; simp
      have HOUT := Lib.hid hout
      have HU' := Lib.hid hu'
      have HCH := Lib.hid hch
      have HM := Lib.hid hm
      have HST := Lib.hid hstep
      have HKR := Lib.hid hkr
      clear hout hu' hx' hl1' hl2' hch hm hcw hstep hkr
      go_wp2
      obtain ⟨wo, hwo⟩ : ∃ wo : World, wo = wr := ⟨_, rfl⟩
      go_loopw [22] (fun i w2 => ∃ j : Nat, j ≤ m' ∧ i = .int .i64 j ∧ OutR (fun k => (S k ∨ k = b) ∨ k = g) w w2 w.heap.size ((ch.take j).foldl ddp ((cs.take k).flatten.foldl ddp []))) (fun i _ => m' - (intOf i).toNat)
      case atStart => exact ⟨0, Nat.zero_le _, rfl, HOUT.out⟩
      case round =>
        obtain ⟨j, hj, rfl, hout⟩ := hrel
        clear hwo
        by_cases hlt2 : j < m'
        · have hjn : j < ch.length := by rw [← HM.out]; exact hlt2
          obtain ⟨hg1, hg2⟩ := gathered hok hkn HCH.out (j := j) (by omega)
          have hstep2 : (ch.take (j + 1)).foldl ddp ((cs.take k).flatten.foldl ddp []) = ddp ((ch.take j).foldl ddp ((cs.take k).flatten.foldl ddp [])) ch[j] := by
            rw [List.take_succ_eq_append_getElem hjn, List.foldl_append]; rfl
          obtain ⟨os, hos⟩ : ∃ os, os = (ch.take j).foldl ddp ((cs.take k).flatten.foldl ddp []) := ⟨_, rfl⟩
          rw [← hos] at hout hg1 hg2 hstep2
          obtain ⟨v, hbo, hv, hkr⟩ := hout
          obtain ⟨b1, o1, c1, hv1, _, _, _, _, hr1⟩ := HU'.out.open1 rfl (by omega)
          injection hv1 with e1 e2 e3
          subst e1
          obtain ⟨u, hcu, hu⟩ := hr1 j hjn
          obtain ⟨s, hs⟩ : ∃ s, s = ch[j] := ⟨_, rfl⟩
          rw [← hs] at hu hstep2
          have hus : SlR KStr (fun j => (S j ∨ j = b) ∨ j = g) w u s := KSl_R hu
          have hsl : s.length = N := ((hok ch (HCH.out ▸ List.getElem_mem _)).2 s (hs ▸ List.getElem_mem _)).1
          obtain ⟨A3, c3, rfl, _, _⟩ := hus.slice
          have hcr := hkr.cell' hcu
          have hszw := blt hbo
          have hcv : wr.cell? ⟨w.heap.size, 0, none⟩ = some v := cellOf hbo 0
          have hvS : SlR KCh (fun j => (S j ∨ j = b) ∨ j = g) wr v (os.map one) := (hv.slR (fun q e x => by have := (hv.lt e).1; rcases x with ((x | x) | x) | x; (have := hS _ x; omega); omega; omega; omega)).less fun q _ x => .inl x
          have HC := Lib.hid (there_any (S := fun j => (S j ∨ j = b) ∨ j = g) v _ w.heap.size os s wr hcv hvS (hus.no hkr) (by omega) (fun x hx => by rw [hg1 x hx]; omega) (by have := HA.out; omega))
          have j0 : (0 : Int) ≤ (j : Int) := by omega
          have j1 : (j : Int) < (m' : Int) := by omega
          have HBO := Lib.hid hbo
          have HV := Lib.hid hv
          have HK := Lib.hid hkr
          have HS2 := Lib.hid hstep2
          have HUS := Lib.hid hus
          have HOL := Lib.hid hg2
          have HSL := Lib.hid hsl
          clear hbo hv hkr hg1 hstep2 hos hr1 hcu hu hs hus hvS e2 e3 hg2 hsl
          cases hz : has os s
          · rw [hz] at HC
            have HZ := Lib.hid hz
            clear hz
            go_wp2_with (first | (go_at_call 27; refine HC.out.mono ?_; rintro e w1 ⟨rfl, hk1⟩; have hcv1 := hk1.cell' hcv) | (at_builtin; refine wpList_ap1h (K := KCh) (S := fun k => ((S k ∨ k = b) ∨ k = g) ∨ k = w.heap.size) (w1.alloc (.cells #[.slice A3 s.length c3] 53)) (w1.heap.size + 1) (by simp) (by rfl) _ _ 56 (by rfl) (w.heap.size + 1) 55 55 _ 24 Try.underlying56 I_chain rfl (by decide) (by decide) _ _ (by rfl) (HV.out.no (hk1.alloc _)) 1 1 (by rfl) rfl _ (one s) ?c1 ?c2 ?c3 ?_))
            case c1 =>
              have hsw : w.heap.size < w1.heap.size := Nat.lt_of_lt_of_le hszw hk1.size
              refine ⟨_, rfl, SlR.lit1 ⟨_, rfl, HUS.out.move (fun q hq hn => ⟨?_, (HK.out.trans' hk1).block q hq id⟩)⟩ ?_⟩
              · rintro ((((x | x) | x) | x) | x)
                · exact hn (.inl (.inl x))
                · exact hn (.inl (.inr x))
                · exact hn (.inr x)
                · omega
                · have := (HV.out.lt x).1; omega
              · rintro ((((x | x) | x) | x) | x)
                · have := hS _ x; omega
                · omega
                · omega
                · omega
                · have := (HV.out.lt x).2; have := hk1.size; omega
            case c2 => have := hk1.size; simp; omega
            case c3 => have := HOL.out; have := HA.out; rw [List.length_map]; omega
            intro v2 w2 hv2 hk2 hat
            have hsw : w.heap.size < w1.heap.size := Nat.lt_of_lt_of_le hszw hk1.size
            have hka : Kp No wr (w1.alloc (.cells #[.slice A3 s.length c3] 53)) := hk1.alloc _
            have hne : v.ownBlock ≠ some w.heap.size := fun e => by have := (HV.out.lt e).1; omega
            have hbo2 := hk2.heap (hka.heap HBO.out id) hne
            have hne2 : ∀ q, v2.ownBlock = some q → q ≠ w.heap.size := fun q e => by have := (hv2.lt e).1; omega
            have hO3 := hv2.kp (S' := fun k => ((S k ∨ k = b) ∨ k = g) ∨ k = w.heap.size) ((Kp.refl (fun k => k = w.heap.size) w2).setAt 0 v2) (fun q _ x => .inr x) hne2 (fun q _ x => x)
            have hK3 : Kp No w (w2.setCell ⟨w.heap.size, 0, none⟩ v2) := ((HK.out.trans' hka).trans hk2 (fun q hq e => by have := (HV.out.lt e).1; omega)).setCell (p := ⟨w.heap.size, 0, none⟩) (.inr (Nat.le_refl _)) v2
            have hH3 := heap_set hbo2 0 v2
            have hR3 : OutR (fun k => (S k ∨ k = b) ∨ k = g) w (w2.setCell ⟨w.heap.size, 0, none⟩ v2) w.heap.size (ddp os s) := ⟨v2, hH3, by rw [ddp_no HZ.out, List.map_append]; exact hO3, hK3⟩
            have hcc2 : w2.cell? ⟨w.heap.size, 0, none⟩ = some v := cellOf hbo2 0
            have hcf2 := freeOf hbo2 0
            obtain ⟨A2, cc2, e2, _, _⟩ := hv2.len
            obtain ⟨l2, hl2⟩ : ∃ l2, l2 = (os.map one ++ [one s]).length := ⟨_, rfl⟩
            rw [← hl2] at e2
            subst e2
            have HR3 := Lib.hid hR3
            clear hO3 hK3 hH3 hR3 hv2 hk2 hat hne hne2 hbo2 hl2
            go_wp2
            go_roundw
            case rel => exact ⟨j + 1, by omega, by go_num, by rw [HS2.out]; exact HR3.out⟩
            case measure => simp [intOf]; omega
          · rw [hz] at HC
            have HZ := Lib.hid hz
            clear hz
            go_wp2_with (go_at_call 27; refine HC.out.mono ?_; rintro e w1 ⟨rfl, hk1⟩)
            go_roundw
            case rel => exact ⟨j + 1, by omega, by go_num, by rw [HS2.out, ddp_yes HZ.out]; exact OutR.no ⟨v, HBO.out, HV.out, HK.out⟩ hk1⟩
            case measure => simp [intOf]; omega
        · obtain rfl : j = m' := by omega
          have HO2 := Lib.hid hout
          clear hout
          go_wp2
          go_roundw
          case rel => exact ⟨k + 1, by omega, by go_num, by rw [HST.out]; have := HO2.out; rw [HM.out, List.take_length] at this; exact this⟩
          case measure => simp [intOf]; omega
    · obtain rfl : k = n := by omega
      obtain ⟨v, hbo, hv, hkr⟩ := hout
      have htk : cs.take k = cs := by rw [HN.out, List.take_length]
      rw [htk] at hv
      have hcs : cs.flatten.foldl ddp [] = crashS cs := rfl
      rw [hcs] at hv
      have hpos : 0 < ((crashS cs).map one).length := by
        rw [List.length_map, List.length_pos_iff]
        intro hz
        obtain ⟨c, r, rfl⟩ : ∃ c r, cs = c :: r := by cases cs with | nil => simp at h0 | cons c r => exact ⟨c, r, rfl⟩
        have hp := (hok c (by simp)).1
        obtain ⟨s, t, rfl⟩ : ∃ s t, c = s :: t := by cases c with | nil => simp at hp | cons s t => exact ⟨s, t, rfl⟩
        have hmem := ddps_all ((s :: t) :: r).flatten [] s (by simp)
        rw [hcs, hz] at hmem
        simp at hmem
      obtain ⟨g', cc, cur, rfl, hg', _⟩ := hv.block hpos
      obtain ⟨l2, hl2⟩ : ∃ l2, l2 = ((crashS cs).map one).length := ⟨_, rfl⟩
      rw [← hl2] at hv hbo
      have hr1 := hkr.cell' hc1
      have hb2 := hkr.heap HB.out id
      have hf1 := freeOf hb2 1
      have hbc : wr.cell? ⟨w.heap.size, 0, none⟩ = some (.slice (some ⟨g', 0, none⟩) l2 cc) := cellOf hbo 0
      have hwl := blt hbo
      have HK := Lib.hid hkr
      have HV := Lib.hid hv
      have HB2 := Lib.hid hb2
      have HL2 := Lib.hid hl2
      clear hv hkr hb2 hbo hcs htk hl2 hpos
      go_wp2
      go_returns
      refine ⟨rfl, g', by omega, ⟨cc, ?_, ?_, by omega, hSb, fun x => by have := hS _ x; omega⟩, HK.out.no.setAt 1 _⟩
      · have := heap_set HB2.out 1 (.slice (some ⟨g', 0, none⟩) l2 cc)
        rw [← HL2.out]
        exact this
      · rw [← HL2.out]
        refine (HV.out.base (Nat.zero_le _)).move (fun q e => ?_) (fun q hq hn hne => ?_)
        · obtain rfl : g' = q := (by simpa [Value.ownBlock] using e)
          exact Below.heap_setCell wr _ _ _ (by show g' ≠ b; omega)
        · exact ⟨fun x => hn (.inl (.inl x)), Below.heap_setCell wr _ _ _ (fun e => hn (.inl (.inl (.inr e))))⟩
end Go.Proofs.Ytagekjijngbmdaa
