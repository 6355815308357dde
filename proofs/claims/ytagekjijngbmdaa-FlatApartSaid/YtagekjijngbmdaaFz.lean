/- FlatApart: the walk. -/
import Derived.Test.YtagekjijngbmdaaFy
import Derived.Deep.DeepFit
import Derived.Deep.CutBlock
import Derived.Deep.DeepCutAuto
set_option linter.unusedVariables false
set_option linter.unusedSimpArgs false
namespace Go.Proofs.Ytagekjijngbmdaa
open Go.RowKit
attribute [local go_sem ↓] Go.wp_at_zero Go.wp_at_succ

set_option maxHeartbeats 1000000 in
theorem write_nil (at_ : Int) (d : ByteArray) (w : World) (hd : d.size ≤ 1000000) :
    Calls Try.prog 10 #[.pointer none, .int .i64 at_, .string d] w fun e w' => e = .returned (.int .i64 1) ∧ Kp No w w' := by
  have hk : Kp No w ((w.alloc (.cells #[.int .i64 at_] 3)).alloc (.cells #[.string d] 9)) := ((Kp.refl _ _).alloc _).alloc _
  have HK := Lib.hid hk
  clear hk
  go_enter Try.func10, Try.ntmps10
  go_wp2_with (go_at_call 23; refine (data_nil at_ d _ hd).mono ?_; rintro e w' ⟨rfl, rfl⟩)
  go_ret
  exact ⟨rfl, HK.out⟩

/-- Two models and two answers; none touches another one. -/
def Two (w : World) (b g bx b2 g2 by_ N : Nat) (cs cs2 : List Ch) : Prop :=
  Both (fun k => (k = b2 ∨ k = g2) ∨ k = by_) w b g bx N cs ∧ Both (fun k => (k = b ∨ k = g) ∨ k = bx) w b2 g2 by_ N cs2
theorem Both.lt {S : Nat → Prop} {w : World} {b g bx N : Nat} {cs : List Ch} (h : Both S w b g bx N cs) : (b < w.heap.size ∧ g < w.heap.size) ∧ bx < w.heap.size := ⟨h.1.lt, h.2.1.lt⟩
theorem Two.swap {w : World} {b g bx b2 g2 by_ N : Nat} {cs cs2 : List Ch} (h : Two w b g bx b2 g2 by_ N cs cs2) : Two w b2 g2 by_ b g bx N cs2 cs := ⟨h.2, h.1⟩
theorem Two.no {w w' : World} {b g bx b2 g2 by_ N : Nat} {cs cs2 : List Ch} (h : Two w b g bx b2 g2 by_ N cs cs2) (hk : Kp No w w') : Two w' b g bx b2 g2 by_ N cs cs2 := ⟨h.1.no hk, h.2.no hk⟩
theorem Two.step {w w' : World} {b g g' bx b2 g2 by_ N : Nat} {cs cs' cs2 : List Ch} (h : Two w b g bx b2 g2 by_ N cs cs2) (h' : Both (fun k => (k = b2 ∨ k = g2) ∨ k = by_) w' b g' bx N cs') (hg : g' = g ∨ w.heap.size ≤ g') (hk : Kp (fun k => (k = b ∨ k = g) ∨ k = bx) w w') : Two w' b g' bx b2 g2 by_ N cs' cs2 :=
  ⟨h', h.2.move fun k hk' hn => ⟨fun x => by
    rcases x with (x | x) | x
    · exact hn (.inl (.inl x))
    · rcases hg with hg | hg
      · exact hn (.inl (.inr (x.trans hg)))
      · omega
    · exact hn (.inr x), hk.block k hk' hn⟩⟩
/-- One call of the first pair. -/
theorem two_do {w : World} {b g bx b2 g2 by_ N : Nat} {cs cs2 : List Ch} (x : LAct) (h : Two w b g bx b2 g2 by_ N cs cs2) (h1 : 1 ≤ N) (h2 : N ≤ 64) (hw : x.wf) (hf : cs.flatten.length ≤ 1000000000) :
    Calls Try.prog 18 #[.pointer (some ⟨b, 0, none⟩), .pointer (some ⟨bx, 0, none⟩), .agg x.cells.toArray] w fun e w' => e = .returned (.bool true) ∧ ∃ g' cs', Two w' b g' bx b2 g2 by_ N cs' cs2 ∧ cs'.flatten.length ≤ 2 * cs.flatten.length ∧ cs'.length ≤ cs.flatten.length ∧ (g' = g ∨ w.heap.size ≤ g') ∧ Kp (fun k => (k = b ∨ k = g) ∨ k = bx) w w' := by
  refine (do_any x w h.1 (fun k hk => ?_) h1 h2 hw hf).mono ?_
  · have := h.2.lt
    rcases hk with (hk | hk) | hk <;> omega
  · rintro e w' ⟨he, g', cs', hB, hf', hl', hg', hk'⟩
    exact ⟨he, g', cs', h.step hB hg' hk', hf', hl', hg', hk'⟩

/-- A model that is copied: two. -/
theorem two_new {w0 w1 w2 : World} {b g bx b2 g2 by_ N : Nat} {cs : List Ch} {v : Value} (h : Both No w0 b g bx N cs) (hk : Kp No w0 w1) (hf : FlatR (fun k => ((No k ∨ k = bx) ∨ k = b) ∨ k = g) w1 b2 g2 N cs) (hb2 : w0.heap.size ≤ b2) (hg2 : w0.heap.size ≤ g2)
    (hv : w0.heap[bx]? = some (.cells #[.int .i64 N, v] 47 (0, 0))) (hby : w1.heap.size ≤ by_) (hy : w2.heap[by_]? = some (.cells #[.int .i64 N, v] 47 (0, 0))) (hk2 : Kp No w1 w2) : Two w2 b g bx b2 g2 by_ N cs cs := by
  have hlt := h.lt
  have hs := hk.size
  have hfl := hf.lt
  refine ⟨h.move fun k hk' hn => ⟨fun x => ?_, (hk.trans' hk2).block k hk' id⟩, hf.move fun k hk' hn => ⟨fun x => ?_, hk2.block k hk' id⟩, ?_, h.2.2⟩
  · rcases x with (x | x) | x <;> omega
  · rcases x with ((x | x) | x) | x
    · exact hn (.inl (.inr x))
    · exact hn (.inr x)
    · exact hn (.inl (.inl (.inr x)))
    · omega
  · obtain ⟨v', h1, h2, h3⟩ := h.2.1
    rw [hv] at h1
    injection h1 with h1
    injection h1 with h1 _ _
    simp at h1
    subst h1
    refine ⟨v, hy, h2.move fun k hk' hn => ⟨fun x => ?_, (hk.trans' hk2).block k hk' id⟩, fun x => ?_⟩
    · rcases x with ((((x | x) | x) | x) | x) | x
      · exact hn (.inl (.inl (.inr x)))
      · exact hn (.inl (.inr x))
      · exact hn (.inr x)
      · omega
      · omega
      · omega
    · rcases x with (((x | x) | x) | x) | x <;> omega

/-- Where FlatApart's first loop stands. -/
def ApInv (w : World) (b bx k : Nat) (wr : World) : Prop :=
  ∃ g cs, Both No wr b g bx 3 cs ∧ cs.flatten.length ≤ 2 ^ k ∧ w.heap.size ≤ g ∧ Kp No w wr
/-- Where its second loop stands. -/
def ApInv2 (w : World) (b bx b2 by_ k : Nat) (wr : World) : Prop :=
  ∃ g cs g2 cs2, Two wr b g bx b2 g2 by_ 3 cs cs2 ∧ cs.flatten.length ≤ 2 ^ (20 + k / 2) ∧ cs2.flatten.length ≤ 2 ^ (20 + (k + 1) / 2) ∧ cs.length ≤ 536870912 ∧ cs2.length ≤ 536870912 ∧ w.heap.size ≤ g ∧ w.heap.size ≤ g2 ∧ Kp No w wr
theorem pow_le {k m : Nat} (h : k ≤ m) : 2 ^ k ≤ 2 ^ m := Nat.pow_le_pow_right (by omega) h

set_option maxRecDepth 100000 in
set_option maxHeartbeats 8000000 in
theorem apart_any (lv mv : Value) (acts more : List LAct) (x : LAct) (w : World) (hl : SlR KAct No w lv acts) (hm : SlR KAct No w mv more) (hx : x.wf) :
    Calls Try.prog 5 #[lv, mv, .agg x.cells.toArray] w fun e w' => e = .returned (.bool true) ∧ Kp No w w' := by
  obtain ⟨A, c, rfl, hc1, hc2, hA⟩ := actsOpen hl
  obtain ⟨B, d, rfl, hd1, hd2, hM⟩ := actsOpen hm
  obtain ⟨la, hla⟩ : ∃ la, la = acts.length := ⟨_, rfl⟩
  obtain ⟨lm, hlm⟩ : ∃ lm, lm = more.length := ⟨_, rfl⟩
  have hla0 : 0 < la → 0 < acts.length := by omega
  have hlm0 : 0 < lm → 0 < more.length := by omega
  rw [← hla] at hc2 ⊢
  rw [← hlm] at hd2 ⊢
  obtain ⟨kd, at_, xn, xc, xo⟩ := x
  obtain ⟨hw0, hw1, hw2, hw3⟩ := hx
  have HLA := Lib.hid hla
  have HLM := Lib.hid hlm
  have HA := Lib.hid hA
  have HM := Lib.hid hM
  clear hA hM hl hm hla hlm
  show Calls Try.prog 5 #[.slice A la c, .slice B lm d, .agg #[.int .i64 kd, .int .i64 at_, .int .i64 xn, .int .u8 xc, .bool xo]] w _
  obtain ⟨w0, hw0'⟩ : ∃ w0, w0 = w.alloc (.cells #[.int .i64 kd, .int .i64 at_, .int .i64 xn, .int .u8 xc, .bool xo] 34) := ⟨_, rfl⟩
  have hka : Kp No w w0 := by rw [hw0']; exact (Kp.refl _ _).alloc _
  have hbx : w0.heap[w.heap.size]? = some (.cells #[.int .i64 kd, .int .i64 at_, .int .i64 xn, .int .u8 xc, .bool xo] 34 (0, 0)) := by rw [hw0']; exact heap_new w _
  have HKA := Lib.hid hka
  have HBX := Lib.hid hbx
  have HW0 := Lib.hid hw0'
  have hs0 : w.heap.size < w0.heap.size := blt hbx
  clear hka hbx hw0'
  go_enter Try.func5, Try.ntmps5
  go_wp2_with fail
  rw [← HW0.out]
  refine (new_ok (S := No) 3 _ (by omega) (by omega) (fun _ h => h.elim)).mono ?_
  rintro e w1 ⟨b, g, rfl, hf, hb, hg, hk⟩
  have hflt := hf.lt
  have HF := Lib.hid hf
  have HK := Lib.hid hk
  clear hf hk
  go_wp2_with fail
  refine (rnew_ok (S := fun k => (No k ∨ k = b) ∨ k = g) 3 _ (by omega) (by omega) (fun k h => by rcases h with (h | h) | h; exact h.elim; omega; omega)).mono ?_
  rintro e w2 ⟨bx, rfl, hr, hbx, hk2⟩
  have hB := both_new HF.out (fun _ h => h.elim) (Kp.refl _ _) hr hbx hk2
  have HB := Lib.hid hB
  have HK2 := Lib.hid (HK.out.trans' hk2)
  clear hr hk2 hB HF
  go_wp2_with fail
  refine (awake_any _).mono ?_
  rintro e w3 ⟨rfl, hk3⟩
  have hI : ApInv w0 b bx 0 w3 := ⟨g, _, HB.out.no hk3, by simp, hg, HK2.out.trans' hk3⟩
  have HI := Lib.hid hI
  have hs1 := HK.out.size
  have hbxw : w0.heap.size ≤ bx := by omega
  clear hI hk3 HB HK2 HK
  go_upto_block 0 with fail
  go_cut [10] (fun i wx => ∃ k : Nat, k ≤ 20 ∧ ApInv w0 b bx k wx)
  case first =>
    go_wp2
    go_loopw [10] (fun i wr => ∃ k : Nat, k ≤ la ∧ k ≤ 20 ∧ i = .int .i64 k ∧ ApInv w0 b bx k wr) (fun i _ => la - (intOf i).toNat)
    case atStart => exact ⟨0, Nat.zero_le _, by omega, rfl, HI.out⟩
    case round =>
      clear HI
      obtain ⟨k, hkl, hk20, rfl, hinv⟩ := hrel
      by_cases hlt : k < la ∧ k < 20
      · obtain ⟨hlt1, hlt2⟩ := hlt
        have hkn : k < acts.length := by rw [← HLA.out]; exact hlt1
        obtain ⟨b0, o0, rfl, hrow⟩ := HA.out (by omega)
        obtain ⟨hwf, hcs⟩ := hrow k hkn
        obtain ⟨gk, cs, hB, hfl, hgk, hkr⟩ := hinv
        obtain ⟨y, hy⟩ : ∃ y, y = acts[k] := ⟨_, rfl⟩
        rw [← hy] at hwf hcs
        have hp := pow_30 (k := k) (by omega)
        have hdo := do_any y wr hB (fun _ h => h.elim) (by omega) (by omega) hwf (by omega)
        obtain ⟨yk, ya, yn, yc, yo⟩ := y
        have hk0 := HKA.out.trans' hkr
        have hc0 : wr.cell? ⟨b0, o0 + k * 5, none⟩ = some (.int .i64 yk) := hk0.cell' (hcs 0 _ rfl)
        have hc1 := hk0.cell' (hcs 1 _ rfl)
        have hc2 := hk0.cell' (hcs 2 _ rfl)
        have hc3 := hk0.cell' (hcs 3 _ rfl)
        have hc4 := hk0.cell' (hcs 4 _ rfl)
        have hdo2 : Calls Try.prog 18 #[.pointer (some ⟨b, 0, none⟩), .pointer (some ⟨bx, 0, none⟩), .agg #[.int .i64 yk, .int .i64 ya, .int .i64 yn, .int .u8 yc, .bool yo]] wr (DoPost No wr b gk bx 3 cs) := hdo
        have HDO := Lib.hid hdo2
        have i0 : (0 : Int) ≤ (k : Int) := by omega
        have i1 : (k : Int) < (la : Int) := by omega
        have i2 : (k : Int) < 20 := by omega
        have HFL := Lib.hid hfl
        have HKR := Lib.hid hkr
        have hsz := hkr.size
        clear hy hwf hcs hB hfl hkr hrow hdo hdo2 hp hk0
        go_wp2_with fail
        refine HDO.out.mono ?_
        rintro e w4 ⟨rfl, g4, cs4, hb4, hf4, hl4, hg4, hk4⟩
        have hfin : ApInv w0 b bx (k + 1) w4 := by
          refine ⟨g4, cs4, hb4, ?_, ?_, HKR.out.trans hk4 (fun q hq e => ?_)⟩
          · have := HFL.out; rw [Nat.pow_succ]; omega
          · rcases hg4 with h | h <;> omega
          · rcases e with (e | e) | e <;> omega
        have HFIN := Lib.hid hfin
        clear hfin hb4 hf4 hl4 hg4 hk4
        go_wp2
        go_roundw
        case rel => exact ⟨k + 1, by omega, by omega, by go_num, HFIN.out⟩
        case measure => simp [intOf]; omega
      · have HINV := Lib.hid hinv
        clear hinv HA
        by_cases hl : k < la
        · have hnl : ¬ k < 20 := fun h => hlt ⟨hl, h⟩
          go_wp2
          go_meet
          case rel => exact ⟨k, hk20, HINV.out⟩
        · go_wp2
          go_meet
          case rel => exact ⟨k, hk20, HINV.out⟩
  case rest =>
    · clear HI
      obtain ⟨k, hk20, gk, cs, hB, hfl, hgk, hkr⟩ := hcut
      have hp20 : cs.flatten.length ≤ 2 ^ 20 := Nat.le_trans hfl (pow_le hk20)
      have hnf := num_le_flat hB.2.2.1
      have hlt0 := hB.lt
      have hcp := copy_any wc hB.1 (fun q hq => by rcases hq with hq | hq; exact hq.elim; omega) hB.2.2.2 (by omega)
      obtain ⟨v, hv, hsv, hnv⟩ := hB.2.1
      obtain ⟨A4, c4, rfl, hcc1, hcc2⟩ := hsv.slice
      have hcx : wc.cell? ⟨bx, 1, none⟩ = some (.slice A4 (refOf cs).length c4) := cellOf hv 1
      obtain ⟨lc, hlc⟩ : ∃ lc, lc = (refOf cs).length := ⟨_, rfl⟩
      rw [← hlc] at hcx hv
      have HCP := Lib.hid hcp
      have HB := Lib.hid hB
      have HKR := Lib.hid hkr
      have HV := Lib.hid hv
      have hsz := hkr.size
      have hp20' : cs.flatten.length ≤ 1048576 := by omega
      clear hcp hB hkr hv hsv hp20 hfl hlc HA
      · go_wp2_with fail
        refine HCP.out.mono ?_
        rintro e w4 ⟨b2, g2, rfl, hf4, hb2, hg2, hk4⟩
        have hcx4 := hk4.cell' hcx
        have HF4 := Lib.hid hf4
        have HK4 := Lib.hid hk4
        have hs4 := hk4.size
        clear hf4 hk4
        go_upto_block 2 with fail
        have hT := two_new HB.out ((Kp.refl No wc).trans' HK4.out) HF4.out hb2 hg2 HV.out (Nat.le_refl w4.heap.size) (heap_new w4 (.cells #[.int .i64 ((3 : Nat) : Int), .slice A4 lc c4] 47)) ((Kp.refl _ _).alloc _)
        have hI2 : ApInv2 w0 b bx b2 w4.heap.size 0 (w4.alloc (.cells #[.int .i64 3, .slice A4 lc c4] 47)) := ⟨gk, cs, g2, cs, hT, by simpa using hp20', by simpa using hp20', by omega, by omega, hgk, by omega, (HKR.out.trans' HK4.out).alloc _⟩
        have HI2 := Lib.hid hI2
        have hbyw : w0.heap.size ≤ w4.heap.size := by omega
        have hb2w : w0.heap.size ≤ b2 := by omega
        obtain ⟨by_, hby⟩ : ∃ by_, by_ = w4.heap.size := ⟨_, rfl⟩
        rw [← hby] at HI2 hbyw ⊢
        clear hT hI2 HF4 HK4 hcx4 hcx HV HKR HB HCP hby
        go_cut [13] (fun i wx => ∃ q : Nat, q ≤ 20 ∧ ApInv2 w0 b bx b2 by_ q wx)
        case first =>
          go_wp2_with fail
          go_loopw [13] (fun i wr => ∃ k : Nat, k ≤ lm ∧ k ≤ 20 ∧ i = .int .i64 k ∧ ApInv2 w0 b bx b2 by_ k wr) (fun i _ => lm - (intOf i).toNat)
          case atStart => exact ⟨0, Nat.zero_le _, by omega, rfl, HI2.out⟩
          case round =>
            clear HI2
            obtain ⟨q, hql, hq20, rfl, hinv⟩ := hrel
            by_cases hlt : q < lm ∧ q < 20
            · obtain ⟨hlt1, hlt2⟩ := hlt
              have hqn : q < more.length := by rw [← HLM.out]; exact hlt1
              obtain ⟨b0, o0, rfl, hrow⟩ := HM.out (by omega)
              obtain ⟨hwf, hcs⟩ := hrow q hqn
              obtain ⟨g, cs, g2, cs2, hT, hfl, hfl2, hcl, hcl2, hgw, hg2w, hkr⟩ := hinv
              obtain ⟨y, hy⟩ : ∃ y, y = more[q] := ⟨_, rfl⟩
              rw [← hy] at hwf hcs
              have hk0 := HKA.out.trans' hkr
              have hT0 := hT.swap
              have hsz := hkr.size
              by_cases hpar : q % 2 = 0
              · have hp : 2 ^ (20 + (q + 1) / 2) ≤ 2 ^ 29 := pow_le (by omega)
                have hdo := two_do y hT0 (by omega) (by omega) hwf (by omega)
                obtain ⟨yk, ya, yn, yc, yo⟩ := y
                have hc0 : wr.cell? ⟨b0, o0 + q * 5, none⟩ = some (.int .i64 yk) := hk0.cell' (hcs 0 _ rfl)
                have hc1 := hk0.cell' (hcs 1 _ rfl)
                have hc2 := hk0.cell' (hcs 2 _ rfl)
                have hc3 := hk0.cell' (hcs 3 _ rfl)
                have hc4 := hk0.cell' (hcs 4 _ rfl)
                have hdo2 : Calls Try.prog 18 #[.pointer (some ⟨b2, 0, none⟩), .pointer (some ⟨by_, 0, none⟩), .agg #[.int .i64 yk, .int .i64 ya, .int .i64 yn, .int .u8 yc, .bool yo]] wr _ := hdo
                have HDO := Lib.hid hdo2
                have hi0 : (0 : Int) ≤ (q : Int) := by omega
                have hi1 : (q : Int) < (lm : Int) := by omega
                have hi2 : (q : Int) < 20 := by omega
                have hi3 : (q : Int) % 2 = 0 := by omega
                have HFL := Lib.hid (And.intro hfl hfl2)
                have HKR := Lib.hid hkr
                have HPP := Lib.hid hp
                clear hy hwf hcs hT hT0 hfl hfl2 hkr hrow hdo hdo2 hp hk0
                go_wp2_with fail
                refine HDO.out.mono ?_
                rintro e w6 ⟨rfl, g6, cs6, hT6, hf6, hl6, hg6, hk6⟩
                have hfin : ApInv2 w0 b bx b2 by_ (q + 1) w6 := by
                  have h1 := HFL.out.1
                  have h2 := HFL.out.2
                  have h3 := HPP.out
                  have e1 : 2 ^ (20 + (q + 1 + 1) / 2) = 2 * 2 ^ (20 + (q + 1) / 2) := by rw [show 20 + (q + 1 + 1) / 2 = (20 + (q + 1) / 2) + 1 by omega, Nat.pow_succ]; omega
                  have e2 : 20 + (q + 1) / 2 = 20 + q / 2 := by omega
                  refine ⟨g, cs, g6, cs6, hT6.swap, by rw [e2]; exact h1, by rw [e1]; omega, hcl, by omega, hgw, ?_, HKR.out.trans hk6 (fun j hj e => ?_)⟩
                  · rcases hg6 with h | h <;> omega
                  · rcases e with (e | e) | e <;> omega
                have HFIN := Lib.hid hfin
                clear hfin hT6 hf6 hl6 hg6 hk6
                go_wp2
                go_roundw
                case rel => exact ⟨q + 1, by omega, by omega, by go_num, HFIN.out⟩
                case measure => simp [intOf]; omega
              · have hp : 2 ^ (20 + q / 2) ≤ 2 ^ 29 := pow_le (by omega)
                have hdo := two_do y hT (by omega) (by omega) hwf (by omega)
                obtain ⟨yk, ya, yn, yc, yo⟩ := y
                have hc0 : wr.cell? ⟨b0, o0 + q * 5, none⟩ = some (.int .i64 yk) := hk0.cell' (hcs 0 _ rfl)
                have hc1 := hk0.cell' (hcs 1 _ rfl)
                have hc2 := hk0.cell' (hcs 2 _ rfl)
                have hc3 := hk0.cell' (hcs 3 _ rfl)
                have hc4 := hk0.cell' (hcs 4 _ rfl)
                have hdo2 : Calls Try.prog 18 #[.pointer (some ⟨b, 0, none⟩), .pointer (some ⟨bx, 0, none⟩), .agg #[.int .i64 yk, .int .i64 ya, .int .i64 yn, .int .u8 yc, .bool yo]] wr _ := hdo
                have HDO := Lib.hid hdo2
                have hi0 : (0 : Int) ≤ (q : Int) := by omega
                have hi1 : (q : Int) < (lm : Int) := by omega
                have hi2 : (q : Int) < 20 := by omega
                have hi3 : (q : Int) % 2 = 1 := by omega
                have HFL := Lib.hid (And.intro hfl hfl2)
                have HKR := Lib.hid hkr
                have HPP := Lib.hid hp
                clear hy hwf hcs hT hT0 hfl hfl2 hkr hrow hdo hdo2 hp hk0
                go_wp2_with fail
                refine HDO.out.mono ?_
                rintro e w6 ⟨rfl, g6, cs6, hT6, hf6, hl6, hg6, hk6⟩
                have hfin : ApInv2 w0 b bx b2 by_ (q + 1) w6 := by
                  have h1 := HFL.out.1
                  have h2 := HFL.out.2
                  have h3 := HPP.out
                  have e1 : 2 ^ (20 + (q + 1) / 2) = 2 * 2 ^ (20 + q / 2) := by rw [show 20 + (q + 1) / 2 = (20 + q / 2) + 1 by omega, Nat.pow_succ]; omega
                  have e2 : 20 + (q + 1 + 1) / 2 = 20 + (q + 1) / 2 := by omega
                  refine ⟨g6, cs6, g2, cs2, hT6, by rw [e1]; omega, by rw [e2]; exact h2, by omega, hcl2, ?_, hg2w, HKR.out.trans hk6 (fun j hj e => ?_)⟩
                  · rcases hg6 with h | h <;> omega
                  · rcases e with (e | e) | e <;> omega
                have HFIN := Lib.hid hfin
                clear hfin hT6 hf6 hl6 hg6 hk6
                go_wp2
                go_roundw
                case rel => exact ⟨q + 1, by omega, by omega, by go_num, HFIN.out⟩
                case measure => simp [intOf]; omega
            · have HINV := Lib.hid hinv
              clear hinv HM
              by_cases hl2 : q < lm
              · have hnl : ¬ q < 20 := fun h => hlt ⟨hl2, h⟩
                go_wp2
                go_meet
                case rel => exact ⟨q, hq20, HINV.out⟩
              · go_wp2
                go_meet
                case rel => exact ⟨q, hq20, HINV.out⟩
        case rest =>
          clear HI2
          · obtain ⟨q, hq20, g, cs, g2, cs2, hT, hfl, hfl2, hcl, hcl2, hgw, hg2w, hkr⟩ := hcut
            have hp1 : 2 ^ (20 + q / 2) ≤ 2 ^ 31 := pow_le (by omega)
            have hp2 : 2 ^ (20 + (q + 1) / 2) ≤ 2 ^ 31 := pow_le (by omega)
            have hn1 : cnt cs ≤ 1000000000000 := by rw [← flat_len]; omega
            have hn2 : cnt cs2 ≤ 1000000000000 := by rw [← flat_len]; omega
            have hbx := hkr.heap HBX.out id
            have hx0 : wc.cell? ⟨w.heap.size, 0, none⟩ = some (.int .i64 kd) := cellOf hbx 0
            have hx1 : wc.cell? ⟨w.heap.size, 1, none⟩ = some (.int .i64 at_) := cellOf hbx 1
            have hx2 : wc.cell? ⟨w.heap.size, 2, none⟩ = some (.int .i64 xn) := cellOf hbx 2
            have hx3 : wc.cell? ⟨w.heap.size, 3, none⟩ = some (.int .u8 xc) := cellOf hbx 3
            have hx4 : wc.cell? ⟨w.heap.size, 4, none⟩ = some (.bool xo) := cellOf hbx 4
            have HT := Lib.hid hT
            have HKR := Lib.hid hkr
            clear hfl hfl2 hp1 hp2 hbx hT hkr HM
            have HDS := Lib.hid (show (dat xn xc xo).size ≤ 1000000 by rw [dat_size]; have := nn_le xn; cases xo <;> simp <;> omega)
            · go_wp2_with (first | (go_at_call 21; refine (read_nil _ _ _).mono ?_; rintro e w' ⟨rfl, rfl⟩) | (go_at_call 11; refine (safe_nil _).mono ?_; rintro e w' ⟨rfl, rfl⟩) | (go_at_call 12; refine (crash_nil _).mono ?_; rintro e w' ⟨rfl, rfl⟩))
              have hkk := Kp.dr wc
              have hy0 : wc.drew.cell? ⟨w.heap.size, 0, none⟩ = some (.int .i64 kd) := hx0
              have hy1 : wc.drew.cell? ⟨w.heap.size, 1, none⟩ = some (.int .i64 at_) := hx1
              have hy2 : wc.drew.cell? ⟨w.heap.size, 2, none⟩ = some (.int .i64 xn) := hx2
              have hy3 : wc.drew.cell? ⟨w.heap.size, 3, none⟩ = some (.int .u8 xc) := hx3
              have hy4 : wc.drew.cell? ⟨w.heap.size, 4, none⟩ = some (.bool xo) := hx4
              go_region_held3 (fun w' => w'.cell? ⟨w.heap.size, 0, none⟩ = some (.int .i64 kd) ∧ w'.cell? ⟨w.heap.size, 1, none⟩ = some (.int .i64 at_) ∧ w'.cell? ⟨w.heap.size, 2, none⟩ = some (.int .i64 xn) ∧ w'.cell? ⟨w.heap.size, 3, none⟩ = some (.int .u8 xc) ∧ w'.cell? ⟨w.heap.size, 4, none⟩ = some (.bool xo)) (go_keep)
                (first
                  | (go_at_call 19; go_fit (states_any _ (HT.out.no hkk).1.1 hn1 (by omega)); rintro e w' ⟨rfl, rfl⟩)
                  | (go_at_call 19; go_fit (states_any _ (HT.out.no hkk).2.1 hn2 (by omega)); rintro e w' ⟨rfl, rfl⟩)
                  | (go_at_call 19; go_fit (states_nil _); rintro e w' ⟨rfl, rfl⟩)
                  | (go_at_call 20; go_fit (rstates_ok _ (HT.out.no hkk).1.2.1 (by rw [refOf_cnt]; exact hn1) (by rw [refOf_len]; omega)); rintro e w' ⟨rfl, rfl⟩; rw [refOf_cnt])
                  | (go_at_call 20; go_fit (rstates_ok _ (HT.out.no hkk).2.2.1 (by rw [refOf_cnt]; exact hn2) (by rw [refOf_len]; omega)); rintro e w' ⟨rfl, rfl⟩; rw [refOf_cnt])
                  | (go_at_call 9; go_fit (dat_any kd at_ xn xc xo _ hw2); rintro e wq ⟨rfl, hkq⟩; have hkk := hkk.trans' hkq; have hy0 := hkq.cell' hy0; have hy1 := hkq.cell' hy1; have hy2 := hkq.cell' hy2; have hy3 := hkq.cell' hy3; have hy4 := hkq.cell' hy4)
                  | (go_at_call 10; go_fit (write_nil at_ (dat xn xc xo) _ HDS.out); rintro e wq ⟨rfl, hkq⟩; have hkk := hkk.trans' hkq; have hy0 := hkq.cell' hy0; have hy1 := hkq.cell' hy1; have hy2 := hkq.cell' hy2; have hy3 := hkq.cell' hy3; have hy4 := hkq.cell' hy4)
                  | (go_at_call 22; go_fit (discard_nil at_ xn _); rintro e w' ⟨rfl, rfl⟩)
                  | (go_at_call 14; go_fit (saw_nil at_ (dat xn xc xo) _ HDS.out); rintro e w' ⟨rfl, rfl⟩)
                  | (go_at_call 15; go_fit (worlds_nil _); rintro e w' ⟨rfl, rfl⟩)
                  | (go_at_call 13; go_fit (copy_nil _); rintro e w' ⟨rfl, rfl⟩))
              have HKF := Lib.hid ((HKA.out.trans' HKR.out).trans' hkk)
              clear hkk hy0 hy1 hy2 hy3 hy4
              go_wp2
              go_ret
              exact ⟨rfl, HKF.out⟩
end Go.Proofs.Ytagekjijngbmdaa
