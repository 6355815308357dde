/- FlatAll: the walk, up to its first loop. -/
import Derived.Test.YtagekjijngbmdaaFn
import Derived.Test.YtagekjijngbmdaaPl
import Derived.Deep.DeepCutAuto
set_option linter.unusedVariables false
set_option linter.unusedSimpArgs false
namespace Go.Proofs.Ytagekjijngbmdaa
open Go.RowKit
attribute [local go_sem ↓] Go.wp_at_zero Go.wp_at_succ

structure LAct where
  kd : Int
  at_ : Int
  n : Int
  c : Int
  odd : Bool
def LAct.cells (x : LAct) : List Value := [.int .i64 x.kd, .int .i64 x.at_, .int .i64 x.n, .int .u8 x.c, .bool x.odd]
def LAct.wf (x : LAct) : Prop := i64 x.kd ∧ i64 x.at_ ∧ i64 x.n ∧ 0 ≤ x.c ∧ x.c ≤ 255
def KAct : Kind LAct where
  sz := 5
  R := fun _ _ cs x => cs = x.cells ∧ x.wf
  len := by rintro _ _ _ x ⟨rfl, _⟩; rfl
  one := by rintro _ _ _ x ⟨rfl, _⟩ u hu; simp [LAct.cells] at hu; rcases hu with rfl | rfl | rfl | rfl | rfl <;> rfl
  move := fun _ h => h

theorem actsOpen {S : Nat → Prop} {w : World} {v : Value} {xs : List LAct} (h : SlR KAct S w v xs) :
    ∃ A c, v = .slice A xs.length c ∧ c ≤ 9223372036854775807 ∧ xs.length ≤ c ∧ (0 < xs.length → ∃ b o, A = some ⟨b, o, none⟩ ∧ ∀ i (hi : i < xs.length), (xs[i]).wf ∧ ∀ j u, (xs[i]).cells[j]? = some u → w.cell? ⟨b, o + i * 5 + j, none⟩ = some u) := by
  obtain ⟨A, c, hv, hl, hc, h⟩ := h
  refine ⟨A, c, hv, hc, hl, fun h0 => ?_⟩
  obtain ⟨b, o, C, T, fr, rfl, hb, hh, hr⟩ := h h0
  refine ⟨b, o, rfl, fun i hi => ?_⟩
  obtain ⟨h1, h2⟩ := hr i hi
  refine ⟨h2, fun j u hj => ?_⟩
  rw [cellOf hh]
  have := cut_at (n := 5) h1 hj
  simpa [KAct] using this

theorem own_two {α β : Type} {K : Kind α} {K' : Kind β} {e e' base base' : Nat} {S S' : Nat → Prop} {w : World} {v v' : Value} {xs : List α} {ys : List β} (h : OwR K e base S w v xs) (h' : OwR K' e' base' S' w v' ys) (hne : e ≠ e') {k : Nat} (hk : v.ownBlock = some k) (hk' : v'.ownBlock = some k) : False := by
  obtain ⟨_, ho, _⟩ := h
  obtain ⟨_, ho', _⟩ := h'
  rcases ho.2 with ⟨rfl, _⟩ | ⟨g, cap, cur, rfl, _, hh, _⟩
  · simp [Value.ownBlock] at hk
  · rcases ho'.2 with ⟨rfl, _⟩ | ⟨g', cap', cur', rfl, _, hh', _⟩
    · simp [Value.ownBlock] at hk'
    · obtain rfl : g = k := by simpa [Value.ownBlock] using hk
      obtain rfl : g' = g := by simpa [Value.ownBlock] using hk'
      rw [hh] at hh'
      injection hh' with hh'
      injection hh' with _ ht
      exact hne ht

theorem lst_wr1 (at_ : Nat) (d : ByteArray) (ch : Ch) : lst (wr1 at_ d ch) = wth at_ d (d.size / 48) (lst ch) := by
  have : lst (wr1 at_ d ch) = (ch ++ [wth at_ d (d.size / 48) (lst ch)]).getD ((ch ++ [wth at_ d (d.size / 48) (lst ch)]).length - 1) [] := rfl
  rw [this]
  simp
theorem okc_wr1 {N at_ : Nat} {d : ByteArray} {cs : List Ch} (h : Okc N cs) : Okc N (cs.map (wr1 at_ d)) := by
  intro c hc
  obtain ⟨c', hc', rfl⟩ := List.mem_map.1 hc
  obtain ⟨h1, h2⟩ := h c' hc'
  refine ⟨by unfold wr1; simp, fun s hs => ?_⟩
  rcases List.mem_append.1 hs with hs | hs
  · exact h2 s hs
  · obtain rfl : s = wth at_ d (d.size / 48) (lst c') := by simpa using hs
    obtain ⟨h3, h4⟩ := h2 _ (lst_mem h1)
    exact ⟨by rw [wth_len, h3], wth_48 h4 (by omega)⟩
theorem OwR.strMove {e base : Nat} {S S' : Nat → Prop} {w w' : World} {v : Value} {xs : List ByteArray} (h : OwR KStr e base S w v xs) (hm : ∀ k, v.ownBlock = some k → w'.heap[k]? = w.heap[k]?) : OwR KStr e base S' w' v xs :=
  OwR.of_str (ownsRow_move h.str hm)

/-- The first k bytes of a row that is read, as a text. -/
theorem cv_take {P : Program} {src dst e : TypeId} {S : Nat → Prop} {W : World} {A : Option Addr} {n c : Nat} {xs : List Int} (hs : P.underlying src = some (.slice e)) (he : P.underlying e = some (.int .u8)) (hd : P.underlying dst = some .string) (h : SlR KU8 S W (.slice A n c) xs) (k c' : Nat) (hk : k ≤ xs.length) :
    (convert src dst (.slice A k c')).run P W = .ok (.string (strOfNums (xs.take k))) W := by
  obtain ⟨A', c1, hv, _, _, h⟩ := h
  injection hv with e1 _ _
  subst e1
  by_cases h0 : k = 0
  · subst h0
    rw [run_convert_bytes_string W src dst e _ 0 c' hs he hd]
    cases A with
    | none => simp [Conv.bytesToString, strOfNums]; rfl
    | some a =>
      have hl : (loadCells a 0).run P W = .ok #[] W := by
        have := run_loadCells_list (P := P) W a [] (fun j v hj => by simp at hj)
        simpa using this
      simp [Conv.bytesToString, hl, strOfNums]; rfl
  · obtain ⟨b, o, C, T, fr, rfl, _, hh, hr⟩ := h (by omega)
    refine run_convert_bytes_arg W src e hs he b o k c' (xs.take k) (by simp; omega) (fun i hi => ?_) dst hd
    have h5 := hr i (by omega)
    have h6 : cut C.toList (o + i * 1) 1 = [Value.int .u8 (xs[i]'(by omega))] := h5
    rw [Nat.mul_one] at h6
    rw [cellOf hh]
    have h7 := cut_one h6
    have h8 : (xs.take k).getD i 0 = xs[i]'(by omega) := by
      rw [List.getD_eq_getElem?_getD, List.getElem?_take, if_pos hi, List.getElem?_eq_getElem (by omega)]; rfl
    rw [h8]
    simpa using h7

/-- Where FlatAll's first loop stands behind k rounds. -/
def AllInv (w : World) (b g N k : Nat) (now av : Value) (wr : World) : Prop :=
  ∃ ch : Ch, Okc N [ch] ∧ ch.length ≤ k + 1 ∧ now = .string (cat (lst ch)) ∧ OwR KStr 9 w.heap.size No wr av (ch.map cat) ∧ FlatR (fun j => av.ownBlock = some j) wr b g N [ch] ∧ Kp No w wr

set_option maxRecDepth 100000 in
set_option maxHeartbeats 4000000 in
theorem all_any (n pick : Int) (lv ov : Value) (acts : List LAct) (oth : List Int) (w : World) (hn : 0 ≤ n ∧ n ≤ 255) (hp : 0 ≤ pick ∧ pick ≤ 255) (hl : SlR KAct No w lv acts) (ho : SlR KU8 No w ov oth) :
    Calls Try.prog 3 #[.agg #[.int .u8 n, lv, .int .u8 pick, ov]] w fun e w' => e = .returned (.bool true) ∧ Kp No w w' := by
  obtain ⟨A, c, rfl, hc1, hc2, hA⟩ := actsOpen hl
  obtain ⟨B, cb, rfl, hcb1, hcb2⟩ := ho.slice
  obtain ⟨N, hN⟩ : ∃ N : Nat, N = (n % 5).toNat + 1 := ⟨_, rfl⟩
  have hNi : n % 5 + 1 = (N : Int) := by omega
  have hN1 : 1 ≤ N := by omega
  have hN2 : N ≤ 5 := by omega
  obtain ⟨hn0, hn1⟩ := hn
  obtain ⟨la, hla⟩ : ∃ la, la = acts.length := ⟨_, rfl⟩
  have hla0 : 0 < la → 0 < acts.length := by omega
  rw [← hla] at hc2 ⊢
  have HLA := Lib.hid hla
  have HA := Lib.hid hA
  have HO := Lib.hid ho
  clear hA ho hl hN hla
  go_enter Try.func3, Try.ntmps3
  go_wp2_with fail
  go_quiet (fail)
  go_wp2_with fail
  refine (new_ok (S := No) N _ (by omega) (by omega) (fun _ h => h.elim)).mono ?_
  rintro e w1 ⟨b, g, rfl, hf, hb, hg, hk⟩
  have hk1 : Kp No w w1 := (((Kp.refl _ _).alloc _).drewN _).trans' hk
  have hbw : w.heap.size ≤ b := by simp at hb; omega
  have hgw : w.heap.size ≤ g := by simp at hg; omega
  have HF := Lib.hid hf
  have HK1 := Lib.hid hk1
  clear hf hk hk1 hb hg
  go_wp2_with fail
  refine (awake_any _).mono ?_
  rintro e w2 ⟨rfl, hk⟩
  have HF2 := Lib.hid (HF.out.no hk)
  have HK2 := Lib.hid (HK1.out.trans' hk)
  clear hk HF HK1
  go_wp2_with fail
  have hz := zeros_any (48 * N) w2 (by omega)
  rw [show ((48 * N : Nat) : Int) = 48 * (N : Int) from by omega] at hz
  refine hz.mono ?_
  clear hz
  rintro e w3 ⟨rfl, hk⟩
  have hinit : AllInv w b g N 0 (.string (zeros (48 * N))) (.slice (some ⟨w3.heap.size, 0, none⟩) 1 1) (w3.alloc (.cells #[.string (zeros (48 * N))] 9)) := by
    have hw3 : w.heap.size ≤ w3.heap.size := (HK2.out.trans' hk).size
    have hf3 := (HF2.out.no hk).move (S' := fun j => (Value.slice (some ⟨w3.heap.size, 0, none⟩) 1 1).ownBlock = some j) (w' := w3.alloc (.cells #[.string (zeros (48 * N))] 9)) (fun k hk1 hn => ⟨fun e => by simp [Value.ownBlock] at e; omega, Below.heap_alloc w3 _ k hk1⟩)
    refine ⟨[zst N], zst_ok N, by simp, ?_, OwR.lit1 rfl hw3 ?_, hf3, (HK2.out.trans' hk).alloc _⟩
    · rw [← cat_zst]; rfl
    · show _ = _; rw [← cat_zst]; rfl
  obtain ⟨z, hz⟩ : ∃ z, z = zeros (48 * N) := ⟨_, rfl⟩
  rw [← hz] at hinit ⊢
  have HI := Lib.hid hinit
  clear hinit hz hk HF2 HK2
  go_wp2
  go_loopw [10, 11, 12] (fun now av i wr => ∃ k : Nat, k ≤ la ∧ k ≤ 25 ∧ i = .int .i64 k ∧ AllInv w b g N k now av wr) (fun _ _ i _ => la - (intOf i).toNat)
  case atStart => exact ⟨0, Nat.zero_le _, by omega, rfl, HI.out⟩
  case round =>
    clear HI
    obtain ⟨k, hkl, hk25, rfl, hinv⟩ := hrel
    by_cases hlt : k < la ∧ k < 25
    · obtain ⟨hlt1, hlt2⟩ := hlt
      have hkn : k < acts.length := by rw [← HLA.out]; exact hlt1
      obtain ⟨b0, o0, rfl, hrow⟩ := HA.out (by omega)
      obtain ⟨hwf, hcs⟩ := hrow k hkn
      obtain ⟨ch, hok, hcl, rfl, hav, hfl, hkr⟩ := hinv
      obtain ⟨x, hx⟩ : ∃ x, x = acts[k] := ⟨_, rfl⟩
      rw [← hx] at hwf hcs
      obtain ⟨kd, at_, xn, xc, xo⟩ := x
      have hc0 : wr.cell? ⟨b0, o0 + k * 5, none⟩ = some (.int .i64 kd) := hkr.cell' (hcs 0 _ rfl)
      have hc1 := hkr.cell' (hcs 1 _ rfl)
      have hc2 := hkr.cell' (hcs 2 _ rfl)
      have hc3 := hkr.cell' (hcs 3 _ rfl)
      have hc4 := hkr.cell' (hcs 4 _ rfl)
      obtain ⟨A', c', rfl, hl1, hl2⟩ := hav.len
      obtain ⟨l2, hl2'⟩ : ∃ l2, l2 = (ch.map cat).length := ⟨_, rfl⟩
      rw [← hl2'] at hav hfl hl1 ⊢
      have i0 : (0 : Int) ≤ (k : Int) := by omega
      have i1 : (k : Int) < (la : Int) := by omega
      have i2 : (k : Int) < 25 := by omega
      have HROW := Lib.hid hx
      have HWF := Lib.hid hwf
      have HAV := Lib.hid hav
      have HFL := Lib.hid hfl
      have HKR := Lib.hid hkr
      have HCL := Lib.hid hcl
      have HOK := Lib.hid hok
      clear hx hwf hcs hav hfl hkr hcl hok hrow hl2'
      go_wp2_with fail
      refine (dat_any kd at_ xn xc xo _ HWF.out.2.2.1).mono ?_
      rintro e W1 ⟨rfl, hk1⟩
      have hka : Kp No wr W1 := ((Kp.refl No wr).alloc _).trans' hk1
      have hbx := hk1.heap (heap_new wr _) id
      have hds := dat_size xn xc xo
      have hdn := nn_le xn
      obtain ⟨d, hd⟩ : ∃ d, d = dat xn xc xo := ⟨_, rfl⟩
      rw [← hd] at hds ⊢
      have hd1 : d.size ≤ 3361 := by rw [hds]; cases xo <;> simp <;> omega
      have hf1 := HFL.out.no hka
      have ho1 := HAV.out.no hka
      have hk2 := HKR.out.trans' hka
      have hsw := hka.size
      have hsx := blt hbx
      have hgx : g < wr.heap.size := by obtain ⟨_, _, h2, _, _, _⟩ := HFL.out; exact (h2.lt (k := g) rfl).2
      have hgs : ∀ q, (Value.slice A' l2 c').ownBlock = some q → q ≠ g := by obtain ⟨_, _, _, _, _, h⟩ := HFL.out; rintro q e rfl; exact h e
      have hat : i64 at_ := HWF.out.2.1
      have hSx : ∀ q, (Value.slice A' l2 c').ownBlock = some q → q < wr.heap.size := fun q e => (HAV.out.lt e).2
      have hx0 : W1.cell? ⟨wr.heap.size, 0, none⟩ = some (.int .i64 kd) := cellOf hbx 0
      have hx1 : W1.cell? ⟨wr.heap.size, 1, none⟩ = some (.int .i64 at_) := cellOf hbx 1
      have HF1 := Lib.hid hf1
      have HO1 := Lib.hid ho1
      have HK2 := Lib.hid hk2
      have HKA := Lib.hid hka
      have HGS := Lib.hid hgs
      have HSX := Lib.hid hSx
      clear HFL HAV HKR hf1 ho1 hk2 hka hk1 hbx hds hd hgs hSx HA
      by_cases hkd : 0 ≤ kd ∧ kd < 3
      · obtain ⟨kd0, kd3⟩ := hkd
        by_cases hz : dataF N at_ d.size = 0
        · obtain ⟨hd48, hmz⟩ := data_zero hz
          obtain ⟨hm1, hm2, hm3, hm4⟩ := may_zero hmz
          obtain ⟨at_, rfl⟩ : ∃ a : Nat, at_ = a := ⟨at_.toNat, by omega⟩
          have HC := Lib.hid (write_ok at_ d W1 HF1.out (by omega) (by omega) HOK.out (by omega) hz (by omega) (fun q e => Nat.lt_of_lt_of_le (HSX.out q e) hsw) (by simp) (by intro q hq; simp at hq; subst hq; have := HCL.out; omega))
          obtain ⟨hp, hq⟩ := HOK.out ch (by simp)
          obtain ⟨hst, hb48⟩ := hq _ (lst_mem hp)
          have hB48 : B48 (lst ch) := hb48
          have hcat := cat_wth (at_ := at_) hB48 hd48 (by omega)
          have hts := cat_size hB48
          rw [hst] at hts
          have hb1 : (0 : Int) ≤ 48 * (at_ : Int) := by omega
          have hb2 : 48 * (at_ : Int) ≤ ((cat (lst ch)).size : Int) := by omega
          have hb3 : (0 : Int) ≤ 48 * (at_ : Int) + (d.size : Int) := by omega
          have hb4 : 48 * (at_ : Int) + (d.size : Int) ≤ ((cat (lst ch)).size : Int) := by omega
          obtain ⟨t, ht⟩ : ∃ t, t = cat (lst ch) := ⟨_, rfl⟩
          rw [← ht] at hts hb2 hb4 hcat ⊢
          rw [hts] at hcat
          have HT := Lib.hid ht
          have HCAT := Lib.hid hcat
          have HQ := Lib.hid (And.intro hp hq)
          clear ht hcat hp hq hst hb48 hB48 hz hmz hm1 hm2 hm3 hm4 hd48
          go_wp2_with fail
          refine HC.out.mono ?_
          rintro e W2 ⟨rfl, hf2, hk2⟩
          have hy0 := hk2.cell hx0 (by show ¬ (wr.heap.size = g); omega)
          have hy1 := hk2.cell hx1 (by show ¬ (wr.heap.size = g); omega)
          have HF2 := Lib.hid hf2
          have HK2' := Lib.hid hk2
          clear hf2 hk2
          go_wp2_with fail
          go_quiet (fail)
          rw [HCAT.out]
          have hnew : cat (wth at_ d (d.size / 48) (lst ch)) = cat (lst (wr1 at_ d ch)) := by rw [lst_wr1]
          rw [hnew]
          have hkq : Kp (fun j => j = g) W1 (W2.drewN nq) := HK2'.out.drewN nq
          have hO2 := HO1.out.strMove (S' := No) (fun q e => hkq.block q (Nat.lt_of_lt_of_le (HSX.out q e) hsw) (HGS.out q e))
          have hF2 := HF2.out.no ((Kp.refl No W2).drewN nq)
          have hz0 : (W2.drewN nq).cell? ⟨wr.heap.size, 0, none⟩ = some (.int .i64 kd) := hy0
          obtain ⟨W3, hW3⟩ : ∃ W3, W3 = W2.drewN nq := ⟨_, rfl⟩
          rw [← hW3] at hkq hO2 hF2 hz0 ⊢
          obtain ⟨t2, ht2⟩ : ∃ t2, t2 = cat (lst (wr1 at_ d ch)) := ⟨_, rfl⟩
          rw [← ht2]
          have hs3 := hkq.size
          have HT2 := Lib.hid ht2
          have HK3 := Lib.hid hkq
          have HO3 := Lib.hid hO2
          have HF3 := Lib.hid hF2
          clear ht2 hkq hO2 hF2 hW3 hnew HF2 HF1 HO1 HCAT hy0 hy1
          go_wp2_with (at_builtin; refine wpList_ap1 (K := KStr) (S := No) W3 (by rfl) _ _ 32 (by rfl) w.heap.size 9 9 _ 16 Try.underlying32 I_str rfl (by decide) (by decide) _ _ (by rfl) HO3.out 1 1 (by rfl) rfl _ t2 ?c1 ?c2 ?c3 ?_)
          case c1 => rfl
          case c2 => have := HK2.out.size; omega
          case c3 => have := HCL.out; rw [List.length_map]; omega
          intro v2 W4 hv2 hk4 hat4
          obtain ⟨l4, c4, rfl, _, _⟩ := hv2.len
          have hz4 := hk4.cell hz0 (fun e => by have := HSX.out _ e; simp at this)
          have hF4 : FlatR (fun j => (Value.slice l4 (ch.map cat ++ [t2]).length c4).ownBlock = some j) W4 b g N [wr1 at_ d ch] := HF3.out.move (fun q hq hn => ⟨fun e => by
            rcases hat4 with h | ⟨q', h, h'⟩
            · rw [h] at e; exact hn e
            · rw [h] at e; injection e with e; omega, hk4.block q hq hn⟩)
          have hfin : AllInv w b g N (k + 1) (.string t2) (.slice l4 (ch.map cat ++ [t2]).length c4) W4 := by
            refine ⟨wr1 at_ d ch, okc_wr1 HOK.out, ?_, by rw [HT2.out], ?_, hF4, (HK2.out.trans HK3.out (fun q hq e => by omega)).trans hk4 (fun q hq e => by have := (HO3.out.lt e).1; omega)⟩
            · unfold wr1; have := HCL.out; simp; omega
            · have : (wr1 at_ d ch).map cat = ch.map cat ++ [t2] := by rw [HT2.out, lst_wr1]; unfold wr1; simp
              rw [this]; exact hv2
          obtain ⟨l5, hl5⟩ : ∃ l5, l5 = (ch.map cat ++ [t2]).length := ⟨_, rfl⟩
          rw [← hl5] at hfin ⊢
          have HFIN := Lib.hid hfin
          clear hF4 hfin hl5 hv2 hk4 hat4
          go_wp2
          go_roundw
          case rel => exact ⟨k + 1, by omega, by omega, by go_num, HFIN.out⟩
          case measure => simp [intOf]; omega
        · have hzb := Lib.hid (write_bad at_ d W1 HF1.out (by omega) (by omega) hat (by omega) hz)
          have hzne : (dataF N at_ d.size == 0) = false := by simpa using hz
          clear hz
          go_wp2_with (go_at_call 10; refine hzb.out.mono ?_; rintro e W2 ⟨rfl, hk⟩; have hy0 := hk.cell' hx0)
          go_roundw
          case rel => exact ⟨k + 1, by omega, by omega, by go_num, ch, HOK.out, by have := HCL.out; omega, rfl, HO1.out.no hk, HF1.out.no hk, HK2.out.trans' hk⟩
          case measure => simp [intOf]; omega
      · by_cases hk6 : kd = 6
        · subst hk6
          have HC := Lib.hid (safe_any W1 HF1.out HOK.out (fun q e => Nat.lt_of_lt_of_le (HSX.out q e) hsw) (by simp) (by intro q hq; simp at hq; subst hq; have := HCL.out; omega))
          obtain ⟨t, ht⟩ : ∃ t, t = cat (lst ch) := ⟨_, rfl⟩
          rw [← ht]
          have HT := Lib.hid ht
          clear ht
          go_wp2_with (go_at_call 11; refine HC.out.mono ?_; rintro e W2 ⟨rfl, hf2, hk2⟩)
          have hgs2 : W1.heap.size ≤ W2.heap.size := hk2.size
          have hf3 := hf2.move (S' := fun j => (Value.slice (some ⟨W2.heap.size, 0, none⟩) 1 1).ownBlock = some j) (w' := W2.alloc (.cells #[.string t] 9)) (fun k hk1 hn => ⟨fun e => by simp [Value.ownBlock] at e; omega, Below.heap_alloc W2 _ k hk1⟩)
          have hfin : AllInv w b g N (k + 1) (.string t) (.slice (some ⟨W2.heap.size, 0, none⟩) 1 1) (W2.alloc (.cells #[.string t] 9)) := by
            have hok := HOK.out
            refine ⟨sf1 ch, ?_, by simp [sf1], by rw [HT.out]; rfl, OwR.lit1 rfl ?_ ?_, hf3, (HK2.out.trans hk2 (fun q hq e => by omega)).alloc _⟩
            · intro c hc
              obtain rfl : c = sf1 ch := by simpa using hc
              obtain ⟨h1, h2⟩ := hok ch (by simp)
              exact ⟨by simp [sf1], fun s hs => by obtain rfl : s = lst ch := (by simpa [sf1] using hs); exact h2 _ (lst_mem h1)⟩
            · have := HK2.out.size; omega
            · show _ = _; rw [HT.out]
          have HFIN := Lib.hid hfin
          clear hfin hf3 hf2 hk2
          go_wp2
          go_roundw
          case rel => exact ⟨k + 1, by omega, by omega, by go_num, HFIN.out⟩
          case measure => simp [intOf]; omega
        · by_cases hk0 : 0 ≤ kd
          · have hk3 : ¬ kd < 3 := fun h => hkd ⟨hk0, h⟩
            go_wp2
            go_roundw
            case rel => exact ⟨k + 1, by omega, by omega, by go_num, ch, HOK.out, by have := HCL.out; omega, rfl, HO1.out, HF1.out, HK2.out⟩
            case measure => simp [intOf]; omega
          · go_wp2
            go_roundw
            case rel => exact ⟨k + 1, by omega, by omega, by go_num, ch, HOK.out, by have := HCL.out; omega, rfl, HO1.out, HF1.out, HK2.out⟩
            case measure => simp [intOf]; omega
    · obtain ⟨ch, hok, hcl, rfl, hav, hfl, hkr⟩ := hinv
      have hpos : 0 < ch.length := (hok ch (by simp)).1
      obtain ⟨gv, c', _, rfl, hv0⟩ := hav.block (by simpa using hpos)
      clear hv0
      obtain ⟨_, _, hve, hl1, hl2⟩ := hav.len
      injection hve with hv1 hv2 hve
      rw [← hve] at hl1 hl2
      clear hve hv1 hv2
      obtain ⟨l2, hl2'⟩ : ∃ l2, l2 = (ch.map cat).length := ⟨_, rfl⟩
      have hlc : l2 = ch.length := by rw [hl2', List.length_map]
      rw [← hl2'] at hav hfl hl1 ⊢
      obtain ⟨t, ht⟩ : ∃ t, t = cat (lst ch) := ⟨_, rfl⟩
      rw [← ht]
      have hgs : ∀ q, (Value.slice (some ⟨gv, 0, none⟩) l2 c').ownBlock = some q → q ≠ b := by obtain ⟨_, _, _, _, h, _⟩ := hfl; rintro q e rfl; exact h e
      have hSx : ∀ q, (Value.slice (some ⟨gv, 0, none⟩) l2 c').ownBlock = some q → q < wr.heap.size := fun q e => (hav.lt e).2
      have HC := Lib.hid (crash_any wr hfl (by omega) hok (by simp) hSx (by simp) (by intro q hq; simp at hq; subst hq; omega) (by simp; omega))
      have HAV := Lib.hid hav
      have HKR := Lib.hid hkr
      have HOK := Lib.hid hok
      have HCL := Lib.hid hcl
      have HGS := Lib.hid hgs
      have HSX := Lib.hid hSx
      have HT := Lib.hid ht
      have hl2p : 0 < l2 := by omega
      obtain ⟨lo, hlo⟩ : ∃ lo, lo = oth.length := ⟨_, rfl⟩
      rw [← hlo] at hcb1 HO ⊢
      have HLO := Lib.hid hlo
      have HLC := Lib.hid hlc
      clear hav hkr hok hcl hgs hSx ht hfl HA hl2' hlo hlc hpos
      have hor : (k < la ∧ ¬ k < 25) ∨ ¬ k < la := by omega
      rcases hor with ⟨hl, hnl⟩ | hl <;>
      · go_wp2_with fail
        refine HC.out.mono ?_
        rintro e W1 ⟨rfl, g1, hg1, hf1, hk1⟩
        have ho1 := HAV.out.strMove (S' := No) (fun q e => hk1.block q (HSX.out q e) (HGS.out q e))
        have hb2 := hk1.size
        have HF1 := Lib.hid hf1
        have HK1 := Lib.hid (HKR.out.trans hk1 (fun q hq e => by omega))
        have HO1 := Lib.hid ho1
        have hos1 := hk1.size
        clear hf1 hk1 ho1
        go_wp2_with fail
        refine (copy_any W1 HF1.out (fun q e => Nat.lt_of_lt_of_le (HSX.out q e) hos1) (by have := crash_pos HOK.out; simpa using this) (by have := crash_len ch; have := HCL.out; simp; omega)).mono ?_
        rintro e W2 ⟨b2, g2, rfl, hf2, hb2, hg2, hk2⟩
        have HF2 := Lib.hid (HF1.out.no hk2)
        have HC2 := Lib.hid hf2
        have HO2 := Lib.hid (HO1.out.no hk2)
        have HK2 := Lib.hid (HK1.out.trans' hk2)
        have hos2 := hk2.size
        clear hf2 hk2 HF1 HO1 HK1
        obtain ⟨m, hm⟩ : ∃ m : Nat, pick % (l2 : Int) = m := ⟨(pick % (l2 : Int)).toNat, by have := Int.emod_nonneg pick (b := (l2 : Int)) (by omega); omega⟩
        have hml : m < l2 := by have := Int.emod_lt_of_pos pick (b := (l2 : Int)) (by omega); omega
        have hmn : m < (ch.map cat).length := by rw [List.length_map, ← HLC.out]; exact hml
        obtain ⟨u, hcu, hfu, hur⟩ := HO2.out.at1 rfl hmn
        obtain rfl := KStr_R hur
        obtain ⟨s, hs⟩ : ∃ s, s = (ch.map cat)[m] := ⟨_, rfl⟩
        rw [← hs] at hcu
        obtain ⟨hss, st, hst, hfil⟩ := crash_saw HOK.out (s := s) (hs ▸ List.getElem_mem _)
        have hd0 : dataF N ((0 : Nat) : Int) s.size = 0 := by rw [hss, data_of_may]; unfold mayF; simp; omega
        have m0 : (0 : Int) ≤ (m : Int) := by omega
        have m1 : (m : Int) < (l2 : Int) := by omega
        have l0 : (0 : Int) < (l2 : Int) := by omega
        have hsl : s.size ≤ 1000000 := by omega
        have HS := Lib.hid (saw_ok 0 s W2 HF2.out (by omega) (by omega) (crash_ok HOK.out) hsl hd0 (fun q e => by have := HSX.out q e; omega) (by have := crash_len ch; have := HCL.out; simp; omega))
        have HFIL := Lib.hid hfil
        clear hur hs hss hst hd0 hfil hsl HF2
        go_wp2_with fail
        refine HS.out.mono ?_
        rintro e W3 ⟨rfl, _, hq⟩
        rw [HFIL.out] at hq ⊢
        obtain ⟨g3, hg3, hf, hk⟩ := hq (by simp)
        have HF3 := Lib.hid hf
        have HO3 := Lib.hid (HO2.out.strMove (S' := No) (fun q e => hk.block q (by have := HSX.out q e; omega) (HGS.out q e)))
        have HC3 := Lib.hid (HC2.out.move (S' := No) (w' := W3) (fun q hq hn => ⟨id, hk.block q hq fun e => hn (.inl (.inr e))⟩))
        have HK3 := Lib.hid (HK2.out.trans hk (fun q hq e => by omega))
        have hos3 := hk.size
        clear hq hf hk HO2 HC2 HK2 HS
        go_wp2_with fail
        refine (worlds_any _ HF3.out).mono ?_
        rintro e w' ⟨rfl, rfl⟩
        clear hm hml hmn hcu hfu m0 m1 l0 HFIL hl2p
        have hB : 400 < lo → ∃ bo oo, B = some ⟨bo, oo, none⟩ := fun h => by
          obtain ⟨bo, oo, _, hv, _⟩ := HO.out.open1 rfl (by rw [← HLO.out]; omega)
          injection hv with e1 _ _
          exact ⟨bo, oo, e1⟩
        obtain ⟨x0, hx0⟩ : ∃ x0, x0 = strOfNums (oth.take (min lo 400)) := ⟨_, rfl⟩
        have hx0s : x0.size ≤ 400 := by rw [hx0, strOfNums_size, List.length_take]; omega
        have HX0 := Lib.hid hx0
        have HOR := Lib.hid (show (400 < lo ∧ (∃ bo oo, B = some ⟨bo, oo, none⟩)) ∨ lo ≤ 400 by by_cases h : 400 < lo; exact .inl ⟨h, hB h⟩; exact .inr (by omega))
        clear hB hx0
        go_upto_if 132 with fail
        go_cut [6] (fun ov wx => wx = W3 ∧ ∃ (A : Option Addr) (l cc : Nat), ov = .slice A l cc ∧ (convert 23 9 (.slice A l cc)).run Try.prog W3 = .ok (.string x0) W3)
        case first =>
          rcases HOR.out with ⟨h4, bo, oo, rfl⟩ | h4
          · clear HOR
            have hcv := cv_take (P := Try.prog) (src := 23) (dst := 9) (e := 5) Try.underlying23 Try.underlying5 Try.underlying9 (HO.out.no HK3.out) 400 cb (by rw [← HLO.out]; omega)
            rw [show 400 = min lo 400 by omega, ← HX0.out, show min lo 400 = 400 by omega] at hcv
            go_wp2
            go_meet
            case rel => exact ⟨rfl, _, _, _, rfl, hcv⟩
          · clear HOR
            have hcv := cv_take (P := Try.prog) (src := 23) (dst := 9) (e := 5) Try.underlying23 Try.underlying5 Try.underlying9 (HO.out.no HK3.out) lo cb (by rw [← HLO.out]; omega)
            rw [show oth.take lo = oth.take (min lo 400) by rw [Nat.min_eq_left h4], ← HX0.out] at hcv
            go_wp2
            go_meet
            case rel => exact ⟨rfl, _, _, _, rfl, hcv⟩
        case rest =>
          clear HOR
          obtain ⟨rfl, A0, l0, cc0, rfl, hcv⟩ := hcut
          go_wp2_with fail
          have hfl := full_any x0 (48 * N) wc (by omega) (by omega)
          rw [show ((48 * N : Nat) : Int) = 48 * (N : Int) from by omega] at hfl
          refine hfl.mono ?_
          clear hfl hcv
          rintro e W4 ⟨rfl, hk4⟩
          obtain ⟨X, hX⟩ : ∃ X, X = full x0 (48 * N) := ⟨_, rfl⟩
          have hXs : 48 * N ≤ X.size ∧ X.size ≤ 1000 := by
            rw [hX]; unfold full; split
            · omega
            · rw [ByteArray.size_append, zeros_size]; omega
          rw [← hX]
          have HC4 := Lib.hid (HC3.out.no hk4)
          have HO4 := Lib.hid (HO3.out.no hk4)
          have HK4 := Lib.hid (HK3.out.trans' hk4)
          clear hX hk4 HC3 HO3 HK3 HF3
          obtain ⟨hXs1, hXs2⟩ := hXs
          go_upto_if 144 with fail
          go_cut [16] (fun xv wx => wx = W4 ∧ ∃ xx : ByteArray, xv = .string xx ∧ xx.size = 48 * N)
          case first =>
            by_cases hgt : 48 * N < X.size
            · have i1 : 48 * (N : Int) < (X.size : Int) := by omega
              have i2 : 48 * (N : Int) ≤ (X.size : Int) := by omega
              have i3 : (0 : Int) ≤ 48 * (N : Int) := by omega
              go_wp2
              go_meet
              case rel => exact ⟨rfl, _, rfl, by rw [← size_list, extract_list]; simp; omega⟩
            · have i1 : ¬ 48 * (N : Int) < (X.size : Int) := by omega
              go_wp2
              go_meet
              case rel => exact ⟨rfl, _, rfl, by omega⟩
          case rest =>
            obtain ⟨rfl, xx, rfl, hxx⟩ := hcut
            have his := crash_is HOK.out hxx
            have hxd : dataF N ((0 : Nat) : Int) xx.size = 0 := by rw [hxx, data_of_may]; unfold mayF; simp; omega
            have hxs : xx.size ≤ 1000000 := by omega
            have HS := Lib.hid (saw_ok 0 xx wc HC4.out (by omega) (by omega) (crash_ok HOK.out) hxs hxd (fun _ h => h.elim) (by have := crash_len ch; have := HCL.out; simp; omega))
            have HIS := Lib.hid his
            clear hxx his hxd hxs
            go_wp2
            go_loop [17, 18] (fun is i => ∃ j : Nat, j ≤ l2 ∧ i = .int .i64 j ∧ is = .bool (((ch.map cat).take j).any fun y => decide (y = xx))) (fun _ i => l2 - (intOf i).toNat)
            case atStart => exact ⟨0, Nat.zero_le _, rfl, rfl⟩
            case round =>
              obtain ⟨j, hj, rfl, rfl⟩ := hrel
              by_cases hjl : j < l2
              · have hjn : j < (ch.map cat).length := by rw [List.length_map, ← HLC.out]; exact hjl
                obtain ⟨u, hcu, hfu, hur⟩ := HO4.out.at1 rfl hjn
                obtain rfl := KStr_R hur
                have hst : (((ch.map cat).take (j + 1)).any fun y => decide (y = xx)) = ((((ch.map cat).take j).any fun y => decide (y = xx)) || decide ((ch.map cat)[j] = xx)) := by
                  rw [List.take_succ_eq_append_getElem hjn, List.any_append]; simp
                have HST := Lib.hid hst
                obtain ⟨y, hy⟩ : ∃ y, y = (ch.map cat)[j] := ⟨_, rfl⟩
                rw [← hy] at hcu HST
                obtain ⟨v, hv⟩ : ∃ v, v = (((ch.map cat).take j).any fun y => decide (y = xx)) := ⟨_, rfl⟩
                rw [← hv] at HST ⊢
                have j0 : (0 : Int) ≤ (j : Int) := by omega
                have j1 : (j : Int) < (l2 : Int) := by omega
                clear hur hst hy hv hjn
                cases v
                · by_cases hyx : y = xx
                  · have hc := str_eq hyx
                    have hd := decide_eq_true hyx
                    rw [hd] at HST
                    clear hyx hd
                    go_wp2
                    go_round
                    case rel => exact ⟨j + 1, by omega, by go_num, by rw [HST.out]; rfl⟩
                    case measure => simp [intOf]; omega
                  · have hc := str_ne hyx
                    have hd := decide_eq_false hyx
                    rw [hd] at HST
                    clear hyx hd
                    go_wp2
                    go_round
                    case rel => exact ⟨j + 1, by omega, by go_num, by rw [HST.out]; rfl⟩
                    case measure => simp [intOf]; omega
                · go_wp2
                  go_round
                  case rel => exact ⟨j + 1, by omega, by go_num, by rw [HST.out]; rfl⟩
                  case measure => simp [intOf]; omega
              · obtain rfl : j = l2 := by omega
                have hall : ((ch.map cat).take j).any (fun y => decide (y = xx)) = (ch.map cat).any (fun y => decide (y = xx)) := by rw [List.take_of_length_le (by rw [List.length_map, ← HLC.out]; omega)]
                rw [hall, ← HIS.out]
                obtain ⟨fl, hfl⟩ : ∃ fl, fl = ((crashS [ch]).map one).filter (sw 0 xx) := ⟨_, rfl⟩
                have hfe := HS.out
                rw [← hfl] at hfe ⊢
                obtain ⟨v, hv⟩ : ∃ v, v = !fl.isEmpty := ⟨_, rfl⟩
                rw [← hv]
                have HFE := Lib.hid hfe
                have HV := Lib.hid hv
                clear hfl hall hfe hv
                go_wp2_with fail
                refine HFE.out.mono ?_
                rintro e W5 ⟨rfl, hq1, hq2⟩
                rw [← HV.out]
                have hk5 : Kp No w W5 := by
                  by_cases hz : fl = []
                  · exact HK4.out.trans' (hq1 hz).2
                  · obtain ⟨_, _, _, hk⟩ := hq2 hz
                    exact HK4.out.trans hk (fun q hq e => by have e' : q = b2 := e; have := HKR.out.size; omega)
                have HK5 := Lib.hid hk5
                clear hq1 hq2 hk5
                have hvv : (v == v) = true := by simp
                go_wp2
                go_ret
                exact ⟨rfl, HK5.out⟩
end Go.Proofs.Ytagekjijngbmdaa
