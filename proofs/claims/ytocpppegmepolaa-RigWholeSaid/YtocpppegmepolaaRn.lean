/- the reference of layer 10: the shape of its devices; Write, Tamper, Flush. -/
import Derived.Test.YtocpppegmepolaaRm
set_option linter.unusedVariables false
set_option linter.unusedSimpArgs false
namespace Go.Proofs.Ytocpppegmepolaa
open Go.RowKit
attribute [local go_sem ↓] Go.wp_at_zero Go.wp_at_succ

def A64 (l : List ByteArray) : Prop := l.length = 288 ∧ ∀ s ∈ l, s.size = 64
theorem A64.set {l : List ByteArray} (h : A64 l) (i : Nat) {s : ByteArray} (hs : s.size = 64) : A64 (l.set i s) :=
  ⟨by rw [List.length_set]; exact h.1, fun x hx => by rcases List.mem_or_eq_of_mem_set hx with hx | rfl; exact h.2 x hx; exact hs⟩
/-- A reference's device: its struct in block d; its lists apart from S and d. -/
def RDc (S : Nat → Prop) (w : World) (d : Nat) (vN vS vI : Value) (now safe : List ByteArray) (is : List Bool) : Prop :=
  w.heap[d]? = some (.cells #[vN, vS, vI] 246 (0, 0)) ∧ SlR KStr (fun k => S k ∨ k = d) w vN now ∧ SlR KStr (fun k => S k ∨ k = d) w vS safe ∧ SlR KBool (fun k => S k ∨ k = d) w vI is ∧ A64 now ∧ A64 safe ∧ is.length = 288 ∧ ¬ S d
def RD (S : Nat → Prop) (w : World) (d : Nat) : Prop := ∃ vN vS vI now safe is, RDc S w d vN vS vI now safe is
section
variable {S : Nat → Prop} {w w' : World} {d : Nat}
theorem mvd {S' : Nat → Prop} (hm : ∀ k, k < w.heap.size → ¬ S k → ¬ S' k ∧ w'.heap[k]? = w.heap[k]?) : ∀ k, k < w.heap.size → ¬ (S k ∨ k = d) → ¬ (S' k ∨ k = d) ∧ w'.heap[k]? = w.heap[k]? := by
  intro k hk hn
  have := hm k hk (fun x => hn (.inl x))
  exact ⟨fun x => by rcases x with x | x; exact this.1 x; exact hn (.inr x), this.2⟩
theorem RD.move {S' : Nat → Prop} (h : RD S w d) (hm : ∀ k, k < w.heap.size → ¬ S k → ¬ S' k ∧ w'.heap[k]? = w.heap[k]?) : RD S' w' d := by
  obtain ⟨vN, vS, vI, now, safe, is, h1, h2, h3, h4, h5, h6, h7, h8⟩ := h
  have hd := hm d (blt h1) h8
  exact ⟨vN, vS, vI, now, safe, is, hd.2.trans h1, h2.move (mvd hm), h3.move (mvd hm), h4.move (mvd hm), h5, h6, h7, hd.1⟩
theorem RD.no (h : RD S w d) (hk : Kp No w w') : RD S w' d := h.move fun k hk' hn => ⟨hn, hk.block k hk' id⟩
theorem RD.kp {T : Nat → Prop} (h : RD S w d) (hk : Kp T w w') (hT : ∀ k, T k → S k) : RD S w' d := h.move fun k hk' hn => ⟨hn, hk.block k hk' fun x => hn (hT k x)⟩
theorem RD.lt (h : RD S w d) : d < w.heap.size ∧ ¬ S d := by obtain ⟨_, _, _, _, _, _, h1, _, _, _, _, _, _, h8⟩ := h; exact ⟨blt h1, h8⟩
/-- One of the lists is another one. -/
theorem SlR.dset {α : Type} {K : Kind α} {v : Value} {xs : List α} (h : SlR K (fun k => S k ∨ k = d) w v xs) (j : Nat) (u : Value) : SlR K (fun k => S k ∨ k = d) (w.setCell ⟨d, j, none⟩ u) v xs :=
  h.move fun k _ hn => ⟨hn, Below.heap_setCell w _ u k fun e => hn (.inr e)⟩

def ret0 : Ending := .returned (.tuple #[])
set_option maxHeartbeats 1000000 in
theorem rdwrite_any (i : Nat) (s : ByteArray) (h : RD S w d) (hi : i < 288) (hs : s.size = 64) (hS : ∀ k, S k → k < w.heap.size) :
    Calls Try.prog 178 #[.pointer (some ⟨d, 0, none⟩), .int .i64 i, .string s] w fun e w' => e = .returned (.tuple #[]) ∧ RD S w' d ∧ Kp (fun k => k = d) w w' := by
  obtain ⟨vN, vS, vI, now, safe, is, h1, h2, h3, h4, h5, h6, h7, h8⟩ := h
  have c0 := cellOf h1 0
  have c2 := cellOf h1 2
  have f0 := freeOf h1 0
  have hdl := blt h1
  have hS2 : ∀ k, (S k ∨ k = d) → k < w.heap.size := fun k hk => by rcases hk with hk | rfl; exact hS k hk; exact hdl
  have HP := Lib.hid (rput_any vN now i s w h2 (by rw [h5.1]; exact hi) (by rw [h5.1]; omega) hS2)
  have H1 := Lib.hid h1
  have H3 := Lib.hid h3
  have H4 := Lib.hid h4
  have H5 := Lib.hid h5
  have H6 := Lib.hid h6
  have H7 := Lib.hid h7
  have H8 := Lib.hid h8
  have HSS := Lib.hid hs
  have HS2 := Lib.hid hS2
  clear h1 h2 h3 h4 h5 h6 h7 h8 hs hS hS2
  go_enter Try.func178, Try.ntmps178
  go_wp2_with fail
  refine HP.out.mono ?_
  rintro e w1 ⟨⟨u, rfl, hu⟩, k1⟩
  obtain ⟨A, c, rfl, _, _⟩ := hu.slice
  simp only [List.length_set] at hu ⊢
  have a1 := k1.heap H1.out id
  obtain ⟨W1, hW1⟩ : ∃ W1, W1 = w1.setCell ⟨d, 0, none⟩ (.slice A now.length c) := ⟨_, rfl⟩
  have b1 : W1.heap[d]? = some (.cells #[.slice A now.length c, vS, vI] 246 (0, 0)) := by rw [hW1, heap_set a1]; rfl
  have x0 := cellOf a1 0
  have y0 := freeOf a1 0
  have x2 := cellOf a1 2
  have y2 := freeOf a1 2
  have b2 := hu.dset 0 (.slice A now.length c)
  have b3 := (H3.out.no k1).dset 0 (.slice A now.length c)
  have b4 := (H4.out.no k1).dset 0 (.slice A now.length c)
  rw [← hW1] at b2 b3 b4
  have kW : Kp (fun k => k = d) w W1 := by rw [hW1]; exact k1.no.setAt 0 _
  have HP2 := Lib.hid (rmark_any vI is i true W1 b4 (by rw [H7.out]; exact hi) (by rw [H7.out]; omega) (fun k hk => Nat.lt_of_lt_of_le (HS2.out k hk) kW.size))
  have B1 := Lib.hid b1
  have B2 := Lib.hid b2
  have B3 := Lib.hid b3
  have KW := Lib.hid kW
  have HW1 := Lib.hid hW1
  clear hu k1 a1 b1 b2 b3 b4 kW HP c0 c2 f0 hW1
  go_wp2_with fail
  rw [← HW1.out]
  refine HP2.out.mono ?_
  rintro e w2 ⟨⟨u2, rfl, hu2⟩, k2⟩
  obtain ⟨A2, c2, rfl, _, _⟩ := hu2.slice
  simp only [List.length_set] at hu2 ⊢
  have a2 := k2.heap B1.out id
  have z2 := cellOf a2 2
  have q2 := freeOf a2 2
  have e1 : (w2.setCell ⟨d, 2, none⟩ (.slice A2 is.length c2)).heap[d]? = some (.cells #[.slice A now.length c, vS, .slice A2 is.length c2] 246 (0, 0)) := by rw [heap_set a2]; rfl
  have e2 := (B2.out.no k2).dset 2 (.slice A2 is.length c2)
  have e3 := (B3.out.no k2).dset 2 (.slice A2 is.length c2)
  have e4 := hu2.dset 2 (.slice A2 is.length c2)
  have kW2 := (KW.out.transNo k2).setAt 2 (.slice A2 is.length c2)
  have E1 := Lib.hid e1
  have E2 := Lib.hid e2
  have E3 := Lib.hid e3
  have E4 := Lib.hid e4
  have KW2 := Lib.hid kW2
  clear hu2 k2 a2 e1 e2 e3 e4 kW2 HP2 x0 y0 x2 y2
  go_wp2
  go_end0
  exact ⟨rfl, ⟨_, _, _, now.set i s, safe, is.set i true, E1.out, E2.out, E3.out, E4.out, H5.out.set i HSS.out, H6.out, by rw [List.length_set]; exact H7.out, H8.out⟩, KW2.out⟩
set_option maxHeartbeats 1000000 in
theorem rdtamper_any (i : Nat) (s : ByteArray) (h : RD S w d) (hi : i < 288) (hs : s.size = 64) (hS : ∀ k, S k → k < w.heap.size) :
    Calls Try.prog 123 #[.pointer (some ⟨d, 0, none⟩), .int .i64 i, .string s] w fun e w' => e = .returned (.tuple #[]) ∧ RD S w' d ∧ Kp (fun k => k = d) w w' := by
  obtain ⟨vN, vS, vI, now, safe, is, h1, h2, h3, h4, h5, h6, h7, h8⟩ := h
  have c0 := cellOf h1 0
  have c2 := cellOf h1 1
  have f0 := freeOf h1 0
  have hdl := blt h1
  have hS2 : ∀ k, (S k ∨ k = d) → k < w.heap.size := fun k hk => by rcases hk with hk | rfl; exact hS k hk; exact hdl
  have HP := Lib.hid (rput_any vN now i s w h2 (by rw [h5.1]; exact hi) (by rw [h5.1]; omega) hS2)
  have H1 := Lib.hid h1
  have H3 := Lib.hid h3
  have H4 := Lib.hid h4
  have H5 := Lib.hid h5
  have H6 := Lib.hid h6
  have H7 := Lib.hid h7
  have H8 := Lib.hid h8
  have HSS := Lib.hid hs
  have HS2 := Lib.hid hS2
  clear h1 h2 h3 h4 h5 h6 h7 h8 hs hS hS2
  go_enter Try.func123, Try.ntmps123
  go_wp2_with fail
  refine HP.out.mono ?_
  rintro e w1 ⟨⟨u, rfl, hu⟩, k1⟩
  obtain ⟨A, c, rfl, _, _⟩ := hu.slice
  simp only [List.length_set] at hu ⊢
  have a1 := k1.heap H1.out id
  obtain ⟨W1, hW1⟩ : ∃ W1, W1 = w1.setCell ⟨d, 0, none⟩ (.slice A now.length c) := ⟨_, rfl⟩
  have b1 : W1.heap[d]? = some (.cells #[.slice A now.length c, vS, vI] 246 (0, 0)) := by rw [hW1, heap_set a1]; rfl
  have x0 := cellOf a1 0
  have y0 := freeOf a1 0
  have x2 := cellOf a1 1
  have y2 := freeOf a1 1
  have b2 := hu.dset 0 (.slice A now.length c)
  have b3 := (H3.out.no k1).dset 0 (.slice A now.length c)
  have b4 := (H4.out.no k1).dset 0 (.slice A now.length c)
  rw [← hW1] at b2 b3 b4
  have kW : Kp (fun k => k = d) w W1 := by rw [hW1]; exact k1.no.setAt 0 _
  have HP2 := Lib.hid (rput_any vS safe i s W1 b3 (by rw [H6.out.1]; exact hi) (by rw [H6.out.1]; omega) (fun k hk => Nat.lt_of_lt_of_le (HS2.out k hk) kW.size))
  have B1 := Lib.hid b1
  have B2 := Lib.hid b2
  have B4 := Lib.hid b4
  have KW := Lib.hid kW
  have HW1 := Lib.hid hW1
  clear hu k1 a1 b1 b2 b3 b4 kW HP c0 c2 f0 hW1
  go_wp2_with fail
  rw [← HW1.out]
  refine HP2.out.mono ?_
  rintro e w2 ⟨⟨u2, rfl, hu2⟩, k2⟩
  obtain ⟨A2, c2, rfl, _, _⟩ := hu2.slice
  simp only [List.length_set] at hu2 ⊢
  have a2 := k2.heap B1.out id
  have z2 := cellOf a2 1
  have q2 := freeOf a2 1
  have e1 : (w2.setCell ⟨d, 1, none⟩ (.slice A2 safe.length c2)).heap[d]? = some (.cells #[.slice A now.length c, .slice A2 safe.length c2, vI] 246 (0, 0)) := by rw [heap_set a2]; rfl
  have e2 := (B2.out.no k2).dset 1 (.slice A2 safe.length c2)
  have e3 := hu2.dset 1 (.slice A2 safe.length c2)
  have e4 := (B4.out.no k2).dset 1 (.slice A2 safe.length c2)
  have kW2 := (KW.out.transNo k2).setAt 1 (.slice A2 safe.length c2)
  have E1 := Lib.hid e1
  have E2 := Lib.hid e2
  have E3 := Lib.hid e3
  have E4 := Lib.hid e4
  have KW2 := Lib.hid kW2
  clear hu2 k2 a2 e1 e2 e3 e4 kW2 HP2 x0 y0 x2 y2
  go_wp2
  go_end0
  exact ⟨rfl, ⟨_, _, _, now.set i s, safe.set i s, is, E1.out, E2.out, E3.out, E4.out, H5.out.set i HSS.out, H6.out.set i HSS.out, H7.out, H8.out⟩, KW2.out⟩
set_option maxHeartbeats 1000000 in
theorem rdflush_any (h : RD S w d) (hS : ∀ k, S k → k < w.heap.size) :
    Calls Try.prog 120 #[.pointer (some ⟨d, 0, none⟩)] w fun e w' => e = .returned (.tuple #[]) ∧ RD S w' d ∧ Kp (fun k => k = d) w w' := by
  obtain ⟨vN, vS, vI, now, safe, is, h1, h2, h3, h4, h5, h6, h7, h8⟩ := h
  have hdl := blt h1
  have hS2 : ∀ k, (S k ∨ k = d) → k < w.heap.size := fun k hk => by rcases hk with hk | rfl; exact hS k hk; exact hdl
  obtain ⟨b, o, c, news, rfl, ⟨hc1, hc2⟩, hbS, hb, hnl, hnc, hnr⟩ := h2.news (by rw [h5.1]; omega)
  obtain ⟨n, hn⟩ : ∃ n, n = now.length := ⟨_, rfl⟩
  have hn288 : n = 288 := hn.trans h5.1
  have hn2 : n ≤ 288 := by omega
  have hn0 : (0 : Int) ≤ (n : Int) := by omega
  simp only [← hn] at h1 h2 hc1
  have hmk := mk_row (P := Try.prog) 30 4 (.bool false) 1 Try.underlying30 I_bool rfl (by omega) n (by omega)
  have c0 := cellOf h1 0
  have f1 := freeOf h1 1
  have f2 := freeOf h1 2
  have HNL := Lib.hid hnl
  have HNC := Lib.hid hnc
  have HNR := Lib.hid hnr
  have HN := Lib.hid hn
  have HN8 := Lib.hid hn288
  have H1 := Lib.hid h1
  have H2 := Lib.hid h2
  have H4 := Lib.hid h4
  have H5 := Lib.hid h5
  have H8 := Lib.hid h8
  have HS2 := Lib.hid hS2
  have hal : Hid (Kp No w (w.alloc (.cells #[] 9))) := Lib.hid ((Kp.refl _ _).alloc _)
  have c0' : (w.alloc (.cells #[] 9)).cell? ⟨d, 0, none⟩ = some (.slice (some ⟨b, o, none⟩) n c) := hal.out.cell' c0
  clear h1 h2 h3 h4 h5 h6 h7 h8 hS hS2 hnl hnc hnr hn hn288 c0
  go_enter Try.func120, Try.ntmps120
  go_wp2_with (at_builtin; refine wpList_ap (K := KStr) (S := fun k => S k ∨ k = d) (w.alloc (.cells #[] 9)) (by rfl) _ _ 48 (by rfl) w.heap.size 9 _ 16 Try.underlying48 I_str rfl (by decide) (by decide) _ _ (by rfl) (OwR.lit0 w _ _ (Nat.le_refl _)) ⟨b, o, none⟩ n c (by rfl) news now HN.out ?c1 ?c2 ?c3 ?c4 ?c5 ?_)
  case c1 => rw [HN.out]; exact HNL.out
  case c2 => exact fun j u hj => hal.out.cell' (HNC.out j u hj)
  case c3 => exact fun q hq => Kind.fresh (HNR.out q hq) hal.out (fun k e => by simp [Value.ownBlock] at e; omega)
  case c4 => simp
  case c5 => simp; omega
  intro v2 w2 hv2 hk2 hat
  have hk3 : Kp No w w2 := hal.out.trans hk2 (fun k hk e => by simp [Value.ownBlock] at e; omega)
  have hsl := hv2.slOf HS2.out
  obtain ⟨A2, d2, rfl, _, _⟩ := hsl.slice
  have a2 := hk3.heap H1.out id
  have hd2 := blt a2
  have x0 := cellOf a2 0
  have x1 := cellOf a2 1
  have x2 := cellOf a2 2
  have y1 := freeOf a2 1
  have y2 := freeOf a2 2
  have HSL := Lib.hid hsl
  have A2' := Lib.hid a2
  have K3 := Lib.hid hk3
  clear hv2 hk2 hat hsl a2 hk3 HNL HNC HNR c0' hal f1 f2
  go_wp2
  go_end0
  have hXs : ((w2.setCell ⟨d, 1, none⟩ (.slice A2 now.length d2)).setCell ⟨d, 2, none⟩ (.slice (some ⟨w2.heap.size, 0, none⟩) n n)).heap.size = w2.heap.size := by simp
  have e1 : ((w2.setCell ⟨d, 1, none⟩ (.slice A2 now.length d2)).setCell ⟨d, 2, none⟩ (.slice (some ⟨w2.heap.size, 0, none⟩) n n)).heap[d]? = some (.cells #[.slice (some ⟨b, o, none⟩) n c, .slice A2 now.length d2, .slice (some ⟨w2.heap.size, 0, none⟩) n n] 246 (0, 0)) := by rw [heap_set (heap_set A2'.out 1 _)]; rfl
  have e2 := ((H2.out.no K3.out).dset 1 (.slice A2 now.length d2)).dset 2 (.slice (some ⟨w2.heap.size, 0, none⟩) n n)
  have e3 := (HSL.out.dset 1 (.slice A2 now.length d2)).dset 2 (.slice (some ⟨w2.heap.size, 0, none⟩) n n)
  have kX := (K3.out.no.setAt (b := d) 1 (.slice A2 now.length d2)).setAt 2 (.slice (some ⟨w2.heap.size, 0, none⟩) n n)
  generalize (w2.setCell ⟨d, 1, none⟩ (.slice A2 now.length d2)).setCell ⟨d, 2, none⟩ (.slice (some ⟨w2.heap.size, 0, none⟩) n n) = X at hXs e1 e2 e3 kX ⊢
  have hal2 : Kp No X (X.alloc (.cells (madeCells #[.bool false] n) 4)) := (Kp.refl _ _).alloc _
  have hO := OwR.made (K := KBool) (S := fun k => S k ∨ k = d) 4 X.heap.size X (.bool false) false n rfl (Nat.le_refl _) (by omega) (fun _ _ => rfl)
  rw [hXs] at hO
  have hI := hO.slOf (fun k hk => by have := HS2.out k hk; have := K3.out.size; omega)
  have hl : (List.replicate n false).length = n := List.length_replicate
  refine ⟨rfl, ⟨_, _, _, now, now, List.replicate n false, heap_al e1 _, ?_, e3.no hal2, ?_, H5.out, H5.out, by rw [hl]; exact HN8.out, H8.out⟩, kX.alloc _⟩
  · exact e2.no hal2
  · exact hI
end
end Go.Proofs.Ytocpppegmepolaa
