/- dev: Read, Write, Tamper, Flush. -/
import Derived.Test.YtocpppegmepolaaRa
set_option linter.unusedVariables false
set_option linter.unusedSimpArgs false
namespace Go.Proofs.Ytocpppegmepolaa
open Go.RowKit
attribute [local go_sem ↓] Go.wp_at_zero Go.wp_at_succ

/-- One block of a device, opened: its three cells. -/
theorem DevR.at {S : Nat → Prop} {w : World} {b g : Nat} {bs : List Blk} (h : DevR S w b g bs) {i : Nat} (hi : i < bs.length) :
    ∃ c, w.cell? ⟨b, 0, none⟩ = some (.slice (some ⟨g, 0, none⟩) bs.length c) ∧ bs.length ≤ c ∧ c ≤ 9223372036854775807 ∧ w.cell? ⟨g, i * 3, none⟩ = some (.string bs[i].now) ∧ w.cell? ⟨g, i * 3 + 1, none⟩ = some (.string bs[i].safe) ∧ w.cell? ⟨g, i * 3 + 2, none⟩ = some (.bool bs[i].is) ∧ (∀ j, w.frozen? ⟨g, j, none⟩ = false) := by
  obtain ⟨c, h1, h2, h3, h4, h5⟩ := h
  obtain ⟨A, c', hv, hl, hc⟩ := h2.len
  injection hv with e1 e2 e3
  subst e3
  obtain ⟨g', c', cur, hv, _, _, _, hh, _, _⟩ := h2.block (by omega)
  injection hv with e1 e2 e3
  injection e1 with e1
  injection e1 with e1
  subst e1
  obtain ⟨cs, hr, _, hat⟩ := h2.atF hi
  have hr' : cs = bs[i].cells := hr
  subst hr'
  have a0 := (hat 0 (by decide)).1
  have a1 := (hat 1 (by decide)).1
  have a2 := (hat 2 (by decide)).1
  exact ⟨c, cellOf h1 0, hl, hc, by simpa [KBlk, Blk.cells] using a0, by simpa [KBlk, Blk.cells] using a1, by simpa [KBlk, Blk.cells] using a2, freeOf hh⟩

theorem DevR.setN {S : Nat → Prop} {w : World} {b g : Nat} {bs : List Blk} (h : DevR S w b g bs) {i : Nat} (hi : i < bs.length) (s : ByteArray) : DevR S (w.setCell ⟨g, i * 3, none⟩ (.string s)) b g (bs.set i ⟨s, bs[i].safe, bs[i].is⟩) := by
  obtain ⟨c, h1, h2, h3, h4, h5⟩ := h
  refine ⟨c, ?_, ?_, h3, h4, h5⟩
  · rw [List.length_set]; exact heap_set_far h1 (p := ⟨g, i * 3, none⟩) (Ne.symm h3) _
  · rw [List.length_set]; exact h2.setF hi (j := 0) (by decide) (u := .string s) (y := ⟨s, bs[i].safe, bs[i].is⟩) (fun cs hr => by have hr' : cs = bs[i].cells := hr; subst hr'; rfl)
theorem DevR.setS {S : Nat → Prop} {w : World} {b g : Nat} {bs : List Blk} (h : DevR S w b g bs) {i : Nat} (hi : i < bs.length) (s : ByteArray) : DevR S (w.setCell ⟨g, i * 3 + 1, none⟩ (.string s)) b g (bs.set i ⟨bs[i].now, s, bs[i].is⟩) := by
  obtain ⟨c, h1, h2, h3, h4, h5⟩ := h
  refine ⟨c, ?_, ?_, h3, h4, h5⟩
  · rw [List.length_set]; exact heap_set_far h1 (p := ⟨g, i * 3 + 1, none⟩) (Ne.symm h3) _
  · rw [List.length_set]; exact h2.setF hi (j := 1) (by decide) (u := .string s) (y := ⟨bs[i].now, s, bs[i].is⟩) (fun cs hr => by have hr' : cs = bs[i].cells := hr; subst hr'; rfl)
theorem DevR.setI {S : Nat → Prop} {w : World} {b g : Nat} {bs : List Blk} (h : DevR S w b g bs) {i : Nat} (hi : i < bs.length) (t : Bool) : DevR S (w.setCell ⟨g, i * 3 + 2, none⟩ (.bool t)) b g (bs.set i ⟨bs[i].now, bs[i].safe, t⟩) := by
  obtain ⟨c, h1, h2, h3, h4, h5⟩ := h
  refine ⟨c, ?_, ?_, h3, h4, h5⟩
  · rw [List.length_set]; exact heap_set_far h1 (p := ⟨g, i * 3 + 2, none⟩) (Ne.symm h3) _
  · rw [List.length_set]; exact h2.setF hi (j := 2) (by decide) (u := .bool t) (y := ⟨bs[i].now, bs[i].safe, t⟩) (fun cs hr => by have hr' : cs = bs[i].cells := hr; subst hr'; rfl)
theorem DevR.dr {S : Nat → Prop} {w : World} {b g : Nat} {bs : List Blk} (h : DevR S w b g bs) : DevR S w.drew b g bs := h.no (Kp.dr _)

set_option maxHeartbeats 400000 in
theorem dread_ok {S : Nat → Prop} {b g : Nat} {bs : List Blk} (i : Nat) (w : World) (h : DevR S w b g bs) (hi : i < bs.length) :
    Calls Try.prog 141 #[.pointer (some ⟨b, 0, none⟩), .int .i64 i] w fun e w' => e = .returned (.tuple #[.string bs[i].now, .int .i64 0]) ∧ w = w' := by
  obtain ⟨c, h0, hl, hc, h1, _, _, _⟩ := h.at hi
  obtain ⟨s, hs⟩ : ∃ s, s = bs[i].now := ⟨_, rfl⟩
  obtain ⟨n, hn⟩ : ∃ n, n = bs.length := ⟨_, rfl⟩
  rw [← hs] at h1 ⊢
  rw [← hn] at h0 hl hi
  clear hs hn h
  have i0 : (0 : Int) ≤ (i : Int) := by omega
  have i1 : (i : Int) < (n : Int) := by omega
  go_enter Try.func141, Try.ntmps141
  go_wp2
  go_ret2
  exact ⟨rfl, rfl⟩

set_option maxHeartbeats 1000000 in
theorem dwrite_ok {S : Nat → Prop} {b g : Nat} {bs : List Blk} (i : Nat) (s : ByteArray) (w : World) (h : DevR S w b g bs) (hi : i < bs.length) (hs : s.size = 64) (hn : bs.length ≤ 1000000) :
    Calls Try.prog 143 #[.pointer (some ⟨b, 0, none⟩), .int .i64 i, .string s] w fun e w' => e = .returned (.int .i64 0) ∧ DevR S w' b g (bs.set i ⟨s, bs[i].safe, true⟩) ∧ Kp (fun k => k = g) w w' := by
  obtain ⟨c, h0, hl, hc, h1, h2, h3, hf⟩ := h.at hi
  have hbs2 := ((h.setN hi s).setI (i := i) (by rw [List.length_set]; exact hi) true).dr
  simp only [List.getElem_set_self, List.set_set] at hbs2
  have HD := Lib.hid hbs2
  have hmay : dmay bs.length i s.size = 0 := by unfold dmay; rw [if_neg (by omega), if_neg (by omega)]
  have HM := Lib.hid (dmay_any i s b bs.length c (some ⟨g, 0, none⟩) w (by omega) hn h0)
  rw [hmay] at HM
  obtain ⟨n, hn'⟩ : ∃ n, n = bs.length := ⟨_, rfl⟩
  rw [← hn'] at h0 hl hn
  have hi' : i < n := by omega
  obtain ⟨_, _, _, hne, _, _⟩ := h
  have i0 : (0 : Int) ≤ (i : Int) := by omega
  have i1 : (i : Int) < (n : Int) := by omega
  have hf0 := hf (i * 3)
  have hf2 := hf (i * 3 + 2)
  obtain ⟨x1, hx1⟩ : ∃ x, x = bs[i].now := ⟨_, rfl⟩
  obtain ⟨x3, hx3⟩ : ∃ x, x = bs[i].is := ⟨_, rfl⟩
  rw [← hx1] at h1
  rw [← hx3] at h3
  clear hmay hbs2 hn' h2 hs hf hx1 hx3
  go_enter Try.func143, Try.ntmps143
  go_wp2_with (go_at_call 188; refine HM.out.mono ?_; rintro e w' ⟨rfl, rfl⟩)
  go_region_held3 (fun w' => w'.cell? ⟨b, 0, none⟩ = some (.slice (some ⟨g, 0, none⟩) n c)) (go_keep) (fail)
  go_wp2
  go_ret
  exact ⟨rfl, HD.out, (((Kp.refl _ _).setAt _ _).setAt _ _).drew⟩

set_option maxHeartbeats 1000000 in
theorem dtamper_ok {S : Nat → Prop} {b g : Nat} {bs : List Blk} (i : Nat) (s : ByteArray) (w : World) (h : DevR S w b g bs) (hi : i < bs.length) (hs : s.size = 64) (hn : bs.length ≤ 1000000) :
    Calls Try.prog 145 #[.pointer (some ⟨b, 0, none⟩), .int .i64 i, .string s] w fun e w' => e = .returned (.int .i64 0) ∧ DevR S w' b g (bs.set i ⟨s, s, bs[i].is⟩) ∧ Kp (fun k => k = g) w w' := by
  obtain ⟨c, h0, hl, hc, h1, h2, h3, hf⟩ := h.at hi
  have hbs2 := ((h.setN hi s).setS (i := i) (by rw [List.length_set]; exact hi) s).dr
  simp only [List.getElem_set_self, List.set_set] at hbs2
  have HD := Lib.hid hbs2
  have hmay : dmay bs.length i s.size = 0 := by unfold dmay; rw [if_neg (by omega), if_neg (by omega)]
  have HM := Lib.hid (dmay_any i s b bs.length c (some ⟨g, 0, none⟩) w (by omega) hn h0)
  rw [hmay] at HM
  obtain ⟨n, hn'⟩ : ∃ n, n = bs.length := ⟨_, rfl⟩
  rw [← hn'] at h0 hl hn
  have hi' : i < n := by omega
  obtain ⟨_, _, _, hne, _, _⟩ := h
  have i0 : (0 : Int) ≤ (i : Int) := by omega
  have i1 : (i : Int) < (n : Int) := by omega
  have hf0 := hf (i * 3)
  have hf2 := hf (i * 3 + 1)
  obtain ⟨x1, hx1⟩ : ∃ x, x = bs[i].now := ⟨_, rfl⟩
  obtain ⟨x3, hx3⟩ : ∃ x, x = bs[i].safe := ⟨_, rfl⟩
  rw [← hx1] at h1
  rw [← hx3] at h2
  clear hmay hbs2 hn' h3 hs hf hx1 hx3
  go_enter Try.func145, Try.ntmps145
  go_wp2_with (go_at_call 188; refine HM.out.mono ?_; rintro e w' ⟨rfl, rfl⟩)
  go_region_held3 (fun w' => w'.cell? ⟨b, 0, none⟩ = some (.slice (some ⟨g, 0, none⟩) n c)) (go_keep) (fail)
  go_wp2
  go_ret
  exact ⟨rfl, HD.out, (((Kp.refl _ _).setAt _ _).setAt _ _).drew⟩

def flB (x : Blk) : Blk := ⟨x.now, x.now, false⟩
theorem mixB_len (bs : List Blk) (k : Nat) : ((bs.take k).map flB ++ bs.drop k).length = bs.length := by simp; omega
theorem mixB_get (f : Blk → Blk) (bs : List Blk) (k : Nat) (h : k < bs.length) (h' : k < ((bs.take k).map f ++ bs.drop k).length) : ((bs.take k).map f ++ bs.drop k)[k] = bs[k] := by
  rw [List.getElem_append_right (by simp; omega)]
  simp
  congr 1
  omega
theorem mixB_set (f : Blk → Blk) (l : List Blk) (k : Nat) (hk : k < l.length) : ((l.take k).map f ++ l.drop k).set k (f l[k]) = (l.take (k + 1)).map f ++ l.drop (k + 1) := by
  have hl : ((l.take k).map f).length = k := by simp; omega
  rw [List.set_append_right _ _ (by omega), hl, Nat.sub_self, List.drop_eq_getElem_cons hk, List.set_cons_zero, List.take_succ_eq_append_getElem hk, List.map_append, List.append_assoc]
  rfl

set_option maxHeartbeats 2000000 in
theorem dflush_ok {S : Nat → Prop} {b g : Nat} {bs : List Blk} (w : World) (h : DevR S w b g bs) (h0 : 0 < bs.length) (hn : bs.length ≤ 1000000) :
    Calls Try.prog 144 #[.pointer (some ⟨b, 0, none⟩)] w fun e w' => e = .returned (.int .i64 0) ∧ DevR S w' b g (bs.map flB) ∧ Kp (fun k => k = g) w w' := by
  have HD := Lib.hid h
  obtain ⟨c, hb, hl, hc, _⟩ := h.at h0
  obtain ⟨n, hn'⟩ : ∃ n, n = bs.length := ⟨_, rfl⟩
  rw [← hn'] at hb hl hn h0
  have HN := Lib.hid hn'
  obtain ⟨_, _, _, hne, _, _⟩ := h
  clear hn'
  go_enter Try.func144, Try.ntmps144
  go_wp2
  go_loopw [12] (fun i wr => ∃ k : Nat, k ≤ n ∧ i = .int .i64 k ∧ DevR S wr b g ((bs.take k).map flB ++ bs.drop k) ∧ Kp (fun j => j = g) w wr) (fun i _ => n - (intOf i).toNat)
  case atStart => exact ⟨0, Nat.zero_le _, rfl, by simpa using HD.out, Kp.refl _ _⟩
  case round =>
    clear HD
    obtain ⟨k, hk, rfl, hd, hkr⟩ := hrel
    by_cases hlt : k < n
    · have hml : ((bs.take k).map flB ++ bs.drop k).length = n := by rw [mixB_len, HN.out]
      have hkm : k < ((bs.take k).map flB ++ bs.drop k).length := by omega
      have hkb : k < bs.length := by rw [← HN.out]; exact hlt
      obtain ⟨c', g0, _, _, g1, g2, g3, gf⟩ := hd.at hkm
      have hg := mixB_get flB bs k hkb hkm
      have hset := mixB_set flB bs k hkb
      have hd2 := (hd.setS hkm bs[k].now).setI (i := k) (by rw [List.length_set]; exact hkm) false
      rw [hg] at g1 g2 g3
      simp only [List.getElem_set_self, List.set_set, hg] at hd2
      rw [show (⟨bs[k].now, bs[k].now, false⟩ : Blk) = flB bs[k] from rfl, hset] at hd2
      obtain ⟨s, hs⟩ : ∃ s, s = bs[k].now := ⟨_, rfl⟩
      obtain ⟨s2, hs2⟩ : ∃ s, s = bs[k].safe := ⟨_, rfl⟩
      obtain ⟨s3, hs3⟩ : ∃ s, s = bs[k].is := ⟨_, rfl⟩
      rw [← hs] at g1 hd2
      rw [← hs2] at g2
      rw [← hs3] at g3
      rw [hml] at g0
      have gf1 := gf (k * 3 + 1)
      have gf2 := gf (k * 3 + 2)
      have i0 : (0 : Int) ≤ (k : Int) := by omega
      have i1 : (k : Int) < (n : Int) := by omega
      have HD := Lib.hid hd2
      have HK := Lib.hid hkr
      clear hd hd2 hkr hml hkm hg hset hs hs2 hs3 gf hb
      go_wp2
      go_roundw
      case rel => exact ⟨k + 1, by omega, by go_num, HD.out, (HK.out.setAt _ _).setAt _ _⟩
      case measure => simp [intOf]; omega
    · obtain rfl : k = n := by omega
      have HK := Lib.hid hkr
      rw [HN.out, List.take_length, List.drop_length, List.append_nil] at hd
      have HD := Lib.hid hd
      clear hkr hd
      go_wp2
      go_ret
      exact ⟨rfl, HD.out, HK.out⟩
end Go.Proofs.Ytocpppegmepolaa
