/- flat: a model in memory; Write. -/
import Derived.Test.YtagekjijngbmdaaFc
set_option linter.unusedVariables false
set_option linter.unusedSimpArgs false
namespace Go.Proofs.Ytagekjijngbmdaa
open Go.RowKit
attribute [local go_sem ↓] Go.wp_at_zero Go.wp_at_succ

abbrev St := List ByteArray
abbrev Ch := List St
abbrev KCh : Kind Ch := KSl (KSl KStr)

/-- A model: its struct lies in block b, its row of chains in block g; nothing of it is in S. -/
def FlatR (S : Nat → Prop) (w : World) (b g : Nat) (n : Nat) (cs : List Ch) : Prop :=
  ∃ c, w.heap[b]? = some (.cells #[.int .i64 n, .slice (some ⟨g, 0, none⟩) cs.length c] 58 (0, 0)) ∧ OwR KCh 55 0 (fun k => S k ∨ k = b) w (.slice (some ⟨g, 0, none⟩) cs.length c) cs ∧ g ≠ b ∧ ¬ S b ∧ ¬ S g

theorem FlatR.move {S S' : Nat → Prop} {w w' : World} {b g n : Nat} {cs : List Ch} (h : FlatR S w b g n cs) (hm : ∀ k, k < w.heap.size → ¬ S k → ¬ S' k ∧ w'.heap[k]? = w.heap[k]?) : FlatR S' w' b g n cs := by
  obtain ⟨c, h1, h2, h3, h4, h5⟩ := h
  have hb := hm b (blt h1) h4
  have hg := hm g (h2.lt (k := g) rfl).2 h5
  exact ⟨c, hb.2.trans h1, h2.move (fun k e => by obtain rfl : g = k := (by simpa [Value.ownBlock] using e); exact hg.2) (fun k hk hn _ => ⟨fun x => by rcases x with x | x; exact (hm k hk fun y => hn (.inl y)).1 x; exact hn (.inr x), (hm k hk fun y => hn (.inl y)).2⟩), h3, hb.1, hg.1⟩
theorem FlatR.no {S : Nat → Prop} {w w' : World} {b g n : Nat} {cs : List Ch} (h : FlatR S w b g n cs) (hk : Kp No w w') : FlatR S w' b g n cs := h.move fun k hk' hn => ⟨hn, hk.block k hk' id⟩

def lst (c : Ch) : St := c.getD (c.length - 1) []
/-- States of N blocks of 48 bytes; chains that are not empty. -/
def Okc (N : Nat) (cs : List Ch) : Prop := ∀ c ∈ cs, 0 < c.length ∧ ∀ s ∈ c, s.length = N ∧ ∀ x ∈ s, x.size = 48
def wr1 (at_ : Nat) (d : ByteArray) (c : Ch) : Ch := c ++ [wth at_ d (d.size / 48) (lst c)]

theorem lst_get {c : Ch} (h : 0 < c.length) : c[c.length - 1]? = some (lst c) := by
  unfold lst
  rw [List.getD_eq_getElem?_getD, List.getElem?_eq_getElem (by omega)]
  rfl
theorem lst_mem {c : Ch} (h : 0 < c.length) : lst c ∈ c := List.mem_of_getElem? (lst_get h)

theorem mix_set {α : Type} (f : α → α) (l : List α) (k : Nat) (hk : k < l.length) : ((l.take k).map f ++ l.drop k).set k (f l[k]) = (l.take (k + 1)).map f ++ l.drop (k + 1) := by
  have hl : ((l.take k).map f).length = k := by simp; omega
  rw [List.set_append_right _ _ (by omega), hl, Nat.sub_self, List.drop_eq_getElem_cons hk, List.set_cons_zero, List.take_succ_eq_append_getElem hk, List.map_append, List.append_assoc]
  rfl
theorem mix_len {α : Type} (f : α → α) (l : List α) (k : Nat) : ((l.take k).map f ++ l.drop k).length = l.length := by simp; omega
theorem mix_get {α : Type} (f : α → α) (l : List α) (k : Nat) (hk : k < l.length) : ((l.take k).map f ++ l.drop k)[k]'(by rw [mix_len]; exact hk) = l[k] := by
  rw [List.getElem_append_right (by simp; omega)]
  simp
  congr 1
  omega

set_option maxHeartbeats 1000000 in
theorem write_bad {S : Nat → Prop} {b g N : Nat} {cs : List Ch} (at_ : Int) (d : ByteArray) (w : World) (h : FlatR S w b g N cs) (h1 : 1 ≤ N) (h2 : N ≤ 64) (ha : i64 at_) (hd : d.size ≤ 1000000) (hne : dataF N at_ d.size ≠ 0) :
    Calls Try.prog 10 #[.pointer (some ⟨b, 0, none⟩), .int .i64 at_, .string d] w fun e w' => e = .returned (.int .i64 (dataF N at_ d.size)) ∧ Kp No w w' := by
  obtain ⟨c, hb, _⟩ := h
  have hc0 : w.cell? ⟨b, 0, none⟩ = some (.int .i64 N) := cellOf hb 0
  have hlb := blt hb
  have hk : Kp No w ((w.alloc (.cells #[.int .i64 at_] 3)).alloc (.cells #[.string d] 9)) := ((Kp.refl _ _).alloc _).alloc _
  have hc1 := hk.cell' hc0
  have HK := Lib.hid hk
  have hz : (dataF N at_ d.size != 0) = true := by simpa using hne
  clear hk hc0
  go_enter Try.func10, Try.ntmps10
  go_wp2_with (go_at_call 23; refine (data_some at_ N d b _ (by omega) (by omega) ha hd hc1).mono ?_; rintro e w' ⟨rfl, rfl⟩)
  go_ret
  exact ⟨rfl, HK.out⟩

set_option maxHeartbeats 2000000 in
theorem write_ok {S : Nat → Prop} {b g N : Nat} {cs : List Ch} (at_ : Nat) (d : ByteArray) (w : World) (h : FlatR S w b g N cs) (h1 : 1 ≤ N) (h2 : N ≤ 64) (hok : Okc N cs) (hd : d.size ≤ 1000000) (hne : dataF N at_ d.size = 0) (hat : at_ + d.size / 48 ≤ N)
    (hS : ∀ k, S k → k < w.heap.size) (hlen : cs.length ≤ 1000000000) (hcl : ∀ c ∈ cs, c.length ≤ 1000000000) :
    Calls Try.prog 10 #[.pointer (some ⟨b, 0, none⟩), .int .i64 at_, .string d] w fun e w' => e = .returned (.int .i64 0) ∧ FlatR S w' b g N (cs.map (wr1 at_ d)) ∧ Kp (fun k => k = g) w w' := by
  obtain ⟨c, hb, ho, hgb, hSb, hSg⟩ := h
  have hc0 : w.cell? ⟨b, 0, none⟩ = some (.int .i64 N) := cellOf hb 0
  have hc1 : w.cell? ⟨b, 1, none⟩ = some (.slice (some ⟨g, 0, none⟩) cs.length c) := cellOf hb 1
  have hlb := blt hb
  have hlg := (ho.lt (k := g) rfl).2
  obtain ⟨W, hW⟩ : ∃ W, W = ((w.alloc (.cells #[.int .i64 at_] 3)).alloc (.cells #[.string d] 9)) := ⟨_, rfl⟩
  have hk : Kp No w W := by rw [hW]; exact ((Kp.refl _ _).alloc _).alloc _
  have hsz : W.heap.size = w.heap.size + 2 := by rw [hW]; simp
  have hba : W.cell? ⟨w.heap.size, 0, none⟩ = some (.int .i64 at_) := by rw [hW]; simp [go_sem]
  have hbd : W.cell? ⟨w.heap.size + 1, 0, none⟩ = some (.string d) := by rw [hW]; simp [go_sem]
  have hk0 := hk.cell' hc0
  have hk1 := hk.cell' hc1
  have ho1 := ho.no hk
  obtain ⟨n, hn⟩ : ∃ n, n = cs.length := ⟨_, rfl⟩
  have HN := Lib.hid hn
  rw [← hn] at hk1 ho1
  have HO := Lib.hid ho1
  have HK := Lib.hid hk
  have HB := Lib.hid hb
  have HW := Lib.hid hW
  have hz : (dataF N at_ d.size != 0) = false := by simpa using hne
  have HZ := Lib.hid hne
  clear hk hc0 hc1 hb ho ho1 hn hne hW
  go_enter Try.func10, Try.ntmps10
  go_wp2_with (go_at_call 23; rw [← HW.out]; refine (data_some at_ N d b _ (by omega) (by omega) ?_ hd hk0).mono ?_; (unfold i64; omega); rintro e w' ⟨rfl, rfl⟩; rw [HZ.out])
  go_loopw [24] (fun i wr => ∃ k : Nat, k ≤ n ∧ i = .int .i64 k ∧ OwR KCh 55 0 (fun k => S k ∨ k = b) wr (.slice (some ⟨g, 0, none⟩) n c) ((cs.take k).map (wr1 at_ d) ++ cs.drop k) ∧ Kp (fun j => j = g) W wr) (fun i _ => n - (intOf i).toNat)
  case atStart => exact ⟨0, Nat.zero_le _, rfl, by simpa using HO.out, Kp.refl _ _⟩
  case round =>
    clear HO
    obtain ⟨k, hk1', rfl, ho, hkr⟩ := hrel
    have hszr := hkr.size
    by_cases hlt : k < n
    · have hkn : k < cs.length := by rw [← HN.out]; exact hlt
      have hml := mix_len (wr1 at_ d) cs k
      obtain ⟨u, hcu, hfu, hu⟩ := ho.at1 rfl (i := k) (by omega)
      rw [mix_get _ _ _ hkn] at hu
      obtain ⟨ch, hch⟩ : ∃ ch, ch = cs[k] := ⟨_, rfl⟩
      rw [← hch] at hu
      have hmem : ch ∈ cs := hch ▸ List.getElem_mem _
      obtain ⟨hp, hq⟩ := hok ch hmem
      obtain ⟨hs1, hs2⟩ := hq _ (lst_mem hp)
      have hul := hcl ch hmem
      have hx := lst_get hp
      have hra := hkr.cell hba (by show ¬ (w.heap.size = g); omega)
      have hrd := hkr.cell hbd (by show ¬ (w.heap.size + 1 = g); omega)
      have hr1 := hkr.cell hk1 (by show ¬ (b = g); omega)
      have hu' := KSl_R hu
      obtain ⟨A0, c0, rfl, _, _⟩ := hu'.slice
      have hm : wr1 at_ d ch = ch ++ [wth at_ d (d.size / 48) (lst ch)] := rfl
      have hset := mix_set (wr1 at_ d) cs k hkn
      rw [← hch, hm] at hset
      have hg0 : (0 : Int) ≤ (k : Int) := by omega
      have hg1 : (k : Int) < (n : Int) := by omega
      have HC := Lib.hid (more_any (S := fun j => (S j ∨ j = b) ∨ j = g) _ ch (lst ch) w.heap.size (w.heap.size + 1) at_ d wr.drew (hu'.no (Kp.dr _)) hx hra hrd (by omega) (by omega) (by omega) hd hul (by show ∀ j, ((S j ∨ j = b) ∨ j = g) → j < wr.heap.size; rintro j ((x | x) | x); (have := hS j x; omega); omega; omega))
      have HO := Lib.hid ho
      have HM := Lib.hid hml
      have HS := Lib.hid hset
      have HR := Lib.hid hkr
      clear ho hml hset hm hu hu' hx hmem hp hq hs1 hs2 hkr hch
      go_wp2_with fail
      go_region_held3 (fun w' => w'.cell? ⟨b, 1, none⟩ = some (.slice (some ⟨g, 0, none⟩) n c)) (go_keep)
        (first | (go_at_call 24; refine HC.out.mono ?_; rintro e w1 ⟨⟨u2, rfl, hu2⟩, hk2⟩; obtain ⟨A2, c2, rfl, _, _⟩ := hu2.slice; have hr2 := hk2.cell' hr1; have hcu2 := hk2.cell' hcu; have hfu2 := (hk2.frozen (a := ⟨g, k, none⟩) (by simp; omega) id).trans hfu))
      have hk3 := (Kp.dr wr).trans' hk2
      have hO2 := (HO.out.no hk3).set1 (i := k) (u := .slice A2 (ch ++ [wth at_ d (d.size / 48) (lst ch)]).length c2) rfl (by rw [HM.out]; exact hkn) (y := ch ++ [wth at_ d (d.size / 48) (lst ch)]) ⟨_, rfl, hu2⟩
      rw [HS.out, List.length_append, List.length_singleton] at hO2
      have hK2 := ((HR.out.transNo hk3).setCell (p := ⟨g, k, none⟩) (.inl rfl) (.slice A2 (ch.length + 1) c2))
      have HO2 := Lib.hid hO2
      have HK2 := Lib.hid hK2
      clear hO2 hK2
      go_wp2
      go_roundw
      case rel => exact ⟨k + 1, by omega, by go_num, HO2.out, HK2.out⟩
      case measure => simp [intOf]; omega
    · obtain rfl : k = n := by omega
      have HO := Lib.hid ho
      have HR := Lib.hid hkr
      clear ho hkr
      go_wp2
      go_ret
      have hO := HO.out
      rw [HN.out, List.take_length, List.drop_length, List.append_nil] at hO
      have hf := HK.out.no.trans' HR.out
      refine ⟨rfl, ⟨c, ?_, ?_, hgb, hSb, hSg⟩, hf⟩
      · rw [List.length_map]; exact hf.heap HB.out (by show ¬ (b = g); omega)
      · rw [List.length_map]; exact hO
end Go.Proofs.Ytagekjijngbmdaa
