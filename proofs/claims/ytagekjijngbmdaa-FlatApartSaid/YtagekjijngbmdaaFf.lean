/- flat: Safe, Copy, New. -/
import Derived.Test.YtagekjijngbmdaaFe
set_option linter.unusedVariables false
set_option linter.unusedSimpArgs false
namespace Go.Proofs.Ytagekjijngbmdaa
open Go.RowKit
attribute [local go_sem ↓] Go.wp_at_zero Go.wp_at_succ

theorem I_chain : (Try.prog.info? 55).map (fun i => (i.zero, i.size, i.bytes)) = some (some (.slice none 0 0), 1, 24) := by kernel_rfl

def sf1 (c : Ch) : Ch := [lst c]

set_option maxHeartbeats 400000 in
theorem safe_nil (w : World) : Calls Try.prog 11 #[.pointer none] w fun e w' => e = .returned (.tuple #[]) ∧ w = w' := by
  go_enter Try.func11, Try.ntmps11
  go_wp2
  go_returns
  exact ⟨rfl, rfl⟩

set_option maxHeartbeats 2000000 in
theorem safe_any {S : Nat → Prop} {b g N : Nat} {cs : List Ch} (w : World) (h : FlatR S w b g N cs) (hok : Okc N cs)
    (hS : ∀ k, S k → k < w.heap.size) (hlen : cs.length ≤ 1000000000) (hcl : ∀ c ∈ cs, c.length ≤ 1000000000) :
    Calls Try.prog 11 #[.pointer (some ⟨b, 0, none⟩)] w fun e w' => e = .returned (.tuple #[]) ∧ FlatR S w' b g N (cs.map sf1) ∧ Kp (fun k => k = g) w w' := by
  obtain ⟨c, hb, ho, hgb, hSb, hSg⟩ := h
  have hc1 : w.cell? ⟨b, 1, none⟩ = some (.slice (some ⟨g, 0, none⟩) cs.length c) := cellOf hb 1
  have hlb := blt hb
  have hlg := (ho.lt (k := g) rfl).2
  obtain ⟨n, hn⟩ : ∃ n, n = cs.length := ⟨_, rfl⟩
  have HN := Lib.hid hn
  rw [← hn] at hc1 ho
  have HO := Lib.hid ho
  have HB := Lib.hid hb
  clear hb ho hn
  go_enter Try.func11, Try.ntmps11
  go_wp2
  go_loopw [11] (fun i wr => ∃ k : Nat, k ≤ n ∧ i = .int .i64 k ∧ OwR KCh 55 0 (fun k => S k ∨ k = b) wr (.slice (some ⟨g, 0, none⟩) n c) ((cs.take k).map sf1 ++ cs.drop k) ∧ Kp (fun j => j = g) w wr) (fun i _ => n - (intOf i).toNat)
  case atStart => exact ⟨0, Nat.zero_le _, rfl, by simpa using HO.out, Kp.refl _ _⟩
  case round =>
    clear HO
    obtain ⟨k, hk1', rfl, ho, hkr⟩ := hrel
    have hszr := hkr.size
    by_cases hlt : k < n
    · have hkn : k < cs.length := by rw [← HN.out]; exact hlt
      have hml := mix_len sf1 cs k
      obtain ⟨u, hcu, hfu, hu⟩ := ho.at1 rfl (i := k) (by omega)
      rw [mix_get _ _ _ hkn] at hu
      obtain ⟨ch, hch⟩ : ∃ ch, ch = cs[k] := ⟨_, rfl⟩
      rw [← hch] at hu
      have hmem : ch ∈ cs := hch ▸ List.getElem_mem _
      obtain ⟨hp, hq⟩ := hok ch hmem
      have hx := lst_get hp
      have hr1 := hkr.cell hc1 (by show ¬ (b = g); omega)
      have hu' := KSl_R hu
      obtain ⟨A0, c0, rfl, _, _⟩ := hu'.slice
      have hset := mix_set sf1 cs k hkn
      rw [← hch] at hset
      have hg0 : (0 : Int) ≤ (k : Int) := by omega
      have hg1 : (k : Int) < (n : Int) := by omega
      have HC := Lib.hid (last_any (K := KStr) (S := fun j => (S j ∨ j = b) ∨ j = g) _ ch (lst ch) wr.drew (hu'.no (Kp.dr _)) hx)
      have HO := Lib.hid ho
      have HM := Lib.hid hml
      have HS := Lib.hid hset
      have HR := Lib.hid hkr
      have hgr : g < wr.heap.size := by omega
      have hbr : b < wr.heap.size := by omega
      have hne := World.new_ne wr _ hr1
      have hne2 := World.new_ne wr _ hcu
      clear ho hml hset hu hu' hx hmem hp hq hkr hch
      go_wp2_with fail
      go_region_held3 (fun w' => w'.cell? ⟨b, 1, none⟩ = some (.slice (some ⟨g, 0, none⟩) n c)) (go_keep)
        (first | (go_at_call 25; refine HC.out.mono ?_; rintro e w1 ⟨⟨u2, rfl, hu2⟩, rfl⟩; obtain ⟨A2, c2, rfl, _, _⟩ := hu2.slice))
      have hO1 : OwR KCh 55 0 (fun k => S k ∨ k = b) (wr.alloc (.cells #[.slice A2 (lst ch).length c2] 53)) (.slice (some ⟨g, 0, none⟩) n c) ((cs.take k).map sf1 ++ cs.drop k) := HO.out.no ((Kp.refl _ _).alloc _)
      have hl1 : SlR (KSl KStr) (fun j => (S j ∨ j = b) ∨ j = g) (wr.alloc (.cells #[.slice A2 (lst ch).length c2] 53)) (.slice (some ⟨wr.heap.size, 0, none⟩) 1 1) [lst ch] :=
        SlR.lit1 ⟨_, rfl, hu2⟩ (by rintro ((x | x) | x); (have := hS _ x; omega); omega; omega)
      have hO2 := hO1.set1 (i := k) rfl (by rw [HM.out]; exact hkn) (y := sf1 ch) (u := .slice (some ⟨wr.heap.size, 0, none⟩) 1 1) ⟨_, rfl, hl1⟩
      have hK2 := ((HR.out.alloc (.cells #[.slice A2 (lst ch).length c2] 53)).setCell (p := ⟨g, k, none⟩) (.inl rfl) (.slice (some ⟨wr.heap.size, 0, none⟩) 1 1))
      rw [HS.out, World.setCell_alloc_past (hn := hgr)] at hO2
      rw [World.setCell_alloc_past (hn := hgr)] at hK2
      have HO2 := Lib.hid hO2
      have HK2 := Lib.hid hK2
      clear hO1 hl1 hO2 hK2
      go_wp2
      go_roundw
      case rel => exact ⟨k + 1, by omega, by go_num, HO2.out.no (Kp.dr _), HK2.out.drew⟩
      case measure => simp [intOf]; omega
    · obtain rfl : k = n := by omega
      have HO := Lib.hid ho
      have HR := Lib.hid hkr
      clear ho hkr
      go_wp2
      go_returns
      have hO := HO.out
      rw [HN.out, List.take_length, List.drop_length, List.append_nil] at hO
      have hf := HR.out
      refine ⟨rfl, ⟨c, ?_, ?_, hgb, hSb, hSg⟩, hf⟩
      · rw [List.length_map]; exact hf.heap HB.out (by show ¬ (b = g); omega)
      · rw [List.length_map]; exact hO
end Go.Proofs.Ytagekjijngbmdaa
