/- dev: a device in memory; may, Read, Write, Tamper, Flush. -/
import Derived.Test.YtocpppegmepolaaMem4
import Derived.Test.YtocpppegmepolaaMem3
import Derived.Test.YtocpppegmepolaaRows
import Derived.WalkLawsBesides
import Derived.Lib.Hide
import Derived.Handy
import Derived.BigQuiet
import Derived.Deep.QuietTactic
import Derived.Deep.DrawnRows
import Derived.Deep.RegionHeld3
set_option linter.unusedVariables false
set_option linter.unusedSimpArgs false
namespace Go.Proofs.Ytocpppegmepolaa
open Go.RowKit
attribute [local go_sem ↓] Go.wp_at_zero Go.wp_at_succ

structure Blk where
  now : ByteArray
  safe : ByteArray
  is : Bool
def Blk.cells (x : Blk) : List Value := [.string x.now, .string x.safe, .bool x.is]
def KBlk : Kind Blk where
  sz := 3
  R := fun _ _ cs x => cs = x.cells
  len := by rintro _ _ _ x rfl; rfl
  one := by rintro _ _ _ x rfl u hu; simp [Blk.cells] at hu; rcases hu with rfl | rfl | rfl <;> rfl
  move := fun _ h => h

theorem KBlk_flat : KBlk.flat := fun _ _ _ _ _ _ h => h
/-- A device: its struct lies in block b, its row of blocks in block g; nothing of it is in S. -/
def DevR (S : Nat → Prop) (w : World) (b g : Nat) (bs : List Blk) : Prop :=
  ∃ c, w.heap[b]? = some (.cells #[.slice (some ⟨g, 0, none⟩) bs.length c] 242 (0, 0)) ∧ OwR KBlk 244 0 S w (.slice (some ⟨g, 0, none⟩) bs.length c) bs ∧ g ≠ b ∧ ¬ S b ∧ ¬ S g
theorem DevR.move {S S' : Nat → Prop} {w w' : World} {b g : Nat} {bs : List Blk} (h : DevR S w b g bs) (hm : ∀ k, k < w.heap.size → ¬ S k → ¬ S' k ∧ w'.heap[k]? = w.heap[k]?) : DevR S' w' b g bs := by
  obtain ⟨c, h1, h2, h3, h4, h5⟩ := h
  have hb := hm b (blt h1) h4
  have hg := hm g (h2.lt (k := g) rfl).2 h5
  exact ⟨c, hb.2.trans h1, h2.move (fun k e => by obtain rfl : g = k := (by simpa [Value.ownBlock] using e); exact hg.2) (fun k hk hn _ => hm k hk hn), h3, hb.1, hg.1⟩
theorem DevR.no {S : Nat → Prop} {w w' : World} {b g : Nat} {bs : List Blk} (h : DevR S w b g bs) (hk : Kp No w w') : DevR S w' b g bs := h.move fun k hk' hn => ⟨hn, hk.block k hk' id⟩
theorem DevR.lt {S : Nat → Prop} {w : World} {b g : Nat} {bs : List Blk} (h : DevR S w b g bs) : b < w.heap.size ∧ g < w.heap.size := by
  obtain ⟨c, h1, h2, _⟩ := h
  exact ⟨blt h1, (h2.lt (k := g) rfl).2⟩

theorem ret_int {k : IntKind} {a b : Int} (h : a = b) : Ending.returned (.int k a) = .returned (.int k b) := by rw [h]
theorem ret_bool {a b : Bool} (h : a = b) : Ending.returned (.bool a) = .returned (.bool b) := by rw [h]
theorem ret_str {a b : ByteArray} (h : a = b) : Ending.returned (.string a) = .returned (.string b) := by rw [h]
theorem ret_eq {a b : Value} (h : a = b) : Ending.returned a = .returned b := by rw [h]
def i64 (n : Int) : Prop := -9223372036854775808 ≤ n ∧ n ≤ 9223372036854775807

/-- Whether a block may be written: the error. -/
def dmay (n : Nat) (i : Int) (len : Nat) : Int := if i < 0 ∨ i ≥ n then 3 else if len ≠ 64 then 6 else 0
set_option maxHeartbeats 400000 in
theorem dmay_any (i : Int) (s : ByteArray) (b n c : Nat) (A : Option Addr) (w : World) (hs : s.size ≤ 1000000) (hn : n ≤ 1000000) (hc : w.cell? ⟨b, 0, none⟩ = some (.slice A n c)) :
    Calls Try.prog 188 #[.pointer (some ⟨b, 0, none⟩), .int .i64 i, .string s] w fun e w' => e = .returned (.int .i64 (dmay n i s.size)) ∧ w = w' := by
  by_cases c1 : i < 0
  · go_enter Try.func188, Try.ntmps188
    go_wp2
    go_ret
    exact ⟨ret_int (by unfold dmay; rw [if_pos (by omega)]), rfl⟩
  · by_cases c2 : (n : Int) ≤ i
    · go_enter Try.func188, Try.ntmps188
      go_wp2
      go_ret
      exact ⟨ret_int (by unfold dmay; rw [if_pos (by omega)]), rfl⟩
    · by_cases c3 : (s.size : Int) = 64
      · go_enter Try.func188, Try.ntmps188
        go_wp2
        go_ret
        exact ⟨ret_int (by unfold dmay; rw [if_neg (by omega), if_neg (by omega)]), rfl⟩
      · go_enter Try.func188, Try.ntmps188
        go_wp2
        go_ret
        exact ⟨ret_int (by unfold dmay; rw [if_neg (by omega), if_pos (by omega)]), rfl⟩
end Go.Proofs.Ytocpppegmepolaa
