/- make, texts of bytes 0. -/
import Derived.Test.YtocpppegmepolaaMem2
import Derived.Laws.BytesArg
import Derived.Deep.OwnRows
namespace Go.Proofs.Ytocpppegmepolaa
open Go.RowKit

def zeros (m : Nat) : ByteArray := ⟨Array.replicate m 0⟩
theorem zeros_size (m : Nat) : (zeros m).size = m := by simp [zeros, ByteArray.size]
theorem strOf_zeros (m : Nat) : strOfNums (List.replicate m 0) = zeros m := by
  simp [strOfNums, zeros]

section
variable {P : Program}
theorem mk_zeros (t e : TypeId) (ht : P.underlying t = some (.slice e)) (hinfo : (P.info? e).map (fun i => (i.zero, i.size, i.bytes)) = some (some (.int .u8 0), 1, 1)) (m : Nat) (hn : m ≤ 281474976710656) :
    ∀ W : World, (Instr.makeSlice t (.int .i64 (m : Int)) (.int .i64 (m : Int))).run P W = .ok (.slice (some ⟨W.heap.size, 0, none⟩) m m) (W.alloc (.cells (madeCells #[.int .u8 0] m) e)) := by
  intro W
  exact run_make_row' t e (.int .u8 0) 1 ht hinfo rfl .i64 .i64 m (by omega) (by omega) W
theorem cv_zeros (src dst e : TypeId) (hs : P.underlying src = some (.slice e)) (he : P.underlying e = some (.int .u8)) (hd : P.underlying dst = some .string) (m : Nat) :
    ∀ W : World, (convert src dst (.slice (some ⟨W.heap.size, 0, none⟩) m m)).run P (W.alloc (.cells (madeCells #[.int .u8 0] m) e)) = .ok (.string (zeros m)) (W.alloc (.cells (madeCells #[.int .u8 0] m) e)) := by
  intro W
  rw [← strOf_zeros]
  refine run_convert_bytes_arg _ src e hs he W.heap.size 0 m m (List.replicate m 0) (by simp) (fun i hi => ?_) dst hd
  rw [cellOf (heap_alloc_new W _)]
  have h := toList_madeCells_one (.int .u8 0) m
  have : (madeCells #[.int .u8 0] m).toList[0 + i]? = some (.int .u8 0) := by rw [h]; simp [hi]
  simpa [List.getD_eq_getElem?_getD, hi] using this
theorem mk_row (t e : TypeId) (z : Value) (bytes : Nat) (ht : P.underlying t = some (.slice e)) (hinfo : (P.info? e).map (fun i => (i.zero, i.size, i.bytes)) = some (some z, 1, bytes)) (hz : z.cells = #[z]) (hb0 : 0 < bytes) (m : Nat) (hn : bytes * m ≤ 281474976710656) :
    ∀ W : World, (Instr.makeSlice t (.int .i64 (m : Int)) (.int .i64 (m : Int))).run P W = .ok (.slice (some ⟨W.heap.size, 0, none⟩) m m) (W.alloc (.cells (madeCells #[z] m) e)) := by
  intro W
  have : m ≤ 281474976710656 := Nat.le_trans (Nat.le_mul_of_pos_left _ hb0) hn
  exact run_make_row' t e z bytes ht hinfo hz .i64 .i64 m hn (by omega) W
end
theorem OwR.made {α : Type} {K : Kind α} {S : Nat → Prop} (e base : Nat) (W : World) (z : Value) (z0 : α) (m : Nat) (hz : K.sz = 1) (hb : base ≤ W.heap.size) (hm : m ≤ 9223372036854775807) (h : ∀ S w, K.R S w [z] z0) :
    OwR K e base S (W.alloc (.cells (madeCells #[z] m) e)) (.slice (some ⟨W.heap.size, 0, none⟩) m m) (List.replicate m z0) := by
  refine ⟨List.replicate m z, ⟨by simp [hz], .inr ⟨W.heap.size, m, madeCells #[z] m, by simp, hb, heap_alloc_new W _, by simp, by simpa [maxLen] using hm, by rw [size_madeCells, hz, Nat.mul_one], ?_⟩⟩, fun i hi => ?_⟩
  · rw [toList_madeCells_one, hz]; simp
  · have hi' : i < m := by simpa using hi
    rw [cut_row _ _ hz]
    simp only [List.getElem_replicate]
    have : (List.replicate m z)[i]?.toList = [z] := by simp [hi']
    rw [this]
    exact h _ _
end Go.Proofs.Ytocpppegmepolaa
