/- Layer 12's Act that came in, by the claim's reading (the small chain, without the references). -/
import Derived.Test.YtocpppegmepolaaRs
import Derived.Test.YtocpppegmepolaaOpen
import Derived.Test.YtocpppegmepolaaRows
import Derived.ProofKit
import Derived.OpenShut
import Derived.ChangeOld
import Derived.Below
import Derived.Carry
import Derived.Lib.SmallJoins
set_option linter.unusedVariables false
set_option linter.unusedSimpArgs false
namespace Go.Proofs.Ytocpppegmepolaa
open Go.ChangeShapes Go.WideShapes Go.ChangeAt Go.RowKit Go.Joins Go.Deep

theorem own : ownKnob Try.prog.godebug = none := by kernel_rfl
theorem laidOut : laidOutB Try.prog = true := by kernel_rfl

theorem LLoss.ok.move {x : LLoss} {S S' : Nat → Prop} {w w' : World} (hm : ∀ k, k < w.heap.size → ¬ S k → ¬ S' k ∧ w'.heap[k]? = w.heap[k]?) (h : x.ok S w) : x.ok S' w' := ⟨h.1.move hm, h.2⟩
theorem LAct.ok.move {a : LAct} {S S' : Nat → Prop} {w w' : World} (hm : ∀ k, k < w.heap.size → ¬ S k → ¬ S' k ∧ w'.heap[k]? = w.heap[k]?) (h : a.ok S w) : a.ok S' w' := ⟨h.1, h.2.1, h.2.2.1.move hm, h.2.2.2.move hm⟩
def KAct : Kind LAct where
  sz := 12
  R := fun S w cs x => cs = x.cells ∧ x.ok S w
  len := by rintro _ _ _ x ⟨rfl, _⟩; rfl
  one := by
    rintro S w _ x ⟨rfl, h⟩ u hu
    simp [LAct.cells] at hu
    rcases hu with rfl | rfl | rfl | rfl | rfl | rfl | rfl | rfl | rfl | rfl | rfl | rfl <;> first | rfl | exact h.2.2.1.1.one | exact h.2.2.2.1.one
  move := fun hm h => ⟨h.1, h.2.move hm⟩
section
variable {H : Type} {enc : TypeId × Value → H} {w : World} {base : Nat} {spare : Nat → Bool} {held : Bool}
theorem bool_of {n : Nat} {t : TypeId} {cs : List Value} {y : DataW H × List MemPlace} (ht : Try.prog.underlying t = some .bool) (h : DataW.trod enc Try.prog w base spare held n t cs = some y) : ∃ a, KBool.R No w cs a := by
  obtain ⟨b, rfl, _⟩ := DataW.trod_bool ht h
  exact ⟨b, rfl⟩
set_option maxRecDepth 100000 in
theorem loss_of {n : Nat} {cs : List Value} {y : DataW H × List MemPlace} (h : DataW.trod enc Try.prog w base spare held n 32 cs = some y) (hl : cs.length = 3) :
    ∃ x : LLoss, cs = [x.kv, .int .i64 x.torn, .int .i64 x.by_] ∧ x.ok No w := by
  obtain ⟨ys, n', _, _, _, hyl, hf⟩ := DataW.trod_struct Try.underlying32 h
  match cs, hl, ys, hyl with
  | [c0, c1, c2], _, [y0, y1, y2], _ =>
    have k3 : Try.prog.cellsOf 3 = 1 := by kernel_rfl
    have k30 : Try.prog.cellsOf 30 = 1 := by kernel_rfl
    have h0 := hf 0 _ rfl
    have h1 := hf 1 _ rfl
    have h2 := hf 2 _ rfl
    simp [k3, k30] at h0 h1 h2
    obtain ⟨keep, hkeep⟩ := SlR.of_trod (K := KBool) Try.underlying30 (by kernel_rfl) (by decide) h0 (fun n cs y h hl => bool_of Try.underlying4 h)
    obtain ⟨torn, e1, _, w1⟩ := DataW.trod_int Try.underlying3 h1
    obtain ⟨by_, e2, _, w2⟩ := DataW.trod_int Try.underlying3 h2
    simp at e1 e2
    subst e1 e2
    exact ⟨⟨c0, keep, torn, by_⟩, rfl, hkeep, i64_of w1, i64_of w2⟩
set_option maxRecDepth 100000 in
theorem act_of {n : Nat} {cs : List Value} {y : DataW H × List MemPlace} (h : DataW.trod enc Try.prog w base spare held n 34 cs = some y) (hl : cs.length = 12) : ∃ x : LAct, KAct.R No w cs x := by
  obtain ⟨ys, n', _, _, _, hyl, hf⟩ := DataW.trod_struct Try.underlying34 h
  match cs, hl, ys, hyl with
  | [c0, c1, c2, c3, c4, c5, c6, c7, c8, c9, c10, c11], _, [y0, y1, y2, y3, y4, y5, y6, y7], _ =>
    have k3 : Try.prog.cellsOf 3 = 1 := by kernel_rfl
    have k9 : Try.prog.cellsOf 9 = 1 := by kernel_rfl
    have k4 : Try.prog.cellsOf 4 = 1 := by kernel_rfl
    have k32 : Try.prog.cellsOf 32 = 3 := by kernel_rfl
    have h0 := hf 0 _ rfl
    have h1 := hf 1 _ rfl
    have h2 := hf 2 _ rfl
    have h3 := hf 3 _ rfl
    have h4 := hf 4 _ rfl
    have h5 := hf 5 _ rfl
    have h6 := hf 6 _ rfl
    have h7 := hf 7 _ rfl
    simp [k3, k4, k9, k32] at h0 h1 h2 h3 h4 h5 h6 h7
    obtain ⟨kd, e0, _, w0⟩ := DataW.trod_int Try.underlying3 h0
    obtain ⟨d, e1, _, w1⟩ := DataW.trod_int Try.underlying3 h1
    obtain ⟨i, e2, _, w2⟩ := DataW.trod_int Try.underlying3 h2
    obtain ⟨m, e3, _, w3⟩ := DataW.trod_int Try.underlying3 h3
    obtain ⟨s, e4, _, w4⟩ := DataW.trod_string Try.underlying9 h4
    obtain ⟨raw, e5, _⟩ := DataW.trod_bool Try.underlying4 h5
    obtain ⟨x, e6, w6⟩ := loss_of h6 rfl
    obtain ⟨y, e7, w7⟩ := loss_of h7 rfl
    simp at e0 e1 e2 e3 e4 e5 e6 e7
    obtain ⟨f6, g6, i6⟩ := e6
    obtain ⟨f7, g7, i7⟩ := e7
    subst e0 e1 e2 e3 e4 e5 f6 g6 i6 f7 g7 i7
    exact ⟨⟨kd, d, i, m, s, raw, x, y⟩, rfl, ⟨i64_of w0, i64_of w1, i64_of w2, i64_of w3⟩, by simpa [maxLen] using w4, w6, w7⟩
end
end Go.Proofs.Ytocpppegmepolaa
