/- An Act that came in, by the claim's reading. -/
import Derived.Test.YtagekjijngbmdaaActs
import Derived.Test.YtagekjijngbmdaaOpen
import Derived.Test.YtagekjijngbmdaaRows
import Derived.ProofKit
import Derived.OpenShut
import Derived.ChangeOld
import Derived.Below
import Derived.Carry
import Derived.Lib.SmallJoins
set_option linter.unusedVariables false
set_option linter.unusedSimpArgs false
namespace Go.Proofs.Ytagekjijngbmdaa
open Go.ChangeShapes Go.WideShapes Go.ChangeAt Go.RowKit Go.Joins Go.Deep

theorem own : ownKnob Try.prog.godebug = none := by kernel_rfl
theorem laidOut : laidOutB Try.prog = true := by kernel_rfl

theorem act_of {H : Type} {enc : TypeId × Value → H} {w : World} {base : Nat} {spare : Nat → Bool} {held : Bool} {n : Nat} {cs : List Value} {y : DataW H × List MemPlace}
    (h : DataW.trod enc Try.prog w base spare held n 34 cs = some y) (hl : cs.length = 5) : ∃ x : LAct, KAct.R No w cs x := by
  obtain ⟨ys, n', _, _, _, hyl, hf⟩ := DataW.trod_struct Try.underlying34 h
  match cs, hl, ys, hyl with
  | [c0, c1, c2, c3, c4], _, [y0, y1, y2, y3, y4], _ =>
    have k3 : Try.prog.cellsOf 3 = 1 := by kernel_rfl
    have k5 : Try.prog.cellsOf 5 = 1 := by kernel_rfl
    have k4 : Try.prog.cellsOf 4 = 1 := by kernel_rfl
    have h0 := hf 0 _ rfl
    have h1 := hf 1 _ rfl
    have h2 := hf 2 _ rfl
    have h3 := hf 3 _ rfl
    have h4 := hf 4 _ rfl
    simp [k3, k4, k5] at h0 h1 h2 h3 h4
    obtain ⟨kd, e0, _, w0⟩ := DataW.trod_int Try.underlying3 h0
    obtain ⟨at_, e1, _, w1⟩ := DataW.trod_int Try.underlying3 h1
    obtain ⟨xn, e2, _, w2⟩ := DataW.trod_int Try.underlying3 h2
    obtain ⟨xc, e3, _, w3⟩ := DataW.trod_int Try.underlying5 h3
    obtain ⟨xo, e4, _⟩ := DataW.trod_bool Try.underlying4 h4
    simp at e0 e1 e2 e3 e4
    subst e0 e1 e2 e3 e4
    exact ⟨⟨kd, at_, xn, xc, xo⟩, rfl, i64_of w0, i64_of w1, i64_of w2, u8r_of w3⟩

end Go.Proofs.Ytagekjijngbmdaa
