/- The dump's head, word by word: what the claims' closed facts ask of it, at little cost. -/
import Derived.Test.YtocpppegmepolaaRows
import Derived.ProofKit
import Derived.JoinedOf
set_option linter.unusedVariables false
namespace Go.Proofs.Ytocpppegmepolaa
open Go
def headA : String := "harness 3798fd1d7d404a9c6bcd5597e3502b1dbca7d74c33c476bda51ccd7dd0170fd1 cut "
def headB : String := "at cellaret/cellaretlaw12.RigWhole cellaret/cellaretlaw13.RecordBack cellaret/cellaretlaw12.RigNone cellaret/cellaretlaw16.OverDoes cellaret/cellaretlaw16.OverApart cellaret/cellaretlaw16.OverBoth cellaret/cellaretlaw16.OverNone cellaret/cellaretlaw32.PlanParts cellaret/cellaretlaw32.PlanOf cellaret/cellaretlaw32.PlanApplies cellaret/cellaretlaw32.PlanAlike cellaret/cellaretlaw15.JrnlAppends cellaret/cellaretlaw15.JrnlNone cellaret/cellaretlaw15.JrnlFaults cellaret/cellaretlaw15.JrnlLoads cellaret/cellaretlaw15.JrnlChanged cellaret/cellaretlaw18.TreeNone cellaret/cellaretlaw18.TreeTold cellaret/cellaretlaw18.TreeDoes cellaret/cellaretlaw18.TreeTampers"
theorem head_text : Try.prog.initOrder = headA ++ headB := by kernel_rfl
theorem head_words (bs : List Char) : behindMainWord (wordsSigns (headA.toList ++ bs)) = "cut".toList :: wordsSigns bs := by kernel_rfl
theorem head_cut : ∃ ws, behindMainWord (wordsSigns Try.prog.initOrder.toList) = "cut".toList :: ws := by
  rw [head_text, String.toList_append]
  exact ⟨_, head_words _⟩
theorem strip_cut (ws : List (List Char)) : stripLifts liftWords ("cut".toList :: ws) = ([], "cut".toList :: ws) := by kernel_rfl
theorem enter_of {P : Program} {ws : List (List Char)} (h : behindMainWord (wordsSigns P.initOrder.toList) = "cut".toList :: ws) (hd : P.laysLater = false) (hb : P.bearsReflect = false) (hf : P.doorFits [] = true) : P.mayEnter = true := by
  unfold Program.mayEnter
  rw [h]
  simp only [strip_cut, hd, hb, hf]
  simp
theorem final_of {P : Program} {ws : List (List Char)} (h : behindMainWord (wordsSigns P.initOrder.toList) = "cut".toList :: ws) : P.liftsFinal = false := by
  unfold Program.liftsFinal Program.headLifts
  simp only [h, strip_cut]
  simp
theorem make_of {P : Program} {ws : List (List Char)} (h : behindMainWord (wordsSigns P.initOrder.toList) = "cut".toList :: ws) : P.make = some .cut := by
  unfold Program.make
  rw [h]
  simp
theorem final_eq {P : Program} {b : Bool} (hb : b = false) (h : P.liftsFinal = false) : (b == P.liftsFinal) = true := by rw [h, hb]; rfl
theorem make_eq {P : Program} {m : Make} (hm : m = .cut) (h : P.make = some .cut) : (P.make == some m) = true := by rw [h, hm]; rfl
theorem head_enter : Try.prog.mayEnter = true := by
  obtain ⟨ws, h⟩ := head_cut
  exact enter_of h (by kernel_rfl) (by kernel_rfl) (by kernel_rfl)
theorem head_final : Try.prog.liftsFinal = false := by
  obtain ⟨ws, h⟩ := head_cut
  exact final_of h
theorem head_make : Try.prog.make = some .cut := by
  obtain ⟨ws, h⟩ := head_cut
  exact make_of h
end Go.Proofs.Ytocpppegmepolaa
