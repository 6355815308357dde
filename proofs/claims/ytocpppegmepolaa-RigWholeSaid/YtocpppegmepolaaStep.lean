/- A call of a Go function as one step of a region that draws its order (for go_region_law). -/
import Derived.Test.YtocpppegmepolaaMem2
import Derived.Shelf.Abstract
import Derived.Deep.RegionLaw
set_option linter.unusedVariables false
namespace Go.Proofs.Ytocpppegmepolaa
open Go.RowKit

theorem wp_fn {P : Program} {o : Oper} {a : Act} {w : World} {K : Act → World → Prop} {Q : Exit → Act → World → Prop} {f : FuncId} (ags : Array Operand) (ats : Array TypeId)
    (hop : o.op = .call { callee := .value (.func f), args := ags, argTypes := ats }) (eg : ∀ args w, (callFunc f args).run P w = .ok (.enter f args) w) (args : Array Value) (hargs : ags.toList.map a.eval = args.toList)
    {Post : Ending → World → Prop} (h : Calls P f args w Post) (hK : ∀ e w', Post e w' → ∃ v, e = .returned v ∧ K (a.put o.dst v) w') : Oper.wp P o a w K Q := by
  have hargs' : ags.map a.eval = args := by apply Array.toList_inj.1; rw [Array.toList_map]; exact hargs
  unfold Oper.wp
  have h1 : (execOp a.eval o).run P w = .ok (.enter f args) w := by
    unfold execOp
    simp only [hop, resolve, Sem.run_bind]
    have h2 : a.eval (.func f) = .func (.func f) #[] #[] := rfl
    rw [hargs', h2]
    simp [Deferred.ofValue, invoke, eg]
  rw [h1, Oper.upon_enter]
  refine h.mono fun e w' hp => ?_
  obtain ⟨v, rfl, hk⟩ := hK e w' hp
  exact hk
theorem step_fn {P : Program} {ops : Array Oper} {o : Oper} {a : Act} {w : World} {K : Act → World → Prop} {Q : Exit → Act → World → Prop} {E : Prop} {f : FuncId} (hgd : o.guard = none) (ags : Array Operand) (ats : Array TypeId)
    (hop : o.op = .call { callee := .value (.func f), args := ags, argTypes := ats }) (eg : ∀ args w, (callFunc f args).run P w = .ok (.enter f args) w) (args : Array Value) (hargs : ags.toList.map a.eval = args.toList)
    {Post : Ending → World → Prop} (h : Calls P f args w Post) (hK : ∀ e w', Post e w' → ∃ v, e = .returned v ∧ K (a.put o.dst v) w') :
    if Region.wanted o (yielded ops a.tmps) = true then Oper.wp P o a w K Q else E := by
  have hw : Region.wanted o (yielded ops a.tmps) = true := by simp [Region.wanted, hgd]
  rw [if_pos hw]
  exact wp_fn ags ats hop eg args hargs h hK
end Go.Proofs.Ytocpppegmepolaa
