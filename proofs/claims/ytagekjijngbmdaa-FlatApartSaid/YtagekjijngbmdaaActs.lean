/- An Act of the statements, in memory. -/
import Derived.Test.YtagekjijngbmdaaMem3
import Derived.Test.YtagekjijngbmdaaFa
set_option linter.unusedVariables false
set_option linter.unusedSimpArgs false
namespace Go.Proofs.Ytagekjijngbmdaa
open Go.RowKit

structure LAct where
  kd : Int
  at_ : Int
  n : Int
  c : Int
  odd : Bool
def LAct.cells (x : LAct) : List Value := [.int .i64 x.kd, .int .i64 x.at_, .int .i64 x.n, .int .u8 x.c, .bool x.odd]
def LAct.wf (x : LAct) : Prop := i64 x.kd ∧ i64 x.at_ ∧ i64 x.n ∧ 0 ≤ x.c ∧ x.c ≤ 255
def KAct : Kind LAct where
  sz := 5
  R := fun _ _ cs x => cs = x.cells ∧ x.wf
  len := by rintro _ _ _ x ⟨rfl, _⟩; rfl
  one := by rintro _ _ _ x ⟨rfl, _⟩ u hu; simp [LAct.cells] at hu; rcases hu with rfl | rfl | rfl | rfl | rfl <;> rfl
  move := fun _ h => h

theorem actsOpen {S : Nat → Prop} {w : World} {v : Value} {xs : List LAct} (h : SlR KAct S w v xs) :
    ∃ A c, v = .slice A xs.length c ∧ c ≤ 9223372036854775807 ∧ xs.length ≤ c ∧ (0 < xs.length → ∃ b o, A = some ⟨b, o, none⟩ ∧ ∀ i (hi : i < xs.length), (xs[i]).wf ∧ ∀ j u, (xs[i]).cells[j]? = some u → w.cell? ⟨b, o + i * 5 + j, none⟩ = some u) := by
  obtain ⟨A, c, hv, hl, hc, h⟩ := h
  refine ⟨A, c, hv, hc, hl, fun h0 => ?_⟩
  obtain ⟨b, o, C, T, fr, rfl, hb, hh, hr⟩ := h h0
  refine ⟨b, o, rfl, fun i hi => ?_⟩
  obtain ⟨h1, h2⟩ := hr i hi
  refine ⟨h2, fun j u hj => ?_⟩
  rw [cellOf hh]
  have := cut_at (n := 5) h1 hj
  simpa [KAct] using this

end Go.Proofs.Ytagekjijngbmdaa
