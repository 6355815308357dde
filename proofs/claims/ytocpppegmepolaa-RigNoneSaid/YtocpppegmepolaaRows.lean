/-
  No cell of these rows narrows 'for every input' (looked for: loops, veiled, ifaces, maps, wideKeys, modest, calm, conditions, laid).
  DERIVED. THE GIVEN ROWS OF THIS SEAT. 20 by the template 'for every input the law returns true; each argument reads behind the call as it read before'; 0 by the template 'total and deterministic' (their statements: YtocpppegmepolaaTotals.lean).
  GIVEN WITH THE SEED: the statements are not yours to turn. If you find one false, say at which input.
  Laid BY PROGRAM, IN A SANDBOX (cutbox-rows.mjs): the forced cells as the released guide's own fill.sh prints them over the translation de89d78cb68e4c1f… (all of the seat's roots in one cut). By AI agents, Wed Nov 11 2026. No macro, syntax, notation, axiom, sorry.
-/
import Derived.Test.YtocpppegmepolaaChecked
import GoSem.Claim
import GoSem.ClaimJoined
import GoSem.ClaimMapViews
import Derived.JoinedTies
import Derived.KernelRfl
namespace Go.Proofs.Ytocpppegmepolaa
/- THE CELL 'sum', in the pinned program and in every row, IS THE sha256 OF THE DUMP (.gsa) THAT YtocpppegmepolaaProg.lean LOADS. Nothing in Lean hashes anything: it is a label: what it is worth is what the hold of that sum in a sandbox is worth. -/
noncomputable def Try.pinned : Pinned := { name := "ytocpppegmepolaa", sum := "de89d78cb68e4c1f2b4d038aea697b226e103c524d0146d5d145257bbb9bde0c", checked := Try.checked }
namespace Rows
def none {H : Type} : Left H := { results := [], args := [] }

/-- 'cellaretlaw12.RigWhole': WHATEVER THE INPUT: true; the input reads as it did. -/
def rigWholeSpec : ChangeSpec := { name := "rigWhole", fn := fun _ => fun
  | [d] => { results := [.lit (.bool true)], args := [d] }
  | _ => none }
def rigWholeRow : OpenClaim := { program := "ytocpppegmepolaa", sum := "de89d78cb68e4c1f2b4d038aea697b226e103c524d0146d5d145257bbb9bde0c", func := "cellaret/cellaretlaw12.RigWhole", spec := "rigWhole", unfollowed := true, recurses := true, plainKeys := false, apart := false }
def RigWholeSaid : Prop := rigWholeRow.holds Try.pinned (OpenSpec.ofChange rigWholeSpec)

/-- ITS FALSE NEIGHBOUR: 'it returns false'. Refute it at one input. -/
def rigWholeWrong : ChangeSpec := { name := "rigWhole", fn := fun _ => fun
  | [d] => { results := [.lit (.bool false)], args := [d] }
  | _ => none }
def RigWholeWrongFalsely : Prop := rigWholeRow.holds Try.pinned (OpenSpec.ofChange rigWholeWrong)

/-- 'cellaretlaw13.RecordBack': WHATEVER THE INPUT: true; the input reads as it did. -/
def recordBackSpec : ChangeSpec := { name := "recordBack", fn := fun _ => fun
  | [d1, d2, d3] => { results := [.lit (.bool true)], args := [d1, d2, d3] }
  | _ => none }
def recordBackRow : OpenClaim := { program := "ytocpppegmepolaa", sum := "de89d78cb68e4c1f2b4d038aea697b226e103c524d0146d5d145257bbb9bde0c", func := "cellaret/cellaretlaw13.RecordBack", spec := "recordBack", inPlace := ["internal/abi.NoEscape", "internal/bytealg.MakeNoZero"], unfollowed := true, recurses := true, plainKeys := false, apart := false }
def RecordBackSaid : Prop := recordBackRow.holds Try.pinned (OpenSpec.ofChange recordBackSpec)

/-- ITS FALSE NEIGHBOUR: 'it returns false'. Refute it at one input. -/
def recordBackWrong : ChangeSpec := { name := "recordBack", fn := fun _ => fun
  | [d1, d2, d3] => { results := [.lit (.bool false)], args := [d1, d2, d3] }
  | _ => none }
def RecordBackWrongFalsely : Prop := recordBackRow.holds Try.pinned (OpenSpec.ofChange recordBackWrong)

/-- 'cellaretlaw12.RigNone': WHATEVER THE INPUT: true; the input reads as it did. -/
def rigNoneSpec : ChangeSpec := { name := "rigNone", fn := fun _ => fun
  | [d] => { results := [.lit (.bool true)], args := [d] }
  | _ => none }
def rigNoneRow : OpenClaim := { program := "ytocpppegmepolaa", sum := "de89d78cb68e4c1f2b4d038aea697b226e103c524d0146d5d145257bbb9bde0c", func := "cellaret/cellaretlaw12.RigNone", spec := "rigNone", unfollowed := true, recurses := true, plainKeys := false, apart := false }
def RigNoneSaid : Prop := rigNoneRow.holds Try.pinned (OpenSpec.ofChange rigNoneSpec)

/-- ITS FALSE NEIGHBOUR: 'it returns false'. Refute it at one input. -/
def rigNoneWrong : ChangeSpec := { name := "rigNone", fn := fun _ => fun
  | [d] => { results := [.lit (.bool false)], args := [d] }
  | _ => none }
def RigNoneWrongFalsely : Prop := rigNoneRow.holds Try.pinned (OpenSpec.ofChange rigNoneWrong)

/-- 'cellaretlaw16.OverDoes': WHATEVER THE INPUT: true; the input reads as it did. -/
def overDoesSpec : ChangeSpec := { name := "overDoes", fn := fun _ => fun
  | [d] => { results := [.lit (.bool true)], args := [d] }
  | _ => none }
def overDoesRow : OpenClaim := { program := "ytocpppegmepolaa", sum := "de89d78cb68e4c1f2b4d038aea697b226e103c524d0146d5d145257bbb9bde0c", func := "cellaret/cellaretlaw16.OverDoes", spec := "overDoes", unfollowed := true, recurses := true, plainKeys := false, apart := false }
def OverDoesSaid : Prop := overDoesRow.holds Try.pinned (OpenSpec.ofChange overDoesSpec)

/-- ITS FALSE NEIGHBOUR: 'it returns false'. Refute it at one input. -/
def overDoesWrong : ChangeSpec := { name := "overDoes", fn := fun _ => fun
  | [d] => { results := [.lit (.bool false)], args := [d] }
  | _ => none }
def OverDoesWrongFalsely : Prop := overDoesRow.holds Try.pinned (OpenSpec.ofChange overDoesWrong)

/-- 'cellaretlaw16.OverApart': WHATEVER THE INPUT: true; the input reads as it did. -/
def overApartSpec : ChangeSpec := { name := "overApart", fn := fun _ => fun
  | [d1, d2] => { results := [.lit (.bool true)], args := [d1, d2] }
  | _ => none }
def overApartRow : OpenClaim := { program := "ytocpppegmepolaa", sum := "de89d78cb68e4c1f2b4d038aea697b226e103c524d0146d5d145257bbb9bde0c", func := "cellaret/cellaretlaw16.OverApart", spec := "overApart", unfollowed := true, recurses := true, plainKeys := false, apart := false }
def OverApartSaid : Prop := overApartRow.holds Try.pinned (OpenSpec.ofChange overApartSpec)

/-- ITS FALSE NEIGHBOUR: 'it returns false'. Refute it at one input. -/
def overApartWrong : ChangeSpec := { name := "overApart", fn := fun _ => fun
  | [d1, d2] => { results := [.lit (.bool false)], args := [d1, d2] }
  | _ => none }
def OverApartWrongFalsely : Prop := overApartRow.holds Try.pinned (OpenSpec.ofChange overApartWrong)

/-- 'cellaretlaw16.OverBoth': WHATEVER THE INPUT: true; the input reads as it did. -/
def overBothSpec : ChangeSpec := { name := "overBoth", fn := fun _ => fun
  | [d1, d2] => { results := [.lit (.bool true)], args := [d1, d2] }
  | _ => none }
def overBothRow : OpenClaim := { program := "ytocpppegmepolaa", sum := "de89d78cb68e4c1f2b4d038aea697b226e103c524d0146d5d145257bbb9bde0c", func := "cellaret/cellaretlaw16.OverBoth", spec := "overBoth", unfollowed := true, recurses := true, plainKeys := false, apart := false }
def OverBothSaid : Prop := overBothRow.holds Try.pinned (OpenSpec.ofChange overBothSpec)

/-- ITS FALSE NEIGHBOUR: 'it returns false'. Refute it at one input. -/
def overBothWrong : ChangeSpec := { name := "overBoth", fn := fun _ => fun
  | [d1, d2] => { results := [.lit (.bool false)], args := [d1, d2] }
  | _ => none }
def OverBothWrongFalsely : Prop := overBothRow.holds Try.pinned (OpenSpec.ofChange overBothWrong)

/-- 'cellaretlaw16.OverNone': WHATEVER THE INPUT: true; the input reads as it did. -/
def overNoneSpec : ChangeSpec := { name := "overNone", fn := fun _ => fun
  | [d] => { results := [.lit (.bool true)], args := [d] }
  | _ => none }
def overNoneRow : OpenClaim := { program := "ytocpppegmepolaa", sum := "de89d78cb68e4c1f2b4d038aea697b226e103c524d0146d5d145257bbb9bde0c", func := "cellaret/cellaretlaw16.OverNone", spec := "overNone", unfollowed := true, recurses := true, plainKeys := false, apart := false }
def OverNoneSaid : Prop := overNoneRow.holds Try.pinned (OpenSpec.ofChange overNoneSpec)

/-- ITS FALSE NEIGHBOUR: 'it returns false'. Refute it at one input. -/
def overNoneWrong : ChangeSpec := { name := "overNone", fn := fun _ => fun
  | [d] => { results := [.lit (.bool false)], args := [d] }
  | _ => none }
def OverNoneWrongFalsely : Prop := overNoneRow.holds Try.pinned (OpenSpec.ofChange overNoneWrong)

/-- 'cellaretlaw32.PlanParts': WHATEVER THE INPUT: true; the input reads as it did. -/
def planPartsSpec : ChangeSpec := { name := "planParts", fn := fun _ => fun
  | [d] => { results := [.lit (.bool true)], args := [d] }
  | _ => none }
def planPartsRow : OpenClaim := { program := "ytocpppegmepolaa", sum := "de89d78cb68e4c1f2b4d038aea697b226e103c524d0146d5d145257bbb9bde0c", func := "cellaret/cellaretlaw32.PlanParts", spec := "planParts", unfollowed := true, recurses := true, plainKeys := false, apart := false }
def PlanPartsSaid : Prop := planPartsRow.holds Try.pinned (OpenSpec.ofChange planPartsSpec)

/-- ITS FALSE NEIGHBOUR: 'it returns false'. Refute it at one input. -/
def planPartsWrong : ChangeSpec := { name := "planParts", fn := fun _ => fun
  | [d] => { results := [.lit (.bool false)], args := [d] }
  | _ => none }
def PlanPartsWrongFalsely : Prop := planPartsRow.holds Try.pinned (OpenSpec.ofChange planPartsWrong)

/-- 'cellaretlaw32.PlanOf': WHATEVER THE INPUT: true; the input reads as it did. -/
def planOfSpec : ChangeSpec := { name := "planOf", fn := fun _ => fun
  | [d] => { results := [.lit (.bool true)], args := [d] }
  | _ => none }
def planOfRow : OpenClaim := { program := "ytocpppegmepolaa", sum := "de89d78cb68e4c1f2b4d038aea697b226e103c524d0146d5d145257bbb9bde0c", func := "cellaret/cellaretlaw32.PlanOf", spec := "planOf", unfollowed := true, recurses := true, plainKeys := false, apart := false }
def PlanOfSaid : Prop := planOfRow.holds Try.pinned (OpenSpec.ofChange planOfSpec)

/-- ITS FALSE NEIGHBOUR: 'it returns false'. Refute it at one input. -/
def planOfWrong : ChangeSpec := { name := "planOf", fn := fun _ => fun
  | [d] => { results := [.lit (.bool false)], args := [d] }
  | _ => none }
def PlanOfWrongFalsely : Prop := planOfRow.holds Try.pinned (OpenSpec.ofChange planOfWrong)

/-- 'cellaretlaw32.PlanApplies': WHATEVER THE INPUT: true; the input reads as it did. -/
def planAppliesSpec : ChangeSpec := { name := "planApplies", fn := fun _ => fun
  | [d1, d2, d3] => { results := [.lit (.bool true)], args := [d1, d2, d3] }
  | _ => none }
def planAppliesRow : OpenClaim := { program := "ytocpppegmepolaa", sum := "de89d78cb68e4c1f2b4d038aea697b226e103c524d0146d5d145257bbb9bde0c", func := "cellaret/cellaretlaw32.PlanApplies", spec := "planApplies", unfollowed := true, recurses := true, plainKeys := false, apart := false }
def PlanAppliesSaid : Prop := planAppliesRow.holds Try.pinned (OpenSpec.ofChange planAppliesSpec)

/-- ITS FALSE NEIGHBOUR: 'it returns false'. Refute it at one input. -/
def planAppliesWrong : ChangeSpec := { name := "planApplies", fn := fun _ => fun
  | [d1, d2, d3] => { results := [.lit (.bool false)], args := [d1, d2, d3] }
  | _ => none }
def PlanAppliesWrongFalsely : Prop := planAppliesRow.holds Try.pinned (OpenSpec.ofChange planAppliesWrong)

/-- 'cellaretlaw32.PlanAlike': WHATEVER THE INPUT: true; the input reads as it did. -/
def planAlikeSpec : ChangeSpec := { name := "planAlike", fn := fun _ => fun
  | [d1, d2, d3] => { results := [.lit (.bool true)], args := [d1, d2, d3] }
  | _ => none }
def planAlikeRow : OpenClaim := { program := "ytocpppegmepolaa", sum := "de89d78cb68e4c1f2b4d038aea697b226e103c524d0146d5d145257bbb9bde0c", func := "cellaret/cellaretlaw32.PlanAlike", spec := "planAlike", unfollowed := true, recurses := true, plainKeys := false, apart := false }
def PlanAlikeSaid : Prop := planAlikeRow.holds Try.pinned (OpenSpec.ofChange planAlikeSpec)

/-- ITS FALSE NEIGHBOUR: 'it returns false'. Refute it at one input. -/
def planAlikeWrong : ChangeSpec := { name := "planAlike", fn := fun _ => fun
  | [d1, d2, d3] => { results := [.lit (.bool false)], args := [d1, d2, d3] }
  | _ => none }
def PlanAlikeWrongFalsely : Prop := planAlikeRow.holds Try.pinned (OpenSpec.ofChange planAlikeWrong)

/-- 'cellaretlaw15.JrnlAppends': WHATEVER THE INPUT: true; the input reads as it did. -/
def jrnlAppendsSpec : ChangeSpec := { name := "jrnlAppends", fn := fun _ => fun
  | [d] => { results := [.lit (.bool true)], args := [d] }
  | _ => none }
def jrnlAppendsRow : OpenClaim := { program := "ytocpppegmepolaa", sum := "de89d78cb68e4c1f2b4d038aea697b226e103c524d0146d5d145257bbb9bde0c", func := "cellaret/cellaretlaw15.JrnlAppends", spec := "jrnlAppends", inPlace := ["internal/abi.NoEscape", "internal/bytealg.MakeNoZero"], unfollowed := true, recurses := true, plainKeys := false, apart := false }
def JrnlAppendsSaid : Prop := jrnlAppendsRow.holds Try.pinned (OpenSpec.ofChange jrnlAppendsSpec)

/-- ITS FALSE NEIGHBOUR: 'it returns false'. Refute it at one input. -/
def jrnlAppendsWrong : ChangeSpec := { name := "jrnlAppends", fn := fun _ => fun
  | [d] => { results := [.lit (.bool false)], args := [d] }
  | _ => none }
def JrnlAppendsWrongFalsely : Prop := jrnlAppendsRow.holds Try.pinned (OpenSpec.ofChange jrnlAppendsWrong)

/-- 'cellaretlaw15.JrnlNone': WHATEVER THE INPUT: true; the input reads as it did. -/
def jrnlNoneSpec : ChangeSpec := { name := "jrnlNone", fn := fun _ => fun
  | [d] => { results := [.lit (.bool true)], args := [d] }
  | _ => none }
def jrnlNoneRow : OpenClaim := { program := "ytocpppegmepolaa", sum := "de89d78cb68e4c1f2b4d038aea697b226e103c524d0146d5d145257bbb9bde0c", func := "cellaret/cellaretlaw15.JrnlNone", spec := "jrnlNone", inPlace := ["internal/abi.NoEscape", "internal/bytealg.MakeNoZero"], unfollowed := true, recurses := true, plainKeys := false, apart := false }
def JrnlNoneSaid : Prop := jrnlNoneRow.holds Try.pinned (OpenSpec.ofChange jrnlNoneSpec)

/-- ITS FALSE NEIGHBOUR: 'it returns false'. Refute it at one input. -/
def jrnlNoneWrong : ChangeSpec := { name := "jrnlNone", fn := fun _ => fun
  | [d] => { results := [.lit (.bool false)], args := [d] }
  | _ => none }
def JrnlNoneWrongFalsely : Prop := jrnlNoneRow.holds Try.pinned (OpenSpec.ofChange jrnlNoneWrong)

/-- 'cellaretlaw15.JrnlFaults': WHATEVER THE INPUT: true; the input reads as it did. -/
def jrnlFaultsSpec : ChangeSpec := { name := "jrnlFaults", fn := fun _ => fun
  | [d1, d2] => { results := [.lit (.bool true)], args := [d1, d2] }
  | _ => none }
def jrnlFaultsRow : OpenClaim := { program := "ytocpppegmepolaa", sum := "de89d78cb68e4c1f2b4d038aea697b226e103c524d0146d5d145257bbb9bde0c", func := "cellaret/cellaretlaw15.JrnlFaults", spec := "jrnlFaults", inPlace := ["internal/abi.NoEscape", "internal/bytealg.MakeNoZero"], unfollowed := true, recurses := true, plainKeys := false, apart := false }
def JrnlFaultsSaid : Prop := jrnlFaultsRow.holds Try.pinned (OpenSpec.ofChange jrnlFaultsSpec)

/-- ITS FALSE NEIGHBOUR: 'it returns false'. Refute it at one input. -/
def jrnlFaultsWrong : ChangeSpec := { name := "jrnlFaults", fn := fun _ => fun
  | [d1, d2] => { results := [.lit (.bool false)], args := [d1, d2] }
  | _ => none }
def JrnlFaultsWrongFalsely : Prop := jrnlFaultsRow.holds Try.pinned (OpenSpec.ofChange jrnlFaultsWrong)

/-- 'cellaretlaw15.JrnlLoads': WHATEVER THE INPUT: true; the input reads as it did. -/
def jrnlLoadsSpec : ChangeSpec := { name := "jrnlLoads", fn := fun _ => fun
  | [d1, d2, d3] => { results := [.lit (.bool true)], args := [d1, d2, d3] }
  | _ => none }
def jrnlLoadsRow : OpenClaim := { program := "ytocpppegmepolaa", sum := "de89d78cb68e4c1f2b4d038aea697b226e103c524d0146d5d145257bbb9bde0c", func := "cellaret/cellaretlaw15.JrnlLoads", spec := "jrnlLoads", inPlace := ["internal/abi.NoEscape", "internal/bytealg.MakeNoZero"], unfollowed := true, recurses := true, plainKeys := false, apart := false }
def JrnlLoadsSaid : Prop := jrnlLoadsRow.holds Try.pinned (OpenSpec.ofChange jrnlLoadsSpec)

/-- ITS FALSE NEIGHBOUR: 'it returns false'. Refute it at one input. -/
def jrnlLoadsWrong : ChangeSpec := { name := "jrnlLoads", fn := fun _ => fun
  | [d1, d2, d3] => { results := [.lit (.bool false)], args := [d1, d2, d3] }
  | _ => none }
def JrnlLoadsWrongFalsely : Prop := jrnlLoadsRow.holds Try.pinned (OpenSpec.ofChange jrnlLoadsWrong)

/-- 'cellaretlaw15.JrnlChanged': WHATEVER THE INPUT: true; the input reads as it did. -/
def jrnlChangedSpec : ChangeSpec := { name := "jrnlChanged", fn := fun _ => fun
  | [d1, d2, d3] => { results := [.lit (.bool true)], args := [d1, d2, d3] }
  | _ => none }
def jrnlChangedRow : OpenClaim := { program := "ytocpppegmepolaa", sum := "de89d78cb68e4c1f2b4d038aea697b226e103c524d0146d5d145257bbb9bde0c", func := "cellaret/cellaretlaw15.JrnlChanged", spec := "jrnlChanged", inPlace := ["internal/abi.NoEscape", "internal/bytealg.MakeNoZero"], unfollowed := true, recurses := true, plainKeys := false, apart := false }
def JrnlChangedSaid : Prop := jrnlChangedRow.holds Try.pinned (OpenSpec.ofChange jrnlChangedSpec)

/-- ITS FALSE NEIGHBOUR: 'it returns false'. Refute it at one input. -/
def jrnlChangedWrong : ChangeSpec := { name := "jrnlChanged", fn := fun _ => fun
  | [d1, d2, d3] => { results := [.lit (.bool false)], args := [d1, d2, d3] }
  | _ => none }
def JrnlChangedWrongFalsely : Prop := jrnlChangedRow.holds Try.pinned (OpenSpec.ofChange jrnlChangedWrong)

/-- 'cellaretlaw18.TreeNone': WHATEVER THE INPUT: true; the input reads as it did. -/
def treeNoneSpec : ChangeSpec := { name := "treeNone", fn := fun _ => fun
  | [d1, d2, d3] => { results := [.lit (.bool true)], args := [d1, d2, d3] }
  | _ => none }
def treeNoneRow : OpenClaim := { program := "ytocpppegmepolaa", sum := "de89d78cb68e4c1f2b4d038aea697b226e103c524d0146d5d145257bbb9bde0c", func := "cellaret/cellaretlaw18.TreeNone", spec := "treeNone", unfollowed := true, recurses := true, plainKeys := false, apart := false }
def TreeNoneSaid : Prop := treeNoneRow.holds Try.pinned (OpenSpec.ofChange treeNoneSpec)

/-- ITS FALSE NEIGHBOUR: 'it returns false'. Refute it at one input. -/
def treeNoneWrong : ChangeSpec := { name := "treeNone", fn := fun _ => fun
  | [d1, d2, d3] => { results := [.lit (.bool false)], args := [d1, d2, d3] }
  | _ => none }
def TreeNoneWrongFalsely : Prop := treeNoneRow.holds Try.pinned (OpenSpec.ofChange treeNoneWrong)

/-- 'cellaretlaw18.TreeTold': WHATEVER THE INPUT: true; the input reads as it did. -/
def treeToldSpec : ChangeSpec := { name := "treeTold", fn := fun _ => fun
  | [d] => { results := [.lit (.bool true)], args := [d] }
  | _ => none }
def treeToldRow : OpenClaim := { program := "ytocpppegmepolaa", sum := "de89d78cb68e4c1f2b4d038aea697b226e103c524d0146d5d145257bbb9bde0c", func := "cellaret/cellaretlaw18.TreeTold", spec := "treeTold", unfollowed := true, recurses := true, plainKeys := false, apart := false }
def TreeToldSaid : Prop := treeToldRow.holds Try.pinned (OpenSpec.ofChange treeToldSpec)

/-- ITS FALSE NEIGHBOUR: 'it returns false'. Refute it at one input. -/
def treeToldWrong : ChangeSpec := { name := "treeTold", fn := fun _ => fun
  | [d] => { results := [.lit (.bool false)], args := [d] }
  | _ => none }
def TreeToldWrongFalsely : Prop := treeToldRow.holds Try.pinned (OpenSpec.ofChange treeToldWrong)

/-- 'cellaretlaw18.TreeDoes': WHATEVER THE INPUT: true; the input reads as it did. -/
def treeDoesSpec : ChangeSpec := { name := "treeDoes", fn := fun _ => fun
  | [d1, d2] => { results := [.lit (.bool true)], args := [d1, d2] }
  | _ => none }
def treeDoesRow : OpenClaim := { program := "ytocpppegmepolaa", sum := "de89d78cb68e4c1f2b4d038aea697b226e103c524d0146d5d145257bbb9bde0c", func := "cellaret/cellaretlaw18.TreeDoes", spec := "treeDoes", unfollowed := true, recurses := true, plainKeys := false, apart := false }
def TreeDoesSaid : Prop := treeDoesRow.holds Try.pinned (OpenSpec.ofChange treeDoesSpec)

/-- ITS FALSE NEIGHBOUR: 'it returns false'. Refute it at one input. -/
def treeDoesWrong : ChangeSpec := { name := "treeDoes", fn := fun _ => fun
  | [d1, d2] => { results := [.lit (.bool false)], args := [d1, d2] }
  | _ => none }
def TreeDoesWrongFalsely : Prop := treeDoesRow.holds Try.pinned (OpenSpec.ofChange treeDoesWrong)

/-- 'cellaretlaw18.TreeTampers': WHATEVER THE INPUT: true; the input reads as it did. -/
def treeTampersSpec : ChangeSpec := { name := "treeTampers", fn := fun _ => fun
  | [d1, d2, d3] => { results := [.lit (.bool true)], args := [d1, d2, d3] }
  | _ => none }
def treeTampersRow : OpenClaim := { program := "ytocpppegmepolaa", sum := "de89d78cb68e4c1f2b4d038aea697b226e103c524d0146d5d145257bbb9bde0c", func := "cellaret/cellaretlaw18.TreeTampers", spec := "treeTampers", unfollowed := true, recurses := true, plainKeys := false, apart := false }
def TreeTampersSaid : Prop := treeTampersRow.holds Try.pinned (OpenSpec.ofChange treeTampersSpec)

/-- ITS FALSE NEIGHBOUR: 'it returns false'. Refute it at one input. -/
def treeTampersWrong : ChangeSpec := { name := "treeTampers", fn := fun _ => fun
  | [d1, d2, d3] => { results := [.lit (.bool false)], args := [d1, d2, d3] }
  | _ => none }
def TreeTampersWrongFalsely : Prop := treeTampersRow.holds Try.pinned (OpenSpec.ofChange treeTampersWrong)

/- THE SECOND FORM. 'bulk': how many values and letters a reading holds, each counted each time it is reached (what is shared counts as often as it is met; a slice's spare places count too). A statement '..UptoSaid' is the law's where the arguments, and the package variables that the reading takes, are together of bulk at most 1048576: NARROWER than '..Said'. Prove '..Said' where nothing that the law and all that it calls make is longer than what came in: it says more and counts as full. Else prove '..UptoSaid'. A law counts once. -/
mutual
def uptoBulk {H : Type} : DataW H → Nat
  | .lit (.string bytes) => bytes.length + 1
  | .lit _ => 1
  | .nil => 1
  | .ptr d => uptoBulk d + 1
  | .slice elems spare => uptoBulkAll elems + uptoBulkAll spare + 1
  | .agg parts => uptoBulkAll parts + 1
  | .iface _ d => uptoBulk d + 1
  | .map entries => uptoBulkEntries entries + 1
  | .held _ => 1
def uptoBulkAll {H : Type} : List (DataW H) → Nat
  | [] => 0
  | d :: r => uptoBulk d + uptoBulkAll r
def uptoBulkEntries {H : Type} : List (Lit × DataW H) → Nat
  | [] => 0
  | x :: r => uptoBulkEntry x + uptoBulkEntries r
def uptoBulkEntry {H : Type} : Lit × DataW H → Nat
  | (.string bytes, d) => bytes.length + uptoBulk d + 1
  | (_, d) => uptoBulk d + 1
 end
def uptoSmall : (H : Type) → List (DataW H) → Bool := fun _ ds => decide (uptoBulkAll ds ≤ 1048576)
def OpenSpec.upto (s : _root_.Go.ChangeSpec) : _root_.Go.OpenSpec := { _root_.Go.OpenSpec.ofChange s with cond := some uptoSmall }

/-- 'cellaretlaw12.RigWhole', WHERE WHAT IT READS IS OF BULK AT MOST 1048576: true; the input reads as it did. -/
def rigWholeUptoRow : OpenClaim := { program := "ytocpppegmepolaa", sum := "de89d78cb68e4c1f2b4d038aea697b226e103c524d0146d5d145257bbb9bde0c", func := "cellaret/cellaretlaw12.RigWhole", spec := "rigWhole", unfollowed := true, recurses := true, plainKeys := false, apart := false, narrowed := true }
def RigWholeUptoSaid : Prop := rigWholeUptoRow.holds Try.pinned (OpenSpec.upto rigWholeSpec)

/-- 'cellaretlaw13.RecordBack', WHERE WHAT IT READS IS OF BULK AT MOST 1048576: true; the input reads as it did. -/
def recordBackUptoRow : OpenClaim := { program := "ytocpppegmepolaa", sum := "de89d78cb68e4c1f2b4d038aea697b226e103c524d0146d5d145257bbb9bde0c", func := "cellaret/cellaretlaw13.RecordBack", spec := "recordBack", inPlace := ["internal/abi.NoEscape", "internal/bytealg.MakeNoZero"], unfollowed := true, recurses := true, plainKeys := false, apart := false, narrowed := true }
def RecordBackUptoSaid : Prop := recordBackUptoRow.holds Try.pinned (OpenSpec.upto recordBackSpec)

/-- 'cellaretlaw12.RigNone', WHERE WHAT IT READS IS OF BULK AT MOST 1048576: true; the input reads as it did. -/
def rigNoneUptoRow : OpenClaim := { program := "ytocpppegmepolaa", sum := "de89d78cb68e4c1f2b4d038aea697b226e103c524d0146d5d145257bbb9bde0c", func := "cellaret/cellaretlaw12.RigNone", spec := "rigNone", unfollowed := true, recurses := true, plainKeys := false, apart := false, narrowed := true }
def RigNoneUptoSaid : Prop := rigNoneUptoRow.holds Try.pinned (OpenSpec.upto rigNoneSpec)

/-- 'cellaretlaw16.OverDoes', WHERE WHAT IT READS IS OF BULK AT MOST 1048576: true; the input reads as it did. -/
def overDoesUptoRow : OpenClaim := { program := "ytocpppegmepolaa", sum := "de89d78cb68e4c1f2b4d038aea697b226e103c524d0146d5d145257bbb9bde0c", func := "cellaret/cellaretlaw16.OverDoes", spec := "overDoes", unfollowed := true, recurses := true, plainKeys := false, apart := false, narrowed := true }
def OverDoesUptoSaid : Prop := overDoesUptoRow.holds Try.pinned (OpenSpec.upto overDoesSpec)

/-- 'cellaretlaw16.OverApart', WHERE WHAT IT READS IS OF BULK AT MOST 1048576: true; the input reads as it did. -/
def overApartUptoRow : OpenClaim := { program := "ytocpppegmepolaa", sum := "de89d78cb68e4c1f2b4d038aea697b226e103c524d0146d5d145257bbb9bde0c", func := "cellaret/cellaretlaw16.OverApart", spec := "overApart", unfollowed := true, recurses := true, plainKeys := false, apart := false, narrowed := true }
def OverApartUptoSaid : Prop := overApartUptoRow.holds Try.pinned (OpenSpec.upto overApartSpec)

/-- 'cellaretlaw16.OverBoth', WHERE WHAT IT READS IS OF BULK AT MOST 1048576: true; the input reads as it did. -/
def overBothUptoRow : OpenClaim := { program := "ytocpppegmepolaa", sum := "de89d78cb68e4c1f2b4d038aea697b226e103c524d0146d5d145257bbb9bde0c", func := "cellaret/cellaretlaw16.OverBoth", spec := "overBoth", unfollowed := true, recurses := true, plainKeys := false, apart := false, narrowed := true }
def OverBothUptoSaid : Prop := overBothUptoRow.holds Try.pinned (OpenSpec.upto overBothSpec)

/-- 'cellaretlaw16.OverNone', WHERE WHAT IT READS IS OF BULK AT MOST 1048576: true; the input reads as it did. -/
def overNoneUptoRow : OpenClaim := { program := "ytocpppegmepolaa", sum := "de89d78cb68e4c1f2b4d038aea697b226e103c524d0146d5d145257bbb9bde0c", func := "cellaret/cellaretlaw16.OverNone", spec := "overNone", unfollowed := true, recurses := true, plainKeys := false, apart := false, narrowed := true }
def OverNoneUptoSaid : Prop := overNoneUptoRow.holds Try.pinned (OpenSpec.upto overNoneSpec)

/-- 'cellaretlaw32.PlanParts', WHERE WHAT IT READS IS OF BULK AT MOST 1048576: true; the input reads as it did. -/
def planPartsUptoRow : OpenClaim := { program := "ytocpppegmepolaa", sum := "de89d78cb68e4c1f2b4d038aea697b226e103c524d0146d5d145257bbb9bde0c", func := "cellaret/cellaretlaw32.PlanParts", spec := "planParts", unfollowed := true, recurses := true, plainKeys := false, apart := false, narrowed := true }
def PlanPartsUptoSaid : Prop := planPartsUptoRow.holds Try.pinned (OpenSpec.upto planPartsSpec)

/-- 'cellaretlaw32.PlanOf', WHERE WHAT IT READS IS OF BULK AT MOST 1048576: true; the input reads as it did. -/
def planOfUptoRow : OpenClaim := { program := "ytocpppegmepolaa", sum := "de89d78cb68e4c1f2b4d038aea697b226e103c524d0146d5d145257bbb9bde0c", func := "cellaret/cellaretlaw32.PlanOf", spec := "planOf", unfollowed := true, recurses := true, plainKeys := false, apart := false, narrowed := true }
def PlanOfUptoSaid : Prop := planOfUptoRow.holds Try.pinned (OpenSpec.upto planOfSpec)

/-- 'cellaretlaw32.PlanApplies', WHERE WHAT IT READS IS OF BULK AT MOST 1048576: true; the input reads as it did. -/
def planAppliesUptoRow : OpenClaim := { program := "ytocpppegmepolaa", sum := "de89d78cb68e4c1f2b4d038aea697b226e103c524d0146d5d145257bbb9bde0c", func := "cellaret/cellaretlaw32.PlanApplies", spec := "planApplies", unfollowed := true, recurses := true, plainKeys := false, apart := false, narrowed := true }
def PlanAppliesUptoSaid : Prop := planAppliesUptoRow.holds Try.pinned (OpenSpec.upto planAppliesSpec)

/-- 'cellaretlaw32.PlanAlike', WHERE WHAT IT READS IS OF BULK AT MOST 1048576: true; the input reads as it did. -/
def planAlikeUptoRow : OpenClaim := { program := "ytocpppegmepolaa", sum := "de89d78cb68e4c1f2b4d038aea697b226e103c524d0146d5d145257bbb9bde0c", func := "cellaret/cellaretlaw32.PlanAlike", spec := "planAlike", unfollowed := true, recurses := true, plainKeys := false, apart := false, narrowed := true }
def PlanAlikeUptoSaid : Prop := planAlikeUptoRow.holds Try.pinned (OpenSpec.upto planAlikeSpec)

/-- 'cellaretlaw15.JrnlAppends', WHERE WHAT IT READS IS OF BULK AT MOST 1048576: true; the input reads as it did. -/
def jrnlAppendsUptoRow : OpenClaim := { program := "ytocpppegmepolaa", sum := "de89d78cb68e4c1f2b4d038aea697b226e103c524d0146d5d145257bbb9bde0c", func := "cellaret/cellaretlaw15.JrnlAppends", spec := "jrnlAppends", inPlace := ["internal/abi.NoEscape", "internal/bytealg.MakeNoZero"], unfollowed := true, recurses := true, plainKeys := false, apart := false, narrowed := true }
def JrnlAppendsUptoSaid : Prop := jrnlAppendsUptoRow.holds Try.pinned (OpenSpec.upto jrnlAppendsSpec)

/-- 'cellaretlaw15.JrnlNone', WHERE WHAT IT READS IS OF BULK AT MOST 1048576: true; the input reads as it did. -/
def jrnlNoneUptoRow : OpenClaim := { program := "ytocpppegmepolaa", sum := "de89d78cb68e4c1f2b4d038aea697b226e103c524d0146d5d145257bbb9bde0c", func := "cellaret/cellaretlaw15.JrnlNone", spec := "jrnlNone", inPlace := ["internal/abi.NoEscape", "internal/bytealg.MakeNoZero"], unfollowed := true, recurses := true, plainKeys := false, apart := false, narrowed := true }
def JrnlNoneUptoSaid : Prop := jrnlNoneUptoRow.holds Try.pinned (OpenSpec.upto jrnlNoneSpec)

/-- 'cellaretlaw15.JrnlFaults', WHERE WHAT IT READS IS OF BULK AT MOST 1048576: true; the input reads as it did. -/
def jrnlFaultsUptoRow : OpenClaim := { program := "ytocpppegmepolaa", sum := "de89d78cb68e4c1f2b4d038aea697b226e103c524d0146d5d145257bbb9bde0c", func := "cellaret/cellaretlaw15.JrnlFaults", spec := "jrnlFaults", inPlace := ["internal/abi.NoEscape", "internal/bytealg.MakeNoZero"], unfollowed := true, recurses := true, plainKeys := false, apart := false, narrowed := true }
def JrnlFaultsUptoSaid : Prop := jrnlFaultsUptoRow.holds Try.pinned (OpenSpec.upto jrnlFaultsSpec)

/-- 'cellaretlaw15.JrnlLoads', WHERE WHAT IT READS IS OF BULK AT MOST 1048576: true; the input reads as it did. -/
def jrnlLoadsUptoRow : OpenClaim := { program := "ytocpppegmepolaa", sum := "de89d78cb68e4c1f2b4d038aea697b226e103c524d0146d5d145257bbb9bde0c", func := "cellaret/cellaretlaw15.JrnlLoads", spec := "jrnlLoads", inPlace := ["internal/abi.NoEscape", "internal/bytealg.MakeNoZero"], unfollowed := true, recurses := true, plainKeys := false, apart := false, narrowed := true }
def JrnlLoadsUptoSaid : Prop := jrnlLoadsUptoRow.holds Try.pinned (OpenSpec.upto jrnlLoadsSpec)

/-- 'cellaretlaw15.JrnlChanged', WHERE WHAT IT READS IS OF BULK AT MOST 1048576: true; the input reads as it did. -/
def jrnlChangedUptoRow : OpenClaim := { program := "ytocpppegmepolaa", sum := "de89d78cb68e4c1f2b4d038aea697b226e103c524d0146d5d145257bbb9bde0c", func := "cellaret/cellaretlaw15.JrnlChanged", spec := "jrnlChanged", inPlace := ["internal/abi.NoEscape", "internal/bytealg.MakeNoZero"], unfollowed := true, recurses := true, plainKeys := false, apart := false, narrowed := true }
def JrnlChangedUptoSaid : Prop := jrnlChangedUptoRow.holds Try.pinned (OpenSpec.upto jrnlChangedSpec)

/-- 'cellaretlaw18.TreeNone', WHERE WHAT IT READS IS OF BULK AT MOST 1048576: true; the input reads as it did. -/
def treeNoneUptoRow : OpenClaim := { program := "ytocpppegmepolaa", sum := "de89d78cb68e4c1f2b4d038aea697b226e103c524d0146d5d145257bbb9bde0c", func := "cellaret/cellaretlaw18.TreeNone", spec := "treeNone", unfollowed := true, recurses := true, plainKeys := false, apart := false, narrowed := true }
def TreeNoneUptoSaid : Prop := treeNoneUptoRow.holds Try.pinned (OpenSpec.upto treeNoneSpec)

/-- 'cellaretlaw18.TreeTold', WHERE WHAT IT READS IS OF BULK AT MOST 1048576: true; the input reads as it did. -/
def treeToldUptoRow : OpenClaim := { program := "ytocpppegmepolaa", sum := "de89d78cb68e4c1f2b4d038aea697b226e103c524d0146d5d145257bbb9bde0c", func := "cellaret/cellaretlaw18.TreeTold", spec := "treeTold", unfollowed := true, recurses := true, plainKeys := false, apart := false, narrowed := true }
def TreeToldUptoSaid : Prop := treeToldUptoRow.holds Try.pinned (OpenSpec.upto treeToldSpec)

/-- 'cellaretlaw18.TreeDoes', WHERE WHAT IT READS IS OF BULK AT MOST 1048576: true; the input reads as it did. -/
def treeDoesUptoRow : OpenClaim := { program := "ytocpppegmepolaa", sum := "de89d78cb68e4c1f2b4d038aea697b226e103c524d0146d5d145257bbb9bde0c", func := "cellaret/cellaretlaw18.TreeDoes", spec := "treeDoes", unfollowed := true, recurses := true, plainKeys := false, apart := false, narrowed := true }
def TreeDoesUptoSaid : Prop := treeDoesUptoRow.holds Try.pinned (OpenSpec.upto treeDoesSpec)

/-- 'cellaretlaw18.TreeTampers', WHERE WHAT IT READS IS OF BULK AT MOST 1048576: true; the input reads as it did. -/
def treeTampersUptoRow : OpenClaim := { program := "ytocpppegmepolaa", sum := "de89d78cb68e4c1f2b4d038aea697b226e103c524d0146d5d145257bbb9bde0c", func := "cellaret/cellaretlaw18.TreeTampers", spec := "treeTampers", unfollowed := true, recurses := true, plainKeys := false, apart := false, narrowed := true }
def TreeTampersUptoSaid : Prop := treeTampersUptoRow.holds Try.pinned (OpenSpec.upto treeTampersSpec)

end Rows
end Go.Proofs.Ytocpppegmepolaa
