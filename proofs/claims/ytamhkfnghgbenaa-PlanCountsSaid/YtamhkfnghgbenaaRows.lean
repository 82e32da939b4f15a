/-
  No cell of these rows narrows 'for every input' (looked for: loops, veiled, ifaces, maps, wideKeys, modest, calm, conditions, laid).
  DERIVED. THE GIVEN ROWS OF THIS SEAT. 8 by the template 'for every input the law returns true; each argument reads behind the call as it read before'; 0 by the template 'total and deterministic' (their statements: YtamhkfnghgbenaaTotals.lean).
  GIVEN WITH THE SEED: the statements are not yours to turn. If you find one false, say at which input.
  Laid BY PROGRAM, IN A SANDBOX (cutbox-rows.mjs): the forced cells as the released guide's own fill.sh prints them over the translation 39b9ddb3a5ac707c… (all of the seat's roots in one cut). By AI agents, Wed Nov 11 2026. No macro, syntax, notation, axiom, sorry.
-/
import Derived.Test.YtamhkfnghgbenaaChecked
import GoSem.Claim
import GoSem.ClaimJoined
import GoSem.ClaimMapViews
import Derived.JoinedTies
import Derived.KernelRfl
namespace Go.Proofs.Ytamhkfnghgbenaa
/- THE CELL 'sum', in the pinned program and in every row, IS THE sha256 OF THE DUMP (.gsa) THAT YtamhkfnghgbenaaProg.lean LOADS. Nothing in Lean hashes anything: it is a label: what it is worth is what the hold of that sum in a sandbox is worth. -/
noncomputable def Try.pinned : Pinned := { name := "ytamhkfnghgbenaa", sum := "39b9ddb3a5ac707c0ec42fbc61d64474a2bf439bed405323a739c46a17bab9e1", checked := Try.checked }
namespace Rows
def none {H : Type} : Left H := { results := [], args := [] }

/-- 'portmanteaulaw22.PlanSizes': WHATEVER THE INPUT: true; the input reads as it did. -/
def planSizesSpec : ChangeSpec := { name := "planSizes", fn := fun _ => fun
  | [d1, d2, d3, d4] => { results := [.lit (.bool true)], args := [d1, d2, d3, d4] }
  | _ => none }
def planSizesRow : OpenClaim := { program := "ytamhkfnghgbenaa", sum := "39b9ddb3a5ac707c0ec42fbc61d64474a2bf439bed405323a739c46a17bab9e1", func := "portmanteau/portmanteaulaw22.PlanSizes", spec := "planSizes", unfollowed := true, recurses := true, apart := false }
def PlanSizesSaid : Prop := planSizesRow.holds Try.pinned (OpenSpec.ofChange planSizesSpec)

/-- ITS FALSE NEIGHBOUR: 'it returns false'. Refute it at one input. -/
def planSizesWrong : ChangeSpec := { name := "planSizes", fn := fun _ => fun
  | [d1, d2, d3, d4] => { results := [.lit (.bool false)], args := [d1, d2, d3, d4] }
  | _ => none }
def PlanSizesWrongFalsely : Prop := planSizesRow.holds Try.pinned (OpenSpec.ofChange planSizesWrong)

/-- 'portmanteaulaw22.PlanIs': WHATEVER THE INPUT: true; the input reads as it did. -/
def planIsSpec : ChangeSpec := { name := "planIs", fn := fun _ => fun
  | [d1, d2, d3, d4] => { results := [.lit (.bool true)], args := [d1, d2, d3, d4] }
  | _ => none }
def planIsRow : OpenClaim := { program := "ytamhkfnghgbenaa", sum := "39b9ddb3a5ac707c0ec42fbc61d64474a2bf439bed405323a739c46a17bab9e1", func := "portmanteau/portmanteaulaw22.PlanIs", spec := "planIs", unfollowed := true, recurses := true, apart := false }
def PlanIsSaid : Prop := planIsRow.holds Try.pinned (OpenSpec.ofChange planIsSpec)

/-- ITS FALSE NEIGHBOUR: 'it returns false'. Refute it at one input. -/
def planIsWrong : ChangeSpec := { name := "planIs", fn := fun _ => fun
  | [d1, d2, d3, d4] => { results := [.lit (.bool false)], args := [d1, d2, d3, d4] }
  | _ => none }
def PlanIsWrongFalsely : Prop := planIsRow.holds Try.pinned (OpenSpec.ofChange planIsWrong)

/-- 'portmanteaulaw22.PlanLits': WHATEVER THE INPUT: true; the input reads as it did. -/
def planLitsSpec : ChangeSpec := { name := "planLits", fn := fun _ => fun
  | [d1, d2] => { results := [.lit (.bool true)], args := [d1, d2] }
  | _ => none }
def planLitsRow : OpenClaim := { program := "ytamhkfnghgbenaa", sum := "39b9ddb3a5ac707c0ec42fbc61d64474a2bf439bed405323a739c46a17bab9e1", func := "portmanteau/portmanteaulaw22.PlanLits", spec := "planLits", unfollowed := true, recurses := true, apart := false }
def PlanLitsSaid : Prop := planLitsRow.holds Try.pinned (OpenSpec.ofChange planLitsSpec)

/-- ITS FALSE NEIGHBOUR: 'it returns false'. Refute it at one input. -/
def planLitsWrong : ChangeSpec := { name := "planLits", fn := fun _ => fun
  | [d1, d2] => { results := [.lit (.bool false)], args := [d1, d2] }
  | _ => none }
def PlanLitsWrongFalsely : Prop := planLitsRow.holds Try.pinned (OpenSpec.ofChange planLitsWrong)

/-- 'portmanteaulaw22.PlanCuts': WHATEVER THE INPUT: true; the input reads as it did. -/
def planCutsSpec : ChangeSpec := { name := "planCuts", fn := fun _ => fun
  | [d1, d2] => { results := [.lit (.bool true)], args := [d1, d2] }
  | _ => none }
def planCutsRow : OpenClaim := { program := "ytamhkfnghgbenaa", sum := "39b9ddb3a5ac707c0ec42fbc61d64474a2bf439bed405323a739c46a17bab9e1", func := "portmanteau/portmanteaulaw22.PlanCuts", spec := "planCuts", unfollowed := true, recurses := true, apart := false }
def PlanCutsSaid : Prop := planCutsRow.holds Try.pinned (OpenSpec.ofChange planCutsSpec)

/-- ITS FALSE NEIGHBOUR: 'it returns false'. Refute it at one input. -/
def planCutsWrong : ChangeSpec := { name := "planCuts", fn := fun _ => fun
  | [d1, d2] => { results := [.lit (.bool false)], args := [d1, d2] }
  | _ => none }
def PlanCutsWrongFalsely : Prop := planCutsRow.holds Try.pinned (OpenSpec.ofChange planCutsWrong)

/-- 'portmanteaulaw22.PlanMore': WHATEVER THE INPUT: true; the input reads as it did. -/
def planMoreSpec : ChangeSpec := { name := "planMore", fn := fun _ => fun
  | [d1, d2, d3, d4, d5] => { results := [.lit (.bool true)], args := [d1, d2, d3, d4, d5] }
  | _ => none }
def planMoreRow : OpenClaim := { program := "ytamhkfnghgbenaa", sum := "39b9ddb3a5ac707c0ec42fbc61d64474a2bf439bed405323a739c46a17bab9e1", func := "portmanteau/portmanteaulaw22.PlanMore", spec := "planMore", unfollowed := true, recurses := true, apart := false }
def PlanMoreSaid : Prop := planMoreRow.holds Try.pinned (OpenSpec.ofChange planMoreSpec)

/-- ITS FALSE NEIGHBOUR: 'it returns false'. Refute it at one input. -/
def planMoreWrong : ChangeSpec := { name := "planMore", fn := fun _ => fun
  | [d1, d2, d3, d4, d5] => { results := [.lit (.bool false)], args := [d1, d2, d3, d4, d5] }
  | _ => none }
def PlanMoreWrongFalsely : Prop := planMoreRow.holds Try.pinned (OpenSpec.ofChange planMoreWrong)

/-- 'portmanteaulaw22.PlanHolds': WHATEVER THE INPUT: true; the input reads as it did. -/
def planHoldsSpec : ChangeSpec := { name := "planHolds", fn := fun _ => fun
  | [d1, d2, d3, d4, d5] => { results := [.lit (.bool true)], args := [d1, d2, d3, d4, d5] }
  | _ => none }
def planHoldsRow : OpenClaim := { program := "ytamhkfnghgbenaa", sum := "39b9ddb3a5ac707c0ec42fbc61d64474a2bf439bed405323a739c46a17bab9e1", func := "portmanteau/portmanteaulaw22.PlanHolds", spec := "planHolds", unfollowed := true, recurses := true, apart := false }
def PlanHoldsSaid : Prop := planHoldsRow.holds Try.pinned (OpenSpec.ofChange planHoldsSpec)

/-- ITS FALSE NEIGHBOUR: 'it returns false'. Refute it at one input. -/
def planHoldsWrong : ChangeSpec := { name := "planHolds", fn := fun _ => fun
  | [d1, d2, d3, d4, d5] => { results := [.lit (.bool false)], args := [d1, d2, d3, d4, d5] }
  | _ => none }
def PlanHoldsWrongFalsely : Prop := planHoldsRow.holds Try.pinned (OpenSpec.ofChange planHoldsWrong)

/-- 'portmanteaulaw22.PlanSteps': WHATEVER THE INPUT: true; the input reads as it did. -/
def planStepsSpec : ChangeSpec := { name := "planSteps", fn := fun _ => fun
  | [d1, d2] => { results := [.lit (.bool true)], args := [d1, d2] }
  | _ => none }
def planStepsRow : OpenClaim := { program := "ytamhkfnghgbenaa", sum := "39b9ddb3a5ac707c0ec42fbc61d64474a2bf439bed405323a739c46a17bab9e1", func := "portmanteau/portmanteaulaw22.PlanSteps", spec := "planSteps", unfollowed := true, recurses := true, apart := false }
def PlanStepsSaid : Prop := planStepsRow.holds Try.pinned (OpenSpec.ofChange planStepsSpec)

/-- ITS FALSE NEIGHBOUR: 'it returns false'. Refute it at one input. -/
def planStepsWrong : ChangeSpec := { name := "planSteps", fn := fun _ => fun
  | [d1, d2] => { results := [.lit (.bool false)], args := [d1, d2] }
  | _ => none }
def PlanStepsWrongFalsely : Prop := planStepsRow.holds Try.pinned (OpenSpec.ofChange planStepsWrong)

/-- 'portmanteaulaw22.PlanCounts': WHATEVER THE INPUT: true; the input reads as it did. -/
def planCountsSpec : ChangeSpec := { name := "planCounts", fn := fun _ => fun
  | [d1, d2] => { results := [.lit (.bool true)], args := [d1, d2] }
  | _ => none }
def planCountsRow : OpenClaim := { program := "ytamhkfnghgbenaa", sum := "39b9ddb3a5ac707c0ec42fbc61d64474a2bf439bed405323a739c46a17bab9e1", func := "portmanteau/portmanteaulaw22.PlanCounts", spec := "planCounts", unfollowed := true, recurses := true, apart := false }
def PlanCountsSaid : Prop := planCountsRow.holds Try.pinned (OpenSpec.ofChange planCountsSpec)

/-- ITS FALSE NEIGHBOUR: 'it returns false'. Refute it at one input. -/
def planCountsWrong : ChangeSpec := { name := "planCounts", fn := fun _ => fun
  | [d1, d2] => { results := [.lit (.bool false)], args := [d1, d2] }
  | _ => none }
def PlanCountsWrongFalsely : Prop := planCountsRow.holds Try.pinned (OpenSpec.ofChange planCountsWrong)

/- THE SECOND FORM. 'bulk': how many values and letters a reading holds, each counted each time it is reached (what is shared counts as often as it is met; a slice's spare places count too). A statement '..UptoSaid' is the law's where the arguments, and the package variables that the reading takes, are together of bulk at most 1048576: NARROWER than '..Said'. Prove '..Said' where nothing that the law and all that it calls make is longer than what came in: it says more and counts as full. Else prove '..UptoSaid'. A law counts once. -/
mutual
def uptoBulk {H : Type} : DataW H → Nat
  | .lit (.string bytes) => bytes.length + 1
  | .lit _ => 1
  | .nil => 1
  | .ptr d => uptoBulk d + 1
  | .slice elems spare => uptoBulkAll elems + uptoBulkAll spare + 1
  | .agg parts => uptoBulkAll parts + 1
  | .iface _ d => uptoBulk d + 1
  | .map entries => uptoBulkEntries entries + 1
  | .held _ => 1
def uptoBulkAll {H : Type} : List (DataW H) → Nat
  | [] => 0
  | d :: r => uptoBulk d + uptoBulkAll r
def uptoBulkEntries {H : Type} : List (Lit × DataW H) → Nat
  | [] => 0
  | x :: r => uptoBulkEntry x + uptoBulkEntries r
def uptoBulkEntry {H : Type} : Lit × DataW H → Nat
  | (.string bytes, d) => bytes.length + uptoBulk d + 1
  | (_, d) => uptoBulk d + 1
 end
def uptoSmall : (H : Type) → List (DataW H) → Bool := fun _ ds => decide (uptoBulkAll ds ≤ 1048576)
def OpenSpec.upto (s : _root_.Go.ChangeSpec) : _root_.Go.OpenSpec := { _root_.Go.OpenSpec.ofChange s with cond := some uptoSmall }

/-- 'portmanteaulaw22.PlanSizes', WHERE WHAT IT READS IS OF BULK AT MOST 1048576: true; the input reads as it did. -/
def planSizesUptoRow : OpenClaim := { program := "ytamhkfnghgbenaa", sum := "39b9ddb3a5ac707c0ec42fbc61d64474a2bf439bed405323a739c46a17bab9e1", func := "portmanteau/portmanteaulaw22.PlanSizes", spec := "planSizes", unfollowed := true, recurses := true, apart := false, narrowed := true }
def PlanSizesUptoSaid : Prop := planSizesUptoRow.holds Try.pinned (OpenSpec.upto planSizesSpec)

/-- 'portmanteaulaw22.PlanIs', WHERE WHAT IT READS IS OF BULK AT MOST 1048576: true; the input reads as it did. -/
def planIsUptoRow : OpenClaim := { program := "ytamhkfnghgbenaa", sum := "39b9ddb3a5ac707c0ec42fbc61d64474a2bf439bed405323a739c46a17bab9e1", func := "portmanteau/portmanteaulaw22.PlanIs", spec := "planIs", unfollowed := true, recurses := true, apart := false, narrowed := true }
def PlanIsUptoSaid : Prop := planIsUptoRow.holds Try.pinned (OpenSpec.upto planIsSpec)

/-- 'portmanteaulaw22.PlanLits', WHERE WHAT IT READS IS OF BULK AT MOST 1048576: true; the input reads as it did. -/
def planLitsUptoRow : OpenClaim := { program := "ytamhkfnghgbenaa", sum := "39b9ddb3a5ac707c0ec42fbc61d64474a2bf439bed405323a739c46a17bab9e1", func := "portmanteau/portmanteaulaw22.PlanLits", spec := "planLits", unfollowed := true, recurses := true, apart := false, narrowed := true }
def PlanLitsUptoSaid : Prop := planLitsUptoRow.holds Try.pinned (OpenSpec.upto planLitsSpec)

/-- 'portmanteaulaw22.PlanCuts', WHERE WHAT IT READS IS OF BULK AT MOST 1048576: true; the input reads as it did. -/
def planCutsUptoRow : OpenClaim := { program := "ytamhkfnghgbenaa", sum := "39b9ddb3a5ac707c0ec42fbc61d64474a2bf439bed405323a739c46a17bab9e1", func := "portmanteau/portmanteaulaw22.PlanCuts", spec := "planCuts", unfollowed := true, recurses := true, apart := false, narrowed := true }
def PlanCutsUptoSaid : Prop := planCutsUptoRow.holds Try.pinned (OpenSpec.upto planCutsSpec)

/-- 'portmanteaulaw22.PlanMore', WHERE WHAT IT READS IS OF BULK AT MOST 1048576: true; the input reads as it did. -/
def planMoreUptoRow : OpenClaim := { program := "ytamhkfnghgbenaa", sum := "39b9ddb3a5ac707c0ec42fbc61d64474a2bf439bed405323a739c46a17bab9e1", func := "portmanteau/portmanteaulaw22.PlanMore", spec := "planMore", unfollowed := true, recurses := true, apart := false, narrowed := true }
def PlanMoreUptoSaid : Prop := planMoreUptoRow.holds Try.pinned (OpenSpec.upto planMoreSpec)

/-- 'portmanteaulaw22.PlanHolds', WHERE WHAT IT READS IS OF BULK AT MOST 1048576: true; the input reads as it did. -/
def planHoldsUptoRow : OpenClaim := { program := "ytamhkfnghgbenaa", sum := "39b9ddb3a5ac707c0ec42fbc61d64474a2bf439bed405323a739c46a17bab9e1", func := "portmanteau/portmanteaulaw22.PlanHolds", spec := "planHolds", unfollowed := true, recurses := true, apart := false, narrowed := true }
def PlanHoldsUptoSaid : Prop := planHoldsUptoRow.holds Try.pinned (OpenSpec.upto planHoldsSpec)

/-- 'portmanteaulaw22.PlanSteps', WHERE WHAT IT READS IS OF BULK AT MOST 1048576: true; the input reads as it did. -/
def planStepsUptoRow : OpenClaim := { program := "ytamhkfnghgbenaa", sum := "39b9ddb3a5ac707c0ec42fbc61d64474a2bf439bed405323a739c46a17bab9e1", func := "portmanteau/portmanteaulaw22.PlanSteps", spec := "planSteps", unfollowed := true, recurses := true, apart := false, narrowed := true }
def PlanStepsUptoSaid : Prop := planStepsUptoRow.holds Try.pinned (OpenSpec.upto planStepsSpec)

/-- 'portmanteaulaw22.PlanCounts', WHERE WHAT IT READS IS OF BULK AT MOST 1048576: true; the input reads as it did. -/
def planCountsUptoRow : OpenClaim := { program := "ytamhkfnghgbenaa", sum := "39b9ddb3a5ac707c0ec42fbc61d64474a2bf439bed405323a739c46a17bab9e1", func := "portmanteau/portmanteaulaw22.PlanCounts", spec := "planCounts", unfollowed := true, recurses := true, apart := false, narrowed := true }
def PlanCountsUptoSaid : Prop := planCountsUptoRow.holds Try.pinned (OpenSpec.upto planCountsSpec)

end Rows
end Go.Proofs.Ytamhkfnghgbenaa
