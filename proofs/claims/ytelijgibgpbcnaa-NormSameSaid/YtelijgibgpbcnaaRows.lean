/-
  No cell of these rows narrows 'for every input' (looked for: loops, veiled, ifaces, maps, wideKeys, modest, calm, conditions, laid).
  DERIVED. THE GIVEN ROWS OF THIS SEAT. 9 by the template 'for every input the law returns true; each argument reads behind the call as it read before'; 0 by the template 'total and deterministic' (their statements: YtelijgibgpbcnaaTotals.lean).
  GIVEN WITH THE SEED: the statements are not yours to turn. If you find one false, say at which input.
  Laid BY PROGRAM, IN A SANDBOX (cutbox-rows.mjs): the forced cells as the released guide's own fill.sh prints them over the translation dda8b820dc9d3795… (all of the seat's roots in one cut). By AI agents, Wed Nov 11 2026. No macro, syntax, notation, axiom, sorry.
-/
import Derived.Test.YtelijgibgpbcnaaChecked
import GoSem.Claim
import GoSem.ClaimJoined
import GoSem.ClaimMapViews
import Derived.JoinedTies
import Derived.KernelRfl
namespace Go.Proofs.Ytelijgibgpbcnaa
/- THE CELL 'sum', in the pinned program and in every row, IS THE sha256 OF THE DUMP (.gsa) THAT YtelijgibgpbcnaaProg.lean LOADS. Nothing in Lean hashes anything: it is a label: what it is worth is what the hold of that sum in a sandbox is worth. -/
noncomputable def Try.pinned : Pinned := { name := "ytelijgibgpbcnaa", sum := "dda8b820dc9d3795316ff198362b3022cf373853d69f8cda69457a5dca7bff24", checked := Try.checked }
namespace Rows
def none {H : Type} : Left H := { results := [], args := [] }

/-- 'portmanteaulaw07.NormNormals': WHATEVER THE INPUT: true; the input reads as it did. -/
def normNormalsSpec : ChangeSpec := { name := "normNormals", fn := fun _ => fun
  | [d1, d2] => { results := [.lit (.bool true)], args := [d1, d2] }
  | _ => none }
def normNormalsRow : OpenClaim := { program := "ytelijgibgpbcnaa", sum := "dda8b820dc9d3795316ff198362b3022cf373853d69f8cda69457a5dca7bff24", func := "portmanteau/portmanteaulaw07.NormNormals", spec := "normNormals", unfollowed := true, recurses := true, apart := false }
def NormNormalsSaid : Prop := normNormalsRow.holds Try.pinned (OpenSpec.ofChange normNormalsSpec)

/-- ITS FALSE NEIGHBOUR: 'it returns false'. Refute it at one input. -/
def normNormalsWrong : ChangeSpec := { name := "normNormals", fn := fun _ => fun
  | [d1, d2] => { results := [.lit (.bool false)], args := [d1, d2] }
  | _ => none }
def NormNormalsWrongFalsely : Prop := normNormalsRow.holds Try.pinned (OpenSpec.ofChange normNormalsWrong)

/-- 'portmanteaulaw07.NormLogs': WHATEVER THE INPUT: true; the input reads as it did. -/
def normLogsSpec : ChangeSpec := { name := "normLogs", fn := fun _ => fun
  | [d1, d2] => { results := [.lit (.bool true)], args := [d1, d2] }
  | _ => none }
def normLogsRow : OpenClaim := { program := "ytelijgibgpbcnaa", sum := "dda8b820dc9d3795316ff198362b3022cf373853d69f8cda69457a5dca7bff24", func := "portmanteau/portmanteaulaw07.NormLogs", spec := "normLogs", unfollowed := true, recurses := true, apart := false }
def NormLogsSaid : Prop := normLogsRow.holds Try.pinned (OpenSpec.ofChange normLogsSpec)

/-- ITS FALSE NEIGHBOUR: 'it returns false'. Refute it at one input. -/
def normLogsWrong : ChangeSpec := { name := "normLogs", fn := fun _ => fun
  | [d1, d2] => { results := [.lit (.bool false)], args := [d1, d2] }
  | _ => none }
def NormLogsWrongFalsely : Prop := normLogsRow.holds Try.pinned (OpenSpec.ofChange normLogsWrong)

/-- 'portmanteaulaw07.NormOrder': WHATEVER THE INPUT: true; the input reads as it did. -/
def normOrderSpec : ChangeSpec := { name := "normOrder", fn := fun _ => fun
  | [d1, d2] => { results := [.lit (.bool true)], args := [d1, d2] }
  | _ => none }
def normOrderRow : OpenClaim := { program := "ytelijgibgpbcnaa", sum := "dda8b820dc9d3795316ff198362b3022cf373853d69f8cda69457a5dca7bff24", func := "portmanteau/portmanteaulaw07.NormOrder", spec := "normOrder", unfollowed := true, recurses := true, apart := false }
def NormOrderSaid : Prop := normOrderRow.holds Try.pinned (OpenSpec.ofChange normOrderSpec)

/-- ITS FALSE NEIGHBOUR: 'it returns false'. Refute it at one input. -/
def normOrderWrong : ChangeSpec := { name := "normOrder", fn := fun _ => fun
  | [d1, d2] => { results := [.lit (.bool false)], args := [d1, d2] }
  | _ => none }
def NormOrderWrongFalsely : Prop := normOrderRow.holds Try.pinned (OpenSpec.ofChange normOrderWrong)

/-- 'portmanteaulaw07.NormShares': WHATEVER THE INPUT: true; the input reads as it did. -/
def normSharesSpec : ChangeSpec := { name := "normShares", fn := fun _ => fun
  | [d1, d2] => { results := [.lit (.bool true)], args := [d1, d2] }
  | _ => none }
def normSharesRow : OpenClaim := { program := "ytelijgibgpbcnaa", sum := "dda8b820dc9d3795316ff198362b3022cf373853d69f8cda69457a5dca7bff24", func := "portmanteau/portmanteaulaw07.NormShares", spec := "normShares", unfollowed := true, recurses := true, apart := false }
def NormSharesSaid : Prop := normSharesRow.holds Try.pinned (OpenSpec.ofChange normSharesSpec)

/-- ITS FALSE NEIGHBOUR: 'it returns false'. Refute it at one input. -/
def normSharesWrong : ChangeSpec := { name := "normShares", fn := fun _ => fun
  | [d1, d2] => { results := [.lit (.bool false)], args := [d1, d2] }
  | _ => none }
def NormSharesWrongFalsely : Prop := normSharesRow.holds Try.pinned (OpenSpec.ofChange normSharesWrong)

/-- 'portmanteaulaw07.NormTimes': WHATEVER THE INPUT: true; the input reads as it did. -/
def normTimesSpec : ChangeSpec := { name := "normTimes", fn := fun _ => fun
  | [d1, d2, d3] => { results := [.lit (.bool true)], args := [d1, d2, d3] }
  | _ => none }
def normTimesRow : OpenClaim := { program := "ytelijgibgpbcnaa", sum := "dda8b820dc9d3795316ff198362b3022cf373853d69f8cda69457a5dca7bff24", func := "portmanteau/portmanteaulaw07.NormTimes", spec := "normTimes", unfollowed := true, recurses := true, apart := false }
def NormTimesSaid : Prop := normTimesRow.holds Try.pinned (OpenSpec.ofChange normTimesSpec)

/-- ITS FALSE NEIGHBOUR: 'it returns false'. Refute it at one input. -/
def normTimesWrong : ChangeSpec := { name := "normTimes", fn := fun _ => fun
  | [d1, d2, d3] => { results := [.lit (.bool false)], args := [d1, d2, d3] }
  | _ => none }
def NormTimesWrongFalsely : Prop := normTimesRow.holds Try.pinned (OpenSpec.ofChange normTimesWrong)

/-- 'portmanteaulaw07.NormWhole': WHATEVER THE INPUT: true; the input reads as it did. -/
def normWholeSpec : ChangeSpec := { name := "normWhole", fn := fun _ => fun
  | [d1, d2] => { results := [.lit (.bool true)], args := [d1, d2] }
  | _ => none }
def normWholeRow : OpenClaim := { program := "ytelijgibgpbcnaa", sum := "dda8b820dc9d3795316ff198362b3022cf373853d69f8cda69457a5dca7bff24", func := "portmanteau/portmanteaulaw07.NormWhole", spec := "normWhole", unfollowed := true, recurses := true, apart := false }
def NormWholeSaid : Prop := normWholeRow.holds Try.pinned (OpenSpec.ofChange normWholeSpec)

/-- ITS FALSE NEIGHBOUR: 'it returns false'. Refute it at one input. -/
def normWholeWrong : ChangeSpec := { name := "normWhole", fn := fun _ => fun
  | [d1, d2] => { results := [.lit (.bool false)], args := [d1, d2] }
  | _ => none }
def NormWholeWrongFalsely : Prop := normWholeRow.holds Try.pinned (OpenSpec.ofChange normWholeWrong)

/-- 'portmanteaulaw07.NormSame': WHATEVER THE INPUT: true; the input reads as it did. -/
def normSameSpec : ChangeSpec := { name := "normSame", fn := fun _ => fun
  | [d1, d2, d3, d4] => { results := [.lit (.bool true)], args := [d1, d2, d3, d4] }
  | _ => none }
def normSameRow : OpenClaim := { program := "ytelijgibgpbcnaa", sum := "dda8b820dc9d3795316ff198362b3022cf373853d69f8cda69457a5dca7bff24", func := "portmanteau/portmanteaulaw07.NormSame", spec := "normSame", unfollowed := true, recurses := true, apart := false }
def NormSameSaid : Prop := normSameRow.holds Try.pinned (OpenSpec.ofChange normSameSpec)

/-- ITS FALSE NEIGHBOUR: 'it returns false'. Refute it at one input. -/
def normSameWrong : ChangeSpec := { name := "normSame", fn := fun _ => fun
  | [d1, d2, d3, d4] => { results := [.lit (.bool false)], args := [d1, d2, d3, d4] }
  | _ => none }
def NormSameWrongFalsely : Prop := normSameRow.holds Try.pinned (OpenSpec.ofChange normSameWrong)

/-- 'portmanteaulaw07.NormMay': WHATEVER THE INPUT: true; the input reads as it did. -/
def normMaySpec : ChangeSpec := { name := "normMay", fn := fun _ => fun
  | [d1, d2, d3] => { results := [.lit (.bool true)], args := [d1, d2, d3] }
  | _ => none }
def normMayRow : OpenClaim := { program := "ytelijgibgpbcnaa", sum := "dda8b820dc9d3795316ff198362b3022cf373853d69f8cda69457a5dca7bff24", func := "portmanteau/portmanteaulaw07.NormMay", spec := "normMay", unfollowed := true, recurses := true, apart := false }
def NormMaySaid : Prop := normMayRow.holds Try.pinned (OpenSpec.ofChange normMaySpec)

/-- ITS FALSE NEIGHBOUR: 'it returns false'. Refute it at one input. -/
def normMayWrong : ChangeSpec := { name := "normMay", fn := fun _ => fun
  | [d1, d2, d3] => { results := [.lit (.bool false)], args := [d1, d2, d3] }
  | _ => none }
def NormMayWrongFalsely : Prop := normMayRow.holds Try.pinned (OpenSpec.ofChange normMayWrong)

/-- 'portmanteaulaw07.NormFits': WHATEVER THE INPUT: true; the input reads as it did. -/
def normFitsSpec : ChangeSpec := { name := "normFits", fn := fun _ => fun
  | [d1, d2] => { results := [.lit (.bool true)], args := [d1, d2] }
  | _ => none }
def normFitsRow : OpenClaim := { program := "ytelijgibgpbcnaa", sum := "dda8b820dc9d3795316ff198362b3022cf373853d69f8cda69457a5dca7bff24", func := "portmanteau/portmanteaulaw07.NormFits", spec := "normFits", unfollowed := true, recurses := true, apart := false }
def NormFitsSaid : Prop := normFitsRow.holds Try.pinned (OpenSpec.ofChange normFitsSpec)

/-- ITS FALSE NEIGHBOUR: 'it returns false'. Refute it at one input. -/
def normFitsWrong : ChangeSpec := { name := "normFits", fn := fun _ => fun
  | [d1, d2] => { results := [.lit (.bool false)], args := [d1, d2] }
  | _ => none }
def NormFitsWrongFalsely : Prop := normFitsRow.holds Try.pinned (OpenSpec.ofChange normFitsWrong)

/- THE SECOND FORM. 'bulk': how many values and letters a reading holds, each counted each time it is reached (what is shared counts as often as it is met; a slice's spare places count too). A statement '..UptoSaid' is the law's where the arguments, and the package variables that the reading takes, are together of bulk at most 1048576: NARROWER than '..Said'. Prove '..Said' where nothing that the law and all that it calls make is longer than what came in: it says more and counts as full. Else prove '..UptoSaid'. A law counts once. -/
mutual
def uptoBulk {H : Type} : DataW H → Nat
  | .lit (.string bytes) => bytes.length + 1
  | .lit _ => 1
  | .nil => 1
  | .ptr d => uptoBulk d + 1
  | .slice elems spare => uptoBulkAll elems + uptoBulkAll spare + 1
  | .agg parts => uptoBulkAll parts + 1
  | .iface _ d => uptoBulk d + 1
  | .map entries => uptoBulkEntries entries + 1
  | .held _ => 1
def uptoBulkAll {H : Type} : List (DataW H) → Nat
  | [] => 0
  | d :: r => uptoBulk d + uptoBulkAll r
def uptoBulkEntries {H : Type} : List (Lit × DataW H) → Nat
  | [] => 0
  | x :: r => uptoBulkEntry x + uptoBulkEntries r
def uptoBulkEntry {H : Type} : Lit × DataW H → Nat
  | (.string bytes, d) => bytes.length + uptoBulk d + 1
  | (_, d) => uptoBulk d + 1
 end
def uptoSmall : (H : Type) → List (DataW H) → Bool := fun _ ds => decide (uptoBulkAll ds ≤ 1048576)
def OpenSpec.upto (s : _root_.Go.ChangeSpec) : _root_.Go.OpenSpec := { _root_.Go.OpenSpec.ofChange s with cond := some uptoSmall }

/-- 'portmanteaulaw07.NormNormals', WHERE WHAT IT READS IS OF BULK AT MOST 1048576: true; the input reads as it did. -/
def normNormalsUptoRow : OpenClaim := { program := "ytelijgibgpbcnaa", sum := "dda8b820dc9d3795316ff198362b3022cf373853d69f8cda69457a5dca7bff24", func := "portmanteau/portmanteaulaw07.NormNormals", spec := "normNormals", unfollowed := true, recurses := true, apart := false, narrowed := true }
def NormNormalsUptoSaid : Prop := normNormalsUptoRow.holds Try.pinned (OpenSpec.upto normNormalsSpec)

/-- 'portmanteaulaw07.NormLogs', WHERE WHAT IT READS IS OF BULK AT MOST 1048576: true; the input reads as it did. -/
def normLogsUptoRow : OpenClaim := { program := "ytelijgibgpbcnaa", sum := "dda8b820dc9d3795316ff198362b3022cf373853d69f8cda69457a5dca7bff24", func := "portmanteau/portmanteaulaw07.NormLogs", spec := "normLogs", unfollowed := true, recurses := true, apart := false, narrowed := true }
def NormLogsUptoSaid : Prop := normLogsUptoRow.holds Try.pinned (OpenSpec.upto normLogsSpec)

/-- 'portmanteaulaw07.NormOrder', WHERE WHAT IT READS IS OF BULK AT MOST 1048576: true; the input reads as it did. -/
def normOrderUptoRow : OpenClaim := { program := "ytelijgibgpbcnaa", sum := "dda8b820dc9d3795316ff198362b3022cf373853d69f8cda69457a5dca7bff24", func := "portmanteau/portmanteaulaw07.NormOrder", spec := "normOrder", unfollowed := true, recurses := true, apart := false, narrowed := true }
def NormOrderUptoSaid : Prop := normOrderUptoRow.holds Try.pinned (OpenSpec.upto normOrderSpec)

/-- 'portmanteaulaw07.NormShares', WHERE WHAT IT READS IS OF BULK AT MOST 1048576: true; the input reads as it did. -/
def normSharesUptoRow : OpenClaim := { program := "ytelijgibgpbcnaa", sum := "dda8b820dc9d3795316ff198362b3022cf373853d69f8cda69457a5dca7bff24", func := "portmanteau/portmanteaulaw07.NormShares", spec := "normShares", unfollowed := true, recurses := true, apart := false, narrowed := true }
def NormSharesUptoSaid : Prop := normSharesUptoRow.holds Try.pinned (OpenSpec.upto normSharesSpec)

/-- 'portmanteaulaw07.NormTimes', WHERE WHAT IT READS IS OF BULK AT MOST 1048576: true; the input reads as it did. -/
def normTimesUptoRow : OpenClaim := { program := "ytelijgibgpbcnaa", sum := "dda8b820dc9d3795316ff198362b3022cf373853d69f8cda69457a5dca7bff24", func := "portmanteau/portmanteaulaw07.NormTimes", spec := "normTimes", unfollowed := true, recurses := true, apart := false, narrowed := true }
def NormTimesUptoSaid : Prop := normTimesUptoRow.holds Try.pinned (OpenSpec.upto normTimesSpec)

/-- 'portmanteaulaw07.NormWhole', WHERE WHAT IT READS IS OF BULK AT MOST 1048576: true; the input reads as it did. -/
def normWholeUptoRow : OpenClaim := { program := "ytelijgibgpbcnaa", sum := "dda8b820dc9d3795316ff198362b3022cf373853d69f8cda69457a5dca7bff24", func := "portmanteau/portmanteaulaw07.NormWhole", spec := "normWhole", unfollowed := true, recurses := true, apart := false, narrowed := true }
def NormWholeUptoSaid : Prop := normWholeUptoRow.holds Try.pinned (OpenSpec.upto normWholeSpec)

/-- 'portmanteaulaw07.NormSame', WHERE WHAT IT READS IS OF BULK AT MOST 1048576: true; the input reads as it did. -/
def normSameUptoRow : OpenClaim := { program := "ytelijgibgpbcnaa", sum := "dda8b820dc9d3795316ff198362b3022cf373853d69f8cda69457a5dca7bff24", func := "portmanteau/portmanteaulaw07.NormSame", spec := "normSame", unfollowed := true, recurses := true, apart := false, narrowed := true }
def NormSameUptoSaid : Prop := normSameUptoRow.holds Try.pinned (OpenSpec.upto normSameSpec)

/-- 'portmanteaulaw07.NormMay', WHERE WHAT IT READS IS OF BULK AT MOST 1048576: true; the input reads as it did. -/
def normMayUptoRow : OpenClaim := { program := "ytelijgibgpbcnaa", sum := "dda8b820dc9d3795316ff198362b3022cf373853d69f8cda69457a5dca7bff24", func := "portmanteau/portmanteaulaw07.NormMay", spec := "normMay", unfollowed := true, recurses := true, apart := false, narrowed := true }
def NormMayUptoSaid : Prop := normMayUptoRow.holds Try.pinned (OpenSpec.upto normMaySpec)

/-- 'portmanteaulaw07.NormFits', WHERE WHAT IT READS IS OF BULK AT MOST 1048576: true; the input reads as it did. -/
def normFitsUptoRow : OpenClaim := { program := "ytelijgibgpbcnaa", sum := "dda8b820dc9d3795316ff198362b3022cf373853d69f8cda69457a5dca7bff24", func := "portmanteau/portmanteaulaw07.NormFits", spec := "normFits", unfollowed := true, recurses := true, apart := false, narrowed := true }
def NormFitsUptoSaid : Prop := normFitsUptoRow.holds Try.pinned (OpenSpec.upto normFitsSpec)

end Rows
end Go.Proofs.Ytelijgibgpbcnaa
