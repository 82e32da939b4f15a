/-
  No cell of these rows narrows 'for every input' (looked for: loops, veiled, ifaces, maps, wideKeys, modest, calm, conditions, laid).
  DERIVED. THE GIVEN ROWS OF THIS SEAT. 8 by the template 'for every input the law returns true; each argument reads behind the call as it read before'; 0 by the template 'total and deterministic' (their statements: YtndgdehlnmheeaaTotals.lean).
  GIVEN WITH THE SEED: the statements are not yours to turn. If you find one false, say at which input.
  Laid BY PROGRAM, IN A SANDBOX (cutbox-rows.mjs): the forced cells as the released guide's own fill.sh prints them over the translation 7a604b11e6d44faa… (all of the seat's roots in one cut). By AI agents, Wed Nov 11 2026. No macro, syntax, notation, axiom, sorry.
-/
import Derived.Test.YtndgdehlnmheeaaChecked
import GoSem.Claim
import GoSem.ClaimJoined
import GoSem.ClaimMapViews
import Derived.JoinedTies
import Derived.KernelRfl
namespace Go.Proofs.Ytndgdehlnmheeaa
/- THE CELL 'sum', in the pinned program and in every row, IS THE sha256 OF THE DUMP (.gsa) THAT YtndgdehlnmheeaaProg.lean LOADS. Nothing in Lean hashes anything: it is a label: what it is worth is what the hold of that sum in a sandbox is worth. -/
noncomputable def Try.pinned : Pinned := { name := "ytndgdehlnmheeaa", sum := "7a604b11e6d44faa6171435085b863690502562c119d692ea48bf24a33a1cf56", checked := Try.checked }
namespace Rows
def none {H : Type} : Left H := { results := [], args := [] }

/-- 'portmanteaulaw26.ExecBack': WHATEVER THE INPUT: true; the input reads as it did. -/
def execBackSpec : ChangeSpec := { name := "execBack", fn := fun _ => fun
  | [d1, d2, d3, d4] => { results := [.lit (.bool true)], args := [d1, d2, d3, d4] }
  | _ => none }
def execBackRow : OpenClaim := { program := "ytndgdehlnmheeaa", sum := "7a604b11e6d44faa6171435085b863690502562c119d692ea48bf24a33a1cf56", func := "portmanteau/portmanteaulaw26.ExecBack", spec := "execBack", unfollowed := true, recurses := true, apart := false }
def ExecBackSaid : Prop := execBackRow.holds Try.pinned (OpenSpec.ofChange execBackSpec)

/-- ITS FALSE NEIGHBOUR: 'it returns false'. Refute it at one input. -/
def execBackWrong : ChangeSpec := { name := "execBack", fn := fun _ => fun
  | [d1, d2, d3, d4] => { results := [.lit (.bool false)], args := [d1, d2, d3, d4] }
  | _ => none }
def ExecBackWrongFalsely : Prop := execBackRow.holds Try.pinned (OpenSpec.ofChange execBackWrong)

/-- 'portmanteaulaw26.ExecHolds': WHATEVER THE INPUT: true; the input reads as it did. -/
def execHoldsSpec : ChangeSpec := { name := "execHolds", fn := fun _ => fun
  | [d1, d2, d3, d4] => { results := [.lit (.bool true)], args := [d1, d2, d3, d4] }
  | _ => none }
def execHoldsRow : OpenClaim := { program := "ytndgdehlnmheeaa", sum := "7a604b11e6d44faa6171435085b863690502562c119d692ea48bf24a33a1cf56", func := "portmanteau/portmanteaulaw26.ExecHolds", spec := "execHolds", unfollowed := true, recurses := true, apart := false }
def ExecHoldsSaid : Prop := execHoldsRow.holds Try.pinned (OpenSpec.ofChange execHoldsSpec)

/-- ITS FALSE NEIGHBOUR: 'it returns false'. Refute it at one input. -/
def execHoldsWrong : ChangeSpec := { name := "execHolds", fn := fun _ => fun
  | [d1, d2, d3, d4] => { results := [.lit (.bool false)], args := [d1, d2, d3, d4] }
  | _ => none }
def ExecHoldsWrongFalsely : Prop := execHoldsRow.holds Try.pinned (OpenSpec.ofChange execHoldsWrong)

/-- 'portmanteaulaw26.ExecChecks': WHATEVER THE INPUT: true; the input reads as it did. -/
def execChecksSpec : ChangeSpec := { name := "execChecks", fn := fun _ => fun
  | [d1, d2, d3, d4, d5] => { results := [.lit (.bool true)], args := [d1, d2, d3, d4, d5] }
  | _ => none }
def execChecksRow : OpenClaim := { program := "ytndgdehlnmheeaa", sum := "7a604b11e6d44faa6171435085b863690502562c119d692ea48bf24a33a1cf56", func := "portmanteau/portmanteaulaw26.ExecChecks", spec := "execChecks", unfollowed := true, recurses := true, apart := false }
def ExecChecksSaid : Prop := execChecksRow.holds Try.pinned (OpenSpec.ofChange execChecksSpec)

/-- ITS FALSE NEIGHBOUR: 'it returns false'. Refute it at one input. -/
def execChecksWrong : ChangeSpec := { name := "execChecks", fn := fun _ => fun
  | [d1, d2, d3, d4, d5] => { results := [.lit (.bool false)], args := [d1, d2, d3, d4, d5] }
  | _ => none }
def ExecChecksWrongFalsely : Prop := execChecksRow.holds Try.pinned (OpenSpec.ofChange execChecksWrong)

/-- 'portmanteaulaw26.ExecRuns': WHATEVER THE INPUT: true; the input reads as it did. -/
def execRunsSpec : ChangeSpec := { name := "execRuns", fn := fun _ => fun
  | [d1, d2, d3, d4, d5] => { results := [.lit (.bool true)], args := [d1, d2, d3, d4, d5] }
  | _ => none }
def execRunsRow : OpenClaim := { program := "ytndgdehlnmheeaa", sum := "7a604b11e6d44faa6171435085b863690502562c119d692ea48bf24a33a1cf56", func := "portmanteau/portmanteaulaw26.ExecRuns", spec := "execRuns", unfollowed := true, recurses := true, apart := false }
def ExecRunsSaid : Prop := execRunsRow.holds Try.pinned (OpenSpec.ofChange execRunsSpec)

/-- ITS FALSE NEIGHBOUR: 'it returns false'. Refute it at one input. -/
def execRunsWrong : ChangeSpec := { name := "execRuns", fn := fun _ => fun
  | [d1, d2, d3, d4, d5] => { results := [.lit (.bool false)], args := [d1, d2, d3, d4, d5] }
  | _ => none }
def ExecRunsWrongFalsely : Prop := execRunsRow.holds Try.pinned (OpenSpec.ofChange execRunsWrong)

/-- 'portmanteaulaw26.ExecBounds': WHATEVER THE INPUT: true; the input reads as it did. -/
def execBoundsSpec : ChangeSpec := { name := "execBounds", fn := fun _ => fun
  | [d1, d2, d3] => { results := [.lit (.bool true)], args := [d1, d2, d3] }
  | _ => none }
def execBoundsRow : OpenClaim := { program := "ytndgdehlnmheeaa", sum := "7a604b11e6d44faa6171435085b863690502562c119d692ea48bf24a33a1cf56", func := "portmanteau/portmanteaulaw26.ExecBounds", spec := "execBounds", unfollowed := true, recurses := true, apart := false }
def ExecBoundsSaid : Prop := execBoundsRow.holds Try.pinned (OpenSpec.ofChange execBoundsSpec)

/-- ITS FALSE NEIGHBOUR: 'it returns false'. Refute it at one input. -/
def execBoundsWrong : ChangeSpec := { name := "execBounds", fn := fun _ => fun
  | [d1, d2, d3] => { results := [.lit (.bool false)], args := [d1, d2, d3] }
  | _ => none }
def ExecBoundsWrongFalsely : Prop := execBoundsRow.holds Try.pinned (OpenSpec.ofChange execBoundsWrong)

/-- 'portmanteaulaw26.ExecPieces': WHATEVER THE INPUT: true; the input reads as it did. -/
def execPiecesSpec : ChangeSpec := { name := "execPieces", fn := fun _ => fun
  | [d1, d2, d3, d4, d5, d6, d7] => { results := [.lit (.bool true)], args := [d1, d2, d3, d4, d5, d6, d7] }
  | _ => none }
def execPiecesRow : OpenClaim := { program := "ytndgdehlnmheeaa", sum := "7a604b11e6d44faa6171435085b863690502562c119d692ea48bf24a33a1cf56", func := "portmanteau/portmanteaulaw26.ExecPieces", spec := "execPieces", unfollowed := true, recurses := true, apart := false }
def ExecPiecesSaid : Prop := execPiecesRow.holds Try.pinned (OpenSpec.ofChange execPiecesSpec)

/-- ITS FALSE NEIGHBOUR: 'it returns false'. Refute it at one input. -/
def execPiecesWrong : ChangeSpec := { name := "execPieces", fn := fun _ => fun
  | [d1, d2, d3, d4, d5, d6, d7] => { results := [.lit (.bool false)], args := [d1, d2, d3, d4, d5, d6, d7] }
  | _ => none }
def ExecPiecesWrongFalsely : Prop := execPiecesRow.holds Try.pinned (OpenSpec.ofChange execPiecesWrong)

/-- 'portmanteaulaw26.ExecNone': WHATEVER THE INPUT: true; the input reads as it did. -/
def execNoneSpec : ChangeSpec := { name := "execNone", fn := fun _ => fun
  | [d1, d2, d3, d4] => { results := [.lit (.bool true)], args := [d1, d2, d3, d4] }
  | _ => none }
def execNoneRow : OpenClaim := { program := "ytndgdehlnmheeaa", sum := "7a604b11e6d44faa6171435085b863690502562c119d692ea48bf24a33a1cf56", func := "portmanteau/portmanteaulaw26.ExecNone", spec := "execNone", unfollowed := true, recurses := true, apart := false }
def ExecNoneSaid : Prop := execNoneRow.holds Try.pinned (OpenSpec.ofChange execNoneSpec)

/-- ITS FALSE NEIGHBOUR: 'it returns false'. Refute it at one input. -/
def execNoneWrong : ChangeSpec := { name := "execNone", fn := fun _ => fun
  | [d1, d2, d3, d4] => { results := [.lit (.bool false)], args := [d1, d2, d3, d4] }
  | _ => none }
def ExecNoneWrongFalsely : Prop := execNoneRow.holds Try.pinned (OpenSpec.ofChange execNoneWrong)

/-- 'portmanteaulaw26.ExecParts': WHATEVER THE INPUT: true; the input reads as it did. -/
def execPartsSpec : ChangeSpec := { name := "execParts", fn := fun _ => fun
  | [d1, d2, d3, d4, d5] => { results := [.lit (.bool true)], args := [d1, d2, d3, d4, d5] }
  | _ => none }
def execPartsRow : OpenClaim := { program := "ytndgdehlnmheeaa", sum := "7a604b11e6d44faa6171435085b863690502562c119d692ea48bf24a33a1cf56", func := "portmanteau/portmanteaulaw26.ExecParts", spec := "execParts", unfollowed := true, recurses := true, apart := false }
def ExecPartsSaid : Prop := execPartsRow.holds Try.pinned (OpenSpec.ofChange execPartsSpec)

/-- ITS FALSE NEIGHBOUR: 'it returns false'. Refute it at one input. -/
def execPartsWrong : ChangeSpec := { name := "execParts", fn := fun _ => fun
  | [d1, d2, d3, d4, d5] => { results := [.lit (.bool false)], args := [d1, d2, d3, d4, d5] }
  | _ => none }
def ExecPartsWrongFalsely : Prop := execPartsRow.holds Try.pinned (OpenSpec.ofChange execPartsWrong)

/- THE SECOND FORM. 'bulk': how many values and letters a reading holds, each counted each time it is reached (what is shared counts as often as it is met; a slice's spare places count too). A statement '..UptoSaid' is the law's where the arguments, and the package variables that the reading takes, are together of bulk at most 1048576: NARROWER than '..Said'. Prove '..Said' where nothing that the law and all that it calls make is longer than what came in: it says more and counts as full. Else prove '..UptoSaid'. A law counts once. -/
mutual
def uptoBulk {H : Type} : DataW H → Nat
  | .lit (.string bytes) => bytes.length + 1
  | .lit _ => 1
  | .nil => 1
  | .ptr d => uptoBulk d + 1
  | .slice elems spare => uptoBulkAll elems + uptoBulkAll spare + 1
  | .agg parts => uptoBulkAll parts + 1
  | .iface _ d => uptoBulk d + 1
  | .map entries => uptoBulkEntries entries + 1
  | .held _ => 1
def uptoBulkAll {H : Type} : List (DataW H) → Nat
  | [] => 0
  | d :: r => uptoBulk d + uptoBulkAll r
def uptoBulkEntries {H : Type} : List (Lit × DataW H) → Nat
  | [] => 0
  | x :: r => uptoBulkEntry x + uptoBulkEntries r
def uptoBulkEntry {H : Type} : Lit × DataW H → Nat
  | (.string bytes, d) => bytes.length + uptoBulk d + 1
  | (_, d) => uptoBulk d + 1
 end
def uptoSmall : (H : Type) → List (DataW H) → Bool := fun _ ds => decide (uptoBulkAll ds ≤ 1048576)
def OpenSpec.upto (s : _root_.Go.ChangeSpec) : _root_.Go.OpenSpec := { _root_.Go.OpenSpec.ofChange s with cond := some uptoSmall }

/-- 'portmanteaulaw26.ExecBack', WHERE WHAT IT READS IS OF BULK AT MOST 1048576: true; the input reads as it did. -/
def execBackUptoRow : OpenClaim := { program := "ytndgdehlnmheeaa", sum := "7a604b11e6d44faa6171435085b863690502562c119d692ea48bf24a33a1cf56", func := "portmanteau/portmanteaulaw26.ExecBack", spec := "execBack", unfollowed := true, recurses := true, apart := false, narrowed := true }
def ExecBackUptoSaid : Prop := execBackUptoRow.holds Try.pinned (OpenSpec.upto execBackSpec)

/-- 'portmanteaulaw26.ExecHolds', WHERE WHAT IT READS IS OF BULK AT MOST 1048576: true; the input reads as it did. -/
def execHoldsUptoRow : OpenClaim := { program := "ytndgdehlnmheeaa", sum := "7a604b11e6d44faa6171435085b863690502562c119d692ea48bf24a33a1cf56", func := "portmanteau/portmanteaulaw26.ExecHolds", spec := "execHolds", unfollowed := true, recurses := true, apart := false, narrowed := true }
def ExecHoldsUptoSaid : Prop := execHoldsUptoRow.holds Try.pinned (OpenSpec.upto execHoldsSpec)

/-- 'portmanteaulaw26.ExecChecks', WHERE WHAT IT READS IS OF BULK AT MOST 1048576: true; the input reads as it did. -/
def execChecksUptoRow : OpenClaim := { program := "ytndgdehlnmheeaa", sum := "7a604b11e6d44faa6171435085b863690502562c119d692ea48bf24a33a1cf56", func := "portmanteau/portmanteaulaw26.ExecChecks", spec := "execChecks", unfollowed := true, recurses := true, apart := false, narrowed := true }
def ExecChecksUptoSaid : Prop := execChecksUptoRow.holds Try.pinned (OpenSpec.upto execChecksSpec)

/-- 'portmanteaulaw26.ExecRuns', WHERE WHAT IT READS IS OF BULK AT MOST 1048576: true; the input reads as it did. -/
def execRunsUptoRow : OpenClaim := { program := "ytndgdehlnmheeaa", sum := "7a604b11e6d44faa6171435085b863690502562c119d692ea48bf24a33a1cf56", func := "portmanteau/portmanteaulaw26.ExecRuns", spec := "execRuns", unfollowed := true, recurses := true, apart := false, narrowed := true }
def ExecRunsUptoSaid : Prop := execRunsUptoRow.holds Try.pinned (OpenSpec.upto execRunsSpec)

/-- 'portmanteaulaw26.ExecBounds', WHERE WHAT IT READS IS OF BULK AT MOST 1048576: true; the input reads as it did. -/
def execBoundsUptoRow : OpenClaim := { program := "ytndgdehlnmheeaa", sum := "7a604b11e6d44faa6171435085b863690502562c119d692ea48bf24a33a1cf56", func := "portmanteau/portmanteaulaw26.ExecBounds", spec := "execBounds", unfollowed := true, recurses := true, apart := false, narrowed := true }
def ExecBoundsUptoSaid : Prop := execBoundsUptoRow.holds Try.pinned (OpenSpec.upto execBoundsSpec)

/-- 'portmanteaulaw26.ExecPieces', WHERE WHAT IT READS IS OF BULK AT MOST 1048576: true; the input reads as it did. -/
def execPiecesUptoRow : OpenClaim := { program := "ytndgdehlnmheeaa", sum := "7a604b11e6d44faa6171435085b863690502562c119d692ea48bf24a33a1cf56", func := "portmanteau/portmanteaulaw26.ExecPieces", spec := "execPieces", unfollowed := true, recurses := true, apart := false, narrowed := true }
def ExecPiecesUptoSaid : Prop := execPiecesUptoRow.holds Try.pinned (OpenSpec.upto execPiecesSpec)

/-- 'portmanteaulaw26.ExecNone', WHERE WHAT IT READS IS OF BULK AT MOST 1048576: true; the input reads as it did. -/
def execNoneUptoRow : OpenClaim := { program := "ytndgdehlnmheeaa", sum := "7a604b11e6d44faa6171435085b863690502562c119d692ea48bf24a33a1cf56", func := "portmanteau/portmanteaulaw26.ExecNone", spec := "execNone", unfollowed := true, recurses := true, apart := false, narrowed := true }
def ExecNoneUptoSaid : Prop := execNoneUptoRow.holds Try.pinned (OpenSpec.upto execNoneSpec)

/-- 'portmanteaulaw26.ExecParts', WHERE WHAT IT READS IS OF BULK AT MOST 1048576: true; the input reads as it did. -/
def execPartsUptoRow : OpenClaim := { program := "ytndgdehlnmheeaa", sum := "7a604b11e6d44faa6171435085b863690502562c119d692ea48bf24a33a1cf56", func := "portmanteau/portmanteaulaw26.ExecParts", spec := "execParts", unfollowed := true, recurses := true, apart := false, narrowed := true }
def ExecPartsUptoSaid : Prop := execPartsUptoRow.holds Try.pinned (OpenSpec.upto execPartsSpec)

end Rows
end Go.Proofs.Ytndgdehlnmheeaa
