/-
  No cell of these rows narrows 'for every input' (looked for: loops, veiled, ifaces, maps, wideKeys, modest, calm, conditions, laid).
  DERIVED. THE GIVEN ROWS OF THIS SEAT. 8 by the template 'for every input the law returns true; each argument reads behind the call as it read before'; 0 by the template 'total and deterministic' (their statements: YtohmkcoodaidcaaTotals.lean).
  GIVEN WITH THE SEED: the statements are not yours to turn. If you find one false, say at which input.
  Laid BY PROGRAM, IN A SANDBOX (cutbox-rows.mjs): the forced cells as the released guide's own fill.sh prints them over the translation 6370303fadbdafb1… (all of the seat's roots in one cut). By AI agents, Wed Nov 11 2026. No macro, syntax, notation, axiom, sorry.
-/
import Derived.Test.YtohmkcoodaidcaaChecked
import GoSem.Claim
import GoSem.ClaimJoined
import GoSem.ClaimMapViews
import Derived.JoinedTies
import Derived.KernelRfl
namespace Go.Proofs.Ytohmkcoodaidcaa
/- THE CELL 'sum', in the pinned program and in every row, IS THE sha256 OF THE DUMP (.gsa) THAT YtohmkcoodaidcaaProg.lean LOADS. Nothing in Lean hashes anything: it is a label: what it is worth is what the hold of that sum in a sandbox is worth. -/
noncomputable def Try.pinned : Pinned := { name := "ytohmkcoodaidcaa", sum := "6370303fadbdafb14af27becc5674957eb78d5918c9e734cb9b11e7cfe86f2bc", checked := Try.checked }
namespace Rows
def none {H : Type} : Left H := { results := [], args := [] }

/-- 'portmanteaulaw06.RingBounds': WHATEVER THE INPUT: true; the input reads as it did. -/
def ringBoundsSpec : ChangeSpec := { name := "ringBounds", fn := fun _ => fun
  | [d1, d2, d3] => { results := [.lit (.bool true)], args := [d1, d2, d3] }
  | _ => none }
def ringBoundsRow : OpenClaim := { program := "ytohmkcoodaidcaa", sum := "6370303fadbdafb14af27becc5674957eb78d5918c9e734cb9b11e7cfe86f2bc", func := "portmanteau/portmanteaulaw06.RingBounds", spec := "ringBounds", unfollowed := true, recurses := true, apart := false }
def RingBoundsSaid : Prop := ringBoundsRow.holds Try.pinned (OpenSpec.ofChange ringBoundsSpec)

/-- ITS FALSE NEIGHBOUR: 'it returns false'. Refute it at one input. -/
def ringBoundsWrong : ChangeSpec := { name := "ringBounds", fn := fun _ => fun
  | [d1, d2, d3] => { results := [.lit (.bool false)], args := [d1, d2, d3] }
  | _ => none }
def RingBoundsWrongFalsely : Prop := ringBoundsRow.holds Try.pinned (OpenSpec.ofChange ringBoundsWrong)

/-- 'portmanteaulaw06.RingPlays': WHATEVER THE INPUT: true; the input reads as it did. -/
def ringPlaysSpec : ChangeSpec := { name := "ringPlays", fn := fun _ => fun
  | [d1, d2, d3, d4] => { results := [.lit (.bool true)], args := [d1, d2, d3, d4] }
  | _ => none }
def ringPlaysRow : OpenClaim := { program := "ytohmkcoodaidcaa", sum := "6370303fadbdafb14af27becc5674957eb78d5918c9e734cb9b11e7cfe86f2bc", func := "portmanteau/portmanteaulaw06.RingPlays", spec := "ringPlays", unfollowed := true, recurses := true, apart := false }
def RingPlaysSaid : Prop := ringPlaysRow.holds Try.pinned (OpenSpec.ofChange ringPlaysSpec)

/-- ITS FALSE NEIGHBOUR: 'it returns false'. Refute it at one input. -/
def ringPlaysWrong : ChangeSpec := { name := "ringPlays", fn := fun _ => fun
  | [d1, d2, d3, d4] => { results := [.lit (.bool false)], args := [d1, d2, d3, d4] }
  | _ => none }
def RingPlaysWrongFalsely : Prop := ringPlaysRow.holds Try.pinned (OpenSpec.ofChange ringPlaysWrong)

/-- 'portmanteaulaw06.RingPieces': WHATEVER THE INPUT: true; the input reads as it did. -/
def ringPiecesSpec : ChangeSpec := { name := "ringPieces", fn := fun _ => fun
  | [d1, d2] => { results := [.lit (.bool true)], args := [d1, d2] }
  | _ => none }
def ringPiecesRow : OpenClaim := { program := "ytohmkcoodaidcaa", sum := "6370303fadbdafb14af27becc5674957eb78d5918c9e734cb9b11e7cfe86f2bc", func := "portmanteau/portmanteaulaw06.RingPieces", spec := "ringPieces", unfollowed := true, recurses := true, apart := false }
def RingPiecesSaid : Prop := ringPiecesRow.holds Try.pinned (OpenSpec.ofChange ringPiecesSpec)

/-- ITS FALSE NEIGHBOUR: 'it returns false'. Refute it at one input. -/
def ringPiecesWrong : ChangeSpec := { name := "ringPieces", fn := fun _ => fun
  | [d1, d2] => { results := [.lit (.bool false)], args := [d1, d2] }
  | _ => none }
def RingPiecesWrongFalsely : Prop := ringPiecesRow.holds Try.pinned (OpenSpec.ofChange ringPiecesWrong)

/-- 'portmanteaulaw06.RingAhead': WHATEVER THE INPUT: true; the input reads as it did. -/
def ringAheadSpec : ChangeSpec := { name := "ringAhead", fn := fun _ => fun
  | [d1, d2, d3, d4, d5] => { results := [.lit (.bool true)], args := [d1, d2, d3, d4, d5] }
  | _ => none }
def ringAheadRow : OpenClaim := { program := "ytohmkcoodaidcaa", sum := "6370303fadbdafb14af27becc5674957eb78d5918c9e734cb9b11e7cfe86f2bc", func := "portmanteau/portmanteaulaw06.RingAhead", spec := "ringAhead", unfollowed := true, recurses := true, apart := false }
def RingAheadSaid : Prop := ringAheadRow.holds Try.pinned (OpenSpec.ofChange ringAheadSpec)

/-- ITS FALSE NEIGHBOUR: 'it returns false'. Refute it at one input. -/
def ringAheadWrong : ChangeSpec := { name := "ringAhead", fn := fun _ => fun
  | [d1, d2, d3, d4, d5] => { results := [.lit (.bool false)], args := [d1, d2, d3, d4, d5] }
  | _ => none }
def RingAheadWrongFalsely : Prop := ringAheadRow.holds Try.pinned (OpenSpec.ofChange ringAheadWrong)

/-- 'portmanteaulaw06.RingHolds': WHATEVER THE INPUT: true; the input reads as it did. -/
def ringHoldsSpec : ChangeSpec := { name := "ringHolds", fn := fun _ => fun
  | [d1, d2, d3, d4, d5] => { results := [.lit (.bool true)], args := [d1, d2, d3, d4, d5] }
  | _ => none }
def ringHoldsRow : OpenClaim := { program := "ytohmkcoodaidcaa", sum := "6370303fadbdafb14af27becc5674957eb78d5918c9e734cb9b11e7cfe86f2bc", func := "portmanteau/portmanteaulaw06.RingHolds", spec := "ringHolds", unfollowed := true, recurses := true, apart := false }
def RingHoldsSaid : Prop := ringHoldsRow.holds Try.pinned (OpenSpec.ofChange ringHoldsSpec)

/-- ITS FALSE NEIGHBOUR: 'it returns false'. Refute it at one input. -/
def ringHoldsWrong : ChangeSpec := { name := "ringHolds", fn := fun _ => fun
  | [d1, d2, d3, d4, d5] => { results := [.lit (.bool false)], args := [d1, d2, d3, d4, d5] }
  | _ => none }
def RingHoldsWrongFalsely : Prop := ringHoldsRow.holds Try.pinned (OpenSpec.ofChange ringHoldsWrong)

/-- 'portmanteaulaw06.RingClones': WHATEVER THE INPUT: true; the input reads as it did. -/
def ringClonesSpec : ChangeSpec := { name := "ringClones", fn := fun _ => fun
  | [d1, d2, d3, d4] => { results := [.lit (.bool true)], args := [d1, d2, d3, d4] }
  | _ => none }
def ringClonesRow : OpenClaim := { program := "ytohmkcoodaidcaa", sum := "6370303fadbdafb14af27becc5674957eb78d5918c9e734cb9b11e7cfe86f2bc", func := "portmanteau/portmanteaulaw06.RingClones", spec := "ringClones", unfollowed := true, recurses := true, apart := false }
def RingClonesSaid : Prop := ringClonesRow.holds Try.pinned (OpenSpec.ofChange ringClonesSpec)

/-- ITS FALSE NEIGHBOUR: 'it returns false'. Refute it at one input. -/
def ringClonesWrong : ChangeSpec := { name := "ringClones", fn := fun _ => fun
  | [d1, d2, d3, d4] => { results := [.lit (.bool false)], args := [d1, d2, d3, d4] }
  | _ => none }
def RingClonesWrongFalsely : Prop := ringClonesRow.holds Try.pinned (OpenSpec.ofChange ringClonesWrong)

/-- 'portmanteaulaw06.RingGoes': WHATEVER THE INPUT: true; the input reads as it did. -/
def ringGoesSpec : ChangeSpec := { name := "ringGoes", fn := fun _ => fun
  | [d1, d2, d3, d4, d5] => { results := [.lit (.bool true)], args := [d1, d2, d3, d4, d5] }
  | _ => none }
def ringGoesRow : OpenClaim := { program := "ytohmkcoodaidcaa", sum := "6370303fadbdafb14af27becc5674957eb78d5918c9e734cb9b11e7cfe86f2bc", func := "portmanteau/portmanteaulaw06.RingGoes", spec := "ringGoes", unfollowed := true, recurses := true, apart := false }
def RingGoesSaid : Prop := ringGoesRow.holds Try.pinned (OpenSpec.ofChange ringGoesSpec)

/-- ITS FALSE NEIGHBOUR: 'it returns false'. Refute it at one input. -/
def ringGoesWrong : ChangeSpec := { name := "ringGoes", fn := fun _ => fun
  | [d1, d2, d3, d4, d5] => { results := [.lit (.bool false)], args := [d1, d2, d3, d4, d5] }
  | _ => none }
def RingGoesWrongFalsely : Prop := ringGoesRow.holds Try.pinned (OpenSpec.ofChange ringGoesWrong)

/-- 'portmanteaulaw06.RingNone': WHATEVER THE INPUT: true; the input reads as it did. -/
def ringNoneSpec : ChangeSpec := { name := "ringNone", fn := fun _ => fun
  | [d1, d2] => { results := [.lit (.bool true)], args := [d1, d2] }
  | _ => none }
def ringNoneRow : OpenClaim := { program := "ytohmkcoodaidcaa", sum := "6370303fadbdafb14af27becc5674957eb78d5918c9e734cb9b11e7cfe86f2bc", func := "portmanteau/portmanteaulaw06.RingNone", spec := "ringNone", unfollowed := true, recurses := true, apart := false }
def RingNoneSaid : Prop := ringNoneRow.holds Try.pinned (OpenSpec.ofChange ringNoneSpec)

/-- ITS FALSE NEIGHBOUR: 'it returns false'. Refute it at one input. -/
def ringNoneWrong : ChangeSpec := { name := "ringNone", fn := fun _ => fun
  | [d1, d2] => { results := [.lit (.bool false)], args := [d1, d2] }
  | _ => none }
def RingNoneWrongFalsely : Prop := ringNoneRow.holds Try.pinned (OpenSpec.ofChange ringNoneWrong)

/- THE SECOND FORM. 'bulk': how many values and letters a reading holds, each counted each time it is reached (what is shared counts as often as it is met; a slice's spare places count too). A statement '..UptoSaid' is the law's where the arguments, and the package variables that the reading takes, are together of bulk at most 1048576: NARROWER than '..Said'. Prove '..Said' where nothing that the law and all that it calls make is longer than what came in: it says more and counts as full. Else prove '..UptoSaid'. A law counts once. -/
mutual
def uptoBulk {H : Type} : DataW H → Nat
  | .lit (.string bytes) => bytes.length + 1
  | .lit _ => 1
  | .nil => 1
  | .ptr d => uptoBulk d + 1
  | .slice elems spare => uptoBulkAll elems + uptoBulkAll spare + 1
  | .agg parts => uptoBulkAll parts + 1
  | .iface _ d => uptoBulk d + 1
  | .map entries => uptoBulkEntries entries + 1
  | .held _ => 1
def uptoBulkAll {H : Type} : List (DataW H) → Nat
  | [] => 0
  | d :: r => uptoBulk d + uptoBulkAll r
def uptoBulkEntries {H : Type} : List (Lit × DataW H) → Nat
  | [] => 0
  | x :: r => uptoBulkEntry x + uptoBulkEntries r
def uptoBulkEntry {H : Type} : Lit × DataW H → Nat
  | (.string bytes, d) => bytes.length + uptoBulk d + 1
  | (_, d) => uptoBulk d + 1
 end
def uptoSmall : (H : Type) → List (DataW H) → Bool := fun _ ds => decide (uptoBulkAll ds ≤ 1048576)
def OpenSpec.upto (s : _root_.Go.ChangeSpec) : _root_.Go.OpenSpec := { _root_.Go.OpenSpec.ofChange s with cond := some uptoSmall }

/-- 'portmanteaulaw06.RingBounds', WHERE WHAT IT READS IS OF BULK AT MOST 1048576: true; the input reads as it did. -/
def ringBoundsUptoRow : OpenClaim := { program := "ytohmkcoodaidcaa", sum := "6370303fadbdafb14af27becc5674957eb78d5918c9e734cb9b11e7cfe86f2bc", func := "portmanteau/portmanteaulaw06.RingBounds", spec := "ringBounds", unfollowed := true, recurses := true, apart := false, narrowed := true }
def RingBoundsUptoSaid : Prop := ringBoundsUptoRow.holds Try.pinned (OpenSpec.upto ringBoundsSpec)

/-- 'portmanteaulaw06.RingPlays', WHERE WHAT IT READS IS OF BULK AT MOST 1048576: true; the input reads as it did. -/
def ringPlaysUptoRow : OpenClaim := { program := "ytohmkcoodaidcaa", sum := "6370303fadbdafb14af27becc5674957eb78d5918c9e734cb9b11e7cfe86f2bc", func := "portmanteau/portmanteaulaw06.RingPlays", spec := "ringPlays", unfollowed := true, recurses := true, apart := false, narrowed := true }
def RingPlaysUptoSaid : Prop := ringPlaysUptoRow.holds Try.pinned (OpenSpec.upto ringPlaysSpec)

/-- 'portmanteaulaw06.RingPieces', WHERE WHAT IT READS IS OF BULK AT MOST 1048576: true; the input reads as it did. -/
def ringPiecesUptoRow : OpenClaim := { program := "ytohmkcoodaidcaa", sum := "6370303fadbdafb14af27becc5674957eb78d5918c9e734cb9b11e7cfe86f2bc", func := "portmanteau/portmanteaulaw06.RingPieces", spec := "ringPieces", unfollowed := true, recurses := true, apart := false, narrowed := true }
def RingPiecesUptoSaid : Prop := ringPiecesUptoRow.holds Try.pinned (OpenSpec.upto ringPiecesSpec)

/-- 'portmanteaulaw06.RingAhead', WHERE WHAT IT READS IS OF BULK AT MOST 1048576: true; the input reads as it did. -/
def ringAheadUptoRow : OpenClaim := { program := "ytohmkcoodaidcaa", sum := "6370303fadbdafb14af27becc5674957eb78d5918c9e734cb9b11e7cfe86f2bc", func := "portmanteau/portmanteaulaw06.RingAhead", spec := "ringAhead", unfollowed := true, recurses := true, apart := false, narrowed := true }
def RingAheadUptoSaid : Prop := ringAheadUptoRow.holds Try.pinned (OpenSpec.upto ringAheadSpec)

/-- 'portmanteaulaw06.RingHolds', WHERE WHAT IT READS IS OF BULK AT MOST 1048576: true; the input reads as it did. -/
def ringHoldsUptoRow : OpenClaim := { program := "ytohmkcoodaidcaa", sum := "6370303fadbdafb14af27becc5674957eb78d5918c9e734cb9b11e7cfe86f2bc", func := "portmanteau/portmanteaulaw06.RingHolds", spec := "ringHolds", unfollowed := true, recurses := true, apart := false, narrowed := true }
def RingHoldsUptoSaid : Prop := ringHoldsUptoRow.holds Try.pinned (OpenSpec.upto ringHoldsSpec)

/-- 'portmanteaulaw06.RingClones', WHERE WHAT IT READS IS OF BULK AT MOST 1048576: true; the input reads as it did. -/
def ringClonesUptoRow : OpenClaim := { program := "ytohmkcoodaidcaa", sum := "6370303fadbdafb14af27becc5674957eb78d5918c9e734cb9b11e7cfe86f2bc", func := "portmanteau/portmanteaulaw06.RingClones", spec := "ringClones", unfollowed := true, recurses := true, apart := false, narrowed := true }
def RingClonesUptoSaid : Prop := ringClonesUptoRow.holds Try.pinned (OpenSpec.upto ringClonesSpec)

/-- 'portmanteaulaw06.RingGoes', WHERE WHAT IT READS IS OF BULK AT MOST 1048576: true; the input reads as it did. -/
def ringGoesUptoRow : OpenClaim := { program := "ytohmkcoodaidcaa", sum := "6370303fadbdafb14af27becc5674957eb78d5918c9e734cb9b11e7cfe86f2bc", func := "portmanteau/portmanteaulaw06.RingGoes", spec := "ringGoes", unfollowed := true, recurses := true, apart := false, narrowed := true }
def RingGoesUptoSaid : Prop := ringGoesUptoRow.holds Try.pinned (OpenSpec.upto ringGoesSpec)

/-- 'portmanteaulaw06.RingNone', WHERE WHAT IT READS IS OF BULK AT MOST 1048576: true; the input reads as it did. -/
def ringNoneUptoRow : OpenClaim := { program := "ytohmkcoodaidcaa", sum := "6370303fadbdafb14af27becc5674957eb78d5918c9e734cb9b11e7cfe86f2bc", func := "portmanteau/portmanteaulaw06.RingNone", spec := "ringNone", unfollowed := true, recurses := true, apart := false, narrowed := true }
def RingNoneUptoSaid : Prop := ringNoneUptoRow.holds Try.pinned (OpenSpec.upto ringNoneSpec)

end Rows
end Go.Proofs.Ytohmkcoodaidcaa
