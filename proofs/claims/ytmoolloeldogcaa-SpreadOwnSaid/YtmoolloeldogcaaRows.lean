/-
  No cell of these rows narrows 'for every input' (looked for: loops, veiled, ifaces, maps, wideKeys, modest, calm, conditions, laid).
  DERIVED. THE GIVEN ROWS OF THIS SEAT. 8 by the template 'for every input the law returns true; each argument reads behind the call as it read before'; 0 by the template 'total and deterministic' (their statements: YtmoolloeldogcaaTotals.lean).
  GIVEN WITH THE SEED: the statements are not yours to turn. If you find one false, say at which input.
  Laid BY PROGRAM, IN A SANDBOX (cutbox-rows.mjs): the forced cells as the released guide's own fill.sh prints them over the translation 452b8a5151e9f972… (all of the seat's roots in one cut). By AI agents, Wed Nov 11 2026. No macro, syntax, notation, axiom, sorry.
-/
import Derived.Test.YtmoolloeldogcaaChecked
import GoSem.Claim
import GoSem.ClaimJoined
import GoSem.ClaimMapViews
import Derived.JoinedTies
import Derived.KernelRfl
namespace Go.Proofs.Ytmoolloeldogcaa
/- THE CELL 'sum', in the pinned program and in every row, IS THE sha256 OF THE DUMP (.gsa) THAT YtmoolloeldogcaaProg.lean LOADS. Nothing in Lean hashes anything: it is a label: what it is worth is what the hold of that sum in a sandbox is worth. -/
noncomputable def Try.pinned : Pinned := { name := "ytmoolloeldogcaa", sum := "452b8a5151e9f97254746edcd0ffa03f5a2cc09f9d7222dc34c2a61e22879d2d", checked := Try.checked }
namespace Rows
def none {H : Type} : Left H := { results := [], args := [] }

/-- 'portmanteaulaw08.SpreadTells': WHATEVER THE INPUT: true; the input reads as it did. -/
def spreadTellsSpec : ChangeSpec := { name := "spreadTells", fn := fun _ => fun
  | [d] => { results := [.lit (.bool true)], args := [d] }
  | _ => none }
def spreadTellsRow : OpenClaim := { program := "ytmoolloeldogcaa", sum := "452b8a5151e9f97254746edcd0ffa03f5a2cc09f9d7222dc34c2a61e22879d2d", func := "portmanteau/portmanteaulaw08.SpreadTells", spec := "spreadTells", unfollowed := true, recurses := true, apart := false }
def SpreadTellsSaid : Prop := spreadTellsRow.holds Try.pinned (OpenSpec.ofChange spreadTellsSpec)

/-- ITS FALSE NEIGHBOUR: 'it returns false'. Refute it at one input. -/
def spreadTellsWrong : ChangeSpec := { name := "spreadTells", fn := fun _ => fun
  | [d] => { results := [.lit (.bool false)], args := [d] }
  | _ => none }
def SpreadTellsWrongFalsely : Prop := spreadTellsRow.holds Try.pinned (OpenSpec.ofChange spreadTellsWrong)

/-- 'portmanteaulaw08.SpreadSteps': WHATEVER THE INPUT: true; the input reads as it did. -/
def spreadStepsSpec : ChangeSpec := { name := "spreadSteps", fn := fun _ => fun
  | [d1, d2] => { results := [.lit (.bool true)], args := [d1, d2] }
  | _ => none }
def spreadStepsRow : OpenClaim := { program := "ytmoolloeldogcaa", sum := "452b8a5151e9f97254746edcd0ffa03f5a2cc09f9d7222dc34c2a61e22879d2d", func := "portmanteau/portmanteaulaw08.SpreadSteps", spec := "spreadSteps", unfollowed := true, recurses := true, apart := false }
def SpreadStepsSaid : Prop := spreadStepsRow.holds Try.pinned (OpenSpec.ofChange spreadStepsSpec)

/-- ITS FALSE NEIGHBOUR: 'it returns false'. Refute it at one input. -/
def spreadStepsWrong : ChangeSpec := { name := "spreadSteps", fn := fun _ => fun
  | [d1, d2] => { results := [.lit (.bool false)], args := [d1, d2] }
  | _ => none }
def SpreadStepsWrongFalsely : Prop := spreadStepsRow.holds Try.pinned (OpenSpec.ofChange spreadStepsWrong)

/-- 'portmanteaulaw08.SpreadRare': WHATEVER THE INPUT: true; the input reads as it did. -/
def spreadRareSpec : ChangeSpec := { name := "spreadRare", fn := fun _ => fun
  | [d] => { results := [.lit (.bool true)], args := [d] }
  | _ => none }
def spreadRareRow : OpenClaim := { program := "ytmoolloeldogcaa", sum := "452b8a5151e9f97254746edcd0ffa03f5a2cc09f9d7222dc34c2a61e22879d2d", func := "portmanteau/portmanteaulaw08.SpreadRare", spec := "spreadRare", unfollowed := true, recurses := true, apart := false }
def SpreadRareSaid : Prop := spreadRareRow.holds Try.pinned (OpenSpec.ofChange spreadRareSpec)

/-- ITS FALSE NEIGHBOUR: 'it returns false'. Refute it at one input. -/
def spreadRareWrong : ChangeSpec := { name := "spreadRare", fn := fun _ => fun
  | [d] => { results := [.lit (.bool false)], args := [d] }
  | _ => none }
def SpreadRareWrongFalsely : Prop := spreadRareRow.holds Try.pinned (OpenSpec.ofChange spreadRareWrong)

/-- 'portmanteaulaw08.SpreadOrder': WHATEVER THE INPUT: true; the input reads as it did. -/
def spreadOrderSpec : ChangeSpec := { name := "spreadOrder", fn := fun _ => fun
  | [d] => { results := [.lit (.bool true)], args := [d] }
  | _ => none }
def spreadOrderRow : OpenClaim := { program := "ytmoolloeldogcaa", sum := "452b8a5151e9f97254746edcd0ffa03f5a2cc09f9d7222dc34c2a61e22879d2d", func := "portmanteau/portmanteaulaw08.SpreadOrder", spec := "spreadOrder", unfollowed := true, recurses := true, apart := false }
def SpreadOrderSaid : Prop := spreadOrderRow.holds Try.pinned (OpenSpec.ofChange spreadOrderSpec)

/-- ITS FALSE NEIGHBOUR: 'it returns false'. Refute it at one input. -/
def spreadOrderWrong : ChangeSpec := { name := "spreadOrder", fn := fun _ => fun
  | [d] => { results := [.lit (.bool false)], args := [d] }
  | _ => none }
def SpreadOrderWrongFalsely : Prop := spreadOrderRow.holds Try.pinned (OpenSpec.ofChange spreadOrderWrong)

/-- 'portmanteaulaw08.SpreadUnlike': WHATEVER THE INPUT: true; the input reads as it did. -/
def spreadUnlikeSpec : ChangeSpec := { name := "spreadUnlike", fn := fun _ => fun
  | [d1, d2] => { results := [.lit (.bool true)], args := [d1, d2] }
  | _ => none }
def spreadUnlikeRow : OpenClaim := { program := "ytmoolloeldogcaa", sum := "452b8a5151e9f97254746edcd0ffa03f5a2cc09f9d7222dc34c2a61e22879d2d", func := "portmanteau/portmanteaulaw08.SpreadUnlike", spec := "spreadUnlike", unfollowed := true, recurses := true, apart := false }
def SpreadUnlikeSaid : Prop := spreadUnlikeRow.holds Try.pinned (OpenSpec.ofChange spreadUnlikeSpec)

/-- ITS FALSE NEIGHBOUR: 'it returns false'. Refute it at one input. -/
def spreadUnlikeWrong : ChangeSpec := { name := "spreadUnlike", fn := fun _ => fun
  | [d1, d2] => { results := [.lit (.bool false)], args := [d1, d2] }
  | _ => none }
def SpreadUnlikeWrongFalsely : Prop := spreadUnlikeRow.holds Try.pinned (OpenSpec.ofChange spreadUnlikeWrong)

/-- 'portmanteaulaw08.SpreadPlaces': WHATEVER THE INPUT: true; the input reads as it did. -/
def spreadPlacesSpec : ChangeSpec := { name := "spreadPlaces", fn := fun _ => fun
  | [d1, d2] => { results := [.lit (.bool true)], args := [d1, d2] }
  | _ => none }
def spreadPlacesRow : OpenClaim := { program := "ytmoolloeldogcaa", sum := "452b8a5151e9f97254746edcd0ffa03f5a2cc09f9d7222dc34c2a61e22879d2d", func := "portmanteau/portmanteaulaw08.SpreadPlaces", spec := "spreadPlaces", unfollowed := true, recurses := true, apart := false }
def SpreadPlacesSaid : Prop := spreadPlacesRow.holds Try.pinned (OpenSpec.ofChange spreadPlacesSpec)

/-- ITS FALSE NEIGHBOUR: 'it returns false'. Refute it at one input. -/
def spreadPlacesWrong : ChangeSpec := { name := "spreadPlaces", fn := fun _ => fun
  | [d1, d2] => { results := [.lit (.bool false)], args := [d1, d2] }
  | _ => none }
def SpreadPlacesWrongFalsely : Prop := spreadPlacesRow.holds Try.pinned (OpenSpec.ofChange spreadPlacesWrong)

/-- 'portmanteaulaw08.SpreadCounts': WHATEVER THE INPUT: true; the input reads as it did. -/
def spreadCountsSpec : ChangeSpec := { name := "spreadCounts", fn := fun _ => fun
  | [d] => { results := [.lit (.bool true)], args := [d] }
  | _ => none }
def spreadCountsRow : OpenClaim := { program := "ytmoolloeldogcaa", sum := "452b8a5151e9f97254746edcd0ffa03f5a2cc09f9d7222dc34c2a61e22879d2d", func := "portmanteau/portmanteaulaw08.SpreadCounts", spec := "spreadCounts", unfollowed := true, recurses := true, apart := false }
def SpreadCountsSaid : Prop := spreadCountsRow.holds Try.pinned (OpenSpec.ofChange spreadCountsSpec)

/-- ITS FALSE NEIGHBOUR: 'it returns false'. Refute it at one input. -/
def spreadCountsWrong : ChangeSpec := { name := "spreadCounts", fn := fun _ => fun
  | [d] => { results := [.lit (.bool false)], args := [d] }
  | _ => none }
def SpreadCountsWrongFalsely : Prop := spreadCountsRow.holds Try.pinned (OpenSpec.ofChange spreadCountsWrong)

/-- 'portmanteaulaw08.SpreadOwn': WHATEVER THE INPUT: true; the input reads as it did. -/
def spreadOwnSpec : ChangeSpec := { name := "spreadOwn", fn := fun _ => fun
  | [d1, d2] => { results := [.lit (.bool true)], args := [d1, d2] }
  | _ => none }
def spreadOwnRow : OpenClaim := { program := "ytmoolloeldogcaa", sum := "452b8a5151e9f97254746edcd0ffa03f5a2cc09f9d7222dc34c2a61e22879d2d", func := "portmanteau/portmanteaulaw08.SpreadOwn", spec := "spreadOwn", unfollowed := true, recurses := true, apart := false }
def SpreadOwnSaid : Prop := spreadOwnRow.holds Try.pinned (OpenSpec.ofChange spreadOwnSpec)

/-- ITS FALSE NEIGHBOUR: 'it returns false'. Refute it at one input. -/
def spreadOwnWrong : ChangeSpec := { name := "spreadOwn", fn := fun _ => fun
  | [d1, d2] => { results := [.lit (.bool false)], args := [d1, d2] }
  | _ => none }
def SpreadOwnWrongFalsely : Prop := spreadOwnRow.holds Try.pinned (OpenSpec.ofChange spreadOwnWrong)

/- THE SECOND FORM. 'bulk': how many values and letters a reading holds, each counted each time it is reached (what is shared counts as often as it is met; a slice's spare places count too). A statement '..UptoSaid' is the law's where the arguments, and the package variables that the reading takes, are together of bulk at most 1048576: NARROWER than '..Said'. Prove '..Said' where nothing that the law and all that it calls make is longer than what came in: it says more and counts as full. Else prove '..UptoSaid'. A law counts once. -/
mutual
def uptoBulk {H : Type} : DataW H → Nat
  | .lit (.string bytes) => bytes.length + 1
  | .lit _ => 1
  | .nil => 1
  | .ptr d => uptoBulk d + 1
  | .slice elems spare => uptoBulkAll elems + uptoBulkAll spare + 1
  | .agg parts => uptoBulkAll parts + 1
  | .iface _ d => uptoBulk d + 1
  | .map entries => uptoBulkEntries entries + 1
  | .held _ => 1
def uptoBulkAll {H : Type} : List (DataW H) → Nat
  | [] => 0
  | d :: r => uptoBulk d + uptoBulkAll r
def uptoBulkEntries {H : Type} : List (Lit × DataW H) → Nat
  | [] => 0
  | x :: r => uptoBulkEntry x + uptoBulkEntries r
def uptoBulkEntry {H : Type} : Lit × DataW H → Nat
  | (.string bytes, d) => bytes.length + uptoBulk d + 1
  | (_, d) => uptoBulk d + 1
 end
def uptoSmall : (H : Type) → List (DataW H) → Bool := fun _ ds => decide (uptoBulkAll ds ≤ 1048576)
def OpenSpec.upto (s : _root_.Go.ChangeSpec) : _root_.Go.OpenSpec := { _root_.Go.OpenSpec.ofChange s with cond := some uptoSmall }

/-- 'portmanteaulaw08.SpreadTells', WHERE WHAT IT READS IS OF BULK AT MOST 1048576: true; the input reads as it did. -/
def spreadTellsUptoRow : OpenClaim := { program := "ytmoolloeldogcaa", sum := "452b8a5151e9f97254746edcd0ffa03f5a2cc09f9d7222dc34c2a61e22879d2d", func := "portmanteau/portmanteaulaw08.SpreadTells", spec := "spreadTells", unfollowed := true, recurses := true, apart := false, narrowed := true }
def SpreadTellsUptoSaid : Prop := spreadTellsUptoRow.holds Try.pinned (OpenSpec.upto spreadTellsSpec)

/-- 'portmanteaulaw08.SpreadSteps', WHERE WHAT IT READS IS OF BULK AT MOST 1048576: true; the input reads as it did. -/
def spreadStepsUptoRow : OpenClaim := { program := "ytmoolloeldogcaa", sum := "452b8a5151e9f97254746edcd0ffa03f5a2cc09f9d7222dc34c2a61e22879d2d", func := "portmanteau/portmanteaulaw08.SpreadSteps", spec := "spreadSteps", unfollowed := true, recurses := true, apart := false, narrowed := true }
def SpreadStepsUptoSaid : Prop := spreadStepsUptoRow.holds Try.pinned (OpenSpec.upto spreadStepsSpec)

/-- 'portmanteaulaw08.SpreadRare', WHERE WHAT IT READS IS OF BULK AT MOST 1048576: true; the input reads as it did. -/
def spreadRareUptoRow : OpenClaim := { program := "ytmoolloeldogcaa", sum := "452b8a5151e9f97254746edcd0ffa03f5a2cc09f9d7222dc34c2a61e22879d2d", func := "portmanteau/portmanteaulaw08.SpreadRare", spec := "spreadRare", unfollowed := true, recurses := true, apart := false, narrowed := true }
def SpreadRareUptoSaid : Prop := spreadRareUptoRow.holds Try.pinned (OpenSpec.upto spreadRareSpec)

/-- 'portmanteaulaw08.SpreadOrder', WHERE WHAT IT READS IS OF BULK AT MOST 1048576: true; the input reads as it did. -/
def spreadOrderUptoRow : OpenClaim := { program := "ytmoolloeldogcaa", sum := "452b8a5151e9f97254746edcd0ffa03f5a2cc09f9d7222dc34c2a61e22879d2d", func := "portmanteau/portmanteaulaw08.SpreadOrder", spec := "spreadOrder", unfollowed := true, recurses := true, apart := false, narrowed := true }
def SpreadOrderUptoSaid : Prop := spreadOrderUptoRow.holds Try.pinned (OpenSpec.upto spreadOrderSpec)

/-- 'portmanteaulaw08.SpreadUnlike', WHERE WHAT IT READS IS OF BULK AT MOST 1048576: true; the input reads as it did. -/
def spreadUnlikeUptoRow : OpenClaim := { program := "ytmoolloeldogcaa", sum := "452b8a5151e9f97254746edcd0ffa03f5a2cc09f9d7222dc34c2a61e22879d2d", func := "portmanteau/portmanteaulaw08.SpreadUnlike", spec := "spreadUnlike", unfollowed := true, recurses := true, apart := false, narrowed := true }
def SpreadUnlikeUptoSaid : Prop := spreadUnlikeUptoRow.holds Try.pinned (OpenSpec.upto spreadUnlikeSpec)

/-- 'portmanteaulaw08.SpreadPlaces', WHERE WHAT IT READS IS OF BULK AT MOST 1048576: true; the input reads as it did. -/
def spreadPlacesUptoRow : OpenClaim := { program := "ytmoolloeldogcaa", sum := "452b8a5151e9f97254746edcd0ffa03f5a2cc09f9d7222dc34c2a61e22879d2d", func := "portmanteau/portmanteaulaw08.SpreadPlaces", spec := "spreadPlaces", unfollowed := true, recurses := true, apart := false, narrowed := true }
def SpreadPlacesUptoSaid : Prop := spreadPlacesUptoRow.holds Try.pinned (OpenSpec.upto spreadPlacesSpec)

/-- 'portmanteaulaw08.SpreadCounts', WHERE WHAT IT READS IS OF BULK AT MOST 1048576: true; the input reads as it did. -/
def spreadCountsUptoRow : OpenClaim := { program := "ytmoolloeldogcaa", sum := "452b8a5151e9f97254746edcd0ffa03f5a2cc09f9d7222dc34c2a61e22879d2d", func := "portmanteau/portmanteaulaw08.SpreadCounts", spec := "spreadCounts", unfollowed := true, recurses := true, apart := false, narrowed := true }
def SpreadCountsUptoSaid : Prop := spreadCountsUptoRow.holds Try.pinned (OpenSpec.upto spreadCountsSpec)

/-- 'portmanteaulaw08.SpreadOwn', WHERE WHAT IT READS IS OF BULK AT MOST 1048576: true; the input reads as it did. -/
def spreadOwnUptoRow : OpenClaim := { program := "ytmoolloeldogcaa", sum := "452b8a5151e9f97254746edcd0ffa03f5a2cc09f9d7222dc34c2a61e22879d2d", func := "portmanteau/portmanteaulaw08.SpreadOwn", spec := "spreadOwn", unfollowed := true, recurses := true, apart := false, narrowed := true }
def SpreadOwnUptoSaid : Prop := spreadOwnUptoRow.holds Try.pinned (OpenSpec.upto spreadOwnSpec)

end Rows
end Go.Proofs.Ytmoolloeldogcaa
