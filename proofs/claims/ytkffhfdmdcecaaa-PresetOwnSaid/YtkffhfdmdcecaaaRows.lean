/-
  No cell of these rows narrows 'for every input' (looked for: loops, veiled, ifaces, maps, wideKeys, modest, calm, conditions, laid).
  DERIVED. THE GIVEN ROWS OF THIS SEAT. 8 by the template 'for every input the law returns true; each argument reads behind the call as it read before'; 0 by the template 'total and deterministic' (their statements: YtkffhfdmdcecaaaTotals.lean).
  GIVEN WITH THE SEED: the statements are not yours to turn. If you find one false, say at which input.
  Laid BY PROGRAM, IN A SANDBOX (cutbox-rows.mjs): the forced cells as the released guide's own fill.sh prints them over the translation 350a9ff920c560bb… (all of the seat's roots in one cut). By AI agents, Wed Nov 11 2026. No macro, syntax, notation, axiom, sorry.
-/
import Derived.Test.YtkffhfdmdcecaaaChecked
import GoSem.Claim
import GoSem.ClaimJoined
import GoSem.ClaimMapViews
import Derived.JoinedTies
import Derived.KernelRfl
namespace Go.Proofs.Ytkffhfdmdcecaaa
/- THE CELL 'sum', in the pinned program and in every row, IS THE sha256 OF THE DUMP (.gsa) THAT YtkffhfdmdcecaaaProg.lean LOADS. Nothing in Lean hashes anything: it is a label: what it is worth is what the hold of that sum in a sandbox is worth. -/
noncomputable def Try.pinned : Pinned := { name := "ytkffhfdmdcecaaa", sum := "350a9ff920c560bb41c983834d944901ccaf22dc9b4771cf08860328525d8bd0", checked := Try.checked }
namespace Rows
def none {H : Type} : Left H := { results := [], args := [] }

/-- 'portmanteaulaw23.PresetTables': WHATEVER THE INPUT: true; the input reads as it did. -/
def presetTablesSpec : ChangeSpec := { name := "presetTables", fn := fun _ => fun
  | [] => { results := [.lit (.bool true)], args := [] }
  | _ => none }
def presetTablesRow : OpenClaim := { program := "ytkffhfdmdcecaaa", sum := "350a9ff920c560bb41c983834d944901ccaf22dc9b4771cf08860328525d8bd0", func := "portmanteau/portmanteaulaw23.PresetTables", spec := "presetTables", unfollowed := true, recurses := true, apart := false }
def PresetTablesSaid : Prop := presetTablesRow.holds Try.pinned (OpenSpec.ofChange presetTablesSpec)

/-- ITS FALSE NEIGHBOUR: 'it returns false'. Refute it at one input. -/
def presetTablesWrong : ChangeSpec := { name := "presetTables", fn := fun _ => fun
  | [] => { results := [.lit (.bool false)], args := [] }
  | _ => none }
def PresetTablesWrongFalsely : Prop := presetTablesRow.holds Try.pinned (OpenSpec.ofChange presetTablesWrong)

/-- 'portmanteaulaw23.PresetParts': WHATEVER THE INPUT: true; the input reads as it did. -/
def presetPartsSpec : ChangeSpec := { name := "presetParts", fn := fun _ => fun
  | [d] => { results := [.lit (.bool true)], args := [d] }
  | _ => none }
def presetPartsRow : OpenClaim := { program := "ytkffhfdmdcecaaa", sum := "350a9ff920c560bb41c983834d944901ccaf22dc9b4771cf08860328525d8bd0", func := "portmanteau/portmanteaulaw23.PresetParts", spec := "presetParts", unfollowed := true, recurses := true, apart := false }
def PresetPartsSaid : Prop := presetPartsRow.holds Try.pinned (OpenSpec.ofChange presetPartsSpec)

/-- ITS FALSE NEIGHBOUR: 'it returns false'. Refute it at one input. -/
def presetPartsWrong : ChangeSpec := { name := "presetParts", fn := fun _ => fun
  | [d] => { results := [.lit (.bool false)], args := [d] }
  | _ => none }
def PresetPartsWrongFalsely : Prop := presetPartsRow.holds Try.pinned (OpenSpec.ofChange presetPartsWrong)

/-- 'portmanteaulaw23.PresetUnlike': WHATEVER THE INPUT: true; the input reads as it did. -/
def presetUnlikeSpec : ChangeSpec := { name := "presetUnlike", fn := fun _ => fun
  | [] => { results := [.lit (.bool true)], args := [] }
  | _ => none }
def presetUnlikeRow : OpenClaim := { program := "ytkffhfdmdcecaaa", sum := "350a9ff920c560bb41c983834d944901ccaf22dc9b4771cf08860328525d8bd0", func := "portmanteau/portmanteaulaw23.PresetUnlike", spec := "presetUnlike", unfollowed := true, recurses := true, apart := false }
def PresetUnlikeSaid : Prop := presetUnlikeRow.holds Try.pinned (OpenSpec.ofChange presetUnlikeSpec)

/-- ITS FALSE NEIGHBOUR: 'it returns false'. Refute it at one input. -/
def presetUnlikeWrong : ChangeSpec := { name := "presetUnlike", fn := fun _ => fun
  | [] => { results := [.lit (.bool false)], args := [] }
  | _ => none }
def PresetUnlikeWrongFalsely : Prop := presetUnlikeRow.holds Try.pinned (OpenSpec.ofChange presetUnlikeWrong)

/-- 'portmanteaulaw23.PresetMay': WHATEVER THE INPUT: true; the input reads as it did. -/
def presetMaySpec : ChangeSpec := { name := "presetMay", fn := fun _ => fun
  | [d] => { results := [.lit (.bool true)], args := [d] }
  | _ => none }
def presetMayRow : OpenClaim := { program := "ytkffhfdmdcecaaa", sum := "350a9ff920c560bb41c983834d944901ccaf22dc9b4771cf08860328525d8bd0", func := "portmanteau/portmanteaulaw23.PresetMay", spec := "presetMay", unfollowed := true, recurses := true, apart := false }
def PresetMaySaid : Prop := presetMayRow.holds Try.pinned (OpenSpec.ofChange presetMaySpec)

/-- ITS FALSE NEIGHBOUR: 'it returns false'. Refute it at one input. -/
def presetMayWrong : ChangeSpec := { name := "presetMay", fn := fun _ => fun
  | [d] => { results := [.lit (.bool false)], args := [d] }
  | _ => none }
def PresetMayWrongFalsely : Prop := presetMayRow.holds Try.pinned (OpenSpec.ofChange presetMayWrong)

/-- 'portmanteaulaw23.PresetCodes': WHATEVER THE INPUT: true; the input reads as it did. -/
def presetCodesSpec : ChangeSpec := { name := "presetCodes", fn := fun _ => fun
  | [d] => { results := [.lit (.bool true)], args := [d] }
  | _ => none }
def presetCodesRow : OpenClaim := { program := "ytkffhfdmdcecaaa", sum := "350a9ff920c560bb41c983834d944901ccaf22dc9b4771cf08860328525d8bd0", func := "portmanteau/portmanteaulaw23.PresetCodes", spec := "presetCodes", unfollowed := true, recurses := true, apart := false }
def PresetCodesSaid : Prop := presetCodesRow.holds Try.pinned (OpenSpec.ofChange presetCodesSpec)

/-- ITS FALSE NEIGHBOUR: 'it returns false'. Refute it at one input. -/
def presetCodesWrong : ChangeSpec := { name := "presetCodes", fn := fun _ => fun
  | [d] => { results := [.lit (.bool false)], args := [d] }
  | _ => none }
def PresetCodesWrongFalsely : Prop := presetCodesRow.holds Try.pinned (OpenSpec.ofChange presetCodesWrong)

/-- 'portmanteaulaw23.PresetCells': WHATEVER THE INPUT: true; the input reads as it did. -/
def presetCellsSpec : ChangeSpec := { name := "presetCells", fn := fun _ => fun
  | [d] => { results := [.lit (.bool true)], args := [d] }
  | _ => none }
def presetCellsRow : OpenClaim := { program := "ytkffhfdmdcecaaa", sum := "350a9ff920c560bb41c983834d944901ccaf22dc9b4771cf08860328525d8bd0", func := "portmanteau/portmanteaulaw23.PresetCells", spec := "presetCells", unfollowed := true, recurses := true, apart := false }
def PresetCellsSaid : Prop := presetCellsRow.holds Try.pinned (OpenSpec.ofChange presetCellsSpec)

/-- ITS FALSE NEIGHBOUR: 'it returns false'. Refute it at one input. -/
def presetCellsWrong : ChangeSpec := { name := "presetCells", fn := fun _ => fun
  | [d] => { results := [.lit (.bool false)], args := [d] }
  | _ => none }
def PresetCellsWrongFalsely : Prop := presetCellsRow.holds Try.pinned (OpenSpec.ofChange presetCellsWrong)

/-- 'portmanteaulaw23.PresetStates': WHATEVER THE INPUT: true; the input reads as it did. -/
def presetStatesSpec : ChangeSpec := { name := "presetStates", fn := fun _ => fun
  | [d] => { results := [.lit (.bool true)], args := [d] }
  | _ => none }
def presetStatesRow : OpenClaim := { program := "ytkffhfdmdcecaaa", sum := "350a9ff920c560bb41c983834d944901ccaf22dc9b4771cf08860328525d8bd0", func := "portmanteau/portmanteaulaw23.PresetStates", spec := "presetStates", unfollowed := true, recurses := true, apart := false }
def PresetStatesSaid : Prop := presetStatesRow.holds Try.pinned (OpenSpec.ofChange presetStatesSpec)

/-- ITS FALSE NEIGHBOUR: 'it returns false'. Refute it at one input. -/
def presetStatesWrong : ChangeSpec := { name := "presetStates", fn := fun _ => fun
  | [d] => { results := [.lit (.bool false)], args := [d] }
  | _ => none }
def PresetStatesWrongFalsely : Prop := presetStatesRow.holds Try.pinned (OpenSpec.ofChange presetStatesWrong)

/-- 'portmanteaulaw23.PresetOwn': WHATEVER THE INPUT: true; the input reads as it did. -/
def presetOwnSpec : ChangeSpec := { name := "presetOwn", fn := fun _ => fun
  | [d] => { results := [.lit (.bool true)], args := [d] }
  | _ => none }
def presetOwnRow : OpenClaim := { program := "ytkffhfdmdcecaaa", sum := "350a9ff920c560bb41c983834d944901ccaf22dc9b4771cf08860328525d8bd0", func := "portmanteau/portmanteaulaw23.PresetOwn", spec := "presetOwn", unfollowed := true, recurses := true, apart := false }
def PresetOwnSaid : Prop := presetOwnRow.holds Try.pinned (OpenSpec.ofChange presetOwnSpec)

/-- ITS FALSE NEIGHBOUR: 'it returns false'. Refute it at one input. -/
def presetOwnWrong : ChangeSpec := { name := "presetOwn", fn := fun _ => fun
  | [d] => { results := [.lit (.bool false)], args := [d] }
  | _ => none }
def PresetOwnWrongFalsely : Prop := presetOwnRow.holds Try.pinned (OpenSpec.ofChange presetOwnWrong)

/- THE SECOND FORM. 'bulk': how many values and letters a reading holds, each counted each time it is reached (what is shared counts as often as it is met; a slice's spare places count too). A statement '..UptoSaid' is the law's where the arguments, and the package variables that the reading takes, are together of bulk at most 1048576: NARROWER than '..Said'. Prove '..Said' where nothing that the law and all that it calls make is longer than what came in: it says more and counts as full. Else prove '..UptoSaid'. A law counts once. -/
mutual
def uptoBulk {H : Type} : DataW H → Nat
  | .lit (.string bytes) => bytes.length + 1
  | .lit _ => 1
  | .nil => 1
  | .ptr d => uptoBulk d + 1
  | .slice elems spare => uptoBulkAll elems + uptoBulkAll spare + 1
  | .agg parts => uptoBulkAll parts + 1
  | .iface _ d => uptoBulk d + 1
  | .map entries => uptoBulkEntries entries + 1
  | .held _ => 1
def uptoBulkAll {H : Type} : List (DataW H) → Nat
  | [] => 0
  | d :: r => uptoBulk d + uptoBulkAll r
def uptoBulkEntries {H : Type} : List (Lit × DataW H) → Nat
  | [] => 0
  | x :: r => uptoBulkEntry x + uptoBulkEntries r
def uptoBulkEntry {H : Type} : Lit × DataW H → Nat
  | (.string bytes, d) => bytes.length + uptoBulk d + 1
  | (_, d) => uptoBulk d + 1
 end
def uptoSmall : (H : Type) → List (DataW H) → Bool := fun _ ds => decide (uptoBulkAll ds ≤ 1048576)
def OpenSpec.upto (s : _root_.Go.ChangeSpec) : _root_.Go.OpenSpec := { _root_.Go.OpenSpec.ofChange s with cond := some uptoSmall }

/-- 'portmanteaulaw23.PresetTables', WHERE WHAT IT READS IS OF BULK AT MOST 1048576: true; the input reads as it did. -/
def presetTablesUptoRow : OpenClaim := { program := "ytkffhfdmdcecaaa", sum := "350a9ff920c560bb41c983834d944901ccaf22dc9b4771cf08860328525d8bd0", func := "portmanteau/portmanteaulaw23.PresetTables", spec := "presetTables", unfollowed := true, recurses := true, apart := false, narrowed := true }
def PresetTablesUptoSaid : Prop := presetTablesUptoRow.holds Try.pinned (OpenSpec.upto presetTablesSpec)

/-- 'portmanteaulaw23.PresetParts', WHERE WHAT IT READS IS OF BULK AT MOST 1048576: true; the input reads as it did. -/
def presetPartsUptoRow : OpenClaim := { program := "ytkffhfdmdcecaaa", sum := "350a9ff920c560bb41c983834d944901ccaf22dc9b4771cf08860328525d8bd0", func := "portmanteau/portmanteaulaw23.PresetParts", spec := "presetParts", unfollowed := true, recurses := true, apart := false, narrowed := true }
def PresetPartsUptoSaid : Prop := presetPartsUptoRow.holds Try.pinned (OpenSpec.upto presetPartsSpec)

/-- 'portmanteaulaw23.PresetUnlike', WHERE WHAT IT READS IS OF BULK AT MOST 1048576: true; the input reads as it did. -/
def presetUnlikeUptoRow : OpenClaim := { program := "ytkffhfdmdcecaaa", sum := "350a9ff920c560bb41c983834d944901ccaf22dc9b4771cf08860328525d8bd0", func := "portmanteau/portmanteaulaw23.PresetUnlike", spec := "presetUnlike", unfollowed := true, recurses := true, apart := false, narrowed := true }
def PresetUnlikeUptoSaid : Prop := presetUnlikeUptoRow.holds Try.pinned (OpenSpec.upto presetUnlikeSpec)

/-- 'portmanteaulaw23.PresetMay', WHERE WHAT IT READS IS OF BULK AT MOST 1048576: true; the input reads as it did. -/
def presetMayUptoRow : OpenClaim := { program := "ytkffhfdmdcecaaa", sum := "350a9ff920c560bb41c983834d944901ccaf22dc9b4771cf08860328525d8bd0", func := "portmanteau/portmanteaulaw23.PresetMay", spec := "presetMay", unfollowed := true, recurses := true, apart := false, narrowed := true }
def PresetMayUptoSaid : Prop := presetMayUptoRow.holds Try.pinned (OpenSpec.upto presetMaySpec)

/-- 'portmanteaulaw23.PresetCodes', WHERE WHAT IT READS IS OF BULK AT MOST 1048576: true; the input reads as it did. -/
def presetCodesUptoRow : OpenClaim := { program := "ytkffhfdmdcecaaa", sum := "350a9ff920c560bb41c983834d944901ccaf22dc9b4771cf08860328525d8bd0", func := "portmanteau/portmanteaulaw23.PresetCodes", spec := "presetCodes", unfollowed := true, recurses := true, apart := false, narrowed := true }
def PresetCodesUptoSaid : Prop := presetCodesUptoRow.holds Try.pinned (OpenSpec.upto presetCodesSpec)

/-- 'portmanteaulaw23.PresetCells', WHERE WHAT IT READS IS OF BULK AT MOST 1048576: true; the input reads as it did. -/
def presetCellsUptoRow : OpenClaim := { program := "ytkffhfdmdcecaaa", sum := "350a9ff920c560bb41c983834d944901ccaf22dc9b4771cf08860328525d8bd0", func := "portmanteau/portmanteaulaw23.PresetCells", spec := "presetCells", unfollowed := true, recurses := true, apart := false, narrowed := true }
def PresetCellsUptoSaid : Prop := presetCellsUptoRow.holds Try.pinned (OpenSpec.upto presetCellsSpec)

/-- 'portmanteaulaw23.PresetStates', WHERE WHAT IT READS IS OF BULK AT MOST 1048576: true; the input reads as it did. -/
def presetStatesUptoRow : OpenClaim := { program := "ytkffhfdmdcecaaa", sum := "350a9ff920c560bb41c983834d944901ccaf22dc9b4771cf08860328525d8bd0", func := "portmanteau/portmanteaulaw23.PresetStates", spec := "presetStates", unfollowed := true, recurses := true, apart := false, narrowed := true }
def PresetStatesUptoSaid : Prop := presetStatesUptoRow.holds Try.pinned (OpenSpec.upto presetStatesSpec)

/-- 'portmanteaulaw23.PresetOwn', WHERE WHAT IT READS IS OF BULK AT MOST 1048576: true; the input reads as it did. -/
def presetOwnUptoRow : OpenClaim := { program := "ytkffhfdmdcecaaa", sum := "350a9ff920c560bb41c983834d944901ccaf22dc9b4771cf08860328525d8bd0", func := "portmanteau/portmanteaulaw23.PresetOwn", spec := "presetOwn", unfollowed := true, recurses := true, apart := false, narrowed := true }
def PresetOwnUptoSaid : Prop := presetOwnUptoRow.holds Try.pinned (OpenSpec.upto presetOwnSpec)

end Rows
end Go.Proofs.Ytkffhfdmdcecaaa
