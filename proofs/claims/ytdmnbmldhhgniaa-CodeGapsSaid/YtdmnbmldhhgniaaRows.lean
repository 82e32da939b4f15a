/-
  No cell of these rows narrows 'for every input' (looked for: loops, veiled, ifaces, maps, wideKeys, modest, calm, conditions, laid).
  DERIVED. THE GIVEN ROWS OF THIS SEAT. 8 by the template 'for every input the law returns true; each argument reads behind the call as it read before'; 0 by the template 'total and deterministic' (their statements: YtdmnbmldhhgniaaTotals.lean).
  GIVEN WITH THE SEED: the statements are not yours to turn. If you find one false, say at which input.
  Laid BY PROGRAM, IN A SANDBOX (cutbox-rows.mjs): the forced cells as the released guide's own fill.sh prints them over the translation 86efbfe1884ce18d… (all of the seat's roots in one cut). By AI agents, Wed Nov 11 2026. No macro, syntax, notation, axiom, sorry.
-/
import Derived.Test.YtdmnbmldhhgniaaChecked
import GoSem.Claim
import GoSem.ClaimJoined
import GoSem.ClaimMapViews
import Derived.JoinedTies
import Derived.KernelRfl
namespace Go.Proofs.Ytdmnbmldhhgniaa
/- THE CELL 'sum', in the pinned program and in every row, IS THE sha256 OF THE DUMP (.gsa) THAT YtdmnbmldhhgniaaProg.lean LOADS. Nothing in Lean hashes anything: it is a label: what it is worth is what the hold of that sum in a sandbox is worth. -/
noncomputable def Try.pinned : Pinned := { name := "ytdmnbmldhhgniaa", sum := "86efbfe1884ce18dea74b2a42ef3b49745254783958c7a51e81527b3ed4feb6c", checked := Try.checked }
namespace Rows
def none {H : Type} : Left H := { results := [], args := [] }

/-- 'portmanteaulaw20.CodeTells': WHATEVER THE INPUT: true; the input reads as it did. -/
def codeTellsSpec : ChangeSpec := { name := "codeTells", fn := fun _ => fun
  | [d] => { results := [.lit (.bool true)], args := [d] }
  | _ => none }
def codeTellsRow : OpenClaim := { program := "ytdmnbmldhhgniaa", sum := "86efbfe1884ce18dea74b2a42ef3b49745254783958c7a51e81527b3ed4feb6c", func := "portmanteau/portmanteaulaw20.CodeTells", spec := "codeTells", unfollowed := true, recurses := true, apart := false }
def CodeTellsSaid : Prop := codeTellsRow.holds Try.pinned (OpenSpec.ofChange codeTellsSpec)

/-- ITS FALSE NEIGHBOUR: 'it returns false'. Refute it at one input. -/
def codeTellsWrong : ChangeSpec := { name := "codeTells", fn := fun _ => fun
  | [d] => { results := [.lit (.bool false)], args := [d] }
  | _ => none }
def CodeTellsWrongFalsely : Prop := codeTellsRow.holds Try.pinned (OpenSpec.ofChange codeTellsWrong)

/-- 'portmanteaulaw20.CodeOrder': WHATEVER THE INPUT: true; the input reads as it did. -/
def codeOrderSpec : ChangeSpec := { name := "codeOrder", fn := fun _ => fun
  | [d1, d2] => { results := [.lit (.bool true)], args := [d1, d2] }
  | _ => none }
def codeOrderRow : OpenClaim := { program := "ytdmnbmldhhgniaa", sum := "86efbfe1884ce18dea74b2a42ef3b49745254783958c7a51e81527b3ed4feb6c", func := "portmanteau/portmanteaulaw20.CodeOrder", spec := "codeOrder", unfollowed := true, recurses := true, apart := false }
def CodeOrderSaid : Prop := codeOrderRow.holds Try.pinned (OpenSpec.ofChange codeOrderSpec)

/-- ITS FALSE NEIGHBOUR: 'it returns false'. Refute it at one input. -/
def codeOrderWrong : ChangeSpec := { name := "codeOrder", fn := fun _ => fun
  | [d1, d2] => { results := [.lit (.bool false)], args := [d1, d2] }
  | _ => none }
def CodeOrderWrongFalsely : Prop := codeOrderRow.holds Try.pinned (OpenSpec.ofChange codeOrderWrong)

/-- 'portmanteaulaw20.CodeWide': WHATEVER THE INPUT: true; the input reads as it did. -/
def codeWideSpec : ChangeSpec := { name := "codeWide", fn := fun _ => fun
  | [d] => { results := [.lit (.bool true)], args := [d] }
  | _ => none }
def codeWideRow : OpenClaim := { program := "ytdmnbmldhhgniaa", sum := "86efbfe1884ce18dea74b2a42ef3b49745254783958c7a51e81527b3ed4feb6c", func := "portmanteau/portmanteaulaw20.CodeWide", spec := "codeWide", unfollowed := true, recurses := true, apart := false }
def CodeWideSaid : Prop := codeWideRow.holds Try.pinned (OpenSpec.ofChange codeWideSpec)

/-- ITS FALSE NEIGHBOUR: 'it returns false'. Refute it at one input. -/
def codeWideWrong : ChangeSpec := { name := "codeWide", fn := fun _ => fun
  | [d] => { results := [.lit (.bool false)], args := [d] }
  | _ => none }
def CodeWideWrongFalsely : Prop := codeWideRow.holds Try.pinned (OpenSpec.ofChange codeWideWrong)

/-- 'portmanteaulaw20.CodeBits': WHATEVER THE INPUT: true; the input reads as it did. -/
def codeBitsSpec : ChangeSpec := { name := "codeBits", fn := fun _ => fun
  | [d] => { results := [.lit (.bool true)], args := [d] }
  | _ => none }
def codeBitsRow : OpenClaim := { program := "ytdmnbmldhhgniaa", sum := "86efbfe1884ce18dea74b2a42ef3b49745254783958c7a51e81527b3ed4feb6c", func := "portmanteau/portmanteaulaw20.CodeBits", spec := "codeBits", unfollowed := true, recurses := true, apart := false }
def CodeBitsSaid : Prop := codeBitsRow.holds Try.pinned (OpenSpec.ofChange codeBitsSpec)

/-- ITS FALSE NEIGHBOUR: 'it returns false'. Refute it at one input. -/
def codeBitsWrong : ChangeSpec := { name := "codeBits", fn := fun _ => fun
  | [d] => { results := [.lit (.bool false)], args := [d] }
  | _ => none }
def CodeBitsWrongFalsely : Prop := codeBitsRow.holds Try.pinned (OpenSpec.ofChange codeBitsWrong)

/-- 'portmanteaulaw20.CodeValues': WHATEVER THE INPUT: true; the input reads as it did. -/
def codeValuesSpec : ChangeSpec := { name := "codeValues", fn := fun _ => fun
  | [d1, d2] => { results := [.lit (.bool true)], args := [d1, d2] }
  | _ => none }
def codeValuesRow : OpenClaim := { program := "ytdmnbmldhhgniaa", sum := "86efbfe1884ce18dea74b2a42ef3b49745254783958c7a51e81527b3ed4feb6c", func := "portmanteau/portmanteaulaw20.CodeValues", spec := "codeValues", unfollowed := true, recurses := true, apart := false }
def CodeValuesSaid : Prop := codeValuesRow.holds Try.pinned (OpenSpec.ofChange codeValuesSpec)

/-- ITS FALSE NEIGHBOUR: 'it returns false'. Refute it at one input. -/
def codeValuesWrong : ChangeSpec := { name := "codeValues", fn := fun _ => fun
  | [d1, d2] => { results := [.lit (.bool false)], args := [d1, d2] }
  | _ => none }
def CodeValuesWrongFalsely : Prop := codeValuesRow.holds Try.pinned (OpenSpec.ofChange codeValuesWrong)

/-- 'portmanteaulaw20.CodeOnto': WHATEVER THE INPUT: true; the input reads as it did. -/
def codeOntoSpec : ChangeSpec := { name := "codeOnto", fn := fun _ => fun
  | [d1, d2] => { results := [.lit (.bool true)], args := [d1, d2] }
  | _ => none }
def codeOntoRow : OpenClaim := { program := "ytdmnbmldhhgniaa", sum := "86efbfe1884ce18dea74b2a42ef3b49745254783958c7a51e81527b3ed4feb6c", func := "portmanteau/portmanteaulaw20.CodeOnto", spec := "codeOnto", unfollowed := true, recurses := true, apart := false }
def CodeOntoSaid : Prop := codeOntoRow.holds Try.pinned (OpenSpec.ofChange codeOntoSpec)

/-- ITS FALSE NEIGHBOUR: 'it returns false'. Refute it at one input. -/
def codeOntoWrong : ChangeSpec := { name := "codeOnto", fn := fun _ => fun
  | [d1, d2] => { results := [.lit (.bool false)], args := [d1, d2] }
  | _ => none }
def CodeOntoWrongFalsely : Prop := codeOntoRow.holds Try.pinned (OpenSpec.ofChange codeOntoWrong)

/-- 'portmanteaulaw20.CodeBack': WHATEVER THE INPUT: true; the input reads as it did. -/
def codeBackSpec : ChangeSpec := { name := "codeBack", fn := fun _ => fun
  | [d] => { results := [.lit (.bool true)], args := [d] }
  | _ => none }
def codeBackRow : OpenClaim := { program := "ytdmnbmldhhgniaa", sum := "86efbfe1884ce18dea74b2a42ef3b49745254783958c7a51e81527b3ed4feb6c", func := "portmanteau/portmanteaulaw20.CodeBack", spec := "codeBack", unfollowed := true, recurses := true, apart := false }
def CodeBackSaid : Prop := codeBackRow.holds Try.pinned (OpenSpec.ofChange codeBackSpec)

/-- ITS FALSE NEIGHBOUR: 'it returns false'. Refute it at one input. -/
def codeBackWrong : ChangeSpec := { name := "codeBack", fn := fun _ => fun
  | [d] => { results := [.lit (.bool false)], args := [d] }
  | _ => none }
def CodeBackWrongFalsely : Prop := codeBackRow.holds Try.pinned (OpenSpec.ofChange codeBackWrong)

/-- 'portmanteaulaw20.CodeGaps': WHATEVER THE INPUT: true; the input reads as it did. -/
def codeGapsSpec : ChangeSpec := { name := "codeGaps", fn := fun _ => fun
  | [d] => { results := [.lit (.bool true)], args := [d] }
  | _ => none }
def codeGapsRow : OpenClaim := { program := "ytdmnbmldhhgniaa", sum := "86efbfe1884ce18dea74b2a42ef3b49745254783958c7a51e81527b3ed4feb6c", func := "portmanteau/portmanteaulaw20.CodeGaps", spec := "codeGaps", unfollowed := true, recurses := true, apart := false }
def CodeGapsSaid : Prop := codeGapsRow.holds Try.pinned (OpenSpec.ofChange codeGapsSpec)

/-- ITS FALSE NEIGHBOUR: 'it returns false'. Refute it at one input. -/
def codeGapsWrong : ChangeSpec := { name := "codeGaps", fn := fun _ => fun
  | [d] => { results := [.lit (.bool false)], args := [d] }
  | _ => none }
def CodeGapsWrongFalsely : Prop := codeGapsRow.holds Try.pinned (OpenSpec.ofChange codeGapsWrong)

/- THE SECOND FORM. 'bulk': how many values and letters a reading holds, each counted each time it is reached (what is shared counts as often as it is met; a slice's spare places count too). A statement '..UptoSaid' is the law's where the arguments, and the package variables that the reading takes, are together of bulk at most 1048576: NARROWER than '..Said'. Prove '..Said' where nothing that the law and all that it calls make is longer than what came in: it says more and counts as full. Else prove '..UptoSaid'. A law counts once. -/
mutual
def uptoBulk {H : Type} : DataW H → Nat
  | .lit (.string bytes) => bytes.length + 1
  | .lit _ => 1
  | .nil => 1
  | .ptr d => uptoBulk d + 1
  | .slice elems spare => uptoBulkAll elems + uptoBulkAll spare + 1
  | .agg parts => uptoBulkAll parts + 1
  | .iface _ d => uptoBulk d + 1
  | .map entries => uptoBulkEntries entries + 1
  | .held _ => 1
def uptoBulkAll {H : Type} : List (DataW H) → Nat
  | [] => 0
  | d :: r => uptoBulk d + uptoBulkAll r
def uptoBulkEntries {H : Type} : List (Lit × DataW H) → Nat
  | [] => 0
  | x :: r => uptoBulkEntry x + uptoBulkEntries r
def uptoBulkEntry {H : Type} : Lit × DataW H → Nat
  | (.string bytes, d) => bytes.length + uptoBulk d + 1
  | (_, d) => uptoBulk d + 1
 end
def uptoSmall : (H : Type) → List (DataW H) → Bool := fun _ ds => decide (uptoBulkAll ds ≤ 1048576)
def OpenSpec.upto (s : _root_.Go.ChangeSpec) : _root_.Go.OpenSpec := { _root_.Go.OpenSpec.ofChange s with cond := some uptoSmall }

/-- 'portmanteaulaw20.CodeTells', WHERE WHAT IT READS IS OF BULK AT MOST 1048576: true; the input reads as it did. -/
def codeTellsUptoRow : OpenClaim := { program := "ytdmnbmldhhgniaa", sum := "86efbfe1884ce18dea74b2a42ef3b49745254783958c7a51e81527b3ed4feb6c", func := "portmanteau/portmanteaulaw20.CodeTells", spec := "codeTells", unfollowed := true, recurses := true, apart := false, narrowed := true }
def CodeTellsUptoSaid : Prop := codeTellsUptoRow.holds Try.pinned (OpenSpec.upto codeTellsSpec)

/-- 'portmanteaulaw20.CodeOrder', WHERE WHAT IT READS IS OF BULK AT MOST 1048576: true; the input reads as it did. -/
def codeOrderUptoRow : OpenClaim := { program := "ytdmnbmldhhgniaa", sum := "86efbfe1884ce18dea74b2a42ef3b49745254783958c7a51e81527b3ed4feb6c", func := "portmanteau/portmanteaulaw20.CodeOrder", spec := "codeOrder", unfollowed := true, recurses := true, apart := false, narrowed := true }
def CodeOrderUptoSaid : Prop := codeOrderUptoRow.holds Try.pinned (OpenSpec.upto codeOrderSpec)

/-- 'portmanteaulaw20.CodeWide', WHERE WHAT IT READS IS OF BULK AT MOST 1048576: true; the input reads as it did. -/
def codeWideUptoRow : OpenClaim := { program := "ytdmnbmldhhgniaa", sum := "86efbfe1884ce18dea74b2a42ef3b49745254783958c7a51e81527b3ed4feb6c", func := "portmanteau/portmanteaulaw20.CodeWide", spec := "codeWide", unfollowed := true, recurses := true, apart := false, narrowed := true }
def CodeWideUptoSaid : Prop := codeWideUptoRow.holds Try.pinned (OpenSpec.upto codeWideSpec)

/-- 'portmanteaulaw20.CodeBits', WHERE WHAT IT READS IS OF BULK AT MOST 1048576: true; the input reads as it did. -/
def codeBitsUptoRow : OpenClaim := { program := "ytdmnbmldhhgniaa", sum := "86efbfe1884ce18dea74b2a42ef3b49745254783958c7a51e81527b3ed4feb6c", func := "portmanteau/portmanteaulaw20.CodeBits", spec := "codeBits", unfollowed := true, recurses := true, apart := false, narrowed := true }
def CodeBitsUptoSaid : Prop := codeBitsUptoRow.holds Try.pinned (OpenSpec.upto codeBitsSpec)

/-- 'portmanteaulaw20.CodeValues', WHERE WHAT IT READS IS OF BULK AT MOST 1048576: true; the input reads as it did. -/
def codeValuesUptoRow : OpenClaim := { program := "ytdmnbmldhhgniaa", sum := "86efbfe1884ce18dea74b2a42ef3b49745254783958c7a51e81527b3ed4feb6c", func := "portmanteau/portmanteaulaw20.CodeValues", spec := "codeValues", unfollowed := true, recurses := true, apart := false, narrowed := true }
def CodeValuesUptoSaid : Prop := codeValuesUptoRow.holds Try.pinned (OpenSpec.upto codeValuesSpec)

/-- 'portmanteaulaw20.CodeOnto', WHERE WHAT IT READS IS OF BULK AT MOST 1048576: true; the input reads as it did. -/
def codeOntoUptoRow : OpenClaim := { program := "ytdmnbmldhhgniaa", sum := "86efbfe1884ce18dea74b2a42ef3b49745254783958c7a51e81527b3ed4feb6c", func := "portmanteau/portmanteaulaw20.CodeOnto", spec := "codeOnto", unfollowed := true, recurses := true, apart := false, narrowed := true }
def CodeOntoUptoSaid : Prop := codeOntoUptoRow.holds Try.pinned (OpenSpec.upto codeOntoSpec)

/-- 'portmanteaulaw20.CodeBack', WHERE WHAT IT READS IS OF BULK AT MOST 1048576: true; the input reads as it did. -/
def codeBackUptoRow : OpenClaim := { program := "ytdmnbmldhhgniaa", sum := "86efbfe1884ce18dea74b2a42ef3b49745254783958c7a51e81527b3ed4feb6c", func := "portmanteau/portmanteaulaw20.CodeBack", spec := "codeBack", unfollowed := true, recurses := true, apart := false, narrowed := true }
def CodeBackUptoSaid : Prop := codeBackUptoRow.holds Try.pinned (OpenSpec.upto codeBackSpec)

/-- 'portmanteaulaw20.CodeGaps', WHERE WHAT IT READS IS OF BULK AT MOST 1048576: true; the input reads as it did. -/
def codeGapsUptoRow : OpenClaim := { program := "ytdmnbmldhhgniaa", sum := "86efbfe1884ce18dea74b2a42ef3b49745254783958c7a51e81527b3ed4feb6c", func := "portmanteau/portmanteaulaw20.CodeGaps", spec := "codeGaps", unfollowed := true, recurses := true, apart := false, narrowed := true }
def CodeGapsUptoSaid : Prop := codeGapsUptoRow.holds Try.pinned (OpenSpec.upto codeGapsSpec)

end Rows
end Go.Proofs.Ytdmnbmldhhgniaa
