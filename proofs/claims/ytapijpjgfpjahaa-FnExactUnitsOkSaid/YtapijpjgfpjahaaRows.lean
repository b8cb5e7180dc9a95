/-
  NARROWER THAN 'FOR EVERY INPUT', by the rows' own cells (each row's printed sentence says how): FnExactDeep: loops · FnExactSize: loops.
  DERIVED. THE GIVEN ROWS OF THIS SEAT. 9 by the template 'for every input the law returns true; each argument reads behind the call as it read before'; 0 by the template 'total and deterministic' (their statements: YtapijpjgfpjahaaTotals.lean).
  GIVEN WITH THE SEED: the statements are not yours to turn. If you find one false, say at which input.
  Laid BY PROGRAM, IN A SANDBOX (cutbox-rows.mjs): the forced cells as the released guide's own fill.sh prints them over the translation f006c05e73c7d892… (all of the seat's roots in one cut). By AI agents, Wed Nov 11 2026. No macro, syntax, notation, axiom, sorry.
-/
import Derived.Test.YtapijpjgfpjahaaChecked
import GoSem.Claim
import GoSem.ClaimJoined
import GoSem.ClaimMapViews
import Derived.JoinedTies
import Derived.KernelRfl
namespace Go.Proofs.Ytapijpjgfpjahaa
/- THE CELL 'sum', in the pinned program and in every row, IS THE sha256 OF THE DUMP (.gsa) THAT YtapijpjgfpjahaaProg.lean LOADS. Nothing in Lean hashes anything: it is a label: what it is worth is what the hold of that sum in a sandbox is worth. -/
noncomputable def Try.pinned : Pinned := { name := "ytapijpjgfpjahaa", sum := "f006c05e73c7d8921aa38db88a19afc3a66f63c644a68664c078523ebee2e476", checked := Try.checked }
namespace Rows
def none {H : Type} : Left H := { results := [], args := [] }

/-- 'laws.FnExactMachineOk': WHATEVER THE INPUT: true; the input reads as it did. -/
def fnExactMachineOkSpec : ChangeSpec := { name := "fnExactMachineOk", fn := fun _ => fun
  | [d] => { results := [.lit (.bool true)], args := [d] }
  | _ => none }
def fnExactMachineOkRow : OpenClaim := { program := "ytapijpjgfpjahaa", sum := "f006c05e73c7d8921aa38db88a19afc3a66f63c644a68664c078523ebee2e476", func := "loop.example/g00286/laws.FnExactMachineOk", spec := "fnExactMachineOk", unfollowed := true, recurses := true, apart := false }
def FnExactMachineOkSaid : Prop := fnExactMachineOkRow.holds Try.pinned (OpenSpec.ofChange fnExactMachineOkSpec)

/-- ITS FALSE NEIGHBOUR: 'it returns false'. Refute it at one input. -/
def fnExactMachineOkWrong : ChangeSpec := { name := "fnExactMachineOk", fn := fun _ => fun
  | [d] => { results := [.lit (.bool false)], args := [d] }
  | _ => none }
def FnExactMachineOkWrongFalsely : Prop := fnExactMachineOkRow.holds Try.pinned (OpenSpec.ofChange fnExactMachineOkWrong)

/-- 'laws.FnExactUnitOk': WHATEVER THE INPUT: true; the input reads as it did. -/
def fnExactUnitOkSpec : ChangeSpec := { name := "fnExactUnitOk", fn := fun _ => fun
  | [d] => { results := [.lit (.bool true)], args := [d] }
  | _ => none }
def fnExactUnitOkRow : OpenClaim := { program := "ytapijpjgfpjahaa", sum := "f006c05e73c7d8921aa38db88a19afc3a66f63c644a68664c078523ebee2e476", func := "loop.example/g00286/laws.FnExactUnitOk", spec := "fnExactUnitOk", unfollowed := true, recurses := true, apart := false }
def FnExactUnitOkSaid : Prop := fnExactUnitOkRow.holds Try.pinned (OpenSpec.ofChange fnExactUnitOkSpec)

/-- ITS FALSE NEIGHBOUR: 'it returns false'. Refute it at one input. -/
def fnExactUnitOkWrong : ChangeSpec := { name := "fnExactUnitOk", fn := fun _ => fun
  | [d] => { results := [.lit (.bool false)], args := [d] }
  | _ => none }
def FnExactUnitOkWrongFalsely : Prop := fnExactUnitOkRow.holds Try.pinned (OpenSpec.ofChange fnExactUnitOkWrong)

/-- 'laws.FnExactUnitsOk': WHATEVER THE INPUT: true; the input reads as it did. -/
def fnExactUnitsOkSpec : ChangeSpec := { name := "fnExactUnitsOk", fn := fun _ => fun
  | [d] => { results := [.lit (.bool true)], args := [d] }
  | _ => none }
def fnExactUnitsOkRow : OpenClaim := { program := "ytapijpjgfpjahaa", sum := "f006c05e73c7d8921aa38db88a19afc3a66f63c644a68664c078523ebee2e476", func := "loop.example/g00286/laws.FnExactUnitsOk", spec := "fnExactUnitsOk", unfollowed := true, recurses := true, apart := false }
def FnExactUnitsOkSaid : Prop := fnExactUnitsOkRow.holds Try.pinned (OpenSpec.ofChange fnExactUnitsOkSpec)

/-- ITS FALSE NEIGHBOUR: 'it returns false'. Refute it at one input. -/
def fnExactUnitsOkWrong : ChangeSpec := { name := "fnExactUnitsOk", fn := fun _ => fun
  | [d] => { results := [.lit (.bool false)], args := [d] }
  | _ => none }
def FnExactUnitsOkWrongFalsely : Prop := fnExactUnitsOkRow.holds Try.pinned (OpenSpec.ofChange fnExactUnitsOkWrong)

/-- 'laws.FnTokens': WHATEVER THE INPUT: true; the input reads as it did. -/
def fnTokensSpec : ChangeSpec := { name := "fnTokens", fn := fun _ => fun
  | [d] => { results := [.lit (.bool true)], args := [d] }
  | _ => none }
def fnTokensRow : OpenClaim := { program := "ytapijpjgfpjahaa", sum := "f006c05e73c7d8921aa38db88a19afc3a66f63c644a68664c078523ebee2e476", func := "loop.example/g00286/laws.FnTokens", spec := "fnTokens", inPlace := ["internal/bytealg.IndexByteString"], unfollowed := true, recurses := true, apart := false }
def FnTokensSaid : Prop := fnTokensRow.holds Try.pinned (OpenSpec.ofChange fnTokensSpec)

/-- ITS FALSE NEIGHBOUR: 'it returns false'. Refute it at one input. -/
def fnTokensWrong : ChangeSpec := { name := "fnTokens", fn := fun _ => fun
  | [d] => { results := [.lit (.bool false)], args := [d] }
  | _ => none }
def FnTokensWrongFalsely : Prop := fnTokensRow.holds Try.pinned (OpenSpec.ofChange fnTokensWrong)

/-- 'laws.FnExactReads': WHATEVER THE INPUT: true; the input reads as it did. -/
def fnExactReadsSpec : ChangeSpec := { name := "fnExactReads", fn := fun _ => fun
  | [d] => { results := [.lit (.bool true)], args := [d] }
  | _ => none }
def fnExactReadsRow : OpenClaim := { program := "ytapijpjgfpjahaa", sum := "f006c05e73c7d8921aa38db88a19afc3a66f63c644a68664c078523ebee2e476", func := "loop.example/g00286/laws.FnExactReads", spec := "fnExactReads", recurses := true, apart := false }
def FnExactReadsSaid : Prop := fnExactReadsRow.holds Try.pinned (OpenSpec.ofChange fnExactReadsSpec)

/-- ITS FALSE NEIGHBOUR: 'it returns false'. Refute it at one input. -/
def fnExactReadsWrong : ChangeSpec := { name := "fnExactReads", fn := fun _ => fun
  | [d] => { results := [.lit (.bool false)], args := [d] }
  | _ => none }
def FnExactReadsWrongFalsely : Prop := fnExactReadsRow.holds Try.pinned (OpenSpec.ofChange fnExactReadsWrong)

/-- 'laws.FnExactDeep': WHATEVER THE INPUT: true; the input reads as it did. -/
def fnExactDeepSpec : ChangeSpec := { name := "fnExactDeep", fn := fun _ => fun
  | [d] => { results := [.lit (.bool true)], args := [d] }
  | _ => none }
def fnExactDeepRow : OpenClaim := { program := "ytapijpjgfpjahaa", sum := "f006c05e73c7d8921aa38db88a19afc3a66f63c644a68664c078523ebee2e476", func := "loop.example/g00286/laws.FnExactDeep", spec := "fnExactDeep", recurses := true, loops := true, apart := false }
def FnExactDeepSaid : Prop := fnExactDeepRow.holds Try.pinned (OpenSpec.ofChange fnExactDeepSpec)

/-- ITS FALSE NEIGHBOUR: 'it returns false'. Refute it at one input. -/
def fnExactDeepWrong : ChangeSpec := { name := "fnExactDeep", fn := fun _ => fun
  | [d] => { results := [.lit (.bool false)], args := [d] }
  | _ => none }
def FnExactDeepWrongFalsely : Prop := fnExactDeepRow.holds Try.pinned (OpenSpec.ofChange fnExactDeepWrong)

/-- 'laws.FnExactSize': WHATEVER THE INPUT: true; the input reads as it did. -/
def fnExactSizeSpec : ChangeSpec := { name := "fnExactSize", fn := fun _ => fun
  | [d] => { results := [.lit (.bool true)], args := [d] }
  | _ => none }
def fnExactSizeRow : OpenClaim := { program := "ytapijpjgfpjahaa", sum := "f006c05e73c7d8921aa38db88a19afc3a66f63c644a68664c078523ebee2e476", func := "loop.example/g00286/laws.FnExactSize", spec := "fnExactSize", recurses := true, loops := true, apart := false }
def FnExactSizeSaid : Prop := fnExactSizeRow.holds Try.pinned (OpenSpec.ofChange fnExactSizeSpec)

/-- ITS FALSE NEIGHBOUR: 'it returns false'. Refute it at one input. -/
def fnExactSizeWrong : ChangeSpec := { name := "fnExactSize", fn := fun _ => fun
  | [d] => { results := [.lit (.bool false)], args := [d] }
  | _ => none }
def FnExactSizeWrongFalsely : Prop := fnExactSizeRow.holds Try.pinned (OpenSpec.ofChange fnExactSizeWrong)

/-- 'laws.FnWaits': WHATEVER THE INPUT: true; the input reads as it did. -/
def fnWaitsSpec : ChangeSpec := { name := "fnWaits", fn := fun _ => fun
  | [d] => { results := [.lit (.bool true)], args := [d] }
  | _ => none }
def fnWaitsRow : OpenClaim := { program := "ytapijpjgfpjahaa", sum := "f006c05e73c7d8921aa38db88a19afc3a66f63c644a68664c078523ebee2e476", func := "loop.example/g00286/laws.FnWaits", spec := "fnWaits", unfollowed := true, recurses := true, apart := false }
def FnWaitsSaid : Prop := fnWaitsRow.holds Try.pinned (OpenSpec.ofChange fnWaitsSpec)

/-- ITS FALSE NEIGHBOUR: 'it returns false'. Refute it at one input. -/
def fnWaitsWrong : ChangeSpec := { name := "fnWaits", fn := fun _ => fun
  | [d] => { results := [.lit (.bool false)], args := [d] }
  | _ => none }
def FnWaitsWrongFalsely : Prop := fnWaitsRow.holds Try.pinned (OpenSpec.ofChange fnWaitsWrong)

/-- 'laws.FnExactTokens': WHATEVER THE INPUT: true; the input reads as it did. -/
def fnExactTokensSpec : ChangeSpec := { name := "fnExactTokens", fn := fun _ => fun
  | [d] => { results := [.lit (.bool true)], args := [d] }
  | _ => none }
def fnExactTokensRow : OpenClaim := { program := "ytapijpjgfpjahaa", sum := "f006c05e73c7d8921aa38db88a19afc3a66f63c644a68664c078523ebee2e476", func := "loop.example/g00286/laws.FnExactTokens", spec := "fnExactTokens", inPlace := ["internal/bytealg.IndexByteString"], unfollowed := true, recurses := true, apart := false }
def FnExactTokensSaid : Prop := fnExactTokensRow.holds Try.pinned (OpenSpec.ofChange fnExactTokensSpec)

/-- ITS FALSE NEIGHBOUR: 'it returns false'. Refute it at one input. -/
def fnExactTokensWrong : ChangeSpec := { name := "fnExactTokens", fn := fun _ => fun
  | [d] => { results := [.lit (.bool false)], args := [d] }
  | _ => none }
def FnExactTokensWrongFalsely : Prop := fnExactTokensRow.holds Try.pinned (OpenSpec.ofChange fnExactTokensWrong)

/- THE SECOND FORM. 'bulk': how many values and letters a reading holds, each counted each time it is reached (what is shared counts as often as it is met; a slice's spare places count too). A statement '..UptoSaid' is the law's where the arguments, and the package variables that the reading takes, are together of bulk at most 1048576: NARROWER than '..Said'. Prove '..Said' where nothing that the law and all that it calls make is longer than what came in: it says more and counts as full. Else prove '..UptoSaid'. A law counts once. -/
mutual
def uptoBulk {H : Type} : DataW H → Nat
  | .lit (.string bytes) => bytes.length + 1
  | .lit _ => 1
  | .nil => 1
  | .ptr d => uptoBulk d + 1
  | .slice elems spare => uptoBulkAll elems + uptoBulkAll spare + 1
  | .agg parts => uptoBulkAll parts + 1
  | .iface _ d => uptoBulk d + 1
  | .map entries => uptoBulkEntries entries + 1
  | .held _ => 1
def uptoBulkAll {H : Type} : List (DataW H) → Nat
  | [] => 0
  | d :: r => uptoBulk d + uptoBulkAll r
def uptoBulkEntries {H : Type} : List (Lit × DataW H) → Nat
  | [] => 0
  | x :: r => uptoBulkEntry x + uptoBulkEntries r
def uptoBulkEntry {H : Type} : Lit × DataW H → Nat
  | (.string bytes, d) => bytes.length + uptoBulk d + 1
  | (_, d) => uptoBulk d + 1
 end
def uptoSmall : (H : Type) → List (DataW H) → Bool := fun _ ds => decide (uptoBulkAll ds ≤ 1048576)
def OpenSpec.upto (s : _root_.Go.ChangeSpec) : _root_.Go.OpenSpec := { _root_.Go.OpenSpec.ofChange s with cond := some uptoSmall }

/-- 'laws.FnExactMachineOk', WHERE WHAT IT READS IS OF BULK AT MOST 1048576: true; the input reads as it did. -/
def fnExactMachineOkUptoRow : OpenClaim := { program := "ytapijpjgfpjahaa", sum := "f006c05e73c7d8921aa38db88a19afc3a66f63c644a68664c078523ebee2e476", func := "loop.example/g00286/laws.FnExactMachineOk", spec := "fnExactMachineOk", unfollowed := true, recurses := true, apart := false, narrowed := true }
def FnExactMachineOkUptoSaid : Prop := fnExactMachineOkUptoRow.holds Try.pinned (OpenSpec.upto fnExactMachineOkSpec)

/-- 'laws.FnExactUnitOk', WHERE WHAT IT READS IS OF BULK AT MOST 1048576: true; the input reads as it did. -/
def fnExactUnitOkUptoRow : OpenClaim := { program := "ytapijpjgfpjahaa", sum := "f006c05e73c7d8921aa38db88a19afc3a66f63c644a68664c078523ebee2e476", func := "loop.example/g00286/laws.FnExactUnitOk", spec := "fnExactUnitOk", unfollowed := true, recurses := true, apart := false, narrowed := true }
def FnExactUnitOkUptoSaid : Prop := fnExactUnitOkUptoRow.holds Try.pinned (OpenSpec.upto fnExactUnitOkSpec)

/-- 'laws.FnExactUnitsOk', WHERE WHAT IT READS IS OF BULK AT MOST 1048576: true; the input reads as it did. -/
def fnExactUnitsOkUptoRow : OpenClaim := { program := "ytapijpjgfpjahaa", sum := "f006c05e73c7d8921aa38db88a19afc3a66f63c644a68664c078523ebee2e476", func := "loop.example/g00286/laws.FnExactUnitsOk", spec := "fnExactUnitsOk", unfollowed := true, recurses := true, apart := false, narrowed := true }
def FnExactUnitsOkUptoSaid : Prop := fnExactUnitsOkUptoRow.holds Try.pinned (OpenSpec.upto fnExactUnitsOkSpec)

/-- 'laws.FnTokens', WHERE WHAT IT READS IS OF BULK AT MOST 1048576: true; the input reads as it did. -/
def fnTokensUptoRow : OpenClaim := { program := "ytapijpjgfpjahaa", sum := "f006c05e73c7d8921aa38db88a19afc3a66f63c644a68664c078523ebee2e476", func := "loop.example/g00286/laws.FnTokens", spec := "fnTokens", inPlace := ["internal/bytealg.IndexByteString"], unfollowed := true, recurses := true, apart := false, narrowed := true }
def FnTokensUptoSaid : Prop := fnTokensUptoRow.holds Try.pinned (OpenSpec.upto fnTokensSpec)

/-- 'laws.FnExactReads', WHERE WHAT IT READS IS OF BULK AT MOST 1048576: true; the input reads as it did. -/
def fnExactReadsUptoRow : OpenClaim := { program := "ytapijpjgfpjahaa", sum := "f006c05e73c7d8921aa38db88a19afc3a66f63c644a68664c078523ebee2e476", func := "loop.example/g00286/laws.FnExactReads", spec := "fnExactReads", recurses := true, apart := false, narrowed := true }
def FnExactReadsUptoSaid : Prop := fnExactReadsUptoRow.holds Try.pinned (OpenSpec.upto fnExactReadsSpec)

/-- 'laws.FnExactDeep', WHERE WHAT IT READS IS OF BULK AT MOST 1048576: true; the input reads as it did. -/
def fnExactDeepUptoRow : OpenClaim := { program := "ytapijpjgfpjahaa", sum := "f006c05e73c7d8921aa38db88a19afc3a66f63c644a68664c078523ebee2e476", func := "loop.example/g00286/laws.FnExactDeep", spec := "fnExactDeep", recurses := true, loops := true, apart := false, narrowed := true }
def FnExactDeepUptoSaid : Prop := fnExactDeepUptoRow.holds Try.pinned (OpenSpec.upto fnExactDeepSpec)

/-- 'laws.FnExactSize', WHERE WHAT IT READS IS OF BULK AT MOST 1048576: true; the input reads as it did. -/
def fnExactSizeUptoRow : OpenClaim := { program := "ytapijpjgfpjahaa", sum := "f006c05e73c7d8921aa38db88a19afc3a66f63c644a68664c078523ebee2e476", func := "loop.example/g00286/laws.FnExactSize", spec := "fnExactSize", recurses := true, loops := true, apart := false, narrowed := true }
def FnExactSizeUptoSaid : Prop := fnExactSizeUptoRow.holds Try.pinned (OpenSpec.upto fnExactSizeSpec)

/-- 'laws.FnWaits', WHERE WHAT IT READS IS OF BULK AT MOST 1048576: true; the input reads as it did. -/
def fnWaitsUptoRow : OpenClaim := { program := "ytapijpjgfpjahaa", sum := "f006c05e73c7d8921aa38db88a19afc3a66f63c644a68664c078523ebee2e476", func := "loop.example/g00286/laws.FnWaits", spec := "fnWaits", unfollowed := true, recurses := true, apart := false, narrowed := true }
def FnWaitsUptoSaid : Prop := fnWaitsUptoRow.holds Try.pinned (OpenSpec.upto fnWaitsSpec)

/-- 'laws.FnExactTokens', WHERE WHAT IT READS IS OF BULK AT MOST 1048576: true; the input reads as it did. -/
def fnExactTokensUptoRow : OpenClaim := { program := "ytapijpjgfpjahaa", sum := "f006c05e73c7d8921aa38db88a19afc3a66f63c644a68664c078523ebee2e476", func := "loop.example/g00286/laws.FnExactTokens", spec := "fnExactTokens", inPlace := ["internal/bytealg.IndexByteString"], unfollowed := true, recurses := true, apart := false, narrowed := true }
def FnExactTokensUptoSaid : Prop := fnExactTokensUptoRow.holds Try.pinned (OpenSpec.upto fnExactTokensSpec)

end Rows
end Go.Proofs.Ytapijpjgfpjahaa
