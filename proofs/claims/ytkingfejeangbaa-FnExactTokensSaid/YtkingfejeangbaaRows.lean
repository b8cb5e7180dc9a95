/-
  No cell of these rows narrows 'for every input' (looked for: loops, veiled, ifaces, maps, wideKeys, modest, calm, conditions, laid).
  DERIVED. THE GIVEN ROWS OF THIS SEAT. 3 by the template 'for every input the law returns true; each argument reads behind the call as it read before'; 0 by the template 'total and deterministic' (their statements: YtkingfejeangbaaTotals.lean).
  GIVEN WITH THE SEED: the statements are not yours to turn. If you find one false, say at which input.
  Laid BY PROGRAM, IN A SANDBOX (cutbox-rows.mjs): the forced cells as the released guide's own fill.sh prints them over the translation 3367f856c8277243… (all of the seat's roots in one cut). By AI agents, Wed Nov 11 2026. No macro, syntax, notation, axiom, sorry.
-/
import Derived.Test.YtkingfejeangbaaChecked
import GoSem.Claim
import GoSem.ClaimJoined
import GoSem.ClaimMapViews
import Derived.JoinedTies
import Derived.KernelRfl
namespace Go.Proofs.Ytkingfejeangbaa
/- THE CELL 'sum', in the pinned program and in every row, IS THE sha256 OF THE DUMP (.gsa) THAT YtkingfejeangbaaProg.lean LOADS. Nothing in Lean hashes anything: it is a label: what it is worth is what the hold of that sum in a sandbox is worth. -/
noncomputable def Try.pinned : Pinned := { name := "ytkingfejeangbaa", sum := "3367f856c82772432e866457e410212d3364fb7f41bcbb88b51720d2adb1e635", checked := Try.checked }
namespace Rows
def none {H : Type} : Left H := { results := [], args := [] }

/-- 'laws.FnExactReads': WHATEVER THE INPUT: true; the input reads as it did. -/
def fnExactReadsSpec : ChangeSpec := { name := "fnExactReads", fn := fun _ => fun
  | [d] => { results := [.lit (.bool true)], args := [d] }
  | _ => none }
def fnExactReadsRow : OpenClaim := { program := "ytkingfejeangbaa", sum := "3367f856c82772432e866457e410212d3364fb7f41bcbb88b51720d2adb1e635", func := "loop.example/g00286/laws.FnExactReads", spec := "fnExactReads", recurses := true, apart := false }
def FnExactReadsSaid : Prop := fnExactReadsRow.holds Try.pinned (OpenSpec.ofChange fnExactReadsSpec)

/-- ITS FALSE NEIGHBOUR: 'it returns false'. Refute it at one input. -/
def fnExactReadsWrong : ChangeSpec := { name := "fnExactReads", fn := fun _ => fun
  | [d] => { results := [.lit (.bool false)], args := [d] }
  | _ => none }
def FnExactReadsWrongFalsely : Prop := fnExactReadsRow.holds Try.pinned (OpenSpec.ofChange fnExactReadsWrong)

/-- 'laws.FnInsNamed': WHATEVER THE INPUT: true; the input reads as it did. -/
def fnInsNamedSpec : ChangeSpec := { name := "fnInsNamed", fn := fun _ => fun
  | [d] => { results := [.lit (.bool true)], args := [d] }
  | _ => none }
def fnInsNamedRow : OpenClaim := { program := "ytkingfejeangbaa", sum := "3367f856c82772432e866457e410212d3364fb7f41bcbb88b51720d2adb1e635", func := "loop.example/g00286/laws.FnInsNamed", spec := "fnInsNamed", recurses := true, apart := false }
def FnInsNamedSaid : Prop := fnInsNamedRow.holds Try.pinned (OpenSpec.ofChange fnInsNamedSpec)

/-- ITS FALSE NEIGHBOUR: 'it returns false'. Refute it at one input. -/
def fnInsNamedWrong : ChangeSpec := { name := "fnInsNamed", fn := fun _ => fun
  | [d] => { results := [.lit (.bool false)], args := [d] }
  | _ => none }
def FnInsNamedWrongFalsely : Prop := fnInsNamedRow.holds Try.pinned (OpenSpec.ofChange fnInsNamedWrong)

/-- 'laws.FnExactTokens': WHATEVER THE INPUT: true; the input reads as it did. -/
def fnExactTokensSpec : ChangeSpec := { name := "fnExactTokens", fn := fun _ => fun
  | [d] => { results := [.lit (.bool true)], args := [d] }
  | _ => none }
def fnExactTokensRow : OpenClaim := { program := "ytkingfejeangbaa", sum := "3367f856c82772432e866457e410212d3364fb7f41bcbb88b51720d2adb1e635", func := "loop.example/g00286/laws.FnExactTokens", spec := "fnExactTokens", inPlace := ["internal/bytealg.IndexByteString"], unfollowed := true, recurses := true, apart := false }
def FnExactTokensSaid : Prop := fnExactTokensRow.holds Try.pinned (OpenSpec.ofChange fnExactTokensSpec)

/-- ITS FALSE NEIGHBOUR: 'it returns false'. Refute it at one input. -/
def fnExactTokensWrong : ChangeSpec := { name := "fnExactTokens", fn := fun _ => fun
  | [d] => { results := [.lit (.bool false)], args := [d] }
  | _ => none }
def FnExactTokensWrongFalsely : Prop := fnExactTokensRow.holds Try.pinned (OpenSpec.ofChange fnExactTokensWrong)

/- THE SECOND FORM. 'bulk': how many values and letters a reading holds, each counted each time it is reached (what is shared counts as often as it is met; a slice's spare places count too). A statement '..UptoSaid' is the law's where the arguments, and the package variables that the reading takes, are together of bulk at most 1048576: NARROWER than '..Said'. Prove '..Said' where nothing that the law and all that it calls make is longer than what came in: it says more and counts as full. Else prove '..UptoSaid'. A law counts once. -/
mutual
def uptoBulk {H : Type} : DataW H → Nat
  | .lit (.string bytes) => bytes.length + 1
  | .lit _ => 1
  | .nil => 1
  | .ptr d => uptoBulk d + 1
  | .slice elems spare => uptoBulkAll elems + uptoBulkAll spare + 1
  | .agg parts => uptoBulkAll parts + 1
  | .iface _ d => uptoBulk d + 1
  | .map entries => uptoBulkEntries entries + 1
  | .held _ => 1
def uptoBulkAll {H : Type} : List (DataW H) → Nat
  | [] => 0
  | d :: r => uptoBulk d + uptoBulkAll r
def uptoBulkEntries {H : Type} : List (Lit × DataW H) → Nat
  | [] => 0
  | x :: r => uptoBulkEntry x + uptoBulkEntries r
def uptoBulkEntry {H : Type} : Lit × DataW H → Nat
  | (.string bytes, d) => bytes.length + uptoBulk d + 1
  | (_, d) => uptoBulk d + 1
 end
def uptoSmall : (H : Type) → List (DataW H) → Bool := fun _ ds => decide (uptoBulkAll ds ≤ 1048576)
def OpenSpec.upto (s : _root_.Go.ChangeSpec) : _root_.Go.OpenSpec := { _root_.Go.OpenSpec.ofChange s with cond := some uptoSmall }

/-- 'laws.FnExactReads', WHERE WHAT IT READS IS OF BULK AT MOST 1048576: true; the input reads as it did. -/
def fnExactReadsUptoRow : OpenClaim := { program := "ytkingfejeangbaa", sum := "3367f856c82772432e866457e410212d3364fb7f41bcbb88b51720d2adb1e635", func := "loop.example/g00286/laws.FnExactReads", spec := "fnExactReads", recurses := true, apart := false, narrowed := true }
def FnExactReadsUptoSaid : Prop := fnExactReadsUptoRow.holds Try.pinned (OpenSpec.upto fnExactReadsSpec)

/-- 'laws.FnInsNamed', WHERE WHAT IT READS IS OF BULK AT MOST 1048576: true; the input reads as it did. -/
def fnInsNamedUptoRow : OpenClaim := { program := "ytkingfejeangbaa", sum := "3367f856c82772432e866457e410212d3364fb7f41bcbb88b51720d2adb1e635", func := "loop.example/g00286/laws.FnInsNamed", spec := "fnInsNamed", recurses := true, apart := false, narrowed := true }
def FnInsNamedUptoSaid : Prop := fnInsNamedUptoRow.holds Try.pinned (OpenSpec.upto fnInsNamedSpec)

/-- 'laws.FnExactTokens', WHERE WHAT IT READS IS OF BULK AT MOST 1048576: true; the input reads as it did. -/
def fnExactTokensUptoRow : OpenClaim := { program := "ytkingfejeangbaa", sum := "3367f856c82772432e866457e410212d3364fb7f41bcbb88b51720d2adb1e635", func := "loop.example/g00286/laws.FnExactTokens", spec := "fnExactTokens", inPlace := ["internal/bytealg.IndexByteString"], unfollowed := true, recurses := true, apart := false, narrowed := true }
def FnExactTokensUptoSaid : Prop := fnExactTokensUptoRow.holds Try.pinned (OpenSpec.upto fnExactTokensSpec)

end Rows
end Go.Proofs.Ytkingfejeangbaa
