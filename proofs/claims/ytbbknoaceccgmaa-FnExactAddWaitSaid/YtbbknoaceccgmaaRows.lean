/-
  NARROWER THAN 'FOR EVERY INPUT', by the rows' own cells (each row's printed sentence says how): FnExactDeep: loops · FnExactSize: loops.
  DERIVED. THE GIVEN ROWS OF THIS SEAT. 12 by the template 'for every input the law returns true; each argument reads behind the call as it read before'; 0 by the template 'total and deterministic' (their statements: YtbbknoaceccgmaaTotals.lean).
  GIVEN WITH THE SEED: the statements are not yours to turn. If you find one false, say at which input.
  Laid BY PROGRAM, IN A SANDBOX (cutbox-rows.mjs): the forced cells as the released guide's own fill.sh prints them over the translation e261e8f4c1aa1e59… (all of the seat's roots in one cut). By AI agents, Wed Nov 11 2026. No macro, syntax, notation, axiom, sorry.
-/
import Derived.Test.YtbbknoaceccgmaaChecked
import GoSem.Claim
import GoSem.ClaimJoined
import GoSem.ClaimMapViews
import Derived.JoinedTies
import Derived.KernelRfl
namespace Go.Proofs.Ytbbknoaceccgmaa
/- THE CELL 'sum', in the pinned program and in every row, IS THE sha256 OF THE DUMP (.gsa) THAT YtbbknoaceccgmaaProg.lean LOADS. Nothing in Lean hashes anything: it is a label: what it is worth is what the hold of that sum in a sandbox is worth. -/
noncomputable def Try.pinned : Pinned := { name := "ytbbknoaceccgmaa", sum := "e261e8f4c1aa1e594f5819ebb87f8ebe3a1866fa29edd95005cb183b164084b8", checked := Try.checked }
namespace Rows
def none {H : Type} : Left H := { results := [], args := [] }

/-- 'laws.FnExactCoreOk': WHATEVER THE INPUT: true; the input reads as it did. -/
def fnExactCoreOkSpec : ChangeSpec := { name := "fnExactCoreOk", fn := fun _ => fun
  | [d] => { results := [.lit (.bool true)], args := [d] }
  | _ => none }
def fnExactCoreOkRow : OpenClaim := { program := "ytbbknoaceccgmaa", sum := "e261e8f4c1aa1e594f5819ebb87f8ebe3a1866fa29edd95005cb183b164084b8", func := "loop.example/g00286/laws.FnExactCoreOk", spec := "fnExactCoreOk", unfollowed := true, recurses := true, apart := false }
def FnExactCoreOkSaid : Prop := fnExactCoreOkRow.holds Try.pinned (OpenSpec.ofChange fnExactCoreOkSpec)

/-- ITS FALSE NEIGHBOUR: 'it returns false'. Refute it at one input. -/
def fnExactCoreOkWrong : ChangeSpec := { name := "fnExactCoreOk", fn := fun _ => fun
  | [d] => { results := [.lit (.bool false)], args := [d] }
  | _ => none }
def FnExactCoreOkWrongFalsely : Prop := fnExactCoreOkRow.holds Try.pinned (OpenSpec.ofChange fnExactCoreOkWrong)

/-- 'laws.FnExactDeep': WHATEVER THE INPUT: true; the input reads as it did. -/
def fnExactDeepSpec : ChangeSpec := { name := "fnExactDeep", fn := fun _ => fun
  | [d] => { results := [.lit (.bool true)], args := [d] }
  | _ => none }
def fnExactDeepRow : OpenClaim := { program := "ytbbknoaceccgmaa", sum := "e261e8f4c1aa1e594f5819ebb87f8ebe3a1866fa29edd95005cb183b164084b8", func := "loop.example/g00286/laws.FnExactDeep", spec := "fnExactDeep", recurses := true, loops := true, apart := false }
def FnExactDeepSaid : Prop := fnExactDeepRow.holds Try.pinned (OpenSpec.ofChange fnExactDeepSpec)

/-- ITS FALSE NEIGHBOUR: 'it returns false'. Refute it at one input. -/
def fnExactDeepWrong : ChangeSpec := { name := "fnExactDeep", fn := fun _ => fun
  | [d] => { results := [.lit (.bool false)], args := [d] }
  | _ => none }
def FnExactDeepWrongFalsely : Prop := fnExactDeepRow.holds Try.pinned (OpenSpec.ofChange fnExactDeepWrong)

/-- 'laws.FnExactInsOk': WHATEVER THE INPUT: true; the input reads as it did. -/
def fnExactInsOkSpec : ChangeSpec := { name := "fnExactInsOk", fn := fun _ => fun
  | [d] => { results := [.lit (.bool true)], args := [d] }
  | _ => none }
def fnExactInsOkRow : OpenClaim := { program := "ytbbknoaceccgmaa", sum := "e261e8f4c1aa1e594f5819ebb87f8ebe3a1866fa29edd95005cb183b164084b8", func := "loop.example/g00286/laws.FnExactInsOk", spec := "fnExactInsOk", apart := false }
def FnExactInsOkSaid : Prop := fnExactInsOkRow.holds Try.pinned (OpenSpec.ofChange fnExactInsOkSpec)

/-- ITS FALSE NEIGHBOUR: 'it returns false'. Refute it at one input. -/
def fnExactInsOkWrong : ChangeSpec := { name := "fnExactInsOk", fn := fun _ => fun
  | [d] => { results := [.lit (.bool false)], args := [d] }
  | _ => none }
def FnExactInsOkWrongFalsely : Prop := fnExactInsOkRow.holds Try.pinned (OpenSpec.ofChange fnExactInsOkWrong)

/-- 'laws.FnExactFirstWait': WHATEVER THE INPUT: true; the input reads as it did. -/
def fnExactFirstWaitSpec : ChangeSpec := { name := "fnExactFirstWait", fn := fun _ => fun
  | [d1, d2] => { results := [.lit (.bool true)], args := [d1, d2] }
  | _ => none }
def fnExactFirstWaitRow : OpenClaim := { program := "ytbbknoaceccgmaa", sum := "e261e8f4c1aa1e594f5819ebb87f8ebe3a1866fa29edd95005cb183b164084b8", func := "loop.example/g00286/laws.FnExactFirstWait", spec := "fnExactFirstWait", unfollowed := true, recurses := true, apart := false }
def FnExactFirstWaitSaid : Prop := fnExactFirstWaitRow.holds Try.pinned (OpenSpec.ofChange fnExactFirstWaitSpec)

/-- ITS FALSE NEIGHBOUR: 'it returns false'. Refute it at one input. -/
def fnExactFirstWaitWrong : ChangeSpec := { name := "fnExactFirstWait", fn := fun _ => fun
  | [d1, d2] => { results := [.lit (.bool false)], args := [d1, d2] }
  | _ => none }
def FnExactFirstWaitWrongFalsely : Prop := fnExactFirstWaitRow.holds Try.pinned (OpenSpec.ofChange fnExactFirstWaitWrong)

/-- 'laws.FnExactAddWait': WHATEVER THE INPUT: true; the input reads as it did. -/
def fnExactAddWaitSpec : ChangeSpec := { name := "fnExactAddWait", fn := fun _ => fun
  | [d1, d2] => { results := [.lit (.bool true)], args := [d1, d2] }
  | _ => none }
def fnExactAddWaitRow : OpenClaim := { program := "ytbbknoaceccgmaa", sum := "e261e8f4c1aa1e594f5819ebb87f8ebe3a1866fa29edd95005cb183b164084b8", func := "loop.example/g00286/laws.FnExactAddWait", spec := "fnExactAddWait", apart := false }
def FnExactAddWaitSaid : Prop := fnExactAddWaitRow.holds Try.pinned (OpenSpec.ofChange fnExactAddWaitSpec)

/-- ITS FALSE NEIGHBOUR: 'it returns false'. Refute it at one input. -/
def fnExactAddWaitWrong : ChangeSpec := { name := "fnExactAddWait", fn := fun _ => fun
  | [d1, d2] => { results := [.lit (.bool false)], args := [d1, d2] }
  | _ => none }
def FnExactAddWaitWrongFalsely : Prop := fnExactAddWaitRow.holds Try.pinned (OpenSpec.ofChange fnExactAddWaitWrong)

/-- 'laws.FnExactLive': WHATEVER THE INPUT: true; the input reads as it did. -/
def fnExactLiveSpec : ChangeSpec := { name := "fnExactLive", fn := fun _ => fun
  | [d1, d2] => { results := [.lit (.bool true)], args := [d1, d2] }
  | _ => none }
def fnExactLiveRow : OpenClaim := { program := "ytbbknoaceccgmaa", sum := "e261e8f4c1aa1e594f5819ebb87f8ebe3a1866fa29edd95005cb183b164084b8", func := "loop.example/g00286/laws.FnExactLive", spec := "fnExactLive", apart := false }
def FnExactLiveSaid : Prop := fnExactLiveRow.holds Try.pinned (OpenSpec.ofChange fnExactLiveSpec)

/-- ITS FALSE NEIGHBOUR: 'it returns false'. Refute it at one input. -/
def fnExactLiveWrong : ChangeSpec := { name := "fnExactLive", fn := fun _ => fun
  | [d1, d2] => { results := [.lit (.bool false)], args := [d1, d2] }
  | _ => none }
def FnExactLiveWrongFalsely : Prop := fnExactLiveRow.holds Try.pinned (OpenSpec.ofChange fnExactLiveWrong)

/-- 'laws.FnWords': WHATEVER THE INPUT: true; the input reads as it did. -/
def fnWordsSpec : ChangeSpec := { name := "fnWords", fn := fun _ => fun
  | [d] => { results := [.lit (.bool true)], args := [d] }
  | _ => none }
def fnWordsRow : OpenClaim := { program := "ytbbknoaceccgmaa", sum := "e261e8f4c1aa1e594f5819ebb87f8ebe3a1866fa29edd95005cb183b164084b8", func := "loop.example/g00286/laws.FnWords", spec := "fnWords", recurses := true, apart := false }
def FnWordsSaid : Prop := fnWordsRow.holds Try.pinned (OpenSpec.ofChange fnWordsSpec)

/-- ITS FALSE NEIGHBOUR: 'it returns false'. Refute it at one input. -/
def fnWordsWrong : ChangeSpec := { name := "fnWords", fn := fun _ => fun
  | [d] => { results := [.lit (.bool false)], args := [d] }
  | _ => none }
def FnWordsWrongFalsely : Prop := fnWordsRow.holds Try.pinned (OpenSpec.ofChange fnWordsWrong)

/-- 'laws.FnExactSets': WHATEVER THE INPUT: true; the input reads as it did. -/
def fnExactSetsSpec : ChangeSpec := { name := "fnExactSets", fn := fun _ => fun
  | [d] => { results := [.lit (.bool true)], args := [d] }
  | _ => none }
def fnExactSetsRow : OpenClaim := { program := "ytbbknoaceccgmaa", sum := "e261e8f4c1aa1e594f5819ebb87f8ebe3a1866fa29edd95005cb183b164084b8", func := "loop.example/g00286/laws.FnExactSets", spec := "fnExactSets", apart := false }
def FnExactSetsSaid : Prop := fnExactSetsRow.holds Try.pinned (OpenSpec.ofChange fnExactSetsSpec)

/-- ITS FALSE NEIGHBOUR: 'it returns false'. Refute it at one input. -/
def fnExactSetsWrong : ChangeSpec := { name := "fnExactSets", fn := fun _ => fun
  | [d] => { results := [.lit (.bool false)], args := [d] }
  | _ => none }
def FnExactSetsWrongFalsely : Prop := fnExactSetsRow.holds Try.pinned (OpenSpec.ofChange fnExactSetsWrong)

/-- 'laws.FnExactChanOk': WHATEVER THE INPUT: true; the input reads as it did. -/
def fnExactChanOkSpec : ChangeSpec := { name := "fnExactChanOk", fn := fun _ => fun
  | [d] => { results := [.lit (.bool true)], args := [d] }
  | _ => none }
def fnExactChanOkRow : OpenClaim := { program := "ytbbknoaceccgmaa", sum := "e261e8f4c1aa1e594f5819ebb87f8ebe3a1866fa29edd95005cb183b164084b8", func := "loop.example/g00286/laws.FnExactChanOk", spec := "fnExactChanOk", unfollowed := true, recurses := true, apart := false }
def FnExactChanOkSaid : Prop := fnExactChanOkRow.holds Try.pinned (OpenSpec.ofChange fnExactChanOkSpec)

/-- ITS FALSE NEIGHBOUR: 'it returns false'. Refute it at one input. -/
def fnExactChanOkWrong : ChangeSpec := { name := "fnExactChanOk", fn := fun _ => fun
  | [d] => { results := [.lit (.bool false)], args := [d] }
  | _ => none }
def FnExactChanOkWrongFalsely : Prop := fnExactChanOkRow.holds Try.pinned (OpenSpec.ofChange fnExactChanOkWrong)

/-- 'laws.FnExactScheduler': WHATEVER THE INPUT: true; the input reads as it did. -/
def fnExactSchedulerSpec : ChangeSpec := { name := "fnExactScheduler", fn := fun _ => fun
  | [] => { results := [.lit (.bool true)], args := [] }
  | _ => none }
def fnExactSchedulerRow : OpenClaim := { program := "ytbbknoaceccgmaa", sum := "e261e8f4c1aa1e594f5819ebb87f8ebe3a1866fa29edd95005cb183b164084b8", func := "loop.example/g00286/laws.FnExactScheduler", spec := "fnExactScheduler", apart := false }
def FnExactSchedulerSaid : Prop := fnExactSchedulerRow.holds Try.pinned (OpenSpec.ofChange fnExactSchedulerSpec)

/-- ITS FALSE NEIGHBOUR: 'it returns false'. Refute it at one input. -/
def fnExactSchedulerWrong : ChangeSpec := { name := "fnExactScheduler", fn := fun _ => fun
  | [] => { results := [.lit (.bool false)], args := [] }
  | _ => none }
def FnExactSchedulerWrongFalsely : Prop := fnExactSchedulerRow.holds Try.pinned (OpenSpec.ofChange fnExactSchedulerWrong)

/-- 'laws.FnExactUses': WHATEVER THE INPUT: true; the input reads as it did. -/
def fnExactUsesSpec : ChangeSpec := { name := "fnExactUses", fn := fun _ => fun
  | [d] => { results := [.lit (.bool true)], args := [d] }
  | _ => none }
def fnExactUsesRow : OpenClaim := { program := "ytbbknoaceccgmaa", sum := "e261e8f4c1aa1e594f5819ebb87f8ebe3a1866fa29edd95005cb183b164084b8", func := "loop.example/g00286/laws.FnExactUses", spec := "fnExactUses", apart := false }
def FnExactUsesSaid : Prop := fnExactUsesRow.holds Try.pinned (OpenSpec.ofChange fnExactUsesSpec)

/-- ITS FALSE NEIGHBOUR: 'it returns false'. Refute it at one input. -/
def fnExactUsesWrong : ChangeSpec := { name := "fnExactUses", fn := fun _ => fun
  | [d] => { results := [.lit (.bool false)], args := [d] }
  | _ => none }
def FnExactUsesWrongFalsely : Prop := fnExactUsesRow.holds Try.pinned (OpenSpec.ofChange fnExactUsesWrong)

/-- 'laws.FnExactSize': WHATEVER THE INPUT: true; the input reads as it did. -/
def fnExactSizeSpec : ChangeSpec := { name := "fnExactSize", fn := fun _ => fun
  | [d] => { results := [.lit (.bool true)], args := [d] }
  | _ => none }
def fnExactSizeRow : OpenClaim := { program := "ytbbknoaceccgmaa", sum := "e261e8f4c1aa1e594f5819ebb87f8ebe3a1866fa29edd95005cb183b164084b8", func := "loop.example/g00286/laws.FnExactSize", spec := "fnExactSize", recurses := true, loops := true, apart := false }
def FnExactSizeSaid : Prop := fnExactSizeRow.holds Try.pinned (OpenSpec.ofChange fnExactSizeSpec)

/-- ITS FALSE NEIGHBOUR: 'it returns false'. Refute it at one input. -/
def fnExactSizeWrong : ChangeSpec := { name := "fnExactSize", fn := fun _ => fun
  | [d] => { results := [.lit (.bool false)], args := [d] }
  | _ => none }
def FnExactSizeWrongFalsely : Prop := fnExactSizeRow.holds Try.pinned (OpenSpec.ofChange fnExactSizeWrong)

/- THE SECOND FORM. 'bulk': how many values and letters a reading holds, each counted each time it is reached (what is shared counts as often as it is met; a slice's spare places count too). A statement '..UptoSaid' is the law's where the arguments, and the package variables that the reading takes, are together of bulk at most 1048576: NARROWER than '..Said'. Prove '..Said' where nothing that the law and all that it calls make is longer than what came in: it says more and counts as full. Else prove '..UptoSaid'. A law counts once. -/
mutual
def uptoBulk {H : Type} : DataW H → Nat
  | .lit (.string bytes) => bytes.length + 1
  | .lit _ => 1
  | .nil => 1
  | .ptr d => uptoBulk d + 1
  | .slice elems spare => uptoBulkAll elems + uptoBulkAll spare + 1
  | .agg parts => uptoBulkAll parts + 1
  | .iface _ d => uptoBulk d + 1
  | .map entries => uptoBulkEntries entries + 1
  | .held _ => 1
def uptoBulkAll {H : Type} : List (DataW H) → Nat
  | [] => 0
  | d :: r => uptoBulk d + uptoBulkAll r
def uptoBulkEntries {H : Type} : List (Lit × DataW H) → Nat
  | [] => 0
  | x :: r => uptoBulkEntry x + uptoBulkEntries r
def uptoBulkEntry {H : Type} : Lit × DataW H → Nat
  | (.string bytes, d) => bytes.length + uptoBulk d + 1
  | (_, d) => uptoBulk d + 1
 end
def uptoSmall : (H : Type) → List (DataW H) → Bool := fun _ ds => decide (uptoBulkAll ds ≤ 1048576)
def OpenSpec.upto (s : _root_.Go.ChangeSpec) : _root_.Go.OpenSpec := { _root_.Go.OpenSpec.ofChange s with cond := some uptoSmall }

/-- 'laws.FnExactCoreOk', WHERE WHAT IT READS IS OF BULK AT MOST 1048576: true; the input reads as it did. -/
def fnExactCoreOkUptoRow : OpenClaim := { program := "ytbbknoaceccgmaa", sum := "e261e8f4c1aa1e594f5819ebb87f8ebe3a1866fa29edd95005cb183b164084b8", func := "loop.example/g00286/laws.FnExactCoreOk", spec := "fnExactCoreOk", unfollowed := true, recurses := true, apart := false, narrowed := true }
def FnExactCoreOkUptoSaid : Prop := fnExactCoreOkUptoRow.holds Try.pinned (OpenSpec.upto fnExactCoreOkSpec)

/-- 'laws.FnExactDeep', WHERE WHAT IT READS IS OF BULK AT MOST 1048576: true; the input reads as it did. -/
def fnExactDeepUptoRow : OpenClaim := { program := "ytbbknoaceccgmaa", sum := "e261e8f4c1aa1e594f5819ebb87f8ebe3a1866fa29edd95005cb183b164084b8", func := "loop.example/g00286/laws.FnExactDeep", spec := "fnExactDeep", recurses := true, loops := true, apart := false, narrowed := true }
def FnExactDeepUptoSaid : Prop := fnExactDeepUptoRow.holds Try.pinned (OpenSpec.upto fnExactDeepSpec)

/-- 'laws.FnExactInsOk', WHERE WHAT IT READS IS OF BULK AT MOST 1048576: true; the input reads as it did. -/
def fnExactInsOkUptoRow : OpenClaim := { program := "ytbbknoaceccgmaa", sum := "e261e8f4c1aa1e594f5819ebb87f8ebe3a1866fa29edd95005cb183b164084b8", func := "loop.example/g00286/laws.FnExactInsOk", spec := "fnExactInsOk", apart := false, narrowed := true }
def FnExactInsOkUptoSaid : Prop := fnExactInsOkUptoRow.holds Try.pinned (OpenSpec.upto fnExactInsOkSpec)

/-- 'laws.FnExactFirstWait', WHERE WHAT IT READS IS OF BULK AT MOST 1048576: true; the input reads as it did. -/
def fnExactFirstWaitUptoRow : OpenClaim := { program := "ytbbknoaceccgmaa", sum := "e261e8f4c1aa1e594f5819ebb87f8ebe3a1866fa29edd95005cb183b164084b8", func := "loop.example/g00286/laws.FnExactFirstWait", spec := "fnExactFirstWait", unfollowed := true, recurses := true, apart := false, narrowed := true }
def FnExactFirstWaitUptoSaid : Prop := fnExactFirstWaitUptoRow.holds Try.pinned (OpenSpec.upto fnExactFirstWaitSpec)

/-- 'laws.FnExactAddWait', WHERE WHAT IT READS IS OF BULK AT MOST 1048576: true; the input reads as it did. -/
def fnExactAddWaitUptoRow : OpenClaim := { program := "ytbbknoaceccgmaa", sum := "e261e8f4c1aa1e594f5819ebb87f8ebe3a1866fa29edd95005cb183b164084b8", func := "loop.example/g00286/laws.FnExactAddWait", spec := "fnExactAddWait", apart := false, narrowed := true }
def FnExactAddWaitUptoSaid : Prop := fnExactAddWaitUptoRow.holds Try.pinned (OpenSpec.upto fnExactAddWaitSpec)

/-- 'laws.FnExactLive', WHERE WHAT IT READS IS OF BULK AT MOST 1048576: true; the input reads as it did. -/
def fnExactLiveUptoRow : OpenClaim := { program := "ytbbknoaceccgmaa", sum := "e261e8f4c1aa1e594f5819ebb87f8ebe3a1866fa29edd95005cb183b164084b8", func := "loop.example/g00286/laws.FnExactLive", spec := "fnExactLive", apart := false, narrowed := true }
def FnExactLiveUptoSaid : Prop := fnExactLiveUptoRow.holds Try.pinned (OpenSpec.upto fnExactLiveSpec)

/-- 'laws.FnWords', WHERE WHAT IT READS IS OF BULK AT MOST 1048576: true; the input reads as it did. -/
def fnWordsUptoRow : OpenClaim := { program := "ytbbknoaceccgmaa", sum := "e261e8f4c1aa1e594f5819ebb87f8ebe3a1866fa29edd95005cb183b164084b8", func := "loop.example/g00286/laws.FnWords", spec := "fnWords", recurses := true, apart := false, narrowed := true }
def FnWordsUptoSaid : Prop := fnWordsUptoRow.holds Try.pinned (OpenSpec.upto fnWordsSpec)

/-- 'laws.FnExactSets', WHERE WHAT IT READS IS OF BULK AT MOST 1048576: true; the input reads as it did. -/
def fnExactSetsUptoRow : OpenClaim := { program := "ytbbknoaceccgmaa", sum := "e261e8f4c1aa1e594f5819ebb87f8ebe3a1866fa29edd95005cb183b164084b8", func := "loop.example/g00286/laws.FnExactSets", spec := "fnExactSets", apart := false, narrowed := true }
def FnExactSetsUptoSaid : Prop := fnExactSetsUptoRow.holds Try.pinned (OpenSpec.upto fnExactSetsSpec)

/-- 'laws.FnExactChanOk', WHERE WHAT IT READS IS OF BULK AT MOST 1048576: true; the input reads as it did. -/
def fnExactChanOkUptoRow : OpenClaim := { program := "ytbbknoaceccgmaa", sum := "e261e8f4c1aa1e594f5819ebb87f8ebe3a1866fa29edd95005cb183b164084b8", func := "loop.example/g00286/laws.FnExactChanOk", spec := "fnExactChanOk", unfollowed := true, recurses := true, apart := false, narrowed := true }
def FnExactChanOkUptoSaid : Prop := fnExactChanOkUptoRow.holds Try.pinned (OpenSpec.upto fnExactChanOkSpec)

/-- 'laws.FnExactScheduler', WHERE WHAT IT READS IS OF BULK AT MOST 1048576: true; the input reads as it did. -/
def fnExactSchedulerUptoRow : OpenClaim := { program := "ytbbknoaceccgmaa", sum := "e261e8f4c1aa1e594f5819ebb87f8ebe3a1866fa29edd95005cb183b164084b8", func := "loop.example/g00286/laws.FnExactScheduler", spec := "fnExactScheduler", apart := false, narrowed := true }
def FnExactSchedulerUptoSaid : Prop := fnExactSchedulerUptoRow.holds Try.pinned (OpenSpec.upto fnExactSchedulerSpec)

/-- 'laws.FnExactUses', WHERE WHAT IT READS IS OF BULK AT MOST 1048576: true; the input reads as it did. -/
def fnExactUsesUptoRow : OpenClaim := { program := "ytbbknoaceccgmaa", sum := "e261e8f4c1aa1e594f5819ebb87f8ebe3a1866fa29edd95005cb183b164084b8", func := "loop.example/g00286/laws.FnExactUses", spec := "fnExactUses", apart := false, narrowed := true }
def FnExactUsesUptoSaid : Prop := fnExactUsesUptoRow.holds Try.pinned (OpenSpec.upto fnExactUsesSpec)

/-- 'laws.FnExactSize', WHERE WHAT IT READS IS OF BULK AT MOST 1048576: true; the input reads as it did. -/
def fnExactSizeUptoRow : OpenClaim := { program := "ytbbknoaceccgmaa", sum := "e261e8f4c1aa1e594f5819ebb87f8ebe3a1866fa29edd95005cb183b164084b8", func := "loop.example/g00286/laws.FnExactSize", spec := "fnExactSize", recurses := true, loops := true, apart := false, narrowed := true }
def FnExactSizeUptoSaid : Prop := fnExactSizeUptoRow.holds Try.pinned (OpenSpec.upto fnExactSizeSpec)

end Rows
end Go.Proofs.Ytbbknoaceccgmaa
