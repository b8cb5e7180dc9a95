-- Written by wip/xprint, a program of this session over the kit's print. Lean checks it.
import Derived.Test.YtbbknoaceccgmaaProg
import Derived.Below
import Derived.Deep.Draws
import Derived.Deep.AppendLies
import Derived.Maps.AppendAt
import Derived.OwnWalk
import Derived.Laws.BytesArg
import Derived.Laws.MakeOwn
import Derived.Laws.OwnMore
import Derived.Deep.OwnRows
import Derived.Tactics
import Derived.Lib.ConvBytes
import Derived.Laws.Slices
import Derived.WalkKit
import Derived.KernelRfl
import Derived.RowKit3
import Derived.Deep.LoopGhost
import Derived.Deep.QuietTactic
import Derived.BigQuiet
import Derived.WideLaws
import Derived.Deep.DeepCutAuto
import Derived.Deep.CutBlock
import Derived.Deep.RegionHeld3
import Derived.Laws.Rows
import Derived.Lib.AppendStr
import Derived.ArgAppend
import Derived.Laws.IdiomCopy
import Derived.OrdersHeld
import Derived.Laws.BitsLemmas
import Derived.Laws.Runes
import Derived.Shelf.Abstract
import Derived.RowKit
import Derived.Test.YtbbknoaceccgmaaWWords
import Derived.Test.YtbbknoaceccgmaaWLast
import Derived.Test.YtbbknoaceccgmaaWTab
import Derived.Test.YtbbknoaceccgmaaWFour
import Derived.Test.YtbbknoaceccgmaaWQPut
import Derived.Test.YtbbknoaceccgmaaWApart
import Derived.Test.YtbbknoaceccgmaaWArr
import Derived.Test.YtbbknoaceccgmaaWZeros
import Derived.Test.YtbbknoaceccgmaaWFoot
import Derived.Test.YtbbknoaceccgmaaWKept
import Derived.Test.YtbbknoaceccgmaaWShare
import Derived.Test.YtbbknoaceccgmaaWN
import Derived.Test.YtbbknoaceccgmaaWFootNe
import Derived.Test.YtbbknoaceccgmaaWAt
import Derived.Test.YtbbknoaceccgmaaWEqStruct
import Derived.Test.YtbbknoaceccgmaaWRepsOne
import Derived.Test.YtbbknoaceccgmaaWInv
import Derived.Test.YtbbknoaceccgmaaWInvWords
import Derived.Test.YtbbknoaceccgmaaWGuard
import Derived.Test.YtbbknoaceccgmaaWNEv
import Derived.Test.YtbbknoaceccgmaaWMore
namespace Go.Proofs.Ytbbknoaceccgmaa.XFnWords
open Go.RowKit Go.Proofs.YtbbknoaceccgmaaW.PrintWords Go.Proofs.YtbbknoaceccgmaaW.PrintLast Go.Proofs.YtbbknoaceccgmaaW.PrintMore
attribute [local go_sem] max2_int min2_int max_two min_two max_three min_three max_four min_four   -- for this text's walks alone
set_option linter.unusedVariables false
set_option linter.unusedSimpArgs false



def errW : Option Int → Value
  | none => .nilIface
  | some c => .iface 0 (.int .i64 c)
theorem errW_none : errW none = .nilIface := rfl
theorem errW_some (c : Int) : errW (some c) = .iface 0 (.int .i64 c) := rfl

theorem info3 : (Try.prog.info? 3).map (fun i => (i.zero, i.size, i.bytes)) = some (some (.int .i64 0), 1, 8) := by kernel_rfl
theorem info5 : (Try.prog.info? 5).map (fun i => (i.zero, i.size, i.bytes)) = some (some (.int .u8 0), 1, 1) := by kernel_rfl
theorem info9 : (Try.prog.info? 9).map (fun i => (i.zero, i.size, i.bytes)) = some (some (.string ⟨#[]⟩), 1, 16) := by kernel_rfl
-- the values' own types

end Go.Proofs.Ytbbknoaceccgmaa.XFnWords
