-- Written by wip/xprint, a program of this session over the kit's print. Lean checks it.
import Derived.Test.YtleifmecmmpbjaaProg
import Derived.Below
import Derived.Deep.Draws
import Derived.Deep.AppendLies
import Derived.Maps.AppendAt
import Derived.OwnWalk
import Derived.Laws.BytesArg
import Derived.Laws.MakeOwn
import Derived.Laws.OwnMore
import Derived.Deep.OwnRows
import Derived.Tactics
import Derived.Lib.ConvBytes
import Derived.Laws.Slices
import Derived.WalkKit
import Derived.KernelRfl
import Derived.RowKit3
import Derived.Deep.LoopGhost
import Derived.Deep.QuietTactic
import Derived.BigQuiet
import Derived.WideLaws
import Derived.Deep.DeepCutAuto
import Derived.Deep.CutBlock
import Derived.Deep.RegionHeld3
import Derived.Laws.Rows
import Derived.Lib.AppendStr
import Derived.ArgAppend
import Derived.Laws.IdiomCopy
import Derived.OrdersHeld
import Derived.Laws.BitsLemmas
import Derived.Laws.Runes
import Derived.RowKit
import Derived.Test.YtleifmecmmpbjaaWWords
import Derived.Test.YtleifmecmmpbjaaWLast
import Derived.Test.YtleifmecmmpbjaaWTab
import Derived.Test.YtleifmecmmpbjaaWFour
import Derived.Test.YtleifmecmmpbjaaWQPut
import Derived.Test.YtleifmecmmpbjaaWApart
import Derived.Test.YtleifmecmmpbjaaWArr
import Derived.Test.YtleifmecmmpbjaaWZeros
import Derived.Test.YtleifmecmmpbjaaWFoot
import Derived.Test.YtleifmecmmpbjaaWKept
import Derived.Test.YtleifmecmmpbjaaWShare
import Derived.Test.YtleifmecmmpbjaaWN
import Derived.Test.YtleifmecmmpbjaaWFootNe
import Derived.Test.YtleifmecmmpbjaaWAt
import Derived.Test.YtleifmecmmpbjaaWEqStruct
import Derived.Test.YtleifmecmmpbjaaWRepsOne
import Derived.Test.YtleifmecmmpbjaaWInv
import Derived.Test.YtleifmecmmpbjaaWInvWords
import Derived.Test.YtleifmecmmpbjaaWGuard
import Derived.Test.YtleifmecmmpbjaaWNEv
import Derived.Test.YtleifmecmmpbjaaWMore
namespace Go.Proofs.Ytleifmecmmpbjaa.XFnExactNumber
open Go.RowKit Go.Proofs.YtleifmecmmpbjaaW.PrintWords Go.Proofs.YtleifmecmmpbjaaW.PrintLast Go.Proofs.YtleifmecmmpbjaaW.PrintMore
attribute [local go_sem] max2_int min2_int max_two min_two max_three min_three max_four min_four   -- for this text's walks alone
set_option linter.unusedVariables false
set_option linter.unusedSimpArgs false



def errW : Option Int → Value
  | none => .nilIface
  | some c => .iface 0 (.int .i64 c)
theorem errW_none : errW none = .nilIface := rfl
theorem errW_some (c : Int) : errW (some c) = .iface 0 (.int .i64 c) := rfl

theorem info5 : (Try.prog.info? 5).map (fun i => (i.zero, i.size, i.bytes)) = some (some (.int .u8 0), 1, 1) := by kernel_rfl
-- the values' own types

end Go.Proofs.Ytleifmecmmpbjaa.XFnExactNumber
