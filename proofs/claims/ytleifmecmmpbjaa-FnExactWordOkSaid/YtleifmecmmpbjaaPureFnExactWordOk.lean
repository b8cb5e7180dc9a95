/- WordOk of the program returns what the reference's returns, for every number. Conditions: none beyond the row's own. -/
import Derived.Test.YtleifmecmmpbjaaPFnExactWordOkx1
namespace Go.Proofs.Ytleifmecmmpbjaa.Pure
open Go.RowKit Go.Proofs.Ytleifmecmmpbjaa.PFnExactWordOk Go.Proofs.YtleifmecmmpbjaaW.PrintWords Go.Proofs.YtleifmecmmpbjaaW.PrintLast

theorem FnExactWordOk : laws_FnExactWordOk.Pure := by
  intro a0 _
  unfold laws_FnExactWordOk.f spec_WordOk.f impl_WordOk.f spec_l1In.f impl_within.f
  split <;> simp

end Go.Proofs.Ytleifmecmmpbjaa.Pure
