/- Scheduler of the program returns the text that the reference's returns. Conditions: none (the law has no parameter). -/
import Derived.Test.YtbbknoaceccgmaaXFnExactSchedulerx1
namespace Go.Proofs.Ytbbknoaceccgmaa.Pure
open Go.RowKit Go.Proofs.Ytbbknoaceccgmaa.XFnExactScheduler Go.Proofs.YtbbknoaceccgmaaW.PrintWords Go.Proofs.YtbbknoaceccgmaaW.PrintLast Go.Proofs.YtbbknoaceccgmaaW.PrintMore
set_option linter.unusedVariables false
set_option linter.unusedSimpArgs false

set_option maxRecDepth 100000 in
theorem same_text : spec_Scheduler.f = impl_Scheduler.f := by
  unfold spec_Scheduler.f impl_Scheduler.f
  rfl
set_option maxRecDepth 100000 in
theorem FnExactScheduler : laws_FnExactScheduler.Pure := by
  unfold laws_FnExactScheduler.Pure laws_FnExactScheduler.f
  rw [same_text]
  obtain ⟨t, ht⟩ : ∃ t, impl_Scheduler.f = some t := ⟨_, by unfold impl_Scheduler.f; rfl⟩
  rw [ht, Option.bind_some, Option.bind_some, if_pos rfl]


end Go.Proofs.Ytbbknoaceccgmaa.Pure
