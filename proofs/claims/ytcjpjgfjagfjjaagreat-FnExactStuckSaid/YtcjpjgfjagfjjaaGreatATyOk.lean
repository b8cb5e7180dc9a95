/- The types that the program's functions name. -/
import Derived.Test.YtcjpjgfjagfjjaaGreatProg
import Derived.Test.YtcjpjgfjagfjjaaGreatChecked
import Derived.KernelRfl
import Derived.Eval
import Derived.Test.YtcjpjgfjagfjjaaGreatATypes
import Derived.Test.YtcjpjgfjagfjjaaGreatAS30
open Go Go.AM Go.AMx Go.Proofs

theorem lookT_mem {t : TypeId} {ti : TI} : ∀ {l : List (Nat × TI)}, lookT t l = some ti → (t, ti) ∈ l
  | [], h => by cases h
  | (u, i) :: l, h => by
    simp only [lookT] at h
    by_cases hu : u = t
    · simp only [hu, BEq.rfl, cond_true, Option.some.injEq] at h; subst h; subst hu; simp
    · have : (u == t) = false := by simpa using hu
      simp only [this, cond_false] at h
      exact List.mem_cons_of_mem _ (lookT_mem h)
theorem tyOkAll : (tyL.all fun p => tyOk Tryz.prog p.1 p.2) = true := by kernel_rfl
set_option maxRecDepth 100000 in
theorem tyTOk (con live) : TOk Tryz.prog ⟨ty, con, live⟩ := fun _ _ h => List.all_eq_true.1 tyOkAll _ (lookT_mem h)
theorem namesOk : (Tryz.prog.funcs.toList.all fun f => !(f.name == "runtime.NumGoroutine")) = true := by kernel_rfl
theorem nameOk (g : FuncId) (fn : Func) (h : Tryz.prog.funcs[g]? = some fn) : (fn.name == "runtime.NumGoroutine") = false := by
  have := List.all_eq_true.1 namesOk fn (by simpa using Array.mem_of_getElem? h)
  simpa using this
theorem mixOk : Tryz.prog.follows .mixedOrders = true := Tryz.checked.mixed
