/- The types that the program's functions name. -/
import Derived.Test.YtajlenpookikoaaProg
import Derived.Test.YtajlenpookikoaaChecked
import Derived.KernelRfl
import Derived.Eval
import Derived.Test.YtajlenpookikoaaATypes
import Derived.Test.YtajlenpookikoaaAS29
open Go Go.AM Go.AMx Go.Proofs

theorem lookT_mem {t : TypeId} {ti : TI} : ∀ {l : List (Nat × TI)}, lookT t l = some ti → (t, ti) ∈ l
  | [], h => by cases h
  | (u, i) :: l, h => by
    simp only [lookT] at h
    by_cases hu : u = t
    · simp only [hu, BEq.rfl, cond_true, Option.some.injEq] at h; subst h; subst hu; simp
    · have : (u == t) = false := by simpa using hu
      simp only [this, cond_false] at h
      exact List.mem_cons_of_mem _ (lookT_mem h)
theorem tyOkAll : (tyL.all fun p => tyOk Try.prog p.1 p.2) = true := by kernel_rfl
set_option maxRecDepth 100000 in
theorem tyTOk (con live) : TOk Try.prog ⟨ty, con, live⟩ := fun _ _ h => List.all_eq_true.1 tyOkAll _ (lookT_mem h)
theorem tyOk_deep (P : Program) (t : TypeId) (i : TI) : tyOk P t { i with deep := true } = tyOk P t i := rfl
theorem lookD {t : TypeId} {ti : TI} (h : tyD t = some ti) : ∃ i, (t, i) ∈ tyL ∧ { i with deep := true } = ti := by
  obtain ⟨i, hi, hj⟩ := Option.map_eq_some_iff.1 h
  exact ⟨i, lookT_mem hi, hj⟩
theorem tyDTOk (con live) : TOk Try.prog ⟨tyD, con, live⟩ := fun t ti h => by
  obtain ⟨i, hi, hj⟩ := lookD h
  have := List.all_eq_true.1 tyOkAll (t, i) hi
  rw [← hj, tyOk_deep]
  exact this
theorem namesOk : (Try.prog.funcs.toList.all fun f => !(f.name == "runtime.NumGoroutine")) = true := by kernel_rfl
theorem nameOk (g : FuncId) (fn : Func) (h : Try.prog.funcs[g]? = some fn) : (fn.name == "runtime.NumGoroutine") = false := by
  have := List.all_eq_true.1 namesOk fn (by simpa using Array.mem_of_getElem? h)
  simpa using this
theorem mixOk : Try.prog.follows .mixedOrders = true := Try.checked.mixed
