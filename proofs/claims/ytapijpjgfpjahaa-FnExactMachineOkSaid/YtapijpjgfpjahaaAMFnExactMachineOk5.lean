/- Functions of the program as runs of the interpreter: equations, and a law for each. -/
import Derived.Test.YtapijpjgfpjahaaProg
import Derived.Test.YtapijpjgfpjahaaChecked
import Derived.KernelRfl
import Derived.Eval
import Derived.Test.YtapijpjgfpjahaaATyOk
import Derived.Test.YtapijpjgfpjahaaAS32
import Derived.Test.YtapijpjgfpjahaaAMFnExactMachineOk0
import Derived.Test.YtapijpjgfpjahaaAMFnExactMachineOk1
import Derived.Test.YtapijpjgfpjahaaAMFnExactMachineOk2
import Derived.Test.YtapijpjgfpjahaaAMFnExactMachineOk4
open Go Go.AM Go.AMx Go.Proofs
namespace Go.Proofs.Ytapijpjgfpjahaa.XFnExactMachineOk
set_option linter.unusedVariables false
set_option linter.unusedSimpArgs false
/-! laws.eqMachine -/
noncomputable def E_laws_eqMachine (k : Nat) : Env := ⟨ty, fun g => match g with
  | 89 => some (byVal fun ρ l K => match l with
    | [b1, b2] => (b1.as (.row (.pair (.int .i64) (.pair (.int .i64) (.pair (.int .i64) (.pair (.int .i64) (.pair (.int .i64) (.pair (.int .i64) .unit)))))))).bind fun c1 => (b2.as (.row (.pair (.int .i64) (.pair (.int .i64) (.pair (.int .i64) (.pair (.int .i64) (.pair (.int .i64) (.pair (.int .i64) .unit)))))))).bind fun c2 => (laws_eqInsS k c1 c2).bind fun r => K (tvn .bool r)
    | _ => none)
  | 37 => some (byVal fun ρ l K => match l with
    | [b1, b2] => (b1.as (.row (.int .i64))).bind fun c1 => (b2.as (.row (.int .i64))).bind fun c2 => (laws_eqIntS k c1 c2).bind fun r => K (tvn .bool r)
    | _ => none)
  | 90 => some (byVal fun ρ l K => match l with
    | [b1, b2] => (b1.as (.row (.pair (.int .i64) (.pair (.int .i64) (.pair (.row (.int .i64)) .unit))))).bind fun c1 => (b2.as (.row (.pair (.int .i64) (.pair (.int .i64) (.pair (.row (.int .i64)) .unit))))).bind fun c2 => (laws_eqCoreS k c1 c2).bind fun r => K (tvn .bool r)
    | _ => none)
  | 91 => some (byVal fun ρ l K => match l with
    | [b1, b2] => (b1.as (.row (.pair (.int .i64) (.pair (.int .i64) .unit)))).bind fun c1 => (b2.as (.row (.pair (.int .i64) (.pair (.int .i64) .unit)))).bind fun c2 => (laws_eqNoteS k c1 c2).bind fun r => K (tvn .bool r)
    | _ => none)
  | _ => none, fun _ _ => none⟩
noncomputable def laws_eqMachine (k : Nat) (a1 : (List (Int × Int × Int × Int × Int × Int × Unit)) × (List Int) × (List (Int × Int × (List Int) × Unit)) × (List Int) × (List (Int × Int × Unit)) × Bool × Int × Unit) (a2 : (List (Int × Int × Int × Int × Int × Int × Unit)) × (List Int) × (List (Int × Int × (List Int) × Unit)) × (List Int) × (List (Int × Int × Unit)) × Bool × Int × Unit) : Option (Bool) :=
  abody (E_laws_eqMachine k) (arun Try.prog (E_laws_eqMachine k) k) k 16 Try.f16 [.tv (.pair (.row (.pair (.int .i64) (.pair (.int .i64) (.pair (.int .i64) (.pair (.int .i64) (.pair (.int .i64) (.pair (.int .i64) .unit))))))) (.pair (.row (.int .i64)) (.pair (.row (.pair (.int .i64) (.pair (.int .i64) (.pair (.row (.int .i64)) .unit)))) (.pair (.row (.int .i64)) (.pair (.row (.pair (.int .i64) (.pair (.int .i64) .unit))) (.pair .bool (.pair (.int .i64) .unit))))))) a1, .tv (.pair (.row (.pair (.int .i64) (.pair (.int .i64) (.pair (.int .i64) (.pair (.int .i64) (.pair (.int .i64) (.pair (.int .i64) .unit))))))) (.pair (.row (.int .i64)) (.pair (.row (.pair (.int .i64) (.pair (.int .i64) (.pair (.row (.int .i64)) .unit)))) (.pair (.row (.int .i64)) (.pair (.row (.pair (.int .i64) (.pair (.int .i64) .unit))) (.pair .bool (.pair (.int .i64) .unit))))))) a2] [] (fin1 .bool)
theorem laws_eqMachine_e (k : Nat) (a1 : (List (Int × Int × Int × Int × Int × Int × Unit)) × (List Int) × (List (Int × Int × (List Int) × Unit)) × (List Int) × (List (Int × Int × Unit)) × Bool × Int × Unit) (a2 : (List (Int × Int × Int × Int × Int × Int × Unit)) × (List Int) × (List (Int × Int × (List Int) × Unit)) × (List Int) × (List (Int × Int × Unit)) × Bool × Int × Unit) : laws_eqMachine k a1 a2 =
  bindO (laws_eqInsS k a1.1 a2.1) fun r1 => (iteB (!r1) (some false) (bindO (laws_eqIntS k a1.2.1 a2.2.1) fun r2 => (iteB (!r2) (some false) (bindO (laws_eqCoreS k a1.2.2.1 a2.2.2.1) fun r3 => (iteB (!r3) (some false) (bindO (laws_eqIntS k a1.2.2.2.1 a2.2.2.2.1) fun r4 => (iteB (!r4) (some false) (bindO (laws_eqNoteS k a1.2.2.2.2.1 a2.2.2.2.2.1) fun r5 => (iteB (!r5) (some false) (iteB (!(a1.2.2.2.2.2.1 == a2.2.2.2.2.2.1)) (some false) (iteB (a1.2.2.2.2.2.2.1 != a2.2.2.2.2.2.2.1) (some false) (some true)))))))))))) := by kernel_rfl
theorem E_laws_eqMachine_calls (k : Nat) : CallsOk Try.prog (E_laws_eqMachine k) (arun Try.prog (E_laws_eqMachine k) k) := by
  refine told_run (tyTOk _ _) ?_ (fun run h => regOk (tyTOk _ _) mixOk h) ?_ nameOk k
  · intro g m hg
    simp only [E_laws_eqMachine] at hg
    split at hg
    · cases hg
      refine con_byVal fun ρ l K x hm => ?_
      split at hm
      · obtain ⟨c1, h1, hm⟩ := Option.bind_eq_some_iff.1 hm
        obtain ⟨c2, h2, hm⟩ := Option.bind_eq_some_iff.1 hm
        obtain ⟨r, hr, hm⟩ := Option.bind_eq_some_iff.1 hm
        exact ⟨_, hm, LawV.reads (.cons (.as h1) (.cons (.as h2) .nil)) (laws_eqInsS_law k c1 c2 r hr)⟩
      · cases hm
    · cases hg
      refine con_byVal fun ρ l K x hm => ?_
      split at hm
      · obtain ⟨c1, h1, hm⟩ := Option.bind_eq_some_iff.1 hm
        obtain ⟨c2, h2, hm⟩ := Option.bind_eq_some_iff.1 hm
        obtain ⟨r, hr, hm⟩ := Option.bind_eq_some_iff.1 hm
        exact ⟨_, hm, LawV.reads (.cons (.as h1) (.cons (.as h2) .nil)) (laws_eqIntS_law k c1 c2 r hr)⟩
      · cases hm
    · cases hg
      refine con_byVal fun ρ l K x hm => ?_
      split at hm
      · obtain ⟨c1, h1, hm⟩ := Option.bind_eq_some_iff.1 hm
        obtain ⟨c2, h2, hm⟩ := Option.bind_eq_some_iff.1 hm
        obtain ⟨r, hr, hm⟩ := Option.bind_eq_some_iff.1 hm
        exact ⟨_, hm, LawV.reads (.cons (.as h1) (.cons (.as h2) .nil)) (laws_eqCoreS_law k c1 c2 r hr)⟩
      · cases hm
    · cases hg
      refine con_byVal fun ρ l K x hm => ?_
      split at hm
      · obtain ⟨c1, h1, hm⟩ := Option.bind_eq_some_iff.1 hm
        obtain ⟨c2, h2, hm⟩ := Option.bind_eq_some_iff.1 hm
        obtain ⟨r, hr, hm⟩ := Option.bind_eq_some_iff.1 hm
        exact ⟨_, hm, LawV.reads (.cons (.as h1) (.cons (.as h2) .nil)) (laws_eqNoteS_law k c1 c2 r hr)⟩
      · cases hm
    · cases hg
  · intro g _ r; rfl
theorem f16_oklaws_eqMachine : Try.prog.funcs[16]? = some Try.f16 := by kernel_rfl
theorem laws_eqMachine_law (k : Nat) (a1 : (List (Int × Int × Int × Int × Int × Int × Unit)) × (List Int) × (List (Int × Int × (List Int) × Unit)) × (List Int) × (List (Int × Int × Unit)) × Bool × Int × Unit) (a2 : (List (Int × Int × Int × Int × Int × Int × Unit)) × (List Int) × (List (Int × Int × (List Int) × Unit)) × (List Int) × (List (Int × Int × Unit)) × Bool × Int × Unit) (x : Bool) (h : laws_eqMachine k a1 a2 = some x) : LawV Try.prog 16 [.tv (.pair (.row (.pair (.int .i64) (.pair (.int .i64) (.pair (.int .i64) (.pair (.int .i64) (.pair (.int .i64) (.pair (.int .i64) .unit))))))) (.pair (.row (.int .i64)) (.pair (.row (.pair (.int .i64) (.pair (.int .i64) (.pair (.row (.int .i64)) .unit)))) (.pair (.row (.int .i64)) (.pair (.row (.pair (.int .i64) (.pair (.int .i64) .unit))) (.pair .bool (.pair (.int .i64) .unit))))))) a1, .tv (.pair (.row (.pair (.int .i64) (.pair (.int .i64) (.pair (.int .i64) (.pair (.int .i64) (.pair (.int .i64) (.pair (.int .i64) .unit))))))) (.pair (.row (.int .i64)) (.pair (.row (.pair (.int .i64) (.pair (.int .i64) (.pair (.row (.int .i64)) .unit)))) (.pair (.row (.int .i64)) (.pair (.row (.pair (.int .i64) (.pair (.int .i64) .unit))) (.pair .bool (.pair (.int .i64) .unit))))))) a2] (tvn .bool x) := by
  unfold laws_eqMachine at h
  exact law1 (t := .bool) (tyTOk _ _) (E_laws_eqMachine_calls k) mixOk f16_oklaws_eqMachine (nameOk _ _ f16_oklaws_eqMachine) (by kernel_rfl) h
/-! laws.FnExactMachineOk -/
noncomputable def E_laws_FnExactMachineOk (k : Nat) : Env := ⟨ty, fun g => match g with
  | 12 => some (byVal fun ρ l K => match l with
    | [b1, b2] => (b1.as (.pair (.row (.pair (.int .i64) (.pair (.int .i64) (.pair (.int .i64) (.pair (.int .i64) (.pair (.int .i64) (.pair (.int .i64) .unit))))))) (.pair (.row (.int .i64)) (.pair (.row (.pair (.int .i64) (.pair (.int .i64) (.pair (.row (.int .i64)) .unit)))) (.pair (.row (.int .i64)) (.pair (.row (.pair (.int .i64) (.pair (.int .i64) .unit))) (.pair .bool (.pair (.int .i64) .unit)))))))).bind fun c1 => (b2.as (.int .i64)).bind fun c2 => (laws_szMachine k c1 c2).bind fun r => K (tvn (.int .i64) r)
    | _ => none)
  | 14 => some (byVal fun ρ l K => match l with
    | [b1] => (b1.as (.pair (.row (.pair (.int .i64) (.pair (.int .i64) (.pair (.int .i64) (.pair (.int .i64) (.pair (.int .i64) (.pair (.int .i64) .unit))))))) (.pair (.row (.int .i64)) (.pair (.row (.pair (.int .i64) (.pair (.int .i64) (.pair (.row (.int .i64)) .unit)))) (.pair (.row (.int .i64)) (.pair (.row (.pair (.int .i64) (.pair (.int .i64) .unit))) (.pair .bool (.pair (.int .i64) .unit)))))))).bind fun c1 => (laws_toMachine k c1).bind fun r => K (tvn (.pair (.row (.pair (.int .i64) (.pair (.int .i64) (.pair (.int .i64) (.pair (.int .i64) (.pair (.int .i64) (.pair (.int .i64) .unit))))))) (.pair (.row (.int .i64)) (.pair (.row (.pair (.int .i64) (.pair (.int .i64) (.pair (.row (.int .i64)) .unit)))) (.pair (.row (.int .i64)) (.pair (.row (.pair (.int .i64) (.pair (.int .i64) .unit))) (.pair .bool (.pair (.int .i64) .unit))))))) r)
    | _ => none)
  | 13 => some (byVal fun ρ l K => match l with
    | [b1] => (b1.as (.pair (.row (.pair (.int .i64) (.pair (.int .i64) (.pair (.int .i64) (.pair (.int .i64) (.pair (.int .i64) (.pair (.int .i64) .unit))))))) (.pair (.row (.int .i64)) (.pair (.row (.pair (.int .i64) (.pair (.int .i64) (.pair (.row (.int .i64)) .unit)))) (.pair (.row (.int .i64)) (.pair (.row (.pair (.int .i64) (.pair (.int .i64) .unit))) (.pair .bool (.pair (.int .i64) .unit)))))))).bind fun c1 => (spec_MachineOk k c1).bind fun r => K (tvn .bool r)
    | _ => none)
  | 15 => some (byVal fun ρ l K => match l with
    | [b1] => (b1.as (.pair (.row (.pair (.int .i64) (.pair (.int .i64) (.pair (.int .i64) (.pair (.int .i64) (.pair (.int .i64) (.pair (.int .i64) .unit))))))) (.pair (.row (.int .i64)) (.pair (.row (.pair (.int .i64) (.pair (.int .i64) (.pair (.row (.int .i64)) .unit)))) (.pair (.row (.int .i64)) (.pair (.row (.pair (.int .i64) (.pair (.int .i64) .unit))) (.pair .bool (.pair (.int .i64) .unit)))))))).bind fun c1 => (impl_MachineOk k c1).bind fun r => K (tvn .bool r)
    | _ => none)
  | 16 => some (byVal fun ρ l K => match l with
    | [b1, b2] => (b1.as (.pair (.row (.pair (.int .i64) (.pair (.int .i64) (.pair (.int .i64) (.pair (.int .i64) (.pair (.int .i64) (.pair (.int .i64) .unit))))))) (.pair (.row (.int .i64)) (.pair (.row (.pair (.int .i64) (.pair (.int .i64) (.pair (.row (.int .i64)) .unit)))) (.pair (.row (.int .i64)) (.pair (.row (.pair (.int .i64) (.pair (.int .i64) .unit))) (.pair .bool (.pair (.int .i64) .unit)))))))).bind fun c1 => (b2.as (.pair (.row (.pair (.int .i64) (.pair (.int .i64) (.pair (.int .i64) (.pair (.int .i64) (.pair (.int .i64) (.pair (.int .i64) .unit))))))) (.pair (.row (.int .i64)) (.pair (.row (.pair (.int .i64) (.pair (.int .i64) (.pair (.row (.int .i64)) .unit)))) (.pair (.row (.int .i64)) (.pair (.row (.pair (.int .i64) (.pair (.int .i64) .unit))) (.pair .bool (.pair (.int .i64) .unit)))))))).bind fun c2 => (laws_eqMachine k c1 c2).bind fun r => K (tvn .bool r)
    | _ => none)
  | _ => none, fun _ _ => none⟩
noncomputable def laws_FnExactMachineOk (k : Nat) (a1 : (List (Int × Int × Int × Int × Int × Int × Unit)) × (List Int) × (List (Int × Int × (List Int) × Unit)) × (List Int) × (List (Int × Int × Unit)) × Bool × Int × Unit) : Option (Bool) :=
  abody (E_laws_FnExactMachineOk k) (arun Try.prog (E_laws_FnExactMachineOk k) k) k 3 Try.f3 [.tv (.pair (.row (.pair (.int .i64) (.pair (.int .i64) (.pair (.int .i64) (.pair (.int .i64) (.pair (.int .i64) (.pair (.int .i64) .unit))))))) (.pair (.row (.int .i64)) (.pair (.row (.pair (.int .i64) (.pair (.int .i64) (.pair (.row (.int .i64)) .unit)))) (.pair (.row (.int .i64)) (.pair (.row (.pair (.int .i64) (.pair (.int .i64) .unit))) (.pair .bool (.pair (.int .i64) .unit))))))) a1] [] (fin1 .bool)
theorem laws_FnExactMachineOk_e (k : Nat) (a1 : (List (Int × Int × Int × Int × Int × Int × Unit)) × (List Int) × (List (Int × Int × (List Int) × Unit)) × (List Int) × (List (Int × Int × Unit)) × Bool × Int × Unit) : laws_FnExactMachineOk k a1 =
  bindO (laws_szMachine k a1 1048576) fun r1 => (iteB (decide (r1 < 0)) (some true) (bindO (laws_toMachine k a1) fun r2 => (bindO (spec_MachineOk k r2) fun r3 => (bindO (laws_toMachine k a1) fun r4 => (bindO (impl_MachineOk k r4) fun r5 => (iteB (!(r5 == r3)) (some false) (bindO (laws_toMachine k a1) fun r6 => (bindO (laws_eqMachine k r4 r6) fun r7 => (iteB (!r7) (some false) (some true)))))))))) := by kernel_rfl
theorem E_laws_FnExactMachineOk_calls (k : Nat) : CallsOk Try.prog (E_laws_FnExactMachineOk k) (arun Try.prog (E_laws_FnExactMachineOk k) k) := by
  refine told_run (tyTOk _ _) ?_ (fun run h => regOk (tyTOk _ _) mixOk h) ?_ nameOk k
  · intro g m hg
    simp only [E_laws_FnExactMachineOk] at hg
    split at hg
    · cases hg
      refine con_byVal fun ρ l K x hm => ?_
      split at hm
      · obtain ⟨c1, h1, hm⟩ := Option.bind_eq_some_iff.1 hm
        obtain ⟨c2, h2, hm⟩ := Option.bind_eq_some_iff.1 hm
        obtain ⟨r, hr, hm⟩ := Option.bind_eq_some_iff.1 hm
        exact ⟨_, hm, LawV.reads (.cons (.as h1) (.cons (.as h2) .nil)) (laws_szMachine_law k c1 c2 r hr)⟩
      · cases hm
    · cases hg
      refine con_byVal fun ρ l K x hm => ?_
      split at hm
      · obtain ⟨c1, h1, hm⟩ := Option.bind_eq_some_iff.1 hm
        obtain ⟨r, hr, hm⟩ := Option.bind_eq_some_iff.1 hm
        exact ⟨_, hm, LawV.reads (.cons (.as h1) .nil) (laws_toMachine_law k c1 r hr)⟩
      · cases hm
    · cases hg
      refine con_byVal fun ρ l K x hm => ?_
      split at hm
      · obtain ⟨c1, h1, hm⟩ := Option.bind_eq_some_iff.1 hm
        obtain ⟨r, hr, hm⟩ := Option.bind_eq_some_iff.1 hm
        exact ⟨_, hm, LawV.reads (.cons (.as h1) .nil) (spec_MachineOk_law k c1 r hr)⟩
      · cases hm
    · cases hg
      refine con_byVal fun ρ l K x hm => ?_
      split at hm
      · obtain ⟨c1, h1, hm⟩ := Option.bind_eq_some_iff.1 hm
        obtain ⟨r, hr, hm⟩ := Option.bind_eq_some_iff.1 hm
        exact ⟨_, hm, LawV.reads (.cons (.as h1) .nil) (impl_MachineOk_law k c1 r hr)⟩
      · cases hm
    · cases hg
      refine con_byVal fun ρ l K x hm => ?_
      split at hm
      · obtain ⟨c1, h1, hm⟩ := Option.bind_eq_some_iff.1 hm
        obtain ⟨c2, h2, hm⟩ := Option.bind_eq_some_iff.1 hm
        obtain ⟨r, hr, hm⟩ := Option.bind_eq_some_iff.1 hm
        exact ⟨_, hm, LawV.reads (.cons (.as h1) (.cons (.as h2) .nil)) (laws_eqMachine_law k c1 c2 r hr)⟩
      · cases hm
    · cases hg
  · intro g _ r; rfl
theorem f3_oklaws_FnExactMachineOk : Try.prog.funcs[3]? = some Try.f3 := by kernel_rfl
theorem laws_FnExactMachineOk_law (k : Nat) (a1 : (List (Int × Int × Int × Int × Int × Int × Unit)) × (List Int) × (List (Int × Int × (List Int) × Unit)) × (List Int) × (List (Int × Int × Unit)) × Bool × Int × Unit) (x : Bool) (h : laws_FnExactMachineOk k a1 = some x) : LawV Try.prog 3 [.tv (.pair (.row (.pair (.int .i64) (.pair (.int .i64) (.pair (.int .i64) (.pair (.int .i64) (.pair (.int .i64) (.pair (.int .i64) .unit))))))) (.pair (.row (.int .i64)) (.pair (.row (.pair (.int .i64) (.pair (.int .i64) (.pair (.row (.int .i64)) .unit)))) (.pair (.row (.int .i64)) (.pair (.row (.pair (.int .i64) (.pair (.int .i64) .unit))) (.pair .bool (.pair (.int .i64) .unit))))))) a1] (tvn .bool x) := by
  unfold laws_FnExactMachineOk at h
  exact law1 (t := .bool) (tyTOk _ _) (E_laws_FnExactMachineOk_calls k) mixOk f3_oklaws_FnExactMachineOk (nameOk _ _ f3_oklaws_FnExactMachineOk) (by kernel_rfl) h
end Go.Proofs.Ytapijpjgfpjahaa.XFnExactMachineOk
