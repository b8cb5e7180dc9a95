/- Functions of the program as runs of the interpreter: equations, and a law for each. -/
import Derived.Test.YtapijpjgfpjahaaProg
import Derived.Test.YtapijpjgfpjahaaChecked
import Derived.KernelRfl
import Derived.Eval
import Derived.Test.YtapijpjgfpjahaaATyOk
import Derived.Test.YtapijpjgfpjahaaAS32
import Derived.Test.YtapijpjgfpjahaaAMFnExactMachineOk2
open Go Go.AM Go.AMx Go.Proofs
namespace Go.Proofs.Ytapijpjgfpjahaa.XFnExactMachineOk
set_option linter.unusedVariables false
set_option linter.unusedSimpArgs false
/-! slices.ContainsFunc[[]impl.Ins,impl.Ins] -/
noncomputable def E_slices_ContainsFunc_impl_Ins__impl_MachineOk_1 (k : Nat) : Env := ⟨ty, fun g => match g with
  | 146 => some (byVal fun ρ l K => match l with
    | [b1, .fn 80 []] => (b1.as (.row (.pair (.int .i64) (.pair (.int .i64) (.pair (.int .i64) (.pair (.int .i64) (.pair (.int .i64) (.pair (.int .i64) .unit)))))))).bind fun c1 => (slices_IndexFunc_impl_Ins__impl_MachineOk_1 k c1).bind fun r => K (tvn (.int .i64) r)
    | _ => none)
  | _ => none, fun _ _ => none⟩
noncomputable def slices_ContainsFunc_impl_Ins__impl_MachineOk_1 (k : Nat) (a1 : List (Int × Int × Int × Int × Int × Int × Unit)) : Option (Bool) :=
  abody (E_slices_ContainsFunc_impl_Ins__impl_MachineOk_1 k) (arun Try.prog (E_slices_ContainsFunc_impl_Ins__impl_MachineOk_1 k) k) k 79 Try.f79 [.tv (.row (.pair (.int .i64) (.pair (.int .i64) (.pair (.int .i64) (.pair (.int .i64) (.pair (.int .i64) (.pair (.int .i64) .unit))))))) a1, .fn 80 []] [] (fin1 .bool)
theorem slices_ContainsFunc_impl_Ins__impl_MachineOk_1_e (k : Nat) (a1 : List (Int × Int × Int × Int × Int × Int × Unit)) : slices_ContainsFunc_impl_Ins__impl_MachineOk_1 k a1 =
  bindO (slices_IndexFunc_impl_Ins__impl_MachineOk_1 k a1) fun r1 => (some (decide (r1 ≥ 0))) := by kernel_rfl
theorem E_slices_ContainsFunc_impl_Ins__impl_MachineOk_1_calls (k : Nat) : CallsOk Try.prog (E_slices_ContainsFunc_impl_Ins__impl_MachineOk_1 k) (arun Try.prog (E_slices_ContainsFunc_impl_Ins__impl_MachineOk_1 k) k) := by
  refine told_run (tyTOk _ _) ?_ (fun run h => regOk (tyTOk _ _) mixOk h) ?_ nameOk k
  · intro g m hg
    simp only [E_slices_ContainsFunc_impl_Ins__impl_MachineOk_1] at hg
    split at hg
    · cases hg
      refine con_byVal fun ρ l K x hm => ?_
      split at hm
      · obtain ⟨c1, h1, hm⟩ := Option.bind_eq_some_iff.1 hm
        obtain ⟨r, hr, hm⟩ := Option.bind_eq_some_iff.1 hm
        exact ⟨_, hm, LawV.reads (.cons (.as h1) (.cons (.fn .nil) .nil)) (slices_IndexFunc_impl_Ins__impl_MachineOk_1_law k c1 r hr)⟩
      · cases hm
    · cases hg
  · intro g _ r; rfl
theorem f79_okslices_ContainsFunc_impl_Ins__impl_MachineOk_1 : Try.prog.funcs[79]? = some Try.f79 := by kernel_rfl
theorem slices_ContainsFunc_impl_Ins__impl_MachineOk_1_law (k : Nat) (a1 : List (Int × Int × Int × Int × Int × Int × Unit)) (x : Bool) (h : slices_ContainsFunc_impl_Ins__impl_MachineOk_1 k a1 = some x) : LawV Try.prog 79 [.tv (.row (.pair (.int .i64) (.pair (.int .i64) (.pair (.int .i64) (.pair (.int .i64) (.pair (.int .i64) (.pair (.int .i64) .unit))))))) a1, .fn 80 []] (tvn .bool x) := by
  unfold slices_ContainsFunc_impl_Ins__impl_MachineOk_1 at h
  exact law1 (t := .bool) (tyTOk _ _) (E_slices_ContainsFunc_impl_Ins__impl_MachineOk_1_calls k) mixOk f79_okslices_ContainsFunc_impl_Ins__impl_MachineOk_1 (nameOk _ _ f79_okslices_ContainsFunc_impl_Ins__impl_MachineOk_1) (by kernel_rfl) h
/-! impl.CoreOk$1 -/
noncomputable def E_impl_CoreOk_1 (k : Nat) : Env := ⟨ty, fun g => match g with
  | 88 => some (byVal fun ρ l K => match l with
    | [b1] => (b1.as (.int .i64)).bind fun c1 => (impl_WordOk k c1).bind fun r => K (tvn .bool r)
    | _ => none)
  | _ => none, fun _ _ => none⟩
noncomputable def impl_CoreOk_1 (k : Nat) (a1 : Int) : Option (Bool) :=
  abody (E_impl_CoreOk_1 k) (arun Try.prog (E_impl_CoreOk_1 k) k) k 149 Try.f149 [.int .i64 a1] [] (fin1 .bool)
theorem impl_CoreOk_1_e (k : Nat) (a1 : Int) : impl_CoreOk_1 k a1 =
  bindO (impl_WordOk k a1) fun r1 => (some (!r1)) := by kernel_rfl
theorem E_impl_CoreOk_1_calls (k : Nat) : CallsOk Try.prog (E_impl_CoreOk_1 k) (arun Try.prog (E_impl_CoreOk_1 k) k) := by
  refine told_run (tyTOk _ _) ?_ (fun run h => regOk (tyTOk _ _) mixOk h) ?_ nameOk k
  · intro g m hg
    simp only [E_impl_CoreOk_1] at hg
    split at hg
    · cases hg
      refine con_byVal fun ρ l K x hm => ?_
      split at hm
      · obtain ⟨c1, h1, hm⟩ := Option.bind_eq_some_iff.1 hm
        obtain ⟨r, hr, hm⟩ := Option.bind_eq_some_iff.1 hm
        exact ⟨_, hm, LawV.reads (.cons (.as h1) .nil) (impl_WordOk_law k c1 r hr)⟩
      · cases hm
    · cases hg
  · intro g _ r; rfl
theorem f149_okimpl_CoreOk_1 : Try.prog.funcs[149]? = some Try.f149 := by kernel_rfl
theorem impl_CoreOk_1_law (k : Nat) (a1 : Int) (x : Bool) (h : impl_CoreOk_1 k a1 = some x) : LawV Try.prog 149 [.int .i64 a1] (tvn .bool x) := by
  unfold impl_CoreOk_1 at h
  exact law1 (t := .bool) (tyTOk _ _) (E_impl_CoreOk_1_calls k) mixOk f149_okimpl_CoreOk_1 (nameOk _ _ f149_okimpl_CoreOk_1) (by kernel_rfl) h
/-! slices.IndexFunc[[]int,int] -/
noncomputable def E_slices_IndexFunc_int__impl_CoreOk_1 (k : Nat) : Env := ⟨ty, fun g => match g with
  | 149 => some (byVal fun ρ l K => match l with
    | [b1] => (b1.as (.int .i64)).bind fun c1 => (impl_CoreOk_1 k c1).bind fun r => K (tvn .bool r)
    | _ => none)
  | 191 => some noCon
  | _ => none, fun f r => match f with | 191 => (match r with | 2 => some [0, 1, 7, 8] | _ => none) | _ => none⟩
noncomputable def slices_IndexFunc_int__impl_CoreOk_1 (k : Nat) (a1 : List Int) : Option (Int) :=
  abody (E_slices_IndexFunc_int__impl_CoreOk_1 k) (arun Try.prog (E_slices_IndexFunc_int__impl_CoreOk_1 k) k) k 191 Try.f191 [.tv (.row (.int .i64)) a1, .fn 149 []] [] (fin1 (.int .i64))
noncomputable def slices_IndexFunc_int__impl_CoreOk_1.l2 (k n : Nat) (x0 : List Int) (x7 : Int) (x8 : Int) : Option (Int) :=
  resume (E_slices_IndexFunc_int__impl_CoreOk_1 k) 191 (acall (E_slices_IndexFunc_int__impl_CoreOk_1 k) (arun Try.prog (E_slices_IndexFunc_int__impl_CoreOk_1 k) k)) k [true, false, true, true] [n] (bodyOf Try.f191) ⟨[.tv (.row (.int .i64)) x0, .fn 149 [], .undef, .undef, .undef, .undef, .undef, .int .i64 x7, .int .i64 x8, .undef, .undef, .undef, .undef, .undef, .undef, .undef, .undef, .undef, .undef], []⟩ (leave (E_slices_IndexFunc_int__impl_CoreOk_1 k) Try.f191 (fin1 (.int .i64)))
theorem slices_IndexFunc_int__impl_CoreOk_1.l2_0 (k : Nat) (x0 : List Int) (x7 : Int) (x8 : Int) : slices_IndexFunc_int__impl_CoreOk_1.l2 k 0 x0 x7 x8 = none := by kernel_rfl
theorem slices_IndexFunc_int__impl_CoreOk_1.l2_s (k n : Nat) (x0 : List Int) (x7 : Int) (x8 : Int) : slices_IndexFunc_int__impl_CoreOk_1.l2 k (n + 1) x0 x7 x8 =
  iteB (decide (x8 < x7)) (iteB (decide (0 ≤ x8)) (iteB (decide (x8 < ((List.length x0) : Int))) (bindO (impl_CoreOk_1 k (List.getD x0 (Int.toNat x8) 0)) fun r1 => (iteB r1 (some x8) (slices_IndexFunc_int__impl_CoreOk_1.l2 k n x0 x7 (IntKind.wrap .i64 (x8 + 1))))) (none)) (none)) (some (-1)) := by kernel_rfl
theorem slices_IndexFunc_int__impl_CoreOk_1_e (k : Nat) (a1 : List Int) : slices_IndexFunc_int__impl_CoreOk_1 k a1 =
  slices_IndexFunc_int__impl_CoreOk_1.l2 k k a1 ((List.length a1) : Int) 0 := by kernel_rfl
theorem E_slices_IndexFunc_int__impl_CoreOk_1_calls (k : Nat) : CallsOk Try.prog (E_slices_IndexFunc_int__impl_CoreOk_1 k) (arun Try.prog (E_slices_IndexFunc_int__impl_CoreOk_1 k) k) := by
  refine told_run (tyTOk _ _) ?_ (fun run h => regOk (tyTOk _ _) mixOk h) ?_ nameOk k
  · intro g m hg
    simp only [E_slices_IndexFunc_int__impl_CoreOk_1] at hg
    split at hg
    · cases hg
      refine con_byVal fun ρ l K x hm => ?_
      split at hm
      · obtain ⟨c1, h1, hm⟩ := Option.bind_eq_some_iff.1 hm
        obtain ⟨r, hr, hm⟩ := Option.bind_eq_some_iff.1 hm
        exact ⟨_, hm, LawV.reads (.cons (.as h1) .nil) (impl_CoreOk_1_law k c1 r hr)⟩
      · cases hm
    · cases hg; exact noCon_ok
    · cases hg
  · intro g hg r
    by_cases h : g = 191
    · subst h; simp [E_slices_IndexFunc_int__impl_CoreOk_1] at hg
    · simp [E_slices_IndexFunc_int__impl_CoreOk_1, h]
theorem f191_okslices_IndexFunc_int__impl_CoreOk_1 : Try.prog.funcs[191]? = some Try.f191 := by kernel_rfl
theorem slices_IndexFunc_int__impl_CoreOk_1_law (k : Nat) (a1 : List Int) (x : Int) (h : slices_IndexFunc_int__impl_CoreOk_1 k a1 = some x) : LawV Try.prog 191 [.tv (.row (.int .i64)) a1, .fn 149 []] (tvn (.int .i64) x) := by
  unfold slices_IndexFunc_int__impl_CoreOk_1 at h
  exact law1 (t := (.int .i64)) (tyTOk _ _) (E_slices_IndexFunc_int__impl_CoreOk_1_calls k) mixOk f191_okslices_IndexFunc_int__impl_CoreOk_1 (nameOk _ _ f191_okslices_IndexFunc_int__impl_CoreOk_1) (by kernel_rfl) h
/-! slices.ContainsFunc[[]int,int] -/
noncomputable def E_slices_ContainsFunc_int__impl_CoreOk_1 (k : Nat) : Env := ⟨ty, fun g => match g with
  | 191 => some (byVal fun ρ l K => match l with
    | [b1, .fn 149 []] => (b1.as (.row (.int .i64))).bind fun c1 => (slices_IndexFunc_int__impl_CoreOk_1 k c1).bind fun r => K (tvn (.int .i64) r)
    | _ => none)
  | _ => none, fun _ _ => none⟩
noncomputable def slices_ContainsFunc_int__impl_CoreOk_1 (k : Nat) (a1 : List Int) : Option (Bool) :=
  abody (E_slices_ContainsFunc_int__impl_CoreOk_1 k) (arun Try.prog (E_slices_ContainsFunc_int__impl_CoreOk_1 k) k) k 148 Try.f148 [.tv (.row (.int .i64)) a1, .fn 149 []] [] (fin1 .bool)
theorem slices_ContainsFunc_int__impl_CoreOk_1_e (k : Nat) (a1 : List Int) : slices_ContainsFunc_int__impl_CoreOk_1 k a1 =
  bindO (slices_IndexFunc_int__impl_CoreOk_1 k a1) fun r1 => (some (decide (r1 ≥ 0))) := by kernel_rfl
theorem E_slices_ContainsFunc_int__impl_CoreOk_1_calls (k : Nat) : CallsOk Try.prog (E_slices_ContainsFunc_int__impl_CoreOk_1 k) (arun Try.prog (E_slices_ContainsFunc_int__impl_CoreOk_1 k) k) := by
  refine told_run (tyTOk _ _) ?_ (fun run h => regOk (tyTOk _ _) mixOk h) ?_ nameOk k
  · intro g m hg
    simp only [E_slices_ContainsFunc_int__impl_CoreOk_1] at hg
    split at hg
    · cases hg
      refine con_byVal fun ρ l K x hm => ?_
      split at hm
      · obtain ⟨c1, h1, hm⟩ := Option.bind_eq_some_iff.1 hm
        obtain ⟨r, hr, hm⟩ := Option.bind_eq_some_iff.1 hm
        exact ⟨_, hm, LawV.reads (.cons (.as h1) (.cons (.fn .nil) .nil)) (slices_IndexFunc_int__impl_CoreOk_1_law k c1 r hr)⟩
      · cases hm
    · cases hg
  · intro g _ r; rfl
theorem f148_okslices_ContainsFunc_int__impl_CoreOk_1 : Try.prog.funcs[148]? = some Try.f148 := by kernel_rfl
theorem slices_ContainsFunc_int__impl_CoreOk_1_law (k : Nat) (a1 : List Int) (x : Bool) (h : slices_ContainsFunc_int__impl_CoreOk_1 k a1 = some x) : LawV Try.prog 148 [.tv (.row (.int .i64)) a1, .fn 149 []] (tvn .bool x) := by
  unfold slices_ContainsFunc_int__impl_CoreOk_1 at h
  exact law1 (t := .bool) (tyTOk _ _) (E_slices_ContainsFunc_int__impl_CoreOk_1_calls k) mixOk f148_okslices_ContainsFunc_int__impl_CoreOk_1 (nameOk _ _ f148_okslices_ContainsFunc_int__impl_CoreOk_1) (by kernel_rfl) h
/-! impl.CoreOk -/
noncomputable def E_impl_CoreOk (k : Nat) : Env := ⟨ty, fun g => match g with
  | 88 => some (byVal fun ρ l K => match l with
    | [b1] => (b1.as (.int .i64)).bind fun c1 => (impl_WordOk k c1).bind fun r => K (tvn .bool r)
    | _ => none)
  | 148 => some (byVal fun ρ l K => match l with
    | [b1, .fn 149 []] => (b1.as (.row (.int .i64))).bind fun c1 => (slices_ContainsFunc_int__impl_CoreOk_1 k c1).bind fun r => K (tvn .bool r)
    | _ => none)
  | _ => none, fun _ _ => none⟩
noncomputable def impl_CoreOk (k : Nat) (a1 : Int × Int × (List Int) × Unit) : Option (Bool) :=
  abody (E_impl_CoreOk k) (arun Try.prog (E_impl_CoreOk k) k) k 84 Try.f84 [.tv (.pair (.int .i64) (.pair (.int .i64) (.pair (.row (.int .i64)) .unit))) a1] [] (fin1 .bool)
theorem impl_CoreOk_e (k : Nat) (a1 : Int × Int × (List Int) × Unit) : impl_CoreOk k a1 =
  bindO (impl_WordOk k a1.1) fun r1 => (iteB r1 (bindO (impl_WordOk k a1.2.1) fun r2 => (iteB r2 (iteB (((List.length a1.2.2.1) : Int) == 6) (bindO (slices_ContainsFunc_int__impl_CoreOk_1 k a1.2.2.1) fun r3 => (some (!r3))) (some false)) (some false))) (some false)) := by kernel_rfl
theorem E_impl_CoreOk_calls (k : Nat) : CallsOk Try.prog (E_impl_CoreOk k) (arun Try.prog (E_impl_CoreOk k) k) := by
  refine told_run (tyTOk _ _) ?_ (fun run h => regOk (tyTOk _ _) mixOk h) ?_ nameOk k
  · intro g m hg
    simp only [E_impl_CoreOk] at hg
    split at hg
    · cases hg
      refine con_byVal fun ρ l K x hm => ?_
      split at hm
      · obtain ⟨c1, h1, hm⟩ := Option.bind_eq_some_iff.1 hm
        obtain ⟨r, hr, hm⟩ := Option.bind_eq_some_iff.1 hm
        exact ⟨_, hm, LawV.reads (.cons (.as h1) .nil) (impl_WordOk_law k c1 r hr)⟩
      · cases hm
    · cases hg
      refine con_byVal fun ρ l K x hm => ?_
      split at hm
      · obtain ⟨c1, h1, hm⟩ := Option.bind_eq_some_iff.1 hm
        obtain ⟨r, hr, hm⟩ := Option.bind_eq_some_iff.1 hm
        exact ⟨_, hm, LawV.reads (.cons (.as h1) (.cons (.fn .nil) .nil)) (slices_ContainsFunc_int__impl_CoreOk_1_law k c1 r hr)⟩
      · cases hm
    · cases hg
  · intro g _ r; rfl
theorem f84_okimpl_CoreOk : Try.prog.funcs[84]? = some Try.f84 := by kernel_rfl
theorem impl_CoreOk_law (k : Nat) (a1 : Int × Int × (List Int) × Unit) (x : Bool) (h : impl_CoreOk k a1 = some x) : LawV Try.prog 84 [.tv (.pair (.int .i64) (.pair (.int .i64) (.pair (.row (.int .i64)) .unit))) a1] (tvn .bool x) := by
  unfold impl_CoreOk at h
  exact law1 (t := .bool) (tyTOk _ _) (E_impl_CoreOk_calls k) mixOk f84_okimpl_CoreOk (nameOk _ _ f84_okimpl_CoreOk) (by kernel_rfl) h
/-! impl.MachineOk$2 -/
noncomputable def E_impl_MachineOk_2 (k : Nat) : Env := ⟨ty, fun g => match g with
  | 84 => some (byVal fun ρ l K => match l with
    | [b1] => (b1.as (.pair (.int .i64) (.pair (.int .i64) (.pair (.row (.int .i64)) .unit)))).bind fun c1 => (impl_CoreOk k c1).bind fun r => K (tvn .bool r)
    | _ => none)
  | _ => none, fun _ _ => none⟩
noncomputable def impl_MachineOk_2 (k : Nat) (a1 : Int × Int × (List Int) × Unit) : Option (Bool) :=
  abody (E_impl_MachineOk_2 k) (arun Try.prog (E_impl_MachineOk_2 k) k) k 83 Try.f83 [.tv (.pair (.int .i64) (.pair (.int .i64) (.pair (.row (.int .i64)) .unit))) a1] [] (fin1 .bool)
theorem impl_MachineOk_2_e (k : Nat) (a1 : Int × Int × (List Int) × Unit) : impl_MachineOk_2 k a1 =
  bindO (impl_CoreOk k a1) fun r1 => (some (!r1)) := by kernel_rfl
theorem E_impl_MachineOk_2_calls (k : Nat) : CallsOk Try.prog (E_impl_MachineOk_2 k) (arun Try.prog (E_impl_MachineOk_2 k) k) := by
  refine told_run (tyTOk _ _) ?_ (fun run h => regOk (tyTOk _ _) mixOk h) ?_ nameOk k
  · intro g m hg
    simp only [E_impl_MachineOk_2] at hg
    split at hg
    · cases hg
      refine con_byVal fun ρ l K x hm => ?_
      split at hm
      · obtain ⟨c1, h1, hm⟩ := Option.bind_eq_some_iff.1 hm
        obtain ⟨r, hr, hm⟩ := Option.bind_eq_some_iff.1 hm
        exact ⟨_, hm, LawV.reads (.cons (.as h1) .nil) (impl_CoreOk_law k c1 r hr)⟩
      · cases hm
    · cases hg
  · intro g _ r; rfl
theorem f83_okimpl_MachineOk_2 : Try.prog.funcs[83]? = some Try.f83 := by kernel_rfl
theorem impl_MachineOk_2_law (k : Nat) (a1 : Int × Int × (List Int) × Unit) (x : Bool) (h : impl_MachineOk_2 k a1 = some x) : LawV Try.prog 83 [.tv (.pair (.int .i64) (.pair (.int .i64) (.pair (.row (.int .i64)) .unit))) a1] (tvn .bool x) := by
  unfold impl_MachineOk_2 at h
  exact law1 (t := .bool) (tyTOk _ _) (E_impl_MachineOk_2_calls k) mixOk f83_okimpl_MachineOk_2 (nameOk _ _ f83_okimpl_MachineOk_2) (by kernel_rfl) h
/-! slices.IndexFunc[[]impl.Core,impl.Core] -/
noncomputable def E_slices_IndexFunc_impl_Core__impl_MachineOk_2 (k : Nat) : Env := ⟨ty, fun g => match g with
  | 83 => some (byVal fun ρ l K => match l with
    | [b1] => (b1.as (.pair (.int .i64) (.pair (.int .i64) (.pair (.row (.int .i64)) .unit)))).bind fun c1 => (impl_MachineOk_2 k c1).bind fun r => K (tvn .bool r)
    | _ => none)
  | 147 => some noCon
  | _ => none, fun f r => match f with | 147 => (match r with | 2 => some [0, 1, 7, 8] | _ => none) | _ => none⟩
noncomputable def slices_IndexFunc_impl_Core__impl_MachineOk_2 (k : Nat) (a1 : List (Int × Int × (List Int) × Unit)) : Option (Int) :=
  abody (E_slices_IndexFunc_impl_Core__impl_MachineOk_2 k) (arun Try.prog (E_slices_IndexFunc_impl_Core__impl_MachineOk_2 k) k) k 147 Try.f147 [.tv (.row (.pair (.int .i64) (.pair (.int .i64) (.pair (.row (.int .i64)) .unit)))) a1, .fn 83 []] [] (fin1 (.int .i64))
noncomputable def slices_IndexFunc_impl_Core__impl_MachineOk_2.l2 (k n : Nat) (x0 : List (Int × Int × (List Int) × Unit)) (x7 : Int) (x8 : Int) : Option (Int) :=
  resume (E_slices_IndexFunc_impl_Core__impl_MachineOk_2 k) 147 (acall (E_slices_IndexFunc_impl_Core__impl_MachineOk_2 k) (arun Try.prog (E_slices_IndexFunc_impl_Core__impl_MachineOk_2 k) k)) k [true, false, true, true] [n] (bodyOf Try.f147) ⟨[.tv (.row (.pair (.int .i64) (.pair (.int .i64) (.pair (.row (.int .i64)) .unit)))) x0, .fn 83 [], .undef, .undef, .undef, .undef, .undef, .int .i64 x7, .int .i64 x8, .undef, .undef, .undef, .undef, .undef, .undef, .undef, .undef, .undef, .undef], []⟩ (leave (E_slices_IndexFunc_impl_Core__impl_MachineOk_2 k) Try.f147 (fin1 (.int .i64)))
theorem slices_IndexFunc_impl_Core__impl_MachineOk_2.l2_0 (k : Nat) (x0 : List (Int × Int × (List Int) × Unit)) (x7 : Int) (x8 : Int) : slices_IndexFunc_impl_Core__impl_MachineOk_2.l2 k 0 x0 x7 x8 = none := by kernel_rfl
theorem slices_IndexFunc_impl_Core__impl_MachineOk_2.l2_s (k n : Nat) (x0 : List (Int × Int × (List Int) × Unit)) (x7 : Int) (x8 : Int) : slices_IndexFunc_impl_Core__impl_MachineOk_2.l2 k (n + 1) x0 x7 x8 =
  iteB (decide (x8 < x7)) (iteB (decide (0 ≤ x8)) (iteB (decide (x8 < ((List.length x0) : Int))) (bindO (impl_MachineOk_2 k (List.getD x0 (Int.toNat x8) (Ty.dflt (.pair (.int .i64) (.pair (.int .i64) (.pair (.row (.int .i64)) .unit)))))) fun r1 => (iteB r1 (some x8) (slices_IndexFunc_impl_Core__impl_MachineOk_2.l2 k n x0 x7 (IntKind.wrap .i64 (x8 + 1))))) (none)) (none)) (some (-1)) := by kernel_rfl
theorem slices_IndexFunc_impl_Core__impl_MachineOk_2_e (k : Nat) (a1 : List (Int × Int × (List Int) × Unit)) : slices_IndexFunc_impl_Core__impl_MachineOk_2 k a1 =
  slices_IndexFunc_impl_Core__impl_MachineOk_2.l2 k k a1 ((List.length a1) : Int) 0 := by kernel_rfl
theorem E_slices_IndexFunc_impl_Core__impl_MachineOk_2_calls (k : Nat) : CallsOk Try.prog (E_slices_IndexFunc_impl_Core__impl_MachineOk_2 k) (arun Try.prog (E_slices_IndexFunc_impl_Core__impl_MachineOk_2 k) k) := by
  refine told_run (tyTOk _ _) ?_ (fun run h => regOk (tyTOk _ _) mixOk h) ?_ nameOk k
  · intro g m hg
    simp only [E_slices_IndexFunc_impl_Core__impl_MachineOk_2] at hg
    split at hg
    · cases hg
      refine con_byVal fun ρ l K x hm => ?_
      split at hm
      · obtain ⟨c1, h1, hm⟩ := Option.bind_eq_some_iff.1 hm
        obtain ⟨r, hr, hm⟩ := Option.bind_eq_some_iff.1 hm
        exact ⟨_, hm, LawV.reads (.cons (.as h1) .nil) (impl_MachineOk_2_law k c1 r hr)⟩
      · cases hm
    · cases hg; exact noCon_ok
    · cases hg
  · intro g hg r
    by_cases h : g = 147
    · subst h; simp [E_slices_IndexFunc_impl_Core__impl_MachineOk_2] at hg
    · simp [E_slices_IndexFunc_impl_Core__impl_MachineOk_2, h]
theorem f147_okslices_IndexFunc_impl_Core__impl_MachineOk_2 : Try.prog.funcs[147]? = some Try.f147 := by kernel_rfl
theorem slices_IndexFunc_impl_Core__impl_MachineOk_2_law (k : Nat) (a1 : List (Int × Int × (List Int) × Unit)) (x : Int) (h : slices_IndexFunc_impl_Core__impl_MachineOk_2 k a1 = some x) : LawV Try.prog 147 [.tv (.row (.pair (.int .i64) (.pair (.int .i64) (.pair (.row (.int .i64)) .unit)))) a1, .fn 83 []] (tvn (.int .i64) x) := by
  unfold slices_IndexFunc_impl_Core__impl_MachineOk_2 at h
  exact law1 (t := (.int .i64)) (tyTOk _ _) (E_slices_IndexFunc_impl_Core__impl_MachineOk_2_calls k) mixOk f147_okslices_IndexFunc_impl_Core__impl_MachineOk_2 (nameOk _ _ f147_okslices_IndexFunc_impl_Core__impl_MachineOk_2) (by kernel_rfl) h
/-! slices.ContainsFunc[[]impl.Core,impl.Core] -/
noncomputable def E_slices_ContainsFunc_impl_Core__impl_MachineOk_2 (k : Nat) : Env := ⟨ty, fun g => match g with
  | 147 => some (byVal fun ρ l K => match l with
    | [b1, .fn 83 []] => (b1.as (.row (.pair (.int .i64) (.pair (.int .i64) (.pair (.row (.int .i64)) .unit))))).bind fun c1 => (slices_IndexFunc_impl_Core__impl_MachineOk_2 k c1).bind fun r => K (tvn (.int .i64) r)
    | _ => none)
  | _ => none, fun _ _ => none⟩
noncomputable def slices_ContainsFunc_impl_Core__impl_MachineOk_2 (k : Nat) (a1 : List (Int × Int × (List Int) × Unit)) : Option (Bool) :=
  abody (E_slices_ContainsFunc_impl_Core__impl_MachineOk_2 k) (arun Try.prog (E_slices_ContainsFunc_impl_Core__impl_MachineOk_2 k) k) k 82 Try.f82 [.tv (.row (.pair (.int .i64) (.pair (.int .i64) (.pair (.row (.int .i64)) .unit)))) a1, .fn 83 []] [] (fin1 .bool)
theorem slices_ContainsFunc_impl_Core__impl_MachineOk_2_e (k : Nat) (a1 : List (Int × Int × (List Int) × Unit)) : slices_ContainsFunc_impl_Core__impl_MachineOk_2 k a1 =
  bindO (slices_IndexFunc_impl_Core__impl_MachineOk_2 k a1) fun r1 => (some (decide (r1 ≥ 0))) := by kernel_rfl
theorem E_slices_ContainsFunc_impl_Core__impl_MachineOk_2_calls (k : Nat) : CallsOk Try.prog (E_slices_ContainsFunc_impl_Core__impl_MachineOk_2 k) (arun Try.prog (E_slices_ContainsFunc_impl_Core__impl_MachineOk_2 k) k) := by
  refine told_run (tyTOk _ _) ?_ (fun run h => regOk (tyTOk _ _) mixOk h) ?_ nameOk k
  · intro g m hg
    simp only [E_slices_ContainsFunc_impl_Core__impl_MachineOk_2] at hg
    split at hg
    · cases hg
      refine con_byVal fun ρ l K x hm => ?_
      split at hm
      · obtain ⟨c1, h1, hm⟩ := Option.bind_eq_some_iff.1 hm
        obtain ⟨r, hr, hm⟩ := Option.bind_eq_some_iff.1 hm
        exact ⟨_, hm, LawV.reads (.cons (.as h1) (.cons (.fn .nil) .nil)) (slices_IndexFunc_impl_Core__impl_MachineOk_2_law k c1 r hr)⟩
      · cases hm
    · cases hg
  · intro g _ r; rfl
theorem f82_okslices_ContainsFunc_impl_Core__impl_MachineOk_2 : Try.prog.funcs[82]? = some Try.f82 := by kernel_rfl
theorem slices_ContainsFunc_impl_Core__impl_MachineOk_2_law (k : Nat) (a1 : List (Int × Int × (List Int) × Unit)) (x : Bool) (h : slices_ContainsFunc_impl_Core__impl_MachineOk_2 k a1 = some x) : LawV Try.prog 82 [.tv (.row (.pair (.int .i64) (.pair (.int .i64) (.pair (.row (.int .i64)) .unit)))) a1, .fn 83 []] (tvn .bool x) := by
  unfold slices_ContainsFunc_impl_Core__impl_MachineOk_2 at h
  exact law1 (t := .bool) (tyTOk _ _) (E_slices_ContainsFunc_impl_Core__impl_MachineOk_2_calls k) mixOk f82_okslices_ContainsFunc_impl_Core__impl_MachineOk_2 (nameOk _ _ f82_okslices_ContainsFunc_impl_Core__impl_MachineOk_2) (by kernel_rfl) h
/-! impl.wordsOk$1 -/
noncomputable def E_impl_wordsOk_1 (k : Nat) : Env := ⟨ty, fun g => match g with
  | 88 => some (byVal fun ρ l K => match l with
    | [b1] => (b1.as (.int .i64)).bind fun c1 => (impl_WordOk k c1).bind fun r => K (tvn .bool r)
    | _ => none)
  | _ => none, fun _ _ => none⟩
noncomputable def impl_wordsOk_1 (k : Nat) (a1 : Int) : Option (Bool) :=
  abody (E_impl_wordsOk_1 k) (arun Try.prog (E_impl_wordsOk_1 k) k) k 150 Try.f150 [.int .i64 a1] [] (fin1 .bool)
theorem impl_wordsOk_1_e (k : Nat) (a1 : Int) : impl_wordsOk_1 k a1 =
  bindO (impl_WordOk k a1) fun r1 => (some (!r1)) := by kernel_rfl
theorem E_impl_wordsOk_1_calls (k : Nat) : CallsOk Try.prog (E_impl_wordsOk_1 k) (arun Try.prog (E_impl_wordsOk_1 k) k) := by
  refine told_run (tyTOk _ _) ?_ (fun run h => regOk (tyTOk _ _) mixOk h) ?_ nameOk k
  · intro g m hg
    simp only [E_impl_wordsOk_1] at hg
    split at hg
    · cases hg
      refine con_byVal fun ρ l K x hm => ?_
      split at hm
      · obtain ⟨c1, h1, hm⟩ := Option.bind_eq_some_iff.1 hm
        obtain ⟨r, hr, hm⟩ := Option.bind_eq_some_iff.1 hm
        exact ⟨_, hm, LawV.reads (.cons (.as h1) .nil) (impl_WordOk_law k c1 r hr)⟩
      · cases hm
    · cases hg
  · intro g _ r; rfl
theorem f150_okimpl_wordsOk_1 : Try.prog.funcs[150]? = some Try.f150 := by kernel_rfl
theorem impl_wordsOk_1_law (k : Nat) (a1 : Int) (x : Bool) (h : impl_wordsOk_1 k a1 = some x) : LawV Try.prog 150 [.int .i64 a1] (tvn .bool x) := by
  unfold impl_wordsOk_1 at h
  exact law1 (t := .bool) (tyTOk _ _) (E_impl_wordsOk_1_calls k) mixOk f150_okimpl_wordsOk_1 (nameOk _ _ f150_okimpl_wordsOk_1) (by kernel_rfl) h
/-! slices.IndexFunc[[]int,int] -/
noncomputable def E_slices_IndexFunc_int__impl_wordsOk_1 (k : Nat) : Env := ⟨ty, fun g => match g with
  | 150 => some (byVal fun ρ l K => match l with
    | [b1] => (b1.as (.int .i64)).bind fun c1 => (impl_wordsOk_1 k c1).bind fun r => K (tvn .bool r)
    | _ => none)
  | 191 => some noCon
  | _ => none, fun f r => match f with | 191 => (match r with | 2 => some [0, 1, 7, 8] | _ => none) | _ => none⟩
noncomputable def slices_IndexFunc_int__impl_wordsOk_1 (k : Nat) (a1 : List Int) : Option (Int) :=
  abody (E_slices_IndexFunc_int__impl_wordsOk_1 k) (arun Try.prog (E_slices_IndexFunc_int__impl_wordsOk_1 k) k) k 191 Try.f191 [.tv (.row (.int .i64)) a1, .fn 150 []] [] (fin1 (.int .i64))
noncomputable def slices_IndexFunc_int__impl_wordsOk_1.l2 (k n : Nat) (x0 : List Int) (x7 : Int) (x8 : Int) : Option (Int) :=
  resume (E_slices_IndexFunc_int__impl_wordsOk_1 k) 191 (acall (E_slices_IndexFunc_int__impl_wordsOk_1 k) (arun Try.prog (E_slices_IndexFunc_int__impl_wordsOk_1 k) k)) k [true, false, true, true] [n] (bodyOf Try.f191) ⟨[.tv (.row (.int .i64)) x0, .fn 150 [], .undef, .undef, .undef, .undef, .undef, .int .i64 x7, .int .i64 x8, .undef, .undef, .undef, .undef, .undef, .undef, .undef, .undef, .undef, .undef], []⟩ (leave (E_slices_IndexFunc_int__impl_wordsOk_1 k) Try.f191 (fin1 (.int .i64)))
theorem slices_IndexFunc_int__impl_wordsOk_1.l2_0 (k : Nat) (x0 : List Int) (x7 : Int) (x8 : Int) : slices_IndexFunc_int__impl_wordsOk_1.l2 k 0 x0 x7 x8 = none := by kernel_rfl
theorem slices_IndexFunc_int__impl_wordsOk_1.l2_s (k n : Nat) (x0 : List Int) (x7 : Int) (x8 : Int) : slices_IndexFunc_int__impl_wordsOk_1.l2 k (n + 1) x0 x7 x8 =
  iteB (decide (x8 < x7)) (iteB (decide (0 ≤ x8)) (iteB (decide (x8 < ((List.length x0) : Int))) (bindO (impl_wordsOk_1 k (List.getD x0 (Int.toNat x8) 0)) fun r1 => (iteB r1 (some x8) (slices_IndexFunc_int__impl_wordsOk_1.l2 k n x0 x7 (IntKind.wrap .i64 (x8 + 1))))) (none)) (none)) (some (-1)) := by kernel_rfl
theorem slices_IndexFunc_int__impl_wordsOk_1_e (k : Nat) (a1 : List Int) : slices_IndexFunc_int__impl_wordsOk_1 k a1 =
  slices_IndexFunc_int__impl_wordsOk_1.l2 k k a1 ((List.length a1) : Int) 0 := by kernel_rfl
theorem E_slices_IndexFunc_int__impl_wordsOk_1_calls (k : Nat) : CallsOk Try.prog (E_slices_IndexFunc_int__impl_wordsOk_1 k) (arun Try.prog (E_slices_IndexFunc_int__impl_wordsOk_1 k) k) := by
  refine told_run (tyTOk _ _) ?_ (fun run h => regOk (tyTOk _ _) mixOk h) ?_ nameOk k
  · intro g m hg
    simp only [E_slices_IndexFunc_int__impl_wordsOk_1] at hg
    split at hg
    · cases hg
      refine con_byVal fun ρ l K x hm => ?_
      split at hm
      · obtain ⟨c1, h1, hm⟩ := Option.bind_eq_some_iff.1 hm
        obtain ⟨r, hr, hm⟩ := Option.bind_eq_some_iff.1 hm
        exact ⟨_, hm, LawV.reads (.cons (.as h1) .nil) (impl_wordsOk_1_law k c1 r hr)⟩
      · cases hm
    · cases hg; exact noCon_ok
    · cases hg
  · intro g hg r
    by_cases h : g = 191
    · subst h; simp [E_slices_IndexFunc_int__impl_wordsOk_1] at hg
    · simp [E_slices_IndexFunc_int__impl_wordsOk_1, h]
theorem f191_okslices_IndexFunc_int__impl_wordsOk_1 : Try.prog.funcs[191]? = some Try.f191 := by kernel_rfl
theorem slices_IndexFunc_int__impl_wordsOk_1_law (k : Nat) (a1 : List Int) (x : Int) (h : slices_IndexFunc_int__impl_wordsOk_1 k a1 = some x) : LawV Try.prog 191 [.tv (.row (.int .i64)) a1, .fn 150 []] (tvn (.int .i64) x) := by
  unfold slices_IndexFunc_int__impl_wordsOk_1 at h
  exact law1 (t := (.int .i64)) (tyTOk _ _) (E_slices_IndexFunc_int__impl_wordsOk_1_calls k) mixOk f191_okslices_IndexFunc_int__impl_wordsOk_1 (nameOk _ _ f191_okslices_IndexFunc_int__impl_wordsOk_1) (by kernel_rfl) h
/-! slices.ContainsFunc[[]int,int] -/
noncomputable def E_slices_ContainsFunc_int__impl_wordsOk_1 (k : Nat) : Env := ⟨ty, fun g => match g with
  | 191 => some (byVal fun ρ l K => match l with
    | [b1, .fn 150 []] => (b1.as (.row (.int .i64))).bind fun c1 => (slices_IndexFunc_int__impl_wordsOk_1 k c1).bind fun r => K (tvn (.int .i64) r)
    | _ => none)
  | _ => none, fun _ _ => none⟩
noncomputable def slices_ContainsFunc_int__impl_wordsOk_1 (k : Nat) (a1 : List Int) : Option (Bool) :=
  abody (E_slices_ContainsFunc_int__impl_wordsOk_1 k) (arun Try.prog (E_slices_ContainsFunc_int__impl_wordsOk_1 k) k) k 148 Try.f148 [.tv (.row (.int .i64)) a1, .fn 150 []] [] (fin1 .bool)
theorem slices_ContainsFunc_int__impl_wordsOk_1_e (k : Nat) (a1 : List Int) : slices_ContainsFunc_int__impl_wordsOk_1 k a1 =
  bindO (slices_IndexFunc_int__impl_wordsOk_1 k a1) fun r1 => (some (decide (r1 ≥ 0))) := by kernel_rfl
theorem E_slices_ContainsFunc_int__impl_wordsOk_1_calls (k : Nat) : CallsOk Try.prog (E_slices_ContainsFunc_int__impl_wordsOk_1 k) (arun Try.prog (E_slices_ContainsFunc_int__impl_wordsOk_1 k) k) := by
  refine told_run (tyTOk _ _) ?_ (fun run h => regOk (tyTOk _ _) mixOk h) ?_ nameOk k
  · intro g m hg
    simp only [E_slices_ContainsFunc_int__impl_wordsOk_1] at hg
    split at hg
    · cases hg
      refine con_byVal fun ρ l K x hm => ?_
      split at hm
      · obtain ⟨c1, h1, hm⟩ := Option.bind_eq_some_iff.1 hm
        obtain ⟨r, hr, hm⟩ := Option.bind_eq_some_iff.1 hm
        exact ⟨_, hm, LawV.reads (.cons (.as h1) (.cons (.fn .nil) .nil)) (slices_IndexFunc_int__impl_wordsOk_1_law k c1 r hr)⟩
      · cases hm
    · cases hg
  · intro g _ r; rfl
theorem f148_okslices_ContainsFunc_int__impl_wordsOk_1 : Try.prog.funcs[148]? = some Try.f148 := by kernel_rfl
theorem slices_ContainsFunc_int__impl_wordsOk_1_law (k : Nat) (a1 : List Int) (x : Bool) (h : slices_ContainsFunc_int__impl_wordsOk_1 k a1 = some x) : LawV Try.prog 148 [.tv (.row (.int .i64)) a1, .fn 150 []] (tvn .bool x) := by
  unfold slices_ContainsFunc_int__impl_wordsOk_1 at h
  exact law1 (t := .bool) (tyTOk _ _) (E_slices_ContainsFunc_int__impl_wordsOk_1_calls k) mixOk f148_okslices_ContainsFunc_int__impl_wordsOk_1 (nameOk _ _ f148_okslices_ContainsFunc_int__impl_wordsOk_1) (by kernel_rfl) h
/-! impl.wordsOk -/
noncomputable def E_impl_wordsOk (k : Nat) : Env := ⟨ty, fun g => match g with
  | 148 => some (byVal fun ρ l K => match l with
    | [b1, .fn 150 []] => (b1.as (.row (.int .i64))).bind fun c1 => (slices_ContainsFunc_int__impl_wordsOk_1 k c1).bind fun r => K (tvn .bool r)
    | _ => none)
  | _ => none, fun _ _ => none⟩
noncomputable def impl_wordsOk (k : Nat) (a1 : List Int) (a2 : Int) : Option (Bool) :=
  abody (E_impl_wordsOk k) (arun Try.prog (E_impl_wordsOk k) k) k 85 Try.f85 [.tv (.row (.int .i64)) a1, .int .i64 a2] [] (fin1 .bool)
theorem impl_wordsOk_e (k : Nat) (a1 : List Int) (a2 : Int) : impl_wordsOk k a1 a2 =
  iteB (decide (((List.length a1) : Int) ≤ a2)) (bindO (slices_ContainsFunc_int__impl_wordsOk_1 k a1) fun r1 => (some (!r1))) (some false) := by kernel_rfl
theorem E_impl_wordsOk_calls (k : Nat) : CallsOk Try.prog (E_impl_wordsOk k) (arun Try.prog (E_impl_wordsOk k) k) := by
  refine told_run (tyTOk _ _) ?_ (fun run h => regOk (tyTOk _ _) mixOk h) ?_ nameOk k
  · intro g m hg
    simp only [E_impl_wordsOk] at hg
    split at hg
    · cases hg
      refine con_byVal fun ρ l K x hm => ?_
      split at hm
      · obtain ⟨c1, h1, hm⟩ := Option.bind_eq_some_iff.1 hm
        obtain ⟨r, hr, hm⟩ := Option.bind_eq_some_iff.1 hm
        exact ⟨_, hm, LawV.reads (.cons (.as h1) (.cons (.fn .nil) .nil)) (slices_ContainsFunc_int__impl_wordsOk_1_law k c1 r hr)⟩
      · cases hm
    · cases hg
  · intro g _ r; rfl
theorem f85_okimpl_wordsOk : Try.prog.funcs[85]? = some Try.f85 := by kernel_rfl
theorem impl_wordsOk_law (k : Nat) (a1 : List Int) (a2 : Int) (x : Bool) (h : impl_wordsOk k a1 a2 = some x) : LawV Try.prog 85 [.tv (.row (.int .i64)) a1, .int .i64 a2] (tvn .bool x) := by
  unfold impl_wordsOk at h
  exact law1 (t := .bool) (tyTOk _ _) (E_impl_wordsOk_calls k) mixOk f85_okimpl_wordsOk (nameOk _ _ f85_okimpl_wordsOk) (by kernel_rfl) h
/-! impl.MachineOk$3 -/
noncomputable def E_impl_MachineOk_3 (k : Nat) : Env := ⟨ty, fun g => match g with
  | 88 => some (byVal fun ρ l K => match l with
    | [b1] => (b1.as (.int .i64)).bind fun c1 => (impl_WordOk k c1).bind fun r => K (tvn .bool r)
    | _ => none)
  | _ => none, fun _ _ => none⟩
noncomputable def impl_MachineOk_3 (k : Nat) (a1 : Int × Int × Unit) : Option (Bool) :=
  abody (E_impl_MachineOk_3 k) (arun Try.prog (E_impl_MachineOk_3 k) k) k 87 Try.f87 [.tv (.pair (.int .i64) (.pair (.int .i64) .unit)) a1] [] (fin1 .bool)
theorem impl_MachineOk_3_e (k : Nat) (a1 : Int × Int × Unit) : impl_MachineOk_3 k a1 =
  bindO (impl_WordOk k a1.1) fun r1 => (iteB (!(!r1)) (bindO (impl_WordOk k a1.2.1) fun r2 => (some (!r2))) (some true)) := by kernel_rfl
theorem E_impl_MachineOk_3_calls (k : Nat) : CallsOk Try.prog (E_impl_MachineOk_3 k) (arun Try.prog (E_impl_MachineOk_3 k) k) := by
  refine told_run (tyTOk _ _) ?_ (fun run h => regOk (tyTOk _ _) mixOk h) ?_ nameOk k
  · intro g m hg
    simp only [E_impl_MachineOk_3] at hg
    split at hg
    · cases hg
      refine con_byVal fun ρ l K x hm => ?_
      split at hm
      · obtain ⟨c1, h1, hm⟩ := Option.bind_eq_some_iff.1 hm
        obtain ⟨r, hr, hm⟩ := Option.bind_eq_some_iff.1 hm
        exact ⟨_, hm, LawV.reads (.cons (.as h1) .nil) (impl_WordOk_law k c1 r hr)⟩
      · cases hm
    · cases hg
  · intro g _ r; rfl
theorem f87_okimpl_MachineOk_3 : Try.prog.funcs[87]? = some Try.f87 := by kernel_rfl
theorem impl_MachineOk_3_law (k : Nat) (a1 : Int × Int × Unit) (x : Bool) (h : impl_MachineOk_3 k a1 = some x) : LawV Try.prog 87 [.tv (.pair (.int .i64) (.pair (.int .i64) .unit)) a1] (tvn .bool x) := by
  unfold impl_MachineOk_3 at h
  exact law1 (t := .bool) (tyTOk _ _) (E_impl_MachineOk_3_calls k) mixOk f87_okimpl_MachineOk_3 (nameOk _ _ f87_okimpl_MachineOk_3) (by kernel_rfl) h
/-! slices.IndexFunc[[]impl.Note,impl.Note] -/
noncomputable def E_slices_IndexFunc_impl_Note__impl_MachineOk_3 (k : Nat) : Env := ⟨ty, fun g => match g with
  | 87 => some (byVal fun ρ l K => match l with
    | [b1] => (b1.as (.pair (.int .i64) (.pair (.int .i64) .unit))).bind fun c1 => (impl_MachineOk_3 k c1).bind fun r => K (tvn .bool r)
    | _ => none)
  | 151 => some noCon
  | _ => none, fun f r => match f with | 151 => (match r with | 2 => some [0, 1, 7, 8] | _ => none) | _ => none⟩
noncomputable def slices_IndexFunc_impl_Note__impl_MachineOk_3 (k : Nat) (a1 : List (Int × Int × Unit)) : Option (Int) :=
  abody (E_slices_IndexFunc_impl_Note__impl_MachineOk_3 k) (arun Try.prog (E_slices_IndexFunc_impl_Note__impl_MachineOk_3 k) k) k 151 Try.f151 [.tv (.row (.pair (.int .i64) (.pair (.int .i64) .unit))) a1, .fn 87 []] [] (fin1 (.int .i64))
noncomputable def slices_IndexFunc_impl_Note__impl_MachineOk_3.l2 (k n : Nat) (x0 : List (Int × Int × Unit)) (x7 : Int) (x8 : Int) : Option (Int) :=
  resume (E_slices_IndexFunc_impl_Note__impl_MachineOk_3 k) 151 (acall (E_slices_IndexFunc_impl_Note__impl_MachineOk_3 k) (arun Try.prog (E_slices_IndexFunc_impl_Note__impl_MachineOk_3 k) k)) k [true, false, true, true] [n] (bodyOf Try.f151) ⟨[.tv (.row (.pair (.int .i64) (.pair (.int .i64) .unit))) x0, .fn 87 [], .undef, .undef, .undef, .undef, .undef, .int .i64 x7, .int .i64 x8, .undef, .undef, .undef, .undef, .undef, .undef, .undef, .undef, .undef, .undef], []⟩ (leave (E_slices_IndexFunc_impl_Note__impl_MachineOk_3 k) Try.f151 (fin1 (.int .i64)))
theorem slices_IndexFunc_impl_Note__impl_MachineOk_3.l2_0 (k : Nat) (x0 : List (Int × Int × Unit)) (x7 : Int) (x8 : Int) : slices_IndexFunc_impl_Note__impl_MachineOk_3.l2 k 0 x0 x7 x8 = none := by kernel_rfl
theorem slices_IndexFunc_impl_Note__impl_MachineOk_3.l2_s (k n : Nat) (x0 : List (Int × Int × Unit)) (x7 : Int) (x8 : Int) : slices_IndexFunc_impl_Note__impl_MachineOk_3.l2 k (n + 1) x0 x7 x8 =
  iteB (decide (x8 < x7)) (iteB (decide (0 ≤ x8)) (iteB (decide (x8 < ((List.length x0) : Int))) (bindO (impl_MachineOk_3 k (List.getD x0 (Int.toNat x8) (Ty.dflt (.pair (.int .i64) (.pair (.int .i64) .unit))))) fun r1 => (iteB r1 (some x8) (slices_IndexFunc_impl_Note__impl_MachineOk_3.l2 k n x0 x7 (IntKind.wrap .i64 (x8 + 1))))) (none)) (none)) (some (-1)) := by kernel_rfl
theorem slices_IndexFunc_impl_Note__impl_MachineOk_3_e (k : Nat) (a1 : List (Int × Int × Unit)) : slices_IndexFunc_impl_Note__impl_MachineOk_3 k a1 =
  slices_IndexFunc_impl_Note__impl_MachineOk_3.l2 k k a1 ((List.length a1) : Int) 0 := by kernel_rfl
theorem E_slices_IndexFunc_impl_Note__impl_MachineOk_3_calls (k : Nat) : CallsOk Try.prog (E_slices_IndexFunc_impl_Note__impl_MachineOk_3 k) (arun Try.prog (E_slices_IndexFunc_impl_Note__impl_MachineOk_3 k) k) := by
  refine told_run (tyTOk _ _) ?_ (fun run h => regOk (tyTOk _ _) mixOk h) ?_ nameOk k
  · intro g m hg
    simp only [E_slices_IndexFunc_impl_Note__impl_MachineOk_3] at hg
    split at hg
    · cases hg
      refine con_byVal fun ρ l K x hm => ?_
      split at hm
      · obtain ⟨c1, h1, hm⟩ := Option.bind_eq_some_iff.1 hm
        obtain ⟨r, hr, hm⟩ := Option.bind_eq_some_iff.1 hm
        exact ⟨_, hm, LawV.reads (.cons (.as h1) .nil) (impl_MachineOk_3_law k c1 r hr)⟩
      · cases hm
    · cases hg; exact noCon_ok
    · cases hg
  · intro g hg r
    by_cases h : g = 151
    · subst h; simp [E_slices_IndexFunc_impl_Note__impl_MachineOk_3] at hg
    · simp [E_slices_IndexFunc_impl_Note__impl_MachineOk_3, h]
theorem f151_okslices_IndexFunc_impl_Note__impl_MachineOk_3 : Try.prog.funcs[151]? = some Try.f151 := by kernel_rfl
theorem slices_IndexFunc_impl_Note__impl_MachineOk_3_law (k : Nat) (a1 : List (Int × Int × Unit)) (x : Int) (h : slices_IndexFunc_impl_Note__impl_MachineOk_3 k a1 = some x) : LawV Try.prog 151 [.tv (.row (.pair (.int .i64) (.pair (.int .i64) .unit))) a1, .fn 87 []] (tvn (.int .i64) x) := by
  unfold slices_IndexFunc_impl_Note__impl_MachineOk_3 at h
  exact law1 (t := (.int .i64)) (tyTOk _ _) (E_slices_IndexFunc_impl_Note__impl_MachineOk_3_calls k) mixOk f151_okslices_IndexFunc_impl_Note__impl_MachineOk_3 (nameOk _ _ f151_okslices_IndexFunc_impl_Note__impl_MachineOk_3) (by kernel_rfl) h
end Go.Proofs.Ytapijpjgfpjahaa.XFnExactMachineOk
