/- Functions of the program as runs of the interpreter: equations, and a law for each. -/
import Derived.Test.YtapijpjgfpjahaaProg
import Derived.Test.YtapijpjgfpjahaaChecked
import Derived.KernelRfl
import Derived.Eval
import Derived.Test.YtapijpjgfpjahaaATyOk
import Derived.Test.YtapijpjgfpjahaaAS32
import Derived.Test.YtapijpjgfpjahaaAMFnExactMachineOk2
import Derived.Test.YtapijpjgfpjahaaAMFnExactMachineOk3
open Go Go.AM Go.AMx Go.Proofs
namespace Go.Proofs.Ytapijpjgfpjahaa.XFnExactMachineOk
set_option linter.unusedVariables false
set_option linter.unusedSimpArgs false
/-! slices.ContainsFunc[[]impl.Note,impl.Note] -/
noncomputable def E_slices_ContainsFunc_impl_Note__impl_MachineOk_3 (k : Nat) : Env := ⟨ty, fun g => match g with
  | 151 => some (byVal fun ρ l K => match l with
    | [b1, .fn 87 []] => (b1.as (.row (.pair (.int .i64) (.pair (.int .i64) .unit)))).bind fun c1 => (slices_IndexFunc_impl_Note__impl_MachineOk_3 k c1).bind fun r => K (tvn (.int .i64) r)
    | _ => none)
  | _ => none, fun _ _ => none⟩
noncomputable def slices_ContainsFunc_impl_Note__impl_MachineOk_3 (k : Nat) (a1 : List (Int × Int × Unit)) : Option (Bool) :=
  abody (E_slices_ContainsFunc_impl_Note__impl_MachineOk_3 k) (arun Try.prog (E_slices_ContainsFunc_impl_Note__impl_MachineOk_3 k) k) k 86 Try.f86 [.tv (.row (.pair (.int .i64) (.pair (.int .i64) .unit))) a1, .fn 87 []] [] (fin1 .bool)
theorem slices_ContainsFunc_impl_Note__impl_MachineOk_3_e (k : Nat) (a1 : List (Int × Int × Unit)) : slices_ContainsFunc_impl_Note__impl_MachineOk_3 k a1 =
  bindO (slices_IndexFunc_impl_Note__impl_MachineOk_3 k a1) fun r1 => (some (decide (r1 ≥ 0))) := by kernel_rfl
theorem E_slices_ContainsFunc_impl_Note__impl_MachineOk_3_calls (k : Nat) : CallsOk Try.prog (E_slices_ContainsFunc_impl_Note__impl_MachineOk_3 k) (arun Try.prog (E_slices_ContainsFunc_impl_Note__impl_MachineOk_3 k) k) := by
  refine told_run (tyTOk _ _) ?_ (fun run h => regOk (tyTOk _ _) mixOk h) ?_ nameOk k
  · intro g m hg
    simp only [E_slices_ContainsFunc_impl_Note__impl_MachineOk_3] at hg
    split at hg
    · cases hg
      refine con_byVal fun ρ l K x hm => ?_
      split at hm
      · obtain ⟨c1, h1, hm⟩ := Option.bind_eq_some_iff.1 hm
        obtain ⟨r, hr, hm⟩ := Option.bind_eq_some_iff.1 hm
        exact ⟨_, hm, LawV.reads (.cons (.as h1) (.cons (.fn .nil) .nil)) (slices_IndexFunc_impl_Note__impl_MachineOk_3_law k c1 r hr)⟩
      · cases hm
    · cases hg
  · intro g _ r; rfl
theorem f86_okslices_ContainsFunc_impl_Note__impl_MachineOk_3 : Try.prog.funcs[86]? = some Try.f86 := by kernel_rfl
theorem slices_ContainsFunc_impl_Note__impl_MachineOk_3_law (k : Nat) (a1 : List (Int × Int × Unit)) (x : Bool) (h : slices_ContainsFunc_impl_Note__impl_MachineOk_3 k a1 = some x) : LawV Try.prog 86 [.tv (.row (.pair (.int .i64) (.pair (.int .i64) .unit))) a1, .fn 87 []] (tvn .bool x) := by
  unfold slices_ContainsFunc_impl_Note__impl_MachineOk_3 at h
  exact law1 (t := .bool) (tyTOk _ _) (E_slices_ContainsFunc_impl_Note__impl_MachineOk_3_calls k) mixOk f86_okslices_ContainsFunc_impl_Note__impl_MachineOk_3 (nameOk _ _ f86_okslices_ContainsFunc_impl_Note__impl_MachineOk_3) (by kernel_rfl) h
/-! impl.MachineOk -/
noncomputable def E_impl_MachineOk (k : Nat) : Env := ⟨ty, fun g => match g with
  | 78 => some (byVal fun ρ l K => match l with
    | [b1, b2, b3] => (b1.as (.int .i64)).bind fun c1 => (b2.as (.int .i64)).bind fun c2 => (b3.as (.int .i64)).bind fun c3 => (impl_within k c1 c2 c3).bind fun r => K (tvn .bool r)
    | _ => none)
  | 79 => some (byVal fun ρ l K => match l with
    | [b1, .fn 80 []] => (b1.as (.row (.pair (.int .i64) (.pair (.int .i64) (.pair (.int .i64) (.pair (.int .i64) (.pair (.int .i64) (.pair (.int .i64) .unit)))))))).bind fun c1 => (slices_ContainsFunc_impl_Ins__impl_MachineOk_1 k c1).bind fun r => K (tvn .bool r)
    | _ => none)
  | 82 => some (byVal fun ρ l K => match l with
    | [b1, .fn 83 []] => (b1.as (.row (.pair (.int .i64) (.pair (.int .i64) (.pair (.row (.int .i64)) .unit))))).bind fun c1 => (slices_ContainsFunc_impl_Core__impl_MachineOk_2 k c1).bind fun r => K (tvn .bool r)
    | _ => none)
  | 85 => some (byVal fun ρ l K => match l with
    | [b1, b2] => (b1.as (.row (.int .i64))).bind fun c1 => (b2.as (.int .i64)).bind fun c2 => (impl_wordsOk k c1 c2).bind fun r => K (tvn .bool r)
    | _ => none)
  | 86 => some (byVal fun ρ l K => match l with
    | [b1, .fn 87 []] => (b1.as (.row (.pair (.int .i64) (.pair (.int .i64) .unit)))).bind fun c1 => (slices_ContainsFunc_impl_Note__impl_MachineOk_3 k c1).bind fun r => K (tvn .bool r)
    | _ => none)
  | 88 => some (byVal fun ρ l K => match l with
    | [b1] => (b1.as (.int .i64)).bind fun c1 => (impl_WordOk k c1).bind fun r => K (tvn .bool r)
    | _ => none)
  | 15 => some noCon
  | _ => none, fun f r => match f with | 15 => (match r with | 3 => some [1] | 5 => some [1] | _ => none) | _ => none⟩
noncomputable def impl_MachineOk (k : Nat) (a1 : (List (Int × Int × Int × Int × Int × Int × Unit)) × (List Int) × (List (Int × Int × (List Int) × Unit)) × (List Int) × (List (Int × Int × Unit)) × Bool × Int × Unit) : Option (Bool) :=
  abody (E_impl_MachineOk k) (arun Try.prog (E_impl_MachineOk k) k) k 15 Try.f15 [.tv (.pair (.row (.pair (.int .i64) (.pair (.int .i64) (.pair (.int .i64) (.pair (.int .i64) (.pair (.int .i64) (.pair (.int .i64) .unit))))))) (.pair (.row (.int .i64)) (.pair (.row (.pair (.int .i64) (.pair (.int .i64) (.pair (.row (.int .i64)) .unit)))) (.pair (.row (.int .i64)) (.pair (.row (.pair (.int .i64) (.pair (.int .i64) .unit))) (.pair .bool (.pair (.int .i64) .unit))))))) a1] [] (fin1 .bool)
noncomputable def impl_MachineOk.j3 (k : Nat) (y0_0 : (List (Int × Int × Int × Int × Int × Int × Unit)) × (List Int) × (List (Int × Int × (List Int) × Unit)) × (List Int) × (List (Int × Int × Unit)) × Bool × Int × Unit) : Option (Bool) :=
  resume (E_impl_MachineOk k) 15 (acall (E_impl_MachineOk k) (arun Try.prog (E_impl_MachineOk k) k)) k [true, true] [] (bodyOf Try.f15) ⟨[.undef, .ptr 0 0 0, .undef, .undef, .undef, .undef, .undef, .undef, .undef, .undef, .undef, .undef, .undef, .undef, .undef, .undef, .undef, .undef, .undef, .undef, .undef, .undef, .undef, .undef, .undef, .undef, .undef, .undef, .undef, .undef, .undef, .undef, .undef, .undef, .undef, .undef, .undef, .undef, .undef, .undef, .undef, .undef, .undef, .undef, .undef, .undef, .undef, .undef], [some ⟨.raw true 7 (.agg [.nils, .nils, .nils, .nils, .nils, .bool false, .int .i64 0]) [.tv (.pair (.row (.pair (.int .i64) (.pair (.int .i64) (.pair (.int .i64) (.pair (.int .i64) (.pair (.int .i64) (.pair (.int .i64) .unit))))))) (.pair (.row (.int .i64)) (.pair (.row (.pair (.int .i64) (.pair (.int .i64) (.pair (.row (.int .i64)) .unit)))) (.pair (.row (.int .i64)) (.pair (.row (.pair (.int .i64) (.pair (.int .i64) .unit))) (.pair .bool (.pair (.int .i64) .unit))))))) y0_0], true⟩]⟩ (leave (E_impl_MachineOk k) Try.f15 (fin1 .bool))
noncomputable def impl_MachineOk.j5 (k : Nat) (y0_0 : (List (Int × Int × Int × Int × Int × Int × Unit)) × (List Int) × (List (Int × Int × (List Int) × Unit)) × (List Int) × (List (Int × Int × Unit)) × Bool × Int × Unit) : Option (Bool) :=
  resume (E_impl_MachineOk k) 15 (acall (E_impl_MachineOk k) (arun Try.prog (E_impl_MachineOk k) k)) k [true, true, true] [] (bodyOf Try.f15) ⟨[.undef, .ptr 0 0 0, .undef, .undef, .undef, .undef, .undef, .undef, .undef, .undef, .undef, .undef, .undef, .undef, .undef, .undef, .undef, .undef, .undef, .undef, .undef, .undef, .undef, .undef, .undef, .undef, .undef, .undef, .undef, .undef, .undef, .undef, .undef, .undef, .undef, .undef, .undef, .undef, .undef, .undef, .undef, .undef, .undef, .undef, .undef, .undef, .undef, .undef], [some ⟨.raw true 7 (.agg [.nils, .nils, .nils, .nils, .nils, .bool false, .int .i64 0]) [.tv (.pair (.row (.pair (.int .i64) (.pair (.int .i64) (.pair (.int .i64) (.pair (.int .i64) (.pair (.int .i64) (.pair (.int .i64) .unit))))))) (.pair (.row (.int .i64)) (.pair (.row (.pair (.int .i64) (.pair (.int .i64) (.pair (.row (.int .i64)) .unit)))) (.pair (.row (.int .i64)) (.pair (.row (.pair (.int .i64) (.pair (.int .i64) .unit))) (.pair .bool (.pair (.int .i64) .unit))))))) y0_0], true⟩]⟩ (leave (E_impl_MachineOk k) Try.f15 (fin1 .bool))
theorem impl_MachineOk.j3_e (k : Nat) (y0_0 : (List (Int × Int × Int × Int × Int × Int × Unit)) × (List Int) × (List (Int × Int × (List Int) × Unit)) × (List Int) × (List (Int × Int × Unit)) × Bool × Int × Unit) : impl_MachineOk.j3 k y0_0 =
  bindO (impl_within k ((List.length y0_0.2.2.1) : Int) 1 8) fun r3 => (iteB (!(!r3)) (bindO (slices_ContainsFunc_impl_Core__impl_MachineOk_2 k y0_0.2.2.1) fun r4 => (iteB r4 (some false) (gate k (impl_MachineOk.j5 k y0_0)))) (some false)) := by kernel_rfl
theorem impl_MachineOk.j5_e (k : Nat) (y0_0 : (List (Int × Int × Int × Int × Int × Int × Unit)) × (List Int) × (List (Int × Int × (List Int) × Unit)) × (List Int) × (List (Int × Int × Unit)) × Bool × Int × Unit) : impl_MachineOk.j5 k y0_0 =
  bindO (impl_wordsOk k y0_0.2.1 4000) fun r5 => (iteB r5 (bindO (impl_wordsOk k y0_0.2.2.2.1 3000) fun r6 => (iteB r6 (iteB (decide (((List.length y0_0.2.2.2.2.1) : Int) ≤ 3000)) (bindO (slices_ContainsFunc_impl_Note__impl_MachineOk_3 k y0_0.2.2.2.2.1) fun r7 => (iteB (!r7) (bindO (impl_WordOk k y0_0.2.2.2.2.2.2.1) fun r8 => (some r8)) (some false))) (some false)) (some false))) (some false)) := by kernel_rfl
theorem impl_MachineOk_e (k : Nat) (a1 : (List (Int × Int × Int × Int × Int × Int × Unit)) × (List Int) × (List (Int × Int × (List Int) × Unit)) × (List Int) × (List (Int × Int × Unit)) × Bool × Int × Unit) : impl_MachineOk k a1 =
  bindO (impl_within k ((List.length a1.1) : Int) 1 3000) fun r1 => (iteB (!(!r1)) (bindO (slices_ContainsFunc_impl_Ins__impl_MachineOk_1 k a1.1) fun r2 => (iteB r2 (some false) (gate k (impl_MachineOk.j3 k a1)))) (some false)) := by kernel_rfl
theorem E_impl_MachineOk_calls (k : Nat) : CallsOk Try.prog (E_impl_MachineOk k) (arun Try.prog (E_impl_MachineOk k) k) := by
  refine told_run (tyTOk _ _) ?_ (fun run h => regOk (tyTOk _ _) mixOk h) ?_ nameOk k
  · intro g m hg
    simp only [E_impl_MachineOk] at hg
    split at hg
    · cases hg
      refine con_byVal fun ρ l K x hm => ?_
      split at hm
      · obtain ⟨c1, h1, hm⟩ := Option.bind_eq_some_iff.1 hm
        obtain ⟨c2, h2, hm⟩ := Option.bind_eq_some_iff.1 hm
        obtain ⟨c3, h3, hm⟩ := Option.bind_eq_some_iff.1 hm
        obtain ⟨r, hr, hm⟩ := Option.bind_eq_some_iff.1 hm
        exact ⟨_, hm, LawV.reads (.cons (.as h1) (.cons (.as h2) (.cons (.as h3) .nil))) (impl_within_law k c1 c2 c3 r hr)⟩
      · cases hm
    · cases hg
      refine con_byVal fun ρ l K x hm => ?_
      split at hm
      · obtain ⟨c1, h1, hm⟩ := Option.bind_eq_some_iff.1 hm
        obtain ⟨r, hr, hm⟩ := Option.bind_eq_some_iff.1 hm
        exact ⟨_, hm, LawV.reads (.cons (.as h1) (.cons (.fn .nil) .nil)) (slices_ContainsFunc_impl_Ins__impl_MachineOk_1_law k c1 r hr)⟩
      · cases hm
    · cases hg
      refine con_byVal fun ρ l K x hm => ?_
      split at hm
      · obtain ⟨c1, h1, hm⟩ := Option.bind_eq_some_iff.1 hm
        obtain ⟨r, hr, hm⟩ := Option.bind_eq_some_iff.1 hm
        exact ⟨_, hm, LawV.reads (.cons (.as h1) (.cons (.fn .nil) .nil)) (slices_ContainsFunc_impl_Core__impl_MachineOk_2_law k c1 r hr)⟩
      · cases hm
    · cases hg
      refine con_byVal fun ρ l K x hm => ?_
      split at hm
      · obtain ⟨c1, h1, hm⟩ := Option.bind_eq_some_iff.1 hm
        obtain ⟨c2, h2, hm⟩ := Option.bind_eq_some_iff.1 hm
        obtain ⟨r, hr, hm⟩ := Option.bind_eq_some_iff.1 hm
        exact ⟨_, hm, LawV.reads (.cons (.as h1) (.cons (.as h2) .nil)) (impl_wordsOk_law k c1 c2 r hr)⟩
      · cases hm
    · cases hg
      refine con_byVal fun ρ l K x hm => ?_
      split at hm
      · obtain ⟨c1, h1, hm⟩ := Option.bind_eq_some_iff.1 hm
        obtain ⟨r, hr, hm⟩ := Option.bind_eq_some_iff.1 hm
        exact ⟨_, hm, LawV.reads (.cons (.as h1) (.cons (.fn .nil) .nil)) (slices_ContainsFunc_impl_Note__impl_MachineOk_3_law k c1 r hr)⟩
      · cases hm
    · cases hg
      refine con_byVal fun ρ l K x hm => ?_
      split at hm
      · obtain ⟨c1, h1, hm⟩ := Option.bind_eq_some_iff.1 hm
        obtain ⟨r, hr, hm⟩ := Option.bind_eq_some_iff.1 hm
        exact ⟨_, hm, LawV.reads (.cons (.as h1) .nil) (impl_WordOk_law k c1 r hr)⟩
      · cases hm
    · cases hg; exact noCon_ok
    · cases hg
  · intro g hg r
    by_cases h : g = 15
    · subst h; simp [E_impl_MachineOk] at hg
    · simp [E_impl_MachineOk, h]
theorem f15_okimpl_MachineOk : Try.prog.funcs[15]? = some Try.f15 := by kernel_rfl
theorem impl_MachineOk_law (k : Nat) (a1 : (List (Int × Int × Int × Int × Int × Int × Unit)) × (List Int) × (List (Int × Int × (List Int) × Unit)) × (List Int) × (List (Int × Int × Unit)) × Bool × Int × Unit) (x : Bool) (h : impl_MachineOk k a1 = some x) : LawV Try.prog 15 [.tv (.pair (.row (.pair (.int .i64) (.pair (.int .i64) (.pair (.int .i64) (.pair (.int .i64) (.pair (.int .i64) (.pair (.int .i64) .unit))))))) (.pair (.row (.int .i64)) (.pair (.row (.pair (.int .i64) (.pair (.int .i64) (.pair (.row (.int .i64)) .unit)))) (.pair (.row (.int .i64)) (.pair (.row (.pair (.int .i64) (.pair (.int .i64) .unit))) (.pair .bool (.pair (.int .i64) .unit))))))) a1] (tvn .bool x) := by
  unfold impl_MachineOk at h
  exact law1 (t := .bool) (tyTOk _ _) (E_impl_MachineOk_calls k) mixOk f15_okimpl_MachineOk (nameOk _ _ f15_okimpl_MachineOk) (by kernel_rfl) h
/-! laws.eqIns -/
noncomputable def E_laws_eqIns (k : Nat) : Env := ⟨ty, fun _ => none, fun _ _ => none⟩
noncomputable def laws_eqIns (k : Nat) (a1 : Int × Int × Int × Int × Int × Int × Unit) (a2 : Int × Int × Int × Int × Int × Int × Unit) : Option (Bool) :=
  abody (E_laws_eqIns k) (arun Try.prog (E_laws_eqIns k) k) k 152 Try.f152 [.tv (.pair (.int .i64) (.pair (.int .i64) (.pair (.int .i64) (.pair (.int .i64) (.pair (.int .i64) (.pair (.int .i64) .unit)))))) a1, .tv (.pair (.int .i64) (.pair (.int .i64) (.pair (.int .i64) (.pair (.int .i64) (.pair (.int .i64) (.pair (.int .i64) .unit)))))) a2] [] (fin1 .bool)
theorem laws_eqIns_e (k : Nat) (a1 : Int × Int × Int × Int × Int × Int × Unit) (a2 : Int × Int × Int × Int × Int × Int × Unit) : laws_eqIns k a1 a2 =
  iteB (a1.1 != a2.1) (some false) (iteB (a1.2.1 != a2.2.1) (some false) (iteB (a1.2.2.1 != a2.2.2.1) (some false) (iteB (a1.2.2.2.1 != a2.2.2.2.1) (some false) (iteB (a1.2.2.2.2.1 != a2.2.2.2.2.1) (some false) (iteB (a1.2.2.2.2.2.1 != a2.2.2.2.2.2.1) (some false) (some true)))))) := by kernel_rfl
theorem E_laws_eqIns_calls (k : Nat) : CallsOk Try.prog (E_laws_eqIns k) (arun Try.prog (E_laws_eqIns k) k) := by
  refine told_run (tyTOk _ _) ?_ (fun run h => regOk (tyTOk _ _) mixOk h) ?_ nameOk k
  · intro g m hg
    cases hg
  · intro g _ r; rfl
theorem f152_oklaws_eqIns : Try.prog.funcs[152]? = some Try.f152 := by kernel_rfl
theorem laws_eqIns_law (k : Nat) (a1 : Int × Int × Int × Int × Int × Int × Unit) (a2 : Int × Int × Int × Int × Int × Int × Unit) (x : Bool) (h : laws_eqIns k a1 a2 = some x) : LawV Try.prog 152 [.tv (.pair (.int .i64) (.pair (.int .i64) (.pair (.int .i64) (.pair (.int .i64) (.pair (.int .i64) (.pair (.int .i64) .unit)))))) a1, .tv (.pair (.int .i64) (.pair (.int .i64) (.pair (.int .i64) (.pair (.int .i64) (.pair (.int .i64) (.pair (.int .i64) .unit)))))) a2] (tvn .bool x) := by
  unfold laws_eqIns at h
  exact law1 (t := .bool) (tyTOk _ _) (E_laws_eqIns_calls k) mixOk f152_oklaws_eqIns (nameOk _ _ f152_oklaws_eqIns) (by kernel_rfl) h
/-! laws.eqInsS -/
noncomputable def E_laws_eqInsS (k : Nat) : Env := ⟨ty, fun g => match g with
  | 152 => some (byVal fun ρ l K => match l with
    | [b1, b2] => (b1.as (.pair (.int .i64) (.pair (.int .i64) (.pair (.int .i64) (.pair (.int .i64) (.pair (.int .i64) (.pair (.int .i64) .unit))))))).bind fun c1 => (b2.as (.pair (.int .i64) (.pair (.int .i64) (.pair (.int .i64) (.pair (.int .i64) (.pair (.int .i64) (.pair (.int .i64) .unit))))))).bind fun c2 => (laws_eqIns k c1 c2).bind fun r => K (tvn .bool r)
    | _ => none)
  | 89 => some noCon
  | _ => none, fun f r => match f with | 89 => (match r with | 4 => some [0, 1, 5] | _ => none) | _ => none⟩
noncomputable def laws_eqInsS (k : Nat) (a1 : List (Int × Int × Int × Int × Int × Int × Unit)) (a2 : List (Int × Int × Int × Int × Int × Int × Unit)) : Option (Bool) :=
  abody (E_laws_eqInsS k) (arun Try.prog (E_laws_eqInsS k) k) k 89 Try.f89 [.tv (.row (.pair (.int .i64) (.pair (.int .i64) (.pair (.int .i64) (.pair (.int .i64) (.pair (.int .i64) (.pair (.int .i64) .unit))))))) a1, .tv (.row (.pair (.int .i64) (.pair (.int .i64) (.pair (.int .i64) (.pair (.int .i64) (.pair (.int .i64) (.pair (.int .i64) .unit))))))) a2] [] (fin1 .bool)
noncomputable def laws_eqInsS.l4 (k n : Nat) (x0 : List (Int × Int × Int × Int × Int × Int × Unit)) (x1 : List (Int × Int × Int × Int × Int × Int × Unit)) (x5 : Int) : Option (Bool) :=
  resume (E_laws_eqInsS k) 89 (acall (E_laws_eqInsS k) (arun Try.prog (E_laws_eqInsS k) k)) k [true, true, false, true, true] [n] (bodyOf Try.f89) ⟨[.tv (.row (.pair (.int .i64) (.pair (.int .i64) (.pair (.int .i64) (.pair (.int .i64) (.pair (.int .i64) (.pair (.int .i64) .unit))))))) x0, .tv (.row (.pair (.int .i64) (.pair (.int .i64) (.pair (.int .i64) (.pair (.int .i64) (.pair (.int .i64) (.pair (.int .i64) .unit))))))) x1, .undef, .undef, .undef, .int .i64 x5, .undef, .undef, .undef, .undef, .undef, .undef, .undef, .undef, .undef, .undef, .undef, .undef, .undef, .undef, .undef, .undef, .undef, .undef, .undef, .undef, .undef], []⟩ (leave (E_laws_eqInsS k) Try.f89 (fin1 .bool))
theorem laws_eqInsS.l4_0 (k : Nat) (x0 : List (Int × Int × Int × Int × Int × Int × Unit)) (x1 : List (Int × Int × Int × Int × Int × Int × Unit)) (x5 : Int) : laws_eqInsS.l4 k 0 x0 x1 x5 = none := by kernel_rfl
theorem laws_eqInsS.l4_s (k n : Nat) (x0 : List (Int × Int × Int × Int × Int × Int × Unit)) (x1 : List (Int × Int × Int × Int × Int × Int × Unit)) (x5 : Int) : laws_eqInsS.l4 k (n + 1) x0 x1 x5 =
  iteB (decide (x5 < ((List.length x0) : Int))) (iteB (decide (0 ≤ x5)) (iteB (decide (x5 < ((List.length x0) : Int))) (iteB (decide (0 ≤ x5)) (iteB (decide (x5 < ((List.length x1) : Int))) (bindO (laws_eqIns k (List.getD x0 (Int.toNat x5) (Ty.dflt (.pair (.int .i64) (.pair (.int .i64) (.pair (.int .i64) (.pair (.int .i64) (.pair (.int .i64) (.pair (.int .i64) .unit)))))))) (List.getD x1 (Int.toNat x5) (Ty.dflt (.pair (.int .i64) (.pair (.int .i64) (.pair (.int .i64) (.pair (.int .i64) (.pair (.int .i64) (.pair (.int .i64) .unit))))))))) fun r1 => (iteB (!r1) (some false) (laws_eqInsS.l4 k n x0 x1 (IntKind.wrap .i64 (x5 + 1))))) (none)) (none)) (none)) (none)) (some true) := by kernel_rfl
theorem laws_eqInsS_e (k : Nat) (a1 : List (Int × Int × Int × Int × Int × Int × Unit)) (a2 : List (Int × Int × Int × Int × Int × Int × Unit)) : laws_eqInsS k a1 a2 =
  iteB (((List.length a1) : Int) != ((List.length a2) : Int)) (some false) (laws_eqInsS.l4 k k a1 a2 0) := by kernel_rfl
theorem E_laws_eqInsS_calls (k : Nat) : CallsOk Try.prog (E_laws_eqInsS k) (arun Try.prog (E_laws_eqInsS k) k) := by
  refine told_run (tyTOk _ _) ?_ (fun run h => regOk (tyTOk _ _) mixOk h) ?_ nameOk k
  · intro g m hg
    simp only [E_laws_eqInsS] at hg
    split at hg
    · cases hg
      refine con_byVal fun ρ l K x hm => ?_
      split at hm
      · obtain ⟨c1, h1, hm⟩ := Option.bind_eq_some_iff.1 hm
        obtain ⟨c2, h2, hm⟩ := Option.bind_eq_some_iff.1 hm
        obtain ⟨r, hr, hm⟩ := Option.bind_eq_some_iff.1 hm
        exact ⟨_, hm, LawV.reads (.cons (.as h1) (.cons (.as h2) .nil)) (laws_eqIns_law k c1 c2 r hr)⟩
      · cases hm
    · cases hg; exact noCon_ok
    · cases hg
  · intro g hg r
    by_cases h : g = 89
    · subst h; simp [E_laws_eqInsS] at hg
    · simp [E_laws_eqInsS, h]
theorem f89_oklaws_eqInsS : Try.prog.funcs[89]? = some Try.f89 := by kernel_rfl
theorem laws_eqInsS_law (k : Nat) (a1 : List (Int × Int × Int × Int × Int × Int × Unit)) (a2 : List (Int × Int × Int × Int × Int × Int × Unit)) (x : Bool) (h : laws_eqInsS k a1 a2 = some x) : LawV Try.prog 89 [.tv (.row (.pair (.int .i64) (.pair (.int .i64) (.pair (.int .i64) (.pair (.int .i64) (.pair (.int .i64) (.pair (.int .i64) .unit))))))) a1, .tv (.row (.pair (.int .i64) (.pair (.int .i64) (.pair (.int .i64) (.pair (.int .i64) (.pair (.int .i64) (.pair (.int .i64) .unit))))))) a2] (tvn .bool x) := by
  unfold laws_eqInsS at h
  exact law1 (t := .bool) (tyTOk _ _) (E_laws_eqInsS_calls k) mixOk f89_oklaws_eqInsS (nameOk _ _ f89_oklaws_eqInsS) (by kernel_rfl) h
/-! laws.eqIntS -/
noncomputable def E_laws_eqIntS (k : Nat) : Env := ⟨ty, fun g => match g with
  | 37 => some noCon
  | _ => none, fun f r => match f with | 37 => (match r with | 4 => some [0, 1, 5] | _ => none) | _ => none⟩
noncomputable def laws_eqIntS (k : Nat) (a1 : List Int) (a2 : List Int) : Option (Bool) :=
  abody (E_laws_eqIntS k) (arun Try.prog (E_laws_eqIntS k) k) k 37 Try.f37 [.tv (.row (.int .i64)) a1, .tv (.row (.int .i64)) a2] [] (fin1 .bool)
noncomputable def laws_eqIntS.l4 (k n : Nat) (x0 : List Int) (x1 : List Int) (x5 : Int) : Option (Bool) :=
  resume (E_laws_eqIntS k) 37 (acall (E_laws_eqIntS k) (arun Try.prog (E_laws_eqIntS k) k)) k [true, true, false, true, true] [n] (bodyOf Try.f37) ⟨[.tv (.row (.int .i64)) x0, .tv (.row (.int .i64)) x1, .undef, .undef, .undef, .int .i64 x5, .undef, .undef, .undef, .undef, .undef, .undef, .undef, .undef, .undef, .undef, .undef, .undef, .undef, .undef, .undef, .undef, .undef, .undef, .undef, .undef], []⟩ (leave (E_laws_eqIntS k) Try.f37 (fin1 .bool))
theorem laws_eqIntS.l4_0 (k : Nat) (x0 : List Int) (x1 : List Int) (x5 : Int) : laws_eqIntS.l4 k 0 x0 x1 x5 = none := by kernel_rfl
theorem laws_eqIntS.l4_s (k n : Nat) (x0 : List Int) (x1 : List Int) (x5 : Int) : laws_eqIntS.l4 k (n + 1) x0 x1 x5 =
  iteB (decide (x5 < ((List.length x0) : Int))) (iteB (decide (0 ≤ x5)) (iteB (decide (x5 < ((List.length x0) : Int))) (iteB (decide (0 ≤ x5)) (iteB (decide (x5 < ((List.length x1) : Int))) (iteB ((List.getD x0 (Int.toNat x5) 0) != (List.getD x1 (Int.toNat x5) 0)) (some false) (laws_eqIntS.l4 k n x0 x1 (IntKind.wrap .i64 (x5 + 1)))) (none)) (none)) (none)) (none)) (some true) := by kernel_rfl
theorem laws_eqIntS_e (k : Nat) (a1 : List Int) (a2 : List Int) : laws_eqIntS k a1 a2 =
  iteB (((List.length a1) : Int) != ((List.length a2) : Int)) (some false) (laws_eqIntS.l4 k k a1 a2 0) := by kernel_rfl
theorem E_laws_eqIntS_calls (k : Nat) : CallsOk Try.prog (E_laws_eqIntS k) (arun Try.prog (E_laws_eqIntS k) k) := by
  refine told_run (tyTOk _ _) ?_ (fun run h => regOk (tyTOk _ _) mixOk h) ?_ nameOk k
  · intro g m hg
    simp only [E_laws_eqIntS] at hg
    split at hg
    · cases hg; exact noCon_ok
    · cases hg
  · intro g hg r
    by_cases h : g = 37
    · subst h; simp [E_laws_eqIntS] at hg
    · simp [E_laws_eqIntS, h]
theorem f37_oklaws_eqIntS : Try.prog.funcs[37]? = some Try.f37 := by kernel_rfl
theorem laws_eqIntS_law (k : Nat) (a1 : List Int) (a2 : List Int) (x : Bool) (h : laws_eqIntS k a1 a2 = some x) : LawV Try.prog 37 [.tv (.row (.int .i64)) a1, .tv (.row (.int .i64)) a2] (tvn .bool x) := by
  unfold laws_eqIntS at h
  exact law1 (t := .bool) (tyTOk _ _) (E_laws_eqIntS_calls k) mixOk f37_oklaws_eqIntS (nameOk _ _ f37_oklaws_eqIntS) (by kernel_rfl) h
/-! laws.eqCore -/
noncomputable def E_laws_eqCore (k : Nat) : Env := ⟨ty, fun g => match g with
  | 37 => some (byVal fun ρ l K => match l with
    | [b1, b2] => (b1.as (.row (.int .i64))).bind fun c1 => (b2.as (.row (.int .i64))).bind fun c2 => (laws_eqIntS k c1 c2).bind fun r => K (tvn .bool r)
    | _ => none)
  | _ => none, fun _ _ => none⟩
noncomputable def laws_eqCore (k : Nat) (a1 : Int × Int × (List Int) × Unit) (a2 : Int × Int × (List Int) × Unit) : Option (Bool) :=
  abody (E_laws_eqCore k) (arun Try.prog (E_laws_eqCore k) k) k 153 Try.f153 [.tv (.pair (.int .i64) (.pair (.int .i64) (.pair (.row (.int .i64)) .unit))) a1, .tv (.pair (.int .i64) (.pair (.int .i64) (.pair (.row (.int .i64)) .unit))) a2] [] (fin1 .bool)
theorem laws_eqCore_e (k : Nat) (a1 : Int × Int × (List Int) × Unit) (a2 : Int × Int × (List Int) × Unit) : laws_eqCore k a1 a2 =
  iteB (a1.1 != a2.1) (some false) (iteB (a1.2.1 != a2.2.1) (some false) (bindO (laws_eqIntS k a1.2.2.1 a2.2.2.1) fun r1 => (iteB (!r1) (some false) (some true)))) := by kernel_rfl
theorem E_laws_eqCore_calls (k : Nat) : CallsOk Try.prog (E_laws_eqCore k) (arun Try.prog (E_laws_eqCore k) k) := by
  refine told_run (tyTOk _ _) ?_ (fun run h => regOk (tyTOk _ _) mixOk h) ?_ nameOk k
  · intro g m hg
    simp only [E_laws_eqCore] at hg
    split at hg
    · cases hg
      refine con_byVal fun ρ l K x hm => ?_
      split at hm
      · obtain ⟨c1, h1, hm⟩ := Option.bind_eq_some_iff.1 hm
        obtain ⟨c2, h2, hm⟩ := Option.bind_eq_some_iff.1 hm
        obtain ⟨r, hr, hm⟩ := Option.bind_eq_some_iff.1 hm
        exact ⟨_, hm, LawV.reads (.cons (.as h1) (.cons (.as h2) .nil)) (laws_eqIntS_law k c1 c2 r hr)⟩
      · cases hm
    · cases hg
  · intro g _ r; rfl
theorem f153_oklaws_eqCore : Try.prog.funcs[153]? = some Try.f153 := by kernel_rfl
theorem laws_eqCore_law (k : Nat) (a1 : Int × Int × (List Int) × Unit) (a2 : Int × Int × (List Int) × Unit) (x : Bool) (h : laws_eqCore k a1 a2 = some x) : LawV Try.prog 153 [.tv (.pair (.int .i64) (.pair (.int .i64) (.pair (.row (.int .i64)) .unit))) a1, .tv (.pair (.int .i64) (.pair (.int .i64) (.pair (.row (.int .i64)) .unit))) a2] (tvn .bool x) := by
  unfold laws_eqCore at h
  exact law1 (t := .bool) (tyTOk _ _) (E_laws_eqCore_calls k) mixOk f153_oklaws_eqCore (nameOk _ _ f153_oklaws_eqCore) (by kernel_rfl) h
/-! laws.eqCoreS -/
noncomputable def E_laws_eqCoreS (k : Nat) : Env := ⟨ty, fun g => match g with
  | 153 => some (byVal fun ρ l K => match l with
    | [b1, b2] => (b1.as (.pair (.int .i64) (.pair (.int .i64) (.pair (.row (.int .i64)) .unit)))).bind fun c1 => (b2.as (.pair (.int .i64) (.pair (.int .i64) (.pair (.row (.int .i64)) .unit)))).bind fun c2 => (laws_eqCore k c1 c2).bind fun r => K (tvn .bool r)
    | _ => none)
  | 90 => some noCon
  | _ => none, fun f r => match f with | 90 => (match r with | 4 => some [0, 1, 5] | _ => none) | _ => none⟩
noncomputable def laws_eqCoreS (k : Nat) (a1 : List (Int × Int × (List Int) × Unit)) (a2 : List (Int × Int × (List Int) × Unit)) : Option (Bool) :=
  abody (E_laws_eqCoreS k) (arun Try.prog (E_laws_eqCoreS k) k) k 90 Try.f90 [.tv (.row (.pair (.int .i64) (.pair (.int .i64) (.pair (.row (.int .i64)) .unit)))) a1, .tv (.row (.pair (.int .i64) (.pair (.int .i64) (.pair (.row (.int .i64)) .unit)))) a2] [] (fin1 .bool)
noncomputable def laws_eqCoreS.l4 (k n : Nat) (x0 : List (Int × Int × (List Int) × Unit)) (x1 : List (Int × Int × (List Int) × Unit)) (x5 : Int) : Option (Bool) :=
  resume (E_laws_eqCoreS k) 90 (acall (E_laws_eqCoreS k) (arun Try.prog (E_laws_eqCoreS k) k)) k [true, true, false, true, true] [n] (bodyOf Try.f90) ⟨[.tv (.row (.pair (.int .i64) (.pair (.int .i64) (.pair (.row (.int .i64)) .unit)))) x0, .tv (.row (.pair (.int .i64) (.pair (.int .i64) (.pair (.row (.int .i64)) .unit)))) x1, .undef, .undef, .undef, .int .i64 x5, .undef, .undef, .undef, .undef, .undef, .undef, .undef, .undef, .undef, .undef, .undef, .undef, .undef, .undef, .undef, .undef, .undef, .undef, .undef, .undef, .undef], []⟩ (leave (E_laws_eqCoreS k) Try.f90 (fin1 .bool))
theorem laws_eqCoreS.l4_0 (k : Nat) (x0 : List (Int × Int × (List Int) × Unit)) (x1 : List (Int × Int × (List Int) × Unit)) (x5 : Int) : laws_eqCoreS.l4 k 0 x0 x1 x5 = none := by kernel_rfl
theorem laws_eqCoreS.l4_s (k n : Nat) (x0 : List (Int × Int × (List Int) × Unit)) (x1 : List (Int × Int × (List Int) × Unit)) (x5 : Int) : laws_eqCoreS.l4 k (n + 1) x0 x1 x5 =
  iteB (decide (x5 < ((List.length x0) : Int))) (iteB (decide (0 ≤ x5)) (iteB (decide (x5 < ((List.length x0) : Int))) (iteB (decide (0 ≤ x5)) (iteB (decide (x5 < ((List.length x1) : Int))) (bindO (laws_eqCore k (List.getD x0 (Int.toNat x5) (Ty.dflt (.pair (.int .i64) (.pair (.int .i64) (.pair (.row (.int .i64)) .unit))))) (List.getD x1 (Int.toNat x5) (Ty.dflt (.pair (.int .i64) (.pair (.int .i64) (.pair (.row (.int .i64)) .unit)))))) fun r1 => (iteB (!r1) (some false) (laws_eqCoreS.l4 k n x0 x1 (IntKind.wrap .i64 (x5 + 1))))) (none)) (none)) (none)) (none)) (some true) := by kernel_rfl
theorem laws_eqCoreS_e (k : Nat) (a1 : List (Int × Int × (List Int) × Unit)) (a2 : List (Int × Int × (List Int) × Unit)) : laws_eqCoreS k a1 a2 =
  iteB (((List.length a1) : Int) != ((List.length a2) : Int)) (some false) (laws_eqCoreS.l4 k k a1 a2 0) := by kernel_rfl
theorem E_laws_eqCoreS_calls (k : Nat) : CallsOk Try.prog (E_laws_eqCoreS k) (arun Try.prog (E_laws_eqCoreS k) k) := by
  refine told_run (tyTOk _ _) ?_ (fun run h => regOk (tyTOk _ _) mixOk h) ?_ nameOk k
  · intro g m hg
    simp only [E_laws_eqCoreS] at hg
    split at hg
    · cases hg
      refine con_byVal fun ρ l K x hm => ?_
      split at hm
      · obtain ⟨c1, h1, hm⟩ := Option.bind_eq_some_iff.1 hm
        obtain ⟨c2, h2, hm⟩ := Option.bind_eq_some_iff.1 hm
        obtain ⟨r, hr, hm⟩ := Option.bind_eq_some_iff.1 hm
        exact ⟨_, hm, LawV.reads (.cons (.as h1) (.cons (.as h2) .nil)) (laws_eqCore_law k c1 c2 r hr)⟩
      · cases hm
    · cases hg; exact noCon_ok
    · cases hg
  · intro g hg r
    by_cases h : g = 90
    · subst h; simp [E_laws_eqCoreS] at hg
    · simp [E_laws_eqCoreS, h]
theorem f90_oklaws_eqCoreS : Try.prog.funcs[90]? = some Try.f90 := by kernel_rfl
theorem laws_eqCoreS_law (k : Nat) (a1 : List (Int × Int × (List Int) × Unit)) (a2 : List (Int × Int × (List Int) × Unit)) (x : Bool) (h : laws_eqCoreS k a1 a2 = some x) : LawV Try.prog 90 [.tv (.row (.pair (.int .i64) (.pair (.int .i64) (.pair (.row (.int .i64)) .unit)))) a1, .tv (.row (.pair (.int .i64) (.pair (.int .i64) (.pair (.row (.int .i64)) .unit)))) a2] (tvn .bool x) := by
  unfold laws_eqCoreS at h
  exact law1 (t := .bool) (tyTOk _ _) (E_laws_eqCoreS_calls k) mixOk f90_oklaws_eqCoreS (nameOk _ _ f90_oklaws_eqCoreS) (by kernel_rfl) h
/-! laws.eqNote -/
noncomputable def E_laws_eqNote (k : Nat) : Env := ⟨ty, fun _ => none, fun _ _ => none⟩
noncomputable def laws_eqNote (k : Nat) (a1 : Int × Int × Unit) (a2 : Int × Int × Unit) : Option (Bool) :=
  abody (E_laws_eqNote k) (arun Try.prog (E_laws_eqNote k) k) k 154 Try.f154 [.tv (.pair (.int .i64) (.pair (.int .i64) .unit)) a1, .tv (.pair (.int .i64) (.pair (.int .i64) .unit)) a2] [] (fin1 .bool)
theorem laws_eqNote_e (k : Nat) (a1 : Int × Int × Unit) (a2 : Int × Int × Unit) : laws_eqNote k a1 a2 =
  iteB (a1.1 != a2.1) (some false) (iteB (a1.2.1 != a2.2.1) (some false) (some true)) := by kernel_rfl
theorem E_laws_eqNote_calls (k : Nat) : CallsOk Try.prog (E_laws_eqNote k) (arun Try.prog (E_laws_eqNote k) k) := by
  refine told_run (tyTOk _ _) ?_ (fun run h => regOk (tyTOk _ _) mixOk h) ?_ nameOk k
  · intro g m hg
    cases hg
  · intro g _ r; rfl
theorem f154_oklaws_eqNote : Try.prog.funcs[154]? = some Try.f154 := by kernel_rfl
theorem laws_eqNote_law (k : Nat) (a1 : Int × Int × Unit) (a2 : Int × Int × Unit) (x : Bool) (h : laws_eqNote k a1 a2 = some x) : LawV Try.prog 154 [.tv (.pair (.int .i64) (.pair (.int .i64) .unit)) a1, .tv (.pair (.int .i64) (.pair (.int .i64) .unit)) a2] (tvn .bool x) := by
  unfold laws_eqNote at h
  exact law1 (t := .bool) (tyTOk _ _) (E_laws_eqNote_calls k) mixOk f154_oklaws_eqNote (nameOk _ _ f154_oklaws_eqNote) (by kernel_rfl) h
/-! laws.eqNoteS -/
noncomputable def E_laws_eqNoteS (k : Nat) : Env := ⟨ty, fun g => match g with
  | 154 => some (byVal fun ρ l K => match l with
    | [b1, b2] => (b1.as (.pair (.int .i64) (.pair (.int .i64) .unit))).bind fun c1 => (b2.as (.pair (.int .i64) (.pair (.int .i64) .unit))).bind fun c2 => (laws_eqNote k c1 c2).bind fun r => K (tvn .bool r)
    | _ => none)
  | 91 => some noCon
  | _ => none, fun f r => match f with | 91 => (match r with | 4 => some [0, 1, 5] | _ => none) | _ => none⟩
noncomputable def laws_eqNoteS (k : Nat) (a1 : List (Int × Int × Unit)) (a2 : List (Int × Int × Unit)) : Option (Bool) :=
  abody (E_laws_eqNoteS k) (arun Try.prog (E_laws_eqNoteS k) k) k 91 Try.f91 [.tv (.row (.pair (.int .i64) (.pair (.int .i64) .unit))) a1, .tv (.row (.pair (.int .i64) (.pair (.int .i64) .unit))) a2] [] (fin1 .bool)
noncomputable def laws_eqNoteS.l4 (k n : Nat) (x0 : List (Int × Int × Unit)) (x1 : List (Int × Int × Unit)) (x5 : Int) : Option (Bool) :=
  resume (E_laws_eqNoteS k) 91 (acall (E_laws_eqNoteS k) (arun Try.prog (E_laws_eqNoteS k) k)) k [true, true, false, true, true] [n] (bodyOf Try.f91) ⟨[.tv (.row (.pair (.int .i64) (.pair (.int .i64) .unit))) x0, .tv (.row (.pair (.int .i64) (.pair (.int .i64) .unit))) x1, .undef, .undef, .undef, .int .i64 x5, .undef, .undef, .undef, .undef, .undef, .undef, .undef, .undef, .undef, .undef, .undef, .undef, .undef, .undef, .undef, .undef, .undef, .undef, .undef, .undef, .undef], []⟩ (leave (E_laws_eqNoteS k) Try.f91 (fin1 .bool))
theorem laws_eqNoteS.l4_0 (k : Nat) (x0 : List (Int × Int × Unit)) (x1 : List (Int × Int × Unit)) (x5 : Int) : laws_eqNoteS.l4 k 0 x0 x1 x5 = none := by kernel_rfl
theorem laws_eqNoteS.l4_s (k n : Nat) (x0 : List (Int × Int × Unit)) (x1 : List (Int × Int × Unit)) (x5 : Int) : laws_eqNoteS.l4 k (n + 1) x0 x1 x5 =
  iteB (decide (x5 < ((List.length x0) : Int))) (iteB (decide (0 ≤ x5)) (iteB (decide (x5 < ((List.length x0) : Int))) (iteB (decide (0 ≤ x5)) (iteB (decide (x5 < ((List.length x1) : Int))) (bindO (laws_eqNote k (List.getD x0 (Int.toNat x5) (Ty.dflt (.pair (.int .i64) (.pair (.int .i64) .unit)))) (List.getD x1 (Int.toNat x5) (Ty.dflt (.pair (.int .i64) (.pair (.int .i64) .unit))))) fun r1 => (iteB (!r1) (some false) (laws_eqNoteS.l4 k n x0 x1 (IntKind.wrap .i64 (x5 + 1))))) (none)) (none)) (none)) (none)) (some true) := by kernel_rfl
theorem laws_eqNoteS_e (k : Nat) (a1 : List (Int × Int × Unit)) (a2 : List (Int × Int × Unit)) : laws_eqNoteS k a1 a2 =
  iteB (((List.length a1) : Int) != ((List.length a2) : Int)) (some false) (laws_eqNoteS.l4 k k a1 a2 0) := by kernel_rfl
theorem E_laws_eqNoteS_calls (k : Nat) : CallsOk Try.prog (E_laws_eqNoteS k) (arun Try.prog (E_laws_eqNoteS k) k) := by
  refine told_run (tyTOk _ _) ?_ (fun run h => regOk (tyTOk _ _) mixOk h) ?_ nameOk k
  · intro g m hg
    simp only [E_laws_eqNoteS] at hg
    split at hg
    · cases hg
      refine con_byVal fun ρ l K x hm => ?_
      split at hm
      · obtain ⟨c1, h1, hm⟩ := Option.bind_eq_some_iff.1 hm
        obtain ⟨c2, h2, hm⟩ := Option.bind_eq_some_iff.1 hm
        obtain ⟨r, hr, hm⟩ := Option.bind_eq_some_iff.1 hm
        exact ⟨_, hm, LawV.reads (.cons (.as h1) (.cons (.as h2) .nil)) (laws_eqNote_law k c1 c2 r hr)⟩
      · cases hm
    · cases hg; exact noCon_ok
    · cases hg
  · intro g hg r
    by_cases h : g = 91
    · subst h; simp [E_laws_eqNoteS] at hg
    · simp [E_laws_eqNoteS, h]
theorem f91_oklaws_eqNoteS : Try.prog.funcs[91]? = some Try.f91 := by kernel_rfl
theorem laws_eqNoteS_law (k : Nat) (a1 : List (Int × Int × Unit)) (a2 : List (Int × Int × Unit)) (x : Bool) (h : laws_eqNoteS k a1 a2 = some x) : LawV Try.prog 91 [.tv (.row (.pair (.int .i64) (.pair (.int .i64) .unit))) a1, .tv (.row (.pair (.int .i64) (.pair (.int .i64) .unit))) a2] (tvn .bool x) := by
  unfold laws_eqNoteS at h
  exact law1 (t := .bool) (tyTOk _ _) (E_laws_eqNoteS_calls k) mixOk f91_oklaws_eqNoteS (nameOk _ _ f91_oklaws_eqNoteS) (by kernel_rfl) h
end Go.Proofs.Ytapijpjgfpjahaa.XFnExactMachineOk
