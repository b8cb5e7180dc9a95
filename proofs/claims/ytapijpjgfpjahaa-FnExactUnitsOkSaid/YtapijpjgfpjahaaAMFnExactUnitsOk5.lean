/- Functions of the program as runs of the interpreter: equations, and a law for each. -/
import Derived.Test.YtapijpjgfpjahaaProg
import Derived.Test.YtapijpjgfpjahaaChecked
import Derived.KernelRfl
import Derived.Eval
import Derived.Test.YtapijpjgfpjahaaATyOk
import Derived.Test.YtapijpjgfpjahaaAS33
import Derived.Test.YtapijpjgfpjahaaAMFnExactUnitsOk3
import Derived.Test.YtapijpjgfpjahaaAMFnExactUnitsOk4
open Go Go.AM Go.AMx Go.Proofs
namespace Go.Proofs.Ytapijpjgfpjahaa.XFnExactUnitsOk
set_option linter.unusedVariables false
set_option linter.unusedSimpArgs false
/-! slices.IndexFunc[[]impl.Tac,impl.Tac] -/
noncomputable def E_slices_IndexFunc_impl_Tac__impl_labelAt_1 (k : Nat) : Env := ⟨ty, fun g => match g with
  | 166 => some (byVal fun ρ l K => match l with
    | [b1, .bp [b2] 0] => (b1.as (.pair (.int .i64) (.pair (.int .i64) (.pair (.int .i64) (.pair (.int .i64) (.pair (.int .i64) (.pair .str (.pair (.row (.int .i64)) .unit)))))))).bind fun c1 => (b2.as (.int .i64)).bind fun c2 => (impl_labelAt_1_vbp k c1 c2).bind fun r => K (tvn .bool r)
    | _ => none)
  | 165 => some noCon
  | _ => none, fun f r => match f with | 165 => (match r with | 2 => some [0, 1, 7, 8] | _ => none) | _ => none⟩
noncomputable def slices_IndexFunc_impl_Tac__impl_labelAt_1 (k : Nat) (a1 : List (Int × Int × Int × Int × Int × ByteArray × (List Int) × Unit)) (a2 : Int) : Option (Int) :=
  abody (E_slices_IndexFunc_impl_Tac__impl_labelAt_1 k) (arun Try.prog (E_slices_IndexFunc_impl_Tac__impl_labelAt_1 k) k) k 165 Try.f165 [.tv (.row (.pair (.int .i64) (.pair (.int .i64) (.pair (.int .i64) (.pair (.int .i64) (.pair (.int .i64) (.pair .str (.pair (.row (.int .i64)) .unit)))))))) a1, .fn 166 [.bp [.int .i64 a2] 0]] [] (fin1 (.int .i64))
noncomputable def slices_IndexFunc_impl_Tac__impl_labelAt_1.l2 (k n : Nat) (x0 : List (Int × Int × Int × Int × Int × ByteArray × (List Int) × Unit)) (x1_0_0 : Int) (x7 : Int) (x8 : Int) : Option (Int) :=
  resume (E_slices_IndexFunc_impl_Tac__impl_labelAt_1 k) 165 (acall (E_slices_IndexFunc_impl_Tac__impl_labelAt_1 k) (arun Try.prog (E_slices_IndexFunc_impl_Tac__impl_labelAt_1 k) k)) k [true, false, true, true] [n] (bodyOf Try.f165) ⟨[.tv (.row (.pair (.int .i64) (.pair (.int .i64) (.pair (.int .i64) (.pair (.int .i64) (.pair (.int .i64) (.pair .str (.pair (.row (.int .i64)) .unit)))))))) x0, .fn 166 [.bp [.int .i64 x1_0_0] 0], .undef, .undef, .undef, .undef, .undef, .int .i64 x7, .int .i64 x8, .undef, .undef, .undef, .undef, .undef, .undef, .undef, .undef, .undef, .undef], []⟩ (leave (E_slices_IndexFunc_impl_Tac__impl_labelAt_1 k) Try.f165 (fin1 (.int .i64)))
theorem slices_IndexFunc_impl_Tac__impl_labelAt_1.l2_0 (k : Nat) (x0 : List (Int × Int × Int × Int × Int × ByteArray × (List Int) × Unit)) (x1_0_0 : Int) (x7 : Int) (x8 : Int) : slices_IndexFunc_impl_Tac__impl_labelAt_1.l2 k 0 x0 x1_0_0 x7 x8 = none := by kernel_rfl
theorem slices_IndexFunc_impl_Tac__impl_labelAt_1.l2_s (k n : Nat) (x0 : List (Int × Int × Int × Int × Int × ByteArray × (List Int) × Unit)) (x1_0_0 : Int) (x7 : Int) (x8 : Int) : slices_IndexFunc_impl_Tac__impl_labelAt_1.l2 k (n + 1) x0 x1_0_0 x7 x8 =
  iteB (decide (x8 < x7)) (iteB (decide (0 ≤ x8)) (iteB (decide (x8 < ((List.length x0) : Int))) (bindO (impl_labelAt_1_vbp k (List.getD x0 (Int.toNat x8) (Ty.dflt (.pair (.int .i64) (.pair (.int .i64) (.pair (.int .i64) (.pair (.int .i64) (.pair (.int .i64) (.pair .str (.pair (.row (.int .i64)) .unit))))))))) x1_0_0) fun r1 => (iteB r1 (some x8) (slices_IndexFunc_impl_Tac__impl_labelAt_1.l2 k n x0 x1_0_0 x7 (IntKind.wrap .i64 (x8 + 1))))) (none)) (none)) (some (-1)) := by kernel_rfl
theorem slices_IndexFunc_impl_Tac__impl_labelAt_1_e (k : Nat) (a1 : List (Int × Int × Int × Int × Int × ByteArray × (List Int) × Unit)) (a2 : Int) : slices_IndexFunc_impl_Tac__impl_labelAt_1 k a1 a2 =
  slices_IndexFunc_impl_Tac__impl_labelAt_1.l2 k k a1 a2 ((List.length a1) : Int) 0 := by kernel_rfl
theorem E_slices_IndexFunc_impl_Tac__impl_labelAt_1_calls (k : Nat) : CallsOk Try.prog (E_slices_IndexFunc_impl_Tac__impl_labelAt_1 k) (arun Try.prog (E_slices_IndexFunc_impl_Tac__impl_labelAt_1 k) k) := by
  refine told_run (tyTOk _ _) ?_ (fun run h => regOk (tyTOk _ _) mixOk h) ?_ nameOk k
  · intro g m hg
    simp only [E_slices_IndexFunc_impl_Tac__impl_labelAt_1] at hg
    split at hg
    · cases hg
      refine con_byVal fun ρ l K x hm => ?_
      split at hm
      · obtain ⟨c1, h1, hm⟩ := Option.bind_eq_some_iff.1 hm
        obtain ⟨c2, h2, hm⟩ := Option.bind_eq_some_iff.1 hm
        obtain ⟨r, hr, hm⟩ := Option.bind_eq_some_iff.1 hm
        exact ⟨_, hm, LawV.reads (.cons (.as h1) (.cons (.bp (.cons (.as h2) .nil)) .nil)) (impl_labelAt_1_vbp_law k c1 c2 r hr)⟩
      · cases hm
    · cases hg; exact noCon_ok
    · cases hg
  · intro g hg r
    by_cases h : g = 165
    · subst h; simp [E_slices_IndexFunc_impl_Tac__impl_labelAt_1] at hg
    · simp [E_slices_IndexFunc_impl_Tac__impl_labelAt_1, h]
theorem f165_okslices_IndexFunc_impl_Tac__impl_labelAt_1 : Try.prog.funcs[165]? = some Try.f165 := by kernel_rfl
theorem slices_IndexFunc_impl_Tac__impl_labelAt_1_law (k : Nat) (a1 : List (Int × Int × Int × Int × Int × ByteArray × (List Int) × Unit)) (a2 : Int) (x : Int) (h : slices_IndexFunc_impl_Tac__impl_labelAt_1 k a1 a2 = some x) : LawV Try.prog 165 [.tv (.row (.pair (.int .i64) (.pair (.int .i64) (.pair (.int .i64) (.pair (.int .i64) (.pair (.int .i64) (.pair .str (.pair (.row (.int .i64)) .unit)))))))) a1, .fn 166 [.bp [.int .i64 a2] 0]] (tvn (.int .i64) x) := by
  unfold slices_IndexFunc_impl_Tac__impl_labelAt_1 at h
  exact law1 (t := (.int .i64)) (tyTOk _ _) (E_slices_IndexFunc_impl_Tac__impl_labelAt_1_calls k) mixOk f165_okslices_IndexFunc_impl_Tac__impl_labelAt_1 (nameOk _ _ f165_okslices_IndexFunc_impl_Tac__impl_labelAt_1) (by kernel_rfl) h
/-! impl.labelAt -/
noncomputable def E_impl_labelAt (k : Nat) : Env := ⟨ty, fun g => match g with
  | 165 => some (byVal fun ρ l K => match l with
    | [b1, .fn 166 [.bp [b2] 0]] => (b1.as (.row (.pair (.int .i64) (.pair (.int .i64) (.pair (.int .i64) (.pair (.int .i64) (.pair (.int .i64) (.pair .str (.pair (.row (.int .i64)) .unit))))))))).bind fun c1 => (b2.as (.int .i64)).bind fun c2 => (slices_IndexFunc_impl_Tac__impl_labelAt_1 k c1 c2).bind fun r => K (tvn (.int .i64) r)
    | _ => none)
  | _ => none, fun _ _ => none⟩
noncomputable def impl_labelAt (k : Nat) (a1 : List (Int × Int × Int × Int × Int × ByteArray × (List Int) × Unit)) (a2 : Int) : Option (Int) :=
  abody (E_impl_labelAt k) (arun Try.prog (E_impl_labelAt k) k) k 98 Try.f98 [.tv (.row (.pair (.int .i64) (.pair (.int .i64) (.pair (.int .i64) (.pair (.int .i64) (.pair (.int .i64) (.pair .str (.pair (.row (.int .i64)) .unit)))))))) a1, .int .i64 a2] [] (fin1 (.int .i64))
theorem impl_labelAt_e (k : Nat) (a1 : List (Int × Int × Int × Int × Int × ByteArray × (List Int) × Unit)) (a2 : Int) : impl_labelAt k a1 a2 =
  bindO (slices_IndexFunc_impl_Tac__impl_labelAt_1 k a1 a2) fun r1 => (some r1) := by kernel_rfl
theorem E_impl_labelAt_calls (k : Nat) : CallsOk Try.prog (E_impl_labelAt k) (arun Try.prog (E_impl_labelAt k) k) := by
  refine told_run (tyTOk _ _) ?_ (fun run h => regOk (tyTOk _ _) mixOk h) ?_ nameOk k
  · intro g m hg
    simp only [E_impl_labelAt] at hg
    split at hg
    · cases hg
      refine con_byVal fun ρ l K x hm => ?_
      split at hm
      · obtain ⟨c1, h1, hm⟩ := Option.bind_eq_some_iff.1 hm
        obtain ⟨c2, h2, hm⟩ := Option.bind_eq_some_iff.1 hm
        obtain ⟨r, hr, hm⟩ := Option.bind_eq_some_iff.1 hm
        exact ⟨_, hm, LawV.reads (.cons (.as h1) (.cons (.fn (.cons (.bp (.cons (.as h2) .nil)) .nil)) .nil)) (slices_IndexFunc_impl_Tac__impl_labelAt_1_law k c1 c2 r hr)⟩
      · cases hm
    · cases hg
  · intro g _ r; rfl
theorem f98_okimpl_labelAt : Try.prog.funcs[98]? = some Try.f98 := by kernel_rfl
theorem impl_labelAt_law (k : Nat) (a1 : List (Int × Int × Int × Int × Int × ByteArray × (List Int) × Unit)) (a2 : Int) (x : Int) (h : impl_labelAt k a1 a2 = some x) : LawV Try.prog 98 [.tv (.row (.pair (.int .i64) (.pair (.int .i64) (.pair (.int .i64) (.pair (.int .i64) (.pair (.int .i64) (.pair .str (.pair (.row (.int .i64)) .unit)))))))) a1, .int .i64 a2] (tvn (.int .i64) x) := by
  unfold impl_labelAt at h
  exact law1 (t := (.int .i64)) (tyTOk _ _) (E_impl_labelAt_calls k) mixOk f98_okimpl_labelAt (nameOk _ _ f98_okimpl_labelAt) (by kernel_rfl) h
/-! impl.ends -/
noncomputable def E_impl_ends (k : Nat) : Env := ⟨ty, fun _ => none, fun _ _ => none⟩
noncomputable def impl_ends (k : Nat) (a1 : Int) : Option (Bool) :=
  abody (E_impl_ends k) (arun Try.prog (E_impl_ends k) k) k 99 Try.f99 [.int .i64 a1] [] (fin1 .bool)
theorem impl_ends_e (k : Nat) (a1 : Int) : impl_ends k a1 =
  iteB (!(a1 == 12)) (iteB (!(a1 == 9)) (some (a1 == 28)) (some true)) (some true) := by kernel_rfl
theorem E_impl_ends_calls (k : Nat) : CallsOk Try.prog (E_impl_ends k) (arun Try.prog (E_impl_ends k) k) := by
  refine told_run (tyTOk _ _) ?_ (fun run h => regOk (tyTOk _ _) mixOk h) ?_ nameOk k
  · intro g m hg
    cases hg
  · intro g _ r; rfl
theorem f99_okimpl_ends : Try.prog.funcs[99]? = some Try.f99 := by kernel_rfl
theorem impl_ends_law (k : Nat) (a1 : Int) (x : Bool) (h : impl_ends k a1 = some x) : LawV Try.prog 99 [.int .i64 a1] (tvn .bool x) := by
  unfold impl_ends at h
  exact law1 (t := .bool) (tyTOk _ _) (E_impl_ends_calls k) mixOk f99_okimpl_ends (nameOk _ _ f99_okimpl_ends) (by kernel_rfl) h
/-! impl.UnitOk -/
noncomputable def E_impl_UnitOk (k : Nat) : Env := ⟨ty, fun g => match g with
  | 78 => some (byVal fun ρ l K => match l with
    | [b1, b2, b3] => (b1.as (.int .i64)).bind fun c1 => (b2.as (.int .i64)).bind fun c2 => (b3.as (.int .i64)).bind fun c3 => (impl_within k c1 c2 c3).bind fun r => K (tvn .bool r)
    | _ => none)
  | 97 => some (byVal fun ρ l K => match l with
    | [b1, b2] => (b1.as (.pair (.int .i64) (.pair (.int .i64) (.pair (.int .i64) (.pair (.int .i64) (.pair (.int .i64) (.pair .str (.pair (.row (.int .i64)) .unit)))))))).bind fun c1 => (b2.as (.int .i64)).bind fun c2 => (impl_tacOk k c1 c2).bind fun r => K (tvn .bool r)
    | _ => none)
  | 98 => some (byVal fun ρ l K => match l with
    | [b1, b2] => (b1.as (.row (.pair (.int .i64) (.pair (.int .i64) (.pair (.int .i64) (.pair (.int .i64) (.pair (.int .i64) (.pair .str (.pair (.row (.int .i64)) .unit))))))))).bind fun c1 => (b2.as (.int .i64)).bind fun c2 => (impl_labelAt k c1 c2).bind fun r => K (tvn (.int .i64) r)
    | _ => none)
  | 99 => some (byVal fun ρ l K => match l with
    | [b1] => (b1.as (.int .i64)).bind fun c1 => (impl_ends k c1).bind fun r => K (tvn .bool r)
    | _ => none)
  | 20 => some noCon
  | _ => none, fun f r => match f with | 20 => (match r with | 3 => some [1] | 4 => some [1, 26, 27, 28] | _ => none) | _ => none⟩
noncomputable def impl_UnitOk (k : Nat) (a1 : ByteArray × Int × Int × (List (Int × Int × Int × Int × Int × ByteArray × (List Int) × Unit)) × Unit) : Option (Bool) :=
  abody (E_impl_UnitOk k) (arun Try.prog (E_impl_UnitOk k) k) k 20 Try.f20 [.tv (.pair .str (.pair (.int .i64) (.pair (.int .i64) (.pair (.row (.pair (.int .i64) (.pair (.int .i64) (.pair (.int .i64) (.pair (.int .i64) (.pair (.int .i64) (.pair .str (.pair (.row (.int .i64)) .unit)))))))) .unit)))) a1] [] (fin1 .bool)
noncomputable def impl_UnitOk.j3 (k : Nat) (y0_0 : ByteArray × Int × Int × (List (Int × Int × Int × Int × Int × ByteArray × (List Int) × Unit)) × Unit) : Option (Bool) :=
  resume (E_impl_UnitOk k) 20 (acall (E_impl_UnitOk k) (arun Try.prog (E_impl_UnitOk k) k)) k [true, true] [] (bodyOf Try.f20) ⟨[.undef, .ptr 0 0 0, .undef, .undef, .undef, .undef, .undef, .undef, .undef, .undef, .undef, .undef, .undef, .undef, .undef, .undef, .undef, .undef, .undef, .undef, .undef, .undef, .undef, .undef, .undef, .undef, .undef, .undef, .undef, .undef, .undef, .undef, .undef, .undef, .undef, .undef, .undef, .undef, .undef, .undef, .undef, .undef, .undef, .undef, .undef, .undef, .undef, .undef, .undef, .undef, .undef, .undef, .undef, .undef, .undef, .undef, .undef, .undef, .undef, .undef, .undef, .undef, .undef, .undef, .undef, .undef, .undef, .undef, .undef, .undef, .undef, .undef, .undef, .undef, .undef, .undef, .undef, .undef, .undef, .undef, .undef, .undef, .undef, .undef, .undef, .undef], [some ⟨.raw true 4 (.agg [.str ByteArray.empty, .int .i64 0, .int .i64 0, .nils]) [.tv (.pair .str (.pair (.int .i64) (.pair (.int .i64) (.pair (.row (.pair (.int .i64) (.pair (.int .i64) (.pair (.int .i64) (.pair (.int .i64) (.pair (.int .i64) (.pair .str (.pair (.row (.int .i64)) .unit)))))))) .unit)))) y0_0], true⟩]⟩ (leave (E_impl_UnitOk k) Try.f20 (fin1 .bool))
noncomputable def impl_UnitOk.l4 (k n : Nat) (x26 : List (Int × Int × Int × Int × Int × ByteArray × (List Int) × Unit)) (x27 : Int) (x28 : Int) (y0_0 : ByteArray × Int × Int × (List (Int × Int × Int × Int × Int × ByteArray × (List Int) × Unit)) × Unit) : Option (Bool) :=
  resume (E_impl_UnitOk k) 20 (acall (E_impl_UnitOk k) (arun Try.prog (E_impl_UnitOk k) k)) k [true, true, false, true, true] [n] (bodyOf Try.f20) ⟨[.undef, .ptr 0 0 0, .undef, .undef, .undef, .undef, .undef, .undef, .undef, .undef, .undef, .undef, .undef, .undef, .undef, .undef, .undef, .undef, .undef, .undef, .undef, .undef, .undef, .undef, .undef, .undef, .tv (.row (.pair (.int .i64) (.pair (.int .i64) (.pair (.int .i64) (.pair (.int .i64) (.pair (.int .i64) (.pair .str (.pair (.row (.int .i64)) .unit)))))))) x26, .int .i64 x27, .int .i64 x28, .undef, .undef, .undef, .undef, .undef, .undef, .undef, .undef, .undef, .undef, .undef, .undef, .undef, .undef, .undef, .undef, .undef, .undef, .undef, .undef, .undef, .undef, .undef, .undef, .undef, .undef, .undef, .undef, .undef, .undef, .undef, .undef, .undef, .undef, .undef, .undef, .undef, .undef, .undef, .undef, .undef, .undef, .undef, .undef, .undef, .undef, .undef, .undef, .undef, .undef, .undef, .undef, .undef, .undef, .undef, .undef, .undef], [some ⟨.raw true 4 (.agg [.str ByteArray.empty, .int .i64 0, .int .i64 0, .nils]) [.tv (.pair .str (.pair (.int .i64) (.pair (.int .i64) (.pair (.row (.pair (.int .i64) (.pair (.int .i64) (.pair (.int .i64) (.pair (.int .i64) (.pair (.int .i64) (.pair .str (.pair (.row (.int .i64)) .unit)))))))) .unit)))) y0_0], true⟩]⟩ (leave (E_impl_UnitOk k) Try.f20 (fin1 .bool))
theorem impl_UnitOk.j3_e (k : Nat) (y0_0 : ByteArray × Int × Int × (List (Int × Int × Int × Int × Int × ByteArray × (List Int) × Unit)) × Unit) : impl_UnitOk.j3 k y0_0 =
  impl_UnitOk.l4 k k y0_0.2.2.2.1 ((List.length y0_0.2.2.2.1) : Int) 0 y0_0 := by kernel_rfl
theorem impl_UnitOk.l4_0 (k : Nat) (x26 : List (Int × Int × Int × Int × Int × ByteArray × (List Int) × Unit)) (x27 : Int) (x28 : Int) (y0_0 : ByteArray × Int × Int × (List (Int × Int × Int × Int × Int × ByteArray × (List Int) × Unit)) × Unit) : impl_UnitOk.l4 k 0 x26 x27 x28 y0_0 = none := by kernel_rfl
theorem impl_UnitOk.l4_s (k n : Nat) (x26 : List (Int × Int × Int × Int × Int × ByteArray × (List Int) × Unit)) (x27 : Int) (x28 : Int) (y0_0 : ByteArray × Int × Int × (List (Int × Int × Int × Int × Int × ByteArray × (List Int) × Unit)) × Unit) : impl_UnitOk.l4 k (n + 1) x26 x27 x28 y0_0 =
  iteB (decide (x28 < x27)) (iteB (decide (0 ≤ x28)) (iteB (decide (x28 < ((List.length x26) : Int))) (bindO (impl_tacOk k (List.getD x26 (Int.toNat x28) (Ty.dflt (.pair (.int .i64) (.pair (.int .i64) (.pair (.int .i64) (.pair (.int .i64) (.pair (.int .i64) (.pair .str (.pair (.row (.int .i64)) .unit))))))))) y0_0.2.2.1) fun r4 => (iteB (!r4) (some false) (iteB (((List.getD x26 (Int.toNat x28) (Ty.dflt (.pair (.int .i64) (.pair (.int .i64) (.pair (.int .i64) (.pair (.int .i64) (.pair (.int .i64) (.pair .str (.pair (.row (.int .i64)) .unit))))))))).1) == 8) (bindO (impl_within k ((((((List.getD x26 (Int.toNat x28) (Ty.dflt (.pair (.int .i64) (.pair (.int .i64) (.pair (.int .i64) (.pair (.int .i64) (.pair (.int .i64) (.pair .str (.pair (.row (.int .i64)) .unit))))))))).2).2).2).2).1) 0 900) fun r5 => (iteB (!(!r5)) (bindO (impl_labelAt k y0_0.2.2.2.1 ((((((List.getD x26 (Int.toNat x28) (Ty.dflt (.pair (.int .i64) (.pair (.int .i64) (.pair (.int .i64) (.pair (.int .i64) (.pair (.int .i64) (.pair .str (.pair (.row (.int .i64)) .unit))))))))).2).2).2).2).1)) fun r6 => (iteB (r6 != x28) (some false) (iteB (!(((List.getD x26 (Int.toNat x28) (Ty.dflt (.pair (.int .i64) (.pair (.int .i64) (.pair (.int .i64) (.pair (.int .i64) (.pair (.int .i64) (.pair .str (.pair (.row (.int .i64)) .unit))))))))).1) == 9)) (iteB (((List.getD x26 (Int.toNat x28) (Ty.dflt (.pair (.int .i64) (.pair (.int .i64) (.pair (.int .i64) (.pair (.int .i64) (.pair (.int .i64) (.pair .str (.pair (.row (.int .i64)) .unit))))))))).1) == 10) (bindO (impl_labelAt k y0_0.2.2.2.1 ((((((List.getD x26 (Int.toNat x28) (Ty.dflt (.pair (.int .i64) (.pair (.int .i64) (.pair (.int .i64) (.pair (.int .i64) (.pair (.int .i64) (.pair .str (.pair (.row (.int .i64)) .unit))))))))).2).2).2).2).1)) fun r7 => (iteB (decide (r7 < 0)) (some false) (impl_UnitOk.l4 k n x26 x27 (IntKind.wrap .i64 (x28 + 1)) y0_0))) (impl_UnitOk.l4 k n x26 x27 (IntKind.wrap .i64 (x28 + 1)) y0_0)) (bindO (impl_labelAt k y0_0.2.2.2.1 ((((((List.getD x26 (Int.toNat x28) (Ty.dflt (.pair (.int .i64) (.pair (.int .i64) (.pair (.int .i64) (.pair (.int .i64) (.pair (.int .i64) (.pair .str (.pair (.row (.int .i64)) .unit))))))))).2).2).2).2).1)) fun r8 => (iteB (decide (r8 < 0)) (some false) (impl_UnitOk.l4 k n x26 x27 (IntKind.wrap .i64 (x28 + 1)) y0_0)))))) (some false))) (iteB (!(((List.getD x26 (Int.toNat x28) (Ty.dflt (.pair (.int .i64) (.pair (.int .i64) (.pair (.int .i64) (.pair (.int .i64) (.pair (.int .i64) (.pair .str (.pair (.row (.int .i64)) .unit))))))))).1) == 9)) (iteB (((List.getD x26 (Int.toNat x28) (Ty.dflt (.pair (.int .i64) (.pair (.int .i64) (.pair (.int .i64) (.pair (.int .i64) (.pair (.int .i64) (.pair .str (.pair (.row (.int .i64)) .unit))))))))).1) == 10) (bindO (impl_labelAt k y0_0.2.2.2.1 ((((((List.getD x26 (Int.toNat x28) (Ty.dflt (.pair (.int .i64) (.pair (.int .i64) (.pair (.int .i64) (.pair (.int .i64) (.pair (.int .i64) (.pair .str (.pair (.row (.int .i64)) .unit))))))))).2).2).2).2).1)) fun r9 => (iteB (decide (r9 < 0)) (some false) (impl_UnitOk.l4 k n x26 x27 (IntKind.wrap .i64 (x28 + 1)) y0_0))) (impl_UnitOk.l4 k n x26 x27 (IntKind.wrap .i64 (x28 + 1)) y0_0)) (bindO (impl_labelAt k y0_0.2.2.2.1 ((((((List.getD x26 (Int.toNat x28) (Ty.dflt (.pair (.int .i64) (.pair (.int .i64) (.pair (.int .i64) (.pair (.int .i64) (.pair (.int .i64) (.pair .str (.pair (.row (.int .i64)) .unit))))))))).2).2).2).2).1)) fun r10 => (iteB (decide (r10 < 0)) (some false) (impl_UnitOk.l4 k n x26 x27 (IntKind.wrap .i64 (x28 + 1)) y0_0))))))) (none)) (none)) (iteB (decide (0 ≤ IntKind.wrap .i64 (((List.length y0_0.2.2.2.1) : Int) - 1))) (iteB (decide (IntKind.wrap .i64 (((List.length y0_0.2.2.2.1) : Int) - 1) < ((List.length y0_0.2.2.2.1) : Int))) (bindO (impl_ends k ((List.getD y0_0.2.2.2.1 (Int.toNat (IntKind.wrap .i64 (((List.length y0_0.2.2.2.1) : Int) - 1))) (Ty.dflt (.pair (.int .i64) (.pair (.int .i64) (.pair (.int .i64) (.pair (.int .i64) (.pair (.int .i64) (.pair .str (.pair (.row (.int .i64)) .unit))))))))).1)) fun r11 => (some r11)) (none)) (none)) := by kernel_rfl
theorem impl_UnitOk_e (k : Nat) (a1 : ByteArray × Int × Int × (List (Int × Int × Int × Int × Int × ByteArray × (List Int) × Unit)) × Unit) : impl_UnitOk k a1 =
  bindO (impl_within k a1.2.2.1 0 250) fun r1 => (iteB (!(!r1)) (bindO (impl_within k a1.2.1 0 (mn 4 a1.2.2.1)) fun r2 => (iteB (!(!r2)) (bindO (impl_within k ((List.length a1.2.2.2.1) : Int) 1 900) fun r3 => (iteB (!r3) (some false) (gate k (impl_UnitOk.j3 k a1)))) (some false))) (some false)) := by kernel_rfl
theorem E_impl_UnitOk_calls (k : Nat) : CallsOk Try.prog (E_impl_UnitOk k) (arun Try.prog (E_impl_UnitOk k) k) := by
  refine told_run (tyTOk _ _) ?_ (fun run h => regOk (tyTOk _ _) mixOk h) ?_ nameOk k
  · intro g m hg
    simp only [E_impl_UnitOk] at hg
    split at hg
    · cases hg
      refine con_byVal fun ρ l K x hm => ?_
      split at hm
      · obtain ⟨c1, h1, hm⟩ := Option.bind_eq_some_iff.1 hm
        obtain ⟨c2, h2, hm⟩ := Option.bind_eq_some_iff.1 hm
        obtain ⟨c3, h3, hm⟩ := Option.bind_eq_some_iff.1 hm
        obtain ⟨r, hr, hm⟩ := Option.bind_eq_some_iff.1 hm
        exact ⟨_, hm, LawV.reads (.cons (.as h1) (.cons (.as h2) (.cons (.as h3) .nil))) (impl_within_law k c1 c2 c3 r hr)⟩
      · cases hm
    · cases hg
      refine con_byVal fun ρ l K x hm => ?_
      split at hm
      · obtain ⟨c1, h1, hm⟩ := Option.bind_eq_some_iff.1 hm
        obtain ⟨c2, h2, hm⟩ := Option.bind_eq_some_iff.1 hm
        obtain ⟨r, hr, hm⟩ := Option.bind_eq_some_iff.1 hm
        exact ⟨_, hm, LawV.reads (.cons (.as h1) (.cons (.as h2) .nil)) (impl_tacOk_law k c1 c2 r hr)⟩
      · cases hm
    · cases hg
      refine con_byVal fun ρ l K x hm => ?_
      split at hm
      · obtain ⟨c1, h1, hm⟩ := Option.bind_eq_some_iff.1 hm
        obtain ⟨c2, h2, hm⟩ := Option.bind_eq_some_iff.1 hm
        obtain ⟨r, hr, hm⟩ := Option.bind_eq_some_iff.1 hm
        exact ⟨_, hm, LawV.reads (.cons (.as h1) (.cons (.as h2) .nil)) (impl_labelAt_law k c1 c2 r hr)⟩
      · cases hm
    · cases hg
      refine con_byVal fun ρ l K x hm => ?_
      split at hm
      · obtain ⟨c1, h1, hm⟩ := Option.bind_eq_some_iff.1 hm
        obtain ⟨r, hr, hm⟩ := Option.bind_eq_some_iff.1 hm
        exact ⟨_, hm, LawV.reads (.cons (.as h1) .nil) (impl_ends_law k c1 r hr)⟩
      · cases hm
    · cases hg; exact noCon_ok
    · cases hg
  · intro g hg r
    by_cases h : g = 20
    · subst h; simp [E_impl_UnitOk] at hg
    · simp [E_impl_UnitOk, h]
theorem f20_okimpl_UnitOk : Try.prog.funcs[20]? = some Try.f20 := by kernel_rfl
theorem impl_UnitOk_law (k : Nat) (a1 : ByteArray × Int × Int × (List (Int × Int × Int × Int × Int × ByteArray × (List Int) × Unit)) × Unit) (x : Bool) (h : impl_UnitOk k a1 = some x) : LawV Try.prog 20 [.tv (.pair .str (.pair (.int .i64) (.pair (.int .i64) (.pair (.row (.pair (.int .i64) (.pair (.int .i64) (.pair (.int .i64) (.pair (.int .i64) (.pair (.int .i64) (.pair .str (.pair (.row (.int .i64)) .unit)))))))) .unit)))) a1] (tvn .bool x) := by
  unfold impl_UnitOk at h
  exact law1 (t := .bool) (tyTOk _ _) (E_impl_UnitOk_calls k) mixOk f20_okimpl_UnitOk (nameOk _ _ f20_okimpl_UnitOk) (by kernel_rfl) h
/-! impl.unitAt$1 -/
noncomputable def E_impl_unitAt_1_vbp (k : Nat) : Env := ⟨ty, fun _ => none, fun _ _ => none⟩
noncomputable def impl_unitAt_1_vbp (k : Nat) (a1 : ByteArray × Int × Int × (List (Int × Int × Int × Int × Int × ByteArray × (List Int) × Unit)) × Unit) (a2 : ByteArray) : Option (Bool) :=
  abody (E_impl_unitAt_1_vbp k) (arun Try.prog (E_impl_unitAt_1_vbp k) k) k 169 Try.f169 [.tv (.pair .str (.pair (.int .i64) (.pair (.int .i64) (.pair (.row (.pair (.int .i64) (.pair (.int .i64) (.pair (.int .i64) (.pair (.int .i64) (.pair (.int .i64) (.pair .str (.pair (.row (.int .i64)) .unit)))))))) .unit)))) a1, .bp [.str a2] 0] [] (fin1 .bool)
theorem impl_unitAt_1_vbp_e (k : Nat) (a1 : ByteArray × Int × Int × (List (Int × Int × Int × Int × Int × ByteArray × (List Int) × Unit)) × Unit) (a2 : ByteArray) : impl_unitAt_1_vbp k a1 a2 =
  some (ByteArray.toList a1.1 == ByteArray.toList a2) := by kernel_rfl
theorem E_impl_unitAt_1_vbp_calls (k : Nat) : CallsOk Try.prog (E_impl_unitAt_1_vbp k) (arun Try.prog (E_impl_unitAt_1_vbp k) k) := by
  refine told_run (tyTOk _ _) ?_ (fun run h => regOk (tyTOk _ _) mixOk h) ?_ nameOk k
  · intro g m hg
    cases hg
  · intro g _ r; rfl
theorem f169_okimpl_unitAt_1_vbp : Try.prog.funcs[169]? = some Try.f169 := by kernel_rfl
theorem impl_unitAt_1_vbp_law (k : Nat) (a1 : ByteArray × Int × Int × (List (Int × Int × Int × Int × Int × ByteArray × (List Int) × Unit)) × Unit) (a2 : ByteArray) (x : Bool) (h : impl_unitAt_1_vbp k a1 a2 = some x) : LawV Try.prog 169 [.tv (.pair .str (.pair (.int .i64) (.pair (.int .i64) (.pair (.row (.pair (.int .i64) (.pair (.int .i64) (.pair (.int .i64) (.pair (.int .i64) (.pair (.int .i64) (.pair .str (.pair (.row (.int .i64)) .unit)))))))) .unit)))) a1, .bp [.str a2] 0] (tvn .bool x) := by
  unfold impl_unitAt_1_vbp at h
  exact law1 (t := .bool) (tyTOk _ _) (E_impl_unitAt_1_vbp_calls k) mixOk f169_okimpl_unitAt_1_vbp (nameOk _ _ f169_okimpl_unitAt_1_vbp) (by kernel_rfl) h
/-! slices.IndexFunc[[]impl.Unit,impl.Unit] -/
noncomputable def E_slices_IndexFunc_impl_Unit__impl_unitAt_1 (k : Nat) : Env := ⟨ty, fun g => match g with
  | 169 => some (byVal fun ρ l K => match l with
    | [b1, .bp [b2] 0] => (b1.as (.pair .str (.pair (.int .i64) (.pair (.int .i64) (.pair (.row (.pair (.int .i64) (.pair (.int .i64) (.pair (.int .i64) (.pair (.int .i64) (.pair (.int .i64) (.pair .str (.pair (.row (.int .i64)) .unit)))))))) .unit))))).bind fun c1 => (b2.as .str).bind fun c2 => (impl_unitAt_1_vbp k c1 c2).bind fun r => K (tvn .bool r)
    | _ => none)
  | 168 => some noCon
  | _ => none, fun f r => match f with | 168 => (match r with | 2 => some [0, 1, 7, 8] | _ => none) | _ => none⟩
noncomputable def slices_IndexFunc_impl_Unit__impl_unitAt_1 (k : Nat) (a1 : List (ByteArray × Int × Int × (List (Int × Int × Int × Int × Int × ByteArray × (List Int) × Unit)) × Unit)) (a2 : ByteArray) : Option (Int) :=
  abody (E_slices_IndexFunc_impl_Unit__impl_unitAt_1 k) (arun Try.prog (E_slices_IndexFunc_impl_Unit__impl_unitAt_1 k) k) k 168 Try.f168 [.tv (.row (.pair .str (.pair (.int .i64) (.pair (.int .i64) (.pair (.row (.pair (.int .i64) (.pair (.int .i64) (.pair (.int .i64) (.pair (.int .i64) (.pair (.int .i64) (.pair .str (.pair (.row (.int .i64)) .unit)))))))) .unit))))) a1, .fn 169 [.bp [.str a2] 0]] [] (fin1 (.int .i64))
noncomputable def slices_IndexFunc_impl_Unit__impl_unitAt_1.l2 (k n : Nat) (x0 : List (ByteArray × Int × Int × (List (Int × Int × Int × Int × Int × ByteArray × (List Int) × Unit)) × Unit)) (x1_0_0 : ByteArray) (x7 : Int) (x8 : Int) : Option (Int) :=
  resume (E_slices_IndexFunc_impl_Unit__impl_unitAt_1 k) 168 (acall (E_slices_IndexFunc_impl_Unit__impl_unitAt_1 k) (arun Try.prog (E_slices_IndexFunc_impl_Unit__impl_unitAt_1 k) k)) k [true, false, true, true] [n] (bodyOf Try.f168) ⟨[.tv (.row (.pair .str (.pair (.int .i64) (.pair (.int .i64) (.pair (.row (.pair (.int .i64) (.pair (.int .i64) (.pair (.int .i64) (.pair (.int .i64) (.pair (.int .i64) (.pair .str (.pair (.row (.int .i64)) .unit)))))))) .unit))))) x0, .fn 169 [.bp [.str x1_0_0] 0], .undef, .undef, .undef, .undef, .undef, .int .i64 x7, .int .i64 x8, .undef, .undef, .undef, .undef, .undef, .undef, .undef, .undef, .undef, .undef], []⟩ (leave (E_slices_IndexFunc_impl_Unit__impl_unitAt_1 k) Try.f168 (fin1 (.int .i64)))
theorem slices_IndexFunc_impl_Unit__impl_unitAt_1.l2_0 (k : Nat) (x0 : List (ByteArray × Int × Int × (List (Int × Int × Int × Int × Int × ByteArray × (List Int) × Unit)) × Unit)) (x1_0_0 : ByteArray) (x7 : Int) (x8 : Int) : slices_IndexFunc_impl_Unit__impl_unitAt_1.l2 k 0 x0 x1_0_0 x7 x8 = none := by kernel_rfl
theorem slices_IndexFunc_impl_Unit__impl_unitAt_1.l2_s (k n : Nat) (x0 : List (ByteArray × Int × Int × (List (Int × Int × Int × Int × Int × ByteArray × (List Int) × Unit)) × Unit)) (x1_0_0 : ByteArray) (x7 : Int) (x8 : Int) : slices_IndexFunc_impl_Unit__impl_unitAt_1.l2 k (n + 1) x0 x1_0_0 x7 x8 =
  iteB (decide (x8 < x7)) (iteB (decide (0 ≤ x8)) (iteB (decide (x8 < ((List.length x0) : Int))) (bindO (impl_unitAt_1_vbp k (List.getD x0 (Int.toNat x8) (Ty.dflt (.pair .str (.pair (.int .i64) (.pair (.int .i64) (.pair (.row (.pair (.int .i64) (.pair (.int .i64) (.pair (.int .i64) (.pair (.int .i64) (.pair (.int .i64) (.pair .str (.pair (.row (.int .i64)) .unit)))))))) .unit)))))) x1_0_0) fun r1 => (iteB r1 (some x8) (slices_IndexFunc_impl_Unit__impl_unitAt_1.l2 k n x0 x1_0_0 x7 (IntKind.wrap .i64 (x8 + 1))))) (none)) (none)) (some (-1)) := by kernel_rfl
theorem slices_IndexFunc_impl_Unit__impl_unitAt_1_e (k : Nat) (a1 : List (ByteArray × Int × Int × (List (Int × Int × Int × Int × Int × ByteArray × (List Int) × Unit)) × Unit)) (a2 : ByteArray) : slices_IndexFunc_impl_Unit__impl_unitAt_1 k a1 a2 =
  slices_IndexFunc_impl_Unit__impl_unitAt_1.l2 k k a1 a2 ((List.length a1) : Int) 0 := by kernel_rfl
theorem E_slices_IndexFunc_impl_Unit__impl_unitAt_1_calls (k : Nat) : CallsOk Try.prog (E_slices_IndexFunc_impl_Unit__impl_unitAt_1 k) (arun Try.prog (E_slices_IndexFunc_impl_Unit__impl_unitAt_1 k) k) := by
  refine told_run (tyTOk _ _) ?_ (fun run h => regOk (tyTOk _ _) mixOk h) ?_ nameOk k
  · intro g m hg
    simp only [E_slices_IndexFunc_impl_Unit__impl_unitAt_1] at hg
    split at hg
    · cases hg
      refine con_byVal fun ρ l K x hm => ?_
      split at hm
      · obtain ⟨c1, h1, hm⟩ := Option.bind_eq_some_iff.1 hm
        obtain ⟨c2, h2, hm⟩ := Option.bind_eq_some_iff.1 hm
        obtain ⟨r, hr, hm⟩ := Option.bind_eq_some_iff.1 hm
        exact ⟨_, hm, LawV.reads (.cons (.as h1) (.cons (.bp (.cons (.as h2) .nil)) .nil)) (impl_unitAt_1_vbp_law k c1 c2 r hr)⟩
      · cases hm
    · cases hg; exact noCon_ok
    · cases hg
  · intro g hg r
    by_cases h : g = 168
    · subst h; simp [E_slices_IndexFunc_impl_Unit__impl_unitAt_1] at hg
    · simp [E_slices_IndexFunc_impl_Unit__impl_unitAt_1, h]
theorem f168_okslices_IndexFunc_impl_Unit__impl_unitAt_1 : Try.prog.funcs[168]? = some Try.f168 := by kernel_rfl
theorem slices_IndexFunc_impl_Unit__impl_unitAt_1_law (k : Nat) (a1 : List (ByteArray × Int × Int × (List (Int × Int × Int × Int × Int × ByteArray × (List Int) × Unit)) × Unit)) (a2 : ByteArray) (x : Int) (h : slices_IndexFunc_impl_Unit__impl_unitAt_1 k a1 a2 = some x) : LawV Try.prog 168 [.tv (.row (.pair .str (.pair (.int .i64) (.pair (.int .i64) (.pair (.row (.pair (.int .i64) (.pair (.int .i64) (.pair (.int .i64) (.pair (.int .i64) (.pair (.int .i64) (.pair .str (.pair (.row (.int .i64)) .unit)))))))) .unit))))) a1, .fn 169 [.bp [.str a2] 0]] (tvn (.int .i64) x) := by
  unfold slices_IndexFunc_impl_Unit__impl_unitAt_1 at h
  exact law1 (t := (.int .i64)) (tyTOk _ _) (E_slices_IndexFunc_impl_Unit__impl_unitAt_1_calls k) mixOk f168_okslices_IndexFunc_impl_Unit__impl_unitAt_1 (nameOk _ _ f168_okslices_IndexFunc_impl_Unit__impl_unitAt_1) (by kernel_rfl) h
/-! impl.unitAt -/
noncomputable def E_impl_unitAt (k : Nat) : Env := ⟨ty, fun g => match g with
  | 168 => some (byVal fun ρ l K => match l with
    | [b1, .fn 169 [.bp [b2] 0]] => (b1.as (.row (.pair .str (.pair (.int .i64) (.pair (.int .i64) (.pair (.row (.pair (.int .i64) (.pair (.int .i64) (.pair (.int .i64) (.pair (.int .i64) (.pair (.int .i64) (.pair .str (.pair (.row (.int .i64)) .unit)))))))) .unit)))))).bind fun c1 => (b2.as .str).bind fun c2 => (slices_IndexFunc_impl_Unit__impl_unitAt_1 k c1 c2).bind fun r => K (tvn (.int .i64) r)
    | _ => none)
  | _ => none, fun _ _ => none⟩
noncomputable def impl_unitAt (k : Nat) (a1 : List (ByteArray × Int × Int × (List (Int × Int × Int × Int × Int × ByteArray × (List Int) × Unit)) × Unit)) (a2 : ByteArray) : Option (Int) :=
  abody (E_impl_unitAt k) (arun Try.prog (E_impl_unitAt k) k) k 102 Try.f102 [.tv (.row (.pair .str (.pair (.int .i64) (.pair (.int .i64) (.pair (.row (.pair (.int .i64) (.pair (.int .i64) (.pair (.int .i64) (.pair (.int .i64) (.pair (.int .i64) (.pair .str (.pair (.row (.int .i64)) .unit)))))))) .unit))))) a1, .str a2] [] (fin1 (.int .i64))
theorem impl_unitAt_e (k : Nat) (a1 : List (ByteArray × Int × Int × (List (Int × Int × Int × Int × Int × ByteArray × (List Int) × Unit)) × Unit)) (a2 : ByteArray) : impl_unitAt k a1 a2 =
  bindO (slices_IndexFunc_impl_Unit__impl_unitAt_1 k a1 a2) fun r1 => (some r1) := by kernel_rfl
theorem E_impl_unitAt_calls (k : Nat) : CallsOk Try.prog (E_impl_unitAt k) (arun Try.prog (E_impl_unitAt k) k) := by
  refine told_run (tyTOk _ _) ?_ (fun run h => regOk (tyTOk _ _) mixOk h) ?_ nameOk k
  · intro g m hg
    simp only [E_impl_unitAt] at hg
    split at hg
    · cases hg
      refine con_byVal fun ρ l K x hm => ?_
      split at hm
      · obtain ⟨c1, h1, hm⟩ := Option.bind_eq_some_iff.1 hm
        obtain ⟨c2, h2, hm⟩ := Option.bind_eq_some_iff.1 hm
        obtain ⟨r, hr, hm⟩ := Option.bind_eq_some_iff.1 hm
        exact ⟨_, hm, LawV.reads (.cons (.as h1) (.cons (.fn (.cons (.bp (.cons (.as h2) .nil)) .nil)) .nil)) (slices_IndexFunc_impl_Unit__impl_unitAt_1_law k c1 c2 r hr)⟩
      · cases hm
    · cases hg
  · intro g _ r; rfl
theorem f102_okimpl_unitAt : Try.prog.funcs[102]? = some Try.f102 := by kernel_rfl
theorem impl_unitAt_law (k : Nat) (a1 : List (ByteArray × Int × Int × (List (Int × Int × Int × Int × Int × ByteArray × (List Int) × Unit)) × Unit)) (a2 : ByteArray) (x : Int) (h : impl_unitAt k a1 a2 = some x) : LawV Try.prog 102 [.tv (.row (.pair .str (.pair (.int .i64) (.pair (.int .i64) (.pair (.row (.pair (.int .i64) (.pair (.int .i64) (.pair (.int .i64) (.pair (.int .i64) (.pair (.int .i64) (.pair .str (.pair (.row (.int .i64)) .unit)))))))) .unit))))) a1, .str a2] (tvn (.int .i64) x) := by
  unfold impl_unitAt at h
  exact law1 (t := (.int .i64)) (tyTOk _ _) (E_impl_unitAt_calls k) mixOk f102_okimpl_unitAt (nameOk _ _ f102_okimpl_unitAt) (by kernel_rfl) h
end Go.Proofs.Ytapijpjgfpjahaa.XFnExactUnitsOk
