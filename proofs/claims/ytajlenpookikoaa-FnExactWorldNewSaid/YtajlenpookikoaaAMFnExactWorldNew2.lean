/- Functions of the program as runs of the interpreter: equations, and a law for each. -/
import Derived.Test.YtajlenpookikoaaProg
import Derived.Test.YtajlenpookikoaaChecked
import Derived.KernelRfl
import Derived.Eval
import Derived.Test.YtajlenpookikoaaATyOk
import Derived.Test.YtajlenpookikoaaAS38
import Derived.Test.YtajlenpookikoaaAS41
import Derived.Test.YtajlenpookikoaaAMFnExactWorldNew0
import Derived.Test.YtajlenpookikoaaAMFnExactWorldNew1
open Go Go.AM Go.AMx Go.Proofs
namespace Go.Proofs.Ytajlenpookikoaa.XFnExactWorldNew
set_option linter.unusedVariables false
set_option linter.unusedSimpArgs false
/-! spec.WorldNew -/
noncomputable def E_spec_WorldNew (k : Nat) : Env := ⟨tyD, fun g => match g with
  | 14 => some (byVal fun ρ l K => match l with
    | [b1, b2] => (b1.as (.row tA5)).bind fun c1 => (b2.as .str).bind fun c2 => (spec_l10Unit k c1 c2).bind fun r => K (tvn (.int .i64) r)
    | _ => none)
  | 15 => some (byVal fun ρ l K => match l with
    | [b1] => (b1.as (.row tA5)).bind fun c1 => (spec_UnitsOk k c1).bind fun r => K (tvn .bool r)
    | _ => none)
  | 16 => some (byNew (.row tA5) fun ρ l K => match l with
    | [b1] => (b1.as (.row tA5)).bind fun c1 => (spec_l10Units k c1).bind fun r => K r
    | _ => none)
  | 17 => some (byNew tA2 fun ρ l K => match l with
    | [b1, b2, b3] => (b1.as (.pair (.row tA5) (.pair (.row tA2) (.pair (.row tA3) (.pair (.row (.int .i64)) (.pair .bool (.pair (.int .i64) .unit))))))).bind fun c1 => (b2.as (.int .i64)).bind fun c2 => (b3.as (.row (.int .i64))).bind fun c3 => (spec_l13New k c1 c2 c3).bind fun r => K r
    | _ => none)
  | 5 => some noCon
  | _ => none, fun f r => match f with | 5 => (match r with | 4 => some [0, 2, 4] | _ => none) | _ => none⟩
noncomputable def spec_WorldNew (k : Nat) (a1 : List (ByteArray × Int × Int × (List (Int × Int × Int × Int × Int × ByteArray × (List Int) × Unit)) × Unit)) : Option (((List (ByteArray × Int × Int × (List (Int × Int × Int × Int × Int × ByteArray × (List Int) × Unit)) × Unit)) × (List ((List (Int × Int × (List Int) × Int × Unit)) × Bool × Bool × Int × Int × Int × Int × Int × Unit)) × (List (Int × Bool × (List Int) × (List (Int × Int × Int × Int × Unit)) × (List (Int × Int × Int × Int × Unit)) × Unit)) × (List Int) × Bool × Int × Unit) × Bool × Unit) :=
  abody (E_spec_WorldNew k) (arun Try.prog (E_spec_WorldNew k) k) k 5 Try.f5 [.tv (.row tA5) a1] [] (finDT (.pair (.pair (.row tA5) (.pair (.row tA2) (.pair (.row tA3) (.pair (.row (.int .i64)) (.pair .bool (.pair (.int .i64) .unit)))))) (.pair .bool .unit)))
noncomputable def spec_WorldNew.j4 (k : Nat) (x0 : List (ByteArray × Int × Int × (List (Int × Int × Int × Int × Int × ByteArray × (List Int) × Unit)) × Unit)) (x4 : Int) (y0_0_4 : Bool) (y0_0_5 : Int) : Option (((List (ByteArray × Int × Int × (List (Int × Int × Int × Int × Int × ByteArray × (List Int) × Unit)) × Unit)) × (List ((List (Int × Int × (List Int) × Int × Unit)) × Bool × Bool × Int × Int × Int × Int × Int × Unit)) × (List (Int × Bool × (List Int) × (List (Int × Int × Int × Int × Unit)) × (List (Int × Int × Int × Int × Unit)) × Unit)) × (List Int) × Bool × Int × Unit) × Bool × Unit) :=
  resume (E_spec_WorldNew k) 5 (acall (E_spec_WorldNew k) (arun Try.prog (E_spec_WorldNew k) k)) k [true, true, true] [] (bodyOf Try.f5) ⟨[.tv (.row tA5) x0, .undef, .ptr 0 0 0, .undef, .int .i64 x4, .undef, .undef, .undef, .undef, .undef, .undef, .undef, .undef, .undef, .undef, .undef, .undef, .undef, .undef, .undef, .undef, .undef, .undef, .undef, .undef, .undef, .undef, .undef, .undef, .undef, .undef, .undef, .undef], [some ⟨.raw true 6 (.agg [.nils, .nils, .nils, .nils, .bool false, .int .i64 0]) [.agg [.nils, .nils, .nils, .nils, .bool y0_0_4, .int .i64 y0_0_5]], true⟩]⟩ (leave (E_spec_WorldNew k) Try.f5 (finDT (.pair (.pair (.row tA5) (.pair (.row tA2) (.pair (.row tA3) (.pair (.row (.int .i64)) (.pair .bool (.pair (.int .i64) .unit)))))) (.pair .bool .unit))))
theorem spec_WorldNew.j4_e (k : Nat) (x0 : List (ByteArray × Int × Int × (List (Int × Int × Int × Int × Int × ByteArray × (List Int) × Unit)) × Unit)) (x4 : Int) (y0_0_4 : Bool) (y0_0_5 : Int) : spec_WorldNew.j4 k x0 x4 y0_0_4 y0_0_5 =
  bindO (spec_l10Units k x0) fun r3 => (bindO (spec_l13New k (r3, [], [], [], false, 0, ()) x4 []) fun r4 => (some ((r3, [(r4.1, r4.2.1, r4.2.2.1, r4.2.2.2.1, r4.2.2.2.2.1, r4.2.2.2.2.2.1, r4.2.2.2.2.2.2.1, r4.2.2.2.2.2.2.2.1, ())], [], [], false, 0, ()), true, ()))) := by kernel_rfl
theorem spec_WorldNew_e (k : Nat) (a1 : List (ByteArray × Int × Int × (List (Int × Int × Int × Int × Int × ByteArray × (List Int) × Unit)) × Unit)) : spec_WorldNew k a1 =
  bindO (spec_l10Unit k a1 (⟨#[109, 97, 105, 110]⟩ : ByteArray)) fun r1 => (bindO (spec_UnitsOk k a1) fun r2 => (iteB (!(!r2)) (iteB (!(decide (r1 < 0))) (iteB (decide (0 ≤ r1)) (iteB (decide (r1 < ((List.length a1) : Int))) (iteB (decide (((List.getD a1 (Int.toNat r1) (Ty.dflt tA5)).2).1 > 0)) (some (([], [], [], [], false, 0, ()), false, ())) (gate k (spec_WorldNew.j4 k a1 r1 false 0))) (none)) (none)) (some (([], [], [], [], false, 0, ()), false, ()))) (some (([], [], [], [], false, 0, ()), false, ())))) := by kernel_rfl
theorem E_spec_WorldNew_calls (k : Nat) : CallsOk Try.prog (E_spec_WorldNew k) (arun Try.prog (E_spec_WorldNew k) k) := by
  refine told_run (tyDTOk _ _) ?_ (fun run h => regOk (tyDTOk _ _) mixOk h) ?_ nameOk k
  · intro g m hg
    simp only [E_spec_WorldNew] at hg
    split at hg
    · cases hg
      refine con_byVal fun ρ l K x hm => ?_
      split at hm
      · obtain ⟨c1, h1, hm⟩ := Option.bind_eq_some_iff.1 hm
        obtain ⟨c2, h2, hm⟩ := Option.bind_eq_some_iff.1 hm
        obtain ⟨r, hr, hm⟩ := Option.bind_eq_some_iff.1 hm
        exact ⟨_, hm, LawV.reads (.cons (.as h1) (.cons (.as h2) .nil)) (spec_l10Unit_law k c1 c2 r hr)⟩
      · cases hm
    · cases hg
      refine con_byVal fun ρ l K x hm => ?_
      split at hm
      · obtain ⟨c1, h1, hm⟩ := Option.bind_eq_some_iff.1 hm
        obtain ⟨r, hr, hm⟩ := Option.bind_eq_some_iff.1 hm
        exact ⟨_, hm, LawV.reads (.cons (.as h1) .nil) (spec_UnitsOk_law k c1 r hr)⟩
      · cases hm
    · cases hg
      refine con_byNew fun ρ l K x hm => ?_
      split at hm
      · obtain ⟨c1, h1, hm⟩ := Option.bind_eq_some_iff.1 hm
        obtain ⟨r, hr, hm⟩ := Option.bind_eq_some_iff.1 hm
        exact ⟨_, hm, LawD.reads (.cons (.as h1) .nil) (spec_l10Units_law k c1 r hr)⟩
      · cases hm
    · cases hg
      refine con_byNew fun ρ l K x hm => ?_
      split at hm
      · obtain ⟨c1, h1, hm⟩ := Option.bind_eq_some_iff.1 hm
        obtain ⟨c2, h2, hm⟩ := Option.bind_eq_some_iff.1 hm
        obtain ⟨c3, h3, hm⟩ := Option.bind_eq_some_iff.1 hm
        obtain ⟨r, hr, hm⟩ := Option.bind_eq_some_iff.1 hm
        exact ⟨_, hm, LawD.reads (.cons (.as h1) (.cons (.as h2) (.cons (.as h3) .nil))) (spec_l13New_law k c1 c2 c3 r hr)⟩
      · cases hm
    · cases hg; exact noCon_ok
    · cases hg
  · intro g hg r
    by_cases h : g = 5
    · subst h; simp [E_spec_WorldNew] at hg
    · simp [E_spec_WorldNew, h]
theorem f5_okspec_WorldNew : Try.prog.funcs[5]? = some Try.f5 := by kernel_rfl
theorem spec_WorldNew_law (k : Nat) (a1 : List (ByteArray × Int × Int × (List (Int × Int × Int × Int × Int × ByteArray × (List Int) × Unit)) × Unit)) (x : ((List (ByteArray × Int × Int × (List (Int × Int × Int × Int × Int × ByteArray × (List Int) × Unit)) × Unit)) × (List ((List (Int × Int × (List Int) × Int × Unit)) × Bool × Bool × Int × Int × Int × Int × Int × Unit)) × (List (Int × Bool × (List Int) × (List (Int × Int × Int × Int × Unit)) × (List (Int × Int × Int × Int × Unit)) × Unit)) × (List Int) × Bool × Int × Unit) × Bool × Unit) (h : spec_WorldNew k a1 = some x) : LawDT Try.prog 5 [.tv (.row tA5) a1] (.pair (.pair (.row tA5) (.pair (.row tA2) (.pair (.row tA3) (.pair (.row (.int .i64)) (.pair .bool (.pair (.int .i64) .unit)))))) (.pair .bool .unit)) x := by
  unfold spec_WorldNew at h
  exact lawDT (t := (.pair (.pair (.row tA5) (.pair (.row tA2) (.pair (.row tA3) (.pair (.row (.int .i64)) (.pair .bool (.pair (.int .i64) .unit)))))) (.pair .bool .unit))) (tyDTOk _ _) (E_spec_WorldNew_calls k) mixOk f5_okspec_WorldNew (nameOk _ _ f5_okspec_WorldNew) (by kernel_rfl) h
/-! impl.unitAt$1 -/
noncomputable def E_impl_unitAt_1_vbp (k : Nat) : Env := ⟨ty, fun _ => none, fun _ _ => none⟩
noncomputable def impl_unitAt_1_vbp (k : Nat) (a1 : ByteArray × Int × Int × (List (Int × Int × Int × Int × Int × ByteArray × (List Int) × Unit)) × Unit) (a2 : ByteArray) : Option (Bool) :=
  abody (E_impl_unitAt_1_vbp k) (arun Try.prog (E_impl_unitAt_1_vbp k) k) k 41 Try.f41 [.tv tA5 a1, .bp [.str a2] 0] [] (fin1 .bool)
theorem impl_unitAt_1_vbp_e (k : Nat) (a1 : ByteArray × Int × Int × (List (Int × Int × Int × Int × Int × ByteArray × (List Int) × Unit)) × Unit) (a2 : ByteArray) : impl_unitAt_1_vbp k a1 a2 =
  some (ByteArray.toList a1.1 == ByteArray.toList a2) := by kernel_rfl
theorem E_impl_unitAt_1_vbp_calls (k : Nat) : CallsOk Try.prog (E_impl_unitAt_1_vbp k) (arun Try.prog (E_impl_unitAt_1_vbp k) k) := by
  refine told_run (tyTOk _ _) ?_ (fun run h => regOk (tyTOk _ _) mixOk h) ?_ nameOk k
  · intro g m hg
    cases hg
  · intro g _ r; rfl
theorem f41_okimpl_unitAt_1_vbp : Try.prog.funcs[41]? = some Try.f41 := by kernel_rfl
theorem impl_unitAt_1_vbp_law (k : Nat) (a1 : ByteArray × Int × Int × (List (Int × Int × Int × Int × Int × ByteArray × (List Int) × Unit)) × Unit) (a2 : ByteArray) (x : Bool) (h : impl_unitAt_1_vbp k a1 a2 = some x) : LawV Try.prog 41 [.tv tA5 a1, .bp [.str a2] 0] (tvn .bool x) := by
  unfold impl_unitAt_1_vbp at h
  exact law1 (t := .bool) (tyTOk _ _) (E_impl_unitAt_1_vbp_calls k) mixOk f41_okimpl_unitAt_1_vbp (nameOk _ _ f41_okimpl_unitAt_1_vbp) (by kernel_rfl) h
/-! slices.IndexFunc[[]impl.Unit,impl.Unit] -/
noncomputable def E_slices_IndexFunc_impl_Unit__impl_unitAt_1 (k : Nat) : Env := ⟨ty, fun g => match g with
  | 41 => some (byVal fun ρ l K => match l with
    | [b1, .bp [b2] 0] => (b1.as tA5).bind fun c1 => (b2.as .str).bind fun c2 => (impl_unitAt_1_vbp k c1 c2).bind fun r => K (tvn .bool r)
    | _ => none)
  | 40 => some noCon
  | _ => none, fun f r => match f with | 40 => (match r with | 2 => some [0, 1, 7, 8] | _ => none) | _ => none⟩
noncomputable def slices_IndexFunc_impl_Unit__impl_unitAt_1 (k : Nat) (a1 : List (ByteArray × Int × Int × (List (Int × Int × Int × Int × Int × ByteArray × (List Int) × Unit)) × Unit)) (a2 : ByteArray) : Option (Int) :=
  abody (E_slices_IndexFunc_impl_Unit__impl_unitAt_1 k) (arun Try.prog (E_slices_IndexFunc_impl_Unit__impl_unitAt_1 k) k) k 40 Try.f40 [.tv (.row tA5) a1, .fn 41 [.bp [.str a2] 0]] [] (fin1 (.int .i64))
noncomputable def slices_IndexFunc_impl_Unit__impl_unitAt_1.l2 (k n : Nat) (x0 : List (ByteArray × Int × Int × (List (Int × Int × Int × Int × Int × ByteArray × (List Int) × Unit)) × Unit)) (x1_0_0 : ByteArray) (x7 : Int) (x8 : Int) : Option (Int) :=
  resume (E_slices_IndexFunc_impl_Unit__impl_unitAt_1 k) 40 (acall (E_slices_IndexFunc_impl_Unit__impl_unitAt_1 k) (arun Try.prog (E_slices_IndexFunc_impl_Unit__impl_unitAt_1 k) k)) k [true, false, true, true] [n] (bodyOf Try.f40) ⟨[.tv (.row tA5) x0, .fn 41 [.bp [.str x1_0_0] 0], .undef, .undef, .undef, .undef, .undef, .int .i64 x7, .int .i64 x8, .undef, .undef, .undef, .undef, .undef, .undef, .undef, .undef, .undef, .undef], []⟩ (leave (E_slices_IndexFunc_impl_Unit__impl_unitAt_1 k) Try.f40 (fin1 (.int .i64)))
theorem slices_IndexFunc_impl_Unit__impl_unitAt_1.l2_0 (k : Nat) (x0 : List (ByteArray × Int × Int × (List (Int × Int × Int × Int × Int × ByteArray × (List Int) × Unit)) × Unit)) (x1_0_0 : ByteArray) (x7 : Int) (x8 : Int) : slices_IndexFunc_impl_Unit__impl_unitAt_1.l2 k 0 x0 x1_0_0 x7 x8 = none := by kernel_rfl
theorem slices_IndexFunc_impl_Unit__impl_unitAt_1.l2_s (k n : Nat) (x0 : List (ByteArray × Int × Int × (List (Int × Int × Int × Int × Int × ByteArray × (List Int) × Unit)) × Unit)) (x1_0_0 : ByteArray) (x7 : Int) (x8 : Int) : slices_IndexFunc_impl_Unit__impl_unitAt_1.l2 k (n + 1) x0 x1_0_0 x7 x8 =
  iteB (decide (x8 < x7)) (iteB (decide (0 ≤ x8)) (iteB (decide (x8 < ((List.length x0) : Int))) (bindO (impl_unitAt_1_vbp k (List.getD x0 (Int.toNat x8) (Ty.dflt tA5)) x1_0_0) fun r1 => (iteB r1 (some x8) (slices_IndexFunc_impl_Unit__impl_unitAt_1.l2 k n x0 x1_0_0 x7 (IntKind.wrap .i64 (x8 + 1))))) (none)) (none)) (some (-1)) := by kernel_rfl
theorem slices_IndexFunc_impl_Unit__impl_unitAt_1_e (k : Nat) (a1 : List (ByteArray × Int × Int × (List (Int × Int × Int × Int × Int × ByteArray × (List Int) × Unit)) × Unit)) (a2 : ByteArray) : slices_IndexFunc_impl_Unit__impl_unitAt_1 k a1 a2 =
  slices_IndexFunc_impl_Unit__impl_unitAt_1.l2 k k a1 a2 ((List.length a1) : Int) 0 := by kernel_rfl
theorem E_slices_IndexFunc_impl_Unit__impl_unitAt_1_calls (k : Nat) : CallsOk Try.prog (E_slices_IndexFunc_impl_Unit__impl_unitAt_1 k) (arun Try.prog (E_slices_IndexFunc_impl_Unit__impl_unitAt_1 k) k) := by
  refine told_run (tyTOk _ _) ?_ (fun run h => regOk (tyTOk _ _) mixOk h) ?_ nameOk k
  · intro g m hg
    simp only [E_slices_IndexFunc_impl_Unit__impl_unitAt_1] at hg
    split at hg
    · cases hg
      refine con_byVal fun ρ l K x hm => ?_
      split at hm
      · obtain ⟨c1, h1, hm⟩ := Option.bind_eq_some_iff.1 hm
        obtain ⟨c2, h2, hm⟩ := Option.bind_eq_some_iff.1 hm
        obtain ⟨r, hr, hm⟩ := Option.bind_eq_some_iff.1 hm
        exact ⟨_, hm, LawV.reads (.cons (.as h1) (.cons (.bp (.cons (.as h2) .nil)) .nil)) (impl_unitAt_1_vbp_law k c1 c2 r hr)⟩
      · cases hm
    · cases hg; exact noCon_ok
    · cases hg
  · intro g hg r
    by_cases h : g = 40
    · subst h; simp [E_slices_IndexFunc_impl_Unit__impl_unitAt_1] at hg
    · simp [E_slices_IndexFunc_impl_Unit__impl_unitAt_1, h]
theorem f40_okslices_IndexFunc_impl_Unit__impl_unitAt_1 : Try.prog.funcs[40]? = some Try.f40 := by kernel_rfl
theorem slices_IndexFunc_impl_Unit__impl_unitAt_1_law (k : Nat) (a1 : List (ByteArray × Int × Int × (List (Int × Int × Int × Int × Int × ByteArray × (List Int) × Unit)) × Unit)) (a2 : ByteArray) (x : Int) (h : slices_IndexFunc_impl_Unit__impl_unitAt_1 k a1 a2 = some x) : LawV Try.prog 40 [.tv (.row tA5) a1, .fn 41 [.bp [.str a2] 0]] (tvn (.int .i64) x) := by
  unfold slices_IndexFunc_impl_Unit__impl_unitAt_1 at h
  exact law1 (t := (.int .i64)) (tyTOk _ _) (E_slices_IndexFunc_impl_Unit__impl_unitAt_1_calls k) mixOk f40_okslices_IndexFunc_impl_Unit__impl_unitAt_1 (nameOk _ _ f40_okslices_IndexFunc_impl_Unit__impl_unitAt_1) (by kernel_rfl) h
/-! impl.unitAt -/
noncomputable def E_impl_unitAt (k : Nat) : Env := ⟨ty, fun g => match g with
  | 40 => some (byVal fun ρ l K => match l with
    | [b1, .fn 41 [.bp [b2] 0]] => (b1.as (.row tA5)).bind fun c1 => (b2.as .str).bind fun c2 => (slices_IndexFunc_impl_Unit__impl_unitAt_1 k c1 c2).bind fun r => K (tvn (.int .i64) r)
    | _ => none)
  | _ => none, fun _ _ => none⟩
noncomputable def impl_unitAt (k : Nat) (a1 : List (ByteArray × Int × Int × (List (Int × Int × Int × Int × Int × ByteArray × (List Int) × Unit)) × Unit)) (a2 : ByteArray) : Option (Int) :=
  abody (E_impl_unitAt k) (arun Try.prog (E_impl_unitAt k) k) k 19 Try.f19 [.tv (.row tA5) a1, .str a2] [] (fin1 (.int .i64))
theorem impl_unitAt_e (k : Nat) (a1 : List (ByteArray × Int × Int × (List (Int × Int × Int × Int × Int × ByteArray × (List Int) × Unit)) × Unit)) (a2 : ByteArray) : impl_unitAt k a1 a2 =
  bindO (slices_IndexFunc_impl_Unit__impl_unitAt_1 k a1 a2) fun r1 => (some r1) := by kernel_rfl
theorem E_impl_unitAt_calls (k : Nat) : CallsOk Try.prog (E_impl_unitAt k) (arun Try.prog (E_impl_unitAt k) k) := by
  refine told_run (tyTOk _ _) ?_ (fun run h => regOk (tyTOk _ _) mixOk h) ?_ nameOk k
  · intro g m hg
    simp only [E_impl_unitAt] at hg
    split at hg
    · cases hg
      refine con_byVal fun ρ l K x hm => ?_
      split at hm
      · obtain ⟨c1, h1, hm⟩ := Option.bind_eq_some_iff.1 hm
        obtain ⟨c2, h2, hm⟩ := Option.bind_eq_some_iff.1 hm
        obtain ⟨r, hr, hm⟩ := Option.bind_eq_some_iff.1 hm
        exact ⟨_, hm, LawV.reads (.cons (.as h1) (.cons (.fn (.cons (.bp (.cons (.as h2) .nil)) .nil)) .nil)) (slices_IndexFunc_impl_Unit__impl_unitAt_1_law k c1 c2 r hr)⟩
      · cases hm
    · cases hg
  · intro g _ r; rfl
theorem f19_okimpl_unitAt : Try.prog.funcs[19]? = some Try.f19 := by kernel_rfl
theorem impl_unitAt_law (k : Nat) (a1 : List (ByteArray × Int × Int × (List (Int × Int × Int × Int × Int × ByteArray × (List Int) × Unit)) × Unit)) (a2 : ByteArray) (x : Int) (h : impl_unitAt k a1 a2 = some x) : LawV Try.prog 19 [.tv (.row tA5) a1, .str a2] (tvn (.int .i64) x) := by
  unfold impl_unitAt at h
  exact law1 (t := (.int .i64)) (tyTOk _ _) (E_impl_unitAt_calls k) mixOk f19_okimpl_unitAt (nameOk _ _ f19_okimpl_unitAt) (by kernel_rfl) h
/-! impl.within -/
noncomputable def E_impl_within (k : Nat) : Env := ⟨ty, fun _ => none, fun _ _ => none⟩
noncomputable def impl_within (k : Nat) (a1 : Int) (a2 : Int) (a3 : Int) : Option (Bool) :=
  abody (E_impl_within k) (arun Try.prog (E_impl_within k) k) k 60 Try.f60 [.int .i64 a1, .int .i64 a2, .int .i64 a3] [] (fin1 .bool)
theorem impl_within_e (k : Nat) (a1 : Int) (a2 : Int) (a3 : Int) : impl_within k a1 a2 a3 =
  iteB (decide (a1 ≥ a2)) (some (decide (a1 ≤ a3))) (some false) := by kernel_rfl
theorem E_impl_within_calls (k : Nat) : CallsOk Try.prog (E_impl_within k) (arun Try.prog (E_impl_within k) k) := by
  refine told_run (tyTOk _ _) ?_ (fun run h => regOk (tyTOk _ _) mixOk h) ?_ nameOk k
  · intro g m hg
    cases hg
  · intro g _ r; rfl
theorem f60_okimpl_within : Try.prog.funcs[60]? = some Try.f60 := by kernel_rfl
theorem impl_within_law (k : Nat) (a1 : Int) (a2 : Int) (a3 : Int) (x : Bool) (h : impl_within k a1 a2 a3 = some x) : LawV Try.prog 60 [.int .i64 a1, .int .i64 a2, .int .i64 a3] (tvn .bool x) := by
  unfold impl_within at h
  exact law1 (t := .bool) (tyTOk _ _) (E_impl_within_calls k) mixOk f60_okimpl_within (nameOk _ _ f60_okimpl_within) (by kernel_rfl) h
/-! impl.owns -/
noncomputable def E_impl_owns (k : Nat) : Env := ⟨ty, fun _ => none, fun _ _ => none⟩
noncomputable def impl_owns (k : Nat) (a1 : Int) : Option (ByteArray) :=
  abody (E_impl_owns k) (arun Try.prog (E_impl_owns k) k) k 65 Try.f65 [.int .i64 a1] [] (fin1 .str)
theorem impl_owns_e (k : Nat) (a1 : Int) : impl_owns k a1 =
  iteB (a1 == 1) (some (⟨#[68, 78]⟩ : ByteArray)) (iteB (a1 == 2) (some (⟨#[68, 65]⟩ : ByteArray)) (iteB (a1 == 15) (some (⟨#[68, 65]⟩ : ByteArray)) (iteB (a1 == 17) (some (⟨#[68, 65]⟩ : ByteArray)) (iteB (a1 == 20) (some (⟨#[68, 65]⟩ : ByteArray)) (iteB (a1 == 3) (some (⟨#[68, 65, 66]⟩ : ByteArray)) (iteB (a1 == 4) (some (⟨#[68, 65, 66]⟩ : ByteArray)) (iteB (a1 == 5) (some (⟨#[68, 65, 66]⟩ : ByteArray)) (iteB (a1 == 6) (some (⟨#[68, 65, 66]⟩ : ByteArray)) (iteB (a1 == 7) (some (⟨#[68, 65, 66]⟩ : ByteArray)) (iteB (a1 == 8) (some (⟨#[78]⟩ : ByteArray)) (iteB (a1 == 9) (some (⟨#[78]⟩ : ByteArray)) (iteB (a1 == 10) (some (⟨#[65, 78]⟩ : ByteArray)) (iteB (a1 == 11) (some (⟨#[68, 83, 88]⟩ : ByteArray)) (iteB (a1 == 12) (some (⟨#[65]⟩ : ByteArray)) (iteB (a1 == 13) (some (⟨#[65]⟩ : ByteArray)) (iteB (a1 == 18) (some (⟨#[65]⟩ : ByteArray)) (iteB (a1 == 25) (some (⟨#[65]⟩ : ByteArray)) (iteB (a1 == 28) (some (⟨#[65]⟩ : ByteArray)) (iteB (a1 == 14) (some (⟨#[83, 88]⟩ : ByteArray)) (iteB (a1 == 16) (some (⟨#[65, 66]⟩ : ByteArray)) (iteB (a1 == 21) (some (⟨#[65, 66]⟩ : ByteArray)) (iteB (a1 == 26) (some (⟨#[65, 66]⟩ : ByteArray)) (iteB (a1 == 27) (some (⟨#[65, 66]⟩ : ByteArray)) (iteB (a1 == 19) (some (⟨#[68, 66, 78, 88]⟩ : ByteArray)) (iteB (a1 == 22) (some (⟨#[68, 65, 66, 88]⟩ : ByteArray)) (iteB (a1 == 23) (some (⟨#[68]⟩ : ByteArray)) (iteB (a1 == 24) (some (⟨#[68, 83]⟩ : ByteArray)) (some (⟨#[]⟩ : ByteArray))))))))))))))))))))))))))))) := by kernel_rfl
theorem E_impl_owns_calls (k : Nat) : CallsOk Try.prog (E_impl_owns k) (arun Try.prog (E_impl_owns k) k) := by
  refine told_run (tyTOk _ _) ?_ (fun run h => regOk (tyTOk _ _) mixOk h) ?_ nameOk k
  · intro g m hg
    cases hg
  · intro g _ r; rfl
theorem f65_okimpl_owns : Try.prog.funcs[65]? = some Try.f65 := by kernel_rfl
theorem impl_owns_law (k : Nat) (a1 : Int) (x : ByteArray) (h : impl_owns k a1 = some x) : LawV Try.prog 65 [.int .i64 a1] (tvn .str x) := by
  unfold impl_owns at h
  exact law1 (t := .str) (tyTOk _ _) (E_impl_owns_calls k) mixOk f65_okimpl_owns (nameOk _ _ f65_okimpl_owns) (by kernel_rfl) h
/-! impl.WordOk -/
noncomputable def E_impl_WordOk (k : Nat) : Env := ⟨ty, fun g => match g with
  | 60 => some (byVal fun ρ l K => match l with
    | [b1, b2, b3] => (b1.as (.int .i64)).bind fun c1 => (b2.as (.int .i64)).bind fun c2 => (b3.as (.int .i64)).bind fun c3 => (impl_within k c1 c2 c3).bind fun r => K (tvn .bool r)
    | _ => none)
  | _ => none, fun _ _ => none⟩
noncomputable def impl_WordOk (k : Nat) (a1 : Int) : Option (Bool) :=
  abody (E_impl_WordOk k) (arun Try.prog (E_impl_WordOk k) k) k 77 Try.f77 [.int .i64 a1] [] (fin1 .bool)
theorem impl_WordOk_e (k : Nat) (a1 : Int) : impl_WordOk k a1 =
  bindO (impl_within k a1 (-2147483648) 2147483647) fun r1 => (some r1) := by kernel_rfl
theorem E_impl_WordOk_calls (k : Nat) : CallsOk Try.prog (E_impl_WordOk k) (arun Try.prog (E_impl_WordOk k) k) := by
  refine told_run (tyTOk _ _) ?_ (fun run h => regOk (tyTOk _ _) mixOk h) ?_ nameOk k
  · intro g m hg
    simp only [E_impl_WordOk] at hg
    split at hg
    · cases hg
      refine con_byVal fun ρ l K x hm => ?_
      split at hm
      · obtain ⟨c1, h1, hm⟩ := Option.bind_eq_some_iff.1 hm
        obtain ⟨c2, h2, hm⟩ := Option.bind_eq_some_iff.1 hm
        obtain ⟨c3, h3, hm⟩ := Option.bind_eq_some_iff.1 hm
        obtain ⟨r, hr, hm⟩ := Option.bind_eq_some_iff.1 hm
        exact ⟨_, hm, LawV.reads (.cons (.as h1) (.cons (.as h2) (.cons (.as h3) .nil))) (impl_within_law k c1 c2 c3 r hr)⟩
      · cases hm
    · cases hg
  · intro g _ r; rfl
theorem f77_okimpl_WordOk : Try.prog.funcs[77]? = some Try.f77 := by kernel_rfl
theorem impl_WordOk_law (k : Nat) (a1 : Int) (x : Bool) (h : impl_WordOk k a1 = some x) : LawV Try.prog 77 [.int .i64 a1] (tvn .bool x) := by
  unfold impl_WordOk at h
  exact law1 (t := .bool) (tyTOk _ _) (E_impl_WordOk_calls k) mixOk f77_okimpl_WordOk (nameOk _ _ f77_okimpl_WordOk) (by kernel_rfl) h
/-! slices.Index[[]byte,byte] -/
noncomputable def E_slices_Index_byte (k : Nat) : Env := ⟨ty, fun g => match g with
  | 85 => some noCon
  | _ => none, fun f r => match f with | 85 => (match r with | 2 => some [0, 1, 7, 8] | _ => none) | _ => none⟩
noncomputable def slices_Index_byte (k : Nat) (a1 : List Int) (a2 : Int) : Option (Int) :=
  abody (E_slices_Index_byte k) (arun Try.prog (E_slices_Index_byte k) k) k 85 Try.f85 [.tv (.row (.int .u8)) a1, .int .u8 a2] [] (fin1 (.int .i64))
noncomputable def slices_Index_byte.l2 (k n : Nat) (x0 : List Int) (x1 : Int) (x7 : Int) (x8 : Int) : Option (Int) :=
  resume (E_slices_Index_byte k) 85 (acall (E_slices_Index_byte k) (arun Try.prog (E_slices_Index_byte k) k)) k [true, false, true, true] [n] (bodyOf Try.f85) ⟨[.tv (.row (.int .u8)) x0, .int .u8 x1, .undef, .undef, .undef, .undef, .undef, .int .i64 x7, .int .i64 x8, .undef, .undef, .undef, .undef, .undef, .undef, .undef, .undef, .undef, .undef], []⟩ (leave (E_slices_Index_byte k) Try.f85 (fin1 (.int .i64)))
theorem slices_Index_byte.l2_0 (k : Nat) (x0 : List Int) (x1 : Int) (x7 : Int) (x8 : Int) : slices_Index_byte.l2 k 0 x0 x1 x7 x8 = none := by kernel_rfl
theorem slices_Index_byte.l2_s (k n : Nat) (x0 : List Int) (x1 : Int) (x7 : Int) (x8 : Int) : slices_Index_byte.l2 k (n + 1) x0 x1 x7 x8 =
  iteB (decide (x8 < x7)) (iteB (decide (0 ≤ x8)) (iteB (decide (x8 < ((List.length x0) : Int))) (iteB (x1 == (List.getD x0 (Int.toNat x8) 0)) (some x8) (slices_Index_byte.l2 k n x0 x1 x7 (IntKind.wrap .i64 (x8 + 1)))) (none)) (none)) (some (-1)) := by kernel_rfl
theorem slices_Index_byte_e (k : Nat) (a1 : List Int) (a2 : Int) : slices_Index_byte k a1 a2 =
  slices_Index_byte.l2 k k a1 a2 ((List.length a1) : Int) 0 := by kernel_rfl
theorem E_slices_Index_byte_calls (k : Nat) : CallsOk Try.prog (E_slices_Index_byte k) (arun Try.prog (E_slices_Index_byte k) k) := by
  refine told_run (tyTOk _ _) ?_ (fun run h => regOk (tyTOk _ _) mixOk h) ?_ nameOk k
  · intro g m hg
    simp only [E_slices_Index_byte] at hg
    split at hg
    · cases hg; exact noCon_ok
    · cases hg
  · intro g hg r
    by_cases h : g = 85
    · subst h; simp [E_slices_Index_byte] at hg
    · simp [E_slices_Index_byte, h]
theorem f85_okslices_Index_byte : Try.prog.funcs[85]? = some Try.f85 := by kernel_rfl
theorem slices_Index_byte_law (k : Nat) (a1 : List Int) (a2 : Int) (x : Int) (h : slices_Index_byte k a1 a2 = some x) : LawV Try.prog 85 [.tv (.row (.int .u8)) a1, .int .u8 a2] (tvn (.int .i64) x) := by
  unfold slices_Index_byte at h
  exact law1 (t := (.int .i64)) (tyTOk _ _) (E_slices_Index_byte_calls k) mixOk f85_okslices_Index_byte (nameOk _ _ f85_okslices_Index_byte) (by kernel_rfl) h
/-! slices.Contains[[]byte,byte] -/
noncomputable def E_slices_Contains_byte (k : Nat) : Env := ⟨ty, fun g => match g with
  | 85 => some (byVal fun ρ l K => match l with
    | [b1, b2] => (b1.as (.row (.int .u8))).bind fun c1 => (b2.as (.int .u8)).bind fun c2 => (slices_Index_byte k c1 c2).bind fun r => K (tvn (.int .i64) r)
    | _ => none)
  | _ => none, fun _ _ => none⟩
noncomputable def slices_Contains_byte (k : Nat) (a1 : List Int) (a2 : Int) : Option (Bool) :=
  abody (E_slices_Contains_byte k) (arun Try.prog (E_slices_Contains_byte k) k) k 64 Try.f64 [.tv (.row (.int .u8)) a1, .int .u8 a2] [] (fin1 .bool)
theorem slices_Contains_byte_e (k : Nat) (a1 : List Int) (a2 : Int) : slices_Contains_byte k a1 a2 =
  bindO (slices_Index_byte k a1 a2) fun r1 => (some (decide (r1 ≥ 0))) := by kernel_rfl
theorem E_slices_Contains_byte_calls (k : Nat) : CallsOk Try.prog (E_slices_Contains_byte k) (arun Try.prog (E_slices_Contains_byte k) k) := by
  refine told_run (tyTOk _ _) ?_ (fun run h => regOk (tyTOk _ _) mixOk h) ?_ nameOk k
  · intro g m hg
    simp only [E_slices_Contains_byte] at hg
    split at hg
    · cases hg
      refine con_byVal fun ρ l K x hm => ?_
      split at hm
      · obtain ⟨c1, h1, hm⟩ := Option.bind_eq_some_iff.1 hm
        obtain ⟨c2, h2, hm⟩ := Option.bind_eq_some_iff.1 hm
        obtain ⟨r, hr, hm⟩ := Option.bind_eq_some_iff.1 hm
        exact ⟨_, hm, LawV.reads (.cons (.as h1) (.cons (.as h2) .nil)) (slices_Index_byte_law k c1 c2 r hr)⟩
      · cases hm
    · cases hg
  · intro g _ r; rfl
theorem f64_okslices_Contains_byte : Try.prog.funcs[64]? = some Try.f64 := by kernel_rfl
theorem slices_Contains_byte_law (k : Nat) (a1 : List Int) (a2 : Int) (x : Bool) (h : slices_Contains_byte k a1 a2 = some x) : LawV Try.prog 64 [.tv (.row (.int .u8)) a1, .int .u8 a2] (tvn .bool x) := by
  unfold slices_Contains_byte at h
  exact law1 (t := .bool) (tyTOk _ _) (E_slices_Contains_byte_calls k) mixOk f64_okslices_Contains_byte (nameOk _ _ f64_okslices_Contains_byte) (by kernel_rfl) h
/-! impl.owned -/
noncomputable def E_impl_owned (k : Nat) : Env := ⟨ty, fun g => match g with
  | 65 => some (byVal fun ρ l K => match l with
    | [b1] => (b1.as (.int .i64)).bind fun c1 => (impl_owns k c1).bind fun r => K (tvn .str r)
    | _ => none)
  | 64 => some (byVal fun ρ l K => match l with
    | [b1, b2] => (b1.as (.row (.int .u8))).bind fun c1 => (b2.as (.int .u8)).bind fun c2 => (slices_Contains_byte k c1 c2).bind fun r => K (tvn .bool r)
    | _ => none)
  | _ => none, fun _ _ => none⟩
noncomputable def impl_owned (k : Nat) (a1 : Int) (a2 : Int) : Option (Bool) :=
  abody (E_impl_owned k) (arun Try.prog (E_impl_owned k) k) k 43 Try.f43 [.int .i64 a1, .int .u8 a2] [] (fin1 .bool)
theorem impl_owned_e (k : Nat) (a1 : Int) (a2 : Int) : impl_owned k a1 a2 =
  bindO (impl_owns k a1) fun r1 => (bindO (slices_Contains_byte k (valBytes r1) a2) fun r2 => (some r2)) := by kernel_rfl
theorem E_impl_owned_calls (k : Nat) : CallsOk Try.prog (E_impl_owned k) (arun Try.prog (E_impl_owned k) k) := by
  refine told_run (tyTOk _ _) ?_ (fun run h => regOk (tyTOk _ _) mixOk h) ?_ nameOk k
  · intro g m hg
    simp only [E_impl_owned] at hg
    split at hg
    · cases hg
      refine con_byVal fun ρ l K x hm => ?_
      split at hm
      · obtain ⟨c1, h1, hm⟩ := Option.bind_eq_some_iff.1 hm
        obtain ⟨r, hr, hm⟩ := Option.bind_eq_some_iff.1 hm
        exact ⟨_, hm, LawV.reads (.cons (.as h1) .nil) (impl_owns_law k c1 r hr)⟩
      · cases hm
    · cases hg
      refine con_byVal fun ρ l K x hm => ?_
      split at hm
      · obtain ⟨c1, h1, hm⟩ := Option.bind_eq_some_iff.1 hm
        obtain ⟨c2, h2, hm⟩ := Option.bind_eq_some_iff.1 hm
        obtain ⟨r, hr, hm⟩ := Option.bind_eq_some_iff.1 hm
        exact ⟨_, hm, LawV.reads (.cons (.as h1) (.cons (.as h2) .nil)) (slices_Contains_byte_law k c1 c2 r hr)⟩
      · cases hm
    · cases hg
  · intro g _ r; rfl
theorem f43_okimpl_owned : Try.prog.funcs[43]? = some Try.f43 := by kernel_rfl
theorem impl_owned_law (k : Nat) (a1 : Int) (a2 : Int) (x : Bool) (h : impl_owned k a1 a2 = some x) : LawV Try.prog 43 [.int .i64 a1, .int .u8 a2] (tvn .bool x) := by
  unfold impl_owned at h
  exact law1 (t := .bool) (tyTOk _ _) (E_impl_owned_calls k) mixOk f43_okimpl_owned (nameOk _ _ f43_okimpl_owned) (by kernel_rfl) h
/-! impl.argsOk -/
noncomputable def E_impl_argsOk (k : Nat) : Env := ⟨ty, fun g => match g with
  | 43 => some (byVal fun ρ l K => match l with
    | [b1, b2] => (b1.as (.int .i64)).bind fun c1 => (b2.as (.int .u8)).bind fun c2 => (impl_owned k c1 c2).bind fun r => K (tvn .bool r)
    | _ => none)
  | 60 => some (byVal fun ρ l K => match l with
    | [b1, b2, b3] => (b1.as (.int .i64)).bind fun c1 => (b2.as (.int .i64)).bind fun c2 => (b3.as (.int .i64)).bind fun c3 => (impl_within k c1 c2 c3).bind fun r => K (tvn .bool r)
    | _ => none)
  | 78 => some noCon
  | _ => none, fun f r => match f with | 78 => (match r with | 3 => some [2, 5] | _ => none) | _ => none⟩
noncomputable def impl_argsOk (k : Nat) (a1 : Int × Int × Int × Int × Int × ByteArray × (List Int) × Unit) (a2 : Int) : Option (Bool) :=
  abody (E_impl_argsOk k) (arun Try.prog (E_impl_argsOk k) k) k 78 Try.f78 [.tv tA4 a1, .int .i64 a2] [] (fin1 .bool)
noncomputable def impl_argsOk.l3 (k n : Nat) (x5 : Int) (y0_0 : Int × Int × Int × Int × Int × ByteArray × (List Int) × Unit) : Option (Bool) :=
  resume (E_impl_argsOk k) 78 (acall (E_impl_argsOk k) (arun Try.prog (E_impl_argsOk k) k)) k [true, false, true, true, false, false, true, true] [n] (bodyOf Try.f78) ⟨[.undef, .undef, .ptr 0 0 0, .undef, .undef, .int .i64 x5, .undef, .undef, .undef, .undef, .undef, .undef, .undef, .undef, .undef, .undef, .undef, .undef, .undef, .undef, .undef, .undef, .undef, .undef, .undef, .undef, .undef, .undef, .undef, .undef, .undef, .undef, .undef, .undef, .undef, .undef, .undef, .undef, .undef, .undef, .undef, .undef, .undef, .undef, .undef, .undef, .undef, .undef, .undef, .undef, .undef, .undef, .undef, .undef, .undef, .undef, .undef, .undef, .undef, .undef, .undef, .undef, .undef, .undef, .undef, .undef, .undef, .undef, .undef, .undef, .undef, .undef, .undef, .undef, .undef, .undef, .undef, .undef, .undef], [some ⟨.raw true 7 (.agg [.int .i64 0, .int .i64 0, .int .i64 0, .int .i64 0, .int .i64 0, .str ByteArray.empty, .nils]) [.tv tA4 y0_0], true⟩]⟩ (leave (E_impl_argsOk k) Try.f78 (fin1 .bool))
theorem impl_argsOk.l3_0 (k : Nat) (x5 : Int) (y0_0 : Int × Int × Int × Int × Int × ByteArray × (List Int) × Unit) : impl_argsOk.l3 k 0 x5 y0_0 = none := by kernel_rfl
theorem impl_argsOk.l3_s (k n : Nat) (x5 : Int) (y0_0 : Int × Int × Int × Int × Int × ByteArray × (List Int) × Unit) : impl_argsOk.l3 k (n + 1) x5 y0_0 =
  iteB (decide (IntKind.wrap .i64 (x5 + 2) < ((List.length y0_0.2.2.2.2.2.2.1) : Int))) (iteB (decide (0 ≤ x5)) (iteB (decide (x5 < ((List.length y0_0.2.2.2.2.2.2.1) : Int))) (bindO (impl_within k (List.getD y0_0.2.2.2.2.2.2.1 (Int.toNat x5) 0) 1 2) fun r2 => (iteB (!(!r2)) (iteB (decide (0 ≤ x5)) (iteB (decide (x5 < ((List.length y0_0.2.2.2.2.2.2.1) : Int))) (iteB ((List.getD y0_0.2.2.2.2.2.2.1 (Int.toNat x5) 0) == 1) (iteB (decide (0 ≤ IntKind.wrap .i64 (x5 + 2))) (iteB (decide (IntKind.wrap .i64 (x5 + 2) < ((List.length y0_0.2.2.2.2.2.2.1) : Int))) (iteB ((List.getD y0_0.2.2.2.2.2.2.1 (Int.toNat (IntKind.wrap .i64 (x5 + 2))) 0) != 0) (some false) (impl_argsOk.l3 k n (IntKind.wrap .i64 (x5 + 3)) y0_0)) (none)) (none)) (impl_argsOk.l3 k n (IntKind.wrap .i64 (x5 + 3)) y0_0)) (none)) (none)) (some false))) (none)) (none)) (iteB ((Int.tmod ((List.length y0_0.2.2.2.2.2.2.1) : Int) 3) == 0) (bindO (impl_within k ((List.length y0_0.2.2.2.2.2.2.1) : Int) 3 9) fun r3 => (iteB r3 (bindO (impl_within k y0_0.2.2.2.2.1 0 1) fun r4 => (some r4)) (some false))) (some false)) := by kernel_rfl
theorem impl_argsOk_e (k : Nat) (a1 : Int × Int × Int × Int × Int × ByteArray × (List Int) × Unit) (a2 : Int) : impl_argsOk k a1 a2 =
  iteB (a1.1 == 19) (impl_argsOk.l3 k k 0 a1) (iteB (a1.1 == 22) (some (((List.length a1.2.2.2.2.2.2.1) : Int) == 1)) (bindO (impl_owned k a1.1 88) fun r1 => (iteB (!r1) (some (((List.length a1.2.2.2.2.2.2.1) : Int) == 0)) (some (decide (((List.length a1.2.2.2.2.2.2.1) : Int) ≤ 4)))))) := by kernel_rfl
theorem E_impl_argsOk_calls (k : Nat) : CallsOk Try.prog (E_impl_argsOk k) (arun Try.prog (E_impl_argsOk k) k) := by
  refine told_run (tyTOk _ _) ?_ (fun run h => regOk (tyTOk _ _) mixOk h) ?_ nameOk k
  · intro g m hg
    simp only [E_impl_argsOk] at hg
    split at hg
    · cases hg
      refine con_byVal fun ρ l K x hm => ?_
      split at hm
      · obtain ⟨c1, h1, hm⟩ := Option.bind_eq_some_iff.1 hm
        obtain ⟨c2, h2, hm⟩ := Option.bind_eq_some_iff.1 hm
        obtain ⟨r, hr, hm⟩ := Option.bind_eq_some_iff.1 hm
        exact ⟨_, hm, LawV.reads (.cons (.as h1) (.cons (.as h2) .nil)) (impl_owned_law k c1 c2 r hr)⟩
      · cases hm
    · cases hg
      refine con_byVal fun ρ l K x hm => ?_
      split at hm
      · obtain ⟨c1, h1, hm⟩ := Option.bind_eq_some_iff.1 hm
        obtain ⟨c2, h2, hm⟩ := Option.bind_eq_some_iff.1 hm
        obtain ⟨c3, h3, hm⟩ := Option.bind_eq_some_iff.1 hm
        obtain ⟨r, hr, hm⟩ := Option.bind_eq_some_iff.1 hm
        exact ⟨_, hm, LawV.reads (.cons (.as h1) (.cons (.as h2) (.cons (.as h3) .nil))) (impl_within_law k c1 c2 c3 r hr)⟩
      · cases hm
    · cases hg; exact noCon_ok
    · cases hg
  · intro g hg r
    by_cases h : g = 78
    · subst h; simp [E_impl_argsOk] at hg
    · simp [E_impl_argsOk, h]
theorem f78_okimpl_argsOk : Try.prog.funcs[78]? = some Try.f78 := by kernel_rfl
theorem impl_argsOk_law (k : Nat) (a1 : Int × Int × Int × Int × Int × ByteArray × (List Int) × Unit) (a2 : Int) (x : Bool) (h : impl_argsOk k a1 a2 = some x) : LawV Try.prog 78 [.tv tA4 a1, .int .i64 a2] (tvn .bool x) := by
  unfold impl_argsOk at h
  exact law1 (t := .bool) (tyTOk _ _) (E_impl_argsOk_calls k) mixOk f78_okimpl_argsOk (nameOk _ _ f78_okimpl_argsOk) (by kernel_rfl) h
/-! impl.Sets -/
noncomputable def E_impl_Sets (k : Nat) : Env := ⟨ty, fun g => match g with
  | 43 => some (byVal fun ρ l K => match l with
    | [b1, b2] => (b1.as (.int .i64)).bind fun c1 => (b2.as (.int .u8)).bind fun c2 => (impl_owned k c1 c2).bind fun r => K (tvn .bool r)
    | _ => none)
  | _ => none, fun _ _ => none⟩
noncomputable def impl_Sets (k : Nat) (a1 : Int × Int × Int × Int × Int × ByteArray × (List Int) × Unit) : Option (List Int) :=
  abody (E_impl_Sets k) (arun Try.prog (E_impl_Sets k) k) k 80 Try.f80 [.tv tA4 a1] [] (finF (.int .i64))
theorem impl_Sets_e (k : Nat) (a1 : Int × Int × Int × Int × Int × ByteArray × (List Int) × Unit) : impl_Sets k a1 =
  iteB (a1.1 == 19) (some [a1.2.1, a1.2.2.2.1]) (bindO (impl_owned k a1.1 68) fun r1 => (iteB r1 (some [a1.2.1]) (some []))) := by kernel_rfl
theorem E_impl_Sets_calls (k : Nat) : CallsOk Try.prog (E_impl_Sets k) (arun Try.prog (E_impl_Sets k) k) := by
  refine told_run (tyTOk _ _) ?_ (fun run h => regOk (tyTOk _ _) mixOk h) ?_ nameOk k
  · intro g m hg
    simp only [E_impl_Sets] at hg
    split at hg
    · cases hg
      refine con_byVal fun ρ l K x hm => ?_
      split at hm
      · obtain ⟨c1, h1, hm⟩ := Option.bind_eq_some_iff.1 hm
        obtain ⟨c2, h2, hm⟩ := Option.bind_eq_some_iff.1 hm
        obtain ⟨r, hr, hm⟩ := Option.bind_eq_some_iff.1 hm
        exact ⟨_, hm, LawV.reads (.cons (.as h1) (.cons (.as h2) .nil)) (impl_owned_law k c1 c2 r hr)⟩
      · cases hm
    · cases hg
  · intro g _ r; rfl
theorem f80_okimpl_Sets : Try.prog.funcs[80]? = some Try.f80 := by kernel_rfl
theorem impl_Sets_law (k : Nat) (a1 : Int × Int × Int × Int × Int × ByteArray × (List Int) × Unit) (x : List Int) (h : impl_Sets k a1 = some x) : LawF Try.prog 80 [.tv tA4 a1] (.int .i64) x := by
  unfold impl_Sets at h
  exact lawF (e := (.int .i64)) (tyTOk _ _) (E_impl_Sets_calls k) mixOk f80_okimpl_Sets (nameOk _ _ f80_okimpl_Sets) (by kernel_rfl) h
/-! impl.Uses -/
noncomputable def E_impl_Uses (k : Nat) : Env := ⟨ty, fun g => match g with
  | 43 => some (byVal fun ρ l K => match l with
    | [b1, b2] => (b1.as (.int .i64)).bind fun c1 => (b2.as (.int .u8)).bind fun c2 => (impl_owned k c1 c2).bind fun r => K (tvn .bool r)
    | _ => none)
  | 81 => some noCon
  | _ => none, fun f r => match f with | 81 => (match r with | 4 => some [1, 3, 11, 12, 13] | 12 => some [1, 3] | 14 => some [1, 3] | _ => none) | _ => none⟩
noncomputable def impl_Uses (k : Nat) (a1 : Int × Int × Int × Int × Int × ByteArray × (List Int) × Unit) : Option (List Int) :=
  abody (E_impl_Uses k) (arun Try.prog (E_impl_Uses k) k) k 81 Try.f81 [.tv tA4 a1] [] (fin1 (.row (.int .i64)))
noncomputable def impl_Uses.l4 (k n : Nat) (x11 : List Int) (x12 : Int) (x13 : Int) (y0_0 : Int × Int × Int × Int × Int × ByteArray × (List Int) × Unit) : Option (List Int) :=
  resume (E_impl_Uses k) 81 (acall (E_impl_Uses k) (arun Try.prog (E_impl_Uses k) k)) k [true, true, false, true, false, false, true, true] [n] (bodyOf Try.f81) ⟨[.undef, .ptr 0 0 0, .undef, .sl 1, .undef, .undef, .undef, .undef, .undef, .undef, .undef, .tv (.row (.int .i64)) x11, .int .i64 x12, .int .i64 x13, .undef, .undef, .undef, .undef, .undef, .undef, .undef, .undef, .undef, .undef, .undef, .undef, .undef, .undef, .undef, .undef, .undef, .undef, .undef, .undef, .undef, .undef, .undef, .undef, .undef, .undef, .undef, .undef, .undef, .undef, .undef, .undef, .undef, .undef, .undef, .undef, .undef, .undef, .undef, .undef, .undef, .undef, .undef, .undef, .undef, .undef, .undef, .undef, .undef, .undef, .undef], [some ⟨.raw true 7 (.agg [.int .i64 0, .int .i64 0, .int .i64 0, .int .i64 0, .int .i64 0, .str ByteArray.empty, .nils]) [.tv tA4 y0_0], true⟩, some ⟨.typed (.int .i64) [], true⟩]⟩ (leave (E_impl_Uses k) Try.f81 (fin1 (.row (.int .i64))))
noncomputable def impl_Uses.j12 (k : Nat) (y0_0 : Int × Int × Int × Int × Int × ByteArray × (List Int) × Unit) (y1 : List Int) : Option (List Int) :=
  resume (E_impl_Uses k) 81 (acall (E_impl_Uses k) (arun Try.prog (E_impl_Uses k) k)) k [true, true, true, true] [] (bodyOf Try.f81) ⟨[.undef, .ptr 0 0 0, .undef, .sl 1, .undef, .undef, .undef, .undef, .undef, .undef, .undef, .undef, .undef, .undef, .undef, .undef, .undef, .undef, .undef, .undef, .undef, .undef, .undef, .undef, .undef, .undef, .undef, .undef, .undef, .undef, .undef, .undef, .undef, .undef, .undef, .undef, .undef, .undef, .undef, .undef, .undef, .undef, .undef, .undef, .undef, .undef, .undef, .undef, .undef, .undef, .undef, .undef, .undef, .undef, .undef, .undef, .undef, .undef, .undef, .undef, .undef, .undef, .undef, .undef, .undef], [some ⟨.raw true 7 (.agg [.int .i64 0, .int .i64 0, .int .i64 0, .int .i64 0, .int .i64 0, .str ByteArray.empty, .nils]) [.tv tA4 y0_0], true⟩, some ⟨.typed (.int .i64) y1, false⟩]⟩ (leave (E_impl_Uses k) Try.f81 (fin1 (.row (.int .i64))))
noncomputable def impl_Uses.j12b (k : Nat) (y0_0 : Int × Int × Int × Int × Int × ByteArray × (List Int) × Unit) : Option (List Int) :=
  resume (E_impl_Uses k) 81 (acall (E_impl_Uses k) (arun Try.prog (E_impl_Uses k) k)) k [true, true, true, true] [] (bodyOf Try.f81) ⟨[.undef, .ptr 0 0 0, .undef, .sl 1, .undef, .undef, .undef, .undef, .undef, .undef, .undef, .undef, .undef, .undef, .undef, .undef, .undef, .undef, .undef, .undef, .undef, .undef, .undef, .undef, .undef, .undef, .undef, .undef, .undef, .undef, .undef, .undef, .undef, .undef, .undef, .undef, .undef, .undef, .undef, .undef, .undef, .undef, .undef, .undef, .undef, .undef, .undef, .undef, .undef, .undef, .undef, .undef, .undef, .undef, .undef, .undef, .undef, .undef, .undef, .undef, .undef, .undef, .undef, .undef, .undef], [some ⟨.raw true 7 (.agg [.int .i64 0, .int .i64 0, .int .i64 0, .int .i64 0, .int .i64 0, .str ByteArray.empty, .nils]) [.tv tA4 y0_0], true⟩, some ⟨.typed (.int .i64) [], true⟩]⟩ (leave (E_impl_Uses k) Try.f81 (fin1 (.row (.int .i64))))
noncomputable def impl_Uses.l4b (k n : Nat) (x11 : List Int) (x12 : Int) (x13 : Int) (y0_0 : Int × Int × Int × Int × Int × ByteArray × (List Int) × Unit) (y1 : List Int) : Option (List Int) :=
  resume (E_impl_Uses k) 81 (acall (E_impl_Uses k) (arun Try.prog (E_impl_Uses k) k)) k [true, true, false, true, false, false, true, true] [n] (bodyOf Try.f81) ⟨[.undef, .ptr 0 0 0, .undef, .sl 1, .undef, .undef, .undef, .undef, .undef, .undef, .undef, .tv (.row (.int .i64)) x11, .int .i64 x12, .int .i64 x13, .undef, .undef, .undef, .undef, .undef, .undef, .undef, .undef, .undef, .undef, .undef, .undef, .undef, .undef, .undef, .undef, .undef, .undef, .undef, .undef, .undef, .undef, .undef, .undef, .undef, .undef, .undef, .undef, .undef, .undef, .undef, .undef, .undef, .undef, .undef, .undef, .undef, .undef, .undef, .undef, .undef, .undef, .undef, .undef, .undef, .undef, .undef, .undef, .undef, .undef, .undef], [some ⟨.raw true 7 (.agg [.int .i64 0, .int .i64 0, .int .i64 0, .int .i64 0, .int .i64 0, .str ByteArray.empty, .nils]) [.tv tA4 y0_0], true⟩, some ⟨.typed (.int .i64) y1, false⟩]⟩ (leave (E_impl_Uses k) Try.f81 (fin1 (.row (.int .i64))))
noncomputable def impl_Uses.j14 (k : Nat) (y0_0 : Int × Int × Int × Int × Int × ByteArray × (List Int) × Unit) (y1 : List Int) : Option (List Int) :=
  resume (E_impl_Uses k) 81 (acall (E_impl_Uses k) (arun Try.prog (E_impl_Uses k) k)) k [true, true, true, true, true] [] (bodyOf Try.f81) ⟨[.undef, .ptr 0 0 0, .undef, .sl 1, .undef, .undef, .undef, .undef, .undef, .undef, .undef, .undef, .undef, .undef, .undef, .undef, .undef, .undef, .undef, .undef, .undef, .undef, .undef, .undef, .undef, .undef, .undef, .undef, .undef, .undef, .undef, .undef, .undef, .undef, .undef, .undef, .undef, .undef, .undef, .undef, .undef, .undef, .undef, .undef, .undef, .undef, .undef, .undef, .undef, .undef, .undef, .undef, .undef, .undef, .undef, .undef, .undef, .undef, .undef, .undef, .undef, .undef, .undef, .undef, .undef], [some ⟨.raw true 7 (.agg [.int .i64 0, .int .i64 0, .int .i64 0, .int .i64 0, .int .i64 0, .str ByteArray.empty, .nils]) [.tv tA4 y0_0], true⟩, some ⟨.typed (.int .i64) y1, false⟩]⟩ (leave (E_impl_Uses k) Try.f81 (fin1 (.row (.int .i64))))
noncomputable def impl_Uses.j14b (k : Nat) (y0_0 : Int × Int × Int × Int × Int × ByteArray × (List Int) × Unit) : Option (List Int) :=
  resume (E_impl_Uses k) 81 (acall (E_impl_Uses k) (arun Try.prog (E_impl_Uses k) k)) k [true, true, true, true, true] [] (bodyOf Try.f81) ⟨[.undef, .ptr 0 0 0, .undef, .sl 1, .undef, .undef, .undef, .undef, .undef, .undef, .undef, .undef, .undef, .undef, .undef, .undef, .undef, .undef, .undef, .undef, .undef, .undef, .undef, .undef, .undef, .undef, .undef, .undef, .undef, .undef, .undef, .undef, .undef, .undef, .undef, .undef, .undef, .undef, .undef, .undef, .undef, .undef, .undef, .undef, .undef, .undef, .undef, .undef, .undef, .undef, .undef, .undef, .undef, .undef, .undef, .undef, .undef, .undef, .undef, .undef, .undef, .undef, .undef, .undef, .undef], [some ⟨.raw true 7 (.agg [.int .i64 0, .int .i64 0, .int .i64 0, .int .i64 0, .int .i64 0, .str ByteArray.empty, .nils]) [.tv tA4 y0_0], true⟩, some ⟨.typed (.int .i64) [], true⟩]⟩ (leave (E_impl_Uses k) Try.f81 (fin1 (.row (.int .i64))))
theorem impl_Uses.l4_0 (k : Nat) (x11 : List Int) (x12 : Int) (x13 : Int) (y0_0 : Int × Int × Int × Int × Int × ByteArray × (List Int) × Unit) : impl_Uses.l4 k 0 x11 x12 x13 y0_0 = none := by kernel_rfl
theorem impl_Uses.l4_s (k n : Nat) (x11 : List Int) (x12 : Int) (x13 : Int) (y0_0 : Int × Int × Int × Int × Int × ByteArray × (List Int) × Unit) : impl_Uses.l4 k (n + 1) x11 x12 x13 y0_0 =
  iteB (decide (x13 < x12)) (iteB (decide (0 ≤ x13)) (iteB (decide (x13 < ((List.length x11) : Int))) (iteB (!((Int.tmod x13 3) == 1)) (iteB ((Int.tmod x13 3) == 2) (iteB (decide (0 ≤ IntKind.wrap .i64 (x13 - 2))) (iteB (decide (IntKind.wrap .i64 (x13 - 2) < ((List.length y0_0.2.2.2.2.2.2.1) : Int))) (iteB ((List.getD y0_0.2.2.2.2.2.2.1 (Int.toNat (IntKind.wrap .i64 (x13 - 2))) 0) == 2) (iteB (decide ((List.length ([] ++ [List.getD x11 (Int.toNat x13) 0])) * 8 ≤ lim)) (impl_Uses.l4b k n x11 x12 (IntKind.wrap .i64 (x13 + 1)) y0_0 ([] ++ [List.getD x11 (Int.toNat x13) 0])) (none)) (impl_Uses.l4 k n x11 x12 (IntKind.wrap .i64 (x13 + 1)) y0_0)) (none)) (none)) (impl_Uses.l4 k n x11 x12 (IntKind.wrap .i64 (x13 + 1)) y0_0)) (iteB (decide ((List.length ([] ++ [List.getD x11 (Int.toNat x13) 0])) * 8 ≤ lim)) (impl_Uses.l4b k n x11 x12 (IntKind.wrap .i64 (x13 + 1)) y0_0 ([] ++ [List.getD x11 (Int.toNat x13) 0])) (none))) (none)) (none)) (some []) := by kernel_rfl
theorem impl_Uses.j12_e (k : Nat) (y0_0 : Int × Int × Int × Int × Int × ByteArray × (List Int) × Unit) (y1 : List Int) : impl_Uses.j12 k y0_0 y1 =
  bindO (impl_owned k y0_0.1 66) fun r2 => (iteB r2 (iteB (decide ((List.length (y1 ++ [y0_0.2.2.2.1])) * 8 ≤ lim)) (gate k (impl_Uses.j14 k y0_0 (y1 ++ [y0_0.2.2.2.1]))) (none)) (gate k (impl_Uses.j14 k y0_0 y1))) := by kernel_rfl
theorem impl_Uses.j12b_e (k : Nat) (y0_0 : Int × Int × Int × Int × Int × ByteArray × (List Int) × Unit) : impl_Uses.j12b k y0_0 =
  bindO (impl_owned k y0_0.1 66) fun r3 => (iteB r3 (iteB (decide ((List.length ([] ++ [y0_0.2.2.2.1])) * 8 ≤ lim)) (gate k (impl_Uses.j14 k y0_0 ([] ++ [y0_0.2.2.2.1]))) (none)) (gate k (impl_Uses.j14b k y0_0))) := by kernel_rfl
theorem impl_Uses.l4b_0 (k : Nat) (x11 : List Int) (x12 : Int) (x13 : Int) (y0_0 : Int × Int × Int × Int × Int × ByteArray × (List Int) × Unit) (y1 : List Int) : impl_Uses.l4b k 0 x11 x12 x13 y0_0 y1 = none := by kernel_rfl
theorem impl_Uses.l4b_s (k n : Nat) (x11 : List Int) (x12 : Int) (x13 : Int) (y0_0 : Int × Int × Int × Int × Int × ByteArray × (List Int) × Unit) (y1 : List Int) : impl_Uses.l4b k (n + 1) x11 x12 x13 y0_0 y1 =
  iteB (decide (x13 < x12)) (iteB (decide (0 ≤ x13)) (iteB (decide (x13 < ((List.length x11) : Int))) (iteB (!((Int.tmod x13 3) == 1)) (iteB ((Int.tmod x13 3) == 2) (iteB (decide (0 ≤ IntKind.wrap .i64 (x13 - 2))) (iteB (decide (IntKind.wrap .i64 (x13 - 2) < ((List.length y0_0.2.2.2.2.2.2.1) : Int))) (iteB ((List.getD y0_0.2.2.2.2.2.2.1 (Int.toNat (IntKind.wrap .i64 (x13 - 2))) 0) == 2) (iteB (decide ((List.length (y1 ++ [List.getD x11 (Int.toNat x13) 0])) * 8 ≤ lim)) (impl_Uses.l4b k n x11 x12 (IntKind.wrap .i64 (x13 + 1)) y0_0 (y1 ++ [List.getD x11 (Int.toNat x13) 0])) (none)) (impl_Uses.l4b k n x11 x12 (IntKind.wrap .i64 (x13 + 1)) y0_0 y1)) (none)) (none)) (impl_Uses.l4b k n x11 x12 (IntKind.wrap .i64 (x13 + 1)) y0_0 y1)) (iteB (decide ((List.length (y1 ++ [List.getD x11 (Int.toNat x13) 0])) * 8 ≤ lim)) (impl_Uses.l4b k n x11 x12 (IntKind.wrap .i64 (x13 + 1)) y0_0 (y1 ++ [List.getD x11 (Int.toNat x13) 0])) (none))) (none)) (none)) (some y1) := by kernel_rfl
theorem impl_Uses.j14_e (k : Nat) (y0_0 : Int × Int × Int × Int × Int × ByteArray × (List Int) × Unit) (y1 : List Int) : impl_Uses.j14 k y0_0 y1 =
  bindO (impl_owned k y0_0.1 88) fun r4 => (iteB r4 (iteB (decide ((List.length (y1 ++ y0_0.2.2.2.2.2.2.1)) * 8 ≤ lim)) (some (y1 ++ y0_0.2.2.2.2.2.2.1)) (none)) (some y1)) := by kernel_rfl
theorem impl_Uses.j14b_e (k : Nat) (y0_0 : Int × Int × Int × Int × Int × ByteArray × (List Int) × Unit) : impl_Uses.j14b k y0_0 =
  bindO (impl_owned k y0_0.1 88) fun r5 => (iteB r5 (iteB (decide ((List.length ([] ++ y0_0.2.2.2.2.2.2.1)) * 8 ≤ lim)) (some ([] ++ y0_0.2.2.2.2.2.2.1)) (none)) (some [])) := by kernel_rfl
theorem impl_Uses_e (k : Nat) (a1 : Int × Int × Int × Int × Int × ByteArray × (List Int) × Unit) : impl_Uses k a1 =
  iteB (a1.1 == 19) (impl_Uses.l4 k k a1.2.2.2.2.2.2.1 ((List.length a1.2.2.2.2.2.2.1) : Int) 0 a1) (bindO (impl_owned k a1.1 65) fun r1 => (iteB r1 (iteB (decide ((List.length ([] ++ [a1.2.2.1])) * 8 ≤ lim)) (gate k (impl_Uses.j12 k a1 ([] ++ [a1.2.2.1]))) (none)) (gate k (impl_Uses.j12b k a1)))) := by kernel_rfl
theorem E_impl_Uses_calls (k : Nat) : CallsOk Try.prog (E_impl_Uses k) (arun Try.prog (E_impl_Uses k) k) := by
  refine told_run (tyTOk _ _) ?_ (fun run h => regOk (tyTOk _ _) mixOk h) ?_ nameOk k
  · intro g m hg
    simp only [E_impl_Uses] at hg
    split at hg
    · cases hg
      refine con_byVal fun ρ l K x hm => ?_
      split at hm
      · obtain ⟨c1, h1, hm⟩ := Option.bind_eq_some_iff.1 hm
        obtain ⟨c2, h2, hm⟩ := Option.bind_eq_some_iff.1 hm
        obtain ⟨r, hr, hm⟩ := Option.bind_eq_some_iff.1 hm
        exact ⟨_, hm, LawV.reads (.cons (.as h1) (.cons (.as h2) .nil)) (impl_owned_law k c1 c2 r hr)⟩
      · cases hm
    · cases hg; exact noCon_ok
    · cases hg
  · intro g hg r
    by_cases h : g = 81
    · subst h; simp [E_impl_Uses] at hg
    · simp [E_impl_Uses, h]
theorem f81_okimpl_Uses : Try.prog.funcs[81]? = some Try.f81 := by kernel_rfl
theorem impl_Uses_law (k : Nat) (a1 : Int × Int × Int × Int × Int × ByteArray × (List Int) × Unit) (x : List Int) (h : impl_Uses k a1 = some x) : LawV Try.prog 81 [.tv tA4 a1] (tvn (.row (.int .i64)) x) := by
  unfold impl_Uses at h
  exact law1 (t := (.row (.int .i64))) (tyTOk _ _) (E_impl_Uses_calls k) mixOk f81_okimpl_Uses (nameOk _ _ f81_okimpl_Uses) (by kernel_rfl) h
/-! impl.tacOk$1 -/
noncomputable def E_impl_tacOk_1_vbp (k : Nat) : Env := ⟨ty, fun g => match g with
  | 60 => some (byVal fun ρ l K => match l with
    | [b1, b2, b3] => (b1.as (.int .i64)).bind fun c1 => (b2.as (.int .i64)).bind fun c2 => (b3.as (.int .i64)).bind fun c3 => (impl_within k c1 c2 c3).bind fun r => K (tvn .bool r)
    | _ => none)
  | _ => none, fun _ _ => none⟩
noncomputable def impl_tacOk_1_vbp (k : Nat) (a1 : Int) (a2 : Int) : Option (Bool) :=
  abody (E_impl_tacOk_1_vbp k) (arun Try.prog (E_impl_tacOk_1_vbp k) k) k 82 Try.f82 [.int .i64 a1, .bp [.int .i64 a2] 0] [] (fin1 .bool)
theorem impl_tacOk_1_vbp_e (k : Nat) (a1 : Int) (a2 : Int) : impl_tacOk_1_vbp k a1 a2 =
  bindO (impl_within k a1 0 (IntKind.wrap .i64 (a2 - 1))) fun r1 => (some (!r1)) := by kernel_rfl
theorem E_impl_tacOk_1_vbp_calls (k : Nat) : CallsOk Try.prog (E_impl_tacOk_1_vbp k) (arun Try.prog (E_impl_tacOk_1_vbp k) k) := by
  refine told_run (tyTOk _ _) ?_ (fun run h => regOk (tyTOk _ _) mixOk h) ?_ nameOk k
  · intro g m hg
    simp only [E_impl_tacOk_1_vbp] at hg
    split at hg
    · cases hg
      refine con_byVal fun ρ l K x hm => ?_
      split at hm
      · obtain ⟨c1, h1, hm⟩ := Option.bind_eq_some_iff.1 hm
        obtain ⟨c2, h2, hm⟩ := Option.bind_eq_some_iff.1 hm
        obtain ⟨c3, h3, hm⟩ := Option.bind_eq_some_iff.1 hm
        obtain ⟨r, hr, hm⟩ := Option.bind_eq_some_iff.1 hm
        exact ⟨_, hm, LawV.reads (.cons (.as h1) (.cons (.as h2) (.cons (.as h3) .nil))) (impl_within_law k c1 c2 c3 r hr)⟩
      · cases hm
    · cases hg
  · intro g _ r; rfl
theorem f82_okimpl_tacOk_1_vbp : Try.prog.funcs[82]? = some Try.f82 := by kernel_rfl
theorem impl_tacOk_1_vbp_law (k : Nat) (a1 : Int) (a2 : Int) (x : Bool) (h : impl_tacOk_1_vbp k a1 a2 = some x) : LawV Try.prog 82 [.int .i64 a1, .bp [.int .i64 a2] 0] (tvn .bool x) := by
  unfold impl_tacOk_1_vbp at h
  exact law1 (t := .bool) (tyTOk _ _) (E_impl_tacOk_1_vbp_calls k) mixOk f82_okimpl_tacOk_1_vbp (nameOk _ _ f82_okimpl_tacOk_1_vbp) (by kernel_rfl) h
/-! slices.IndexFunc[[]int,int] -/
noncomputable def E_slices_IndexFunc_int__impl_tacOk_1 (k : Nat) : Env := ⟨ty, fun g => match g with
  | 82 => some (byVal fun ρ l K => match l with
    | [b1, .bp [b2] 0] => (b1.as (.int .i64)).bind fun c1 => (b2.as (.int .i64)).bind fun c2 => (impl_tacOk_1_vbp k c1 c2).bind fun r => K (tvn .bool r)
    | _ => none)
  | 91 => some noCon
  | _ => none, fun f r => match f with | 91 => (match r with | 2 => some [0, 1, 7, 8] | _ => none) | _ => none⟩
noncomputable def slices_IndexFunc_int__impl_tacOk_1 (k : Nat) (a1 : List Int) (a2 : Int) : Option (Int) :=
  abody (E_slices_IndexFunc_int__impl_tacOk_1 k) (arun Try.prog (E_slices_IndexFunc_int__impl_tacOk_1 k) k) k 91 Try.f91 [.tv (.row (.int .i64)) a1, .fn 82 [.bp [.int .i64 a2] 0]] [] (fin1 (.int .i64))
noncomputable def slices_IndexFunc_int__impl_tacOk_1.l2 (k n : Nat) (x0 : List Int) (x1_0_0 : Int) (x7 : Int) (x8 : Int) : Option (Int) :=
  resume (E_slices_IndexFunc_int__impl_tacOk_1 k) 91 (acall (E_slices_IndexFunc_int__impl_tacOk_1 k) (arun Try.prog (E_slices_IndexFunc_int__impl_tacOk_1 k) k)) k [true, false, true, true] [n] (bodyOf Try.f91) ⟨[.tv (.row (.int .i64)) x0, .fn 82 [.bp [.int .i64 x1_0_0] 0], .undef, .undef, .undef, .undef, .undef, .int .i64 x7, .int .i64 x8, .undef, .undef, .undef, .undef, .undef, .undef, .undef, .undef, .undef, .undef], []⟩ (leave (E_slices_IndexFunc_int__impl_tacOk_1 k) Try.f91 (fin1 (.int .i64)))
theorem slices_IndexFunc_int__impl_tacOk_1.l2_0 (k : Nat) (x0 : List Int) (x1_0_0 : Int) (x7 : Int) (x8 : Int) : slices_IndexFunc_int__impl_tacOk_1.l2 k 0 x0 x1_0_0 x7 x8 = none := by kernel_rfl
theorem slices_IndexFunc_int__impl_tacOk_1.l2_s (k n : Nat) (x0 : List Int) (x1_0_0 : Int) (x7 : Int) (x8 : Int) : slices_IndexFunc_int__impl_tacOk_1.l2 k (n + 1) x0 x1_0_0 x7 x8 =
  iteB (decide (x8 < x7)) (iteB (decide (0 ≤ x8)) (iteB (decide (x8 < ((List.length x0) : Int))) (bindO (impl_tacOk_1_vbp k (List.getD x0 (Int.toNat x8) 0) x1_0_0) fun r1 => (iteB r1 (some x8) (slices_IndexFunc_int__impl_tacOk_1.l2 k n x0 x1_0_0 x7 (IntKind.wrap .i64 (x8 + 1))))) (none)) (none)) (some (-1)) := by kernel_rfl
theorem slices_IndexFunc_int__impl_tacOk_1_e (k : Nat) (a1 : List Int) (a2 : Int) : slices_IndexFunc_int__impl_tacOk_1 k a1 a2 =
  slices_IndexFunc_int__impl_tacOk_1.l2 k k a1 a2 ((List.length a1) : Int) 0 := by kernel_rfl
theorem E_slices_IndexFunc_int__impl_tacOk_1_calls (k : Nat) : CallsOk Try.prog (E_slices_IndexFunc_int__impl_tacOk_1 k) (arun Try.prog (E_slices_IndexFunc_int__impl_tacOk_1 k) k) := by
  refine told_run (tyTOk _ _) ?_ (fun run h => regOk (tyTOk _ _) mixOk h) ?_ nameOk k
  · intro g m hg
    simp only [E_slices_IndexFunc_int__impl_tacOk_1] at hg
    split at hg
    · cases hg
      refine con_byVal fun ρ l K x hm => ?_
      split at hm
      · obtain ⟨c1, h1, hm⟩ := Option.bind_eq_some_iff.1 hm
        obtain ⟨c2, h2, hm⟩ := Option.bind_eq_some_iff.1 hm
        obtain ⟨r, hr, hm⟩ := Option.bind_eq_some_iff.1 hm
        exact ⟨_, hm, LawV.reads (.cons (.as h1) (.cons (.bp (.cons (.as h2) .nil)) .nil)) (impl_tacOk_1_vbp_law k c1 c2 r hr)⟩
      · cases hm
    · cases hg; exact noCon_ok
    · cases hg
  · intro g hg r
    by_cases h : g = 91
    · subst h; simp [E_slices_IndexFunc_int__impl_tacOk_1] at hg
    · simp [E_slices_IndexFunc_int__impl_tacOk_1, h]
theorem f91_okslices_IndexFunc_int__impl_tacOk_1 : Try.prog.funcs[91]? = some Try.f91 := by kernel_rfl
theorem slices_IndexFunc_int__impl_tacOk_1_law (k : Nat) (a1 : List Int) (a2 : Int) (x : Int) (h : slices_IndexFunc_int__impl_tacOk_1 k a1 a2 = some x) : LawV Try.prog 91 [.tv (.row (.int .i64)) a1, .fn 82 [.bp [.int .i64 a2] 0]] (tvn (.int .i64) x) := by
  unfold slices_IndexFunc_int__impl_tacOk_1 at h
  exact law1 (t := (.int .i64)) (tyTOk _ _) (E_slices_IndexFunc_int__impl_tacOk_1_calls k) mixOk f91_okslices_IndexFunc_int__impl_tacOk_1 (nameOk _ _ f91_okslices_IndexFunc_int__impl_tacOk_1) (by kernel_rfl) h
/-! slices.ContainsFunc[[]int,int] -/
noncomputable def E_slices_ContainsFunc_int__impl_tacOk_1 (k : Nat) : Env := ⟨ty, fun g => match g with
  | 91 => some (byVal fun ρ l K => match l with
    | [b1, .fn 82 [.bp [b2] 0]] => (b1.as (.row (.int .i64))).bind fun c1 => (b2.as (.int .i64)).bind fun c2 => (slices_IndexFunc_int__impl_tacOk_1 k c1 c2).bind fun r => K (tvn (.int .i64) r)
    | _ => none)
  | _ => none, fun _ _ => none⟩
noncomputable def slices_ContainsFunc_int__impl_tacOk_1 (k : Nat) (a1 : List Int) (a2 : Int) : Option (Bool) :=
  abody (E_slices_ContainsFunc_int__impl_tacOk_1 k) (arun Try.prog (E_slices_ContainsFunc_int__impl_tacOk_1 k) k) k 79 Try.f79 [.tv (.row (.int .i64)) a1, .fn 82 [.bp [.int .i64 a2] 0]] [] (fin1 .bool)
theorem slices_ContainsFunc_int__impl_tacOk_1_e (k : Nat) (a1 : List Int) (a2 : Int) : slices_ContainsFunc_int__impl_tacOk_1 k a1 a2 =
  bindO (slices_IndexFunc_int__impl_tacOk_1 k a1 a2) fun r1 => (some (decide (r1 ≥ 0))) := by kernel_rfl
theorem E_slices_ContainsFunc_int__impl_tacOk_1_calls (k : Nat) : CallsOk Try.prog (E_slices_ContainsFunc_int__impl_tacOk_1 k) (arun Try.prog (E_slices_ContainsFunc_int__impl_tacOk_1 k) k) := by
  refine told_run (tyTOk _ _) ?_ (fun run h => regOk (tyTOk _ _) mixOk h) ?_ nameOk k
  · intro g m hg
    simp only [E_slices_ContainsFunc_int__impl_tacOk_1] at hg
    split at hg
    · cases hg
      refine con_byVal fun ρ l K x hm => ?_
      split at hm
      · obtain ⟨c1, h1, hm⟩ := Option.bind_eq_some_iff.1 hm
        obtain ⟨c2, h2, hm⟩ := Option.bind_eq_some_iff.1 hm
        obtain ⟨r, hr, hm⟩ := Option.bind_eq_some_iff.1 hm
        exact ⟨_, hm, LawV.reads (.cons (.as h1) (.cons (.fn (.cons (.bp (.cons (.as h2) .nil)) .nil)) .nil)) (slices_IndexFunc_int__impl_tacOk_1_law k c1 c2 r hr)⟩
      · cases hm
    · cases hg
  · intro g _ r; rfl
theorem f79_okslices_ContainsFunc_int__impl_tacOk_1 : Try.prog.funcs[79]? = some Try.f79 := by kernel_rfl
theorem slices_ContainsFunc_int__impl_tacOk_1_law (k : Nat) (a1 : List Int) (a2 : Int) (x : Bool) (h : slices_ContainsFunc_int__impl_tacOk_1 k a1 a2 = some x) : LawV Try.prog 79 [.tv (.row (.int .i64)) a1, .fn 82 [.bp [.int .i64 a2] 0]] (tvn .bool x) := by
  unfold slices_ContainsFunc_int__impl_tacOk_1 at h
  exact law1 (t := .bool) (tyTOk _ _) (E_slices_ContainsFunc_int__impl_tacOk_1_calls k) mixOk f79_okslices_ContainsFunc_int__impl_tacOk_1 (nameOk _ _ f79_okslices_ContainsFunc_int__impl_tacOk_1) (by kernel_rfl) h
/-! impl.tacOk -/
noncomputable def E_impl_tacOk (k : Nat) : Env := ⟨ty, fun g => match g with
  | 65 => some (byVal fun ρ l K => match l with
    | [b1] => (b1.as (.int .i64)).bind fun c1 => (impl_owns k c1).bind fun r => K (tvn .str r)
    | _ => none)
  | 77 => some (byVal fun ρ l K => match l with
    | [b1] => (b1.as (.int .i64)).bind fun c1 => (impl_WordOk k c1).bind fun r => K (tvn .bool r)
    | _ => none)
  | 78 => some (byVal fun ρ l K => match l with
    | [b1, b2] => (b1.as tA4).bind fun c1 => (b2.as (.int .i64)).bind fun c2 => (impl_argsOk k c1 c2).bind fun r => K (tvn .bool r)
    | _ => none)
  | 43 => some (byVal fun ρ l K => match l with
    | [b1, b2] => (b1.as (.int .i64)).bind fun c1 => (b2.as (.int .u8)).bind fun c2 => (impl_owned k c1 c2).bind fun r => K (tvn .bool r)
    | _ => none)
  | 80 => some (byFresh (.int .i64) fun ρ l K => match l with
    | [b1] => (b1.as tA4).bind fun c1 => (impl_Sets k c1).bind fun r => K r
    | _ => none)
  | 81 => some (byVal fun ρ l K => match l with
    | [b1] => (b1.as tA4).bind fun c1 => (impl_Uses k c1).bind fun r => K (tvn (.row (.int .i64)) r)
    | _ => none)
  | 79 => some (byVal fun ρ l K => match l with
    | [b1, .fn 82 [.bp [b2] 0]] => (b1.as (.row (.int .i64))).bind fun c1 => (b2.as (.int .i64)).bind fun c2 => (slices_ContainsFunc_int__impl_tacOk_1 k c1 c2).bind fun r => K (tvn .bool r)
    | _ => none)
  | 61 => some noCon
  | _ => none, fun f r => match f with | 61 => (match r with | 3 => some [2, 3] | 5 => some [2, 3] | _ => none) | _ => none⟩
noncomputable def impl_tacOk (k : Nat) (a1 : Int × Int × Int × Int × Int × ByteArray × (List Int) × Unit) (a2 : Int) : Option (Bool) :=
  abody (E_impl_tacOk k) (arun Try.prog (E_impl_tacOk k) k) k 61 Try.f61 [.tv tA4 a1, .int .i64 a2] [] (fin1 .bool)
noncomputable def impl_tacOk.j3 (k : Nat) (y0_0 : Int × Int × Int × Int × Int × ByteArray × (List Int) × Unit) (y1_0 : Int) : Option (Bool) :=
  resume (E_impl_tacOk k) 61 (acall (E_impl_tacOk k) (arun Try.prog (E_impl_tacOk k) k)) k [true, true] [] (bodyOf Try.f61) ⟨[.undef, .undef, .ptr 0 0 0, .ptr 1 0 0, .undef, .undef, .undef, .undef, .undef, .undef, .undef, .undef, .undef, .undef, .undef, .undef, .undef, .undef, .undef, .undef, .undef, .undef, .undef, .undef, .undef, .undef, .undef, .undef, .undef, .undef, .undef, .undef, .undef, .undef, .undef, .undef, .undef, .undef, .undef, .undef, .undef, .undef, .undef, .undef, .undef, .undef, .undef, .undef, .undef, .undef, .undef, .undef, .undef, .undef, .undef, .undef, .undef, .undef, .undef, .undef, .undef, .undef, .undef, .undef, .undef, .undef, .undef, .undef, .undef, .undef, .undef, .undef, .undef, .undef, .undef, .undef, .undef, .undef, .undef, .undef, .undef, .undef], [some ⟨.raw true 7 (.agg [.int .i64 0, .int .i64 0, .int .i64 0, .int .i64 0, .int .i64 0, .str ByteArray.empty, .nils]) [.tv tA4 y0_0], true⟩, some ⟨.raw false 1 (.int .i64 0) [.int .i64 y1_0], true⟩]⟩ (leave (E_impl_tacOk k) Try.f61 (fin1 .bool))
noncomputable def impl_tacOk.j5 (k : Nat) (y0_0 : Int × Int × Int × Int × Int × ByteArray × (List Int) × Unit) (y1_0 : Int) : Option (Bool) :=
  resume (E_impl_tacOk k) 61 (acall (E_impl_tacOk k) (arun Try.prog (E_impl_tacOk k) k)) k [true, true, true] [] (bodyOf Try.f61) ⟨[.undef, .undef, .ptr 0 0 0, .ptr 1 0 0, .undef, .undef, .undef, .undef, .undef, .undef, .undef, .undef, .undef, .undef, .undef, .undef, .undef, .undef, .undef, .undef, .undef, .undef, .undef, .undef, .undef, .undef, .undef, .undef, .undef, .undef, .undef, .undef, .undef, .undef, .undef, .undef, .undef, .undef, .undef, .undef, .undef, .undef, .undef, .undef, .undef, .undef, .undef, .undef, .undef, .undef, .undef, .undef, .undef, .undef, .undef, .undef, .undef, .undef, .undef, .undef, .undef, .undef, .undef, .undef, .undef, .undef, .undef, .undef, .undef, .undef, .undef, .undef, .undef, .undef, .undef, .undef, .undef, .undef, .undef, .undef, .undef, .undef], [some ⟨.raw true 7 (.agg [.int .i64 0, .int .i64 0, .int .i64 0, .int .i64 0, .int .i64 0, .str ByteArray.empty, .nils]) [.tv tA4 y0_0], true⟩, some ⟨.raw false 1 (.int .i64 0) [.int .i64 y1_0], true⟩]⟩ (leave (E_impl_tacOk k) Try.f61 (fin1 .bool))
theorem impl_tacOk.j3_e (k : Nat) (y0_0 : Int × Int × Int × Int × Int × ByteArray × (List Int) × Unit) (y1_0 : Int) : impl_tacOk.j3 k y0_0 y1_0 =
  bindO (impl_owned k y0_0.1 68) fun r4 => (iteB (!r4) (iteB (!(y0_0.2.1 != 0)) (bindO (impl_owned k y0_0.1 65) fun r5 => (iteB (!r5) (iteB (!(y0_0.2.2.1 != 0)) (bindO (impl_owned k y0_0.1 66) fun r6 => (iteB (!r6) (iteB (!(y0_0.2.2.2.1 != 0)) (bindO (impl_owned k y0_0.1 78) fun r7 => (iteB (!r7) (iteB (!(y0_0.2.2.2.2.1 != 0)) (bindO (impl_owned k y0_0.1 83) fun r8 => (iteB (!r8) (iteB (!(ByteArray.toList y0_0.2.2.2.2.2.1 == ByteArray.toList (⟨#[]⟩ : ByteArray))) (some false) (gate k (impl_tacOk.j5 k y0_0 y1_0))) (gate k (impl_tacOk.j5 k y0_0 y1_0)))) (some false)) (bindO (impl_owned k y0_0.1 83) fun r9 => (iteB (!r9) (iteB (!(ByteArray.toList y0_0.2.2.2.2.2.1 == ByteArray.toList (⟨#[]⟩ : ByteArray))) (some false) (gate k (impl_tacOk.j5 k y0_0 y1_0))) (gate k (impl_tacOk.j5 k y0_0 y1_0)))))) (some false)) (bindO (impl_owned k y0_0.1 78) fun r10 => (iteB (!r10) (iteB (!(y0_0.2.2.2.2.1 != 0)) (bindO (impl_owned k y0_0.1 83) fun r11 => (iteB (!r11) (iteB (!(ByteArray.toList y0_0.2.2.2.2.2.1 == ByteArray.toList (⟨#[]⟩ : ByteArray))) (some false) (gate k (impl_tacOk.j5 k y0_0 y1_0))) (gate k (impl_tacOk.j5 k y0_0 y1_0)))) (some false)) (bindO (impl_owned k y0_0.1 83) fun r12 => (iteB (!r12) (iteB (!(ByteArray.toList y0_0.2.2.2.2.2.1 == ByteArray.toList (⟨#[]⟩ : ByteArray))) (some false) (gate k (impl_tacOk.j5 k y0_0 y1_0))) (gate k (impl_tacOk.j5 k y0_0 y1_0)))))))) (some false)) (bindO (impl_owned k y0_0.1 66) fun r13 => (iteB (!r13) (iteB (!(y0_0.2.2.2.1 != 0)) (bindO (impl_owned k y0_0.1 78) fun r14 => (iteB (!r14) (iteB (!(y0_0.2.2.2.2.1 != 0)) (bindO (impl_owned k y0_0.1 83) fun r15 => (iteB (!r15) (iteB (!(ByteArray.toList y0_0.2.2.2.2.2.1 == ByteArray.toList (⟨#[]⟩ : ByteArray))) (some false) (gate k (impl_tacOk.j5 k y0_0 y1_0))) (gate k (impl_tacOk.j5 k y0_0 y1_0)))) (some false)) (bindO (impl_owned k y0_0.1 83) fun r16 => (iteB (!r16) (iteB (!(ByteArray.toList y0_0.2.2.2.2.2.1 == ByteArray.toList (⟨#[]⟩ : ByteArray))) (some false) (gate k (impl_tacOk.j5 k y0_0 y1_0))) (gate k (impl_tacOk.j5 k y0_0 y1_0)))))) (some false)) (bindO (impl_owned k y0_0.1 78) fun r17 => (iteB (!r17) (iteB (!(y0_0.2.2.2.2.1 != 0)) (bindO (impl_owned k y0_0.1 83) fun r18 => (iteB (!r18) (iteB (!(ByteArray.toList y0_0.2.2.2.2.2.1 == ByteArray.toList (⟨#[]⟩ : ByteArray))) (some false) (gate k (impl_tacOk.j5 k y0_0 y1_0))) (gate k (impl_tacOk.j5 k y0_0 y1_0)))) (some false)) (bindO (impl_owned k y0_0.1 83) fun r19 => (iteB (!r19) (iteB (!(ByteArray.toList y0_0.2.2.2.2.2.1 == ByteArray.toList (⟨#[]⟩ : ByteArray))) (some false) (gate k (impl_tacOk.j5 k y0_0 y1_0))) (gate k (impl_tacOk.j5 k y0_0 y1_0)))))))))) (some false)) (bindO (impl_owned k y0_0.1 65) fun r20 => (iteB (!r20) (iteB (!(y0_0.2.2.1 != 0)) (bindO (impl_owned k y0_0.1 66) fun r21 => (iteB (!r21) (iteB (!(y0_0.2.2.2.1 != 0)) (bindO (impl_owned k y0_0.1 78) fun r22 => (iteB (!r22) (iteB (!(y0_0.2.2.2.2.1 != 0)) (bindO (impl_owned k y0_0.1 83) fun r23 => (iteB (!r23) (iteB (!(ByteArray.toList y0_0.2.2.2.2.2.1 == ByteArray.toList (⟨#[]⟩ : ByteArray))) (some false) (gate k (impl_tacOk.j5 k y0_0 y1_0))) (gate k (impl_tacOk.j5 k y0_0 y1_0)))) (some false)) (bindO (impl_owned k y0_0.1 83) fun r24 => (iteB (!r24) (iteB (!(ByteArray.toList y0_0.2.2.2.2.2.1 == ByteArray.toList (⟨#[]⟩ : ByteArray))) (some false) (gate k (impl_tacOk.j5 k y0_0 y1_0))) (gate k (impl_tacOk.j5 k y0_0 y1_0)))))) (some false)) (bindO (impl_owned k y0_0.1 78) fun r25 => (iteB (!r25) (iteB (!(y0_0.2.2.2.2.1 != 0)) (bindO (impl_owned k y0_0.1 83) fun r26 => (iteB (!r26) (iteB (!(ByteArray.toList y0_0.2.2.2.2.2.1 == ByteArray.toList (⟨#[]⟩ : ByteArray))) (some false) (gate k (impl_tacOk.j5 k y0_0 y1_0))) (gate k (impl_tacOk.j5 k y0_0 y1_0)))) (some false)) (bindO (impl_owned k y0_0.1 83) fun r27 => (iteB (!r27) (iteB (!(ByteArray.toList y0_0.2.2.2.2.2.1 == ByteArray.toList (⟨#[]⟩ : ByteArray))) (some false) (gate k (impl_tacOk.j5 k y0_0 y1_0))) (gate k (impl_tacOk.j5 k y0_0 y1_0)))))))) (some false)) (bindO (impl_owned k y0_0.1 66) fun r28 => (iteB (!r28) (iteB (!(y0_0.2.2.2.1 != 0)) (bindO (impl_owned k y0_0.1 78) fun r29 => (iteB (!r29) (iteB (!(y0_0.2.2.2.2.1 != 0)) (bindO (impl_owned k y0_0.1 83) fun r30 => (iteB (!r30) (iteB (!(ByteArray.toList y0_0.2.2.2.2.2.1 == ByteArray.toList (⟨#[]⟩ : ByteArray))) (some false) (gate k (impl_tacOk.j5 k y0_0 y1_0))) (gate k (impl_tacOk.j5 k y0_0 y1_0)))) (some false)) (bindO (impl_owned k y0_0.1 83) fun r31 => (iteB (!r31) (iteB (!(ByteArray.toList y0_0.2.2.2.2.2.1 == ByteArray.toList (⟨#[]⟩ : ByteArray))) (some false) (gate k (impl_tacOk.j5 k y0_0 y1_0))) (gate k (impl_tacOk.j5 k y0_0 y1_0)))))) (some false)) (bindO (impl_owned k y0_0.1 78) fun r32 => (iteB (!r32) (iteB (!(y0_0.2.2.2.2.1 != 0)) (bindO (impl_owned k y0_0.1 83) fun r33 => (iteB (!r33) (iteB (!(ByteArray.toList y0_0.2.2.2.2.2.1 == ByteArray.toList (⟨#[]⟩ : ByteArray))) (some false) (gate k (impl_tacOk.j5 k y0_0 y1_0))) (gate k (impl_tacOk.j5 k y0_0 y1_0)))) (some false)) (bindO (impl_owned k y0_0.1 83) fun r34 => (iteB (!r34) (iteB (!(ByteArray.toList y0_0.2.2.2.2.2.1 == ByteArray.toList (⟨#[]⟩ : ByteArray))) (some false) (gate k (impl_tacOk.j5 k y0_0 y1_0))) (gate k (impl_tacOk.j5 k y0_0 y1_0))))))))))) := by kernel_rfl
theorem impl_tacOk.j5_e (k : Nat) (y0_0 : Int × Int × Int × Int × Int × ByteArray × (List Int) × Unit) (y1_0 : Int) : impl_tacOk.j5 k y0_0 y1_0 =
  bindO (impl_Sets k y0_0) fun r35 => (bindO (impl_Uses k y0_0) fun r36 => (iteB (decide ((List.length (r35 ++ r36)) * 8 ≤ lim)) (bindO (slices_ContainsFunc_int__impl_tacOk_1 k (r35 ++ r36) y1_0) fun r37 => (some (!r37))) (none))) := by kernel_rfl
theorem impl_tacOk_e (k : Nat) (a1 : Int × Int × Int × Int × Int × ByteArray × (List Int) × Unit) (a2 : Int) : impl_tacOk k a1 a2 =
  bindO (impl_owns k a1.1) fun r1 => (iteB (!(ByteArray.toList r1 == ByteArray.toList (⟨#[]⟩ : ByteArray))) (bindO (impl_WordOk k a1.2.2.2.2.1) fun r2 => (iteB (!(!r2)) (bindO (impl_argsOk k a1 a2) fun r3 => (iteB (!r3) (some false) (gate k (impl_tacOk.j3 k a1 a2)))) (some false))) (some false)) := by kernel_rfl
theorem E_impl_tacOk_calls (k : Nat) : CallsOk Try.prog (E_impl_tacOk k) (arun Try.prog (E_impl_tacOk k) k) := by
  refine told_run (tyTOk _ _) ?_ (fun run h => regOk (tyTOk _ _) mixOk h) ?_ nameOk k
  · intro g m hg
    simp only [E_impl_tacOk] at hg
    split at hg
    · cases hg
      refine con_byVal fun ρ l K x hm => ?_
      split at hm
      · obtain ⟨c1, h1, hm⟩ := Option.bind_eq_some_iff.1 hm
        obtain ⟨r, hr, hm⟩ := Option.bind_eq_some_iff.1 hm
        exact ⟨_, hm, LawV.reads (.cons (.as h1) .nil) (impl_owns_law k c1 r hr)⟩
      · cases hm
    · cases hg
      refine con_byVal fun ρ l K x hm => ?_
      split at hm
      · obtain ⟨c1, h1, hm⟩ := Option.bind_eq_some_iff.1 hm
        obtain ⟨r, hr, hm⟩ := Option.bind_eq_some_iff.1 hm
        exact ⟨_, hm, LawV.reads (.cons (.as h1) .nil) (impl_WordOk_law k c1 r hr)⟩
      · cases hm
    · cases hg
      refine con_byVal fun ρ l K x hm => ?_
      split at hm
      · obtain ⟨c1, h1, hm⟩ := Option.bind_eq_some_iff.1 hm
        obtain ⟨c2, h2, hm⟩ := Option.bind_eq_some_iff.1 hm
        obtain ⟨r, hr, hm⟩ := Option.bind_eq_some_iff.1 hm
        exact ⟨_, hm, LawV.reads (.cons (.as h1) (.cons (.as h2) .nil)) (impl_argsOk_law k c1 c2 r hr)⟩
      · cases hm
    · cases hg
      refine con_byVal fun ρ l K x hm => ?_
      split at hm
      · obtain ⟨c1, h1, hm⟩ := Option.bind_eq_some_iff.1 hm
        obtain ⟨c2, h2, hm⟩ := Option.bind_eq_some_iff.1 hm
        obtain ⟨r, hr, hm⟩ := Option.bind_eq_some_iff.1 hm
        exact ⟨_, hm, LawV.reads (.cons (.as h1) (.cons (.as h2) .nil)) (impl_owned_law k c1 c2 r hr)⟩
      · cases hm
    · cases hg
      refine con_byFresh fun ρ l K x hm => ?_
      split at hm
      · obtain ⟨c1, h1, hm⟩ := Option.bind_eq_some_iff.1 hm
        obtain ⟨r, hr, hm⟩ := Option.bind_eq_some_iff.1 hm
        exact ⟨_, hm, LawF.reads (.cons (.as h1) .nil) (impl_Sets_law k c1 r hr)⟩
      · cases hm
    · cases hg
      refine con_byVal fun ρ l K x hm => ?_
      split at hm
      · obtain ⟨c1, h1, hm⟩ := Option.bind_eq_some_iff.1 hm
        obtain ⟨r, hr, hm⟩ := Option.bind_eq_some_iff.1 hm
        exact ⟨_, hm, LawV.reads (.cons (.as h1) .nil) (impl_Uses_law k c1 r hr)⟩
      · cases hm
    · cases hg
      refine con_byVal fun ρ l K x hm => ?_
      split at hm
      · obtain ⟨c1, h1, hm⟩ := Option.bind_eq_some_iff.1 hm
        obtain ⟨c2, h2, hm⟩ := Option.bind_eq_some_iff.1 hm
        obtain ⟨r, hr, hm⟩ := Option.bind_eq_some_iff.1 hm
        exact ⟨_, hm, LawV.reads (.cons (.as h1) (.cons (.fn (.cons (.bp (.cons (.as h2) .nil)) .nil)) .nil)) (slices_ContainsFunc_int__impl_tacOk_1_law k c1 c2 r hr)⟩
      · cases hm
    · cases hg; exact noCon_ok
    · cases hg
  · intro g hg r
    by_cases h : g = 61
    · subst h; simp [E_impl_tacOk] at hg
    · simp [E_impl_tacOk, h]
theorem f61_okimpl_tacOk : Try.prog.funcs[61]? = some Try.f61 := by kernel_rfl
theorem impl_tacOk_law (k : Nat) (a1 : Int × Int × Int × Int × Int × ByteArray × (List Int) × Unit) (a2 : Int) (x : Bool) (h : impl_tacOk k a1 a2 = some x) : LawV Try.prog 61 [.tv tA4 a1, .int .i64 a2] (tvn .bool x) := by
  unfold impl_tacOk at h
  exact law1 (t := .bool) (tyTOk _ _) (E_impl_tacOk_calls k) mixOk f61_okimpl_tacOk (nameOk _ _ f61_okimpl_tacOk) (by kernel_rfl) h
/-! impl.labelAt$1 -/
noncomputable def E_impl_labelAt_1_vbp (k : Nat) : Env := ⟨ty, fun _ => none, fun _ _ => none⟩
noncomputable def impl_labelAt_1_vbp (k : Nat) (a1 : Int × Int × Int × Int × Int × ByteArray × (List Int) × Unit) (a2 : Int) : Option (Bool) :=
  abody (E_impl_labelAt_1_vbp k) (arun Try.prog (E_impl_labelAt_1_vbp k) k) k 84 Try.f84 [.tv tA4 a1, .bp [.int .i64 a2] 0] [] (fin1 .bool)
theorem impl_labelAt_1_vbp_e (k : Nat) (a1 : Int × Int × Int × Int × Int × ByteArray × (List Int) × Unit) (a2 : Int) : impl_labelAt_1_vbp k a1 a2 =
  iteB (a1.1 == 8) (some (a1.2.2.2.2.1 == a2)) (some false) := by kernel_rfl
theorem E_impl_labelAt_1_vbp_calls (k : Nat) : CallsOk Try.prog (E_impl_labelAt_1_vbp k) (arun Try.prog (E_impl_labelAt_1_vbp k) k) := by
  refine told_run (tyTOk _ _) ?_ (fun run h => regOk (tyTOk _ _) mixOk h) ?_ nameOk k
  · intro g m hg
    cases hg
  · intro g _ r; rfl
theorem f84_okimpl_labelAt_1_vbp : Try.prog.funcs[84]? = some Try.f84 := by kernel_rfl
theorem impl_labelAt_1_vbp_law (k : Nat) (a1 : Int × Int × Int × Int × Int × ByteArray × (List Int) × Unit) (a2 : Int) (x : Bool) (h : impl_labelAt_1_vbp k a1 a2 = some x) : LawV Try.prog 84 [.tv tA4 a1, .bp [.int .i64 a2] 0] (tvn .bool x) := by
  unfold impl_labelAt_1_vbp at h
  exact law1 (t := .bool) (tyTOk _ _) (E_impl_labelAt_1_vbp_calls k) mixOk f84_okimpl_labelAt_1_vbp (nameOk _ _ f84_okimpl_labelAt_1_vbp) (by kernel_rfl) h
/-! slices.IndexFunc[[]impl.Tac,impl.Tac] -/
noncomputable def E_slices_IndexFunc_impl_Tac__impl_labelAt_1 (k : Nat) : Env := ⟨ty, fun g => match g with
  | 84 => some (byVal fun ρ l K => match l with
    | [b1, .bp [b2] 0] => (b1.as tA4).bind fun c1 => (b2.as (.int .i64)).bind fun c2 => (impl_labelAt_1_vbp k c1 c2).bind fun r => K (tvn .bool r)
    | _ => none)
  | 83 => some noCon
  | _ => none, fun f r => match f with | 83 => (match r with | 2 => some [0, 1, 7, 8] | _ => none) | _ => none⟩
noncomputable def slices_IndexFunc_impl_Tac__impl_labelAt_1 (k : Nat) (a1 : List (Int × Int × Int × Int × Int × ByteArray × (List Int) × Unit)) (a2 : Int) : Option (Int) :=
  abody (E_slices_IndexFunc_impl_Tac__impl_labelAt_1 k) (arun Try.prog (E_slices_IndexFunc_impl_Tac__impl_labelAt_1 k) k) k 83 Try.f83 [.tv (.row tA4) a1, .fn 84 [.bp [.int .i64 a2] 0]] [] (fin1 (.int .i64))
noncomputable def slices_IndexFunc_impl_Tac__impl_labelAt_1.l2 (k n : Nat) (x0 : List (Int × Int × Int × Int × Int × ByteArray × (List Int) × Unit)) (x1_0_0 : Int) (x7 : Int) (x8 : Int) : Option (Int) :=
  resume (E_slices_IndexFunc_impl_Tac__impl_labelAt_1 k) 83 (acall (E_slices_IndexFunc_impl_Tac__impl_labelAt_1 k) (arun Try.prog (E_slices_IndexFunc_impl_Tac__impl_labelAt_1 k) k)) k [true, false, true, true] [n] (bodyOf Try.f83) ⟨[.tv (.row tA4) x0, .fn 84 [.bp [.int .i64 x1_0_0] 0], .undef, .undef, .undef, .undef, .undef, .int .i64 x7, .int .i64 x8, .undef, .undef, .undef, .undef, .undef, .undef, .undef, .undef, .undef, .undef], []⟩ (leave (E_slices_IndexFunc_impl_Tac__impl_labelAt_1 k) Try.f83 (fin1 (.int .i64)))
theorem slices_IndexFunc_impl_Tac__impl_labelAt_1.l2_0 (k : Nat) (x0 : List (Int × Int × Int × Int × Int × ByteArray × (List Int) × Unit)) (x1_0_0 : Int) (x7 : Int) (x8 : Int) : slices_IndexFunc_impl_Tac__impl_labelAt_1.l2 k 0 x0 x1_0_0 x7 x8 = none := by kernel_rfl
theorem slices_IndexFunc_impl_Tac__impl_labelAt_1.l2_s (k n : Nat) (x0 : List (Int × Int × Int × Int × Int × ByteArray × (List Int) × Unit)) (x1_0_0 : Int) (x7 : Int) (x8 : Int) : slices_IndexFunc_impl_Tac__impl_labelAt_1.l2 k (n + 1) x0 x1_0_0 x7 x8 =
  iteB (decide (x8 < x7)) (iteB (decide (0 ≤ x8)) (iteB (decide (x8 < ((List.length x0) : Int))) (bindO (impl_labelAt_1_vbp k (List.getD x0 (Int.toNat x8) (Ty.dflt tA4)) x1_0_0) fun r1 => (iteB r1 (some x8) (slices_IndexFunc_impl_Tac__impl_labelAt_1.l2 k n x0 x1_0_0 x7 (IntKind.wrap .i64 (x8 + 1))))) (none)) (none)) (some (-1)) := by kernel_rfl
theorem slices_IndexFunc_impl_Tac__impl_labelAt_1_e (k : Nat) (a1 : List (Int × Int × Int × Int × Int × ByteArray × (List Int) × Unit)) (a2 : Int) : slices_IndexFunc_impl_Tac__impl_labelAt_1 k a1 a2 =
  slices_IndexFunc_impl_Tac__impl_labelAt_1.l2 k k a1 a2 ((List.length a1) : Int) 0 := by kernel_rfl
theorem E_slices_IndexFunc_impl_Tac__impl_labelAt_1_calls (k : Nat) : CallsOk Try.prog (E_slices_IndexFunc_impl_Tac__impl_labelAt_1 k) (arun Try.prog (E_slices_IndexFunc_impl_Tac__impl_labelAt_1 k) k) := by
  refine told_run (tyTOk _ _) ?_ (fun run h => regOk (tyTOk _ _) mixOk h) ?_ nameOk k
  · intro g m hg
    simp only [E_slices_IndexFunc_impl_Tac__impl_labelAt_1] at hg
    split at hg
    · cases hg
      refine con_byVal fun ρ l K x hm => ?_
      split at hm
      · obtain ⟨c1, h1, hm⟩ := Option.bind_eq_some_iff.1 hm
        obtain ⟨c2, h2, hm⟩ := Option.bind_eq_some_iff.1 hm
        obtain ⟨r, hr, hm⟩ := Option.bind_eq_some_iff.1 hm
        exact ⟨_, hm, LawV.reads (.cons (.as h1) (.cons (.bp (.cons (.as h2) .nil)) .nil)) (impl_labelAt_1_vbp_law k c1 c2 r hr)⟩
      · cases hm
    · cases hg; exact noCon_ok
    · cases hg
  · intro g hg r
    by_cases h : g = 83
    · subst h; simp [E_slices_IndexFunc_impl_Tac__impl_labelAt_1] at hg
    · simp [E_slices_IndexFunc_impl_Tac__impl_labelAt_1, h]
theorem f83_okslices_IndexFunc_impl_Tac__impl_labelAt_1 : Try.prog.funcs[83]? = some Try.f83 := by kernel_rfl
theorem slices_IndexFunc_impl_Tac__impl_labelAt_1_law (k : Nat) (a1 : List (Int × Int × Int × Int × Int × ByteArray × (List Int) × Unit)) (a2 : Int) (x : Int) (h : slices_IndexFunc_impl_Tac__impl_labelAt_1 k a1 a2 = some x) : LawV Try.prog 83 [.tv (.row tA4) a1, .fn 84 [.bp [.int .i64 a2] 0]] (tvn (.int .i64) x) := by
  unfold slices_IndexFunc_impl_Tac__impl_labelAt_1 at h
  exact law1 (t := (.int .i64)) (tyTOk _ _) (E_slices_IndexFunc_impl_Tac__impl_labelAt_1_calls k) mixOk f83_okslices_IndexFunc_impl_Tac__impl_labelAt_1 (nameOk _ _ f83_okslices_IndexFunc_impl_Tac__impl_labelAt_1) (by kernel_rfl) h
end Go.Proofs.Ytajlenpookikoaa.XFnExactWorldNew
