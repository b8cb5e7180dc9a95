/- Functions of the program as runs of the interpreter: equations, and a law for each. -/
import Derived.Test.YtcjpjgfjagfjjaaGreatProg
import Derived.Test.YtcjpjgfjagfjjaaGreatChecked
import Derived.KernelRfl
import Derived.Eval
import Derived.Test.YtcjpjgfjagfjjaaGreatATyOk
import Derived.Test.YtcjpjgfjagfjjaaGreatAS38
import Derived.Test.YtcjpjgfjagfjjaaGreatAMFnExactStuck3
open Go Go.AM Go.AMx Go.Proofs
namespace Go.Proofs.YtcjpjgfjagfjjaaGreat.XFnExactStuck
set_option linter.unusedVariables false
set_option linter.unusedSimpArgs false
/-! impl.UnitOk -/
noncomputable def E_impl_UnitOk (k : Nat) : Env := ⟨ty, fun g => match g with
  | 39 => some (byVal fun ρ l K => match l with
    | [b1, b2, b3] => (b1.as (.int .i64)).bind fun c1 => (b2.as (.int .i64)).bind fun c2 => (b3.as (.int .i64)).bind fun c3 => (impl_within k c1 c2 c3).bind fun r => K (tvn .bool r)
    | _ => none)
  | 83 => some (byVal fun ρ l K => match l with
    | [b1, b2] => (b1.as (.pair (.int .i64) (.pair (.int .i64) (.pair (.int .i64) (.pair (.int .i64) (.pair (.int .i64) (.pair .str (.pair (.row (.int .i64)) .unit)))))))).bind fun c1 => (b2.as (.int .i64)).bind fun c2 => (impl_tacOk k c1 c2).bind fun r => K (tvn .bool r)
    | _ => none)
  | 84 => some (byVal fun ρ l K => match l with
    | [b1, b2] => (b1.as (.row (.pair (.int .i64) (.pair (.int .i64) (.pair (.int .i64) (.pair (.int .i64) (.pair (.int .i64) (.pair .str (.pair (.row (.int .i64)) .unit))))))))).bind fun c1 => (b2.as (.int .i64)).bind fun c2 => (impl_labelAt k c1 c2).bind fun r => K (tvn (.int .i64) r)
    | _ => none)
  | 85 => some (byVal fun ρ l K => match l with
    | [b1] => (b1.as (.int .i64)).bind fun c1 => (impl_ends k c1).bind fun r => K (tvn .bool r)
    | _ => none)
  | 60 => some noCon
  | _ => none, fun f r => match f with | 60 => (match r with | 3 => some [1] | 4 => some [1, 26, 27, 28] | _ => none) | _ => none⟩
noncomputable def impl_UnitOk (k : Nat) (a1 : ByteArray × Int × Int × (List (Int × Int × Int × Int × Int × ByteArray × (List Int) × Unit)) × Unit) : Option (Bool) :=
  abody (E_impl_UnitOk k) (arun Tryz.prog (E_impl_UnitOk k) k) k 60 Tryz.f60 [.tv (.pair .str (.pair (.int .i64) (.pair (.int .i64) (.pair (.row (.pair (.int .i64) (.pair (.int .i64) (.pair (.int .i64) (.pair (.int .i64) (.pair (.int .i64) (.pair .str (.pair (.row (.int .i64)) .unit)))))))) .unit)))) a1] [] (fin1 .bool)
noncomputable def impl_UnitOk.j3 (k : Nat) (y0_0 : ByteArray × Int × Int × (List (Int × Int × Int × Int × Int × ByteArray × (List Int) × Unit)) × Unit) : Option (Bool) :=
  resume (E_impl_UnitOk k) 60 (acall (E_impl_UnitOk k) (arun Tryz.prog (E_impl_UnitOk k) k)) k [true, true] [] (bodyOf Tryz.f60) ⟨[.undef, .ptr 0 0 0, .undef, .undef, .undef, .undef, .undef, .undef, .undef, .undef, .undef, .undef, .undef, .undef, .undef, .undef, .undef, .undef, .undef, .undef, .undef, .undef, .undef, .undef, .undef, .undef, .undef, .undef, .undef, .undef, .undef, .undef, .undef, .undef, .undef, .undef, .undef, .undef, .undef, .undef, .undef, .undef, .undef, .undef, .undef, .undef, .undef, .undef, .undef, .undef, .undef, .undef, .undef, .undef, .undef, .undef, .undef, .undef, .undef, .undef, .undef, .undef, .undef, .undef, .undef, .undef, .undef, .undef, .undef, .undef, .undef, .undef, .undef, .undef, .undef, .undef, .undef, .undef, .undef, .undef, .undef, .undef, .undef, .undef, .undef, .undef], [some ⟨.raw true 4 (.agg [.str ByteArray.empty, .int .i64 0, .int .i64 0, .nils]) [.tv (.pair .str (.pair (.int .i64) (.pair (.int .i64) (.pair (.row (.pair (.int .i64) (.pair (.int .i64) (.pair (.int .i64) (.pair (.int .i64) (.pair (.int .i64) (.pair .str (.pair (.row (.int .i64)) .unit)))))))) .unit)))) y0_0], true⟩]⟩ (leave (E_impl_UnitOk k) Tryz.f60 (fin1 .bool))
noncomputable def impl_UnitOk.l4 (k n : Nat) (x26 : List (Int × Int × Int × Int × Int × ByteArray × (List Int) × Unit)) (x27 : Int) (x28 : Int) (y0_0 : ByteArray × Int × Int × (List (Int × Int × Int × Int × Int × ByteArray × (List Int) × Unit)) × Unit) : Option (Bool) :=
  resume (E_impl_UnitOk k) 60 (acall (E_impl_UnitOk k) (arun Tryz.prog (E_impl_UnitOk k) k)) k [true, true, false, true, true] [n] (bodyOf Tryz.f60) ⟨[.undef, .ptr 0 0 0, .undef, .undef, .undef, .undef, .undef, .undef, .undef, .undef, .undef, .undef, .undef, .undef, .undef, .undef, .undef, .undef, .undef, .undef, .undef, .undef, .undef, .undef, .undef, .undef, .tv (.row (.pair (.int .i64) (.pair (.int .i64) (.pair (.int .i64) (.pair (.int .i64) (.pair (.int .i64) (.pair .str (.pair (.row (.int .i64)) .unit)))))))) x26, .int .i64 x27, .int .i64 x28, .undef, .undef, .undef, .undef, .undef, .undef, .undef, .undef, .undef, .undef, .undef, .undef, .undef, .undef, .undef, .undef, .undef, .undef, .undef, .undef, .undef, .undef, .undef, .undef, .undef, .undef, .undef, .undef, .undef, .undef, .undef, .undef, .undef, .undef, .undef, .undef, .undef, .undef, .undef, .undef, .undef, .undef, .undef, .undef, .undef, .undef, .undef, .undef, .undef, .undef, .undef, .undef, .undef, .undef, .undef, .undef, .undef], [some ⟨.raw true 4 (.agg [.str ByteArray.empty, .int .i64 0, .int .i64 0, .nils]) [.tv (.pair .str (.pair (.int .i64) (.pair (.int .i64) (.pair (.row (.pair (.int .i64) (.pair (.int .i64) (.pair (.int .i64) (.pair (.int .i64) (.pair (.int .i64) (.pair .str (.pair (.row (.int .i64)) .unit)))))))) .unit)))) y0_0], true⟩]⟩ (leave (E_impl_UnitOk k) Tryz.f60 (fin1 .bool))
theorem impl_UnitOk.j3_e (k : Nat) (y0_0 : ByteArray × Int × Int × (List (Int × Int × Int × Int × Int × ByteArray × (List Int) × Unit)) × Unit) : impl_UnitOk.j3 k y0_0 =
  impl_UnitOk.l4 k k y0_0.2.2.2.1 ((List.length y0_0.2.2.2.1) : Int) 0 y0_0 := by kernel_rfl
theorem impl_UnitOk.l4_0 (k : Nat) (x26 : List (Int × Int × Int × Int × Int × ByteArray × (List Int) × Unit)) (x27 : Int) (x28 : Int) (y0_0 : ByteArray × Int × Int × (List (Int × Int × Int × Int × Int × ByteArray × (List Int) × Unit)) × Unit) : impl_UnitOk.l4 k 0 x26 x27 x28 y0_0 = none := by kernel_rfl
theorem impl_UnitOk.l4_s (k n : Nat) (x26 : List (Int × Int × Int × Int × Int × ByteArray × (List Int) × Unit)) (x27 : Int) (x28 : Int) (y0_0 : ByteArray × Int × Int × (List (Int × Int × Int × Int × Int × ByteArray × (List Int) × Unit)) × Unit) : impl_UnitOk.l4 k (n + 1) x26 x27 x28 y0_0 =
  iteB (decide (x28 < x27)) (iteB (decide (0 ≤ x28)) (iteB (decide (x28 < ((List.length x26) : Int))) (bindO (impl_tacOk k (List.getD x26 (Int.toNat x28) (Ty.dflt (.pair (.int .i64) (.pair (.int .i64) (.pair (.int .i64) (.pair (.int .i64) (.pair (.int .i64) (.pair .str (.pair (.row (.int .i64)) .unit))))))))) y0_0.2.2.1) fun r4 => (iteB (!r4) (some false) (iteB (((List.getD x26 (Int.toNat x28) (Ty.dflt (.pair (.int .i64) (.pair (.int .i64) (.pair (.int .i64) (.pair (.int .i64) (.pair (.int .i64) (.pair .str (.pair (.row (.int .i64)) .unit))))))))).1) == 8) (bindO (impl_within k ((((((List.getD x26 (Int.toNat x28) (Ty.dflt (.pair (.int .i64) (.pair (.int .i64) (.pair (.int .i64) (.pair (.int .i64) (.pair (.int .i64) (.pair .str (.pair (.row (.int .i64)) .unit))))))))).2).2).2).2).1) 0 900) fun r5 => (iteB (!(!r5)) (bindO (impl_labelAt k y0_0.2.2.2.1 ((((((List.getD x26 (Int.toNat x28) (Ty.dflt (.pair (.int .i64) (.pair (.int .i64) (.pair (.int .i64) (.pair (.int .i64) (.pair (.int .i64) (.pair .str (.pair (.row (.int .i64)) .unit))))))))).2).2).2).2).1)) fun r6 => (iteB (r6 != x28) (some false) (iteB (!(((List.getD x26 (Int.toNat x28) (Ty.dflt (.pair (.int .i64) (.pair (.int .i64) (.pair (.int .i64) (.pair (.int .i64) (.pair (.int .i64) (.pair .str (.pair (.row (.int .i64)) .unit))))))))).1) == 9)) (iteB (((List.getD x26 (Int.toNat x28) (Ty.dflt (.pair (.int .i64) (.pair (.int .i64) (.pair (.int .i64) (.pair (.int .i64) (.pair (.int .i64) (.pair .str (.pair (.row (.int .i64)) .unit))))))))).1) == 10) (bindO (impl_labelAt k y0_0.2.2.2.1 ((((((List.getD x26 (Int.toNat x28) (Ty.dflt (.pair (.int .i64) (.pair (.int .i64) (.pair (.int .i64) (.pair (.int .i64) (.pair (.int .i64) (.pair .str (.pair (.row (.int .i64)) .unit))))))))).2).2).2).2).1)) fun r7 => (iteB (decide (r7 < 0)) (some false) (impl_UnitOk.l4 k n x26 x27 (IntKind.wrap .i64 (x28 + 1)) y0_0))) (impl_UnitOk.l4 k n x26 x27 (IntKind.wrap .i64 (x28 + 1)) y0_0)) (bindO (impl_labelAt k y0_0.2.2.2.1 ((((((List.getD x26 (Int.toNat x28) (Ty.dflt (.pair (.int .i64) (.pair (.int .i64) (.pair (.int .i64) (.pair (.int .i64) (.pair (.int .i64) (.pair .str (.pair (.row (.int .i64)) .unit))))))))).2).2).2).2).1)) fun r8 => (iteB (decide (r8 < 0)) (some false) (impl_UnitOk.l4 k n x26 x27 (IntKind.wrap .i64 (x28 + 1)) y0_0)))))) (some false))) (iteB (!(((List.getD x26 (Int.toNat x28) (Ty.dflt (.pair (.int .i64) (.pair (.int .i64) (.pair (.int .i64) (.pair (.int .i64) (.pair (.int .i64) (.pair .str (.pair (.row (.int .i64)) .unit))))))))).1) == 9)) (iteB (((List.getD x26 (Int.toNat x28) (Ty.dflt (.pair (.int .i64) (.pair (.int .i64) (.pair (.int .i64) (.pair (.int .i64) (.pair (.int .i64) (.pair .str (.pair (.row (.int .i64)) .unit))))))))).1) == 10) (bindO (impl_labelAt k y0_0.2.2.2.1 ((((((List.getD x26 (Int.toNat x28) (Ty.dflt (.pair (.int .i64) (.pair (.int .i64) (.pair (.int .i64) (.pair (.int .i64) (.pair (.int .i64) (.pair .str (.pair (.row (.int .i64)) .unit))))))))).2).2).2).2).1)) fun r9 => (iteB (decide (r9 < 0)) (some false) (impl_UnitOk.l4 k n x26 x27 (IntKind.wrap .i64 (x28 + 1)) y0_0))) (impl_UnitOk.l4 k n x26 x27 (IntKind.wrap .i64 (x28 + 1)) y0_0)) (bindO (impl_labelAt k y0_0.2.2.2.1 ((((((List.getD x26 (Int.toNat x28) (Ty.dflt (.pair (.int .i64) (.pair (.int .i64) (.pair (.int .i64) (.pair (.int .i64) (.pair (.int .i64) (.pair .str (.pair (.row (.int .i64)) .unit))))))))).2).2).2).2).1)) fun r10 => (iteB (decide (r10 < 0)) (some false) (impl_UnitOk.l4 k n x26 x27 (IntKind.wrap .i64 (x28 + 1)) y0_0))))))) (none)) (none)) (iteB (decide (0 ≤ IntKind.wrap .i64 (((List.length y0_0.2.2.2.1) : Int) - 1))) (iteB (decide (IntKind.wrap .i64 (((List.length y0_0.2.2.2.1) : Int) - 1) < ((List.length y0_0.2.2.2.1) : Int))) (bindO (impl_ends k ((List.getD y0_0.2.2.2.1 (Int.toNat (IntKind.wrap .i64 (((List.length y0_0.2.2.2.1) : Int) - 1))) (Ty.dflt (.pair (.int .i64) (.pair (.int .i64) (.pair (.int .i64) (.pair (.int .i64) (.pair (.int .i64) (.pair .str (.pair (.row (.int .i64)) .unit))))))))).1)) fun r11 => (some r11)) (none)) (none)) := by kernel_rfl
theorem impl_UnitOk_e (k : Nat) (a1 : ByteArray × Int × Int × (List (Int × Int × Int × Int × Int × ByteArray × (List Int) × Unit)) × Unit) : impl_UnitOk k a1 =
  bindO (impl_within k a1.2.2.1 0 250) fun r1 => (iteB (!(!r1)) (bindO (impl_within k a1.2.1 0 (mn 4 a1.2.2.1)) fun r2 => (iteB (!(!r2)) (bindO (impl_within k ((List.length a1.2.2.2.1) : Int) 1 900) fun r3 => (iteB (!r3) (some false) (gate k (impl_UnitOk.j3 k a1)))) (some false))) (some false)) := by kernel_rfl
theorem E_impl_UnitOk_calls (k : Nat) : CallsOk Tryz.prog (E_impl_UnitOk k) (arun Tryz.prog (E_impl_UnitOk k) k) := by
  refine told_run (tyTOk _ _) ?_ (fun run h => regOk (tyTOk _ _) mixOk h) ?_ nameOk k
  · intro g m hg
    simp only [E_impl_UnitOk] at hg
    split at hg
    · cases hg
      refine con_byVal fun ρ l K x hm => ?_
      split at hm
      · obtain ⟨c1, h1, hm⟩ := Option.bind_eq_some_iff.1 hm
        obtain ⟨c2, h2, hm⟩ := Option.bind_eq_some_iff.1 hm
        obtain ⟨c3, h3, hm⟩ := Option.bind_eq_some_iff.1 hm
        obtain ⟨r, hr, hm⟩ := Option.bind_eq_some_iff.1 hm
        exact ⟨_, hm, LawV.reads (.cons (.as h1) (.cons (.as h2) (.cons (.as h3) .nil))) (impl_within_law k c1 c2 c3 r hr)⟩
      · cases hm
    · cases hg
      refine con_byVal fun ρ l K x hm => ?_
      split at hm
      · obtain ⟨c1, h1, hm⟩ := Option.bind_eq_some_iff.1 hm
        obtain ⟨c2, h2, hm⟩ := Option.bind_eq_some_iff.1 hm
        obtain ⟨r, hr, hm⟩ := Option.bind_eq_some_iff.1 hm
        exact ⟨_, hm, LawV.reads (.cons (.as h1) (.cons (.as h2) .nil)) (impl_tacOk_law k c1 c2 r hr)⟩
      · cases hm
    · cases hg
      refine con_byVal fun ρ l K x hm => ?_
      split at hm
      · obtain ⟨c1, h1, hm⟩ := Option.bind_eq_some_iff.1 hm
        obtain ⟨c2, h2, hm⟩ := Option.bind_eq_some_iff.1 hm
        obtain ⟨r, hr, hm⟩ := Option.bind_eq_some_iff.1 hm
        exact ⟨_, hm, LawV.reads (.cons (.as h1) (.cons (.as h2) .nil)) (impl_labelAt_law k c1 c2 r hr)⟩
      · cases hm
    · cases hg
      refine con_byVal fun ρ l K x hm => ?_
      split at hm
      · obtain ⟨c1, h1, hm⟩ := Option.bind_eq_some_iff.1 hm
        obtain ⟨r, hr, hm⟩ := Option.bind_eq_some_iff.1 hm
        exact ⟨_, hm, LawV.reads (.cons (.as h1) .nil) (impl_ends_law k c1 r hr)⟩
      · cases hm
    · cases hg; exact noCon_ok
    · cases hg
  · intro g hg r
    by_cases h : g = 60
    · subst h; simp [E_impl_UnitOk] at hg
    · simp [E_impl_UnitOk, h]
theorem f60_okimpl_UnitOk : Tryz.prog.funcs[60]? = some Tryz.f60 := by kernel_rfl
theorem impl_UnitOk_law (k : Nat) (a1 : ByteArray × Int × Int × (List (Int × Int × Int × Int × Int × ByteArray × (List Int) × Unit)) × Unit) (x : Bool) (h : impl_UnitOk k a1 = some x) : LawV Tryz.prog 60 [.tv (.pair .str (.pair (.int .i64) (.pair (.int .i64) (.pair (.row (.pair (.int .i64) (.pair (.int .i64) (.pair (.int .i64) (.pair (.int .i64) (.pair (.int .i64) (.pair .str (.pair (.row (.int .i64)) .unit)))))))) .unit)))) a1] (tvn .bool x) := by
  unfold impl_UnitOk at h
  exact law1 (t := .bool) (tyTOk _ _) (E_impl_UnitOk_calls k) mixOk f60_okimpl_UnitOk (nameOk _ _ f60_okimpl_UnitOk) (by kernel_rfl) h
/-! impl.unitAt$1 -/
noncomputable def E_impl_unitAt_1_vbp (k : Nat) : Env := ⟨ty, fun _ => none, fun _ _ => none⟩
noncomputable def impl_unitAt_1_vbp (k : Nat) (a1 : ByteArray × Int × Int × (List (Int × Int × Int × Int × Int × ByteArray × (List Int) × Unit)) × Unit) (a2 : ByteArray) : Option (Bool) :=
  abody (E_impl_unitAt_1_vbp k) (arun Tryz.prog (E_impl_unitAt_1_vbp k) k) k 87 Tryz.f87 [.tv (.pair .str (.pair (.int .i64) (.pair (.int .i64) (.pair (.row (.pair (.int .i64) (.pair (.int .i64) (.pair (.int .i64) (.pair (.int .i64) (.pair (.int .i64) (.pair .str (.pair (.row (.int .i64)) .unit)))))))) .unit)))) a1, .bp [.str a2] 0] [] (fin1 .bool)
theorem impl_unitAt_1_vbp_e (k : Nat) (a1 : ByteArray × Int × Int × (List (Int × Int × Int × Int × Int × ByteArray × (List Int) × Unit)) × Unit) (a2 : ByteArray) : impl_unitAt_1_vbp k a1 a2 =
  some (ByteArray.toList a1.1 == ByteArray.toList a2) := by kernel_rfl
theorem E_impl_unitAt_1_vbp_calls (k : Nat) : CallsOk Tryz.prog (E_impl_unitAt_1_vbp k) (arun Tryz.prog (E_impl_unitAt_1_vbp k) k) := by
  refine told_run (tyTOk _ _) ?_ (fun run h => regOk (tyTOk _ _) mixOk h) ?_ nameOk k
  · intro g m hg
    cases hg
  · intro g _ r; rfl
theorem f87_okimpl_unitAt_1_vbp : Tryz.prog.funcs[87]? = some Tryz.f87 := by kernel_rfl
theorem impl_unitAt_1_vbp_law (k : Nat) (a1 : ByteArray × Int × Int × (List (Int × Int × Int × Int × Int × ByteArray × (List Int) × Unit)) × Unit) (a2 : ByteArray) (x : Bool) (h : impl_unitAt_1_vbp k a1 a2 = some x) : LawV Tryz.prog 87 [.tv (.pair .str (.pair (.int .i64) (.pair (.int .i64) (.pair (.row (.pair (.int .i64) (.pair (.int .i64) (.pair (.int .i64) (.pair (.int .i64) (.pair (.int .i64) (.pair .str (.pair (.row (.int .i64)) .unit)))))))) .unit)))) a1, .bp [.str a2] 0] (tvn .bool x) := by
  unfold impl_unitAt_1_vbp at h
  exact law1 (t := .bool) (tyTOk _ _) (E_impl_unitAt_1_vbp_calls k) mixOk f87_okimpl_unitAt_1_vbp (nameOk _ _ f87_okimpl_unitAt_1_vbp) (by kernel_rfl) h
/-! slices.IndexFunc[[]impl.Unit,impl.Unit] -/
noncomputable def E_slices_IndexFunc_impl_Unit__impl_unitAt_1 (k : Nat) : Env := ⟨ty, fun g => match g with
  | 87 => some (byVal fun ρ l K => match l with
    | [b1, .bp [b2] 0] => (b1.as (.pair .str (.pair (.int .i64) (.pair (.int .i64) (.pair (.row (.pair (.int .i64) (.pair (.int .i64) (.pair (.int .i64) (.pair (.int .i64) (.pair (.int .i64) (.pair .str (.pair (.row (.int .i64)) .unit)))))))) .unit))))).bind fun c1 => (b2.as .str).bind fun c2 => (impl_unitAt_1_vbp k c1 c2).bind fun r => K (tvn .bool r)
    | _ => none)
  | 86 => some noCon
  | _ => none, fun f r => match f with | 86 => (match r with | 2 => some [0, 1, 7, 8] | _ => none) | _ => none⟩
noncomputable def slices_IndexFunc_impl_Unit__impl_unitAt_1 (k : Nat) (a1 : List (ByteArray × Int × Int × (List (Int × Int × Int × Int × Int × ByteArray × (List Int) × Unit)) × Unit)) (a2 : ByteArray) : Option (Int) :=
  abody (E_slices_IndexFunc_impl_Unit__impl_unitAt_1 k) (arun Tryz.prog (E_slices_IndexFunc_impl_Unit__impl_unitAt_1 k) k) k 86 Tryz.f86 [.tv (.row (.pair .str (.pair (.int .i64) (.pair (.int .i64) (.pair (.row (.pair (.int .i64) (.pair (.int .i64) (.pair (.int .i64) (.pair (.int .i64) (.pair (.int .i64) (.pair .str (.pair (.row (.int .i64)) .unit)))))))) .unit))))) a1, .fn 87 [.bp [.str a2] 0]] [] (fin1 (.int .i64))
noncomputable def slices_IndexFunc_impl_Unit__impl_unitAt_1.l2 (k n : Nat) (x0 : List (ByteArray × Int × Int × (List (Int × Int × Int × Int × Int × ByteArray × (List Int) × Unit)) × Unit)) (x1_0_0 : ByteArray) (x7 : Int) (x8 : Int) : Option (Int) :=
  resume (E_slices_IndexFunc_impl_Unit__impl_unitAt_1 k) 86 (acall (E_slices_IndexFunc_impl_Unit__impl_unitAt_1 k) (arun Tryz.prog (E_slices_IndexFunc_impl_Unit__impl_unitAt_1 k) k)) k [true, false, true, true] [n] (bodyOf Tryz.f86) ⟨[.tv (.row (.pair .str (.pair (.int .i64) (.pair (.int .i64) (.pair (.row (.pair (.int .i64) (.pair (.int .i64) (.pair (.int .i64) (.pair (.int .i64) (.pair (.int .i64) (.pair .str (.pair (.row (.int .i64)) .unit)))))))) .unit))))) x0, .fn 87 [.bp [.str x1_0_0] 0], .undef, .undef, .undef, .undef, .undef, .int .i64 x7, .int .i64 x8, .undef, .undef, .undef, .undef, .undef, .undef, .undef, .undef, .undef, .undef], []⟩ (leave (E_slices_IndexFunc_impl_Unit__impl_unitAt_1 k) Tryz.f86 (fin1 (.int .i64)))
theorem slices_IndexFunc_impl_Unit__impl_unitAt_1.l2_0 (k : Nat) (x0 : List (ByteArray × Int × Int × (List (Int × Int × Int × Int × Int × ByteArray × (List Int) × Unit)) × Unit)) (x1_0_0 : ByteArray) (x7 : Int) (x8 : Int) : slices_IndexFunc_impl_Unit__impl_unitAt_1.l2 k 0 x0 x1_0_0 x7 x8 = none := by kernel_rfl
theorem slices_IndexFunc_impl_Unit__impl_unitAt_1.l2_s (k n : Nat) (x0 : List (ByteArray × Int × Int × (List (Int × Int × Int × Int × Int × ByteArray × (List Int) × Unit)) × Unit)) (x1_0_0 : ByteArray) (x7 : Int) (x8 : Int) : slices_IndexFunc_impl_Unit__impl_unitAt_1.l2 k (n + 1) x0 x1_0_0 x7 x8 =
  iteB (decide (x8 < x7)) (iteB (decide (0 ≤ x8)) (iteB (decide (x8 < ((List.length x0) : Int))) (bindO (impl_unitAt_1_vbp k (List.getD x0 (Int.toNat x8) (Ty.dflt (.pair .str (.pair (.int .i64) (.pair (.int .i64) (.pair (.row (.pair (.int .i64) (.pair (.int .i64) (.pair (.int .i64) (.pair (.int .i64) (.pair (.int .i64) (.pair .str (.pair (.row (.int .i64)) .unit)))))))) .unit)))))) x1_0_0) fun r1 => (iteB r1 (some x8) (slices_IndexFunc_impl_Unit__impl_unitAt_1.l2 k n x0 x1_0_0 x7 (IntKind.wrap .i64 (x8 + 1))))) (none)) (none)) (some (-1)) := by kernel_rfl
theorem slices_IndexFunc_impl_Unit__impl_unitAt_1_e (k : Nat) (a1 : List (ByteArray × Int × Int × (List (Int × Int × Int × Int × Int × ByteArray × (List Int) × Unit)) × Unit)) (a2 : ByteArray) : slices_IndexFunc_impl_Unit__impl_unitAt_1 k a1 a2 =
  slices_IndexFunc_impl_Unit__impl_unitAt_1.l2 k k a1 a2 ((List.length a1) : Int) 0 := by kernel_rfl
theorem E_slices_IndexFunc_impl_Unit__impl_unitAt_1_calls (k : Nat) : CallsOk Tryz.prog (E_slices_IndexFunc_impl_Unit__impl_unitAt_1 k) (arun Tryz.prog (E_slices_IndexFunc_impl_Unit__impl_unitAt_1 k) k) := by
  refine told_run (tyTOk _ _) ?_ (fun run h => regOk (tyTOk _ _) mixOk h) ?_ nameOk k
  · intro g m hg
    simp only [E_slices_IndexFunc_impl_Unit__impl_unitAt_1] at hg
    split at hg
    · cases hg
      refine con_byVal fun ρ l K x hm => ?_
      split at hm
      · obtain ⟨c1, h1, hm⟩ := Option.bind_eq_some_iff.1 hm
        obtain ⟨c2, h2, hm⟩ := Option.bind_eq_some_iff.1 hm
        obtain ⟨r, hr, hm⟩ := Option.bind_eq_some_iff.1 hm
        exact ⟨_, hm, LawV.reads (.cons (.as h1) (.cons (.bp (.cons (.as h2) .nil)) .nil)) (impl_unitAt_1_vbp_law k c1 c2 r hr)⟩
      · cases hm
    · cases hg; exact noCon_ok
    · cases hg
  · intro g hg r
    by_cases h : g = 86
    · subst h; simp [E_slices_IndexFunc_impl_Unit__impl_unitAt_1] at hg
    · simp [E_slices_IndexFunc_impl_Unit__impl_unitAt_1, h]
theorem f86_okslices_IndexFunc_impl_Unit__impl_unitAt_1 : Tryz.prog.funcs[86]? = some Tryz.f86 := by kernel_rfl
theorem slices_IndexFunc_impl_Unit__impl_unitAt_1_law (k : Nat) (a1 : List (ByteArray × Int × Int × (List (Int × Int × Int × Int × Int × ByteArray × (List Int) × Unit)) × Unit)) (a2 : ByteArray) (x : Int) (h : slices_IndexFunc_impl_Unit__impl_unitAt_1 k a1 a2 = some x) : LawV Tryz.prog 86 [.tv (.row (.pair .str (.pair (.int .i64) (.pair (.int .i64) (.pair (.row (.pair (.int .i64) (.pair (.int .i64) (.pair (.int .i64) (.pair (.int .i64) (.pair (.int .i64) (.pair .str (.pair (.row (.int .i64)) .unit)))))))) .unit))))) a1, .fn 87 [.bp [.str a2] 0]] (tvn (.int .i64) x) := by
  unfold slices_IndexFunc_impl_Unit__impl_unitAt_1 at h
  exact law1 (t := (.int .i64)) (tyTOk _ _) (E_slices_IndexFunc_impl_Unit__impl_unitAt_1_calls k) mixOk f86_okslices_IndexFunc_impl_Unit__impl_unitAt_1 (nameOk _ _ f86_okslices_IndexFunc_impl_Unit__impl_unitAt_1) (by kernel_rfl) h
/-! impl.unitAt -/
noncomputable def E_impl_unitAt (k : Nat) : Env := ⟨ty, fun g => match g with
  | 86 => some (byVal fun ρ l K => match l with
    | [b1, .fn 87 [.bp [b2] 0]] => (b1.as (.row (.pair .str (.pair (.int .i64) (.pair (.int .i64) (.pair (.row (.pair (.int .i64) (.pair (.int .i64) (.pair (.int .i64) (.pair (.int .i64) (.pair (.int .i64) (.pair .str (.pair (.row (.int .i64)) .unit)))))))) .unit)))))).bind fun c1 => (b2.as .str).bind fun c2 => (slices_IndexFunc_impl_Unit__impl_unitAt_1 k c1 c2).bind fun r => K (tvn (.int .i64) r)
    | _ => none)
  | _ => none, fun _ _ => none⟩
noncomputable def impl_unitAt (k : Nat) (a1 : List (ByteArray × Int × Int × (List (Int × Int × Int × Int × Int × ByteArray × (List Int) × Unit)) × Unit)) (a2 : ByteArray) : Option (Int) :=
  abody (E_impl_unitAt k) (arun Tryz.prog (E_impl_unitAt k) k) k 61 Tryz.f61 [.tv (.row (.pair .str (.pair (.int .i64) (.pair (.int .i64) (.pair (.row (.pair (.int .i64) (.pair (.int .i64) (.pair (.int .i64) (.pair (.int .i64) (.pair (.int .i64) (.pair .str (.pair (.row (.int .i64)) .unit)))))))) .unit))))) a1, .str a2] [] (fin1 (.int .i64))
theorem impl_unitAt_e (k : Nat) (a1 : List (ByteArray × Int × Int × (List (Int × Int × Int × Int × Int × ByteArray × (List Int) × Unit)) × Unit)) (a2 : ByteArray) : impl_unitAt k a1 a2 =
  bindO (slices_IndexFunc_impl_Unit__impl_unitAt_1 k a1 a2) fun r1 => (some r1) := by kernel_rfl
theorem E_impl_unitAt_calls (k : Nat) : CallsOk Tryz.prog (E_impl_unitAt k) (arun Tryz.prog (E_impl_unitAt k) k) := by
  refine told_run (tyTOk _ _) ?_ (fun run h => regOk (tyTOk _ _) mixOk h) ?_ nameOk k
  · intro g m hg
    simp only [E_impl_unitAt] at hg
    split at hg
    · cases hg
      refine con_byVal fun ρ l K x hm => ?_
      split at hm
      · obtain ⟨c1, h1, hm⟩ := Option.bind_eq_some_iff.1 hm
        obtain ⟨c2, h2, hm⟩ := Option.bind_eq_some_iff.1 hm
        obtain ⟨r, hr, hm⟩ := Option.bind_eq_some_iff.1 hm
        exact ⟨_, hm, LawV.reads (.cons (.as h1) (.cons (.fn (.cons (.bp (.cons (.as h2) .nil)) .nil)) .nil)) (slices_IndexFunc_impl_Unit__impl_unitAt_1_law k c1 c2 r hr)⟩
      · cases hm
    · cases hg
  · intro g _ r; rfl
theorem f61_okimpl_unitAt : Tryz.prog.funcs[61]? = some Tryz.f61 := by kernel_rfl
theorem impl_unitAt_law (k : Nat) (a1 : List (ByteArray × Int × Int × (List (Int × Int × Int × Int × Int × ByteArray × (List Int) × Unit)) × Unit)) (a2 : ByteArray) (x : Int) (h : impl_unitAt k a1 a2 = some x) : LawV Tryz.prog 61 [.tv (.row (.pair .str (.pair (.int .i64) (.pair (.int .i64) (.pair (.row (.pair (.int .i64) (.pair (.int .i64) (.pair (.int .i64) (.pair (.int .i64) (.pair (.int .i64) (.pair .str (.pair (.row (.int .i64)) .unit)))))))) .unit))))) a1, .str a2] (tvn (.int .i64) x) := by
  unfold impl_unitAt at h
  exact law1 (t := (.int .i64)) (tyTOk _ _) (E_impl_unitAt_calls k) mixOk f61_okimpl_unitAt (nameOk _ _ f61_okimpl_unitAt) (by kernel_rfl) h
/-! impl.UnitsOk -/
noncomputable def E_impl_UnitsOk (k : Nat) : Env := ⟨ty, fun g => match g with
  | 60 => some (byVal fun ρ l K => match l with
    | [b1] => (b1.as (.pair .str (.pair (.int .i64) (.pair (.int .i64) (.pair (.row (.pair (.int .i64) (.pair (.int .i64) (.pair (.int .i64) (.pair (.int .i64) (.pair (.int .i64) (.pair .str (.pair (.row (.int .i64)) .unit)))))))) .unit))))).bind fun c1 => (impl_UnitOk k c1).bind fun r => K (tvn .bool r)
    | _ => none)
  | 61 => some (byVal fun ρ l K => match l with
    | [b1, b2] => (b1.as (.row (.pair .str (.pair (.int .i64) (.pair (.int .i64) (.pair (.row (.pair (.int .i64) (.pair (.int .i64) (.pair (.int .i64) (.pair (.int .i64) (.pair (.int .i64) (.pair .str (.pair (.row (.int .i64)) .unit)))))))) .unit)))))).bind fun c1 => (b2.as .str).bind fun c2 => (impl_unitAt k c1 c2).bind fun r => K (tvn (.int .i64) r)
    | _ => none)
  | 62 => some (byVal fun ρ l K => match l with
    | [b1, b2] => (b1.as (.int .i64)).bind fun c1 => (b2.as (.int .u8)).bind fun c2 => (impl_owned k c1 c2).bind fun r => K (tvn .bool r)
    | _ => none)
  | 38 => some noCon
  | _ => none, fun f r => match f with | 38 => (match r with | 4 => some [0, 11, 12, 13] | 8 => some [0, 4, 11, 12, 13] | 9 => some [0, 11, 12, 13, 30, 31, 32] | _ => none) | _ => none⟩
noncomputable def impl_UnitsOk (k : Nat) (a1 : List (ByteArray × Int × Int × (List (Int × Int × Int × Int × Int × ByteArray × (List Int) × Unit)) × Unit)) : Option (Bool) :=
  abody (E_impl_UnitsOk k) (arun Tryz.prog (E_impl_UnitsOk k) k) k 38 Tryz.f38 [.tv (.row (.pair .str (.pair (.int .i64) (.pair (.int .i64) (.pair (.row (.pair (.int .i64) (.pair (.int .i64) (.pair (.int .i64) (.pair (.int .i64) (.pair (.int .i64) (.pair .str (.pair (.row (.int .i64)) .unit)))))))) .unit))))) a1] [] (fin1 .bool)
noncomputable def impl_UnitsOk.l4 (k n : Nat) (x0 : List (ByteArray × Int × Int × (List (Int × Int × Int × Int × Int × ByteArray × (List Int) × Unit)) × Unit)) (x11 : List (ByteArray × Int × Int × (List (Int × Int × Int × Int × Int × ByteArray × (List Int) × Unit)) × Unit)) (x12 : Int) (x13 : Int) : Option (Bool) :=
  resume (E_impl_UnitsOk k) 38 (acall (E_impl_UnitsOk k) (arun Tryz.prog (E_impl_UnitsOk k) k)) k [true, true, false, true, true] [n] (bodyOf Tryz.f38) ⟨[.tv (.row (.pair .str (.pair (.int .i64) (.pair (.int .i64) (.pair (.row (.pair (.int .i64) (.pair (.int .i64) (.pair (.int .i64) (.pair (.int .i64) (.pair (.int .i64) (.pair .str (.pair (.row (.int .i64)) .unit)))))))) .unit))))) x0, .undef, .undef, .undef, .undef, .undef, .undef, .undef, .undef, .undef, .undef, .tv (.row (.pair .str (.pair (.int .i64) (.pair (.int .i64) (.pair (.row (.pair (.int .i64) (.pair (.int .i64) (.pair (.int .i64) (.pair (.int .i64) (.pair (.int .i64) (.pair .str (.pair (.row (.int .i64)) .unit)))))))) .unit))))) x11, .int .i64 x12, .int .i64 x13, .undef, .undef, .undef, .undef, .undef, .undef, .undef, .undef, .undef, .undef, .undef, .undef, .undef, .undef, .undef, .undef, .undef, .undef, .undef, .undef, .undef, .undef, .undef, .undef, .undef, .undef, .undef, .undef, .undef, .undef, .undef, .undef, .undef, .undef, .undef, .undef, .undef, .undef, .undef, .undef, .undef, .undef, .undef, .undef, .undef, .undef, .undef, .undef, .undef, .undef], []⟩ (leave (E_impl_UnitsOk k) Tryz.f38 (fin1 .bool))
noncomputable def impl_UnitsOk.j8 (k m4 : Nat) (x0 : List (ByteArray × Int × Int × (List (Int × Int × Int × Int × Int × ByteArray × (List Int) × Unit)) × Unit)) (x11 : List (ByteArray × Int × Int × (List (Int × Int × Int × Int × Int × ByteArray × (List Int) × Unit)) × Unit)) (x12 : Int) (x13 : Int) (y0_0 : ByteArray × Int × Int × (List (Int × Int × Int × Int × Int × ByteArray × (List Int) × Unit)) × Unit) : Option (Bool) :=
  resume (E_impl_UnitsOk k) 38 (acall (E_impl_UnitsOk k) (arun Tryz.prog (E_impl_UnitsOk k) k)) k [true, true, false, true, true, true, true, true, false, true, true, true] [m4] (bodyOf Tryz.f38) ⟨[.tv (.row (.pair .str (.pair (.int .i64) (.pair (.int .i64) (.pair (.row (.pair (.int .i64) (.pair (.int .i64) (.pair (.int .i64) (.pair (.int .i64) (.pair (.int .i64) (.pair .str (.pair (.row (.int .i64)) .unit)))))))) .unit))))) x0, .undef, .undef, .undef, .ptr 0 0 0, .undef, .undef, .undef, .undef, .undef, .undef, .tv (.row (.pair .str (.pair (.int .i64) (.pair (.int .i64) (.pair (.row (.pair (.int .i64) (.pair (.int .i64) (.pair (.int .i64) (.pair (.int .i64) (.pair (.int .i64) (.pair .str (.pair (.row (.int .i64)) .unit)))))))) .unit))))) x11, .int .i64 x12, .int .i64 x13, .undef, .undef, .undef, .undef, .undef, .undef, .undef, .undef, .undef, .undef, .undef, .undef, .undef, .undef, .undef, .undef, .undef, .undef, .undef, .undef, .undef, .undef, .undef, .undef, .undef, .undef, .undef, .undef, .undef, .undef, .undef, .undef, .undef, .undef, .undef, .undef, .undef, .undef, .undef, .undef, .undef, .undef, .undef, .undef, .undef, .undef, .undef, .undef, .undef, .undef], [some ⟨.raw true 4 (.agg [.str ByteArray.empty, .int .i64 0, .int .i64 0, .nils]) [.tv (.pair .str (.pair (.int .i64) (.pair (.int .i64) (.pair (.row (.pair (.int .i64) (.pair (.int .i64) (.pair (.int .i64) (.pair (.int .i64) (.pair (.int .i64) (.pair .str (.pair (.row (.int .i64)) .unit)))))))) .unit)))) y0_0], true⟩]⟩ (leave (E_impl_UnitsOk k) Tryz.f38 (fin1 .bool))
noncomputable def impl_UnitsOk.l9 (k m4 n : Nat) (x0 : List (ByteArray × Int × Int × (List (Int × Int × Int × Int × Int × ByteArray × (List Int) × Unit)) × Unit)) (x11 : List (ByteArray × Int × Int × (List (Int × Int × Int × Int × Int × ByteArray × (List Int) × Unit)) × Unit)) (x12 : Int) (x13 : Int) (x30 : List (Int × Int × Int × Int × Int × ByteArray × (List Int) × Unit)) (x31 : Int) (x32 : Int) : Option (Bool) :=
  resume (E_impl_UnitsOk k) 38 (acall (E_impl_UnitsOk k) (arun Tryz.prog (E_impl_UnitsOk k) k)) k [true, true, false, true, true, true, true, true, false, true, true, true, true, true] [m4, n] (bodyOf Tryz.f38) ⟨[.tv (.row (.pair .str (.pair (.int .i64) (.pair (.int .i64) (.pair (.row (.pair (.int .i64) (.pair (.int .i64) (.pair (.int .i64) (.pair (.int .i64) (.pair (.int .i64) (.pair .str (.pair (.row (.int .i64)) .unit)))))))) .unit))))) x0, .undef, .undef, .undef, .undef, .undef, .undef, .undef, .undef, .undef, .undef, .tv (.row (.pair .str (.pair (.int .i64) (.pair (.int .i64) (.pair (.row (.pair (.int .i64) (.pair (.int .i64) (.pair (.int .i64) (.pair (.int .i64) (.pair (.int .i64) (.pair .str (.pair (.row (.int .i64)) .unit)))))))) .unit))))) x11, .int .i64 x12, .int .i64 x13, .undef, .undef, .undef, .undef, .undef, .undef, .undef, .undef, .undef, .undef, .undef, .undef, .undef, .undef, .undef, .undef, .tv (.row (.pair (.int .i64) (.pair (.int .i64) (.pair (.int .i64) (.pair (.int .i64) (.pair (.int .i64) (.pair .str (.pair (.row (.int .i64)) .unit)))))))) x30, .int .i64 x31, .int .i64 x32, .undef, .undef, .undef, .undef, .undef, .undef, .undef, .undef, .undef, .undef, .undef, .undef, .undef, .undef, .undef, .undef, .undef, .undef, .undef, .undef, .undef, .undef, .undef, .undef, .undef, .undef, .undef, .undef, .undef, .undef, .undef], []⟩ (leave (E_impl_UnitsOk k) Tryz.f38 (fin1 .bool))
theorem impl_UnitsOk.l4_0 (k : Nat) (x0 : List (ByteArray × Int × Int × (List (Int × Int × Int × Int × Int × ByteArray × (List Int) × Unit)) × Unit)) (x11 : List (ByteArray × Int × Int × (List (Int × Int × Int × Int × Int × ByteArray × (List Int) × Unit)) × Unit)) (x12 : Int) (x13 : Int) : impl_UnitsOk.l4 k 0 x0 x11 x12 x13 = none := by kernel_rfl
theorem impl_UnitsOk.l4_s (k n : Nat) (x0 : List (ByteArray × Int × Int × (List (Int × Int × Int × Int × Int × ByteArray × (List Int) × Unit)) × Unit)) (x11 : List (ByteArray × Int × Int × (List (Int × Int × Int × Int × Int × ByteArray × (List Int) × Unit)) × Unit)) (x12 : Int) (x13 : Int) : impl_UnitsOk.l4 k (n + 1) x0 x11 x12 x13 =
  iteB (decide (x13 < x12)) (iteB (decide (0 ≤ x13)) (iteB (decide (x13 < ((List.length x11) : Int))) (bindO (impl_UnitOk k (List.getD x11 (Int.toNat x13) (Ty.dflt (.pair .str (.pair (.int .i64) (.pair (.int .i64) (.pair (.row (.pair (.int .i64) (.pair (.int .i64) (.pair (.int .i64) (.pair (.int .i64) (.pair (.int .i64) (.pair .str (.pair (.row (.int .i64)) .unit)))))))) .unit))))))) fun r1 => (iteB (!(!r1)) (bindO (impl_unitAt k x0 ((List.getD x11 (Int.toNat x13) (Ty.dflt (.pair .str (.pair (.int .i64) (.pair (.int .i64) (.pair (.row (.pair (.int .i64) (.pair (.int .i64) (.pair (.int .i64) (.pair (.int .i64) (.pair (.int .i64) (.pair .str (.pair (.row (.int .i64)) .unit)))))))) .unit)))))).1)) fun r2 => (iteB (r2 != x13) (some false) (gate k (impl_UnitsOk.j8 k n x0 x11 x12 x13 (List.getD x11 (Int.toNat x13) (Ty.dflt (.pair .str (.pair (.int .i64) (.pair (.int .i64) (.pair (.row (.pair (.int .i64) (.pair (.int .i64) (.pair (.int .i64) (.pair (.int .i64) (.pair (.int .i64) (.pair .str (.pair (.row (.int .i64)) .unit)))))))) .unit)))))))))) (some false))) (none)) (none)) (some true) := by kernel_rfl
theorem impl_UnitsOk.j8_e (k m4 : Nat) (x0 : List (ByteArray × Int × Int × (List (Int × Int × Int × Int × Int × ByteArray × (List Int) × Unit)) × Unit)) (x11 : List (ByteArray × Int × Int × (List (Int × Int × Int × Int × Int × ByteArray × (List Int) × Unit)) × Unit)) (x12 : Int) (x13 : Int) (y0_0 : ByteArray × Int × Int × (List (Int × Int × Int × Int × Int × ByteArray × (List Int) × Unit)) × Unit) : impl_UnitsOk.j8 k m4 x0 x11 x12 x13 y0_0 =
  impl_UnitsOk.l9 k m4 k x0 x11 x12 x13 y0_0.2.2.2.1 ((List.length y0_0.2.2.2.1) : Int) 0 := by kernel_rfl
theorem impl_UnitsOk.l9_0 (k m4 : Nat) (x0 : List (ByteArray × Int × Int × (List (Int × Int × Int × Int × Int × ByteArray × (List Int) × Unit)) × Unit)) (x11 : List (ByteArray × Int × Int × (List (Int × Int × Int × Int × Int × ByteArray × (List Int) × Unit)) × Unit)) (x12 : Int) (x13 : Int) (x30 : List (Int × Int × Int × Int × Int × ByteArray × (List Int) × Unit)) (x31 : Int) (x32 : Int) : impl_UnitsOk.l9 k m4 0 x0 x11 x12 x13 x30 x31 x32 = none := by kernel_rfl
theorem impl_UnitsOk.l9_s (k m4 n : Nat) (x0 : List (ByteArray × Int × Int × (List (Int × Int × Int × Int × Int × ByteArray × (List Int) × Unit)) × Unit)) (x11 : List (ByteArray × Int × Int × (List (Int × Int × Int × Int × Int × ByteArray × (List Int) × Unit)) × Unit)) (x12 : Int) (x13 : Int) (x30 : List (Int × Int × Int × Int × Int × ByteArray × (List Int) × Unit)) (x31 : Int) (x32 : Int) : impl_UnitsOk.l9 k m4 (n + 1) x0 x11 x12 x13 x30 x31 x32 =
  iteB (decide (x32 < x31)) (iteB (decide (0 ≤ x32)) (iteB (decide (x32 < ((List.length x30) : Int))) (bindO (impl_owned k ((List.getD x30 (Int.toNat x32) (Ty.dflt (.pair (.int .i64) (.pair (.int .i64) (.pair (.int .i64) (.pair (.int .i64) (.pair (.int .i64) (.pair .str (.pair (.row (.int .i64)) .unit))))))))).1) 83) fun r3 => (iteB (!r3) (impl_UnitsOk.l9 k m4 n x0 x11 x12 x13 x30 x31 (IntKind.wrap .i64 (x32 + 1))) (bindO (impl_unitAt k x0 (((((((List.getD x30 (Int.toNat x32) (Ty.dflt (.pair (.int .i64) (.pair (.int .i64) (.pair (.int .i64) (.pair (.int .i64) (.pair (.int .i64) (.pair .str (.pair (.row (.int .i64)) .unit))))))))).2).2).2).2).2).1)) fun r4 => (iteB (!(decide (r4 < 0))) (iteB (((List.getD x30 (Int.toNat x32) (Ty.dflt (.pair (.int .i64) (.pair (.int .i64) (.pair (.int .i64) (.pair (.int .i64) (.pair (.int .i64) (.pair .str (.pair (.row (.int .i64)) .unit))))))))).1) != 24) (iteB (decide (0 ≤ r4)) (iteB (decide (r4 < ((List.length x0) : Int))) (iteB (((List.length ((((((((List.getD x30 (Int.toNat x32) (Ty.dflt (.pair (.int .i64) (.pair (.int .i64) (.pair (.int .i64) (.pair (.int .i64) (.pair (.int .i64) (.pair .str (.pair (.row (.int .i64)) .unit))))))))).2).2).2).2).2).2).1)) : Int) != (((List.getD x0 (Int.toNat r4) (Ty.dflt (.pair .str (.pair (.int .i64) (.pair (.int .i64) (.pair (.row (.pair (.int .i64) (.pair (.int .i64) (.pair (.int .i64) (.pair (.int .i64) (.pair (.int .i64) (.pair .str (.pair (.row (.int .i64)) .unit)))))))) .unit)))))).2).1)) (some false) (impl_UnitsOk.l9 k m4 n x0 x11 x12 x13 x30 x31 (IntKind.wrap .i64 (x32 + 1)))) (none)) (none)) (impl_UnitsOk.l9 k m4 n x0 x11 x12 x13 x30 x31 (IntKind.wrap .i64 (x32 + 1)))) (some false))))) (none)) (none)) (impl_UnitsOk.l4 k m4 x0 x11 x12 (IntKind.wrap .i64 (x13 + 1))) := by kernel_rfl
theorem impl_UnitsOk_e (k : Nat) (a1 : List (ByteArray × Int × Int × (List (Int × Int × Int × Int × Int × ByteArray × (List Int) × Unit)) × Unit)) : impl_UnitsOk k a1 =
  iteB (decide (((List.length a1) : Int) > 80)) (some false) (impl_UnitsOk.l4 k k a1 a1 ((List.length a1) : Int) 0) := by kernel_rfl
theorem E_impl_UnitsOk_calls (k : Nat) : CallsOk Tryz.prog (E_impl_UnitsOk k) (arun Tryz.prog (E_impl_UnitsOk k) k) := by
  refine told_run (tyTOk _ _) ?_ (fun run h => regOk (tyTOk _ _) mixOk h) ?_ nameOk k
  · intro g m hg
    simp only [E_impl_UnitsOk] at hg
    split at hg
    · cases hg
      refine con_byVal fun ρ l K x hm => ?_
      split at hm
      · obtain ⟨c1, h1, hm⟩ := Option.bind_eq_some_iff.1 hm
        obtain ⟨r, hr, hm⟩ := Option.bind_eq_some_iff.1 hm
        exact ⟨_, hm, LawV.reads (.cons (.as h1) .nil) (impl_UnitOk_law k c1 r hr)⟩
      · cases hm
    · cases hg
      refine con_byVal fun ρ l K x hm => ?_
      split at hm
      · obtain ⟨c1, h1, hm⟩ := Option.bind_eq_some_iff.1 hm
        obtain ⟨c2, h2, hm⟩ := Option.bind_eq_some_iff.1 hm
        obtain ⟨r, hr, hm⟩ := Option.bind_eq_some_iff.1 hm
        exact ⟨_, hm, LawV.reads (.cons (.as h1) (.cons (.as h2) .nil)) (impl_unitAt_law k c1 c2 r hr)⟩
      · cases hm
    · cases hg
      refine con_byVal fun ρ l K x hm => ?_
      split at hm
      · obtain ⟨c1, h1, hm⟩ := Option.bind_eq_some_iff.1 hm
        obtain ⟨c2, h2, hm⟩ := Option.bind_eq_some_iff.1 hm
        obtain ⟨r, hr, hm⟩ := Option.bind_eq_some_iff.1 hm
        exact ⟨_, hm, LawV.reads (.cons (.as h1) (.cons (.as h2) .nil)) (impl_owned_law k c1 c2 r hr)⟩
      · cases hm
    · cases hg; exact noCon_ok
    · cases hg
  · intro g hg r
    by_cases h : g = 38
    · subst h; simp [E_impl_UnitsOk] at hg
    · simp [E_impl_UnitsOk, h]
theorem f38_okimpl_UnitsOk : Tryz.prog.funcs[38]? = some Tryz.f38 := by kernel_rfl
theorem impl_UnitsOk_law (k : Nat) (a1 : List (ByteArray × Int × Int × (List (Int × Int × Int × Int × Int × ByteArray × (List Int) × Unit)) × Unit)) (x : Bool) (h : impl_UnitsOk k a1 = some x) : LawV Tryz.prog 38 [.tv (.row (.pair .str (.pair (.int .i64) (.pair (.int .i64) (.pair (.row (.pair (.int .i64) (.pair (.int .i64) (.pair (.int .i64) (.pair (.int .i64) (.pair (.int .i64) (.pair .str (.pair (.row (.int .i64)) .unit)))))))) .unit))))) a1] (tvn .bool x) := by
  unfold impl_UnitsOk at h
  exact law1 (t := .bool) (tyTOk _ _) (E_impl_UnitsOk_calls k) mixOk f38_okimpl_UnitsOk (nameOk _ _ f38_okimpl_UnitsOk) (by kernel_rfl) h
/-! impl.wordsOk$1 -/
noncomputable def E_impl_wordsOk_1 (k : Nat) : Env := ⟨ty, fun g => match g with
  | 47 => some (byVal fun ρ l K => match l with
    | [b1] => (b1.as (.int .i64)).bind fun c1 => (impl_WordOk k c1).bind fun r => K (tvn .bool r)
    | _ => none)
  | _ => none, fun _ _ => none⟩
noncomputable def impl_wordsOk_1 (k : Nat) (a1 : Int) : Option (Bool) :=
  abody (E_impl_wordsOk_1 k) (arun Tryz.prog (E_impl_wordsOk_1 k) k) k 71 Tryz.f71 [.int .i64 a1] [] (fin1 .bool)
theorem impl_wordsOk_1_e (k : Nat) (a1 : Int) : impl_wordsOk_1 k a1 =
  bindO (impl_WordOk k a1) fun r1 => (some (!r1)) := by kernel_rfl
theorem E_impl_wordsOk_1_calls (k : Nat) : CallsOk Tryz.prog (E_impl_wordsOk_1 k) (arun Tryz.prog (E_impl_wordsOk_1 k) k) := by
  refine told_run (tyTOk _ _) ?_ (fun run h => regOk (tyTOk _ _) mixOk h) ?_ nameOk k
  · intro g m hg
    simp only [E_impl_wordsOk_1] at hg
    split at hg
    · cases hg
      refine con_byVal fun ρ l K x hm => ?_
      split at hm
      · obtain ⟨c1, h1, hm⟩ := Option.bind_eq_some_iff.1 hm
        obtain ⟨r, hr, hm⟩ := Option.bind_eq_some_iff.1 hm
        exact ⟨_, hm, LawV.reads (.cons (.as h1) .nil) (impl_WordOk_law k c1 r hr)⟩
      · cases hm
    · cases hg
  · intro g _ r; rfl
theorem f71_okimpl_wordsOk_1 : Tryz.prog.funcs[71]? = some Tryz.f71 := by kernel_rfl
theorem impl_wordsOk_1_law (k : Nat) (a1 : Int) (x : Bool) (h : impl_wordsOk_1 k a1 = some x) : LawV Tryz.prog 71 [.int .i64 a1] (tvn .bool x) := by
  unfold impl_wordsOk_1 at h
  exact law1 (t := .bool) (tyTOk _ _) (E_impl_wordsOk_1_calls k) mixOk f71_okimpl_wordsOk_1 (nameOk _ _ f71_okimpl_wordsOk_1) (by kernel_rfl) h
/-! slices.IndexFunc[[]int,int] -/
noncomputable def E_slices_IndexFunc_int__impl_wordsOk_1 (k : Nat) : Env := ⟨ty, fun g => match g with
  | 71 => some (byVal fun ρ l K => match l with
    | [b1] => (b1.as (.int .i64)).bind fun c1 => (impl_wordsOk_1 k c1).bind fun r => K (tvn .bool r)
    | _ => none)
  | 93 => some noCon
  | _ => none, fun f r => match f with | 93 => (match r with | 2 => some [0, 1, 7, 8] | _ => none) | _ => none⟩
noncomputable def slices_IndexFunc_int__impl_wordsOk_1 (k : Nat) (a1 : List Int) : Option (Int) :=
  abody (E_slices_IndexFunc_int__impl_wordsOk_1 k) (arun Tryz.prog (E_slices_IndexFunc_int__impl_wordsOk_1 k) k) k 93 Tryz.f93 [.tv (.row (.int .i64)) a1, .fn 71 []] [] (fin1 (.int .i64))
noncomputable def slices_IndexFunc_int__impl_wordsOk_1.l2 (k n : Nat) (x0 : List Int) (x7 : Int) (x8 : Int) : Option (Int) :=
  resume (E_slices_IndexFunc_int__impl_wordsOk_1 k) 93 (acall (E_slices_IndexFunc_int__impl_wordsOk_1 k) (arun Tryz.prog (E_slices_IndexFunc_int__impl_wordsOk_1 k) k)) k [true, false, true, true] [n] (bodyOf Tryz.f93) ⟨[.tv (.row (.int .i64)) x0, .fn 71 [], .undef, .undef, .undef, .undef, .undef, .int .i64 x7, .int .i64 x8, .undef, .undef, .undef, .undef, .undef, .undef, .undef, .undef, .undef, .undef], []⟩ (leave (E_slices_IndexFunc_int__impl_wordsOk_1 k) Tryz.f93 (fin1 (.int .i64)))
theorem slices_IndexFunc_int__impl_wordsOk_1.l2_0 (k : Nat) (x0 : List Int) (x7 : Int) (x8 : Int) : slices_IndexFunc_int__impl_wordsOk_1.l2 k 0 x0 x7 x8 = none := by kernel_rfl
theorem slices_IndexFunc_int__impl_wordsOk_1.l2_s (k n : Nat) (x0 : List Int) (x7 : Int) (x8 : Int) : slices_IndexFunc_int__impl_wordsOk_1.l2 k (n + 1) x0 x7 x8 =
  iteB (decide (x8 < x7)) (iteB (decide (0 ≤ x8)) (iteB (decide (x8 < ((List.length x0) : Int))) (bindO (impl_wordsOk_1 k (List.getD x0 (Int.toNat x8) 0)) fun r1 => (iteB r1 (some x8) (slices_IndexFunc_int__impl_wordsOk_1.l2 k n x0 x7 (IntKind.wrap .i64 (x8 + 1))))) (none)) (none)) (some (-1)) := by kernel_rfl
theorem slices_IndexFunc_int__impl_wordsOk_1_e (k : Nat) (a1 : List Int) : slices_IndexFunc_int__impl_wordsOk_1 k a1 =
  slices_IndexFunc_int__impl_wordsOk_1.l2 k k a1 ((List.length a1) : Int) 0 := by kernel_rfl
theorem E_slices_IndexFunc_int__impl_wordsOk_1_calls (k : Nat) : CallsOk Tryz.prog (E_slices_IndexFunc_int__impl_wordsOk_1 k) (arun Tryz.prog (E_slices_IndexFunc_int__impl_wordsOk_1 k) k) := by
  refine told_run (tyTOk _ _) ?_ (fun run h => regOk (tyTOk _ _) mixOk h) ?_ nameOk k
  · intro g m hg
    simp only [E_slices_IndexFunc_int__impl_wordsOk_1] at hg
    split at hg
    · cases hg
      refine con_byVal fun ρ l K x hm => ?_
      split at hm
      · obtain ⟨c1, h1, hm⟩ := Option.bind_eq_some_iff.1 hm
        obtain ⟨r, hr, hm⟩ := Option.bind_eq_some_iff.1 hm
        exact ⟨_, hm, LawV.reads (.cons (.as h1) .nil) (impl_wordsOk_1_law k c1 r hr)⟩
      · cases hm
    · cases hg; exact noCon_ok
    · cases hg
  · intro g hg r
    by_cases h : g = 93
    · subst h; simp [E_slices_IndexFunc_int__impl_wordsOk_1] at hg
    · simp [E_slices_IndexFunc_int__impl_wordsOk_1, h]
theorem f93_okslices_IndexFunc_int__impl_wordsOk_1 : Tryz.prog.funcs[93]? = some Tryz.f93 := by kernel_rfl
theorem slices_IndexFunc_int__impl_wordsOk_1_law (k : Nat) (a1 : List Int) (x : Int) (h : slices_IndexFunc_int__impl_wordsOk_1 k a1 = some x) : LawV Tryz.prog 93 [.tv (.row (.int .i64)) a1, .fn 71 []] (tvn (.int .i64) x) := by
  unfold slices_IndexFunc_int__impl_wordsOk_1 at h
  exact law1 (t := (.int .i64)) (tyTOk _ _) (E_slices_IndexFunc_int__impl_wordsOk_1_calls k) mixOk f93_okslices_IndexFunc_int__impl_wordsOk_1 (nameOk _ _ f93_okslices_IndexFunc_int__impl_wordsOk_1) (by kernel_rfl) h
/-! slices.ContainsFunc[[]int,int] -/
noncomputable def E_slices_ContainsFunc_int__impl_wordsOk_1 (k : Nat) : Env := ⟨ty, fun g => match g with
  | 93 => some (byVal fun ρ l K => match l with
    | [b1, .fn 71 []] => (b1.as (.row (.int .i64))).bind fun c1 => (slices_IndexFunc_int__impl_wordsOk_1 k c1).bind fun r => K (tvn (.int .i64) r)
    | _ => none)
  | _ => none, fun _ _ => none⟩
noncomputable def slices_ContainsFunc_int__impl_wordsOk_1 (k : Nat) (a1 : List Int) : Option (Bool) :=
  abody (E_slices_ContainsFunc_int__impl_wordsOk_1 k) (arun Tryz.prog (E_slices_ContainsFunc_int__impl_wordsOk_1 k) k) k 70 Tryz.f70 [.tv (.row (.int .i64)) a1, .fn 71 []] [] (fin1 .bool)
theorem slices_ContainsFunc_int__impl_wordsOk_1_e (k : Nat) (a1 : List Int) : slices_ContainsFunc_int__impl_wordsOk_1 k a1 =
  bindO (slices_IndexFunc_int__impl_wordsOk_1 k a1) fun r1 => (some (decide (r1 ≥ 0))) := by kernel_rfl
theorem E_slices_ContainsFunc_int__impl_wordsOk_1_calls (k : Nat) : CallsOk Tryz.prog (E_slices_ContainsFunc_int__impl_wordsOk_1 k) (arun Tryz.prog (E_slices_ContainsFunc_int__impl_wordsOk_1 k) k) := by
  refine told_run (tyTOk _ _) ?_ (fun run h => regOk (tyTOk _ _) mixOk h) ?_ nameOk k
  · intro g m hg
    simp only [E_slices_ContainsFunc_int__impl_wordsOk_1] at hg
    split at hg
    · cases hg
      refine con_byVal fun ρ l K x hm => ?_
      split at hm
      · obtain ⟨c1, h1, hm⟩ := Option.bind_eq_some_iff.1 hm
        obtain ⟨r, hr, hm⟩ := Option.bind_eq_some_iff.1 hm
        exact ⟨_, hm, LawV.reads (.cons (.as h1) (.cons (.fn .nil) .nil)) (slices_IndexFunc_int__impl_wordsOk_1_law k c1 r hr)⟩
      · cases hm
    · cases hg
  · intro g _ r; rfl
theorem f70_okslices_ContainsFunc_int__impl_wordsOk_1 : Tryz.prog.funcs[70]? = some Tryz.f70 := by kernel_rfl
theorem slices_ContainsFunc_int__impl_wordsOk_1_law (k : Nat) (a1 : List Int) (x : Bool) (h : slices_ContainsFunc_int__impl_wordsOk_1 k a1 = some x) : LawV Tryz.prog 70 [.tv (.row (.int .i64)) a1, .fn 71 []] (tvn .bool x) := by
  unfold slices_ContainsFunc_int__impl_wordsOk_1 at h
  exact law1 (t := .bool) (tyTOk _ _) (E_slices_ContainsFunc_int__impl_wordsOk_1_calls k) mixOk f70_okslices_ContainsFunc_int__impl_wordsOk_1 (nameOk _ _ f70_okslices_ContainsFunc_int__impl_wordsOk_1) (by kernel_rfl) h
/-! impl.wordsOk -/
noncomputable def E_impl_wordsOk (k : Nat) : Env := ⟨ty, fun g => match g with
  | 70 => some (byVal fun ρ l K => match l with
    | [b1, .fn 71 []] => (b1.as (.row (.int .i64))).bind fun c1 => (slices_ContainsFunc_int__impl_wordsOk_1 k c1).bind fun r => K (tvn .bool r)
    | _ => none)
  | _ => none, fun _ _ => none⟩
noncomputable def impl_wordsOk (k : Nat) (a1 : List Int) (a2 : Int) : Option (Bool) :=
  abody (E_impl_wordsOk k) (arun Tryz.prog (E_impl_wordsOk k) k) k 46 Tryz.f46 [.tv (.row (.int .i64)) a1, .int .i64 a2] [] (fin1 .bool)
theorem impl_wordsOk_e (k : Nat) (a1 : List Int) (a2 : Int) : impl_wordsOk k a1 a2 =
  iteB (decide (((List.length a1) : Int) ≤ a2)) (bindO (slices_ContainsFunc_int__impl_wordsOk_1 k a1) fun r1 => (some (!r1))) (some false) := by kernel_rfl
theorem E_impl_wordsOk_calls (k : Nat) : CallsOk Tryz.prog (E_impl_wordsOk k) (arun Tryz.prog (E_impl_wordsOk k) k) := by
  refine told_run (tyTOk _ _) ?_ (fun run h => regOk (tyTOk _ _) mixOk h) ?_ nameOk k
  · intro g m hg
    simp only [E_impl_wordsOk] at hg
    split at hg
    · cases hg
      refine con_byVal fun ρ l K x hm => ?_
      split at hm
      · obtain ⟨c1, h1, hm⟩ := Option.bind_eq_some_iff.1 hm
        obtain ⟨r, hr, hm⟩ := Option.bind_eq_some_iff.1 hm
        exact ⟨_, hm, LawV.reads (.cons (.as h1) (.cons (.fn .nil) .nil)) (slices_ContainsFunc_int__impl_wordsOk_1_law k c1 r hr)⟩
      · cases hm
    · cases hg
  · intro g _ r; rfl
theorem f46_okimpl_wordsOk : Tryz.prog.funcs[46]? = some Tryz.f46 := by kernel_rfl
theorem impl_wordsOk_law (k : Nat) (a1 : List Int) (a2 : Int) (x : Bool) (h : impl_wordsOk k a1 a2 = some x) : LawV Tryz.prog 46 [.tv (.row (.int .i64)) a1, .int .i64 a2] (tvn .bool x) := by
  unfold impl_wordsOk at h
  exact law1 (t := .bool) (tyTOk _ _) (E_impl_wordsOk_calls k) mixOk f46_okimpl_wordsOk (nameOk _ _ f46_okimpl_wordsOk) (by kernel_rfl) h
/-! impl.isDst -/
noncomputable def E_impl_isDst (k : Nat) : Env := ⟨ty, fun g => match g with
  | 39 => some (byVal fun ρ l K => match l with
    | [b1, b2, b3] => (b1.as (.int .i64)).bind fun c1 => (b2.as (.int .i64)).bind fun c2 => (b3.as (.int .i64)).bind fun c3 => (impl_within k c1 c2 c3).bind fun r => K (tvn .bool r)
    | _ => none)
  | _ => none, fun _ _ => none⟩
noncomputable def impl_isDst (k : Nat) (a1 : Int) : Option (Bool) :=
  abody (E_impl_isDst k) (arun Tryz.prog (E_impl_isDst k) k) k 67 Tryz.f67 [.int .i64 a1] [] (fin1 .bool)
theorem impl_isDst_e (k : Nat) (a1 : Int) : impl_isDst k a1 =
  bindO (impl_within k a1 (-1) 249) fun r1 => (some r1) := by kernel_rfl
theorem E_impl_isDst_calls (k : Nat) : CallsOk Tryz.prog (E_impl_isDst k) (arun Tryz.prog (E_impl_isDst k) k) := by
  refine told_run (tyTOk _ _) ?_ (fun run h => regOk (tyTOk _ _) mixOk h) ?_ nameOk k
  · intro g m hg
    simp only [E_impl_isDst] at hg
    split at hg
    · cases hg
      refine con_byVal fun ρ l K x hm => ?_
      split at hm
      · obtain ⟨c1, h1, hm⟩ := Option.bind_eq_some_iff.1 hm
        obtain ⟨c2, h2, hm⟩ := Option.bind_eq_some_iff.1 hm
        obtain ⟨c3, h3, hm⟩ := Option.bind_eq_some_iff.1 hm
        obtain ⟨r, hr, hm⟩ := Option.bind_eq_some_iff.1 hm
        exact ⟨_, hm, LawV.reads (.cons (.as h1) (.cons (.as h2) (.cons (.as h3) .nil))) (impl_within_law k c1 c2 c3 r hr)⟩
      · cases hm
    · cases hg
  · intro g _ r; rfl
theorem f67_okimpl_isDst : Tryz.prog.funcs[67]? = some Tryz.f67 := by kernel_rfl
theorem impl_isDst_law (k : Nat) (a1 : Int) (x : Bool) (h : impl_isDst k a1 = some x) : LawV Tryz.prog 67 [.int .i64 a1] (tvn .bool x) := by
  unfold impl_isDst at h
  exact law1 (t := .bool) (tyTOk _ _) (E_impl_isDst_calls k) mixOk f67_okimpl_isDst (nameOk _ _ f67_okimpl_isDst) (by kernel_rfl) h
/-! impl.frameOk -/
noncomputable def E_impl_frameOk (k : Nat) : Env := ⟨ty, fun g => match g with
  | 39 => some (byVal fun ρ l K => match l with
    | [b1, b2, b3] => (b1.as (.int .i64)).bind fun c1 => (b2.as (.int .i64)).bind fun c2 => (b3.as (.int .i64)).bind fun c3 => (impl_within k c1 c2 c3).bind fun r => K (tvn .bool r)
    | _ => none)
  | 46 => some (byVal fun ρ l K => match l with
    | [b1, b2] => (b1.as (.row (.int .i64))).bind fun c1 => (b2.as (.int .i64)).bind fun c2 => (impl_wordsOk k c1 c2).bind fun r => K (tvn .bool r)
    | _ => none)
  | 67 => some (byVal fun ρ l K => match l with
    | [b1] => (b1.as (.int .i64)).bind fun c1 => (impl_isDst k c1).bind fun r => K (tvn .bool r)
    | _ => none)
  | _ => none, fun _ _ => none⟩
noncomputable def impl_frameOk (k : Nat) (a1 : List (ByteArray × Int × Int × (List (Int × Int × Int × Int × Int × ByteArray × (List Int) × Unit)) × Unit)) (a2 : Int × Int × (List Int) × Int × Unit) : Option (Bool) :=
  abody (E_impl_frameOk k) (arun Tryz.prog (E_impl_frameOk k) k) k 66 Tryz.f66 [.tv (.row (.pair .str (.pair (.int .i64) (.pair (.int .i64) (.pair (.row (.pair (.int .i64) (.pair (.int .i64) (.pair (.int .i64) (.pair (.int .i64) (.pair (.int .i64) (.pair .str (.pair (.row (.int .i64)) .unit)))))))) .unit))))) a1, .tv (.pair (.int .i64) (.pair (.int .i64) (.pair (.row (.int .i64)) (.pair (.int .i64) .unit)))) a2] [] (fin1 .bool)
theorem impl_frameOk_e (k : Nat) (a1 : List (ByteArray × Int × Int × (List (Int × Int × Int × Int × Int × ByteArray × (List Int) × Unit)) × Unit)) (a2 : Int × Int × (List Int) × Int × Unit) : impl_frameOk k a1 a2 =
  bindO (impl_within k a2.1 0 (IntKind.wrap .i64 (((List.length a1) : Int) - 1))) fun r1 => (iteB r1 (iteB (decide (0 ≤ a2.1)) (iteB (decide (a2.1 < ((List.length a1) : Int))) (bindO (impl_within k a2.2.1 0 (IntKind.wrap .i64 (((List.length (((((List.getD a1 (Int.toNat a2.1) (Ty.dflt (.pair .str (.pair (.int .i64) (.pair (.int .i64) (.pair (.row (.pair (.int .i64) (.pair (.int .i64) (.pair (.int .i64) (.pair (.int .i64) (.pair (.int .i64) (.pair .str (.pair (.row (.int .i64)) .unit)))))))) .unit)))))).2).2).2).1)) : Int) - 1))) fun r2 => (iteB r2 (iteB (decide (0 ≤ a2.1)) (iteB (decide (a2.1 < ((List.length a1) : Int))) (iteB (((List.length a2.2.2.1) : Int) == ((((List.getD a1 (Int.toNat a2.1) (Ty.dflt (.pair .str (.pair (.int .i64) (.pair (.int .i64) (.pair (.row (.pair (.int .i64) (.pair (.int .i64) (.pair (.int .i64) (.pair (.int .i64) (.pair (.int .i64) (.pair .str (.pair (.row (.int .i64)) .unit)))))))) .unit)))))).2).2).1)) (bindO (impl_wordsOk k a2.2.2.1 250) fun r3 => (iteB r3 (bindO (impl_isDst k a2.2.2.2.1) fun r4 => (some r4)) (some false))) (some false)) (none)) (none)) (some false))) (none)) (none)) (some false)) := by kernel_rfl
theorem E_impl_frameOk_calls (k : Nat) : CallsOk Tryz.prog (E_impl_frameOk k) (arun Tryz.prog (E_impl_frameOk k) k) := by
  refine told_run (tyTOk _ _) ?_ (fun run h => regOk (tyTOk _ _) mixOk h) ?_ nameOk k
  · intro g m hg
    simp only [E_impl_frameOk] at hg
    split at hg
    · cases hg
      refine con_byVal fun ρ l K x hm => ?_
      split at hm
      · obtain ⟨c1, h1, hm⟩ := Option.bind_eq_some_iff.1 hm
        obtain ⟨c2, h2, hm⟩ := Option.bind_eq_some_iff.1 hm
        obtain ⟨c3, h3, hm⟩ := Option.bind_eq_some_iff.1 hm
        obtain ⟨r, hr, hm⟩ := Option.bind_eq_some_iff.1 hm
        exact ⟨_, hm, LawV.reads (.cons (.as h1) (.cons (.as h2) (.cons (.as h3) .nil))) (impl_within_law k c1 c2 c3 r hr)⟩
      · cases hm
    · cases hg
      refine con_byVal fun ρ l K x hm => ?_
      split at hm
      · obtain ⟨c1, h1, hm⟩ := Option.bind_eq_some_iff.1 hm
        obtain ⟨c2, h2, hm⟩ := Option.bind_eq_some_iff.1 hm
        obtain ⟨r, hr, hm⟩ := Option.bind_eq_some_iff.1 hm
        exact ⟨_, hm, LawV.reads (.cons (.as h1) (.cons (.as h2) .nil)) (impl_wordsOk_law k c1 c2 r hr)⟩
      · cases hm
    · cases hg
      refine con_byVal fun ρ l K x hm => ?_
      split at hm
      · obtain ⟨c1, h1, hm⟩ := Option.bind_eq_some_iff.1 hm
        obtain ⟨r, hr, hm⟩ := Option.bind_eq_some_iff.1 hm
        exact ⟨_, hm, LawV.reads (.cons (.as h1) .nil) (impl_isDst_law k c1 r hr)⟩
      · cases hm
    · cases hg
  · intro g _ r; rfl
theorem f66_okimpl_frameOk : Tryz.prog.funcs[66]? = some Tryz.f66 := by kernel_rfl
theorem impl_frameOk_law (k : Nat) (a1 : List (ByteArray × Int × Int × (List (Int × Int × Int × Int × Int × ByteArray × (List Int) × Unit)) × Unit)) (a2 : Int × Int × (List Int) × Int × Unit) (x : Bool) (h : impl_frameOk k a1 a2 = some x) : LawV Tryz.prog 66 [.tv (.row (.pair .str (.pair (.int .i64) (.pair (.int .i64) (.pair (.row (.pair (.int .i64) (.pair (.int .i64) (.pair (.int .i64) (.pair (.int .i64) (.pair (.int .i64) (.pair .str (.pair (.row (.int .i64)) .unit)))))))) .unit))))) a1, .tv (.pair (.int .i64) (.pair (.int .i64) (.pair (.row (.int .i64)) (.pair (.int .i64) .unit)))) a2] (tvn .bool x) := by
  unfold impl_frameOk at h
  exact law1 (t := .bool) (tyTOk _ _) (E_impl_frameOk_calls k) mixOk f66_okimpl_frameOk (nameOk _ _ f66_okimpl_frameOk) (by kernel_rfl) h
/-! impl.bodyOk$1 -/
noncomputable def E_impl_bodyOk_1_vbp (k : Nat) : Env := ⟨ty, fun g => match g with
  | 66 => some (byVal fun ρ l K => match l with
    | [b1, b2] => (b1.as (.row (.pair .str (.pair (.int .i64) (.pair (.int .i64) (.pair (.row (.pair (.int .i64) (.pair (.int .i64) (.pair (.int .i64) (.pair (.int .i64) (.pair (.int .i64) (.pair .str (.pair (.row (.int .i64)) .unit)))))))) .unit)))))).bind fun c1 => (b2.as (.pair (.int .i64) (.pair (.int .i64) (.pair (.row (.int .i64)) (.pair (.int .i64) .unit))))).bind fun c2 => (impl_frameOk k c1 c2).bind fun r => K (tvn .bool r)
    | _ => none)
  | _ => none, fun _ _ => none⟩
noncomputable def impl_bodyOk_1_vbp (k : Nat) (a1 : Int × Int × (List Int) × Int × Unit) (a2 : List (ByteArray × Int × Int × (List (Int × Int × Int × Int × Int × ByteArray × (List Int) × Unit)) × Unit)) : Option (Bool) :=
  abody (E_impl_bodyOk_1_vbp k) (arun Tryz.prog (E_impl_bodyOk_1_vbp k) k) k 65 Tryz.f65 [.tv (.pair (.int .i64) (.pair (.int .i64) (.pair (.row (.int .i64)) (.pair (.int .i64) .unit)))) a1, .bp [.tv (.row (.pair .str (.pair (.int .i64) (.pair (.int .i64) (.pair (.row (.pair (.int .i64) (.pair (.int .i64) (.pair (.int .i64) (.pair (.int .i64) (.pair (.int .i64) (.pair .str (.pair (.row (.int .i64)) .unit)))))))) .unit))))) a2] 0] [] (fin1 .bool)
theorem impl_bodyOk_1_vbp_e (k : Nat) (a1 : Int × Int × (List Int) × Int × Unit) (a2 : List (ByteArray × Int × Int × (List (Int × Int × Int × Int × Int × ByteArray × (List Int) × Unit)) × Unit)) : impl_bodyOk_1_vbp k a1 a2 =
  bindO (impl_frameOk k a2 a1) fun r1 => (some (!r1)) := by kernel_rfl
theorem E_impl_bodyOk_1_vbp_calls (k : Nat) : CallsOk Tryz.prog (E_impl_bodyOk_1_vbp k) (arun Tryz.prog (E_impl_bodyOk_1_vbp k) k) := by
  refine told_run (tyTOk _ _) ?_ (fun run h => regOk (tyTOk _ _) mixOk h) ?_ nameOk k
  · intro g m hg
    simp only [E_impl_bodyOk_1_vbp] at hg
    split at hg
    · cases hg
      refine con_byVal fun ρ l K x hm => ?_
      split at hm
      · obtain ⟨c1, h1, hm⟩ := Option.bind_eq_some_iff.1 hm
        obtain ⟨c2, h2, hm⟩ := Option.bind_eq_some_iff.1 hm
        obtain ⟨r, hr, hm⟩ := Option.bind_eq_some_iff.1 hm
        exact ⟨_, hm, LawV.reads (.cons (.as h1) (.cons (.as h2) .nil)) (impl_frameOk_law k c1 c2 r hr)⟩
      · cases hm
    · cases hg
  · intro g _ r; rfl
theorem f65_okimpl_bodyOk_1_vbp : Tryz.prog.funcs[65]? = some Tryz.f65 := by kernel_rfl
theorem impl_bodyOk_1_vbp_law (k : Nat) (a1 : Int × Int × (List Int) × Int × Unit) (a2 : List (ByteArray × Int × Int × (List (Int × Int × Int × Int × Int × ByteArray × (List Int) × Unit)) × Unit)) (x : Bool) (h : impl_bodyOk_1_vbp k a1 a2 = some x) : LawV Tryz.prog 65 [.tv (.pair (.int .i64) (.pair (.int .i64) (.pair (.row (.int .i64)) (.pair (.int .i64) .unit)))) a1, .bp [.tv (.row (.pair .str (.pair (.int .i64) (.pair (.int .i64) (.pair (.row (.pair (.int .i64) (.pair (.int .i64) (.pair (.int .i64) (.pair (.int .i64) (.pair (.int .i64) (.pair .str (.pair (.row (.int .i64)) .unit)))))))) .unit))))) a2] 0] (tvn .bool x) := by
  unfold impl_bodyOk_1_vbp at h
  exact law1 (t := .bool) (tyTOk _ _) (E_impl_bodyOk_1_vbp_calls k) mixOk f65_okimpl_bodyOk_1_vbp (nameOk _ _ f65_okimpl_bodyOk_1_vbp) (by kernel_rfl) h
/-! slices.IndexFunc[[]impl.Frame,impl.Frame] -/
noncomputable def E_slices_IndexFunc_impl_Frame__impl_bodyOk_1 (k : Nat) : Env := ⟨ty, fun g => match g with
  | 65 => some (byVal fun ρ l K => match l with
    | [b1, .bp [b2] 0] => (b1.as (.pair (.int .i64) (.pair (.int .i64) (.pair (.row (.int .i64)) (.pair (.int .i64) .unit))))).bind fun c1 => (b2.as (.row (.pair .str (.pair (.int .i64) (.pair (.int .i64) (.pair (.row (.pair (.int .i64) (.pair (.int .i64) (.pair (.int .i64) (.pair (.int .i64) (.pair (.int .i64) (.pair .str (.pair (.row (.int .i64)) .unit)))))))) .unit)))))).bind fun c2 => (impl_bodyOk_1_vbp k c1 c2).bind fun r => K (tvn .bool r)
    | _ => none)
  | 90 => some noCon
  | _ => none, fun f r => match f with | 90 => (match r with | 2 => some [0, 1, 7, 8] | _ => none) | _ => none⟩
noncomputable def slices_IndexFunc_impl_Frame__impl_bodyOk_1 (k : Nat) (a1 : List (Int × Int × (List Int) × Int × Unit)) (a2 : List (ByteArray × Int × Int × (List (Int × Int × Int × Int × Int × ByteArray × (List Int) × Unit)) × Unit)) : Option (Int) :=
  abody (E_slices_IndexFunc_impl_Frame__impl_bodyOk_1 k) (arun Tryz.prog (E_slices_IndexFunc_impl_Frame__impl_bodyOk_1 k) k) k 90 Tryz.f90 [.tv (.row (.pair (.int .i64) (.pair (.int .i64) (.pair (.row (.int .i64)) (.pair (.int .i64) .unit))))) a1, .fn 65 [.bp [.tv (.row (.pair .str (.pair (.int .i64) (.pair (.int .i64) (.pair (.row (.pair (.int .i64) (.pair (.int .i64) (.pair (.int .i64) (.pair (.int .i64) (.pair (.int .i64) (.pair .str (.pair (.row (.int .i64)) .unit)))))))) .unit))))) a2] 0]] [] (fin1 (.int .i64))
noncomputable def slices_IndexFunc_impl_Frame__impl_bodyOk_1.l2 (k n : Nat) (x0 : List (Int × Int × (List Int) × Int × Unit)) (x1_0_0 : List (ByteArray × Int × Int × (List (Int × Int × Int × Int × Int × ByteArray × (List Int) × Unit)) × Unit)) (x7 : Int) (x8 : Int) : Option (Int) :=
  resume (E_slices_IndexFunc_impl_Frame__impl_bodyOk_1 k) 90 (acall (E_slices_IndexFunc_impl_Frame__impl_bodyOk_1 k) (arun Tryz.prog (E_slices_IndexFunc_impl_Frame__impl_bodyOk_1 k) k)) k [true, false, true, true] [n] (bodyOf Tryz.f90) ⟨[.tv (.row (.pair (.int .i64) (.pair (.int .i64) (.pair (.row (.int .i64)) (.pair (.int .i64) .unit))))) x0, .fn 65 [.bp [.tv (.row (.pair .str (.pair (.int .i64) (.pair (.int .i64) (.pair (.row (.pair (.int .i64) (.pair (.int .i64) (.pair (.int .i64) (.pair (.int .i64) (.pair (.int .i64) (.pair .str (.pair (.row (.int .i64)) .unit)))))))) .unit))))) x1_0_0] 0], .undef, .undef, .undef, .undef, .undef, .int .i64 x7, .int .i64 x8, .undef, .undef, .undef, .undef, .undef, .undef, .undef, .undef, .undef, .undef], []⟩ (leave (E_slices_IndexFunc_impl_Frame__impl_bodyOk_1 k) Tryz.f90 (fin1 (.int .i64)))
theorem slices_IndexFunc_impl_Frame__impl_bodyOk_1.l2_0 (k : Nat) (x0 : List (Int × Int × (List Int) × Int × Unit)) (x1_0_0 : List (ByteArray × Int × Int × (List (Int × Int × Int × Int × Int × ByteArray × (List Int) × Unit)) × Unit)) (x7 : Int) (x8 : Int) : slices_IndexFunc_impl_Frame__impl_bodyOk_1.l2 k 0 x0 x1_0_0 x7 x8 = none := by kernel_rfl
theorem slices_IndexFunc_impl_Frame__impl_bodyOk_1.l2_s (k n : Nat) (x0 : List (Int × Int × (List Int) × Int × Unit)) (x1_0_0 : List (ByteArray × Int × Int × (List (Int × Int × Int × Int × Int × ByteArray × (List Int) × Unit)) × Unit)) (x7 : Int) (x8 : Int) : slices_IndexFunc_impl_Frame__impl_bodyOk_1.l2 k (n + 1) x0 x1_0_0 x7 x8 =
  iteB (decide (x8 < x7)) (iteB (decide (0 ≤ x8)) (iteB (decide (x8 < ((List.length x0) : Int))) (bindO (impl_bodyOk_1_vbp k (List.getD x0 (Int.toNat x8) (Ty.dflt (.pair (.int .i64) (.pair (.int .i64) (.pair (.row (.int .i64)) (.pair (.int .i64) .unit)))))) x1_0_0) fun r1 => (iteB r1 (some x8) (slices_IndexFunc_impl_Frame__impl_bodyOk_1.l2 k n x0 x1_0_0 x7 (IntKind.wrap .i64 (x8 + 1))))) (none)) (none)) (some (-1)) := by kernel_rfl
theorem slices_IndexFunc_impl_Frame__impl_bodyOk_1_e (k : Nat) (a1 : List (Int × Int × (List Int) × Int × Unit)) (a2 : List (ByteArray × Int × Int × (List (Int × Int × Int × Int × Int × ByteArray × (List Int) × Unit)) × Unit)) : slices_IndexFunc_impl_Frame__impl_bodyOk_1 k a1 a2 =
  slices_IndexFunc_impl_Frame__impl_bodyOk_1.l2 k k a1 a2 ((List.length a1) : Int) 0 := by kernel_rfl
theorem E_slices_IndexFunc_impl_Frame__impl_bodyOk_1_calls (k : Nat) : CallsOk Tryz.prog (E_slices_IndexFunc_impl_Frame__impl_bodyOk_1 k) (arun Tryz.prog (E_slices_IndexFunc_impl_Frame__impl_bodyOk_1 k) k) := by
  refine told_run (tyTOk _ _) ?_ (fun run h => regOk (tyTOk _ _) mixOk h) ?_ nameOk k
  · intro g m hg
    simp only [E_slices_IndexFunc_impl_Frame__impl_bodyOk_1] at hg
    split at hg
    · cases hg
      refine con_byVal fun ρ l K x hm => ?_
      split at hm
      · obtain ⟨c1, h1, hm⟩ := Option.bind_eq_some_iff.1 hm
        obtain ⟨c2, h2, hm⟩ := Option.bind_eq_some_iff.1 hm
        obtain ⟨r, hr, hm⟩ := Option.bind_eq_some_iff.1 hm
        exact ⟨_, hm, LawV.reads (.cons (.as h1) (.cons (.bp (.cons (.as h2) .nil)) .nil)) (impl_bodyOk_1_vbp_law k c1 c2 r hr)⟩
      · cases hm
    · cases hg; exact noCon_ok
    · cases hg
  · intro g hg r
    by_cases h : g = 90
    · subst h; simp [E_slices_IndexFunc_impl_Frame__impl_bodyOk_1] at hg
    · simp [E_slices_IndexFunc_impl_Frame__impl_bodyOk_1, h]
theorem f90_okslices_IndexFunc_impl_Frame__impl_bodyOk_1 : Tryz.prog.funcs[90]? = some Tryz.f90 := by kernel_rfl
theorem slices_IndexFunc_impl_Frame__impl_bodyOk_1_law (k : Nat) (a1 : List (Int × Int × (List Int) × Int × Unit)) (a2 : List (ByteArray × Int × Int × (List (Int × Int × Int × Int × Int × ByteArray × (List Int) × Unit)) × Unit)) (x : Int) (h : slices_IndexFunc_impl_Frame__impl_bodyOk_1 k a1 a2 = some x) : LawV Tryz.prog 90 [.tv (.row (.pair (.int .i64) (.pair (.int .i64) (.pair (.row (.int .i64)) (.pair (.int .i64) .unit))))) a1, .fn 65 [.bp [.tv (.row (.pair .str (.pair (.int .i64) (.pair (.int .i64) (.pair (.row (.pair (.int .i64) (.pair (.int .i64) (.pair (.int .i64) (.pair (.int .i64) (.pair (.int .i64) (.pair .str (.pair (.row (.int .i64)) .unit)))))))) .unit))))) a2] 0]] (tvn (.int .i64) x) := by
  unfold slices_IndexFunc_impl_Frame__impl_bodyOk_1 at h
  exact law1 (t := (.int .i64)) (tyTOk _ _) (E_slices_IndexFunc_impl_Frame__impl_bodyOk_1_calls k) mixOk f90_okslices_IndexFunc_impl_Frame__impl_bodyOk_1 (nameOk _ _ f90_okslices_IndexFunc_impl_Frame__impl_bodyOk_1) (by kernel_rfl) h
/-! slices.ContainsFunc[[]impl.Frame,impl.Frame] -/
noncomputable def E_slices_ContainsFunc_impl_Frame__impl_bodyOk_1 (k : Nat) : Env := ⟨ty, fun g => match g with
  | 90 => some (byVal fun ρ l K => match l with
    | [b1, .fn 65 [.bp [b2] 0]] => (b1.as (.row (.pair (.int .i64) (.pair (.int .i64) (.pair (.row (.int .i64)) (.pair (.int .i64) .unit)))))).bind fun c1 => (b2.as (.row (.pair .str (.pair (.int .i64) (.pair (.int .i64) (.pair (.row (.pair (.int .i64) (.pair (.int .i64) (.pair (.int .i64) (.pair (.int .i64) (.pair (.int .i64) (.pair .str (.pair (.row (.int .i64)) .unit)))))))) .unit)))))).bind fun c2 => (slices_IndexFunc_impl_Frame__impl_bodyOk_1 k c1 c2).bind fun r => K (tvn (.int .i64) r)
    | _ => none)
  | _ => none, fun _ _ => none⟩
noncomputable def slices_ContainsFunc_impl_Frame__impl_bodyOk_1 (k : Nat) (a1 : List (Int × Int × (List Int) × Int × Unit)) (a2 : List (ByteArray × Int × Int × (List (Int × Int × Int × Int × Int × ByteArray × (List Int) × Unit)) × Unit)) : Option (Bool) :=
  abody (E_slices_ContainsFunc_impl_Frame__impl_bodyOk_1 k) (arun Tryz.prog (E_slices_ContainsFunc_impl_Frame__impl_bodyOk_1 k) k) k 64 Tryz.f64 [.tv (.row (.pair (.int .i64) (.pair (.int .i64) (.pair (.row (.int .i64)) (.pair (.int .i64) .unit))))) a1, .fn 65 [.bp [.tv (.row (.pair .str (.pair (.int .i64) (.pair (.int .i64) (.pair (.row (.pair (.int .i64) (.pair (.int .i64) (.pair (.int .i64) (.pair (.int .i64) (.pair (.int .i64) (.pair .str (.pair (.row (.int .i64)) .unit)))))))) .unit))))) a2] 0]] [] (fin1 .bool)
theorem slices_ContainsFunc_impl_Frame__impl_bodyOk_1_e (k : Nat) (a1 : List (Int × Int × (List Int) × Int × Unit)) (a2 : List (ByteArray × Int × Int × (List (Int × Int × Int × Int × Int × ByteArray × (List Int) × Unit)) × Unit)) : slices_ContainsFunc_impl_Frame__impl_bodyOk_1 k a1 a2 =
  bindO (slices_IndexFunc_impl_Frame__impl_bodyOk_1 k a1 a2) fun r1 => (some (decide (r1 ≥ 0))) := by kernel_rfl
theorem E_slices_ContainsFunc_impl_Frame__impl_bodyOk_1_calls (k : Nat) : CallsOk Tryz.prog (E_slices_ContainsFunc_impl_Frame__impl_bodyOk_1 k) (arun Tryz.prog (E_slices_ContainsFunc_impl_Frame__impl_bodyOk_1 k) k) := by
  refine told_run (tyTOk _ _) ?_ (fun run h => regOk (tyTOk _ _) mixOk h) ?_ nameOk k
  · intro g m hg
    simp only [E_slices_ContainsFunc_impl_Frame__impl_bodyOk_1] at hg
    split at hg
    · cases hg
      refine con_byVal fun ρ l K x hm => ?_
      split at hm
      · obtain ⟨c1, h1, hm⟩ := Option.bind_eq_some_iff.1 hm
        obtain ⟨c2, h2, hm⟩ := Option.bind_eq_some_iff.1 hm
        obtain ⟨r, hr, hm⟩ := Option.bind_eq_some_iff.1 hm
        exact ⟨_, hm, LawV.reads (.cons (.as h1) (.cons (.fn (.cons (.bp (.cons (.as h2) .nil)) .nil)) .nil)) (slices_IndexFunc_impl_Frame__impl_bodyOk_1_law k c1 c2 r hr)⟩
      · cases hm
    · cases hg
  · intro g _ r; rfl
theorem f64_okslices_ContainsFunc_impl_Frame__impl_bodyOk_1 : Tryz.prog.funcs[64]? = some Tryz.f64 := by kernel_rfl
theorem slices_ContainsFunc_impl_Frame__impl_bodyOk_1_law (k : Nat) (a1 : List (Int × Int × (List Int) × Int × Unit)) (a2 : List (ByteArray × Int × Int × (List (Int × Int × Int × Int × Int × ByteArray × (List Int) × Unit)) × Unit)) (x : Bool) (h : slices_ContainsFunc_impl_Frame__impl_bodyOk_1 k a1 a2 = some x) : LawV Tryz.prog 64 [.tv (.row (.pair (.int .i64) (.pair (.int .i64) (.pair (.row (.int .i64)) (.pair (.int .i64) .unit))))) a1, .fn 65 [.bp [.tv (.row (.pair .str (.pair (.int .i64) (.pair (.int .i64) (.pair (.row (.pair (.int .i64) (.pair (.int .i64) (.pair (.int .i64) (.pair (.int .i64) (.pair (.int .i64) (.pair .str (.pair (.row (.int .i64)) .unit)))))))) .unit))))) a2] 0]] (tvn .bool x) := by
  unfold slices_ContainsFunc_impl_Frame__impl_bodyOk_1 at h
  exact law1 (t := .bool) (tyTOk _ _) (E_slices_ContainsFunc_impl_Frame__impl_bodyOk_1_calls k) mixOk f64_okslices_ContainsFunc_impl_Frame__impl_bodyOk_1 (nameOk _ _ f64_okslices_ContainsFunc_impl_Frame__impl_bodyOk_1) (by kernel_rfl) h
/-! impl.bodyOk -/
noncomputable def E_impl_bodyOk (k : Nat) : Env := ⟨ty, fun g => match g with
  | 64 => some (byVal fun ρ l K => match l with
    | [b1, .fn 65 [.bp [b2] 0]] => (b1.as (.row (.pair (.int .i64) (.pair (.int .i64) (.pair (.row (.int .i64)) (.pair (.int .i64) .unit)))))).bind fun c1 => (b2.as (.row (.pair .str (.pair (.int .i64) (.pair (.int .i64) (.pair (.row (.pair (.int .i64) (.pair (.int .i64) (.pair (.int .i64) (.pair (.int .i64) (.pair (.int .i64) (.pair .str (.pair (.row (.int .i64)) .unit)))))))) .unit)))))).bind fun c2 => (slices_ContainsFunc_impl_Frame__impl_bodyOk_1 k c1 c2).bind fun r => K (tvn .bool r)
    | _ => none)
  | 39 => some (byVal fun ρ l K => match l with
    | [b1, b2, b3] => (b1.as (.int .i64)).bind fun c1 => (b2.as (.int .i64)).bind fun c2 => (b3.as (.int .i64)).bind fun c3 => (impl_within k c1 c2 c3).bind fun r => K (tvn .bool r)
    | _ => none)
  | 47 => some (byVal fun ρ l K => match l with
    | [b1] => (b1.as (.int .i64)).bind fun c1 => (impl_WordOk k c1).bind fun r => K (tvn .bool r)
    | _ => none)
  | 67 => some (byVal fun ρ l K => match l with
    | [b1] => (b1.as (.int .i64)).bind fun c1 => (impl_isDst k c1).bind fun r => K (tvn .bool r)
    | _ => none)
  | _ => none, fun _ _ => none⟩
noncomputable def impl_bodyOk (k : Nat) (a1 : List (ByteArray × Int × Int × (List (Int × Int × Int × Int × Int × ByteArray × (List Int) × Unit)) × Unit)) (a2 : (List (Int × Int × (List Int) × Int × Unit)) × Bool × Bool × Int × Int × Int × Int × Int × Unit) : Option (Bool) :=
  abody (E_impl_bodyOk k) (arun Tryz.prog (E_impl_bodyOk k) k) k 42 Tryz.f42 [.tv (.row (.pair .str (.pair (.int .i64) (.pair (.int .i64) (.pair (.row (.pair (.int .i64) (.pair (.int .i64) (.pair (.int .i64) (.pair (.int .i64) (.pair (.int .i64) (.pair .str (.pair (.row (.int .i64)) .unit)))))))) .unit))))) a1, .tv (.pair (.row (.pair (.int .i64) (.pair (.int .i64) (.pair (.row (.int .i64)) (.pair (.int .i64) .unit))))) (.pair .bool (.pair .bool (.pair (.int .i64) (.pair (.int .i64) (.pair (.int .i64) (.pair (.int .i64) (.pair (.int .i64) .unit)))))))) a2] [] (fin1 .bool)
theorem impl_bodyOk_e (k : Nat) (a1 : List (ByteArray × Int × Int × (List (Int × Int × Int × Int × Int × ByteArray × (List Int) × Unit)) × Unit)) (a2 : (List (Int × Int × (List Int) × Int × Unit)) × Bool × Bool × Int × Int × Int × Int × Int × Unit) : impl_bodyOk k a1 a2 =
  bindO (slices_ContainsFunc_impl_Frame__impl_bodyOk_1 k a2.1 a1) fun r1 => (iteB r1 (some false) (iteB (decide (((List.length a2.1) : Int) ≤ 12)) (iteB (!a2.2.1) (iteB (decide (((List.length a2.1) : Int) > 0)) (bindO (impl_within k a2.2.2.2.1 0 100000) fun r2 => (iteB r2 (bindO (impl_within k a2.2.2.2.2.2.1 0 100000) fun r3 => (iteB r3 (bindO (impl_WordOk k a2.2.2.2.2.1) fun r4 => (iteB r4 (bindO (impl_isDst k a2.2.2.2.2.2.2.1) fun r5 => (iteB r5 (bindO (impl_isDst k a2.2.2.2.2.2.2.2.1) fun r6 => (some r6)) (some false))) (some false))) (some false))) (some false))) (some false)) (bindO (impl_within k a2.2.2.2.1 0 100000) fun r7 => (iteB r7 (bindO (impl_within k a2.2.2.2.2.2.1 0 100000) fun r8 => (iteB r8 (bindO (impl_WordOk k a2.2.2.2.2.1) fun r9 => (iteB r9 (bindO (impl_isDst k a2.2.2.2.2.2.2.1) fun r10 => (iteB r10 (bindO (impl_isDst k a2.2.2.2.2.2.2.2.1) fun r11 => (some r11)) (some false))) (some false))) (some false))) (some false)))) (some false))) := by kernel_rfl
theorem E_impl_bodyOk_calls (k : Nat) : CallsOk Tryz.prog (E_impl_bodyOk k) (arun Tryz.prog (E_impl_bodyOk k) k) := by
  refine told_run (tyTOk _ _) ?_ (fun run h => regOk (tyTOk _ _) mixOk h) ?_ nameOk k
  · intro g m hg
    simp only [E_impl_bodyOk] at hg
    split at hg
    · cases hg
      refine con_byVal fun ρ l K x hm => ?_
      split at hm
      · obtain ⟨c1, h1, hm⟩ := Option.bind_eq_some_iff.1 hm
        obtain ⟨c2, h2, hm⟩ := Option.bind_eq_some_iff.1 hm
        obtain ⟨r, hr, hm⟩ := Option.bind_eq_some_iff.1 hm
        exact ⟨_, hm, LawV.reads (.cons (.as h1) (.cons (.fn (.cons (.bp (.cons (.as h2) .nil)) .nil)) .nil)) (slices_ContainsFunc_impl_Frame__impl_bodyOk_1_law k c1 c2 r hr)⟩
      · cases hm
    · cases hg
      refine con_byVal fun ρ l K x hm => ?_
      split at hm
      · obtain ⟨c1, h1, hm⟩ := Option.bind_eq_some_iff.1 hm
        obtain ⟨c2, h2, hm⟩ := Option.bind_eq_some_iff.1 hm
        obtain ⟨c3, h3, hm⟩ := Option.bind_eq_some_iff.1 hm
        obtain ⟨r, hr, hm⟩ := Option.bind_eq_some_iff.1 hm
        exact ⟨_, hm, LawV.reads (.cons (.as h1) (.cons (.as h2) (.cons (.as h3) .nil))) (impl_within_law k c1 c2 c3 r hr)⟩
      · cases hm
    · cases hg
      refine con_byVal fun ρ l K x hm => ?_
      split at hm
      · obtain ⟨c1, h1, hm⟩ := Option.bind_eq_some_iff.1 hm
        obtain ⟨r, hr, hm⟩ := Option.bind_eq_some_iff.1 hm
        exact ⟨_, hm, LawV.reads (.cons (.as h1) .nil) (impl_WordOk_law k c1 r hr)⟩
      · cases hm
    · cases hg
      refine con_byVal fun ρ l K x hm => ?_
      split at hm
      · obtain ⟨c1, h1, hm⟩ := Option.bind_eq_some_iff.1 hm
        obtain ⟨r, hr, hm⟩ := Option.bind_eq_some_iff.1 hm
        exact ⟨_, hm, LawV.reads (.cons (.as h1) .nil) (impl_isDst_law k c1 r hr)⟩
      · cases hm
    · cases hg
  · intro g _ r; rfl
theorem f42_okimpl_bodyOk : Tryz.prog.funcs[42]? = some Tryz.f42 := by kernel_rfl
theorem impl_bodyOk_law (k : Nat) (a1 : List (ByteArray × Int × Int × (List (Int × Int × Int × Int × Int × ByteArray × (List Int) × Unit)) × Unit)) (a2 : (List (Int × Int × (List Int) × Int × Unit)) × Bool × Bool × Int × Int × Int × Int × Int × Unit) (x : Bool) (h : impl_bodyOk k a1 a2 = some x) : LawV Tryz.prog 42 [.tv (.row (.pair .str (.pair (.int .i64) (.pair (.int .i64) (.pair (.row (.pair (.int .i64) (.pair (.int .i64) (.pair (.int .i64) (.pair (.int .i64) (.pair (.int .i64) (.pair .str (.pair (.row (.int .i64)) .unit)))))))) .unit))))) a1, .tv (.pair (.row (.pair (.int .i64) (.pair (.int .i64) (.pair (.row (.int .i64)) (.pair (.int .i64) .unit))))) (.pair .bool (.pair .bool (.pair (.int .i64) (.pair (.int .i64) (.pair (.int .i64) (.pair (.int .i64) (.pair (.int .i64) .unit)))))))) a2] (tvn .bool x) := by
  unfold impl_bodyOk at h
  exact law1 (t := .bool) (tyTOk _ _) (E_impl_bodyOk_calls k) mixOk f42_okimpl_bodyOk (nameOk _ _ f42_okimpl_bodyOk) (by kernel_rfl) h
/-! impl.WorldOk$1 -/
noncomputable def E_impl_WorldOk_1_vbp (k : Nat) : Env := ⟨ty, fun g => match g with
  | 42 => some (byVal fun ρ l K => match l with
    | [b1, b2] => (b1.as (.row (.pair .str (.pair (.int .i64) (.pair (.int .i64) (.pair (.row (.pair (.int .i64) (.pair (.int .i64) (.pair (.int .i64) (.pair (.int .i64) (.pair (.int .i64) (.pair .str (.pair (.row (.int .i64)) .unit)))))))) .unit)))))).bind fun c1 => (b2.as (.pair (.row (.pair (.int .i64) (.pair (.int .i64) (.pair (.row (.int .i64)) (.pair (.int .i64) .unit))))) (.pair .bool (.pair .bool (.pair (.int .i64) (.pair (.int .i64) (.pair (.int .i64) (.pair (.int .i64) (.pair (.int .i64) .unit))))))))).bind fun c2 => (impl_bodyOk k c1 c2).bind fun r => K (tvn .bool r)
    | _ => none)
  | _ => none, fun _ _ => none⟩
noncomputable def impl_WorldOk_1_vbp (k : Nat) (a1 : (List (Int × Int × (List Int) × Int × Unit)) × Bool × Bool × Int × Int × Int × Int × Int × Unit) (a2 : List (ByteArray × Int × Int × (List (Int × Int × Int × Int × Int × ByteArray × (List Int) × Unit)) × Unit)) (a3 : List ((List (Int × Int × (List Int) × Int × Unit)) × Bool × Bool × Int × Int × Int × Int × Int × Unit)) (a4 : List (Int × Bool × (List Int) × (List (Int × Int × Int × Int × Unit)) × (List (Int × Int × Int × Int × Unit)) × Unit)) (a5 : List Int) (a6 : Bool) (a7 : Int) : Option (Bool) :=
  abody (E_impl_WorldOk_1_vbp k) (arun Tryz.prog (E_impl_WorldOk_1_vbp k) k) k 41 Tryz.f41 [.tv (.pair (.row (.pair (.int .i64) (.pair (.int .i64) (.pair (.row (.int .i64)) (.pair (.int .i64) .unit))))) (.pair .bool (.pair .bool (.pair (.int .i64) (.pair (.int .i64) (.pair (.int .i64) (.pair (.int .i64) (.pair (.int .i64) .unit)))))))) a1, .bp [.tv (.row (.pair .str (.pair (.int .i64) (.pair (.int .i64) (.pair (.row (.pair (.int .i64) (.pair (.int .i64) (.pair (.int .i64) (.pair (.int .i64) (.pair (.int .i64) (.pair .str (.pair (.row (.int .i64)) .unit)))))))) .unit))))) a2, .tv (.row (.pair (.row (.pair (.int .i64) (.pair (.int .i64) (.pair (.row (.int .i64)) (.pair (.int .i64) .unit))))) (.pair .bool (.pair .bool (.pair (.int .i64) (.pair (.int .i64) (.pair (.int .i64) (.pair (.int .i64) (.pair (.int .i64) .unit))))))))) a3, .tv (.row (.pair (.int .i64) (.pair .bool (.pair (.row (.int .i64)) (.pair (.row (.pair (.int .i64) (.pair (.int .i64) (.pair (.int .i64) (.pair (.int .i64) .unit))))) (.pair (.row (.pair (.int .i64) (.pair (.int .i64) (.pair (.int .i64) (.pair (.int .i64) .unit))))) .unit)))))) a4, .tv (.row (.int .i64)) a5, .bool a6, .int .i64 a7] 0] [] (fin1 .bool)
theorem impl_WorldOk_1_vbp_e (k : Nat) (a1 : (List (Int × Int × (List Int) × Int × Unit)) × Bool × Bool × Int × Int × Int × Int × Int × Unit) (a2 : List (ByteArray × Int × Int × (List (Int × Int × Int × Int × Int × ByteArray × (List Int) × Unit)) × Unit)) (a3 : List ((List (Int × Int × (List Int) × Int × Unit)) × Bool × Bool × Int × Int × Int × Int × Int × Unit)) (a4 : List (Int × Bool × (List Int) × (List (Int × Int × Int × Int × Unit)) × (List (Int × Int × Int × Int × Unit)) × Unit)) (a5 : List Int) (a6 : Bool) (a7 : Int) : impl_WorldOk_1_vbp k a1 a2 a3 a4 a5 a6 a7 =
  bindO (impl_bodyOk k a2 a1) fun r1 => (some (!r1)) := by kernel_rfl
theorem E_impl_WorldOk_1_vbp_calls (k : Nat) : CallsOk Tryz.prog (E_impl_WorldOk_1_vbp k) (arun Tryz.prog (E_impl_WorldOk_1_vbp k) k) := by
  refine told_run (tyTOk _ _) ?_ (fun run h => regOk (tyTOk _ _) mixOk h) ?_ nameOk k
  · intro g m hg
    simp only [E_impl_WorldOk_1_vbp] at hg
    split at hg
    · cases hg
      refine con_byVal fun ρ l K x hm => ?_
      split at hm
      · obtain ⟨c1, h1, hm⟩ := Option.bind_eq_some_iff.1 hm
        obtain ⟨c2, h2, hm⟩ := Option.bind_eq_some_iff.1 hm
        obtain ⟨r, hr, hm⟩ := Option.bind_eq_some_iff.1 hm
        exact ⟨_, hm, LawV.reads (.cons (.as h1) (.cons (.as h2) .nil)) (impl_bodyOk_law k c1 c2 r hr)⟩
      · cases hm
    · cases hg
  · intro g _ r; rfl
theorem f41_okimpl_WorldOk_1_vbp : Tryz.prog.funcs[41]? = some Tryz.f41 := by kernel_rfl
theorem impl_WorldOk_1_vbp_law (k : Nat) (a1 : (List (Int × Int × (List Int) × Int × Unit)) × Bool × Bool × Int × Int × Int × Int × Int × Unit) (a2 : List (ByteArray × Int × Int × (List (Int × Int × Int × Int × Int × ByteArray × (List Int) × Unit)) × Unit)) (a3 : List ((List (Int × Int × (List Int) × Int × Unit)) × Bool × Bool × Int × Int × Int × Int × Int × Unit)) (a4 : List (Int × Bool × (List Int) × (List (Int × Int × Int × Int × Unit)) × (List (Int × Int × Int × Int × Unit)) × Unit)) (a5 : List Int) (a6 : Bool) (a7 : Int) (x : Bool) (h : impl_WorldOk_1_vbp k a1 a2 a3 a4 a5 a6 a7 = some x) : LawV Tryz.prog 41 [.tv (.pair (.row (.pair (.int .i64) (.pair (.int .i64) (.pair (.row (.int .i64)) (.pair (.int .i64) .unit))))) (.pair .bool (.pair .bool (.pair (.int .i64) (.pair (.int .i64) (.pair (.int .i64) (.pair (.int .i64) (.pair (.int .i64) .unit)))))))) a1, .bp [.tv (.row (.pair .str (.pair (.int .i64) (.pair (.int .i64) (.pair (.row (.pair (.int .i64) (.pair (.int .i64) (.pair (.int .i64) (.pair (.int .i64) (.pair (.int .i64) (.pair .str (.pair (.row (.int .i64)) .unit)))))))) .unit))))) a2, .tv (.row (.pair (.row (.pair (.int .i64) (.pair (.int .i64) (.pair (.row (.int .i64)) (.pair (.int .i64) .unit))))) (.pair .bool (.pair .bool (.pair (.int .i64) (.pair (.int .i64) (.pair (.int .i64) (.pair (.int .i64) (.pair (.int .i64) .unit))))))))) a3, .tv (.row (.pair (.int .i64) (.pair .bool (.pair (.row (.int .i64)) (.pair (.row (.pair (.int .i64) (.pair (.int .i64) (.pair (.int .i64) (.pair (.int .i64) .unit))))) (.pair (.row (.pair (.int .i64) (.pair (.int .i64) (.pair (.int .i64) (.pair (.int .i64) .unit))))) .unit)))))) a4, .tv (.row (.int .i64)) a5, .bool a6, .int .i64 a7] 0] (tvn .bool x) := by
  unfold impl_WorldOk_1_vbp at h
  exact law1 (t := .bool) (tyTOk _ _) (E_impl_WorldOk_1_vbp_calls k) mixOk f41_okimpl_WorldOk_1_vbp (nameOk _ _ f41_okimpl_WorldOk_1_vbp) (by kernel_rfl) h
end Go.Proofs.YtcjpjgfjagfjjaaGreat.XFnExactStuck
