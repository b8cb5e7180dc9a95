/- Functions of the program as runs of the interpreter: equations, and a law for each. -/
import Derived.Test.YtcjpjgfjagfjjaaGreatProg
import Derived.Test.YtcjpjgfjagfjjaaGreatChecked
import Derived.KernelRfl
import Derived.Eval
import Derived.Test.YtcjpjgfjagfjjaaGreatATyOk
import Derived.Test.YtcjpjgfjagfjjaaGreatAS38
import Derived.Test.YtcjpjgfjagfjjaaGreatAMFnExactStuck1
open Go Go.AM Go.AMx Go.Proofs
namespace Go.Proofs.YtcjpjgfjagfjjaaGreat.XFnExactStuck
set_option linter.unusedVariables false
set_option linter.unusedSimpArgs false
/-! spec.UnitOk -/
noncomputable def E_spec_UnitOk (k : Nat) : Env := ⟨ty, fun g => match g with
  | 29 => some (byVal fun ρ l K => match l with
    | [b1, b2, b3] => (b1.as (.int .i64)).bind fun c1 => (b2.as (.int .i64)).bind fun c2 => (b3.as (.int .i64)).bind fun c3 => (spec_l1In k c1 c2 c3).bind fun r => K (tvn .bool r)
    | _ => none)
  | 77 => some (byVal fun ρ l K => match l with
    | [b1, b2] => (b1.as (.int .i64)).bind fun c1 => (b2.as (.int .i64)).bind fun c2 => (spec_l1Min k c1 c2).bind fun r => K (tvn (.int .i64) r)
    | _ => none)
  | 78 => some (byVal fun ρ l K => match l with
    | [b1, b2] => (b1.as (.pair (.int .i64) (.pair (.int .i64) (.pair (.int .i64) (.pair (.int .i64) (.pair (.int .i64) (.pair .str (.pair (.row (.int .i64)) .unit)))))))).bind fun c1 => (b2.as (.int .i64)).bind fun c2 => (spec_l10Place k c1 c2).bind fun r => K (tvn .bool r)
    | _ => none)
  | 79 => some (byVal fun ρ l K => match l with
    | [b1, b2] => (b1.as (.row (.pair (.int .i64) (.pair (.int .i64) (.pair (.int .i64) (.pair (.int .i64) (.pair (.int .i64) (.pair .str (.pair (.row (.int .i64)) .unit))))))))).bind fun c1 => (b2.as (.int .i64)).bind fun c2 => (spec_l10Label k c1 c2).bind fun r => K (tvn (.int .i64) r)
    | _ => none)
  | 54 => some noCon
  | _ => none, fun f r => match f with | 54 => (match r with | 4 => some [1, 3] | 5 => some [1, 3, 4] | _ => none) | _ => none⟩
noncomputable def spec_UnitOk (k : Nat) (a1 : ByteArray × Int × Int × (List (Int × Int × Int × Int × Int × ByteArray × (List Int) × Unit)) × Unit) : Option (Bool) :=
  abody (E_spec_UnitOk k) (arun Tryz.prog (E_spec_UnitOk k) k) k 54 Tryz.f54 [.tv (.pair .str (.pair (.int .i64) (.pair (.int .i64) (.pair (.row (.pair (.int .i64) (.pair (.int .i64) (.pair (.int .i64) (.pair (.int .i64) (.pair (.int .i64) (.pair .str (.pair (.row (.int .i64)) .unit)))))))) .unit)))) a1] [] (fin1 .bool)
noncomputable def spec_UnitOk.j4 (k : Nat) (x3 : Int) (y0_0 : ByteArray × Int × Int × (List (Int × Int × Int × Int × Int × ByteArray × (List Int) × Unit)) × Unit) : Option (Bool) :=
  resume (E_spec_UnitOk k) 54 (acall (E_spec_UnitOk k) (arun Tryz.prog (E_spec_UnitOk k) k)) k [true, true, true] [] (bodyOf Tryz.f54) ⟨[.undef, .ptr 0 0 0, .undef, .int .i64 x3, .undef, .undef, .undef, .undef, .undef, .undef, .undef, .undef, .undef, .undef, .undef, .undef, .undef, .undef, .undef, .undef, .undef, .undef, .undef, .undef, .undef, .undef, .undef, .undef, .undef, .undef, .undef, .undef, .undef, .undef, .undef, .undef, .undef, .undef, .undef, .undef, .undef, .undef, .undef, .undef, .undef, .undef, .undef, .undef, .undef, .undef, .undef, .undef, .undef, .undef, .undef, .undef, .undef, .undef, .undef, .undef, .undef, .undef, .undef, .undef, .undef, .undef, .undef, .undef, .undef, .undef, .undef, .undef, .undef, .undef, .undef, .undef, .undef, .undef, .undef, .undef, .undef, .undef, .undef, .undef, .undef, .undef, .undef, .undef, .undef, .undef, .undef, .undef, .undef, .undef], [some ⟨.raw true 4 (.agg [.str ByteArray.empty, .int .i64 0, .int .i64 0, .nils]) [.tv (.pair .str (.pair (.int .i64) (.pair (.int .i64) (.pair (.row (.pair (.int .i64) (.pair (.int .i64) (.pair (.int .i64) (.pair (.int .i64) (.pair (.int .i64) (.pair .str (.pair (.row (.int .i64)) .unit)))))))) .unit)))) y0_0], true⟩]⟩ (leave (E_spec_UnitOk k) Tryz.f54 (fin1 .bool))
noncomputable def spec_UnitOk.l5 (k n : Nat) (x3 : Int) (x4 : Int) (y0_0 : ByteArray × Int × Int × (List (Int × Int × Int × Int × Int × ByteArray × (List Int) × Unit)) × Unit) : Option (Bool) :=
  resume (E_spec_UnitOk k) 54 (acall (E_spec_UnitOk k) (arun Tryz.prog (E_spec_UnitOk k) k)) k [true, true, true, false, true, true] [n] (bodyOf Tryz.f54) ⟨[.undef, .ptr 0 0 0, .undef, .int .i64 x3, .int .i64 x4, .undef, .undef, .undef, .undef, .undef, .undef, .undef, .undef, .undef, .undef, .undef, .undef, .undef, .undef, .undef, .undef, .undef, .undef, .undef, .undef, .undef, .undef, .undef, .undef, .undef, .undef, .undef, .undef, .undef, .undef, .undef, .undef, .undef, .undef, .undef, .undef, .undef, .undef, .undef, .undef, .undef, .undef, .undef, .undef, .undef, .undef, .undef, .undef, .undef, .undef, .undef, .undef, .undef, .undef, .undef, .undef, .undef, .undef, .undef, .undef, .undef, .undef, .undef, .undef, .undef, .undef, .undef, .undef, .undef, .undef, .undef, .undef, .undef, .undef, .undef, .undef, .undef, .undef, .undef, .undef, .undef, .undef, .undef, .undef, .undef, .undef, .undef, .undef, .undef], [some ⟨.raw true 4 (.agg [.str ByteArray.empty, .int .i64 0, .int .i64 0, .nils]) [.tv (.pair .str (.pair (.int .i64) (.pair (.int .i64) (.pair (.row (.pair (.int .i64) (.pair (.int .i64) (.pair (.int .i64) (.pair (.int .i64) (.pair (.int .i64) (.pair .str (.pair (.row (.int .i64)) .unit)))))))) .unit)))) y0_0], true⟩]⟩ (leave (E_spec_UnitOk k) Tryz.f54 (fin1 .bool))
theorem spec_UnitOk.j4_e (k : Nat) (x3 : Int) (y0_0 : ByteArray × Int × Int × (List (Int × Int × Int × Int × Int × ByteArray × (List Int) × Unit)) × Unit) : spec_UnitOk.j4 k x3 y0_0 =
  spec_UnitOk.l5 k k x3 0 y0_0 := by kernel_rfl
theorem spec_UnitOk.l5_0 (k : Nat) (x3 : Int) (x4 : Int) (y0_0 : ByteArray × Int × Int × (List (Int × Int × Int × Int × Int × ByteArray × (List Int) × Unit)) × Unit) : spec_UnitOk.l5 k 0 x3 x4 y0_0 = none := by kernel_rfl
theorem spec_UnitOk.l5_s (k n : Nat) (x3 : Int) (x4 : Int) (y0_0 : ByteArray × Int × Int × (List (Int × Int × Int × Int × Int × ByteArray × (List Int) × Unit)) × Unit) : spec_UnitOk.l5 k (n + 1) x3 x4 y0_0 =
  iteB (decide (x4 < x3)) (iteB (decide (0 ≤ x4)) (iteB (decide (x4 < ((List.length y0_0.2.2.2.1) : Int))) (bindO (spec_l10Place k (List.getD y0_0.2.2.2.1 (Int.toNat x4) (Ty.dflt (.pair (.int .i64) (.pair (.int .i64) (.pair (.int .i64) (.pair (.int .i64) (.pair (.int .i64) (.pair .str (.pair (.row (.int .i64)) .unit))))))))) y0_0.2.2.1) fun r5 => (iteB (!r5) (some false) (bindO (spec_l10Label k y0_0.2.2.2.1 ((((((List.getD y0_0.2.2.2.1 (Int.toNat x4) (Ty.dflt (.pair (.int .i64) (.pair (.int .i64) (.pair (.int .i64) (.pair (.int .i64) (.pair (.int .i64) (.pair .str (.pair (.row (.int .i64)) .unit))))))))).2).2).2).2).1)) fun r6 => (iteB (((List.getD y0_0.2.2.2.1 (Int.toNat x4) (Ty.dflt (.pair (.int .i64) (.pair (.int .i64) (.pair (.int .i64) (.pair (.int .i64) (.pair (.int .i64) (.pair .str (.pair (.row (.int .i64)) .unit))))))))).1) == 8) (iteB (!(r6 != x4)) (bindO (spec_l1In k ((((((List.getD y0_0.2.2.2.1 (Int.toNat x4) (Ty.dflt (.pair (.int .i64) (.pair (.int .i64) (.pair (.int .i64) (.pair (.int .i64) (.pair (.int .i64) (.pair .str (.pair (.row (.int .i64)) .unit))))))))).2).2).2).2).1) 0 900) fun r7 => (iteB (!(!r7)) (iteB (!(((List.getD y0_0.2.2.2.1 (Int.toNat x4) (Ty.dflt (.pair (.int .i64) (.pair (.int .i64) (.pair (.int .i64) (.pair (.int .i64) (.pair (.int .i64) (.pair .str (.pair (.row (.int .i64)) .unit))))))))).1) == 9)) (iteB (((List.getD y0_0.2.2.2.1 (Int.toNat x4) (Ty.dflt (.pair (.int .i64) (.pair (.int .i64) (.pair (.int .i64) (.pair (.int .i64) (.pair (.int .i64) (.pair .str (.pair (.row (.int .i64)) .unit))))))))).1) == 10) (iteB (decide (r6 < 0)) (some false) (spec_UnitOk.l5 k n x3 (IntKind.wrap .i64 (x4 + 1)) y0_0)) (spec_UnitOk.l5 k n x3 (IntKind.wrap .i64 (x4 + 1)) y0_0)) (iteB (decide (r6 < 0)) (some false) (spec_UnitOk.l5 k n x3 (IntKind.wrap .i64 (x4 + 1)) y0_0))) (some false))) (some false)) (iteB (!(((List.getD y0_0.2.2.2.1 (Int.toNat x4) (Ty.dflt (.pair (.int .i64) (.pair (.int .i64) (.pair (.int .i64) (.pair (.int .i64) (.pair (.int .i64) (.pair .str (.pair (.row (.int .i64)) .unit))))))))).1) == 9)) (iteB (((List.getD y0_0.2.2.2.1 (Int.toNat x4) (Ty.dflt (.pair (.int .i64) (.pair (.int .i64) (.pair (.int .i64) (.pair (.int .i64) (.pair (.int .i64) (.pair .str (.pair (.row (.int .i64)) .unit))))))))).1) == 10) (iteB (decide (r6 < 0)) (some false) (spec_UnitOk.l5 k n x3 (IntKind.wrap .i64 (x4 + 1)) y0_0)) (spec_UnitOk.l5 k n x3 (IntKind.wrap .i64 (x4 + 1)) y0_0)) (iteB (decide (r6 < 0)) (some false) (spec_UnitOk.l5 k n x3 (IntKind.wrap .i64 (x4 + 1)) y0_0))))))) (none)) (none)) (iteB (decide (0 ≤ IntKind.wrap .i64 (x3 - 1))) (iteB (decide (IntKind.wrap .i64 (x3 - 1) < ((List.length y0_0.2.2.2.1) : Int))) (iteB (!(((List.getD y0_0.2.2.2.1 (Int.toNat (IntKind.wrap .i64 (x3 - 1))) (Ty.dflt (.pair (.int .i64) (.pair (.int .i64) (.pair (.int .i64) (.pair (.int .i64) (.pair (.int .i64) (.pair .str (.pair (.row (.int .i64)) .unit))))))))).1) == 12)) (iteB (!(((List.getD y0_0.2.2.2.1 (Int.toNat (IntKind.wrap .i64 (x3 - 1))) (Ty.dflt (.pair (.int .i64) (.pair (.int .i64) (.pair (.int .i64) (.pair (.int .i64) (.pair (.int .i64) (.pair .str (.pair (.row (.int .i64)) .unit))))))))).1) == 9)) (some (((List.getD y0_0.2.2.2.1 (Int.toNat (IntKind.wrap .i64 (x3 - 1))) (Ty.dflt (.pair (.int .i64) (.pair (.int .i64) (.pair (.int .i64) (.pair (.int .i64) (.pair (.int .i64) (.pair .str (.pair (.row (.int .i64)) .unit))))))))).1) == 28)) (some true)) (some true)) (none)) (none)) := by kernel_rfl
theorem spec_UnitOk_e (k : Nat) (a1 : ByteArray × Int × Int × (List (Int × Int × Int × Int × Int × ByteArray × (List Int) × Unit)) × Unit) : spec_UnitOk k a1 =
  bindO (spec_l1In k a1.2.2.1 0 250) fun r1 => (iteB (!(!r1)) (bindO (spec_l1Min k 4 a1.2.2.1) fun r2 => (bindO (spec_l1In k a1.2.1 0 r2) fun r3 => (iteB (!(!r3)) (bindO (spec_l1In k ((List.length a1.2.2.2.1) : Int) 1 900) fun r4 => (iteB (!r4) (some false) (gate k (spec_UnitOk.j4 k ((List.length a1.2.2.2.1) : Int) a1)))) (some false)))) (some false)) := by kernel_rfl
theorem E_spec_UnitOk_calls (k : Nat) : CallsOk Tryz.prog (E_spec_UnitOk k) (arun Tryz.prog (E_spec_UnitOk k) k) := by
  refine told_run (tyTOk _ _) ?_ (fun run h => regOk (tyTOk _ _) mixOk h) ?_ nameOk k
  · intro g m hg
    simp only [E_spec_UnitOk] at hg
    split at hg
    · cases hg
      refine con_byVal fun ρ l K x hm => ?_
      split at hm
      · obtain ⟨c1, h1, hm⟩ := Option.bind_eq_some_iff.1 hm
        obtain ⟨c2, h2, hm⟩ := Option.bind_eq_some_iff.1 hm
        obtain ⟨c3, h3, hm⟩ := Option.bind_eq_some_iff.1 hm
        obtain ⟨r, hr, hm⟩ := Option.bind_eq_some_iff.1 hm
        exact ⟨_, hm, LawV.reads (.cons (.as h1) (.cons (.as h2) (.cons (.as h3) .nil))) (spec_l1In_law k c1 c2 c3 r hr)⟩
      · cases hm
    · cases hg
      refine con_byVal fun ρ l K x hm => ?_
      split at hm
      · obtain ⟨c1, h1, hm⟩ := Option.bind_eq_some_iff.1 hm
        obtain ⟨c2, h2, hm⟩ := Option.bind_eq_some_iff.1 hm
        obtain ⟨r, hr, hm⟩ := Option.bind_eq_some_iff.1 hm
        exact ⟨_, hm, LawV.reads (.cons (.as h1) (.cons (.as h2) .nil)) (spec_l1Min_law k c1 c2 r hr)⟩
      · cases hm
    · cases hg
      refine con_byVal fun ρ l K x hm => ?_
      split at hm
      · obtain ⟨c1, h1, hm⟩ := Option.bind_eq_some_iff.1 hm
        obtain ⟨c2, h2, hm⟩ := Option.bind_eq_some_iff.1 hm
        obtain ⟨r, hr, hm⟩ := Option.bind_eq_some_iff.1 hm
        exact ⟨_, hm, LawV.reads (.cons (.as h1) (.cons (.as h2) .nil)) (spec_l10Place_law k c1 c2 r hr)⟩
      · cases hm
    · cases hg
      refine con_byVal fun ρ l K x hm => ?_
      split at hm
      · obtain ⟨c1, h1, hm⟩ := Option.bind_eq_some_iff.1 hm
        obtain ⟨c2, h2, hm⟩ := Option.bind_eq_some_iff.1 hm
        obtain ⟨r, hr, hm⟩ := Option.bind_eq_some_iff.1 hm
        exact ⟨_, hm, LawV.reads (.cons (.as h1) (.cons (.as h2) .nil)) (spec_l10Label_law k c1 c2 r hr)⟩
      · cases hm
    · cases hg; exact noCon_ok
    · cases hg
  · intro g hg r
    by_cases h : g = 54
    · subst h; simp [E_spec_UnitOk] at hg
    · simp [E_spec_UnitOk, h]
theorem f54_okspec_UnitOk : Tryz.prog.funcs[54]? = some Tryz.f54 := by kernel_rfl
theorem spec_UnitOk_law (k : Nat) (a1 : ByteArray × Int × Int × (List (Int × Int × Int × Int × Int × ByteArray × (List Int) × Unit)) × Unit) (x : Bool) (h : spec_UnitOk k a1 = some x) : LawV Tryz.prog 54 [.tv (.pair .str (.pair (.int .i64) (.pair (.int .i64) (.pair (.row (.pair (.int .i64) (.pair (.int .i64) (.pair (.int .i64) (.pair (.int .i64) (.pair (.int .i64) (.pair .str (.pair (.row (.int .i64)) .unit)))))))) .unit)))) a1] (tvn .bool x) := by
  unfold spec_UnitOk at h
  exact law1 (t := .bool) (tyTOk _ _) (E_spec_UnitOk_calls k) mixOk f54_okspec_UnitOk (nameOk _ _ f54_okspec_UnitOk) (by kernel_rfl) h
/-! spec.l10Unit -/
noncomputable def E_spec_l10Unit (k : Nat) : Env := ⟨ty, fun g => match g with
  | 55 => some noCon
  | _ => none, fun f r => match f with | 55 => (match r with | 2 => some [0, 1, 5] | _ => none) | _ => none⟩
noncomputable def spec_l10Unit (k : Nat) (a1 : List (ByteArray × Int × Int × (List (Int × Int × Int × Int × Int × ByteArray × (List Int) × Unit)) × Unit)) (a2 : ByteArray) : Option (Int) :=
  abody (E_spec_l10Unit k) (arun Tryz.prog (E_spec_l10Unit k) k) k 55 Tryz.f55 [.tv (.row (.pair .str (.pair (.int .i64) (.pair (.int .i64) (.pair (.row (.pair (.int .i64) (.pair (.int .i64) (.pair (.int .i64) (.pair (.int .i64) (.pair (.int .i64) (.pair .str (.pair (.row (.int .i64)) .unit)))))))) .unit))))) a1, .str a2] [] (fin1 (.int .i64))
noncomputable def spec_l10Unit.l2 (k n : Nat) (x0 : List (ByteArray × Int × Int × (List (Int × Int × Int × Int × Int × ByteArray × (List Int) × Unit)) × Unit)) (x1 : ByteArray) (x5 : Int) : Option (Int) :=
  resume (E_spec_l10Unit k) 55 (acall (E_spec_l10Unit k) (arun Tryz.prog (E_spec_l10Unit k) k)) k [true, false, true, true] [n] (bodyOf Tryz.f55) ⟨[.tv (.row (.pair .str (.pair (.int .i64) (.pair (.int .i64) (.pair (.row (.pair (.int .i64) (.pair (.int .i64) (.pair (.int .i64) (.pair (.int .i64) (.pair (.int .i64) (.pair .str (.pair (.row (.int .i64)) .unit)))))))) .unit))))) x0, .str x1, .undef, .undef, .undef, .int .i64 x5, .undef, .undef, .undef, .undef, .undef, .undef, .undef, .undef, .undef, .undef, .undef, .undef, .undef, .undef], []⟩ (leave (E_spec_l10Unit k) Tryz.f55 (fin1 (.int .i64)))
theorem spec_l10Unit.l2_0 (k : Nat) (x0 : List (ByteArray × Int × Int × (List (Int × Int × Int × Int × Int × ByteArray × (List Int) × Unit)) × Unit)) (x1 : ByteArray) (x5 : Int) : spec_l10Unit.l2 k 0 x0 x1 x5 = none := by kernel_rfl
theorem spec_l10Unit.l2_s (k n : Nat) (x0 : List (ByteArray × Int × Int × (List (Int × Int × Int × Int × Int × ByteArray × (List Int) × Unit)) × Unit)) (x1 : ByteArray) (x5 : Int) : spec_l10Unit.l2 k (n + 1) x0 x1 x5 =
  iteB (decide (x5 < ((List.length x0) : Int))) (iteB (decide (0 ≤ x5)) (iteB (decide (x5 < ((List.length x0) : Int))) (iteB (ByteArray.toList ((List.getD x0 (Int.toNat x5) (Ty.dflt (.pair .str (.pair (.int .i64) (.pair (.int .i64) (.pair (.row (.pair (.int .i64) (.pair (.int .i64) (.pair (.int .i64) (.pair (.int .i64) (.pair (.int .i64) (.pair .str (.pair (.row (.int .i64)) .unit)))))))) .unit)))))).1) == ByteArray.toList x1) (some x5) (spec_l10Unit.l2 k n x0 x1 (IntKind.wrap .i64 (x5 + 1)))) (none)) (none)) (some (-1)) := by kernel_rfl
theorem spec_l10Unit_e (k : Nat) (a1 : List (ByteArray × Int × Int × (List (Int × Int × Int × Int × Int × ByteArray × (List Int) × Unit)) × Unit)) (a2 : ByteArray) : spec_l10Unit k a1 a2 =
  spec_l10Unit.l2 k k a1 a2 0 := by kernel_rfl
theorem E_spec_l10Unit_calls (k : Nat) : CallsOk Tryz.prog (E_spec_l10Unit k) (arun Tryz.prog (E_spec_l10Unit k) k) := by
  refine told_run (tyTOk _ _) ?_ (fun run h => regOk (tyTOk _ _) mixOk h) ?_ nameOk k
  · intro g m hg
    simp only [E_spec_l10Unit] at hg
    split at hg
    · cases hg; exact noCon_ok
    · cases hg
  · intro g hg r
    by_cases h : g = 55
    · subst h; simp [E_spec_l10Unit] at hg
    · simp [E_spec_l10Unit, h]
theorem f55_okspec_l10Unit : Tryz.prog.funcs[55]? = some Tryz.f55 := by kernel_rfl
theorem spec_l10Unit_law (k : Nat) (a1 : List (ByteArray × Int × Int × (List (Int × Int × Int × Int × Int × ByteArray × (List Int) × Unit)) × Unit)) (a2 : ByteArray) (x : Int) (h : spec_l10Unit k a1 a2 = some x) : LawV Tryz.prog 55 [.tv (.row (.pair .str (.pair (.int .i64) (.pair (.int .i64) (.pair (.row (.pair (.int .i64) (.pair (.int .i64) (.pair (.int .i64) (.pair (.int .i64) (.pair (.int .i64) (.pair .str (.pair (.row (.int .i64)) .unit)))))))) .unit))))) a1, .str a2] (tvn (.int .i64) x) := by
  unfold spec_l10Unit at h
  exact law1 (t := (.int .i64)) (tyTOk _ _) (E_spec_l10Unit_calls k) mixOk f55_okspec_l10Unit (nameOk _ _ f55_okspec_l10Unit) (by kernel_rfl) h
/-! spec.UnitsOk -/
noncomputable def E_spec_UnitsOk (k : Nat) : Env := ⟨ty, fun g => match g with
  | 54 => some (byVal fun ρ l K => match l with
    | [b1] => (b1.as (.pair .str (.pair (.int .i64) (.pair (.int .i64) (.pair (.row (.pair (.int .i64) (.pair (.int .i64) (.pair (.int .i64) (.pair (.int .i64) (.pair (.int .i64) (.pair .str (.pair (.row (.int .i64)) .unit)))))))) .unit))))).bind fun c1 => (spec_UnitOk k c1).bind fun r => K (tvn .bool r)
    | _ => none)
  | 55 => some (byVal fun ρ l K => match l with
    | [b1, b2] => (b1.as (.row (.pair .str (.pair (.int .i64) (.pair (.int .i64) (.pair (.row (.pair (.int .i64) (.pair (.int .i64) (.pair (.int .i64) (.pair (.int .i64) (.pair (.int .i64) (.pair .str (.pair (.row (.int .i64)) .unit)))))))) .unit)))))).bind fun c1 => (b2.as .str).bind fun c2 => (spec_l10Unit k c1 c2).bind fun r => K (tvn (.int .i64) r)
    | _ => none)
  | 28 => some noCon
  | _ => none, fun f r => match f with | 28 => (match r with | 2 => some [0, 3] | 7 => some [0, 3, 4] | 8 => some [0, 3, 4, 5] | 12 => some [0, 3, 4, 5, 6] | _ => none) | _ => none⟩
noncomputable def spec_UnitsOk (k : Nat) (a1 : List (ByteArray × Int × Int × (List (Int × Int × Int × Int × Int × ByteArray × (List Int) × Unit)) × Unit)) : Option (Bool) :=
  abody (E_spec_UnitsOk k) (arun Tryz.prog (E_spec_UnitsOk k) k) k 28 Tryz.f28 [.tv (.row (.pair .str (.pair (.int .i64) (.pair (.int .i64) (.pair (.row (.pair (.int .i64) (.pair (.int .i64) (.pair (.int .i64) (.pair (.int .i64) (.pair (.int .i64) (.pair .str (.pair (.row (.int .i64)) .unit)))))))) .unit))))) a1] [] (fin1 .bool)
noncomputable def spec_UnitsOk.l2 (k n : Nat) (x0 : List (ByteArray × Int × Int × (List (Int × Int × Int × Int × Int × ByteArray × (List Int) × Unit)) × Unit)) (x3 : Int) : Option (Bool) :=
  resume (E_spec_UnitsOk k) 28 (acall (E_spec_UnitsOk k) (arun Tryz.prog (E_spec_UnitsOk k) k)) k [true, false, true, true] [n] (bodyOf Tryz.f28) ⟨[.tv (.row (.pair .str (.pair (.int .i64) (.pair (.int .i64) (.pair (.row (.pair (.int .i64) (.pair (.int .i64) (.pair (.int .i64) (.pair (.int .i64) (.pair (.int .i64) (.pair .str (.pair (.row (.int .i64)) .unit)))))))) .unit))))) x0, .undef, .undef, .int .i64 x3, .undef, .undef, .undef, .undef, .undef, .undef, .undef, .undef, .undef, .undef, .undef, .undef, .undef, .undef, .undef, .undef, .undef, .undef, .undef, .undef, .undef, .undef, .undef, .undef, .undef, .undef, .undef, .undef, .undef, .undef, .undef, .undef, .undef, .undef, .undef, .undef, .undef, .undef, .undef, .undef, .undef, .undef, .undef, .undef, .undef, .undef, .undef, .undef, .undef, .undef, .undef, .undef, .undef, .undef, .undef, .undef, .undef, .undef, .undef, .undef, .undef, .undef, .undef, .undef, .undef, .undef, .undef, .undef, .undef, .undef, .undef, .undef, .undef, .undef, .undef], []⟩ (leave (E_spec_UnitsOk k) Tryz.f28 (fin1 .bool))
noncomputable def spec_UnitsOk.j7 (k m2 : Nat) (x0 : List (ByteArray × Int × Int × (List (Int × Int × Int × Int × Int × ByteArray × (List Int) × Unit)) × Unit)) (x3 : Int) (y0_0 : ByteArray × Int × Int × (List (Int × Int × Int × Int × Int × ByteArray × (List Int) × Unit)) × Unit) : Option (Bool) :=
  resume (E_spec_UnitsOk k) 28 (acall (E_spec_UnitsOk k) (arun Tryz.prog (E_spec_UnitsOk k) k)) k [true, false, true, true, true, true, false, true, true, true] [m2] (bodyOf Tryz.f28) ⟨[.tv (.row (.pair .str (.pair (.int .i64) (.pair (.int .i64) (.pair (.row (.pair (.int .i64) (.pair (.int .i64) (.pair (.int .i64) (.pair (.int .i64) (.pair (.int .i64) (.pair .str (.pair (.row (.int .i64)) .unit)))))))) .unit))))) x0, .undef, .undef, .int .i64 x3, .ptr 0 0 0, .undef, .undef, .undef, .undef, .undef, .undef, .undef, .undef, .undef, .undef, .undef, .undef, .undef, .undef, .undef, .undef, .undef, .undef, .undef, .undef, .undef, .undef, .undef, .undef, .undef, .undef, .undef, .undef, .undef, .undef, .undef, .undef, .undef, .undef, .undef, .undef, .undef, .undef, .undef, .undef, .undef, .undef, .undef, .undef, .undef, .undef, .undef, .undef, .undef, .undef, .undef, .undef, .undef, .undef, .undef, .undef, .undef, .undef, .undef, .undef, .undef, .undef, .undef, .undef, .undef, .undef, .undef, .undef, .undef, .undef, .undef, .undef, .undef, .undef], [some ⟨.raw true 4 (.agg [.str ByteArray.empty, .int .i64 0, .int .i64 0, .nils]) [.tv (.pair .str (.pair (.int .i64) (.pair (.int .i64) (.pair (.row (.pair (.int .i64) (.pair (.int .i64) (.pair (.int .i64) (.pair (.int .i64) (.pair (.int .i64) (.pair .str (.pair (.row (.int .i64)) .unit)))))))) .unit)))) y0_0], true⟩]⟩ (leave (E_spec_UnitsOk k) Tryz.f28 (fin1 .bool))
noncomputable def spec_UnitsOk.l8 (k m2 n : Nat) (x0 : List (ByteArray × Int × Int × (List (Int × Int × Int × Int × Int × ByteArray × (List Int) × Unit)) × Unit)) (x3 : Int) (x5 : Int) (y0_0 : ByteArray × Int × Int × (List (Int × Int × Int × Int × Int × ByteArray × (List Int) × Unit)) × Unit) : Option (Bool) :=
  resume (E_spec_UnitsOk k) 28 (acall (E_spec_UnitsOk k) (arun Tryz.prog (E_spec_UnitsOk k) k)) k [true, false, true, true, true, true, false, true, true, true, true, true] [m2, n] (bodyOf Tryz.f28) ⟨[.tv (.row (.pair .str (.pair (.int .i64) (.pair (.int .i64) (.pair (.row (.pair (.int .i64) (.pair (.int .i64) (.pair (.int .i64) (.pair (.int .i64) (.pair (.int .i64) (.pair .str (.pair (.row (.int .i64)) .unit)))))))) .unit))))) x0, .undef, .undef, .int .i64 x3, .ptr 0 0 0, .int .i64 x5, .undef, .undef, .undef, .undef, .undef, .undef, .undef, .undef, .undef, .undef, .undef, .undef, .undef, .undef, .undef, .undef, .undef, .undef, .undef, .undef, .undef, .undef, .undef, .undef, .undef, .undef, .undef, .undef, .undef, .undef, .undef, .undef, .undef, .undef, .undef, .undef, .undef, .undef, .undef, .undef, .undef, .undef, .undef, .undef, .undef, .undef, .undef, .undef, .undef, .undef, .undef, .undef, .undef, .undef, .undef, .undef, .undef, .undef, .undef, .undef, .undef, .undef, .undef, .undef, .undef, .undef, .undef, .undef, .undef, .undef, .undef, .undef, .undef], [some ⟨.raw true 4 (.agg [.str ByteArray.empty, .int .i64 0, .int .i64 0, .nils]) [.tv (.pair .str (.pair (.int .i64) (.pair (.int .i64) (.pair (.row (.pair (.int .i64) (.pair (.int .i64) (.pair (.int .i64) (.pair (.int .i64) (.pair (.int .i64) (.pair .str (.pair (.row (.int .i64)) .unit)))))))) .unit)))) y0_0], true⟩]⟩ (leave (E_spec_UnitsOk k) Tryz.f28 (fin1 .bool))
noncomputable def spec_UnitsOk.j12 (k m2 m8 : Nat) (x0 : List (ByteArray × Int × Int × (List (Int × Int × Int × Int × Int × ByteArray × (List Int) × Unit)) × Unit)) (x3 : Int) (x5 : Int) (y0_0 : ByteArray × Int × Int × (List (Int × Int × Int × Int × Int × ByteArray × (List Int) × Unit)) × Unit) (y1_0 : Int × Int × Int × Int × Int × ByteArray × (List Int) × Unit) : Option (Bool) :=
  resume (E_spec_UnitsOk k) 28 (acall (E_spec_UnitsOk k) (arun Tryz.prog (E_spec_UnitsOk k) k)) k [true, false, true, true, true, true, false, true, true, true, true, true, true, true, false, true, true, true] [m2, m8] (bodyOf Tryz.f28) ⟨[.tv (.row (.pair .str (.pair (.int .i64) (.pair (.int .i64) (.pair (.row (.pair (.int .i64) (.pair (.int .i64) (.pair (.int .i64) (.pair (.int .i64) (.pair (.int .i64) (.pair .str (.pair (.row (.int .i64)) .unit)))))))) .unit))))) x0, .undef, .undef, .int .i64 x3, .ptr 0 0 0, .int .i64 x5, .ptr 1 0 0, .undef, .undef, .undef, .undef, .undef, .undef, .undef, .undef, .undef, .undef, .undef, .undef, .undef, .undef, .undef, .undef, .undef, .undef, .undef, .undef, .undef, .undef, .undef, .undef, .undef, .undef, .undef, .undef, .undef, .undef, .undef, .undef, .undef, .undef, .undef, .undef, .undef, .undef, .undef, .undef, .undef, .undef, .undef, .undef, .undef, .undef, .undef, .undef, .undef, .undef, .undef, .undef, .undef, .undef, .undef, .undef, .undef, .undef, .undef, .undef, .undef, .undef, .undef, .undef, .undef, .undef, .undef, .undef, .undef, .undef, .undef, .undef], [some ⟨.raw true 4 (.agg [.str ByteArray.empty, .int .i64 0, .int .i64 0, .nils]) [.tv (.pair .str (.pair (.int .i64) (.pair (.int .i64) (.pair (.row (.pair (.int .i64) (.pair (.int .i64) (.pair (.int .i64) (.pair (.int .i64) (.pair (.int .i64) (.pair .str (.pair (.row (.int .i64)) .unit)))))))) .unit)))) y0_0], true⟩, some ⟨.raw true 7 (.agg [.int .i64 0, .int .i64 0, .int .i64 0, .int .i64 0, .int .i64 0, .str ByteArray.empty, .nils]) [.tv (.pair (.int .i64) (.pair (.int .i64) (.pair (.int .i64) (.pair (.int .i64) (.pair (.int .i64) (.pair .str (.pair (.row (.int .i64)) .unit))))))) y1_0], true⟩]⟩ (leave (E_spec_UnitsOk k) Tryz.f28 (fin1 .bool))
theorem spec_UnitsOk.l2_0 (k : Nat) (x0 : List (ByteArray × Int × Int × (List (Int × Int × Int × Int × Int × ByteArray × (List Int) × Unit)) × Unit)) (x3 : Int) : spec_UnitsOk.l2 k 0 x0 x3 = none := by kernel_rfl
theorem spec_UnitsOk.l2_s (k n : Nat) (x0 : List (ByteArray × Int × Int × (List (Int × Int × Int × Int × Int × ByteArray × (List Int) × Unit)) × Unit)) (x3 : Int) : spec_UnitsOk.l2 k (n + 1) x0 x3 =
  iteB (decide (x3 < ((List.length x0) : Int))) (iteB (decide (0 ≤ x3)) (iteB (decide (x3 < ((List.length x0) : Int))) (bindO (spec_UnitOk k (List.getD x0 (Int.toNat x3) (Ty.dflt (.pair .str (.pair (.int .i64) (.pair (.int .i64) (.pair (.row (.pair (.int .i64) (.pair (.int .i64) (.pair (.int .i64) (.pair (.int .i64) (.pair (.int .i64) (.pair .str (.pair (.row (.int .i64)) .unit)))))))) .unit))))))) fun r1 => (iteB (!(!r1)) (bindO (spec_l10Unit k x0 ((List.getD x0 (Int.toNat x3) (Ty.dflt (.pair .str (.pair (.int .i64) (.pair (.int .i64) (.pair (.row (.pair (.int .i64) (.pair (.int .i64) (.pair (.int .i64) (.pair (.int .i64) (.pair (.int .i64) (.pair .str (.pair (.row (.int .i64)) .unit)))))))) .unit)))))).1)) fun r2 => (iteB (r2 != x3) (some false) (gate k (spec_UnitsOk.j7 k n x0 x3 (List.getD x0 (Int.toNat x3) (Ty.dflt (.pair .str (.pair (.int .i64) (.pair (.int .i64) (.pair (.row (.pair (.int .i64) (.pair (.int .i64) (.pair (.int .i64) (.pair (.int .i64) (.pair (.int .i64) (.pair .str (.pair (.row (.int .i64)) .unit)))))))) .unit)))))))))) (some false))) (none)) (none)) (some (decide (((List.length x0) : Int) ≤ 80))) := by kernel_rfl
theorem spec_UnitsOk.j7_e (k m2 : Nat) (x0 : List (ByteArray × Int × Int × (List (Int × Int × Int × Int × Int × ByteArray × (List Int) × Unit)) × Unit)) (x3 : Int) (y0_0 : ByteArray × Int × Int × (List (Int × Int × Int × Int × Int × ByteArray × (List Int) × Unit)) × Unit) : spec_UnitsOk.j7 k m2 x0 x3 y0_0 =
  spec_UnitsOk.l8 k m2 k x0 x3 0 y0_0 := by kernel_rfl
theorem spec_UnitsOk.l8_0 (k m2 : Nat) (x0 : List (ByteArray × Int × Int × (List (Int × Int × Int × Int × Int × ByteArray × (List Int) × Unit)) × Unit)) (x3 : Int) (x5 : Int) (y0_0 : ByteArray × Int × Int × (List (Int × Int × Int × Int × Int × ByteArray × (List Int) × Unit)) × Unit) : spec_UnitsOk.l8 k m2 0 x0 x3 x5 y0_0 = none := by kernel_rfl
theorem spec_UnitsOk.l8_s (k m2 n : Nat) (x0 : List (ByteArray × Int × Int × (List (Int × Int × Int × Int × Int × ByteArray × (List Int) × Unit)) × Unit)) (x3 : Int) (x5 : Int) (y0_0 : ByteArray × Int × Int × (List (Int × Int × Int × Int × Int × ByteArray × (List Int) × Unit)) × Unit) : spec_UnitsOk.l8 k m2 (n + 1) x0 x3 x5 y0_0 =
  iteB (decide (x5 < ((List.length y0_0.2.2.2.1) : Int))) (iteB (decide (0 ≤ x5)) (iteB (decide (x5 < ((List.length y0_0.2.2.2.1) : Int))) (iteB (((List.getD y0_0.2.2.2.1 (Int.toNat x5) (Ty.dflt (.pair (.int .i64) (.pair (.int .i64) (.pair (.int .i64) (.pair (.int .i64) (.pair (.int .i64) (.pair .str (.pair (.row (.int .i64)) .unit))))))))).1) != 11) (iteB (((List.getD y0_0.2.2.2.1 (Int.toNat x5) (Ty.dflt (.pair (.int .i64) (.pair (.int .i64) (.pair (.int .i64) (.pair (.int .i64) (.pair (.int .i64) (.pair .str (.pair (.row (.int .i64)) .unit))))))))).1) != 14) (iteB (((List.getD y0_0.2.2.2.1 (Int.toNat x5) (Ty.dflt (.pair (.int .i64) (.pair (.int .i64) (.pair (.int .i64) (.pair (.int .i64) (.pair (.int .i64) (.pair .str (.pair (.row (.int .i64)) .unit))))))))).1) != 24) (spec_UnitsOk.l8 k m2 n x0 x3 (IntKind.wrap .i64 (x5 + 1)) y0_0) (gate k (spec_UnitsOk.j12 k m2 n x0 x3 x5 y0_0 (List.getD y0_0.2.2.2.1 (Int.toNat x5) (Ty.dflt (.pair (.int .i64) (.pair (.int .i64) (.pair (.int .i64) (.pair (.int .i64) (.pair (.int .i64) (.pair .str (.pair (.row (.int .i64)) .unit)))))))))))) (gate k (spec_UnitsOk.j12 k m2 n x0 x3 x5 y0_0 (List.getD y0_0.2.2.2.1 (Int.toNat x5) (Ty.dflt (.pair (.int .i64) (.pair (.int .i64) (.pair (.int .i64) (.pair (.int .i64) (.pair (.int .i64) (.pair .str (.pair (.row (.int .i64)) .unit)))))))))))) (gate k (spec_UnitsOk.j12 k m2 n x0 x3 x5 y0_0 (List.getD y0_0.2.2.2.1 (Int.toNat x5) (Ty.dflt (.pair (.int .i64) (.pair (.int .i64) (.pair (.int .i64) (.pair (.int .i64) (.pair (.int .i64) (.pair .str (.pair (.row (.int .i64)) .unit)))))))))))) (none)) (none)) (spec_UnitsOk.l2 k m2 x0 (IntKind.wrap .i64 (x3 + 1))) := by kernel_rfl
theorem spec_UnitsOk.j12_e (k m2 m8 : Nat) (x0 : List (ByteArray × Int × Int × (List (Int × Int × Int × Int × Int × ByteArray × (List Int) × Unit)) × Unit)) (x3 : Int) (x5 : Int) (y0_0 : ByteArray × Int × Int × (List (Int × Int × Int × Int × Int × ByteArray × (List Int) × Unit)) × Unit) (y1_0 : Int × Int × Int × Int × Int × ByteArray × (List Int) × Unit) : spec_UnitsOk.j12 k m2 m8 x0 x3 x5 y0_0 y1_0 =
  bindO (spec_l10Unit k x0 y1_0.2.2.2.2.2.1) fun r3 => (iteB (!(decide (r3 < 0))) (iteB (y1_0.1 != 24) (iteB (decide (0 ≤ r3)) (iteB (decide (r3 < ((List.length x0) : Int))) (iteB ((((List.getD x0 (Int.toNat r3) (Ty.dflt (.pair .str (.pair (.int .i64) (.pair (.int .i64) (.pair (.row (.pair (.int .i64) (.pair (.int .i64) (.pair (.int .i64) (.pair (.int .i64) (.pair (.int .i64) (.pair .str (.pair (.row (.int .i64)) .unit)))))))) .unit)))))).2).1) != ((List.length y1_0.2.2.2.2.2.2.1) : Int)) (some false) (spec_UnitsOk.l8 k m2 m8 x0 x3 (IntKind.wrap .i64 (x5 + 1)) y0_0)) (none)) (none)) (spec_UnitsOk.l8 k m2 m8 x0 x3 (IntKind.wrap .i64 (x5 + 1)) y0_0)) (some false)) := by kernel_rfl
theorem spec_UnitsOk_e (k : Nat) (a1 : List (ByteArray × Int × Int × (List (Int × Int × Int × Int × Int × ByteArray × (List Int) × Unit)) × Unit)) : spec_UnitsOk k a1 =
  spec_UnitsOk.l2 k k a1 0 := by kernel_rfl
theorem E_spec_UnitsOk_calls (k : Nat) : CallsOk Tryz.prog (E_spec_UnitsOk k) (arun Tryz.prog (E_spec_UnitsOk k) k) := by
  refine told_run (tyTOk _ _) ?_ (fun run h => regOk (tyTOk _ _) mixOk h) ?_ nameOk k
  · intro g m hg
    simp only [E_spec_UnitsOk] at hg
    split at hg
    · cases hg
      refine con_byVal fun ρ l K x hm => ?_
      split at hm
      · obtain ⟨c1, h1, hm⟩ := Option.bind_eq_some_iff.1 hm
        obtain ⟨r, hr, hm⟩ := Option.bind_eq_some_iff.1 hm
        exact ⟨_, hm, LawV.reads (.cons (.as h1) .nil) (spec_UnitOk_law k c1 r hr)⟩
      · cases hm
    · cases hg
      refine con_byVal fun ρ l K x hm => ?_
      split at hm
      · obtain ⟨c1, h1, hm⟩ := Option.bind_eq_some_iff.1 hm
        obtain ⟨c2, h2, hm⟩ := Option.bind_eq_some_iff.1 hm
        obtain ⟨r, hr, hm⟩ := Option.bind_eq_some_iff.1 hm
        exact ⟨_, hm, LawV.reads (.cons (.as h1) (.cons (.as h2) .nil)) (spec_l10Unit_law k c1 c2 r hr)⟩
      · cases hm
    · cases hg; exact noCon_ok
    · cases hg
  · intro g hg r
    by_cases h : g = 28
    · subst h; simp [E_spec_UnitsOk] at hg
    · simp [E_spec_UnitsOk, h]
theorem f28_okspec_UnitsOk : Tryz.prog.funcs[28]? = some Tryz.f28 := by kernel_rfl
theorem spec_UnitsOk_law (k : Nat) (a1 : List (ByteArray × Int × Int × (List (Int × Int × Int × Int × Int × ByteArray × (List Int) × Unit)) × Unit)) (x : Bool) (h : spec_UnitsOk k a1 = some x) : LawV Tryz.prog 28 [.tv (.row (.pair .str (.pair (.int .i64) (.pair (.int .i64) (.pair (.row (.pair (.int .i64) (.pair (.int .i64) (.pair (.int .i64) (.pair (.int .i64) (.pair (.int .i64) (.pair .str (.pair (.row (.int .i64)) .unit)))))))) .unit))))) a1] (tvn .bool x) := by
  unfold spec_UnitsOk at h
  exact law1 (t := .bool) (tyTOk _ _) (E_spec_UnitsOk_calls k) mixOk f28_okspec_UnitsOk (nameOk _ _ f28_okspec_UnitsOk) (by kernel_rfl) h
/-! spec.l3Words -/
noncomputable def E_spec_l3Words (k : Nat) : Env := ⟨ty, fun g => match g with
  | 31 => some (byVal fun ρ l K => match l with
    | [b1] => (b1.as (.int .i64)).bind fun c1 => (spec_WordOk k c1).bind fun r => K (tvn .bool r)
    | _ => none)
  | 30 => some noCon
  | _ => none, fun f r => match f with | 30 => (match r with | 2 => some [0, 3] | _ => none) | _ => none⟩
noncomputable def spec_l3Words (k : Nat) (a1 : List Int) : Option (Bool) :=
  abody (E_spec_l3Words k) (arun Tryz.prog (E_spec_l3Words k) k) k 30 Tryz.f30 [.tv (.row (.int .i64)) a1] [] (fin1 .bool)
noncomputable def spec_l3Words.l2 (k n : Nat) (x0 : List Int) (x3 : Int) : Option (Bool) :=
  resume (E_spec_l3Words k) 30 (acall (E_spec_l3Words k) (arun Tryz.prog (E_spec_l3Words k) k)) k [true, false, true, true] [n] (bodyOf Tryz.f30) ⟨[.tv (.row (.int .i64)) x0, .undef, .undef, .int .i64 x3, .undef, .undef, .undef, .undef, .undef, .undef, .undef, .undef, .undef, .undef, .undef, .undef], []⟩ (leave (E_spec_l3Words k) Tryz.f30 (fin1 .bool))
theorem spec_l3Words.l2_0 (k : Nat) (x0 : List Int) (x3 : Int) : spec_l3Words.l2 k 0 x0 x3 = none := by kernel_rfl
theorem spec_l3Words.l2_s (k n : Nat) (x0 : List Int) (x3 : Int) : spec_l3Words.l2 k (n + 1) x0 x3 =
  iteB (decide (x3 < ((List.length x0) : Int))) (iteB (decide (0 ≤ x3)) (iteB (decide (x3 < ((List.length x0) : Int))) (bindO (spec_WordOk k (List.getD x0 (Int.toNat x3) 0)) fun r1 => (iteB (!r1) (some false) (spec_l3Words.l2 k n x0 (IntKind.wrap .i64 (x3 + 1))))) (none)) (none)) (some true) := by kernel_rfl
theorem spec_l3Words_e (k : Nat) (a1 : List Int) : spec_l3Words k a1 =
  spec_l3Words.l2 k k a1 0 := by kernel_rfl
theorem E_spec_l3Words_calls (k : Nat) : CallsOk Tryz.prog (E_spec_l3Words k) (arun Tryz.prog (E_spec_l3Words k) k) := by
  refine told_run (tyTOk _ _) ?_ (fun run h => regOk (tyTOk _ _) mixOk h) ?_ nameOk k
  · intro g m hg
    simp only [E_spec_l3Words] at hg
    split at hg
    · cases hg
      refine con_byVal fun ρ l K x hm => ?_
      split at hm
      · obtain ⟨c1, h1, hm⟩ := Option.bind_eq_some_iff.1 hm
        obtain ⟨r, hr, hm⟩ := Option.bind_eq_some_iff.1 hm
        exact ⟨_, hm, LawV.reads (.cons (.as h1) .nil) (spec_WordOk_law k c1 r hr)⟩
      · cases hm
    · cases hg; exact noCon_ok
    · cases hg
  · intro g hg r
    by_cases h : g = 30
    · subst h; simp [E_spec_l3Words] at hg
    · simp [E_spec_l3Words, h]
theorem f30_okspec_l3Words : Tryz.prog.funcs[30]? = some Tryz.f30 := by kernel_rfl
theorem spec_l3Words_law (k : Nat) (a1 : List Int) (x : Bool) (h : spec_l3Words k a1 = some x) : LawV Tryz.prog 30 [.tv (.row (.int .i64)) a1] (tvn .bool x) := by
  unfold spec_l3Words at h
  exact law1 (t := .bool) (tyTOk _ _) (E_spec_l3Words_calls k) mixOk f30_okspec_l3Words (nameOk _ _ f30_okspec_l3Words) (by kernel_rfl) h
/-! spec.l13Body -/
noncomputable def E_spec_l13Body (k : Nat) : Env := ⟨ty, fun g => match g with
  | 29 => some (byVal fun ρ l K => match l with
    | [b1, b2, b3] => (b1.as (.int .i64)).bind fun c1 => (b2.as (.int .i64)).bind fun c2 => (b3.as (.int .i64)).bind fun c3 => (spec_l1In k c1 c2 c3).bind fun r => K (tvn .bool r)
    | _ => none)
  | 30 => some (byVal fun ρ l K => match l with
    | [b1] => (b1.as (.row (.int .i64))).bind fun c1 => (spec_l3Words k c1).bind fun r => K (tvn .bool r)
    | _ => none)
  | 31 => some (byVal fun ρ l K => match l with
    | [b1] => (b1.as (.int .i64)).bind fun c1 => (spec_WordOk k c1).bind fun r => K (tvn .bool r)
    | _ => none)
  | 32 => some noCon
  | _ => none, fun f r => match f with | 32 => (match r with | 2 => some [2, 3, 5] | _ => none) | _ => none⟩
noncomputable def spec_l13Body (k : Nat) (a1 : (List (ByteArray × Int × Int × (List (Int × Int × Int × Int × Int × ByteArray × (List Int) × Unit)) × Unit)) × (List ((List (Int × Int × (List Int) × Int × Unit)) × Bool × Bool × Int × Int × Int × Int × Int × Unit)) × (List (Int × Bool × (List Int) × (List (Int × Int × Int × Int × Unit)) × (List (Int × Int × Int × Int × Unit)) × Unit)) × (List Int) × Bool × Int × Unit) (a2 : (List (Int × Int × (List Int) × Int × Unit)) × Bool × Bool × Int × Int × Int × Int × Int × Unit) : Option (Bool) :=
  abody (E_spec_l13Body k) (arun Tryz.prog (E_spec_l13Body k) k) k 32 Tryz.f32 [.tv (.pair (.row (.pair .str (.pair (.int .i64) (.pair (.int .i64) (.pair (.row (.pair (.int .i64) (.pair (.int .i64) (.pair (.int .i64) (.pair (.int .i64) (.pair (.int .i64) (.pair .str (.pair (.row (.int .i64)) .unit)))))))) .unit))))) (.pair (.row (.pair (.row (.pair (.int .i64) (.pair (.int .i64) (.pair (.row (.int .i64)) (.pair (.int .i64) .unit))))) (.pair .bool (.pair .bool (.pair (.int .i64) (.pair (.int .i64) (.pair (.int .i64) (.pair (.int .i64) (.pair (.int .i64) .unit))))))))) (.pair (.row (.pair (.int .i64) (.pair .bool (.pair (.row (.int .i64)) (.pair (.row (.pair (.int .i64) (.pair (.int .i64) (.pair (.int .i64) (.pair (.int .i64) .unit))))) (.pair (.row (.pair (.int .i64) (.pair (.int .i64) (.pair (.int .i64) (.pair (.int .i64) .unit))))) .unit)))))) (.pair (.row (.int .i64)) (.pair .bool (.pair (.int .i64) .unit)))))) a1, .tv (.pair (.row (.pair (.int .i64) (.pair (.int .i64) (.pair (.row (.int .i64)) (.pair (.int .i64) .unit))))) (.pair .bool (.pair .bool (.pair (.int .i64) (.pair (.int .i64) (.pair (.int .i64) (.pair (.int .i64) (.pair (.int .i64) .unit)))))))) a2] [] (fin1 .bool)
noncomputable def spec_l13Body.l2 (k n : Nat) (x5 : Int) (y0_0 : (List (ByteArray × Int × Int × (List (Int × Int × Int × Int × Int × ByteArray × (List Int) × Unit)) × Unit)) × (List ((List (Int × Int × (List Int) × Int × Unit)) × Bool × Bool × Int × Int × Int × Int × Int × Unit)) × (List (Int × Bool × (List Int) × (List (Int × Int × Int × Int × Unit)) × (List (Int × Int × Int × Int × Unit)) × Unit)) × (List Int) × Bool × Int × Unit) (y1_0 : (List (Int × Int × (List Int) × Int × Unit)) × Bool × Bool × Int × Int × Int × Int × Int × Unit) : Option (Bool) :=
  resume (E_spec_l13Body k) 32 (acall (E_spec_l13Body k) (arun Tryz.prog (E_spec_l13Body k) k)) k [true, false, true, true] [n] (bodyOf Tryz.f32) ⟨[.undef, .undef, .ptr 0 0 0, .ptr 1 0 0, .undef, .int .i64 x5, .undef, .undef, .undef, .undef, .undef, .undef, .undef, .undef, .undef, .undef, .undef, .undef, .undef, .undef, .undef, .undef, .undef, .undef, .undef, .undef, .undef, .undef, .undef, .undef, .undef, .undef, .undef, .undef, .undef, .undef, .undef, .undef, .undef, .undef, .undef, .undef, .undef, .undef, .undef, .undef, .undef, .undef, .undef, .undef, .undef, .undef, .undef, .undef, .undef, .undef, .undef, .undef, .undef, .undef, .undef, .undef, .undef, .undef, .undef, .undef, .undef, .undef, .undef, .undef, .undef, .undef, .undef, .undef, .undef, .undef, .undef, .undef, .undef, .undef, .undef, .undef, .undef, .undef, .undef, .undef, .undef, .undef, .undef, .undef, .undef, .undef, .undef, .undef, .undef, .undef, .undef, .undef, .undef, .undef, .undef, .undef, .undef, .undef, .undef, .undef], [some ⟨.raw true 6 (.agg [.nils, .nils, .nils, .nils, .bool false, .int .i64 0]) [.tv (.pair (.row (.pair .str (.pair (.int .i64) (.pair (.int .i64) (.pair (.row (.pair (.int .i64) (.pair (.int .i64) (.pair (.int .i64) (.pair (.int .i64) (.pair (.int .i64) (.pair .str (.pair (.row (.int .i64)) .unit)))))))) .unit))))) (.pair (.row (.pair (.row (.pair (.int .i64) (.pair (.int .i64) (.pair (.row (.int .i64)) (.pair (.int .i64) .unit))))) (.pair .bool (.pair .bool (.pair (.int .i64) (.pair (.int .i64) (.pair (.int .i64) (.pair (.int .i64) (.pair (.int .i64) .unit))))))))) (.pair (.row (.pair (.int .i64) (.pair .bool (.pair (.row (.int .i64)) (.pair (.row (.pair (.int .i64) (.pair (.int .i64) (.pair (.int .i64) (.pair (.int .i64) .unit))))) (.pair (.row (.pair (.int .i64) (.pair (.int .i64) (.pair (.int .i64) (.pair (.int .i64) .unit))))) .unit)))))) (.pair (.row (.int .i64)) (.pair .bool (.pair (.int .i64) .unit)))))) y0_0], true⟩, some ⟨.raw true 8 (.agg [.nils, .bool false, .bool false, .int .i64 0, .int .i64 0, .int .i64 0, .int .i64 0, .int .i64 0]) [.tv (.pair (.row (.pair (.int .i64) (.pair (.int .i64) (.pair (.row (.int .i64)) (.pair (.int .i64) .unit))))) (.pair .bool (.pair .bool (.pair (.int .i64) (.pair (.int .i64) (.pair (.int .i64) (.pair (.int .i64) (.pair (.int .i64) .unit)))))))) y1_0], true⟩]⟩ (leave (E_spec_l13Body k) Tryz.f32 (fin1 .bool))
theorem spec_l13Body.l2_0 (k : Nat) (x5 : Int) (y0_0 : (List (ByteArray × Int × Int × (List (Int × Int × Int × Int × Int × ByteArray × (List Int) × Unit)) × Unit)) × (List ((List (Int × Int × (List Int) × Int × Unit)) × Bool × Bool × Int × Int × Int × Int × Int × Unit)) × (List (Int × Bool × (List Int) × (List (Int × Int × Int × Int × Unit)) × (List (Int × Int × Int × Int × Unit)) × Unit)) × (List Int) × Bool × Int × Unit) (y1_0 : (List (Int × Int × (List Int) × Int × Unit)) × Bool × Bool × Int × Int × Int × Int × Int × Unit) : spec_l13Body.l2 k 0 x5 y0_0 y1_0 = none := by kernel_rfl
theorem spec_l13Body.l2_s (k n : Nat) (x5 : Int) (y0_0 : (List (ByteArray × Int × Int × (List (Int × Int × Int × Int × Int × ByteArray × (List Int) × Unit)) × Unit)) × (List ((List (Int × Int × (List Int) × Int × Unit)) × Bool × Bool × Int × Int × Int × Int × Int × Unit)) × (List (Int × Bool × (List Int) × (List (Int × Int × Int × Int × Unit)) × (List (Int × Int × Int × Int × Unit)) × Unit)) × (List Int) × Bool × Int × Unit) (y1_0 : (List (Int × Int × (List Int) × Int × Unit)) × Bool × Bool × Int × Int × Int × Int × Int × Unit) : spec_l13Body.l2 k (n + 1) x5 y0_0 y1_0 =
  iteB (decide (x5 < ((List.length y1_0.1) : Int))) (iteB (decide (0 ≤ x5)) (iteB (decide (x5 < ((List.length y1_0.1) : Int))) (bindO (spec_l1In k ((List.getD y1_0.1 (Int.toNat x5) (Ty.dflt (.pair (.int .i64) (.pair (.int .i64) (.pair (.row (.int .i64)) (.pair (.int .i64) .unit)))))).1) 0 (IntKind.wrap .i64 (((List.length y0_0.1) : Int) - 1))) fun r1 => (iteB (!(!r1)) (iteB (decide (0 ≤ (List.getD y1_0.1 (Int.toNat x5) (Ty.dflt (.pair (.int .i64) (.pair (.int .i64) (.pair (.row (.int .i64)) (.pair (.int .i64) .unit)))))).1)) (iteB (decide ((List.getD y1_0.1 (Int.toNat x5) (Ty.dflt (.pair (.int .i64) (.pair (.int .i64) (.pair (.row (.int .i64)) (.pair (.int .i64) .unit)))))).1 < ((List.length y0_0.1) : Int))) (bindO (spec_l1In k (((List.getD y1_0.1 (Int.toNat x5) (Ty.dflt (.pair (.int .i64) (.pair (.int .i64) (.pair (.row (.int .i64)) (.pair (.int .i64) .unit)))))).2).1) 0 (IntKind.wrap .i64 (((List.length (((((List.getD y0_0.1 (Int.toNat ((List.getD y1_0.1 (Int.toNat x5) (Ty.dflt (.pair (.int .i64) (.pair (.int .i64) (.pair (.row (.int .i64)) (.pair (.int .i64) .unit)))))).1)) (Ty.dflt (.pair .str (.pair (.int .i64) (.pair (.int .i64) (.pair (.row (.pair (.int .i64) (.pair (.int .i64) (.pair (.int .i64) (.pair (.int .i64) (.pair (.int .i64) (.pair .str (.pair (.row (.int .i64)) .unit)))))))) .unit)))))).2).2).2).1)) : Int) - 1))) fun r2 => (iteB (!(!r2)) (iteB (decide (0 ≤ (List.getD y1_0.1 (Int.toNat x5) (Ty.dflt (.pair (.int .i64) (.pair (.int .i64) (.pair (.row (.int .i64)) (.pair (.int .i64) .unit)))))).1)) (iteB (decide ((List.getD y1_0.1 (Int.toNat x5) (Ty.dflt (.pair (.int .i64) (.pair (.int .i64) (.pair (.row (.int .i64)) (.pair (.int .i64) .unit)))))).1 < ((List.length y0_0.1) : Int))) (iteB (!(((List.length ((((List.getD y1_0.1 (Int.toNat x5) (Ty.dflt (.pair (.int .i64) (.pair (.int .i64) (.pair (.row (.int .i64)) (.pair (.int .i64) .unit)))))).2).2).1)) : Int) != ((((List.getD y0_0.1 (Int.toNat ((List.getD y1_0.1 (Int.toNat x5) (Ty.dflt (.pair (.int .i64) (.pair (.int .i64) (.pair (.row (.int .i64)) (.pair (.int .i64) .unit)))))).1)) (Ty.dflt (.pair .str (.pair (.int .i64) (.pair (.int .i64) (.pair (.row (.pair (.int .i64) (.pair (.int .i64) (.pair (.int .i64) (.pair (.int .i64) (.pair (.int .i64) (.pair .str (.pair (.row (.int .i64)) .unit)))))))) .unit)))))).2).2).1))) (bindO (spec_l3Words k ((((List.getD y1_0.1 (Int.toNat x5) (Ty.dflt (.pair (.int .i64) (.pair (.int .i64) (.pair (.row (.int .i64)) (.pair (.int .i64) .unit)))))).2).2).1)) fun r3 => (iteB (!(!r3)) (bindO (spec_l1In k (((((List.getD y1_0.1 (Int.toNat x5) (Ty.dflt (.pair (.int .i64) (.pair (.int .i64) (.pair (.row (.int .i64)) (.pair (.int .i64) .unit)))))).2).2).2).1) (-1) 249) fun r4 => (iteB (!r4) (some false) (spec_l13Body.l2 k n (IntKind.wrap .i64 (x5 + 1)) y0_0 y1_0))) (some false))) (some false)) (none)) (none)) (some false))) (none)) (none)) (some false))) (none)) (none)) (iteB (decide (((List.length y1_0.1) : Int) ≤ 12)) (iteB (!y1_0.2.1) (iteB (decide (((List.length y1_0.1) : Int) > 0)) (bindO (spec_l1In k y1_0.2.2.2.1 0 100000) fun r5 => (iteB r5 (bindO (spec_l1In k y1_0.2.2.2.2.2.1 0 100000) fun r6 => (iteB r6 (bindO (spec_WordOk k y1_0.2.2.2.2.1) fun r7 => (iteB r7 (bindO (spec_l1In k y1_0.2.2.2.2.2.2.1 (-1) 249) fun r8 => (iteB r8 (bindO (spec_l1In k y1_0.2.2.2.2.2.2.2.1 (-1) 249) fun r9 => (some r9)) (some false))) (some false))) (some false))) (some false))) (some false)) (bindO (spec_l1In k y1_0.2.2.2.1 0 100000) fun r10 => (iteB r10 (bindO (spec_l1In k y1_0.2.2.2.2.2.1 0 100000) fun r11 => (iteB r11 (bindO (spec_WordOk k y1_0.2.2.2.2.1) fun r12 => (iteB r12 (bindO (spec_l1In k y1_0.2.2.2.2.2.2.1 (-1) 249) fun r13 => (iteB r13 (bindO (spec_l1In k y1_0.2.2.2.2.2.2.2.1 (-1) 249) fun r14 => (some r14)) (some false))) (some false))) (some false))) (some false)))) (some false)) := by kernel_rfl
theorem spec_l13Body_e (k : Nat) (a1 : (List (ByteArray × Int × Int × (List (Int × Int × Int × Int × Int × ByteArray × (List Int) × Unit)) × Unit)) × (List ((List (Int × Int × (List Int) × Int × Unit)) × Bool × Bool × Int × Int × Int × Int × Int × Unit)) × (List (Int × Bool × (List Int) × (List (Int × Int × Int × Int × Unit)) × (List (Int × Int × Int × Int × Unit)) × Unit)) × (List Int) × Bool × Int × Unit) (a2 : (List (Int × Int × (List Int) × Int × Unit)) × Bool × Bool × Int × Int × Int × Int × Int × Unit) : spec_l13Body k a1 a2 =
  spec_l13Body.l2 k k 0 a1 a2 := by kernel_rfl
theorem E_spec_l13Body_calls (k : Nat) : CallsOk Tryz.prog (E_spec_l13Body k) (arun Tryz.prog (E_spec_l13Body k) k) := by
  refine told_run (tyTOk _ _) ?_ (fun run h => regOk (tyTOk _ _) mixOk h) ?_ nameOk k
  · intro g m hg
    simp only [E_spec_l13Body] at hg
    split at hg
    · cases hg
      refine con_byVal fun ρ l K x hm => ?_
      split at hm
      · obtain ⟨c1, h1, hm⟩ := Option.bind_eq_some_iff.1 hm
        obtain ⟨c2, h2, hm⟩ := Option.bind_eq_some_iff.1 hm
        obtain ⟨c3, h3, hm⟩ := Option.bind_eq_some_iff.1 hm
        obtain ⟨r, hr, hm⟩ := Option.bind_eq_some_iff.1 hm
        exact ⟨_, hm, LawV.reads (.cons (.as h1) (.cons (.as h2) (.cons (.as h3) .nil))) (spec_l1In_law k c1 c2 c3 r hr)⟩
      · cases hm
    · cases hg
      refine con_byVal fun ρ l K x hm => ?_
      split at hm
      · obtain ⟨c1, h1, hm⟩ := Option.bind_eq_some_iff.1 hm
        obtain ⟨r, hr, hm⟩ := Option.bind_eq_some_iff.1 hm
        exact ⟨_, hm, LawV.reads (.cons (.as h1) .nil) (spec_l3Words_law k c1 r hr)⟩
      · cases hm
    · cases hg
      refine con_byVal fun ρ l K x hm => ?_
      split at hm
      · obtain ⟨c1, h1, hm⟩ := Option.bind_eq_some_iff.1 hm
        obtain ⟨r, hr, hm⟩ := Option.bind_eq_some_iff.1 hm
        exact ⟨_, hm, LawV.reads (.cons (.as h1) .nil) (spec_WordOk_law k c1 r hr)⟩
      · cases hm
    · cases hg; exact noCon_ok
    · cases hg
  · intro g hg r
    by_cases h : g = 32
    · subst h; simp [E_spec_l13Body] at hg
    · simp [E_spec_l13Body, h]
theorem f32_okspec_l13Body : Tryz.prog.funcs[32]? = some Tryz.f32 := by kernel_rfl
theorem spec_l13Body_law (k : Nat) (a1 : (List (ByteArray × Int × Int × (List (Int × Int × Int × Int × Int × ByteArray × (List Int) × Unit)) × Unit)) × (List ((List (Int × Int × (List Int) × Int × Unit)) × Bool × Bool × Int × Int × Int × Int × Int × Unit)) × (List (Int × Bool × (List Int) × (List (Int × Int × Int × Int × Unit)) × (List (Int × Int × Int × Int × Unit)) × Unit)) × (List Int) × Bool × Int × Unit) (a2 : (List (Int × Int × (List Int) × Int × Unit)) × Bool × Bool × Int × Int × Int × Int × Int × Unit) (x : Bool) (h : spec_l13Body k a1 a2 = some x) : LawV Tryz.prog 32 [.tv (.pair (.row (.pair .str (.pair (.int .i64) (.pair (.int .i64) (.pair (.row (.pair (.int .i64) (.pair (.int .i64) (.pair (.int .i64) (.pair (.int .i64) (.pair (.int .i64) (.pair .str (.pair (.row (.int .i64)) .unit)))))))) .unit))))) (.pair (.row (.pair (.row (.pair (.int .i64) (.pair (.int .i64) (.pair (.row (.int .i64)) (.pair (.int .i64) .unit))))) (.pair .bool (.pair .bool (.pair (.int .i64) (.pair (.int .i64) (.pair (.int .i64) (.pair (.int .i64) (.pair (.int .i64) .unit))))))))) (.pair (.row (.pair (.int .i64) (.pair .bool (.pair (.row (.int .i64)) (.pair (.row (.pair (.int .i64) (.pair (.int .i64) (.pair (.int .i64) (.pair (.int .i64) .unit))))) (.pair (.row (.pair (.int .i64) (.pair (.int .i64) (.pair (.int .i64) (.pair (.int .i64) .unit))))) .unit)))))) (.pair (.row (.int .i64)) (.pair .bool (.pair (.int .i64) .unit)))))) a1, .tv (.pair (.row (.pair (.int .i64) (.pair (.int .i64) (.pair (.row (.int .i64)) (.pair (.int .i64) .unit))))) (.pair .bool (.pair .bool (.pair (.int .i64) (.pair (.int .i64) (.pair (.int .i64) (.pair (.int .i64) (.pair (.int .i64) .unit)))))))) a2] (tvn .bool x) := by
  unfold spec_l13Body at h
  exact law1 (t := .bool) (tyTOk _ _) (E_spec_l13Body_calls k) mixOk f32_okspec_l13Body (nameOk _ _ f32_okspec_l13Body) (by kernel_rfl) h
/-! spec.l12Waits -/
noncomputable def E_spec_l12Waits (k : Nat) : Env := ⟨ty, fun g => match g with
  | 29 => some (byVal fun ρ l K => match l with
    | [b1, b2, b3] => (b1.as (.int .i64)).bind fun c1 => (b2.as (.int .i64)).bind fun c2 => (b3.as (.int .i64)).bind fun c3 => (spec_l1In k c1 c2 c3).bind fun r => K (tvn .bool r)
    | _ => none)
  | 31 => some (byVal fun ρ l K => match l with
    | [b1] => (b1.as (.int .i64)).bind fun c1 => (spec_WordOk k c1).bind fun r => K (tvn .bool r)
    | _ => none)
  | 56 => some noCon
  | _ => none, fun f r => match f with | 56 => (match r with | 2 => some [0, 3] | 7 => some [0, 3, 4] | 8 => some [0, 3, 4, 5] | _ => none) | _ => none⟩
noncomputable def spec_l12Waits (k : Nat) (a1 : List (Int × Int × Int × Int × Unit)) : Option (Bool) :=
  abody (E_spec_l12Waits k) (arun Tryz.prog (E_spec_l12Waits k) k) k 56 Tryz.f56 [.tv (.row (.pair (.int .i64) (.pair (.int .i64) (.pair (.int .i64) (.pair (.int .i64) .unit))))) a1] [] (fin1 .bool)
noncomputable def spec_l12Waits.l2 (k n : Nat) (x0 : List (Int × Int × Int × Int × Unit)) (x3 : Int) : Option (Bool) :=
  resume (E_spec_l12Waits k) 56 (acall (E_spec_l12Waits k) (arun Tryz.prog (E_spec_l12Waits k) k)) k [true, false, true, true] [n] (bodyOf Tryz.f56) ⟨[.tv (.row (.pair (.int .i64) (.pair (.int .i64) (.pair (.int .i64) (.pair (.int .i64) .unit))))) x0, .undef, .undef, .int .i64 x3, .undef, .undef, .undef, .undef, .undef, .undef, .undef, .undef, .undef, .undef, .undef, .undef, .undef, .undef, .undef, .undef, .undef, .undef, .undef, .undef, .undef, .undef, .undef, .undef, .undef, .undef, .undef, .undef, .undef, .undef, .undef, .undef, .undef, .undef, .undef, .undef, .undef, .undef, .undef, .undef, .undef, .undef, .undef, .undef, .undef, .undef, .undef, .undef], []⟩ (leave (E_spec_l12Waits k) Tryz.f56 (fin1 .bool))
noncomputable def spec_l12Waits.j7 (k m2 : Nat) (x0 : List (Int × Int × Int × Int × Unit)) (x3 : Int) (y0_0 : Int × Int × Int × Int × Unit) : Option (Bool) :=
  resume (E_spec_l12Waits k) 56 (acall (E_spec_l12Waits k) (arun Tryz.prog (E_spec_l12Waits k) k)) k [true, false, true, true, true, true, false, true, true, true] [m2] (bodyOf Tryz.f56) ⟨[.tv (.row (.pair (.int .i64) (.pair (.int .i64) (.pair (.int .i64) (.pair (.int .i64) .unit))))) x0, .undef, .undef, .int .i64 x3, .ptr 0 0 0, .undef, .undef, .undef, .undef, .undef, .undef, .undef, .undef, .undef, .undef, .undef, .undef, .undef, .undef, .undef, .undef, .undef, .undef, .undef, .undef, .undef, .undef, .undef, .undef, .undef, .undef, .undef, .undef, .undef, .undef, .undef, .undef, .undef, .undef, .undef, .undef, .undef, .undef, .undef, .undef, .undef, .undef, .undef, .undef, .undef, .undef, .undef], [some ⟨.raw true 4 (.agg [.int .i64 0, .int .i64 0, .int .i64 0, .int .i64 0]) [.tv (.pair (.int .i64) (.pair (.int .i64) (.pair (.int .i64) (.pair (.int .i64) .unit)))) y0_0], true⟩]⟩ (leave (E_spec_l12Waits k) Tryz.f56 (fin1 .bool))
noncomputable def spec_l12Waits.l8 (k m2 n : Nat) (x0 : List (Int × Int × Int × Int × Unit)) (x3 : Int) (x5 : Int) (y0_0 : Int × Int × Int × Int × Unit) : Option (Bool) :=
  resume (E_spec_l12Waits k) 56 (acall (E_spec_l12Waits k) (arun Tryz.prog (E_spec_l12Waits k) k)) k [true, false, true, true, true, true, false, true, true, true, true, true] [m2, n] (bodyOf Tryz.f56) ⟨[.tv (.row (.pair (.int .i64) (.pair (.int .i64) (.pair (.int .i64) (.pair (.int .i64) .unit))))) x0, .undef, .undef, .int .i64 x3, .ptr 0 0 0, .int .i64 x5, .undef, .undef, .undef, .undef, .undef, .undef, .undef, .undef, .undef, .undef, .undef, .undef, .undef, .undef, .undef, .undef, .undef, .undef, .undef, .undef, .undef, .undef, .undef, .undef, .undef, .undef, .undef, .undef, .undef, .undef, .undef, .undef, .undef, .undef, .undef, .undef, .undef, .undef, .undef, .undef, .undef, .undef, .undef, .undef, .undef, .undef], [some ⟨.raw true 4 (.agg [.int .i64 0, .int .i64 0, .int .i64 0, .int .i64 0]) [.tv (.pair (.int .i64) (.pair (.int .i64) (.pair (.int .i64) (.pair (.int .i64) .unit)))) y0_0], true⟩]⟩ (leave (E_spec_l12Waits k) Tryz.f56 (fin1 .bool))
theorem spec_l12Waits.l2_0 (k : Nat) (x0 : List (Int × Int × Int × Int × Unit)) (x3 : Int) : spec_l12Waits.l2 k 0 x0 x3 = none := by kernel_rfl
theorem spec_l12Waits.l2_s (k n : Nat) (x0 : List (Int × Int × Int × Int × Unit)) (x3 : Int) : spec_l12Waits.l2 k (n + 1) x0 x3 =
  iteB (decide (x3 < ((List.length x0) : Int))) (iteB (decide (0 ≤ x3)) (iteB (decide (x3 < ((List.length x0) : Int))) (bindO (spec_l1In k ((List.getD x0 (Int.toNat x3) (Ty.dflt (.pair (.int .i64) (.pair (.int .i64) (.pair (.int .i64) (.pair (.int .i64) .unit)))))).1) 0 5) fun r1 => (iteB (!(!r1)) (bindO (spec_WordOk k ((((List.getD x0 (Int.toNat x3) (Ty.dflt (.pair (.int .i64) (.pair (.int .i64) (.pair (.int .i64) (.pair (.int .i64) .unit)))))).2).2).1)) fun r2 => (iteB (!(!r2)) (iteB (!(decide (((List.getD x0 (Int.toNat x3) (Ty.dflt (.pair (.int .i64) (.pair (.int .i64) (.pair (.int .i64) (.pair (.int .i64) .unit)))))).2).1 < 0))) (iteB (decide (((((List.getD x0 (Int.toNat x3) (Ty.dflt (.pair (.int .i64) (.pair (.int .i64) (.pair (.int .i64) (.pair (.int .i64) .unit)))))).2).2).2).1 < 0)) (some false) (gate k (spec_l12Waits.j7 k n x0 x3 (List.getD x0 (Int.toNat x3) (Ty.dflt (.pair (.int .i64) (.pair (.int .i64) (.pair (.int .i64) (.pair (.int .i64) .unit))))))))) (some false)) (some false))) (some false))) (none)) (none)) (some (decide (((List.length x0) : Int) ≤ 6))) := by kernel_rfl
theorem spec_l12Waits.j7_e (k m2 : Nat) (x0 : List (Int × Int × Int × Int × Unit)) (x3 : Int) (y0_0 : Int × Int × Int × Int × Unit) : spec_l12Waits.j7 k m2 x0 x3 y0_0 =
  spec_l12Waits.l8 k m2 k x0 x3 0 y0_0 := by kernel_rfl
theorem spec_l12Waits.l8_0 (k m2 : Nat) (x0 : List (Int × Int × Int × Int × Unit)) (x3 : Int) (x5 : Int) (y0_0 : Int × Int × Int × Int × Unit) : spec_l12Waits.l8 k m2 0 x0 x3 x5 y0_0 = none := by kernel_rfl
theorem spec_l12Waits.l8_s (k m2 n : Nat) (x0 : List (Int × Int × Int × Int × Unit)) (x3 : Int) (x5 : Int) (y0_0 : Int × Int × Int × Int × Unit) : spec_l12Waits.l8 k m2 (n + 1) x0 x3 x5 y0_0 =
  iteB (decide (x5 < x3)) (iteB (decide (0 ≤ x5)) (iteB (decide (x5 < ((List.length x0) : Int))) (iteB (((List.getD x0 (Int.toNat x5) (Ty.dflt (.pair (.int .i64) (.pair (.int .i64) (.pair (.int .i64) (.pair (.int .i64) .unit)))))).1) == y0_0.1) (some false) (spec_l12Waits.l8 k m2 n x0 x3 (IntKind.wrap .i64 (x5 + 1)) y0_0)) (none)) (none)) (spec_l12Waits.l2 k m2 x0 (IntKind.wrap .i64 (x3 + 1))) := by kernel_rfl
theorem spec_l12Waits_e (k : Nat) (a1 : List (Int × Int × Int × Int × Unit)) : spec_l12Waits k a1 =
  spec_l12Waits.l2 k k a1 0 := by kernel_rfl
theorem E_spec_l12Waits_calls (k : Nat) : CallsOk Tryz.prog (E_spec_l12Waits k) (arun Tryz.prog (E_spec_l12Waits k) k) := by
  refine told_run (tyTOk _ _) ?_ (fun run h => regOk (tyTOk _ _) mixOk h) ?_ nameOk k
  · intro g m hg
    simp only [E_spec_l12Waits] at hg
    split at hg
    · cases hg
      refine con_byVal fun ρ l K x hm => ?_
      split at hm
      · obtain ⟨c1, h1, hm⟩ := Option.bind_eq_some_iff.1 hm
        obtain ⟨c2, h2, hm⟩ := Option.bind_eq_some_iff.1 hm
        obtain ⟨c3, h3, hm⟩ := Option.bind_eq_some_iff.1 hm
        obtain ⟨r, hr, hm⟩ := Option.bind_eq_some_iff.1 hm
        exact ⟨_, hm, LawV.reads (.cons (.as h1) (.cons (.as h2) (.cons (.as h3) .nil))) (spec_l1In_law k c1 c2 c3 r hr)⟩
      · cases hm
    · cases hg
      refine con_byVal fun ρ l K x hm => ?_
      split at hm
      · obtain ⟨c1, h1, hm⟩ := Option.bind_eq_some_iff.1 hm
        obtain ⟨r, hr, hm⟩ := Option.bind_eq_some_iff.1 hm
        exact ⟨_, hm, LawV.reads (.cons (.as h1) .nil) (spec_WordOk_law k c1 r hr)⟩
      · cases hm
    · cases hg; exact noCon_ok
    · cases hg
  · intro g hg r
    by_cases h : g = 56
    · subst h; simp [E_spec_l12Waits] at hg
    · simp [E_spec_l12Waits, h]
theorem f56_okspec_l12Waits : Tryz.prog.funcs[56]? = some Tryz.f56 := by kernel_rfl
theorem spec_l12Waits_law (k : Nat) (a1 : List (Int × Int × Int × Int × Unit)) (x : Bool) (h : spec_l12Waits k a1 = some x) : LawV Tryz.prog 56 [.tv (.row (.pair (.int .i64) (.pair (.int .i64) (.pair (.int .i64) (.pair (.int .i64) .unit))))) a1] (tvn .bool x) := by
  unfold spec_l12Waits at h
  exact law1 (t := .bool) (tyTOk _ _) (E_spec_l12Waits_calls k) mixOk f56_okspec_l12Waits (nameOk _ _ f56_okspec_l12Waits) (by kernel_rfl) h
/-! spec.ChanOk -/
noncomputable def E_spec_ChanOk (k : Nat) : Env := ⟨ty, fun g => match g with
  | 29 => some (byVal fun ρ l K => match l with
    | [b1, b2, b3] => (b1.as (.int .i64)).bind fun c1 => (b2.as (.int .i64)).bind fun c2 => (b3.as (.int .i64)).bind fun c3 => (spec_l1In k c1 c2 c3).bind fun r => K (tvn .bool r)
    | _ => none)
  | 30 => some (byVal fun ρ l K => match l with
    | [b1] => (b1.as (.row (.int .i64))).bind fun c1 => (spec_l3Words k c1).bind fun r => K (tvn .bool r)
    | _ => none)
  | 56 => some (byVal fun ρ l K => match l with
    | [b1] => (b1.as (.row (.pair (.int .i64) (.pair (.int .i64) (.pair (.int .i64) (.pair (.int .i64) .unit)))))).bind fun c1 => (spec_l12Waits k c1).bind fun r => K (tvn .bool r)
    | _ => none)
  | _ => none, fun _ _ => none⟩
noncomputable def spec_ChanOk (k : Nat) (a1 : Int × Bool × (List Int) × (List (Int × Int × Int × Int × Unit)) × (List (Int × Int × Int × Int × Unit)) × Unit) : Option (Bool) :=
  abody (E_spec_ChanOk k) (arun Tryz.prog (E_spec_ChanOk k) k) k 33 Tryz.f33 [.tv (.pair (.int .i64) (.pair .bool (.pair (.row (.int .i64)) (.pair (.row (.pair (.int .i64) (.pair (.int .i64) (.pair (.int .i64) (.pair (.int .i64) .unit))))) (.pair (.row (.pair (.int .i64) (.pair (.int .i64) (.pair (.int .i64) (.pair (.int .i64) .unit))))) .unit))))) a1] [] (fin1 .bool)
theorem spec_ChanOk_e (k : Nat) (a1 : Int × Bool × (List Int) × (List (Int × Int × Int × Int × Unit)) × (List (Int × Int × Int × Int × Unit)) × Unit) : spec_ChanOk k a1 =
  bindO (spec_l1In k a1.1 0 8) fun r1 => (iteB r1 (iteB (decide (((List.length a1.2.2.1) : Int) ≤ a1.1)) (bindO (spec_l3Words k a1.2.2.1) fun r2 => (iteB r2 (bindO (spec_l12Waits k a1.2.2.2.1) fun r3 => (iteB r3 (bindO (spec_l12Waits k a1.2.2.2.2.1) fun r4 => (some r4)) (some false))) (some false))) (some false)) (some false)) := by kernel_rfl
theorem E_spec_ChanOk_calls (k : Nat) : CallsOk Tryz.prog (E_spec_ChanOk k) (arun Tryz.prog (E_spec_ChanOk k) k) := by
  refine told_run (tyTOk _ _) ?_ (fun run h => regOk (tyTOk _ _) mixOk h) ?_ nameOk k
  · intro g m hg
    simp only [E_spec_ChanOk] at hg
    split at hg
    · cases hg
      refine con_byVal fun ρ l K x hm => ?_
      split at hm
      · obtain ⟨c1, h1, hm⟩ := Option.bind_eq_some_iff.1 hm
        obtain ⟨c2, h2, hm⟩ := Option.bind_eq_some_iff.1 hm
        obtain ⟨c3, h3, hm⟩ := Option.bind_eq_some_iff.1 hm
        obtain ⟨r, hr, hm⟩ := Option.bind_eq_some_iff.1 hm
        exact ⟨_, hm, LawV.reads (.cons (.as h1) (.cons (.as h2) (.cons (.as h3) .nil))) (spec_l1In_law k c1 c2 c3 r hr)⟩
      · cases hm
    · cases hg
      refine con_byVal fun ρ l K x hm => ?_
      split at hm
      · obtain ⟨c1, h1, hm⟩ := Option.bind_eq_some_iff.1 hm
        obtain ⟨r, hr, hm⟩ := Option.bind_eq_some_iff.1 hm
        exact ⟨_, hm, LawV.reads (.cons (.as h1) .nil) (spec_l3Words_law k c1 r hr)⟩
      · cases hm
    · cases hg
      refine con_byVal fun ρ l K x hm => ?_
      split at hm
      · obtain ⟨c1, h1, hm⟩ := Option.bind_eq_some_iff.1 hm
        obtain ⟨r, hr, hm⟩ := Option.bind_eq_some_iff.1 hm
        exact ⟨_, hm, LawV.reads (.cons (.as h1) .nil) (spec_l12Waits_law k c1 r hr)⟩
      · cases hm
    · cases hg
  · intro g _ r; rfl
theorem f33_okspec_ChanOk : Tryz.prog.funcs[33]? = some Tryz.f33 := by kernel_rfl
theorem spec_ChanOk_law (k : Nat) (a1 : Int × Bool × (List Int) × (List (Int × Int × Int × Int × Unit)) × (List (Int × Int × Int × Int × Unit)) × Unit) (x : Bool) (h : spec_ChanOk k a1 = some x) : LawV Tryz.prog 33 [.tv (.pair (.int .i64) (.pair .bool (.pair (.row (.int .i64)) (.pair (.row (.pair (.int .i64) (.pair (.int .i64) (.pair (.int .i64) (.pair (.int .i64) .unit))))) (.pair (.row (.pair (.int .i64) (.pair (.int .i64) (.pair (.int .i64) (.pair (.int .i64) .unit))))) .unit))))) a1] (tvn .bool x) := by
  unfold spec_ChanOk at h
  exact law1 (t := .bool) (tyTOk _ _) (E_spec_ChanOk_calls k) mixOk f33_okspec_ChanOk (nameOk _ _ f33_okspec_ChanOk) (by kernel_rfl) h
/-! spec.WorldOk -/
noncomputable def E_spec_WorldOk (k : Nat) : Env := ⟨ty, fun g => match g with
  | 28 => some (byVal fun ρ l K => match l with
    | [b1] => (b1.as (.row (.pair .str (.pair (.int .i64) (.pair (.int .i64) (.pair (.row (.pair (.int .i64) (.pair (.int .i64) (.pair (.int .i64) (.pair (.int .i64) (.pair (.int .i64) (.pair .str (.pair (.row (.int .i64)) .unit)))))))) .unit)))))).bind fun c1 => (spec_UnitsOk k c1).bind fun r => K (tvn .bool r)
    | _ => none)
  | 29 => some (byVal fun ρ l K => match l with
    | [b1, b2, b3] => (b1.as (.int .i64)).bind fun c1 => (b2.as (.int .i64)).bind fun c2 => (b3.as (.int .i64)).bind fun c3 => (spec_l1In k c1 c2 c3).bind fun r => K (tvn .bool r)
    | _ => none)
  | 30 => some (byVal fun ρ l K => match l with
    | [b1] => (b1.as (.row (.int .i64))).bind fun c1 => (spec_l3Words k c1).bind fun r => K (tvn .bool r)
    | _ => none)
  | 31 => some (byVal fun ρ l K => match l with
    | [b1] => (b1.as (.int .i64)).bind fun c1 => (spec_WordOk k c1).bind fun r => K (tvn .bool r)
    | _ => none)
  | 32 => some (byVal fun ρ l K => match l with
    | [b1, b2] => (b1.as (.pair (.row (.pair .str (.pair (.int .i64) (.pair (.int .i64) (.pair (.row (.pair (.int .i64) (.pair (.int .i64) (.pair (.int .i64) (.pair (.int .i64) (.pair (.int .i64) (.pair .str (.pair (.row (.int .i64)) .unit)))))))) .unit))))) (.pair (.row (.pair (.row (.pair (.int .i64) (.pair (.int .i64) (.pair (.row (.int .i64)) (.pair (.int .i64) .unit))))) (.pair .bool (.pair .bool (.pair (.int .i64) (.pair (.int .i64) (.pair (.int .i64) (.pair (.int .i64) (.pair (.int .i64) .unit))))))))) (.pair (.row (.pair (.int .i64) (.pair .bool (.pair (.row (.int .i64)) (.pair (.row (.pair (.int .i64) (.pair (.int .i64) (.pair (.int .i64) (.pair (.int .i64) .unit))))) (.pair (.row (.pair (.int .i64) (.pair (.int .i64) (.pair (.int .i64) (.pair (.int .i64) .unit))))) .unit)))))) (.pair (.row (.int .i64)) (.pair .bool (.pair (.int .i64) .unit))))))).bind fun c1 => (b2.as (.pair (.row (.pair (.int .i64) (.pair (.int .i64) (.pair (.row (.int .i64)) (.pair (.int .i64) .unit))))) (.pair .bool (.pair .bool (.pair (.int .i64) (.pair (.int .i64) (.pair (.int .i64) (.pair (.int .i64) (.pair (.int .i64) .unit))))))))).bind fun c2 => (spec_l13Body k c1 c2).bind fun r => K (tvn .bool r)
    | _ => none)
  | 33 => some (byVal fun ρ l K => match l with
    | [b1] => (b1.as (.pair (.int .i64) (.pair .bool (.pair (.row (.int .i64)) (.pair (.row (.pair (.int .i64) (.pair (.int .i64) (.pair (.int .i64) (.pair (.int .i64) .unit))))) (.pair (.row (.pair (.int .i64) (.pair (.int .i64) (.pair (.int .i64) (.pair (.int .i64) .unit))))) .unit)))))).bind fun c1 => (spec_ChanOk k c1).bind fun r => K (tvn .bool r)
    | _ => none)
  | 13 => some noCon
  | _ => none, fun f r => match f with | 13 => (match r with | 3 => some [1] | 4 => some [1, 3] | 9 => some [1, 4] | _ => none) | _ => none⟩
noncomputable def spec_WorldOk (k : Nat) (a1 : (List (ByteArray × Int × Int × (List (Int × Int × Int × Int × Int × ByteArray × (List Int) × Unit)) × Unit)) × (List ((List (Int × Int × (List Int) × Int × Unit)) × Bool × Bool × Int × Int × Int × Int × Int × Unit)) × (List (Int × Bool × (List Int) × (List (Int × Int × Int × Int × Unit)) × (List (Int × Int × Int × Int × Unit)) × Unit)) × (List Int) × Bool × Int × Unit) : Option (Bool) :=
  abody (E_spec_WorldOk k) (arun Tryz.prog (E_spec_WorldOk k) k) k 13 Tryz.f13 [.tv (.pair (.row (.pair .str (.pair (.int .i64) (.pair (.int .i64) (.pair (.row (.pair (.int .i64) (.pair (.int .i64) (.pair (.int .i64) (.pair (.int .i64) (.pair (.int .i64) (.pair .str (.pair (.row (.int .i64)) .unit)))))))) .unit))))) (.pair (.row (.pair (.row (.pair (.int .i64) (.pair (.int .i64) (.pair (.row (.int .i64)) (.pair (.int .i64) .unit))))) (.pair .bool (.pair .bool (.pair (.int .i64) (.pair (.int .i64) (.pair (.int .i64) (.pair (.int .i64) (.pair (.int .i64) .unit))))))))) (.pair (.row (.pair (.int .i64) (.pair .bool (.pair (.row (.int .i64)) (.pair (.row (.pair (.int .i64) (.pair (.int .i64) (.pair (.int .i64) (.pair (.int .i64) .unit))))) (.pair (.row (.pair (.int .i64) (.pair (.int .i64) (.pair (.int .i64) (.pair (.int .i64) .unit))))) .unit)))))) (.pair (.row (.int .i64)) (.pair .bool (.pair (.int .i64) .unit)))))) a1] [] (fin1 .bool)
noncomputable def spec_WorldOk.j3 (k : Nat) (y0_0 : (List (ByteArray × Int × Int × (List (Int × Int × Int × Int × Int × ByteArray × (List Int) × Unit)) × Unit)) × (List ((List (Int × Int × (List Int) × Int × Unit)) × Bool × Bool × Int × Int × Int × Int × Int × Unit)) × (List (Int × Bool × (List Int) × (List (Int × Int × Int × Int × Unit)) × (List (Int × Int × Int × Int × Unit)) × Unit)) × (List Int) × Bool × Int × Unit) : Option (Bool) :=
  resume (E_spec_WorldOk k) 13 (acall (E_spec_WorldOk k) (arun Tryz.prog (E_spec_WorldOk k) k)) k [true, true] [] (bodyOf Tryz.f13) ⟨[.undef, .ptr 0 0 0, .undef, .undef, .undef, .undef, .undef, .undef, .undef, .undef, .undef, .undef, .undef, .undef, .undef, .undef, .undef, .undef, .undef, .undef, .undef, .undef, .undef, .undef, .undef, .undef, .undef, .undef, .undef, .undef, .undef, .undef, .undef, .undef, .undef, .undef, .undef, .undef, .undef, .undef, .undef, .undef, .undef, .undef, .undef, .undef, .undef, .undef, .undef, .undef, .undef, .undef, .undef, .undef, .undef, .undef, .undef, .undef, .undef, .undef, .undef, .undef, .undef], [some ⟨.raw true 6 (.agg [.nils, .nils, .nils, .nils, .bool false, .int .i64 0]) [.tv (.pair (.row (.pair .str (.pair (.int .i64) (.pair (.int .i64) (.pair (.row (.pair (.int .i64) (.pair (.int .i64) (.pair (.int .i64) (.pair (.int .i64) (.pair (.int .i64) (.pair .str (.pair (.row (.int .i64)) .unit)))))))) .unit))))) (.pair (.row (.pair (.row (.pair (.int .i64) (.pair (.int .i64) (.pair (.row (.int .i64)) (.pair (.int .i64) .unit))))) (.pair .bool (.pair .bool (.pair (.int .i64) (.pair (.int .i64) (.pair (.int .i64) (.pair (.int .i64) (.pair (.int .i64) .unit))))))))) (.pair (.row (.pair (.int .i64) (.pair .bool (.pair (.row (.int .i64)) (.pair (.row (.pair (.int .i64) (.pair (.int .i64) (.pair (.int .i64) (.pair (.int .i64) .unit))))) (.pair (.row (.pair (.int .i64) (.pair (.int .i64) (.pair (.int .i64) (.pair (.int .i64) .unit))))) .unit)))))) (.pair (.row (.int .i64)) (.pair .bool (.pair (.int .i64) .unit)))))) y0_0], true⟩]⟩ (leave (E_spec_WorldOk k) Tryz.f13 (fin1 .bool))
noncomputable def spec_WorldOk.l4 (k n : Nat) (x3 : Int) (y0_0 : (List (ByteArray × Int × Int × (List (Int × Int × Int × Int × Int × ByteArray × (List Int) × Unit)) × Unit)) × (List ((List (Int × Int × (List Int) × Int × Unit)) × Bool × Bool × Int × Int × Int × Int × Int × Unit)) × (List (Int × Bool × (List Int) × (List (Int × Int × Int × Int × Unit)) × (List (Int × Int × Int × Int × Unit)) × Unit)) × (List Int) × Bool × Int × Unit) : Option (Bool) :=
  resume (E_spec_WorldOk k) 13 (acall (E_spec_WorldOk k) (arun Tryz.prog (E_spec_WorldOk k) k)) k [true, true, false, true, true] [n] (bodyOf Tryz.f13) ⟨[.undef, .ptr 0 0 0, .undef, .int .i64 x3, .undef, .undef, .undef, .undef, .undef, .undef, .undef, .undef, .undef, .undef, .undef, .undef, .undef, .undef, .undef, .undef, .undef, .undef, .undef, .undef, .undef, .undef, .undef, .undef, .undef, .undef, .undef, .undef, .undef, .undef, .undef, .undef, .undef, .undef, .undef, .undef, .undef, .undef, .undef, .undef, .undef, .undef, .undef, .undef, .undef, .undef, .undef, .undef, .undef, .undef, .undef, .undef, .undef, .undef, .undef, .undef, .undef, .undef, .undef], [some ⟨.raw true 6 (.agg [.nils, .nils, .nils, .nils, .bool false, .int .i64 0]) [.tv (.pair (.row (.pair .str (.pair (.int .i64) (.pair (.int .i64) (.pair (.row (.pair (.int .i64) (.pair (.int .i64) (.pair (.int .i64) (.pair (.int .i64) (.pair (.int .i64) (.pair .str (.pair (.row (.int .i64)) .unit)))))))) .unit))))) (.pair (.row (.pair (.row (.pair (.int .i64) (.pair (.int .i64) (.pair (.row (.int .i64)) (.pair (.int .i64) .unit))))) (.pair .bool (.pair .bool (.pair (.int .i64) (.pair (.int .i64) (.pair (.int .i64) (.pair (.int .i64) (.pair (.int .i64) .unit))))))))) (.pair (.row (.pair (.int .i64) (.pair .bool (.pair (.row (.int .i64)) (.pair (.row (.pair (.int .i64) (.pair (.int .i64) (.pair (.int .i64) (.pair (.int .i64) .unit))))) (.pair (.row (.pair (.int .i64) (.pair (.int .i64) (.pair (.int .i64) (.pair (.int .i64) .unit))))) .unit)))))) (.pair (.row (.int .i64)) (.pair .bool (.pair (.int .i64) .unit)))))) y0_0], true⟩]⟩ (leave (E_spec_WorldOk k) Tryz.f13 (fin1 .bool))
noncomputable def spec_WorldOk.l9 (k n : Nat) (x4 : Int) (y0_0 : (List (ByteArray × Int × Int × (List (Int × Int × Int × Int × Int × ByteArray × (List Int) × Unit)) × Unit)) × (List ((List (Int × Int × (List Int) × Int × Unit)) × Bool × Bool × Int × Int × Int × Int × Int × Unit)) × (List (Int × Bool × (List Int) × (List (Int × Int × Int × Int × Unit)) × (List (Int × Int × Int × Int × Unit)) × Unit)) × (List Int) × Bool × Int × Unit) : Option (Bool) :=
  resume (E_spec_WorldOk k) 13 (acall (E_spec_WorldOk k) (arun Tryz.prog (E_spec_WorldOk k) k)) k [true, true, true, false, true, true] [n] (bodyOf Tryz.f13) ⟨[.undef, .ptr 0 0 0, .undef, .undef, .int .i64 x4, .undef, .undef, .undef, .undef, .undef, .undef, .undef, .undef, .undef, .undef, .undef, .undef, .undef, .undef, .undef, .undef, .undef, .undef, .undef, .undef, .undef, .undef, .undef, .undef, .undef, .undef, .undef, .undef, .undef, .undef, .undef, .undef, .undef, .undef, .undef, .undef, .undef, .undef, .undef, .undef, .undef, .undef, .undef, .undef, .undef, .undef, .undef, .undef, .undef, .undef, .undef, .undef, .undef, .undef, .undef, .undef, .undef, .undef], [some ⟨.raw true 6 (.agg [.nils, .nils, .nils, .nils, .bool false, .int .i64 0]) [.tv (.pair (.row (.pair .str (.pair (.int .i64) (.pair (.int .i64) (.pair (.row (.pair (.int .i64) (.pair (.int .i64) (.pair (.int .i64) (.pair (.int .i64) (.pair (.int .i64) (.pair .str (.pair (.row (.int .i64)) .unit)))))))) .unit))))) (.pair (.row (.pair (.row (.pair (.int .i64) (.pair (.int .i64) (.pair (.row (.int .i64)) (.pair (.int .i64) .unit))))) (.pair .bool (.pair .bool (.pair (.int .i64) (.pair (.int .i64) (.pair (.int .i64) (.pair (.int .i64) (.pair (.int .i64) .unit))))))))) (.pair (.row (.pair (.int .i64) (.pair .bool (.pair (.row (.int .i64)) (.pair (.row (.pair (.int .i64) (.pair (.int .i64) (.pair (.int .i64) (.pair (.int .i64) .unit))))) (.pair (.row (.pair (.int .i64) (.pair (.int .i64) (.pair (.int .i64) (.pair (.int .i64) .unit))))) .unit)))))) (.pair (.row (.int .i64)) (.pair .bool (.pair (.int .i64) .unit)))))) y0_0], true⟩]⟩ (leave (E_spec_WorldOk k) Tryz.f13 (fin1 .bool))
theorem spec_WorldOk.j3_e (k : Nat) (y0_0 : (List (ByteArray × Int × Int × (List (Int × Int × Int × Int × Int × ByteArray × (List Int) × Unit)) × Unit)) × (List ((List (Int × Int × (List Int) × Int × Unit)) × Bool × Bool × Int × Int × Int × Int × Int × Unit)) × (List (Int × Bool × (List Int) × (List (Int × Int × Int × Int × Unit)) × (List (Int × Int × Int × Int × Unit)) × Unit)) × (List Int) × Bool × Int × Unit) : spec_WorldOk.j3 k y0_0 =
  spec_WorldOk.l4 k k 0 y0_0 := by kernel_rfl
theorem spec_WorldOk.l4_0 (k : Nat) (x3 : Int) (y0_0 : (List (ByteArray × Int × Int × (List (Int × Int × Int × Int × Int × ByteArray × (List Int) × Unit)) × Unit)) × (List ((List (Int × Int × (List Int) × Int × Unit)) × Bool × Bool × Int × Int × Int × Int × Int × Unit)) × (List (Int × Bool × (List Int) × (List (Int × Int × Int × Int × Unit)) × (List (Int × Int × Int × Int × Unit)) × Unit)) × (List Int) × Bool × Int × Unit) : spec_WorldOk.l4 k 0 x3 y0_0 = none := by kernel_rfl
theorem spec_WorldOk.l4_s (k n : Nat) (x3 : Int) (y0_0 : (List (ByteArray × Int × Int × (List (Int × Int × Int × Int × Int × ByteArray × (List Int) × Unit)) × Unit)) × (List ((List (Int × Int × (List Int) × Int × Unit)) × Bool × Bool × Int × Int × Int × Int × Int × Unit)) × (List (Int × Bool × (List Int) × (List (Int × Int × Int × Int × Unit)) × (List (Int × Int × Int × Int × Unit)) × Unit)) × (List Int) × Bool × Int × Unit) : spec_WorldOk.l4 k (n + 1) x3 y0_0 =
  iteB (decide (x3 < ((List.length y0_0.2.1) : Int))) (iteB (decide (0 ≤ x3)) (iteB (decide (x3 < ((List.length y0_0.2.1) : Int))) (bindO (spec_l13Body k y0_0 (List.getD y0_0.2.1 (Int.toNat x3) (Ty.dflt (.pair (.row (.pair (.int .i64) (.pair (.int .i64) (.pair (.row (.int .i64)) (.pair (.int .i64) .unit))))) (.pair .bool (.pair .bool (.pair (.int .i64) (.pair (.int .i64) (.pair (.int .i64) (.pair (.int .i64) (.pair (.int .i64) .unit))))))))))) fun r5 => (iteB (!r5) (some false) (spec_WorldOk.l4 k n (IntKind.wrap .i64 (x3 + 1)) y0_0))) (none)) (none)) (spec_WorldOk.l9 k k 0 y0_0) := by kernel_rfl
theorem spec_WorldOk.l9_0 (k : Nat) (x4 : Int) (y0_0 : (List (ByteArray × Int × Int × (List (Int × Int × Int × Int × Int × ByteArray × (List Int) × Unit)) × Unit)) × (List ((List (Int × Int × (List Int) × Int × Unit)) × Bool × Bool × Int × Int × Int × Int × Int × Unit)) × (List (Int × Bool × (List Int) × (List (Int × Int × Int × Int × Unit)) × (List (Int × Int × Int × Int × Unit)) × Unit)) × (List Int) × Bool × Int × Unit) : spec_WorldOk.l9 k 0 x4 y0_0 = none := by kernel_rfl
theorem spec_WorldOk.l9_s (k n : Nat) (x4 : Int) (y0_0 : (List (ByteArray × Int × Int × (List (Int × Int × Int × Int × Int × ByteArray × (List Int) × Unit)) × Unit)) × (List ((List (Int × Int × (List Int) × Int × Unit)) × Bool × Bool × Int × Int × Int × Int × Int × Unit)) × (List (Int × Bool × (List Int) × (List (Int × Int × Int × Int × Unit)) × (List (Int × Int × Int × Int × Unit)) × Unit)) × (List Int) × Bool × Int × Unit) : spec_WorldOk.l9 k (n + 1) x4 y0_0 =
  iteB (decide (x4 < ((List.length y0_0.2.2.1) : Int))) (iteB (decide (0 ≤ x4)) (iteB (decide (x4 < ((List.length y0_0.2.2.1) : Int))) (bindO (spec_ChanOk k (List.getD y0_0.2.2.1 (Int.toNat x4) (Ty.dflt (.pair (.int .i64) (.pair .bool (.pair (.row (.int .i64)) (.pair (.row (.pair (.int .i64) (.pair (.int .i64) (.pair (.int .i64) (.pair (.int .i64) .unit))))) (.pair (.row (.pair (.int .i64) (.pair (.int .i64) (.pair (.int .i64) (.pair (.int .i64) .unit))))) .unit)))))))) fun r6 => (iteB (!r6) (some false) (spec_WorldOk.l9 k n (IntKind.wrap .i64 (x4 + 1)) y0_0))) (none)) (none)) (some true) := by kernel_rfl
theorem spec_WorldOk_e (k : Nat) (a1 : (List (ByteArray × Int × Int × (List (Int × Int × Int × Int × Int × ByteArray × (List Int) × Unit)) × Unit)) × (List ((List (Int × Int × (List Int) × Int × Unit)) × Bool × Bool × Int × Int × Int × Int × Int × Unit)) × (List (Int × Bool × (List Int) × (List (Int × Int × Int × Int × Unit)) × (List (Int × Int × Int × Int × Unit)) × Unit)) × (List Int) × Bool × Int × Unit) : spec_WorldOk k a1 =
  bindO (spec_UnitsOk k a1.1) fun r1 => (iteB (!(!r1)) (bindO (spec_l1In k ((List.length a1.2.1) : Int) 1 6) fun r2 => (iteB (!(!r2)) (iteB (!(decide (((List.length a1.2.2.1) : Int) > 8))) (bindO (spec_l3Words k a1.2.2.2.1) fun r3 => (iteB (!(!r3)) (bindO (spec_WordOk k a1.2.2.2.2.2.1) fun r4 => (iteB (!r4) (some false) (gate k (spec_WorldOk.j3 k a1)))) (some false))) (some false)) (some false))) (some false)) := by kernel_rfl
theorem E_spec_WorldOk_calls (k : Nat) : CallsOk Tryz.prog (E_spec_WorldOk k) (arun Tryz.prog (E_spec_WorldOk k) k) := by
  refine told_run (tyTOk _ _) ?_ (fun run h => regOk (tyTOk _ _) mixOk h) ?_ nameOk k
  · intro g m hg
    simp only [E_spec_WorldOk] at hg
    split at hg
    · cases hg
      refine con_byVal fun ρ l K x hm => ?_
      split at hm
      · obtain ⟨c1, h1, hm⟩ := Option.bind_eq_some_iff.1 hm
        obtain ⟨r, hr, hm⟩ := Option.bind_eq_some_iff.1 hm
        exact ⟨_, hm, LawV.reads (.cons (.as h1) .nil) (spec_UnitsOk_law k c1 r hr)⟩
      · cases hm
    · cases hg
      refine con_byVal fun ρ l K x hm => ?_
      split at hm
      · obtain ⟨c1, h1, hm⟩ := Option.bind_eq_some_iff.1 hm
        obtain ⟨c2, h2, hm⟩ := Option.bind_eq_some_iff.1 hm
        obtain ⟨c3, h3, hm⟩ := Option.bind_eq_some_iff.1 hm
        obtain ⟨r, hr, hm⟩ := Option.bind_eq_some_iff.1 hm
        exact ⟨_, hm, LawV.reads (.cons (.as h1) (.cons (.as h2) (.cons (.as h3) .nil))) (spec_l1In_law k c1 c2 c3 r hr)⟩
      · cases hm
    · cases hg
      refine con_byVal fun ρ l K x hm => ?_
      split at hm
      · obtain ⟨c1, h1, hm⟩ := Option.bind_eq_some_iff.1 hm
        obtain ⟨r, hr, hm⟩ := Option.bind_eq_some_iff.1 hm
        exact ⟨_, hm, LawV.reads (.cons (.as h1) .nil) (spec_l3Words_law k c1 r hr)⟩
      · cases hm
    · cases hg
      refine con_byVal fun ρ l K x hm => ?_
      split at hm
      · obtain ⟨c1, h1, hm⟩ := Option.bind_eq_some_iff.1 hm
        obtain ⟨r, hr, hm⟩ := Option.bind_eq_some_iff.1 hm
        exact ⟨_, hm, LawV.reads (.cons (.as h1) .nil) (spec_WordOk_law k c1 r hr)⟩
      · cases hm
    · cases hg
      refine con_byVal fun ρ l K x hm => ?_
      split at hm
      · obtain ⟨c1, h1, hm⟩ := Option.bind_eq_some_iff.1 hm
        obtain ⟨c2, h2, hm⟩ := Option.bind_eq_some_iff.1 hm
        obtain ⟨r, hr, hm⟩ := Option.bind_eq_some_iff.1 hm
        exact ⟨_, hm, LawV.reads (.cons (.as h1) (.cons (.as h2) .nil)) (spec_l13Body_law k c1 c2 r hr)⟩
      · cases hm
    · cases hg
      refine con_byVal fun ρ l K x hm => ?_
      split at hm
      · obtain ⟨c1, h1, hm⟩ := Option.bind_eq_some_iff.1 hm
        obtain ⟨r, hr, hm⟩ := Option.bind_eq_some_iff.1 hm
        exact ⟨_, hm, LawV.reads (.cons (.as h1) .nil) (spec_ChanOk_law k c1 r hr)⟩
      · cases hm
    · cases hg; exact noCon_ok
    · cases hg
  · intro g hg r
    by_cases h : g = 13
    · subst h; simp [E_spec_WorldOk] at hg
    · simp [E_spec_WorldOk, h]
theorem f13_okspec_WorldOk : Tryz.prog.funcs[13]? = some Tryz.f13 := by kernel_rfl
theorem spec_WorldOk_law (k : Nat) (a1 : (List (ByteArray × Int × Int × (List (Int × Int × Int × Int × Int × ByteArray × (List Int) × Unit)) × Unit)) × (List ((List (Int × Int × (List Int) × Int × Unit)) × Bool × Bool × Int × Int × Int × Int × Int × Unit)) × (List (Int × Bool × (List Int) × (List (Int × Int × Int × Int × Unit)) × (List (Int × Int × Int × Int × Unit)) × Unit)) × (List Int) × Bool × Int × Unit) (x : Bool) (h : spec_WorldOk k a1 = some x) : LawV Tryz.prog 13 [.tv (.pair (.row (.pair .str (.pair (.int .i64) (.pair (.int .i64) (.pair (.row (.pair (.int .i64) (.pair (.int .i64) (.pair (.int .i64) (.pair (.int .i64) (.pair (.int .i64) (.pair .str (.pair (.row (.int .i64)) .unit)))))))) .unit))))) (.pair (.row (.pair (.row (.pair (.int .i64) (.pair (.int .i64) (.pair (.row (.int .i64)) (.pair (.int .i64) .unit))))) (.pair .bool (.pair .bool (.pair (.int .i64) (.pair (.int .i64) (.pair (.int .i64) (.pair (.int .i64) (.pair (.int .i64) .unit))))))))) (.pair (.row (.pair (.int .i64) (.pair .bool (.pair (.row (.int .i64)) (.pair (.row (.pair (.int .i64) (.pair (.int .i64) (.pair (.int .i64) (.pair (.int .i64) .unit))))) (.pair (.row (.pair (.int .i64) (.pair (.int .i64) (.pair (.int .i64) (.pair (.int .i64) .unit))))) .unit)))))) (.pair (.row (.int .i64)) (.pair .bool (.pair (.int .i64) .unit)))))) a1] (tvn .bool x) := by
  unfold spec_WorldOk at h
  exact law1 (t := .bool) (tyTOk _ _) (E_spec_WorldOk_calls k) mixOk f13_okspec_WorldOk (nameOk _ _ f13_okspec_WorldOk) (by kernel_rfl) h
/-! spec.l13Open -/
noncomputable def E_spec_l13Open (k : Nat) : Env := ⟨ty, fun g => match g with
  | 29 => some (byVal fun ρ l K => match l with
    | [b1, b2, b3] => (b1.as (.int .i64)).bind fun c1 => (b2.as (.int .i64)).bind fun c2 => (b3.as (.int .i64)).bind fun c3 => (spec_l1In k c1 c2 c3).bind fun r => K (tvn .bool r)
    | _ => none)
  | _ => none, fun _ _ => none⟩
noncomputable def spec_l13Open (k : Nat) (a1 : (List (ByteArray × Int × Int × (List (Int × Int × Int × Int × Int × ByteArray × (List Int) × Unit)) × Unit)) × (List ((List (Int × Int × (List Int) × Int × Unit)) × Bool × Bool × Int × Int × Int × Int × Int × Unit)) × (List (Int × Bool × (List Int) × (List (Int × Int × Int × Int × Unit)) × (List (Int × Int × Int × Int × Unit)) × Unit)) × (List Int) × Bool × Int × Unit) (a2 : Int) : Option (Bool) :=
  abody (E_spec_l13Open k) (arun Tryz.prog (E_spec_l13Open k) k) k 34 Tryz.f34 [.tv (.pair (.row (.pair .str (.pair (.int .i64) (.pair (.int .i64) (.pair (.row (.pair (.int .i64) (.pair (.int .i64) (.pair (.int .i64) (.pair (.int .i64) (.pair (.int .i64) (.pair .str (.pair (.row (.int .i64)) .unit)))))))) .unit))))) (.pair (.row (.pair (.row (.pair (.int .i64) (.pair (.int .i64) (.pair (.row (.int .i64)) (.pair (.int .i64) .unit))))) (.pair .bool (.pair .bool (.pair (.int .i64) (.pair (.int .i64) (.pair (.int .i64) (.pair (.int .i64) (.pair (.int .i64) .unit))))))))) (.pair (.row (.pair (.int .i64) (.pair .bool (.pair (.row (.int .i64)) (.pair (.row (.pair (.int .i64) (.pair (.int .i64) (.pair (.int .i64) (.pair (.int .i64) .unit))))) (.pair (.row (.pair (.int .i64) (.pair (.int .i64) (.pair (.int .i64) (.pair (.int .i64) .unit))))) .unit)))))) (.pair (.row (.int .i64)) (.pair .bool (.pair (.int .i64) .unit)))))) a1, .int .i64 a2] [] (fin1 .bool)
theorem spec_l13Open_e (k : Nat) (a1 : (List (ByteArray × Int × Int × (List (Int × Int × Int × Int × Int × ByteArray × (List Int) × Unit)) × Unit)) × (List ((List (Int × Int × (List Int) × Int × Unit)) × Bool × Bool × Int × Int × Int × Int × Int × Unit)) × (List (Int × Bool × (List Int) × (List (Int × Int × Int × Int × Unit)) × (List (Int × Int × Int × Int × Unit)) × Unit)) × (List Int) × Bool × Int × Unit) (a2 : Int) : spec_l13Open k a1 a2 =
  iteB (!a1.2.2.2.2.1) (bindO (spec_l1In k a2 0 (IntKind.wrap .i64 (((List.length a1.2.1) : Int) - 1))) fun r1 => (iteB r1 (iteB (decide (0 ≤ a2)) (iteB (decide (a2 < ((List.length a1.2.1) : Int))) (iteB (!(((List.getD a1.2.1 (Int.toNat a2) (Ty.dflt (.pair (.row (.pair (.int .i64) (.pair (.int .i64) (.pair (.row (.int .i64)) (.pair (.int .i64) .unit))))) (.pair .bool (.pair .bool (.pair (.int .i64) (.pair (.int .i64) (.pair (.int .i64) (.pair (.int .i64) (.pair (.int .i64) .unit)))))))))).2).1)) (iteB (decide (0 ≤ a2)) (iteB (decide (a2 < ((List.length a1.2.1) : Int))) (some (!((((List.getD a1.2.1 (Int.toNat a2) (Ty.dflt (.pair (.row (.pair (.int .i64) (.pair (.int .i64) (.pair (.row (.int .i64)) (.pair (.int .i64) .unit))))) (.pair .bool (.pair .bool (.pair (.int .i64) (.pair (.int .i64) (.pair (.int .i64) (.pair (.int .i64) (.pair (.int .i64) .unit)))))))))).2).2).1))) (none)) (none)) (some false)) (none)) (none)) (some false))) (some false) := by kernel_rfl
theorem E_spec_l13Open_calls (k : Nat) : CallsOk Tryz.prog (E_spec_l13Open k) (arun Tryz.prog (E_spec_l13Open k) k) := by
  refine told_run (tyTOk _ _) ?_ (fun run h => regOk (tyTOk _ _) mixOk h) ?_ nameOk k
  · intro g m hg
    simp only [E_spec_l13Open] at hg
    split at hg
    · cases hg
      refine con_byVal fun ρ l K x hm => ?_
      split at hm
      · obtain ⟨c1, h1, hm⟩ := Option.bind_eq_some_iff.1 hm
        obtain ⟨c2, h2, hm⟩ := Option.bind_eq_some_iff.1 hm
        obtain ⟨c3, h3, hm⟩ := Option.bind_eq_some_iff.1 hm
        obtain ⟨r, hr, hm⟩ := Option.bind_eq_some_iff.1 hm
        exact ⟨_, hm, LawV.reads (.cons (.as h1) (.cons (.as h2) (.cons (.as h3) .nil))) (spec_l1In_law k c1 c2 c3 r hr)⟩
      · cases hm
    · cases hg
  · intro g _ r; rfl
theorem f34_okspec_l13Open : Tryz.prog.funcs[34]? = some Tryz.f34 := by kernel_rfl
theorem spec_l13Open_law (k : Nat) (a1 : (List (ByteArray × Int × Int × (List (Int × Int × Int × Int × Int × ByteArray × (List Int) × Unit)) × Unit)) × (List ((List (Int × Int × (List Int) × Int × Unit)) × Bool × Bool × Int × Int × Int × Int × Int × Unit)) × (List (Int × Bool × (List Int) × (List (Int × Int × Int × Int × Unit)) × (List (Int × Int × Int × Int × Unit)) × Unit)) × (List Int) × Bool × Int × Unit) (a2 : Int) (x : Bool) (h : spec_l13Open k a1 a2 = some x) : LawV Tryz.prog 34 [.tv (.pair (.row (.pair .str (.pair (.int .i64) (.pair (.int .i64) (.pair (.row (.pair (.int .i64) (.pair (.int .i64) (.pair (.int .i64) (.pair (.int .i64) (.pair (.int .i64) (.pair .str (.pair (.row (.int .i64)) .unit)))))))) .unit))))) (.pair (.row (.pair (.row (.pair (.int .i64) (.pair (.int .i64) (.pair (.row (.int .i64)) (.pair (.int .i64) .unit))))) (.pair .bool (.pair .bool (.pair (.int .i64) (.pair (.int .i64) (.pair (.int .i64) (.pair (.int .i64) (.pair (.int .i64) .unit))))))))) (.pair (.row (.pair (.int .i64) (.pair .bool (.pair (.row (.int .i64)) (.pair (.row (.pair (.int .i64) (.pair (.int .i64) (.pair (.int .i64) (.pair (.int .i64) .unit))))) (.pair (.row (.pair (.int .i64) (.pair (.int .i64) (.pair (.int .i64) (.pair (.int .i64) .unit))))) .unit)))))) (.pair (.row (.int .i64)) (.pair .bool (.pair (.int .i64) .unit)))))) a1, .int .i64 a2] (tvn .bool x) := by
  unfold spec_l13Open at h
  exact law1 (t := .bool) (tyTOk _ _) (E_spec_l13Open_calls k) mixOk f34_okspec_l13Open (nameOk _ _ f34_okspec_l13Open) (by kernel_rfl) h
end Go.Proofs.YtcjpjgfjagfjjaaGreat.XFnExactStuck
