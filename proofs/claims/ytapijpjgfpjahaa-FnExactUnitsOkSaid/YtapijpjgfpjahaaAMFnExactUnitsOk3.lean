/- Functions of the program as runs of the interpreter: equations, and a law for each. -/
import Derived.Test.YtapijpjgfpjahaaProg
import Derived.Test.YtapijpjgfpjahaaChecked
import Derived.KernelRfl
import Derived.Eval
import Derived.Test.YtapijpjgfpjahaaATyOk
import Derived.Test.YtapijpjgfpjahaaAS33
import Derived.Test.YtapijpjgfpjahaaAMFnExactUnitsOk2
open Go Go.AM Go.AMx Go.Proofs
namespace Go.Proofs.Ytapijpjgfpjahaa.XFnExactUnitsOk
set_option linter.unusedVariables false
set_option linter.unusedSimpArgs false
/-! spec.UnitsOk -/
noncomputable def E_spec_UnitsOk (k : Nat) : Env := ⟨ty, fun g => match g with
  | 18 => some (byVal fun ρ l K => match l with
    | [b1] => (b1.as (.pair .str (.pair (.int .i64) (.pair (.int .i64) (.pair (.row (.pair (.int .i64) (.pair (.int .i64) (.pair (.int .i64) (.pair (.int .i64) (.pair (.int .i64) (.pair .str (.pair (.row (.int .i64)) .unit)))))))) .unit))))).bind fun c1 => (spec_UnitOk k c1).bind fun r => K (tvn .bool r)
    | _ => none)
  | 101 => some (byVal fun ρ l K => match l with
    | [b1, b2] => (b1.as (.row (.pair .str (.pair (.int .i64) (.pair (.int .i64) (.pair (.row (.pair (.int .i64) (.pair (.int .i64) (.pair (.int .i64) (.pair (.int .i64) (.pair (.int .i64) (.pair .str (.pair (.row (.int .i64)) .unit)))))))) .unit)))))).bind fun c1 => (b2.as .str).bind fun c2 => (spec_l10Unit k c1 c2).bind fun r => K (tvn (.int .i64) r)
    | _ => none)
  | 23 => some noCon
  | _ => none, fun f r => match f with | 23 => (match r with | 2 => some [0, 3] | 7 => some [0, 3, 4] | 8 => some [0, 3, 4, 5] | 12 => some [0, 3, 4, 5, 6] | _ => none) | _ => none⟩
noncomputable def spec_UnitsOk (k : Nat) (a1 : List (ByteArray × Int × Int × (List (Int × Int × Int × Int × Int × ByteArray × (List Int) × Unit)) × Unit)) : Option (Bool) :=
  abody (E_spec_UnitsOk k) (arun Try.prog (E_spec_UnitsOk k) k) k 23 Try.f23 [.tv (.row (.pair .str (.pair (.int .i64) (.pair (.int .i64) (.pair (.row (.pair (.int .i64) (.pair (.int .i64) (.pair (.int .i64) (.pair (.int .i64) (.pair (.int .i64) (.pair .str (.pair (.row (.int .i64)) .unit)))))))) .unit))))) a1] [] (fin1 .bool)
noncomputable def spec_UnitsOk.l2 (k n : Nat) (x0 : List (ByteArray × Int × Int × (List (Int × Int × Int × Int × Int × ByteArray × (List Int) × Unit)) × Unit)) (x3 : Int) : Option (Bool) :=
  resume (E_spec_UnitsOk k) 23 (acall (E_spec_UnitsOk k) (arun Try.prog (E_spec_UnitsOk k) k)) k [true, false, true, true] [n] (bodyOf Try.f23) ⟨[.tv (.row (.pair .str (.pair (.int .i64) (.pair (.int .i64) (.pair (.row (.pair (.int .i64) (.pair (.int .i64) (.pair (.int .i64) (.pair (.int .i64) (.pair (.int .i64) (.pair .str (.pair (.row (.int .i64)) .unit)))))))) .unit))))) x0, .undef, .undef, .int .i64 x3, .undef, .undef, .undef, .undef, .undef, .undef, .undef, .undef, .undef, .undef, .undef, .undef, .undef, .undef, .undef, .undef, .undef, .undef, .undef, .undef, .undef, .undef, .undef, .undef, .undef, .undef, .undef, .undef, .undef, .undef, .undef, .undef, .undef, .undef, .undef, .undef, .undef, .undef, .undef, .undef, .undef, .undef, .undef, .undef, .undef, .undef, .undef, .undef, .undef, .undef, .undef, .undef, .undef, .undef, .undef, .undef, .undef, .undef, .undef, .undef, .undef, .undef, .undef, .undef, .undef, .undef, .undef, .undef, .undef, .undef, .undef, .undef, .undef, .undef, .undef], []⟩ (leave (E_spec_UnitsOk k) Try.f23 (fin1 .bool))
noncomputable def spec_UnitsOk.j7 (k m2 : Nat) (x0 : List (ByteArray × Int × Int × (List (Int × Int × Int × Int × Int × ByteArray × (List Int) × Unit)) × Unit)) (x3 : Int) (y0_0 : ByteArray × Int × Int × (List (Int × Int × Int × Int × Int × ByteArray × (List Int) × Unit)) × Unit) : Option (Bool) :=
  resume (E_spec_UnitsOk k) 23 (acall (E_spec_UnitsOk k) (arun Try.prog (E_spec_UnitsOk k) k)) k [true, false, true, true, true, true, false, true, true, true] [m2] (bodyOf Try.f23) ⟨[.tv (.row (.pair .str (.pair (.int .i64) (.pair (.int .i64) (.pair (.row (.pair (.int .i64) (.pair (.int .i64) (.pair (.int .i64) (.pair (.int .i64) (.pair (.int .i64) (.pair .str (.pair (.row (.int .i64)) .unit)))))))) .unit))))) x0, .undef, .undef, .int .i64 x3, .ptr 0 0 0, .undef, .undef, .undef, .undef, .undef, .undef, .undef, .undef, .undef, .undef, .undef, .undef, .undef, .undef, .undef, .undef, .undef, .undef, .undef, .undef, .undef, .undef, .undef, .undef, .undef, .undef, .undef, .undef, .undef, .undef, .undef, .undef, .undef, .undef, .undef, .undef, .undef, .undef, .undef, .undef, .undef, .undef, .undef, .undef, .undef, .undef, .undef, .undef, .undef, .undef, .undef, .undef, .undef, .undef, .undef, .undef, .undef, .undef, .undef, .undef, .undef, .undef, .undef, .undef, .undef, .undef, .undef, .undef, .undef, .undef, .undef, .undef, .undef, .undef], [some ⟨.raw true 4 (.agg [.str ByteArray.empty, .int .i64 0, .int .i64 0, .nils]) [.tv (.pair .str (.pair (.int .i64) (.pair (.int .i64) (.pair (.row (.pair (.int .i64) (.pair (.int .i64) (.pair (.int .i64) (.pair (.int .i64) (.pair (.int .i64) (.pair .str (.pair (.row (.int .i64)) .unit)))))))) .unit)))) y0_0], true⟩]⟩ (leave (E_spec_UnitsOk k) Try.f23 (fin1 .bool))
noncomputable def spec_UnitsOk.l8 (k m2 n : Nat) (x0 : List (ByteArray × Int × Int × (List (Int × Int × Int × Int × Int × ByteArray × (List Int) × Unit)) × Unit)) (x3 : Int) (x5 : Int) (y0_0 : ByteArray × Int × Int × (List (Int × Int × Int × Int × Int × ByteArray × (List Int) × Unit)) × Unit) : Option (Bool) :=
  resume (E_spec_UnitsOk k) 23 (acall (E_spec_UnitsOk k) (arun Try.prog (E_spec_UnitsOk k) k)) k [true, false, true, true, true, true, false, true, true, true, true, true] [m2, n] (bodyOf Try.f23) ⟨[.tv (.row (.pair .str (.pair (.int .i64) (.pair (.int .i64) (.pair (.row (.pair (.int .i64) (.pair (.int .i64) (.pair (.int .i64) (.pair (.int .i64) (.pair (.int .i64) (.pair .str (.pair (.row (.int .i64)) .unit)))))))) .unit))))) x0, .undef, .undef, .int .i64 x3, .ptr 0 0 0, .int .i64 x5, .undef, .undef, .undef, .undef, .undef, .undef, .undef, .undef, .undef, .undef, .undef, .undef, .undef, .undef, .undef, .undef, .undef, .undef, .undef, .undef, .undef, .undef, .undef, .undef, .undef, .undef, .undef, .undef, .undef, .undef, .undef, .undef, .undef, .undef, .undef, .undef, .undef, .undef, .undef, .undef, .undef, .undef, .undef, .undef, .undef, .undef, .undef, .undef, .undef, .undef, .undef, .undef, .undef, .undef, .undef, .undef, .undef, .undef, .undef, .undef, .undef, .undef, .undef, .undef, .undef, .undef, .undef, .undef, .undef, .undef, .undef, .undef, .undef], [some ⟨.raw true 4 (.agg [.str ByteArray.empty, .int .i64 0, .int .i64 0, .nils]) [.tv (.pair .str (.pair (.int .i64) (.pair (.int .i64) (.pair (.row (.pair (.int .i64) (.pair (.int .i64) (.pair (.int .i64) (.pair (.int .i64) (.pair (.int .i64) (.pair .str (.pair (.row (.int .i64)) .unit)))))))) .unit)))) y0_0], true⟩]⟩ (leave (E_spec_UnitsOk k) Try.f23 (fin1 .bool))
noncomputable def spec_UnitsOk.j12 (k m2 m8 : Nat) (x0 : List (ByteArray × Int × Int × (List (Int × Int × Int × Int × Int × ByteArray × (List Int) × Unit)) × Unit)) (x3 : Int) (x5 : Int) (y0_0 : ByteArray × Int × Int × (List (Int × Int × Int × Int × Int × ByteArray × (List Int) × Unit)) × Unit) (y1_0 : Int × Int × Int × Int × Int × ByteArray × (List Int) × Unit) : Option (Bool) :=
  resume (E_spec_UnitsOk k) 23 (acall (E_spec_UnitsOk k) (arun Try.prog (E_spec_UnitsOk k) k)) k [true, false, true, true, true, true, false, true, true, true, true, true, true, true, false, true, true, true] [m2, m8] (bodyOf Try.f23) ⟨[.tv (.row (.pair .str (.pair (.int .i64) (.pair (.int .i64) (.pair (.row (.pair (.int .i64) (.pair (.int .i64) (.pair (.int .i64) (.pair (.int .i64) (.pair (.int .i64) (.pair .str (.pair (.row (.int .i64)) .unit)))))))) .unit))))) x0, .undef, .undef, .int .i64 x3, .ptr 0 0 0, .int .i64 x5, .ptr 1 0 0, .undef, .undef, .undef, .undef, .undef, .undef, .undef, .undef, .undef, .undef, .undef, .undef, .undef, .undef, .undef, .undef, .undef, .undef, .undef, .undef, .undef, .undef, .undef, .undef, .undef, .undef, .undef, .undef, .undef, .undef, .undef, .undef, .undef, .undef, .undef, .undef, .undef, .undef, .undef, .undef, .undef, .undef, .undef, .undef, .undef, .undef, .undef, .undef, .undef, .undef, .undef, .undef, .undef, .undef, .undef, .undef, .undef, .undef, .undef, .undef, .undef, .undef, .undef, .undef, .undef, .undef, .undef, .undef, .undef, .undef, .undef, .undef], [some ⟨.raw true 4 (.agg [.str ByteArray.empty, .int .i64 0, .int .i64 0, .nils]) [.tv (.pair .str (.pair (.int .i64) (.pair (.int .i64) (.pair (.row (.pair (.int .i64) (.pair (.int .i64) (.pair (.int .i64) (.pair (.int .i64) (.pair (.int .i64) (.pair .str (.pair (.row (.int .i64)) .unit)))))))) .unit)))) y0_0], true⟩, some ⟨.raw true 7 (.agg [.int .i64 0, .int .i64 0, .int .i64 0, .int .i64 0, .int .i64 0, .str ByteArray.empty, .nils]) [.tv (.pair (.int .i64) (.pair (.int .i64) (.pair (.int .i64) (.pair (.int .i64) (.pair (.int .i64) (.pair .str (.pair (.row (.int .i64)) .unit))))))) y1_0], true⟩]⟩ (leave (E_spec_UnitsOk k) Try.f23 (fin1 .bool))
theorem spec_UnitsOk.l2_0 (k : Nat) (x0 : List (ByteArray × Int × Int × (List (Int × Int × Int × Int × Int × ByteArray × (List Int) × Unit)) × Unit)) (x3 : Int) : spec_UnitsOk.l2 k 0 x0 x3 = none := by kernel_rfl
theorem spec_UnitsOk.l2_s (k n : Nat) (x0 : List (ByteArray × Int × Int × (List (Int × Int × Int × Int × Int × ByteArray × (List Int) × Unit)) × Unit)) (x3 : Int) : spec_UnitsOk.l2 k (n + 1) x0 x3 =
  iteB (decide (x3 < ((List.length x0) : Int))) (iteB (decide (0 ≤ x3)) (iteB (decide (x3 < ((List.length x0) : Int))) (bindO (spec_UnitOk k (List.getD x0 (Int.toNat x3) (Ty.dflt (.pair .str (.pair (.int .i64) (.pair (.int .i64) (.pair (.row (.pair (.int .i64) (.pair (.int .i64) (.pair (.int .i64) (.pair (.int .i64) (.pair (.int .i64) (.pair .str (.pair (.row (.int .i64)) .unit)))))))) .unit))))))) fun r1 => (iteB (!(!r1)) (bindO (spec_l10Unit k x0 ((List.getD x0 (Int.toNat x3) (Ty.dflt (.pair .str (.pair (.int .i64) (.pair (.int .i64) (.pair (.row (.pair (.int .i64) (.pair (.int .i64) (.pair (.int .i64) (.pair (.int .i64) (.pair (.int .i64) (.pair .str (.pair (.row (.int .i64)) .unit)))))))) .unit)))))).1)) fun r2 => (iteB (r2 != x3) (some false) (gate k (spec_UnitsOk.j7 k n x0 x3 (List.getD x0 (Int.toNat x3) (Ty.dflt (.pair .str (.pair (.int .i64) (.pair (.int .i64) (.pair (.row (.pair (.int .i64) (.pair (.int .i64) (.pair (.int .i64) (.pair (.int .i64) (.pair (.int .i64) (.pair .str (.pair (.row (.int .i64)) .unit)))))))) .unit)))))))))) (some false))) (none)) (none)) (some (decide (((List.length x0) : Int) ≤ 80))) := by kernel_rfl
theorem spec_UnitsOk.j7_e (k m2 : Nat) (x0 : List (ByteArray × Int × Int × (List (Int × Int × Int × Int × Int × ByteArray × (List Int) × Unit)) × Unit)) (x3 : Int) (y0_0 : ByteArray × Int × Int × (List (Int × Int × Int × Int × Int × ByteArray × (List Int) × Unit)) × Unit) : spec_UnitsOk.j7 k m2 x0 x3 y0_0 =
  spec_UnitsOk.l8 k m2 k x0 x3 0 y0_0 := by kernel_rfl
theorem spec_UnitsOk.l8_0 (k m2 : Nat) (x0 : List (ByteArray × Int × Int × (List (Int × Int × Int × Int × Int × ByteArray × (List Int) × Unit)) × Unit)) (x3 : Int) (x5 : Int) (y0_0 : ByteArray × Int × Int × (List (Int × Int × Int × Int × Int × ByteArray × (List Int) × Unit)) × Unit) : spec_UnitsOk.l8 k m2 0 x0 x3 x5 y0_0 = none := by kernel_rfl
theorem spec_UnitsOk.l8_s (k m2 n : Nat) (x0 : List (ByteArray × Int × Int × (List (Int × Int × Int × Int × Int × ByteArray × (List Int) × Unit)) × Unit)) (x3 : Int) (x5 : Int) (y0_0 : ByteArray × Int × Int × (List (Int × Int × Int × Int × Int × ByteArray × (List Int) × Unit)) × Unit) : spec_UnitsOk.l8 k m2 (n + 1) x0 x3 x5 y0_0 =
  iteB (decide (x5 < ((List.length y0_0.2.2.2.1) : Int))) (iteB (decide (0 ≤ x5)) (iteB (decide (x5 < ((List.length y0_0.2.2.2.1) : Int))) (iteB (((List.getD y0_0.2.2.2.1 (Int.toNat x5) (Ty.dflt (.pair (.int .i64) (.pair (.int .i64) (.pair (.int .i64) (.pair (.int .i64) (.pair (.int .i64) (.pair .str (.pair (.row (.int .i64)) .unit))))))))).1) != 11) (iteB (((List.getD y0_0.2.2.2.1 (Int.toNat x5) (Ty.dflt (.pair (.int .i64) (.pair (.int .i64) (.pair (.int .i64) (.pair (.int .i64) (.pair (.int .i64) (.pair .str (.pair (.row (.int .i64)) .unit))))))))).1) != 14) (iteB (((List.getD y0_0.2.2.2.1 (Int.toNat x5) (Ty.dflt (.pair (.int .i64) (.pair (.int .i64) (.pair (.int .i64) (.pair (.int .i64) (.pair (.int .i64) (.pair .str (.pair (.row (.int .i64)) .unit))))))))).1) != 24) (spec_UnitsOk.l8 k m2 n x0 x3 (IntKind.wrap .i64 (x5 + 1)) y0_0) (gate k (spec_UnitsOk.j12 k m2 n x0 x3 x5 y0_0 (List.getD y0_0.2.2.2.1 (Int.toNat x5) (Ty.dflt (.pair (.int .i64) (.pair (.int .i64) (.pair (.int .i64) (.pair (.int .i64) (.pair (.int .i64) (.pair .str (.pair (.row (.int .i64)) .unit)))))))))))) (gate k (spec_UnitsOk.j12 k m2 n x0 x3 x5 y0_0 (List.getD y0_0.2.2.2.1 (Int.toNat x5) (Ty.dflt (.pair (.int .i64) (.pair (.int .i64) (.pair (.int .i64) (.pair (.int .i64) (.pair (.int .i64) (.pair .str (.pair (.row (.int .i64)) .unit)))))))))))) (gate k (spec_UnitsOk.j12 k m2 n x0 x3 x5 y0_0 (List.getD y0_0.2.2.2.1 (Int.toNat x5) (Ty.dflt (.pair (.int .i64) (.pair (.int .i64) (.pair (.int .i64) (.pair (.int .i64) (.pair (.int .i64) (.pair .str (.pair (.row (.int .i64)) .unit)))))))))))) (none)) (none)) (spec_UnitsOk.l2 k m2 x0 (IntKind.wrap .i64 (x3 + 1))) := by kernel_rfl
theorem spec_UnitsOk.j12_e (k m2 m8 : Nat) (x0 : List (ByteArray × Int × Int × (List (Int × Int × Int × Int × Int × ByteArray × (List Int) × Unit)) × Unit)) (x3 : Int) (x5 : Int) (y0_0 : ByteArray × Int × Int × (List (Int × Int × Int × Int × Int × ByteArray × (List Int) × Unit)) × Unit) (y1_0 : Int × Int × Int × Int × Int × ByteArray × (List Int) × Unit) : spec_UnitsOk.j12 k m2 m8 x0 x3 x5 y0_0 y1_0 =
  bindO (spec_l10Unit k x0 y1_0.2.2.2.2.2.1) fun r3 => (iteB (!(decide (r3 < 0))) (iteB (y1_0.1 != 24) (iteB (decide (0 ≤ r3)) (iteB (decide (r3 < ((List.length x0) : Int))) (iteB ((((List.getD x0 (Int.toNat r3) (Ty.dflt (.pair .str (.pair (.int .i64) (.pair (.int .i64) (.pair (.row (.pair (.int .i64) (.pair (.int .i64) (.pair (.int .i64) (.pair (.int .i64) (.pair (.int .i64) (.pair .str (.pair (.row (.int .i64)) .unit)))))))) .unit)))))).2).1) != ((List.length y1_0.2.2.2.2.2.2.1) : Int)) (some false) (spec_UnitsOk.l8 k m2 m8 x0 x3 (IntKind.wrap .i64 (x5 + 1)) y0_0)) (none)) (none)) (spec_UnitsOk.l8 k m2 m8 x0 x3 (IntKind.wrap .i64 (x5 + 1)) y0_0)) (some false)) := by kernel_rfl
theorem spec_UnitsOk_e (k : Nat) (a1 : List (ByteArray × Int × Int × (List (Int × Int × Int × Int × Int × ByteArray × (List Int) × Unit)) × Unit)) : spec_UnitsOk k a1 =
  spec_UnitsOk.l2 k k a1 0 := by kernel_rfl
theorem E_spec_UnitsOk_calls (k : Nat) : CallsOk Try.prog (E_spec_UnitsOk k) (arun Try.prog (E_spec_UnitsOk k) k) := by
  refine told_run (tyTOk _ _) ?_ (fun run h => regOk (tyTOk _ _) mixOk h) ?_ nameOk k
  · intro g m hg
    simp only [E_spec_UnitsOk] at hg
    split at hg
    · cases hg
      refine con_byVal fun ρ l K x hm => ?_
      split at hm
      · obtain ⟨c1, h1, hm⟩ := Option.bind_eq_some_iff.1 hm
        obtain ⟨r, hr, hm⟩ := Option.bind_eq_some_iff.1 hm
        exact ⟨_, hm, LawV.reads (.cons (.as h1) .nil) (spec_UnitOk_law k c1 r hr)⟩
      · cases hm
    · cases hg
      refine con_byVal fun ρ l K x hm => ?_
      split at hm
      · obtain ⟨c1, h1, hm⟩ := Option.bind_eq_some_iff.1 hm
        obtain ⟨c2, h2, hm⟩ := Option.bind_eq_some_iff.1 hm
        obtain ⟨r, hr, hm⟩ := Option.bind_eq_some_iff.1 hm
        exact ⟨_, hm, LawV.reads (.cons (.as h1) (.cons (.as h2) .nil)) (spec_l10Unit_law k c1 c2 r hr)⟩
      · cases hm
    · cases hg; exact noCon_ok
    · cases hg
  · intro g hg r
    by_cases h : g = 23
    · subst h; simp [E_spec_UnitsOk] at hg
    · simp [E_spec_UnitsOk, h]
theorem f23_okspec_UnitsOk : Try.prog.funcs[23]? = some Try.f23 := by kernel_rfl
theorem spec_UnitsOk_law (k : Nat) (a1 : List (ByteArray × Int × Int × (List (Int × Int × Int × Int × Int × ByteArray × (List Int) × Unit)) × Unit)) (x : Bool) (h : spec_UnitsOk k a1 = some x) : LawV Try.prog 23 [.tv (.row (.pair .str (.pair (.int .i64) (.pair (.int .i64) (.pair (.row (.pair (.int .i64) (.pair (.int .i64) (.pair (.int .i64) (.pair (.int .i64) (.pair (.int .i64) (.pair .str (.pair (.row (.int .i64)) .unit)))))))) .unit))))) a1] (tvn .bool x) := by
  unfold spec_UnitsOk at h
  exact law1 (t := .bool) (tyTOk _ _) (E_spec_UnitsOk_calls k) mixOk f23_okspec_UnitsOk (nameOk _ _ f23_okspec_UnitsOk) (by kernel_rfl) h
/-! impl.within -/
noncomputable def E_impl_within (k : Nat) : Env := ⟨ty, fun _ => none, fun _ _ => none⟩
noncomputable def impl_within (k : Nat) (a1 : Int) (a2 : Int) (a3 : Int) : Option (Bool) :=
  abody (E_impl_within k) (arun Try.prog (E_impl_within k) k) k 78 Try.f78 [.int .i64 a1, .int .i64 a2, .int .i64 a3] [] (fin1 .bool)
theorem impl_within_e (k : Nat) (a1 : Int) (a2 : Int) (a3 : Int) : impl_within k a1 a2 a3 =
  iteB (decide (a1 ≥ a2)) (some (decide (a1 ≤ a3))) (some false) := by kernel_rfl
theorem E_impl_within_calls (k : Nat) : CallsOk Try.prog (E_impl_within k) (arun Try.prog (E_impl_within k) k) := by
  refine told_run (tyTOk _ _) ?_ (fun run h => regOk (tyTOk _ _) mixOk h) ?_ nameOk k
  · intro g m hg
    cases hg
  · intro g _ r; rfl
theorem f78_okimpl_within : Try.prog.funcs[78]? = some Try.f78 := by kernel_rfl
theorem impl_within_law (k : Nat) (a1 : Int) (a2 : Int) (a3 : Int) (x : Bool) (h : impl_within k a1 a2 a3 = some x) : LawV Try.prog 78 [.int .i64 a1, .int .i64 a2, .int .i64 a3] (tvn .bool x) := by
  unfold impl_within at h
  exact law1 (t := .bool) (tyTOk _ _) (E_impl_within_calls k) mixOk f78_okimpl_within (nameOk _ _ f78_okimpl_within) (by kernel_rfl) h
/-! impl.owns -/
noncomputable def E_impl_owns (k : Nat) : Env := ⟨ty, fun _ => none, fun _ _ => none⟩
noncomputable def impl_owns (k : Nat) (a1 : Int) : Option (ByteArray) :=
  abody (E_impl_owns k) (arun Try.prog (E_impl_owns k) k) k 160 Try.f160 [.int .i64 a1] [] (fin1 .str)
theorem impl_owns_e (k : Nat) (a1 : Int) : impl_owns k a1 =
  iteB (a1 == 1) (some (⟨#[68, 78]⟩ : ByteArray)) (iteB (a1 == 2) (some (⟨#[68, 65]⟩ : ByteArray)) (iteB (a1 == 15) (some (⟨#[68, 65]⟩ : ByteArray)) (iteB (a1 == 17) (some (⟨#[68, 65]⟩ : ByteArray)) (iteB (a1 == 20) (some (⟨#[68, 65]⟩ : ByteArray)) (iteB (a1 == 3) (some (⟨#[68, 65, 66]⟩ : ByteArray)) (iteB (a1 == 4) (some (⟨#[68, 65, 66]⟩ : ByteArray)) (iteB (a1 == 5) (some (⟨#[68, 65, 66]⟩ : ByteArray)) (iteB (a1 == 6) (some (⟨#[68, 65, 66]⟩ : ByteArray)) (iteB (a1 == 7) (some (⟨#[68, 65, 66]⟩ : ByteArray)) (iteB (a1 == 8) (some (⟨#[78]⟩ : ByteArray)) (iteB (a1 == 9) (some (⟨#[78]⟩ : ByteArray)) (iteB (a1 == 10) (some (⟨#[65, 78]⟩ : ByteArray)) (iteB (a1 == 11) (some (⟨#[68, 83, 88]⟩ : ByteArray)) (iteB (a1 == 12) (some (⟨#[65]⟩ : ByteArray)) (iteB (a1 == 13) (some (⟨#[65]⟩ : ByteArray)) (iteB (a1 == 18) (some (⟨#[65]⟩ : ByteArray)) (iteB (a1 == 25) (some (⟨#[65]⟩ : ByteArray)) (iteB (a1 == 28) (some (⟨#[65]⟩ : ByteArray)) (iteB (a1 == 14) (some (⟨#[83, 88]⟩ : ByteArray)) (iteB (a1 == 16) (some (⟨#[65, 66]⟩ : ByteArray)) (iteB (a1 == 21) (some (⟨#[65, 66]⟩ : ByteArray)) (iteB (a1 == 26) (some (⟨#[65, 66]⟩ : ByteArray)) (iteB (a1 == 27) (some (⟨#[65, 66]⟩ : ByteArray)) (iteB (a1 == 19) (some (⟨#[68, 66, 78, 88]⟩ : ByteArray)) (iteB (a1 == 22) (some (⟨#[68, 65, 66, 88]⟩ : ByteArray)) (iteB (a1 == 23) (some (⟨#[68]⟩ : ByteArray)) (iteB (a1 == 24) (some (⟨#[68, 83]⟩ : ByteArray)) (some (⟨#[]⟩ : ByteArray))))))))))))))))))))))))))))) := by kernel_rfl
theorem E_impl_owns_calls (k : Nat) : CallsOk Try.prog (E_impl_owns k) (arun Try.prog (E_impl_owns k) k) := by
  refine told_run (tyTOk _ _) ?_ (fun run h => regOk (tyTOk _ _) mixOk h) ?_ nameOk k
  · intro g m hg
    cases hg
  · intro g _ r; rfl
theorem f160_okimpl_owns : Try.prog.funcs[160]? = some Try.f160 := by kernel_rfl
theorem impl_owns_law (k : Nat) (a1 : Int) (x : ByteArray) (h : impl_owns k a1 = some x) : LawV Try.prog 160 [.int .i64 a1] (tvn .str x) := by
  unfold impl_owns at h
  exact law1 (t := .str) (tyTOk _ _) (E_impl_owns_calls k) mixOk f160_okimpl_owns (nameOk _ _ f160_okimpl_owns) (by kernel_rfl) h
/-! impl.WordOk -/
noncomputable def E_impl_WordOk (k : Nat) : Env := ⟨ty, fun g => match g with
  | 78 => some (byVal fun ρ l K => match l with
    | [b1, b2, b3] => (b1.as (.int .i64)).bind fun c1 => (b2.as (.int .i64)).bind fun c2 => (b3.as (.int .i64)).bind fun c3 => (impl_within k c1 c2 c3).bind fun r => K (tvn .bool r)
    | _ => none)
  | _ => none, fun _ _ => none⟩
noncomputable def impl_WordOk (k : Nat) (a1 : Int) : Option (Bool) :=
  abody (E_impl_WordOk k) (arun Try.prog (E_impl_WordOk k) k) k 88 Try.f88 [.int .i64 a1] [] (fin1 .bool)
theorem impl_WordOk_e (k : Nat) (a1 : Int) : impl_WordOk k a1 =
  bindO (impl_within k a1 (-2147483648) 2147483647) fun r1 => (some r1) := by kernel_rfl
theorem E_impl_WordOk_calls (k : Nat) : CallsOk Try.prog (E_impl_WordOk k) (arun Try.prog (E_impl_WordOk k) k) := by
  refine told_run (tyTOk _ _) ?_ (fun run h => regOk (tyTOk _ _) mixOk h) ?_ nameOk k
  · intro g m hg
    simp only [E_impl_WordOk] at hg
    split at hg
    · cases hg
      refine con_byVal fun ρ l K x hm => ?_
      split at hm
      · obtain ⟨c1, h1, hm⟩ := Option.bind_eq_some_iff.1 hm
        obtain ⟨c2, h2, hm⟩ := Option.bind_eq_some_iff.1 hm
        obtain ⟨c3, h3, hm⟩ := Option.bind_eq_some_iff.1 hm
        obtain ⟨r, hr, hm⟩ := Option.bind_eq_some_iff.1 hm
        exact ⟨_, hm, LawV.reads (.cons (.as h1) (.cons (.as h2) (.cons (.as h3) .nil))) (impl_within_law k c1 c2 c3 r hr)⟩
      · cases hm
    · cases hg
  · intro g _ r; rfl
theorem f88_okimpl_WordOk : Try.prog.funcs[88]? = some Try.f88 := by kernel_rfl
theorem impl_WordOk_law (k : Nat) (a1 : Int) (x : Bool) (h : impl_WordOk k a1 = some x) : LawV Try.prog 88 [.int .i64 a1] (tvn .bool x) := by
  unfold impl_WordOk at h
  exact law1 (t := .bool) (tyTOk _ _) (E_impl_WordOk_calls k) mixOk f88_okimpl_WordOk (nameOk _ _ f88_okimpl_WordOk) (by kernel_rfl) h
/-! slices.Index[[]byte,byte] -/
noncomputable def E_slices_Index_byte (k : Nat) : Env := ⟨ty, fun g => match g with
  | 194 => some noCon
  | _ => none, fun f r => match f with | 194 => (match r with | 2 => some [0, 1, 7, 8] | _ => none) | _ => none⟩
noncomputable def slices_Index_byte (k : Nat) (a1 : List Int) (a2 : Int) : Option (Int) :=
  abody (E_slices_Index_byte k) (arun Try.prog (E_slices_Index_byte k) k) k 194 Try.f194 [.tv (.row (.int .u8)) a1, .int .u8 a2] [] (fin1 (.int .i64))
noncomputable def slices_Index_byte.l2 (k n : Nat) (x0 : List Int) (x1 : Int) (x7 : Int) (x8 : Int) : Option (Int) :=
  resume (E_slices_Index_byte k) 194 (acall (E_slices_Index_byte k) (arun Try.prog (E_slices_Index_byte k) k)) k [true, false, true, true] [n] (bodyOf Try.f194) ⟨[.tv (.row (.int .u8)) x0, .int .u8 x1, .undef, .undef, .undef, .undef, .undef, .int .i64 x7, .int .i64 x8, .undef, .undef, .undef, .undef, .undef, .undef, .undef, .undef, .undef, .undef], []⟩ (leave (E_slices_Index_byte k) Try.f194 (fin1 (.int .i64)))
theorem slices_Index_byte.l2_0 (k : Nat) (x0 : List Int) (x1 : Int) (x7 : Int) (x8 : Int) : slices_Index_byte.l2 k 0 x0 x1 x7 x8 = none := by kernel_rfl
theorem slices_Index_byte.l2_s (k n : Nat) (x0 : List Int) (x1 : Int) (x7 : Int) (x8 : Int) : slices_Index_byte.l2 k (n + 1) x0 x1 x7 x8 =
  iteB (decide (x8 < x7)) (iteB (decide (0 ≤ x8)) (iteB (decide (x8 < ((List.length x0) : Int))) (iteB (x1 == (List.getD x0 (Int.toNat x8) 0)) (some x8) (slices_Index_byte.l2 k n x0 x1 x7 (IntKind.wrap .i64 (x8 + 1)))) (none)) (none)) (some (-1)) := by kernel_rfl
theorem slices_Index_byte_e (k : Nat) (a1 : List Int) (a2 : Int) : slices_Index_byte k a1 a2 =
  slices_Index_byte.l2 k k a1 a2 ((List.length a1) : Int) 0 := by kernel_rfl
theorem E_slices_Index_byte_calls (k : Nat) : CallsOk Try.prog (E_slices_Index_byte k) (arun Try.prog (E_slices_Index_byte k) k) := by
  refine told_run (tyTOk _ _) ?_ (fun run h => regOk (tyTOk _ _) mixOk h) ?_ nameOk k
  · intro g m hg
    simp only [E_slices_Index_byte] at hg
    split at hg
    · cases hg; exact noCon_ok
    · cases hg
  · intro g hg r
    by_cases h : g = 194
    · subst h; simp [E_slices_Index_byte] at hg
    · simp [E_slices_Index_byte, h]
theorem f194_okslices_Index_byte : Try.prog.funcs[194]? = some Try.f194 := by kernel_rfl
theorem slices_Index_byte_law (k : Nat) (a1 : List Int) (a2 : Int) (x : Int) (h : slices_Index_byte k a1 a2 = some x) : LawV Try.prog 194 [.tv (.row (.int .u8)) a1, .int .u8 a2] (tvn (.int .i64) x) := by
  unfold slices_Index_byte at h
  exact law1 (t := (.int .i64)) (tyTOk _ _) (E_slices_Index_byte_calls k) mixOk f194_okslices_Index_byte (nameOk _ _ f194_okslices_Index_byte) (by kernel_rfl) h
/-! slices.Contains[[]byte,byte] -/
noncomputable def E_slices_Contains_byte (k : Nat) : Env := ⟨ty, fun g => match g with
  | 194 => some (byVal fun ρ l K => match l with
    | [b1, b2] => (b1.as (.row (.int .u8))).bind fun c1 => (b2.as (.int .u8)).bind fun c2 => (slices_Index_byte k c1 c2).bind fun r => K (tvn (.int .i64) r)
    | _ => none)
  | _ => none, fun _ _ => none⟩
noncomputable def slices_Contains_byte (k : Nat) (a1 : List Int) (a2 : Int) : Option (Bool) :=
  abody (E_slices_Contains_byte k) (arun Try.prog (E_slices_Contains_byte k) k) k 170 Try.f170 [.tv (.row (.int .u8)) a1, .int .u8 a2] [] (fin1 .bool)
theorem slices_Contains_byte_e (k : Nat) (a1 : List Int) (a2 : Int) : slices_Contains_byte k a1 a2 =
  bindO (slices_Index_byte k a1 a2) fun r1 => (some (decide (r1 ≥ 0))) := by kernel_rfl
theorem E_slices_Contains_byte_calls (k : Nat) : CallsOk Try.prog (E_slices_Contains_byte k) (arun Try.prog (E_slices_Contains_byte k) k) := by
  refine told_run (tyTOk _ _) ?_ (fun run h => regOk (tyTOk _ _) mixOk h) ?_ nameOk k
  · intro g m hg
    simp only [E_slices_Contains_byte] at hg
    split at hg
    · cases hg
      refine con_byVal fun ρ l K x hm => ?_
      split at hm
      · obtain ⟨c1, h1, hm⟩ := Option.bind_eq_some_iff.1 hm
        obtain ⟨c2, h2, hm⟩ := Option.bind_eq_some_iff.1 hm
        obtain ⟨r, hr, hm⟩ := Option.bind_eq_some_iff.1 hm
        exact ⟨_, hm, LawV.reads (.cons (.as h1) (.cons (.as h2) .nil)) (slices_Index_byte_law k c1 c2 r hr)⟩
      · cases hm
    · cases hg
  · intro g _ r; rfl
theorem f170_okslices_Contains_byte : Try.prog.funcs[170]? = some Try.f170 := by kernel_rfl
theorem slices_Contains_byte_law (k : Nat) (a1 : List Int) (a2 : Int) (x : Bool) (h : slices_Contains_byte k a1 a2 = some x) : LawV Try.prog 170 [.tv (.row (.int .u8)) a1, .int .u8 a2] (tvn .bool x) := by
  unfold slices_Contains_byte at h
  exact law1 (t := .bool) (tyTOk _ _) (E_slices_Contains_byte_calls k) mixOk f170_okslices_Contains_byte (nameOk _ _ f170_okslices_Contains_byte) (by kernel_rfl) h
/-! impl.owned -/
noncomputable def E_impl_owned (k : Nat) : Env := ⟨ty, fun g => match g with
  | 160 => some (byVal fun ρ l K => match l with
    | [b1] => (b1.as (.int .i64)).bind fun c1 => (impl_owns k c1).bind fun r => K (tvn .str r)
    | _ => none)
  | 170 => some (byVal fun ρ l K => match l with
    | [b1, b2] => (b1.as (.row (.int .u8))).bind fun c1 => (b2.as (.int .u8)).bind fun c2 => (slices_Contains_byte k c1 c2).bind fun r => K (tvn .bool r)
    | _ => none)
  | _ => none, fun _ _ => none⟩
noncomputable def impl_owned (k : Nat) (a1 : Int) (a2 : Int) : Option (Bool) :=
  abody (E_impl_owned k) (arun Try.prog (E_impl_owned k) k) k 103 Try.f103 [.int .i64 a1, .int .u8 a2] [] (fin1 .bool)
theorem impl_owned_e (k : Nat) (a1 : Int) (a2 : Int) : impl_owned k a1 a2 =
  bindO (impl_owns k a1) fun r1 => (bindO (slices_Contains_byte k (valBytes r1) a2) fun r2 => (some r2)) := by kernel_rfl
theorem E_impl_owned_calls (k : Nat) : CallsOk Try.prog (E_impl_owned k) (arun Try.prog (E_impl_owned k) k) := by
  refine told_run (tyTOk _ _) ?_ (fun run h => regOk (tyTOk _ _) mixOk h) ?_ nameOk k
  · intro g m hg
    simp only [E_impl_owned] at hg
    split at hg
    · cases hg
      refine con_byVal fun ρ l K x hm => ?_
      split at hm
      · obtain ⟨c1, h1, hm⟩ := Option.bind_eq_some_iff.1 hm
        obtain ⟨r, hr, hm⟩ := Option.bind_eq_some_iff.1 hm
        exact ⟨_, hm, LawV.reads (.cons (.as h1) .nil) (impl_owns_law k c1 r hr)⟩
      · cases hm
    · cases hg
      refine con_byVal fun ρ l K x hm => ?_
      split at hm
      · obtain ⟨c1, h1, hm⟩ := Option.bind_eq_some_iff.1 hm
        obtain ⟨c2, h2, hm⟩ := Option.bind_eq_some_iff.1 hm
        obtain ⟨r, hr, hm⟩ := Option.bind_eq_some_iff.1 hm
        exact ⟨_, hm, LawV.reads (.cons (.as h1) (.cons (.as h2) .nil)) (slices_Contains_byte_law k c1 c2 r hr)⟩
      · cases hm
    · cases hg
  · intro g _ r; rfl
theorem f103_okimpl_owned : Try.prog.funcs[103]? = some Try.f103 := by kernel_rfl
theorem impl_owned_law (k : Nat) (a1 : Int) (a2 : Int) (x : Bool) (h : impl_owned k a1 a2 = some x) : LawV Try.prog 103 [.int .i64 a1, .int .u8 a2] (tvn .bool x) := by
  unfold impl_owned at h
  exact law1 (t := .bool) (tyTOk _ _) (E_impl_owned_calls k) mixOk f103_okimpl_owned (nameOk _ _ f103_okimpl_owned) (by kernel_rfl) h
/-! impl.argsOk -/
noncomputable def E_impl_argsOk (k : Nat) : Env := ⟨ty, fun g => match g with
  | 103 => some (byVal fun ρ l K => match l with
    | [b1, b2] => (b1.as (.int .i64)).bind fun c1 => (b2.as (.int .u8)).bind fun c2 => (impl_owned k c1 c2).bind fun r => K (tvn .bool r)
    | _ => none)
  | 78 => some (byVal fun ρ l K => match l with
    | [b1, b2, b3] => (b1.as (.int .i64)).bind fun c1 => (b2.as (.int .i64)).bind fun c2 => (b3.as (.int .i64)).bind fun c3 => (impl_within k c1 c2 c3).bind fun r => K (tvn .bool r)
    | _ => none)
  | 161 => some noCon
  | _ => none, fun f r => match f with | 161 => (match r with | 3 => some [2, 5] | _ => none) | _ => none⟩
noncomputable def impl_argsOk (k : Nat) (a1 : Int × Int × Int × Int × Int × ByteArray × (List Int) × Unit) (a2 : Int) : Option (Bool) :=
  abody (E_impl_argsOk k) (arun Try.prog (E_impl_argsOk k) k) k 161 Try.f161 [.tv (.pair (.int .i64) (.pair (.int .i64) (.pair (.int .i64) (.pair (.int .i64) (.pair (.int .i64) (.pair .str (.pair (.row (.int .i64)) .unit))))))) a1, .int .i64 a2] [] (fin1 .bool)
noncomputable def impl_argsOk.l3 (k n : Nat) (x5 : Int) (y0_0 : Int × Int × Int × Int × Int × ByteArray × (List Int) × Unit) : Option (Bool) :=
  resume (E_impl_argsOk k) 161 (acall (E_impl_argsOk k) (arun Try.prog (E_impl_argsOk k) k)) k [true, false, true, true, false, false, true, true] [n] (bodyOf Try.f161) ⟨[.undef, .undef, .ptr 0 0 0, .undef, .undef, .int .i64 x5, .undef, .undef, .undef, .undef, .undef, .undef, .undef, .undef, .undef, .undef, .undef, .undef, .undef, .undef, .undef, .undef, .undef, .undef, .undef, .undef, .undef, .undef, .undef, .undef, .undef, .undef, .undef, .undef, .undef, .undef, .undef, .undef, .undef, .undef, .undef, .undef, .undef, .undef, .undef, .undef, .undef, .undef, .undef, .undef, .undef, .undef, .undef, .undef, .undef, .undef, .undef, .undef, .undef, .undef, .undef, .undef, .undef, .undef, .undef, .undef, .undef, .undef, .undef, .undef, .undef, .undef, .undef, .undef, .undef, .undef, .undef, .undef, .undef], [some ⟨.raw true 7 (.agg [.int .i64 0, .int .i64 0, .int .i64 0, .int .i64 0, .int .i64 0, .str ByteArray.empty, .nils]) [.tv (.pair (.int .i64) (.pair (.int .i64) (.pair (.int .i64) (.pair (.int .i64) (.pair (.int .i64) (.pair .str (.pair (.row (.int .i64)) .unit))))))) y0_0], true⟩]⟩ (leave (E_impl_argsOk k) Try.f161 (fin1 .bool))
theorem impl_argsOk.l3_0 (k : Nat) (x5 : Int) (y0_0 : Int × Int × Int × Int × Int × ByteArray × (List Int) × Unit) : impl_argsOk.l3 k 0 x5 y0_0 = none := by kernel_rfl
theorem impl_argsOk.l3_s (k n : Nat) (x5 : Int) (y0_0 : Int × Int × Int × Int × Int × ByteArray × (List Int) × Unit) : impl_argsOk.l3 k (n + 1) x5 y0_0 =
  iteB (decide (IntKind.wrap .i64 (x5 + 2) < ((List.length y0_0.2.2.2.2.2.2.1) : Int))) (iteB (decide (0 ≤ x5)) (iteB (decide (x5 < ((List.length y0_0.2.2.2.2.2.2.1) : Int))) (bindO (impl_within k (List.getD y0_0.2.2.2.2.2.2.1 (Int.toNat x5) 0) 1 2) fun r2 => (iteB (!(!r2)) (iteB (decide (0 ≤ x5)) (iteB (decide (x5 < ((List.length y0_0.2.2.2.2.2.2.1) : Int))) (iteB ((List.getD y0_0.2.2.2.2.2.2.1 (Int.toNat x5) 0) == 1) (iteB (decide (0 ≤ IntKind.wrap .i64 (x5 + 2))) (iteB (decide (IntKind.wrap .i64 (x5 + 2) < ((List.length y0_0.2.2.2.2.2.2.1) : Int))) (iteB ((List.getD y0_0.2.2.2.2.2.2.1 (Int.toNat (IntKind.wrap .i64 (x5 + 2))) 0) != 0) (some false) (impl_argsOk.l3 k n (IntKind.wrap .i64 (x5 + 3)) y0_0)) (none)) (none)) (impl_argsOk.l3 k n (IntKind.wrap .i64 (x5 + 3)) y0_0)) (none)) (none)) (some false))) (none)) (none)) (iteB ((Int.tmod ((List.length y0_0.2.2.2.2.2.2.1) : Int) 3) == 0) (bindO (impl_within k ((List.length y0_0.2.2.2.2.2.2.1) : Int) 3 9) fun r3 => (iteB r3 (bindO (impl_within k y0_0.2.2.2.2.1 0 1) fun r4 => (some r4)) (some false))) (some false)) := by kernel_rfl
theorem impl_argsOk_e (k : Nat) (a1 : Int × Int × Int × Int × Int × ByteArray × (List Int) × Unit) (a2 : Int) : impl_argsOk k a1 a2 =
  iteB (a1.1 == 19) (impl_argsOk.l3 k k 0 a1) (iteB (a1.1 == 22) (some (((List.length a1.2.2.2.2.2.2.1) : Int) == 1)) (bindO (impl_owned k a1.1 88) fun r1 => (iteB (!r1) (some (((List.length a1.2.2.2.2.2.2.1) : Int) == 0)) (some (decide (((List.length a1.2.2.2.2.2.2.1) : Int) ≤ 4)))))) := by kernel_rfl
theorem E_impl_argsOk_calls (k : Nat) : CallsOk Try.prog (E_impl_argsOk k) (arun Try.prog (E_impl_argsOk k) k) := by
  refine told_run (tyTOk _ _) ?_ (fun run h => regOk (tyTOk _ _) mixOk h) ?_ nameOk k
  · intro g m hg
    simp only [E_impl_argsOk] at hg
    split at hg
    · cases hg
      refine con_byVal fun ρ l K x hm => ?_
      split at hm
      · obtain ⟨c1, h1, hm⟩ := Option.bind_eq_some_iff.1 hm
        obtain ⟨c2, h2, hm⟩ := Option.bind_eq_some_iff.1 hm
        obtain ⟨r, hr, hm⟩ := Option.bind_eq_some_iff.1 hm
        exact ⟨_, hm, LawV.reads (.cons (.as h1) (.cons (.as h2) .nil)) (impl_owned_law k c1 c2 r hr)⟩
      · cases hm
    · cases hg
      refine con_byVal fun ρ l K x hm => ?_
      split at hm
      · obtain ⟨c1, h1, hm⟩ := Option.bind_eq_some_iff.1 hm
        obtain ⟨c2, h2, hm⟩ := Option.bind_eq_some_iff.1 hm
        obtain ⟨c3, h3, hm⟩ := Option.bind_eq_some_iff.1 hm
        obtain ⟨r, hr, hm⟩ := Option.bind_eq_some_iff.1 hm
        exact ⟨_, hm, LawV.reads (.cons (.as h1) (.cons (.as h2) (.cons (.as h3) .nil))) (impl_within_law k c1 c2 c3 r hr)⟩
      · cases hm
    · cases hg; exact noCon_ok
    · cases hg
  · intro g hg r
    by_cases h : g = 161
    · subst h; simp [E_impl_argsOk] at hg
    · simp [E_impl_argsOk, h]
theorem f161_okimpl_argsOk : Try.prog.funcs[161]? = some Try.f161 := by kernel_rfl
theorem impl_argsOk_law (k : Nat) (a1 : Int × Int × Int × Int × Int × ByteArray × (List Int) × Unit) (a2 : Int) (x : Bool) (h : impl_argsOk k a1 a2 = some x) : LawV Try.prog 161 [.tv (.pair (.int .i64) (.pair (.int .i64) (.pair (.int .i64) (.pair (.int .i64) (.pair (.int .i64) (.pair .str (.pair (.row (.int .i64)) .unit))))))) a1, .int .i64 a2] (tvn .bool x) := by
  unfold impl_argsOk at h
  exact law1 (t := .bool) (tyTOk _ _) (E_impl_argsOk_calls k) mixOk f161_okimpl_argsOk (nameOk _ _ f161_okimpl_argsOk) (by kernel_rfl) h
/-! impl.Sets -/
noncomputable def E_impl_Sets (k : Nat) : Env := ⟨ty, fun g => match g with
  | 103 => some (byVal fun ρ l K => match l with
    | [b1, b2] => (b1.as (.int .i64)).bind fun c1 => (b2.as (.int .u8)).bind fun c2 => (impl_owned k c1 c2).bind fun r => K (tvn .bool r)
    | _ => none)
  | _ => none, fun _ _ => none⟩
noncomputable def impl_Sets (k : Nat) (a1 : Int × Int × Int × Int × Int × ByteArray × (List Int) × Unit) : Option (List Int) :=
  abody (E_impl_Sets k) (arun Try.prog (E_impl_Sets k) k) k 162 Try.f162 [.tv (.pair (.int .i64) (.pair (.int .i64) (.pair (.int .i64) (.pair (.int .i64) (.pair (.int .i64) (.pair .str (.pair (.row (.int .i64)) .unit))))))) a1] [] (finF (.int .i64))
theorem impl_Sets_e (k : Nat) (a1 : Int × Int × Int × Int × Int × ByteArray × (List Int) × Unit) : impl_Sets k a1 =
  iteB (a1.1 == 19) (some [a1.2.1, a1.2.2.2.1]) (bindO (impl_owned k a1.1 68) fun r1 => (iteB r1 (some [a1.2.1]) (some []))) := by kernel_rfl
theorem E_impl_Sets_calls (k : Nat) : CallsOk Try.prog (E_impl_Sets k) (arun Try.prog (E_impl_Sets k) k) := by
  refine told_run (tyTOk _ _) ?_ (fun run h => regOk (tyTOk _ _) mixOk h) ?_ nameOk k
  · intro g m hg
    simp only [E_impl_Sets] at hg
    split at hg
    · cases hg
      refine con_byVal fun ρ l K x hm => ?_
      split at hm
      · obtain ⟨c1, h1, hm⟩ := Option.bind_eq_some_iff.1 hm
        obtain ⟨c2, h2, hm⟩ := Option.bind_eq_some_iff.1 hm
        obtain ⟨r, hr, hm⟩ := Option.bind_eq_some_iff.1 hm
        exact ⟨_, hm, LawV.reads (.cons (.as h1) (.cons (.as h2) .nil)) (impl_owned_law k c1 c2 r hr)⟩
      · cases hm
    · cases hg
  · intro g _ r; rfl
theorem f162_okimpl_Sets : Try.prog.funcs[162]? = some Try.f162 := by kernel_rfl
theorem impl_Sets_law (k : Nat) (a1 : Int × Int × Int × Int × Int × ByteArray × (List Int) × Unit) (x : List Int) (h : impl_Sets k a1 = some x) : LawF Try.prog 162 [.tv (.pair (.int .i64) (.pair (.int .i64) (.pair (.int .i64) (.pair (.int .i64) (.pair (.int .i64) (.pair .str (.pair (.row (.int .i64)) .unit))))))) a1] (.int .i64) x := by
  unfold impl_Sets at h
  exact lawF (e := (.int .i64)) (tyTOk _ _) (E_impl_Sets_calls k) mixOk f162_okimpl_Sets (nameOk _ _ f162_okimpl_Sets) (by kernel_rfl) h
end Go.Proofs.Ytapijpjgfpjahaa.XFnExactUnitsOk
