/- Functions of the program as runs of the interpreter: equations, and a law for each. -/
import Derived.Test.YtapijpjgfpjahaaProg
import Derived.Test.YtapijpjgfpjahaaChecked
import Derived.KernelRfl
import Derived.Eval
import Derived.Test.YtapijpjgfpjahaaATyOk
import Derived.Test.YtapijpjgfpjahaaAS33
import Derived.Test.YtapijpjgfpjahaaAMFnExactUnitsOk3
import Derived.Test.YtapijpjgfpjahaaAMFnExactUnitsOk5
open Go Go.AM Go.AMx Go.Proofs
namespace Go.Proofs.Ytapijpjgfpjahaa.XFnExactUnitsOk
set_option linter.unusedVariables false
set_option linter.unusedSimpArgs false
/-! impl.UnitsOk -/
noncomputable def E_impl_UnitsOk (k : Nat) : Env := ⟨ty, fun g => match g with
  | 20 => some (byVal fun ρ l K => match l with
    | [b1] => (b1.as (.pair .str (.pair (.int .i64) (.pair (.int .i64) (.pair (.row (.pair (.int .i64) (.pair (.int .i64) (.pair (.int .i64) (.pair (.int .i64) (.pair (.int .i64) (.pair .str (.pair (.row (.int .i64)) .unit)))))))) .unit))))).bind fun c1 => (impl_UnitOk k c1).bind fun r => K (tvn .bool r)
    | _ => none)
  | 102 => some (byVal fun ρ l K => match l with
    | [b1, b2] => (b1.as (.row (.pair .str (.pair (.int .i64) (.pair (.int .i64) (.pair (.row (.pair (.int .i64) (.pair (.int .i64) (.pair (.int .i64) (.pair (.int .i64) (.pair (.int .i64) (.pair .str (.pair (.row (.int .i64)) .unit)))))))) .unit)))))).bind fun c1 => (b2.as .str).bind fun c2 => (impl_unitAt k c1 c2).bind fun r => K (tvn (.int .i64) r)
    | _ => none)
  | 103 => some (byVal fun ρ l K => match l with
    | [b1, b2] => (b1.as (.int .i64)).bind fun c1 => (b2.as (.int .u8)).bind fun c2 => (impl_owned k c1 c2).bind fun r => K (tvn .bool r)
    | _ => none)
  | 25 => some noCon
  | _ => none, fun f r => match f with | 25 => (match r with | 4 => some [0, 11, 12, 13] | 8 => some [0, 4, 11, 12, 13] | 9 => some [0, 11, 12, 13, 30, 31, 32] | _ => none) | _ => none⟩
noncomputable def impl_UnitsOk (k : Nat) (a1 : List (ByteArray × Int × Int × (List (Int × Int × Int × Int × Int × ByteArray × (List Int) × Unit)) × Unit)) : Option (Bool) :=
  abody (E_impl_UnitsOk k) (arun Try.prog (E_impl_UnitsOk k) k) k 25 Try.f25 [.tv (.row (.pair .str (.pair (.int .i64) (.pair (.int .i64) (.pair (.row (.pair (.int .i64) (.pair (.int .i64) (.pair (.int .i64) (.pair (.int .i64) (.pair (.int .i64) (.pair .str (.pair (.row (.int .i64)) .unit)))))))) .unit))))) a1] [] (fin1 .bool)
noncomputable def impl_UnitsOk.l4 (k n : Nat) (x0 : List (ByteArray × Int × Int × (List (Int × Int × Int × Int × Int × ByteArray × (List Int) × Unit)) × Unit)) (x11 : List (ByteArray × Int × Int × (List (Int × Int × Int × Int × Int × ByteArray × (List Int) × Unit)) × Unit)) (x12 : Int) (x13 : Int) : Option (Bool) :=
  resume (E_impl_UnitsOk k) 25 (acall (E_impl_UnitsOk k) (arun Try.prog (E_impl_UnitsOk k) k)) k [true, true, false, true, true] [n] (bodyOf Try.f25) ⟨[.tv (.row (.pair .str (.pair (.int .i64) (.pair (.int .i64) (.pair (.row (.pair (.int .i64) (.pair (.int .i64) (.pair (.int .i64) (.pair (.int .i64) (.pair (.int .i64) (.pair .str (.pair (.row (.int .i64)) .unit)))))))) .unit))))) x0, .undef, .undef, .undef, .undef, .undef, .undef, .undef, .undef, .undef, .undef, .tv (.row (.pair .str (.pair (.int .i64) (.pair (.int .i64) (.pair (.row (.pair (.int .i64) (.pair (.int .i64) (.pair (.int .i64) (.pair (.int .i64) (.pair (.int .i64) (.pair .str (.pair (.row (.int .i64)) .unit)))))))) .unit))))) x11, .int .i64 x12, .int .i64 x13, .undef, .undef, .undef, .undef, .undef, .undef, .undef, .undef, .undef, .undef, .undef, .undef, .undef, .undef, .undef, .undef, .undef, .undef, .undef, .undef, .undef, .undef, .undef, .undef, .undef, .undef, .undef, .undef, .undef, .undef, .undef, .undef, .undef, .undef, .undef, .undef, .undef, .undef, .undef, .undef, .undef, .undef, .undef, .undef, .undef, .undef, .undef, .undef, .undef, .undef], []⟩ (leave (E_impl_UnitsOk k) Try.f25 (fin1 .bool))
noncomputable def impl_UnitsOk.j8 (k m4 : Nat) (x0 : List (ByteArray × Int × Int × (List (Int × Int × Int × Int × Int × ByteArray × (List Int) × Unit)) × Unit)) (x11 : List (ByteArray × Int × Int × (List (Int × Int × Int × Int × Int × ByteArray × (List Int) × Unit)) × Unit)) (x12 : Int) (x13 : Int) (y0_0 : ByteArray × Int × Int × (List (Int × Int × Int × Int × Int × ByteArray × (List Int) × Unit)) × Unit) : Option (Bool) :=
  resume (E_impl_UnitsOk k) 25 (acall (E_impl_UnitsOk k) (arun Try.prog (E_impl_UnitsOk k) k)) k [true, true, false, true, true, true, true, true, false, true, true, true] [m4] (bodyOf Try.f25) ⟨[.tv (.row (.pair .str (.pair (.int .i64) (.pair (.int .i64) (.pair (.row (.pair (.int .i64) (.pair (.int .i64) (.pair (.int .i64) (.pair (.int .i64) (.pair (.int .i64) (.pair .str (.pair (.row (.int .i64)) .unit)))))))) .unit))))) x0, .undef, .undef, .undef, .ptr 0 0 0, .undef, .undef, .undef, .undef, .undef, .undef, .tv (.row (.pair .str (.pair (.int .i64) (.pair (.int .i64) (.pair (.row (.pair (.int .i64) (.pair (.int .i64) (.pair (.int .i64) (.pair (.int .i64) (.pair (.int .i64) (.pair .str (.pair (.row (.int .i64)) .unit)))))))) .unit))))) x11, .int .i64 x12, .int .i64 x13, .undef, .undef, .undef, .undef, .undef, .undef, .undef, .undef, .undef, .undef, .undef, .undef, .undef, .undef, .undef, .undef, .undef, .undef, .undef, .undef, .undef, .undef, .undef, .undef, .undef, .undef, .undef, .undef, .undef, .undef, .undef, .undef, .undef, .undef, .undef, .undef, .undef, .undef, .undef, .undef, .undef, .undef, .undef, .undef, .undef, .undef, .undef, .undef, .undef, .undef], [some ⟨.raw true 4 (.agg [.str ByteArray.empty, .int .i64 0, .int .i64 0, .nils]) [.tv (.pair .str (.pair (.int .i64) (.pair (.int .i64) (.pair (.row (.pair (.int .i64) (.pair (.int .i64) (.pair (.int .i64) (.pair (.int .i64) (.pair (.int .i64) (.pair .str (.pair (.row (.int .i64)) .unit)))))))) .unit)))) y0_0], true⟩]⟩ (leave (E_impl_UnitsOk k) Try.f25 (fin1 .bool))
noncomputable def impl_UnitsOk.l9 (k m4 n : Nat) (x0 : List (ByteArray × Int × Int × (List (Int × Int × Int × Int × Int × ByteArray × (List Int) × Unit)) × Unit)) (x11 : List (ByteArray × Int × Int × (List (Int × Int × Int × Int × Int × ByteArray × (List Int) × Unit)) × Unit)) (x12 : Int) (x13 : Int) (x30 : List (Int × Int × Int × Int × Int × ByteArray × (List Int) × Unit)) (x31 : Int) (x32 : Int) : Option (Bool) :=
  resume (E_impl_UnitsOk k) 25 (acall (E_impl_UnitsOk k) (arun Try.prog (E_impl_UnitsOk k) k)) k [true, true, false, true, true, true, true, true, false, true, true, true, true, true] [m4, n] (bodyOf Try.f25) ⟨[.tv (.row (.pair .str (.pair (.int .i64) (.pair (.int .i64) (.pair (.row (.pair (.int .i64) (.pair (.int .i64) (.pair (.int .i64) (.pair (.int .i64) (.pair (.int .i64) (.pair .str (.pair (.row (.int .i64)) .unit)))))))) .unit))))) x0, .undef, .undef, .undef, .undef, .undef, .undef, .undef, .undef, .undef, .undef, .tv (.row (.pair .str (.pair (.int .i64) (.pair (.int .i64) (.pair (.row (.pair (.int .i64) (.pair (.int .i64) (.pair (.int .i64) (.pair (.int .i64) (.pair (.int .i64) (.pair .str (.pair (.row (.int .i64)) .unit)))))))) .unit))))) x11, .int .i64 x12, .int .i64 x13, .undef, .undef, .undef, .undef, .undef, .undef, .undef, .undef, .undef, .undef, .undef, .undef, .undef, .undef, .undef, .undef, .tv (.row (.pair (.int .i64) (.pair (.int .i64) (.pair (.int .i64) (.pair (.int .i64) (.pair (.int .i64) (.pair .str (.pair (.row (.int .i64)) .unit)))))))) x30, .int .i64 x31, .int .i64 x32, .undef, .undef, .undef, .undef, .undef, .undef, .undef, .undef, .undef, .undef, .undef, .undef, .undef, .undef, .undef, .undef, .undef, .undef, .undef, .undef, .undef, .undef, .undef, .undef, .undef, .undef, .undef, .undef, .undef, .undef, .undef], []⟩ (leave (E_impl_UnitsOk k) Try.f25 (fin1 .bool))
theorem impl_UnitsOk.l4_0 (k : Nat) (x0 : List (ByteArray × Int × Int × (List (Int × Int × Int × Int × Int × ByteArray × (List Int) × Unit)) × Unit)) (x11 : List (ByteArray × Int × Int × (List (Int × Int × Int × Int × Int × ByteArray × (List Int) × Unit)) × Unit)) (x12 : Int) (x13 : Int) : impl_UnitsOk.l4 k 0 x0 x11 x12 x13 = none := by kernel_rfl
theorem impl_UnitsOk.l4_s (k n : Nat) (x0 : List (ByteArray × Int × Int × (List (Int × Int × Int × Int × Int × ByteArray × (List Int) × Unit)) × Unit)) (x11 : List (ByteArray × Int × Int × (List (Int × Int × Int × Int × Int × ByteArray × (List Int) × Unit)) × Unit)) (x12 : Int) (x13 : Int) : impl_UnitsOk.l4 k (n + 1) x0 x11 x12 x13 =
  iteB (decide (x13 < x12)) (iteB (decide (0 ≤ x13)) (iteB (decide (x13 < ((List.length x11) : Int))) (bindO (impl_UnitOk k (List.getD x11 (Int.toNat x13) (Ty.dflt (.pair .str (.pair (.int .i64) (.pair (.int .i64) (.pair (.row (.pair (.int .i64) (.pair (.int .i64) (.pair (.int .i64) (.pair (.int .i64) (.pair (.int .i64) (.pair .str (.pair (.row (.int .i64)) .unit)))))))) .unit))))))) fun r1 => (iteB (!(!r1)) (bindO (impl_unitAt k x0 ((List.getD x11 (Int.toNat x13) (Ty.dflt (.pair .str (.pair (.int .i64) (.pair (.int .i64) (.pair (.row (.pair (.int .i64) (.pair (.int .i64) (.pair (.int .i64) (.pair (.int .i64) (.pair (.int .i64) (.pair .str (.pair (.row (.int .i64)) .unit)))))))) .unit)))))).1)) fun r2 => (iteB (r2 != x13) (some false) (gate k (impl_UnitsOk.j8 k n x0 x11 x12 x13 (List.getD x11 (Int.toNat x13) (Ty.dflt (.pair .str (.pair (.int .i64) (.pair (.int .i64) (.pair (.row (.pair (.int .i64) (.pair (.int .i64) (.pair (.int .i64) (.pair (.int .i64) (.pair (.int .i64) (.pair .str (.pair (.row (.int .i64)) .unit)))))))) .unit)))))))))) (some false))) (none)) (none)) (some true) := by kernel_rfl
theorem impl_UnitsOk.j8_e (k m4 : Nat) (x0 : List (ByteArray × Int × Int × (List (Int × Int × Int × Int × Int × ByteArray × (List Int) × Unit)) × Unit)) (x11 : List (ByteArray × Int × Int × (List (Int × Int × Int × Int × Int × ByteArray × (List Int) × Unit)) × Unit)) (x12 : Int) (x13 : Int) (y0_0 : ByteArray × Int × Int × (List (Int × Int × Int × Int × Int × ByteArray × (List Int) × Unit)) × Unit) : impl_UnitsOk.j8 k m4 x0 x11 x12 x13 y0_0 =
  impl_UnitsOk.l9 k m4 k x0 x11 x12 x13 y0_0.2.2.2.1 ((List.length y0_0.2.2.2.1) : Int) 0 := by kernel_rfl
theorem impl_UnitsOk.l9_0 (k m4 : Nat) (x0 : List (ByteArray × Int × Int × (List (Int × Int × Int × Int × Int × ByteArray × (List Int) × Unit)) × Unit)) (x11 : List (ByteArray × Int × Int × (List (Int × Int × Int × Int × Int × ByteArray × (List Int) × Unit)) × Unit)) (x12 : Int) (x13 : Int) (x30 : List (Int × Int × Int × Int × Int × ByteArray × (List Int) × Unit)) (x31 : Int) (x32 : Int) : impl_UnitsOk.l9 k m4 0 x0 x11 x12 x13 x30 x31 x32 = none := by kernel_rfl
theorem impl_UnitsOk.l9_s (k m4 n : Nat) (x0 : List (ByteArray × Int × Int × (List (Int × Int × Int × Int × Int × ByteArray × (List Int) × Unit)) × Unit)) (x11 : List (ByteArray × Int × Int × (List (Int × Int × Int × Int × Int × ByteArray × (List Int) × Unit)) × Unit)) (x12 : Int) (x13 : Int) (x30 : List (Int × Int × Int × Int × Int × ByteArray × (List Int) × Unit)) (x31 : Int) (x32 : Int) : impl_UnitsOk.l9 k m4 (n + 1) x0 x11 x12 x13 x30 x31 x32 =
  iteB (decide (x32 < x31)) (iteB (decide (0 ≤ x32)) (iteB (decide (x32 < ((List.length x30) : Int))) (bindO (impl_owned k ((List.getD x30 (Int.toNat x32) (Ty.dflt (.pair (.int .i64) (.pair (.int .i64) (.pair (.int .i64) (.pair (.int .i64) (.pair (.int .i64) (.pair .str (.pair (.row (.int .i64)) .unit))))))))).1) 83) fun r3 => (iteB (!r3) (impl_UnitsOk.l9 k m4 n x0 x11 x12 x13 x30 x31 (IntKind.wrap .i64 (x32 + 1))) (bindO (impl_unitAt k x0 (((((((List.getD x30 (Int.toNat x32) (Ty.dflt (.pair (.int .i64) (.pair (.int .i64) (.pair (.int .i64) (.pair (.int .i64) (.pair (.int .i64) (.pair .str (.pair (.row (.int .i64)) .unit))))))))).2).2).2).2).2).1)) fun r4 => (iteB (!(decide (r4 < 0))) (iteB (((List.getD x30 (Int.toNat x32) (Ty.dflt (.pair (.int .i64) (.pair (.int .i64) (.pair (.int .i64) (.pair (.int .i64) (.pair (.int .i64) (.pair .str (.pair (.row (.int .i64)) .unit))))))))).1) != 24) (iteB (decide (0 ≤ r4)) (iteB (decide (r4 < ((List.length x0) : Int))) (iteB (((List.length ((((((((List.getD x30 (Int.toNat x32) (Ty.dflt (.pair (.int .i64) (.pair (.int .i64) (.pair (.int .i64) (.pair (.int .i64) (.pair (.int .i64) (.pair .str (.pair (.row (.int .i64)) .unit))))))))).2).2).2).2).2).2).1)) : Int) != (((List.getD x0 (Int.toNat r4) (Ty.dflt (.pair .str (.pair (.int .i64) (.pair (.int .i64) (.pair (.row (.pair (.int .i64) (.pair (.int .i64) (.pair (.int .i64) (.pair (.int .i64) (.pair (.int .i64) (.pair .str (.pair (.row (.int .i64)) .unit)))))))) .unit)))))).2).1)) (some false) (impl_UnitsOk.l9 k m4 n x0 x11 x12 x13 x30 x31 (IntKind.wrap .i64 (x32 + 1)))) (none)) (none)) (impl_UnitsOk.l9 k m4 n x0 x11 x12 x13 x30 x31 (IntKind.wrap .i64 (x32 + 1)))) (some false))))) (none)) (none)) (impl_UnitsOk.l4 k m4 x0 x11 x12 (IntKind.wrap .i64 (x13 + 1))) := by kernel_rfl
theorem impl_UnitsOk_e (k : Nat) (a1 : List (ByteArray × Int × Int × (List (Int × Int × Int × Int × Int × ByteArray × (List Int) × Unit)) × Unit)) : impl_UnitsOk k a1 =
  iteB (decide (((List.length a1) : Int) > 80)) (some false) (impl_UnitsOk.l4 k k a1 a1 ((List.length a1) : Int) 0) := by kernel_rfl
theorem E_impl_UnitsOk_calls (k : Nat) : CallsOk Try.prog (E_impl_UnitsOk k) (arun Try.prog (E_impl_UnitsOk k) k) := by
  refine told_run (tyTOk _ _) ?_ (fun run h => regOk (tyTOk _ _) mixOk h) ?_ nameOk k
  · intro g m hg
    simp only [E_impl_UnitsOk] at hg
    split at hg
    · cases hg
      refine con_byVal fun ρ l K x hm => ?_
      split at hm
      · obtain ⟨c1, h1, hm⟩ := Option.bind_eq_some_iff.1 hm
        obtain ⟨r, hr, hm⟩ := Option.bind_eq_some_iff.1 hm
        exact ⟨_, hm, LawV.reads (.cons (.as h1) .nil) (impl_UnitOk_law k c1 r hr)⟩
      · cases hm
    · cases hg
      refine con_byVal fun ρ l K x hm => ?_
      split at hm
      · obtain ⟨c1, h1, hm⟩ := Option.bind_eq_some_iff.1 hm
        obtain ⟨c2, h2, hm⟩ := Option.bind_eq_some_iff.1 hm
        obtain ⟨r, hr, hm⟩ := Option.bind_eq_some_iff.1 hm
        exact ⟨_, hm, LawV.reads (.cons (.as h1) (.cons (.as h2) .nil)) (impl_unitAt_law k c1 c2 r hr)⟩
      · cases hm
    · cases hg
      refine con_byVal fun ρ l K x hm => ?_
      split at hm
      · obtain ⟨c1, h1, hm⟩ := Option.bind_eq_some_iff.1 hm
        obtain ⟨c2, h2, hm⟩ := Option.bind_eq_some_iff.1 hm
        obtain ⟨r, hr, hm⟩ := Option.bind_eq_some_iff.1 hm
        exact ⟨_, hm, LawV.reads (.cons (.as h1) (.cons (.as h2) .nil)) (impl_owned_law k c1 c2 r hr)⟩
      · cases hm
    · cases hg; exact noCon_ok
    · cases hg
  · intro g hg r
    by_cases h : g = 25
    · subst h; simp [E_impl_UnitsOk] at hg
    · simp [E_impl_UnitsOk, h]
theorem f25_okimpl_UnitsOk : Try.prog.funcs[25]? = some Try.f25 := by kernel_rfl
theorem impl_UnitsOk_law (k : Nat) (a1 : List (ByteArray × Int × Int × (List (Int × Int × Int × Int × Int × ByteArray × (List Int) × Unit)) × Unit)) (x : Bool) (h : impl_UnitsOk k a1 = some x) : LawV Try.prog 25 [.tv (.row (.pair .str (.pair (.int .i64) (.pair (.int .i64) (.pair (.row (.pair (.int .i64) (.pair (.int .i64) (.pair (.int .i64) (.pair (.int .i64) (.pair (.int .i64) (.pair .str (.pair (.row (.int .i64)) .unit)))))))) .unit))))) a1] (tvn .bool x) := by
  unfold impl_UnitsOk at h
  exact law1 (t := .bool) (tyTOk _ _) (E_impl_UnitsOk_calls k) mixOk f25_okimpl_UnitsOk (nameOk _ _ f25_okimpl_UnitsOk) (by kernel_rfl) h
/-! laws.eqIntS -/
noncomputable def E_laws_eqIntS (k : Nat) : Env := ⟨ty, fun g => match g with
  | 37 => some noCon
  | _ => none, fun f r => match f with | 37 => (match r with | 4 => some [0, 1, 5] | _ => none) | _ => none⟩
noncomputable def laws_eqIntS (k : Nat) (a1 : List Int) (a2 : List Int) : Option (Bool) :=
  abody (E_laws_eqIntS k) (arun Try.prog (E_laws_eqIntS k) k) k 37 Try.f37 [.tv (.row (.int .i64)) a1, .tv (.row (.int .i64)) a2] [] (fin1 .bool)
noncomputable def laws_eqIntS.l4 (k n : Nat) (x0 : List Int) (x1 : List Int) (x5 : Int) : Option (Bool) :=
  resume (E_laws_eqIntS k) 37 (acall (E_laws_eqIntS k) (arun Try.prog (E_laws_eqIntS k) k)) k [true, true, false, true, true] [n] (bodyOf Try.f37) ⟨[.tv (.row (.int .i64)) x0, .tv (.row (.int .i64)) x1, .undef, .undef, .undef, .int .i64 x5, .undef, .undef, .undef, .undef, .undef, .undef, .undef, .undef, .undef, .undef, .undef, .undef, .undef, .undef, .undef, .undef, .undef, .undef, .undef, .undef], []⟩ (leave (E_laws_eqIntS k) Try.f37 (fin1 .bool))
theorem laws_eqIntS.l4_0 (k : Nat) (x0 : List Int) (x1 : List Int) (x5 : Int) : laws_eqIntS.l4 k 0 x0 x1 x5 = none := by kernel_rfl
theorem laws_eqIntS.l4_s (k n : Nat) (x0 : List Int) (x1 : List Int) (x5 : Int) : laws_eqIntS.l4 k (n + 1) x0 x1 x5 =
  iteB (decide (x5 < ((List.length x0) : Int))) (iteB (decide (0 ≤ x5)) (iteB (decide (x5 < ((List.length x0) : Int))) (iteB (decide (0 ≤ x5)) (iteB (decide (x5 < ((List.length x1) : Int))) (iteB ((List.getD x0 (Int.toNat x5) 0) != (List.getD x1 (Int.toNat x5) 0)) (some false) (laws_eqIntS.l4 k n x0 x1 (IntKind.wrap .i64 (x5 + 1)))) (none)) (none)) (none)) (none)) (some true) := by kernel_rfl
theorem laws_eqIntS_e (k : Nat) (a1 : List Int) (a2 : List Int) : laws_eqIntS k a1 a2 =
  iteB (((List.length a1) : Int) != ((List.length a2) : Int)) (some false) (laws_eqIntS.l4 k k a1 a2 0) := by kernel_rfl
theorem E_laws_eqIntS_calls (k : Nat) : CallsOk Try.prog (E_laws_eqIntS k) (arun Try.prog (E_laws_eqIntS k) k) := by
  refine told_run (tyTOk _ _) ?_ (fun run h => regOk (tyTOk _ _) mixOk h) ?_ nameOk k
  · intro g m hg
    simp only [E_laws_eqIntS] at hg
    split at hg
    · cases hg; exact noCon_ok
    · cases hg
  · intro g hg r
    by_cases h : g = 37
    · subst h; simp [E_laws_eqIntS] at hg
    · simp [E_laws_eqIntS, h]
theorem f37_oklaws_eqIntS : Try.prog.funcs[37]? = some Try.f37 := by kernel_rfl
theorem laws_eqIntS_law (k : Nat) (a1 : List Int) (a2 : List Int) (x : Bool) (h : laws_eqIntS k a1 a2 = some x) : LawV Try.prog 37 [.tv (.row (.int .i64)) a1, .tv (.row (.int .i64)) a2] (tvn .bool x) := by
  unfold laws_eqIntS at h
  exact law1 (t := .bool) (tyTOk _ _) (E_laws_eqIntS_calls k) mixOk f37_oklaws_eqIntS (nameOk _ _ f37_oklaws_eqIntS) (by kernel_rfl) h
/-! laws.eqTac -/
noncomputable def E_laws_eqTac (k : Nat) : Env := ⟨ty, fun g => match g with
  | 37 => some (byVal fun ρ l K => match l with
    | [b1, b2] => (b1.as (.row (.int .i64))).bind fun c1 => (b2.as (.row (.int .i64))).bind fun c2 => (laws_eqIntS k c1 c2).bind fun r => K (tvn .bool r)
    | _ => none)
  | _ => none, fun _ _ => none⟩
noncomputable def laws_eqTac (k : Nat) (a1 : Int × Int × Int × Int × Int × ByteArray × (List Int) × Unit) (a2 : Int × Int × Int × Int × Int × ByteArray × (List Int) × Unit) : Option (Bool) :=
  abody (E_laws_eqTac k) (arun Try.prog (E_laws_eqTac k) k) k 167 Try.f167 [.tv (.pair (.int .i64) (.pair (.int .i64) (.pair (.int .i64) (.pair (.int .i64) (.pair (.int .i64) (.pair .str (.pair (.row (.int .i64)) .unit))))))) a1, .tv (.pair (.int .i64) (.pair (.int .i64) (.pair (.int .i64) (.pair (.int .i64) (.pair (.int .i64) (.pair .str (.pair (.row (.int .i64)) .unit))))))) a2] [] (fin1 .bool)
theorem laws_eqTac_e (k : Nat) (a1 : Int × Int × Int × Int × Int × ByteArray × (List Int) × Unit) (a2 : Int × Int × Int × Int × Int × ByteArray × (List Int) × Unit) : laws_eqTac k a1 a2 =
  iteB (a1.1 != a2.1) (some false) (iteB (a1.2.1 != a2.2.1) (some false) (iteB (a1.2.2.1 != a2.2.2.1) (some false) (iteB (a1.2.2.2.1 != a2.2.2.2.1) (some false) (iteB (a1.2.2.2.2.1 != a2.2.2.2.2.1) (some false) (iteB (!(ByteArray.toList a1.2.2.2.2.2.1 == ByteArray.toList a2.2.2.2.2.2.1)) (some false) (bindO (laws_eqIntS k a1.2.2.2.2.2.2.1 a2.2.2.2.2.2.2.1) fun r1 => (iteB (!r1) (some false) (some true)))))))) := by kernel_rfl
theorem E_laws_eqTac_calls (k : Nat) : CallsOk Try.prog (E_laws_eqTac k) (arun Try.prog (E_laws_eqTac k) k) := by
  refine told_run (tyTOk _ _) ?_ (fun run h => regOk (tyTOk _ _) mixOk h) ?_ nameOk k
  · intro g m hg
    simp only [E_laws_eqTac] at hg
    split at hg
    · cases hg
      refine con_byVal fun ρ l K x hm => ?_
      split at hm
      · obtain ⟨c1, h1, hm⟩ := Option.bind_eq_some_iff.1 hm
        obtain ⟨c2, h2, hm⟩ := Option.bind_eq_some_iff.1 hm
        obtain ⟨r, hr, hm⟩ := Option.bind_eq_some_iff.1 hm
        exact ⟨_, hm, LawV.reads (.cons (.as h1) (.cons (.as h2) .nil)) (laws_eqIntS_law k c1 c2 r hr)⟩
      · cases hm
    · cases hg
  · intro g _ r; rfl
theorem f167_oklaws_eqTac : Try.prog.funcs[167]? = some Try.f167 := by kernel_rfl
theorem laws_eqTac_law (k : Nat) (a1 : Int × Int × Int × Int × Int × ByteArray × (List Int) × Unit) (a2 : Int × Int × Int × Int × Int × ByteArray × (List Int) × Unit) (x : Bool) (h : laws_eqTac k a1 a2 = some x) : LawV Try.prog 167 [.tv (.pair (.int .i64) (.pair (.int .i64) (.pair (.int .i64) (.pair (.int .i64) (.pair (.int .i64) (.pair .str (.pair (.row (.int .i64)) .unit))))))) a1, .tv (.pair (.int .i64) (.pair (.int .i64) (.pair (.int .i64) (.pair (.int .i64) (.pair (.int .i64) (.pair .str (.pair (.row (.int .i64)) .unit))))))) a2] (tvn .bool x) := by
  unfold laws_eqTac at h
  exact law1 (t := .bool) (tyTOk _ _) (E_laws_eqTac_calls k) mixOk f167_oklaws_eqTac (nameOk _ _ f167_oklaws_eqTac) (by kernel_rfl) h
/-! laws.eqTacS -/
noncomputable def E_laws_eqTacS (k : Nat) : Env := ⟨ty, fun g => match g with
  | 167 => some (byVal fun ρ l K => match l with
    | [b1, b2] => (b1.as (.pair (.int .i64) (.pair (.int .i64) (.pair (.int .i64) (.pair (.int .i64) (.pair (.int .i64) (.pair .str (.pair (.row (.int .i64)) .unit)))))))).bind fun c1 => (b2.as (.pair (.int .i64) (.pair (.int .i64) (.pair (.int .i64) (.pair (.int .i64) (.pair (.int .i64) (.pair .str (.pair (.row (.int .i64)) .unit)))))))).bind fun c2 => (laws_eqTac k c1 c2).bind fun r => K (tvn .bool r)
    | _ => none)
  | 100 => some noCon
  | _ => none, fun f r => match f with | 100 => (match r with | 4 => some [0, 1, 5] | _ => none) | _ => none⟩
noncomputable def laws_eqTacS (k : Nat) (a1 : List (Int × Int × Int × Int × Int × ByteArray × (List Int) × Unit)) (a2 : List (Int × Int × Int × Int × Int × ByteArray × (List Int) × Unit)) : Option (Bool) :=
  abody (E_laws_eqTacS k) (arun Try.prog (E_laws_eqTacS k) k) k 100 Try.f100 [.tv (.row (.pair (.int .i64) (.pair (.int .i64) (.pair (.int .i64) (.pair (.int .i64) (.pair (.int .i64) (.pair .str (.pair (.row (.int .i64)) .unit)))))))) a1, .tv (.row (.pair (.int .i64) (.pair (.int .i64) (.pair (.int .i64) (.pair (.int .i64) (.pair (.int .i64) (.pair .str (.pair (.row (.int .i64)) .unit)))))))) a2] [] (fin1 .bool)
noncomputable def laws_eqTacS.l4 (k n : Nat) (x0 : List (Int × Int × Int × Int × Int × ByteArray × (List Int) × Unit)) (x1 : List (Int × Int × Int × Int × Int × ByteArray × (List Int) × Unit)) (x5 : Int) : Option (Bool) :=
  resume (E_laws_eqTacS k) 100 (acall (E_laws_eqTacS k) (arun Try.prog (E_laws_eqTacS k) k)) k [true, true, false, true, true] [n] (bodyOf Try.f100) ⟨[.tv (.row (.pair (.int .i64) (.pair (.int .i64) (.pair (.int .i64) (.pair (.int .i64) (.pair (.int .i64) (.pair .str (.pair (.row (.int .i64)) .unit)))))))) x0, .tv (.row (.pair (.int .i64) (.pair (.int .i64) (.pair (.int .i64) (.pair (.int .i64) (.pair (.int .i64) (.pair .str (.pair (.row (.int .i64)) .unit)))))))) x1, .undef, .undef, .undef, .int .i64 x5, .undef, .undef, .undef, .undef, .undef, .undef, .undef, .undef, .undef, .undef, .undef, .undef, .undef, .undef, .undef, .undef, .undef, .undef, .undef, .undef, .undef], []⟩ (leave (E_laws_eqTacS k) Try.f100 (fin1 .bool))
theorem laws_eqTacS.l4_0 (k : Nat) (x0 : List (Int × Int × Int × Int × Int × ByteArray × (List Int) × Unit)) (x1 : List (Int × Int × Int × Int × Int × ByteArray × (List Int) × Unit)) (x5 : Int) : laws_eqTacS.l4 k 0 x0 x1 x5 = none := by kernel_rfl
theorem laws_eqTacS.l4_s (k n : Nat) (x0 : List (Int × Int × Int × Int × Int × ByteArray × (List Int) × Unit)) (x1 : List (Int × Int × Int × Int × Int × ByteArray × (List Int) × Unit)) (x5 : Int) : laws_eqTacS.l4 k (n + 1) x0 x1 x5 =
  iteB (decide (x5 < ((List.length x0) : Int))) (iteB (decide (0 ≤ x5)) (iteB (decide (x5 < ((List.length x0) : Int))) (iteB (decide (0 ≤ x5)) (iteB (decide (x5 < ((List.length x1) : Int))) (bindO (laws_eqTac k (List.getD x0 (Int.toNat x5) (Ty.dflt (.pair (.int .i64) (.pair (.int .i64) (.pair (.int .i64) (.pair (.int .i64) (.pair (.int .i64) (.pair .str (.pair (.row (.int .i64)) .unit))))))))) (List.getD x1 (Int.toNat x5) (Ty.dflt (.pair (.int .i64) (.pair (.int .i64) (.pair (.int .i64) (.pair (.int .i64) (.pair (.int .i64) (.pair .str (.pair (.row (.int .i64)) .unit)))))))))) fun r1 => (iteB (!r1) (some false) (laws_eqTacS.l4 k n x0 x1 (IntKind.wrap .i64 (x5 + 1))))) (none)) (none)) (none)) (none)) (some true) := by kernel_rfl
theorem laws_eqTacS_e (k : Nat) (a1 : List (Int × Int × Int × Int × Int × ByteArray × (List Int) × Unit)) (a2 : List (Int × Int × Int × Int × Int × ByteArray × (List Int) × Unit)) : laws_eqTacS k a1 a2 =
  iteB (((List.length a1) : Int) != ((List.length a2) : Int)) (some false) (laws_eqTacS.l4 k k a1 a2 0) := by kernel_rfl
theorem E_laws_eqTacS_calls (k : Nat) : CallsOk Try.prog (E_laws_eqTacS k) (arun Try.prog (E_laws_eqTacS k) k) := by
  refine told_run (tyTOk _ _) ?_ (fun run h => regOk (tyTOk _ _) mixOk h) ?_ nameOk k
  · intro g m hg
    simp only [E_laws_eqTacS] at hg
    split at hg
    · cases hg
      refine con_byVal fun ρ l K x hm => ?_
      split at hm
      · obtain ⟨c1, h1, hm⟩ := Option.bind_eq_some_iff.1 hm
        obtain ⟨c2, h2, hm⟩ := Option.bind_eq_some_iff.1 hm
        obtain ⟨r, hr, hm⟩ := Option.bind_eq_some_iff.1 hm
        exact ⟨_, hm, LawV.reads (.cons (.as h1) (.cons (.as h2) .nil)) (laws_eqTac_law k c1 c2 r hr)⟩
      · cases hm
    · cases hg; exact noCon_ok
    · cases hg
  · intro g hg r
    by_cases h : g = 100
    · subst h; simp [E_laws_eqTacS] at hg
    · simp [E_laws_eqTacS, h]
theorem f100_oklaws_eqTacS : Try.prog.funcs[100]? = some Try.f100 := by kernel_rfl
theorem laws_eqTacS_law (k : Nat) (a1 : List (Int × Int × Int × Int × Int × ByteArray × (List Int) × Unit)) (a2 : List (Int × Int × Int × Int × Int × ByteArray × (List Int) × Unit)) (x : Bool) (h : laws_eqTacS k a1 a2 = some x) : LawV Try.prog 100 [.tv (.row (.pair (.int .i64) (.pair (.int .i64) (.pair (.int .i64) (.pair (.int .i64) (.pair (.int .i64) (.pair .str (.pair (.row (.int .i64)) .unit)))))))) a1, .tv (.row (.pair (.int .i64) (.pair (.int .i64) (.pair (.int .i64) (.pair (.int .i64) (.pair (.int .i64) (.pair .str (.pair (.row (.int .i64)) .unit)))))))) a2] (tvn .bool x) := by
  unfold laws_eqTacS at h
  exact law1 (t := .bool) (tyTOk _ _) (E_laws_eqTacS_calls k) mixOk f100_oklaws_eqTacS (nameOk _ _ f100_oklaws_eqTacS) (by kernel_rfl) h
/-! laws.eqUnit -/
noncomputable def E_laws_eqUnit (k : Nat) : Env := ⟨ty, fun g => match g with
  | 100 => some (byVal fun ρ l K => match l with
    | [b1, b2] => (b1.as (.row (.pair (.int .i64) (.pair (.int .i64) (.pair (.int .i64) (.pair (.int .i64) (.pair (.int .i64) (.pair .str (.pair (.row (.int .i64)) .unit))))))))).bind fun c1 => (b2.as (.row (.pair (.int .i64) (.pair (.int .i64) (.pair (.int .i64) (.pair (.int .i64) (.pair (.int .i64) (.pair .str (.pair (.row (.int .i64)) .unit))))))))).bind fun c2 => (laws_eqTacS k c1 c2).bind fun r => K (tvn .bool r)
    | _ => none)
  | _ => none, fun _ _ => none⟩
noncomputable def laws_eqUnit (k : Nat) (a1 : ByteArray × Int × Int × (List (Int × Int × Int × Int × Int × ByteArray × (List Int) × Unit)) × Unit) (a2 : ByteArray × Int × Int × (List (Int × Int × Int × Int × Int × ByteArray × (List Int) × Unit)) × Unit) : Option (Bool) :=
  abody (E_laws_eqUnit k) (arun Try.prog (E_laws_eqUnit k) k) k 21 Try.f21 [.tv (.pair .str (.pair (.int .i64) (.pair (.int .i64) (.pair (.row (.pair (.int .i64) (.pair (.int .i64) (.pair (.int .i64) (.pair (.int .i64) (.pair (.int .i64) (.pair .str (.pair (.row (.int .i64)) .unit)))))))) .unit)))) a1, .tv (.pair .str (.pair (.int .i64) (.pair (.int .i64) (.pair (.row (.pair (.int .i64) (.pair (.int .i64) (.pair (.int .i64) (.pair (.int .i64) (.pair (.int .i64) (.pair .str (.pair (.row (.int .i64)) .unit)))))))) .unit)))) a2] [] (fin1 .bool)
theorem laws_eqUnit_e (k : Nat) (a1 : ByteArray × Int × Int × (List (Int × Int × Int × Int × Int × ByteArray × (List Int) × Unit)) × Unit) (a2 : ByteArray × Int × Int × (List (Int × Int × Int × Int × Int × ByteArray × (List Int) × Unit)) × Unit) : laws_eqUnit k a1 a2 =
  iteB (!(ByteArray.toList a1.1 == ByteArray.toList a2.1)) (some false) (iteB (a1.2.1 != a2.2.1) (some false) (iteB (a1.2.2.1 != a2.2.2.1) (some false) (bindO (laws_eqTacS k a1.2.2.2.1 a2.2.2.2.1) fun r1 => (iteB (!r1) (some false) (some true))))) := by kernel_rfl
theorem E_laws_eqUnit_calls (k : Nat) : CallsOk Try.prog (E_laws_eqUnit k) (arun Try.prog (E_laws_eqUnit k) k) := by
  refine told_run (tyTOk _ _) ?_ (fun run h => regOk (tyTOk _ _) mixOk h) ?_ nameOk k
  · intro g m hg
    simp only [E_laws_eqUnit] at hg
    split at hg
    · cases hg
      refine con_byVal fun ρ l K x hm => ?_
      split at hm
      · obtain ⟨c1, h1, hm⟩ := Option.bind_eq_some_iff.1 hm
        obtain ⟨c2, h2, hm⟩ := Option.bind_eq_some_iff.1 hm
        obtain ⟨r, hr, hm⟩ := Option.bind_eq_some_iff.1 hm
        exact ⟨_, hm, LawV.reads (.cons (.as h1) (.cons (.as h2) .nil)) (laws_eqTacS_law k c1 c2 r hr)⟩
      · cases hm
    · cases hg
  · intro g _ r; rfl
theorem f21_oklaws_eqUnit : Try.prog.funcs[21]? = some Try.f21 := by kernel_rfl
theorem laws_eqUnit_law (k : Nat) (a1 : ByteArray × Int × Int × (List (Int × Int × Int × Int × Int × ByteArray × (List Int) × Unit)) × Unit) (a2 : ByteArray × Int × Int × (List (Int × Int × Int × Int × Int × ByteArray × (List Int) × Unit)) × Unit) (x : Bool) (h : laws_eqUnit k a1 a2 = some x) : LawV Try.prog 21 [.tv (.pair .str (.pair (.int .i64) (.pair (.int .i64) (.pair (.row (.pair (.int .i64) (.pair (.int .i64) (.pair (.int .i64) (.pair (.int .i64) (.pair (.int .i64) (.pair .str (.pair (.row (.int .i64)) .unit)))))))) .unit)))) a1, .tv (.pair .str (.pair (.int .i64) (.pair (.int .i64) (.pair (.row (.pair (.int .i64) (.pair (.int .i64) (.pair (.int .i64) (.pair (.int .i64) (.pair (.int .i64) (.pair .str (.pair (.row (.int .i64)) .unit)))))))) .unit)))) a2] (tvn .bool x) := by
  unfold laws_eqUnit at h
  exact law1 (t := .bool) (tyTOk _ _) (E_laws_eqUnit_calls k) mixOk f21_oklaws_eqUnit (nameOk _ _ f21_oklaws_eqUnit) (by kernel_rfl) h
/-! laws.eqUnitS -/
noncomputable def E_laws_eqUnitS (k : Nat) : Env := ⟨ty, fun g => match g with
  | 21 => some (byVal fun ρ l K => match l with
    | [b1, b2] => (b1.as (.pair .str (.pair (.int .i64) (.pair (.int .i64) (.pair (.row (.pair (.int .i64) (.pair (.int .i64) (.pair (.int .i64) (.pair (.int .i64) (.pair (.int .i64) (.pair .str (.pair (.row (.int .i64)) .unit)))))))) .unit))))).bind fun c1 => (b2.as (.pair .str (.pair (.int .i64) (.pair (.int .i64) (.pair (.row (.pair (.int .i64) (.pair (.int .i64) (.pair (.int .i64) (.pair (.int .i64) (.pair (.int .i64) (.pair .str (.pair (.row (.int .i64)) .unit)))))))) .unit))))).bind fun c2 => (laws_eqUnit k c1 c2).bind fun r => K (tvn .bool r)
    | _ => none)
  | 26 => some noCon
  | _ => none, fun f r => match f with | 26 => (match r with | 4 => some [0, 1, 5] | _ => none) | _ => none⟩
noncomputable def laws_eqUnitS (k : Nat) (a1 : List (ByteArray × Int × Int × (List (Int × Int × Int × Int × Int × ByteArray × (List Int) × Unit)) × Unit)) (a2 : List (ByteArray × Int × Int × (List (Int × Int × Int × Int × Int × ByteArray × (List Int) × Unit)) × Unit)) : Option (Bool) :=
  abody (E_laws_eqUnitS k) (arun Try.prog (E_laws_eqUnitS k) k) k 26 Try.f26 [.tv (.row (.pair .str (.pair (.int .i64) (.pair (.int .i64) (.pair (.row (.pair (.int .i64) (.pair (.int .i64) (.pair (.int .i64) (.pair (.int .i64) (.pair (.int .i64) (.pair .str (.pair (.row (.int .i64)) .unit)))))))) .unit))))) a1, .tv (.row (.pair .str (.pair (.int .i64) (.pair (.int .i64) (.pair (.row (.pair (.int .i64) (.pair (.int .i64) (.pair (.int .i64) (.pair (.int .i64) (.pair (.int .i64) (.pair .str (.pair (.row (.int .i64)) .unit)))))))) .unit))))) a2] [] (fin1 .bool)
noncomputable def laws_eqUnitS.l4 (k n : Nat) (x0 : List (ByteArray × Int × Int × (List (Int × Int × Int × Int × Int × ByteArray × (List Int) × Unit)) × Unit)) (x1 : List (ByteArray × Int × Int × (List (Int × Int × Int × Int × Int × ByteArray × (List Int) × Unit)) × Unit)) (x5 : Int) : Option (Bool) :=
  resume (E_laws_eqUnitS k) 26 (acall (E_laws_eqUnitS k) (arun Try.prog (E_laws_eqUnitS k) k)) k [true, true, false, true, true] [n] (bodyOf Try.f26) ⟨[.tv (.row (.pair .str (.pair (.int .i64) (.pair (.int .i64) (.pair (.row (.pair (.int .i64) (.pair (.int .i64) (.pair (.int .i64) (.pair (.int .i64) (.pair (.int .i64) (.pair .str (.pair (.row (.int .i64)) .unit)))))))) .unit))))) x0, .tv (.row (.pair .str (.pair (.int .i64) (.pair (.int .i64) (.pair (.row (.pair (.int .i64) (.pair (.int .i64) (.pair (.int .i64) (.pair (.int .i64) (.pair (.int .i64) (.pair .str (.pair (.row (.int .i64)) .unit)))))))) .unit))))) x1, .undef, .undef, .undef, .int .i64 x5, .undef, .undef, .undef, .undef, .undef, .undef, .undef, .undef, .undef, .undef, .undef, .undef, .undef, .undef, .undef, .undef, .undef, .undef, .undef, .undef, .undef], []⟩ (leave (E_laws_eqUnitS k) Try.f26 (fin1 .bool))
theorem laws_eqUnitS.l4_0 (k : Nat) (x0 : List (ByteArray × Int × Int × (List (Int × Int × Int × Int × Int × ByteArray × (List Int) × Unit)) × Unit)) (x1 : List (ByteArray × Int × Int × (List (Int × Int × Int × Int × Int × ByteArray × (List Int) × Unit)) × Unit)) (x5 : Int) : laws_eqUnitS.l4 k 0 x0 x1 x5 = none := by kernel_rfl
theorem laws_eqUnitS.l4_s (k n : Nat) (x0 : List (ByteArray × Int × Int × (List (Int × Int × Int × Int × Int × ByteArray × (List Int) × Unit)) × Unit)) (x1 : List (ByteArray × Int × Int × (List (Int × Int × Int × Int × Int × ByteArray × (List Int) × Unit)) × Unit)) (x5 : Int) : laws_eqUnitS.l4 k (n + 1) x0 x1 x5 =
  iteB (decide (x5 < ((List.length x0) : Int))) (iteB (decide (0 ≤ x5)) (iteB (decide (x5 < ((List.length x0) : Int))) (iteB (decide (0 ≤ x5)) (iteB (decide (x5 < ((List.length x1) : Int))) (bindO (laws_eqUnit k (List.getD x0 (Int.toNat x5) (Ty.dflt (.pair .str (.pair (.int .i64) (.pair (.int .i64) (.pair (.row (.pair (.int .i64) (.pair (.int .i64) (.pair (.int .i64) (.pair (.int .i64) (.pair (.int .i64) (.pair .str (.pair (.row (.int .i64)) .unit)))))))) .unit)))))) (List.getD x1 (Int.toNat x5) (Ty.dflt (.pair .str (.pair (.int .i64) (.pair (.int .i64) (.pair (.row (.pair (.int .i64) (.pair (.int .i64) (.pair (.int .i64) (.pair (.int .i64) (.pair (.int .i64) (.pair .str (.pair (.row (.int .i64)) .unit)))))))) .unit))))))) fun r1 => (iteB (!r1) (some false) (laws_eqUnitS.l4 k n x0 x1 (IntKind.wrap .i64 (x5 + 1))))) (none)) (none)) (none)) (none)) (some true) := by kernel_rfl
theorem laws_eqUnitS_e (k : Nat) (a1 : List (ByteArray × Int × Int × (List (Int × Int × Int × Int × Int × ByteArray × (List Int) × Unit)) × Unit)) (a2 : List (ByteArray × Int × Int × (List (Int × Int × Int × Int × Int × ByteArray × (List Int) × Unit)) × Unit)) : laws_eqUnitS k a1 a2 =
  iteB (((List.length a1) : Int) != ((List.length a2) : Int)) (some false) (laws_eqUnitS.l4 k k a1 a2 0) := by kernel_rfl
theorem E_laws_eqUnitS_calls (k : Nat) : CallsOk Try.prog (E_laws_eqUnitS k) (arun Try.prog (E_laws_eqUnitS k) k) := by
  refine told_run (tyTOk _ _) ?_ (fun run h => regOk (tyTOk _ _) mixOk h) ?_ nameOk k
  · intro g m hg
    simp only [E_laws_eqUnitS] at hg
    split at hg
    · cases hg
      refine con_byVal fun ρ l K x hm => ?_
      split at hm
      · obtain ⟨c1, h1, hm⟩ := Option.bind_eq_some_iff.1 hm
        obtain ⟨c2, h2, hm⟩ := Option.bind_eq_some_iff.1 hm
        obtain ⟨r, hr, hm⟩ := Option.bind_eq_some_iff.1 hm
        exact ⟨_, hm, LawV.reads (.cons (.as h1) (.cons (.as h2) .nil)) (laws_eqUnit_law k c1 c2 r hr)⟩
      · cases hm
    · cases hg; exact noCon_ok
    · cases hg
  · intro g hg r
    by_cases h : g = 26
    · subst h; simp [E_laws_eqUnitS] at hg
    · simp [E_laws_eqUnitS, h]
theorem f26_oklaws_eqUnitS : Try.prog.funcs[26]? = some Try.f26 := by kernel_rfl
theorem laws_eqUnitS_law (k : Nat) (a1 : List (ByteArray × Int × Int × (List (Int × Int × Int × Int × Int × ByteArray × (List Int) × Unit)) × Unit)) (a2 : List (ByteArray × Int × Int × (List (Int × Int × Int × Int × Int × ByteArray × (List Int) × Unit)) × Unit)) (x : Bool) (h : laws_eqUnitS k a1 a2 = some x) : LawV Try.prog 26 [.tv (.row (.pair .str (.pair (.int .i64) (.pair (.int .i64) (.pair (.row (.pair (.int .i64) (.pair (.int .i64) (.pair (.int .i64) (.pair (.int .i64) (.pair (.int .i64) (.pair .str (.pair (.row (.int .i64)) .unit)))))))) .unit))))) a1, .tv (.row (.pair .str (.pair (.int .i64) (.pair (.int .i64) (.pair (.row (.pair (.int .i64) (.pair (.int .i64) (.pair (.int .i64) (.pair (.int .i64) (.pair (.int .i64) (.pair .str (.pair (.row (.int .i64)) .unit)))))))) .unit))))) a2] (tvn .bool x) := by
  unfold laws_eqUnitS at h
  exact law1 (t := .bool) (tyTOk _ _) (E_laws_eqUnitS_calls k) mixOk f26_oklaws_eqUnitS (nameOk _ _ f26_oklaws_eqUnitS) (by kernel_rfl) h
end Go.Proofs.Ytapijpjgfpjahaa.XFnExactUnitsOk
