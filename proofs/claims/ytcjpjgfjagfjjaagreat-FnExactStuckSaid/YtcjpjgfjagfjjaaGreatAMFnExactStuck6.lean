/- Functions of the program as runs of the interpreter: equations, and a law for each. -/
import Derived.Test.YtcjpjgfjagfjjaaGreatProg
import Derived.Test.YtcjpjgfjagfjjaaGreatChecked
import Derived.KernelRfl
import Derived.Eval
import Derived.Test.YtcjpjgfjagfjjaaGreatATyOk
import Derived.Test.YtcjpjgfjagfjjaaGreatAS38
import Derived.Test.YtcjpjgfjagfjjaaGreatAMFnExactStuck0
import Derived.Test.YtcjpjgfjagfjjaaGreatAMFnExactStuck1
import Derived.Test.YtcjpjgfjagfjjaaGreatAMFnExactStuck3
import Derived.Test.YtcjpjgfjagfjjaaGreatAMFnExactStuck5
open Go Go.AM Go.AMx Go.Proofs
namespace Go.Proofs.YtcjpjgfjagfjjaaGreat.XFnExactStuck
set_option linter.unusedVariables false
set_option linter.unusedSimpArgs false
/-! laws.eqTac -/
noncomputable def E_laws_eqTac (k : Nat) : Env := ⟨ty, fun g => match g with
  | 24 => some (byVal fun ρ l K => match l with
    | [b1, b2] => (b1.as (.row (.int .i64))).bind fun c1 => (b2.as (.row (.int .i64))).bind fun c2 => (laws_eqIntS k c1 c2).bind fun r => K (tvn .bool r)
    | _ => none)
  | _ => none, fun _ _ => none⟩
noncomputable def laws_eqTac (k : Nat) (a1 : Int × Int × Int × Int × Int × ByteArray × (List Int) × Unit) (a2 : Int × Int × Int × Int × Int × ByteArray × (List Int) × Unit) : Option (Bool) :=
  abody (E_laws_eqTac k) (arun Tryz.prog (E_laws_eqTac k) k) k 94 Tryz.f94 [.tv (.pair (.int .i64) (.pair (.int .i64) (.pair (.int .i64) (.pair (.int .i64) (.pair (.int .i64) (.pair .str (.pair (.row (.int .i64)) .unit))))))) a1, .tv (.pair (.int .i64) (.pair (.int .i64) (.pair (.int .i64) (.pair (.int .i64) (.pair (.int .i64) (.pair .str (.pair (.row (.int .i64)) .unit))))))) a2] [] (fin1 .bool)
theorem laws_eqTac_e (k : Nat) (a1 : Int × Int × Int × Int × Int × ByteArray × (List Int) × Unit) (a2 : Int × Int × Int × Int × Int × ByteArray × (List Int) × Unit) : laws_eqTac k a1 a2 =
  iteB (a1.1 != a2.1) (some false) (iteB (a1.2.1 != a2.2.1) (some false) (iteB (a1.2.2.1 != a2.2.2.1) (some false) (iteB (a1.2.2.2.1 != a2.2.2.2.1) (some false) (iteB (a1.2.2.2.2.1 != a2.2.2.2.2.1) (some false) (iteB (!(ByteArray.toList a1.2.2.2.2.2.1 == ByteArray.toList a2.2.2.2.2.2.1)) (some false) (bindO (laws_eqIntS k a1.2.2.2.2.2.2.1 a2.2.2.2.2.2.2.1) fun r1 => (iteB (!r1) (some false) (some true)))))))) := by kernel_rfl
theorem E_laws_eqTac_calls (k : Nat) : CallsOk Tryz.prog (E_laws_eqTac k) (arun Tryz.prog (E_laws_eqTac k) k) := by
  refine told_run (tyTOk _ _) ?_ (fun run h => regOk (tyTOk _ _) mixOk h) ?_ nameOk k
  · intro g m hg
    simp only [E_laws_eqTac] at hg
    split at hg
    · cases hg
      refine con_byVal fun ρ l K x hm => ?_
      split at hm
      · obtain ⟨c1, h1, hm⟩ := Option.bind_eq_some_iff.1 hm
        obtain ⟨c2, h2, hm⟩ := Option.bind_eq_some_iff.1 hm
        obtain ⟨r, hr, hm⟩ := Option.bind_eq_some_iff.1 hm
        exact ⟨_, hm, LawV.reads (.cons (.as h1) (.cons (.as h2) .nil)) (laws_eqIntS_law k c1 c2 r hr)⟩
      · cases hm
    · cases hg
  · intro g _ r; rfl
theorem f94_oklaws_eqTac : Tryz.prog.funcs[94]? = some Tryz.f94 := by kernel_rfl
theorem laws_eqTac_law (k : Nat) (a1 : Int × Int × Int × Int × Int × ByteArray × (List Int) × Unit) (a2 : Int × Int × Int × Int × Int × ByteArray × (List Int) × Unit) (x : Bool) (h : laws_eqTac k a1 a2 = some x) : LawV Tryz.prog 94 [.tv (.pair (.int .i64) (.pair (.int .i64) (.pair (.int .i64) (.pair (.int .i64) (.pair (.int .i64) (.pair .str (.pair (.row (.int .i64)) .unit))))))) a1, .tv (.pair (.int .i64) (.pair (.int .i64) (.pair (.int .i64) (.pair (.int .i64) (.pair (.int .i64) (.pair .str (.pair (.row (.int .i64)) .unit))))))) a2] (tvn .bool x) := by
  unfold laws_eqTac at h
  exact law1 (t := .bool) (tyTOk _ _) (E_laws_eqTac_calls k) mixOk f94_oklaws_eqTac (nameOk _ _ f94_oklaws_eqTac) (by kernel_rfl) h
/-! laws.eqTacS -/
noncomputable def E_laws_eqTacS (k : Nat) : Env := ⟨ty, fun g => match g with
  | 94 => some (byVal fun ρ l K => match l with
    | [b1, b2] => (b1.as (.pair (.int .i64) (.pair (.int .i64) (.pair (.int .i64) (.pair (.int .i64) (.pair (.int .i64) (.pair .str (.pair (.row (.int .i64)) .unit)))))))).bind fun c1 => (b2.as (.pair (.int .i64) (.pair (.int .i64) (.pair (.int .i64) (.pair (.int .i64) (.pair (.int .i64) (.pair .str (.pair (.row (.int .i64)) .unit)))))))).bind fun c2 => (laws_eqTac k c1 c2).bind fun r => K (tvn .bool r)
    | _ => none)
  | 72 => some noCon
  | _ => none, fun f r => match f with | 72 => (match r with | 4 => some [0, 1, 5] | _ => none) | _ => none⟩
noncomputable def laws_eqTacS (k : Nat) (a1 : List (Int × Int × Int × Int × Int × ByteArray × (List Int) × Unit)) (a2 : List (Int × Int × Int × Int × Int × ByteArray × (List Int) × Unit)) : Option (Bool) :=
  abody (E_laws_eqTacS k) (arun Tryz.prog (E_laws_eqTacS k) k) k 72 Tryz.f72 [.tv (.row (.pair (.int .i64) (.pair (.int .i64) (.pair (.int .i64) (.pair (.int .i64) (.pair (.int .i64) (.pair .str (.pair (.row (.int .i64)) .unit)))))))) a1, .tv (.row (.pair (.int .i64) (.pair (.int .i64) (.pair (.int .i64) (.pair (.int .i64) (.pair (.int .i64) (.pair .str (.pair (.row (.int .i64)) .unit)))))))) a2] [] (fin1 .bool)
noncomputable def laws_eqTacS.l4 (k n : Nat) (x0 : List (Int × Int × Int × Int × Int × ByteArray × (List Int) × Unit)) (x1 : List (Int × Int × Int × Int × Int × ByteArray × (List Int) × Unit)) (x5 : Int) : Option (Bool) :=
  resume (E_laws_eqTacS k) 72 (acall (E_laws_eqTacS k) (arun Tryz.prog (E_laws_eqTacS k) k)) k [true, true, false, true, true] [n] (bodyOf Tryz.f72) ⟨[.tv (.row (.pair (.int .i64) (.pair (.int .i64) (.pair (.int .i64) (.pair (.int .i64) (.pair (.int .i64) (.pair .str (.pair (.row (.int .i64)) .unit)))))))) x0, .tv (.row (.pair (.int .i64) (.pair (.int .i64) (.pair (.int .i64) (.pair (.int .i64) (.pair (.int .i64) (.pair .str (.pair (.row (.int .i64)) .unit)))))))) x1, .undef, .undef, .undef, .int .i64 x5, .undef, .undef, .undef, .undef, .undef, .undef, .undef, .undef, .undef, .undef, .undef, .undef, .undef, .undef, .undef, .undef, .undef, .undef, .undef, .undef, .undef], []⟩ (leave (E_laws_eqTacS k) Tryz.f72 (fin1 .bool))
theorem laws_eqTacS.l4_0 (k : Nat) (x0 : List (Int × Int × Int × Int × Int × ByteArray × (List Int) × Unit)) (x1 : List (Int × Int × Int × Int × Int × ByteArray × (List Int) × Unit)) (x5 : Int) : laws_eqTacS.l4 k 0 x0 x1 x5 = none := by kernel_rfl
theorem laws_eqTacS.l4_s (k n : Nat) (x0 : List (Int × Int × Int × Int × Int × ByteArray × (List Int) × Unit)) (x1 : List (Int × Int × Int × Int × Int × ByteArray × (List Int) × Unit)) (x5 : Int) : laws_eqTacS.l4 k (n + 1) x0 x1 x5 =
  iteB (decide (x5 < ((List.length x0) : Int))) (iteB (decide (0 ≤ x5)) (iteB (decide (x5 < ((List.length x0) : Int))) (iteB (decide (0 ≤ x5)) (iteB (decide (x5 < ((List.length x1) : Int))) (bindO (laws_eqTac k (List.getD x0 (Int.toNat x5) (Ty.dflt (.pair (.int .i64) (.pair (.int .i64) (.pair (.int .i64) (.pair (.int .i64) (.pair (.int .i64) (.pair .str (.pair (.row (.int .i64)) .unit))))))))) (List.getD x1 (Int.toNat x5) (Ty.dflt (.pair (.int .i64) (.pair (.int .i64) (.pair (.int .i64) (.pair (.int .i64) (.pair (.int .i64) (.pair .str (.pair (.row (.int .i64)) .unit)))))))))) fun r1 => (iteB (!r1) (some false) (laws_eqTacS.l4 k n x0 x1 (IntKind.wrap .i64 (x5 + 1))))) (none)) (none)) (none)) (none)) (some true) := by kernel_rfl
theorem laws_eqTacS_e (k : Nat) (a1 : List (Int × Int × Int × Int × Int × ByteArray × (List Int) × Unit)) (a2 : List (Int × Int × Int × Int × Int × ByteArray × (List Int) × Unit)) : laws_eqTacS k a1 a2 =
  iteB (((List.length a1) : Int) != ((List.length a2) : Int)) (some false) (laws_eqTacS.l4 k k a1 a2 0) := by kernel_rfl
theorem E_laws_eqTacS_calls (k : Nat) : CallsOk Tryz.prog (E_laws_eqTacS k) (arun Tryz.prog (E_laws_eqTacS k) k) := by
  refine told_run (tyTOk _ _) ?_ (fun run h => regOk (tyTOk _ _) mixOk h) ?_ nameOk k
  · intro g m hg
    simp only [E_laws_eqTacS] at hg
    split at hg
    · cases hg
      refine con_byVal fun ρ l K x hm => ?_
      split at hm
      · obtain ⟨c1, h1, hm⟩ := Option.bind_eq_some_iff.1 hm
        obtain ⟨c2, h2, hm⟩ := Option.bind_eq_some_iff.1 hm
        obtain ⟨r, hr, hm⟩ := Option.bind_eq_some_iff.1 hm
        exact ⟨_, hm, LawV.reads (.cons (.as h1) (.cons (.as h2) .nil)) (laws_eqTac_law k c1 c2 r hr)⟩
      · cases hm
    · cases hg; exact noCon_ok
    · cases hg
  · intro g hg r
    by_cases h : g = 72
    · subst h; simp [E_laws_eqTacS] at hg
    · simp [E_laws_eqTacS, h]
theorem f72_oklaws_eqTacS : Tryz.prog.funcs[72]? = some Tryz.f72 := by kernel_rfl
theorem laws_eqTacS_law (k : Nat) (a1 : List (Int × Int × Int × Int × Int × ByteArray × (List Int) × Unit)) (a2 : List (Int × Int × Int × Int × Int × ByteArray × (List Int) × Unit)) (x : Bool) (h : laws_eqTacS k a1 a2 = some x) : LawV Tryz.prog 72 [.tv (.row (.pair (.int .i64) (.pair (.int .i64) (.pair (.int .i64) (.pair (.int .i64) (.pair (.int .i64) (.pair .str (.pair (.row (.int .i64)) .unit)))))))) a1, .tv (.row (.pair (.int .i64) (.pair (.int .i64) (.pair (.int .i64) (.pair (.int .i64) (.pair (.int .i64) (.pair .str (.pair (.row (.int .i64)) .unit)))))))) a2] (tvn .bool x) := by
  unfold laws_eqTacS at h
  exact law1 (t := .bool) (tyTOk _ _) (E_laws_eqTacS_calls k) mixOk f72_oklaws_eqTacS (nameOk _ _ f72_oklaws_eqTacS) (by kernel_rfl) h
/-! laws.eqUnit -/
noncomputable def E_laws_eqUnit (k : Nat) : Env := ⟨ty, fun g => match g with
  | 72 => some (byVal fun ρ l K => match l with
    | [b1, b2] => (b1.as (.row (.pair (.int .i64) (.pair (.int .i64) (.pair (.int .i64) (.pair (.int .i64) (.pair (.int .i64) (.pair .str (.pair (.row (.int .i64)) .unit))))))))).bind fun c1 => (b2.as (.row (.pair (.int .i64) (.pair (.int .i64) (.pair (.int .i64) (.pair (.int .i64) (.pair (.int .i64) (.pair .str (.pair (.row (.int .i64)) .unit))))))))).bind fun c2 => (laws_eqTacS k c1 c2).bind fun r => K (tvn .bool r)
    | _ => none)
  | _ => none, fun _ _ => none⟩
noncomputable def laws_eqUnit (k : Nat) (a1 : ByteArray × Int × Int × (List (Int × Int × Int × Int × Int × ByteArray × (List Int) × Unit)) × Unit) (a2 : ByteArray × Int × Int × (List (Int × Int × Int × Int × Int × ByteArray × (List Int) × Unit)) × Unit) : Option (Bool) :=
  abody (E_laws_eqUnit k) (arun Tryz.prog (E_laws_eqUnit k) k) k 48 Tryz.f48 [.tv (.pair .str (.pair (.int .i64) (.pair (.int .i64) (.pair (.row (.pair (.int .i64) (.pair (.int .i64) (.pair (.int .i64) (.pair (.int .i64) (.pair (.int .i64) (.pair .str (.pair (.row (.int .i64)) .unit)))))))) .unit)))) a1, .tv (.pair .str (.pair (.int .i64) (.pair (.int .i64) (.pair (.row (.pair (.int .i64) (.pair (.int .i64) (.pair (.int .i64) (.pair (.int .i64) (.pair (.int .i64) (.pair .str (.pair (.row (.int .i64)) .unit)))))))) .unit)))) a2] [] (fin1 .bool)
theorem laws_eqUnit_e (k : Nat) (a1 : ByteArray × Int × Int × (List (Int × Int × Int × Int × Int × ByteArray × (List Int) × Unit)) × Unit) (a2 : ByteArray × Int × Int × (List (Int × Int × Int × Int × Int × ByteArray × (List Int) × Unit)) × Unit) : laws_eqUnit k a1 a2 =
  iteB (!(ByteArray.toList a1.1 == ByteArray.toList a2.1)) (some false) (iteB (a1.2.1 != a2.2.1) (some false) (iteB (a1.2.2.1 != a2.2.2.1) (some false) (bindO (laws_eqTacS k a1.2.2.2.1 a2.2.2.2.1) fun r1 => (iteB (!r1) (some false) (some true))))) := by kernel_rfl
theorem E_laws_eqUnit_calls (k : Nat) : CallsOk Tryz.prog (E_laws_eqUnit k) (arun Tryz.prog (E_laws_eqUnit k) k) := by
  refine told_run (tyTOk _ _) ?_ (fun run h => regOk (tyTOk _ _) mixOk h) ?_ nameOk k
  · intro g m hg
    simp only [E_laws_eqUnit] at hg
    split at hg
    · cases hg
      refine con_byVal fun ρ l K x hm => ?_
      split at hm
      · obtain ⟨c1, h1, hm⟩ := Option.bind_eq_some_iff.1 hm
        obtain ⟨c2, h2, hm⟩ := Option.bind_eq_some_iff.1 hm
        obtain ⟨r, hr, hm⟩ := Option.bind_eq_some_iff.1 hm
        exact ⟨_, hm, LawV.reads (.cons (.as h1) (.cons (.as h2) .nil)) (laws_eqTacS_law k c1 c2 r hr)⟩
      · cases hm
    · cases hg
  · intro g _ r; rfl
theorem f48_oklaws_eqUnit : Tryz.prog.funcs[48]? = some Tryz.f48 := by kernel_rfl
theorem laws_eqUnit_law (k : Nat) (a1 : ByteArray × Int × Int × (List (Int × Int × Int × Int × Int × ByteArray × (List Int) × Unit)) × Unit) (a2 : ByteArray × Int × Int × (List (Int × Int × Int × Int × Int × ByteArray × (List Int) × Unit)) × Unit) (x : Bool) (h : laws_eqUnit k a1 a2 = some x) : LawV Tryz.prog 48 [.tv (.pair .str (.pair (.int .i64) (.pair (.int .i64) (.pair (.row (.pair (.int .i64) (.pair (.int .i64) (.pair (.int .i64) (.pair (.int .i64) (.pair (.int .i64) (.pair .str (.pair (.row (.int .i64)) .unit)))))))) .unit)))) a1, .tv (.pair .str (.pair (.int .i64) (.pair (.int .i64) (.pair (.row (.pair (.int .i64) (.pair (.int .i64) (.pair (.int .i64) (.pair (.int .i64) (.pair (.int .i64) (.pair .str (.pair (.row (.int .i64)) .unit)))))))) .unit)))) a2] (tvn .bool x) := by
  unfold laws_eqUnit at h
  exact law1 (t := .bool) (tyTOk _ _) (E_laws_eqUnit_calls k) mixOk f48_oklaws_eqUnit (nameOk _ _ f48_oklaws_eqUnit) (by kernel_rfl) h
/-! laws.eqUnitS -/
noncomputable def E_laws_eqUnitS (k : Nat) : Env := ⟨ty, fun g => match g with
  | 48 => some (byVal fun ρ l K => match l with
    | [b1, b2] => (b1.as (.pair .str (.pair (.int .i64) (.pair (.int .i64) (.pair (.row (.pair (.int .i64) (.pair (.int .i64) (.pair (.int .i64) (.pair (.int .i64) (.pair (.int .i64) (.pair .str (.pair (.row (.int .i64)) .unit)))))))) .unit))))).bind fun c1 => (b2.as (.pair .str (.pair (.int .i64) (.pair (.int .i64) (.pair (.row (.pair (.int .i64) (.pair (.int .i64) (.pair (.int .i64) (.pair (.int .i64) (.pair (.int .i64) (.pair .str (.pair (.row (.int .i64)) .unit)))))))) .unit))))).bind fun c2 => (laws_eqUnit k c1 c2).bind fun r => K (tvn .bool r)
    | _ => none)
  | 21 => some noCon
  | _ => none, fun f r => match f with | 21 => (match r with | 4 => some [0, 1, 5] | _ => none) | _ => none⟩
noncomputable def laws_eqUnitS (k : Nat) (a1 : List (ByteArray × Int × Int × (List (Int × Int × Int × Int × Int × ByteArray × (List Int) × Unit)) × Unit)) (a2 : List (ByteArray × Int × Int × (List (Int × Int × Int × Int × Int × ByteArray × (List Int) × Unit)) × Unit)) : Option (Bool) :=
  abody (E_laws_eqUnitS k) (arun Tryz.prog (E_laws_eqUnitS k) k) k 21 Tryz.f21 [.tv (.row (.pair .str (.pair (.int .i64) (.pair (.int .i64) (.pair (.row (.pair (.int .i64) (.pair (.int .i64) (.pair (.int .i64) (.pair (.int .i64) (.pair (.int .i64) (.pair .str (.pair (.row (.int .i64)) .unit)))))))) .unit))))) a1, .tv (.row (.pair .str (.pair (.int .i64) (.pair (.int .i64) (.pair (.row (.pair (.int .i64) (.pair (.int .i64) (.pair (.int .i64) (.pair (.int .i64) (.pair (.int .i64) (.pair .str (.pair (.row (.int .i64)) .unit)))))))) .unit))))) a2] [] (fin1 .bool)
noncomputable def laws_eqUnitS.l4 (k n : Nat) (x0 : List (ByteArray × Int × Int × (List (Int × Int × Int × Int × Int × ByteArray × (List Int) × Unit)) × Unit)) (x1 : List (ByteArray × Int × Int × (List (Int × Int × Int × Int × Int × ByteArray × (List Int) × Unit)) × Unit)) (x5 : Int) : Option (Bool) :=
  resume (E_laws_eqUnitS k) 21 (acall (E_laws_eqUnitS k) (arun Tryz.prog (E_laws_eqUnitS k) k)) k [true, true, false, true, true] [n] (bodyOf Tryz.f21) ⟨[.tv (.row (.pair .str (.pair (.int .i64) (.pair (.int .i64) (.pair (.row (.pair (.int .i64) (.pair (.int .i64) (.pair (.int .i64) (.pair (.int .i64) (.pair (.int .i64) (.pair .str (.pair (.row (.int .i64)) .unit)))))))) .unit))))) x0, .tv (.row (.pair .str (.pair (.int .i64) (.pair (.int .i64) (.pair (.row (.pair (.int .i64) (.pair (.int .i64) (.pair (.int .i64) (.pair (.int .i64) (.pair (.int .i64) (.pair .str (.pair (.row (.int .i64)) .unit)))))))) .unit))))) x1, .undef, .undef, .undef, .int .i64 x5, .undef, .undef, .undef, .undef, .undef, .undef, .undef, .undef, .undef, .undef, .undef, .undef, .undef, .undef, .undef, .undef, .undef, .undef, .undef, .undef, .undef], []⟩ (leave (E_laws_eqUnitS k) Tryz.f21 (fin1 .bool))
theorem laws_eqUnitS.l4_0 (k : Nat) (x0 : List (ByteArray × Int × Int × (List (Int × Int × Int × Int × Int × ByteArray × (List Int) × Unit)) × Unit)) (x1 : List (ByteArray × Int × Int × (List (Int × Int × Int × Int × Int × ByteArray × (List Int) × Unit)) × Unit)) (x5 : Int) : laws_eqUnitS.l4 k 0 x0 x1 x5 = none := by kernel_rfl
theorem laws_eqUnitS.l4_s (k n : Nat) (x0 : List (ByteArray × Int × Int × (List (Int × Int × Int × Int × Int × ByteArray × (List Int) × Unit)) × Unit)) (x1 : List (ByteArray × Int × Int × (List (Int × Int × Int × Int × Int × ByteArray × (List Int) × Unit)) × Unit)) (x5 : Int) : laws_eqUnitS.l4 k (n + 1) x0 x1 x5 =
  iteB (decide (x5 < ((List.length x0) : Int))) (iteB (decide (0 ≤ x5)) (iteB (decide (x5 < ((List.length x0) : Int))) (iteB (decide (0 ≤ x5)) (iteB (decide (x5 < ((List.length x1) : Int))) (bindO (laws_eqUnit k (List.getD x0 (Int.toNat x5) (Ty.dflt (.pair .str (.pair (.int .i64) (.pair (.int .i64) (.pair (.row (.pair (.int .i64) (.pair (.int .i64) (.pair (.int .i64) (.pair (.int .i64) (.pair (.int .i64) (.pair .str (.pair (.row (.int .i64)) .unit)))))))) .unit)))))) (List.getD x1 (Int.toNat x5) (Ty.dflt (.pair .str (.pair (.int .i64) (.pair (.int .i64) (.pair (.row (.pair (.int .i64) (.pair (.int .i64) (.pair (.int .i64) (.pair (.int .i64) (.pair (.int .i64) (.pair .str (.pair (.row (.int .i64)) .unit)))))))) .unit))))))) fun r1 => (iteB (!r1) (some false) (laws_eqUnitS.l4 k n x0 x1 (IntKind.wrap .i64 (x5 + 1))))) (none)) (none)) (none)) (none)) (some true) := by kernel_rfl
theorem laws_eqUnitS_e (k : Nat) (a1 : List (ByteArray × Int × Int × (List (Int × Int × Int × Int × Int × ByteArray × (List Int) × Unit)) × Unit)) (a2 : List (ByteArray × Int × Int × (List (Int × Int × Int × Int × Int × ByteArray × (List Int) × Unit)) × Unit)) : laws_eqUnitS k a1 a2 =
  iteB (((List.length a1) : Int) != ((List.length a2) : Int)) (some false) (laws_eqUnitS.l4 k k a1 a2 0) := by kernel_rfl
theorem E_laws_eqUnitS_calls (k : Nat) : CallsOk Tryz.prog (E_laws_eqUnitS k) (arun Tryz.prog (E_laws_eqUnitS k) k) := by
  refine told_run (tyTOk _ _) ?_ (fun run h => regOk (tyTOk _ _) mixOk h) ?_ nameOk k
  · intro g m hg
    simp only [E_laws_eqUnitS] at hg
    split at hg
    · cases hg
      refine con_byVal fun ρ l K x hm => ?_
      split at hm
      · obtain ⟨c1, h1, hm⟩ := Option.bind_eq_some_iff.1 hm
        obtain ⟨c2, h2, hm⟩ := Option.bind_eq_some_iff.1 hm
        obtain ⟨r, hr, hm⟩ := Option.bind_eq_some_iff.1 hm
        exact ⟨_, hm, LawV.reads (.cons (.as h1) (.cons (.as h2) .nil)) (laws_eqUnit_law k c1 c2 r hr)⟩
      · cases hm
    · cases hg; exact noCon_ok
    · cases hg
  · intro g hg r
    by_cases h : g = 21
    · subst h; simp [E_laws_eqUnitS] at hg
    · simp [E_laws_eqUnitS, h]
theorem f21_oklaws_eqUnitS : Tryz.prog.funcs[21]? = some Tryz.f21 := by kernel_rfl
theorem laws_eqUnitS_law (k : Nat) (a1 : List (ByteArray × Int × Int × (List (Int × Int × Int × Int × Int × ByteArray × (List Int) × Unit)) × Unit)) (a2 : List (ByteArray × Int × Int × (List (Int × Int × Int × Int × Int × ByteArray × (List Int) × Unit)) × Unit)) (x : Bool) (h : laws_eqUnitS k a1 a2 = some x) : LawV Tryz.prog 21 [.tv (.row (.pair .str (.pair (.int .i64) (.pair (.int .i64) (.pair (.row (.pair (.int .i64) (.pair (.int .i64) (.pair (.int .i64) (.pair (.int .i64) (.pair (.int .i64) (.pair .str (.pair (.row (.int .i64)) .unit)))))))) .unit))))) a1, .tv (.row (.pair .str (.pair (.int .i64) (.pair (.int .i64) (.pair (.row (.pair (.int .i64) (.pair (.int .i64) (.pair (.int .i64) (.pair (.int .i64) (.pair (.int .i64) (.pair .str (.pair (.row (.int .i64)) .unit)))))))) .unit))))) a2] (tvn .bool x) := by
  unfold laws_eqUnitS at h
  exact law1 (t := .bool) (tyTOk _ _) (E_laws_eqUnitS_calls k) mixOk f21_oklaws_eqUnitS (nameOk _ _ f21_oklaws_eqUnitS) (by kernel_rfl) h
/-! laws.eqFrame -/
noncomputable def E_laws_eqFrame (k : Nat) : Env := ⟨ty, fun g => match g with
  | 24 => some (byVal fun ρ l K => match l with
    | [b1, b2] => (b1.as (.row (.int .i64))).bind fun c1 => (b2.as (.row (.int .i64))).bind fun c2 => (laws_eqIntS k c1 c2).bind fun r => K (tvn .bool r)
    | _ => none)
  | _ => none, fun _ _ => none⟩
noncomputable def laws_eqFrame (k : Nat) (a1 : Int × Int × (List Int) × Int × Unit) (a2 : Int × Int × (List Int) × Int × Unit) : Option (Bool) :=
  abody (E_laws_eqFrame k) (arun Tryz.prog (E_laws_eqFrame k) k) k 95 Tryz.f95 [.tv (.pair (.int .i64) (.pair (.int .i64) (.pair (.row (.int .i64)) (.pair (.int .i64) .unit)))) a1, .tv (.pair (.int .i64) (.pair (.int .i64) (.pair (.row (.int .i64)) (.pair (.int .i64) .unit)))) a2] [] (fin1 .bool)
theorem laws_eqFrame_e (k : Nat) (a1 : Int × Int × (List Int) × Int × Unit) (a2 : Int × Int × (List Int) × Int × Unit) : laws_eqFrame k a1 a2 =
  iteB (a1.1 != a2.1) (some false) (iteB (a1.2.1 != a2.2.1) (some false) (bindO (laws_eqIntS k a1.2.2.1 a2.2.2.1) fun r1 => (iteB (!r1) (some false) (iteB (a1.2.2.2.1 != a2.2.2.2.1) (some false) (some true))))) := by kernel_rfl
theorem E_laws_eqFrame_calls (k : Nat) : CallsOk Tryz.prog (E_laws_eqFrame k) (arun Tryz.prog (E_laws_eqFrame k) k) := by
  refine told_run (tyTOk _ _) ?_ (fun run h => regOk (tyTOk _ _) mixOk h) ?_ nameOk k
  · intro g m hg
    simp only [E_laws_eqFrame] at hg
    split at hg
    · cases hg
      refine con_byVal fun ρ l K x hm => ?_
      split at hm
      · obtain ⟨c1, h1, hm⟩ := Option.bind_eq_some_iff.1 hm
        obtain ⟨c2, h2, hm⟩ := Option.bind_eq_some_iff.1 hm
        obtain ⟨r, hr, hm⟩ := Option.bind_eq_some_iff.1 hm
        exact ⟨_, hm, LawV.reads (.cons (.as h1) (.cons (.as h2) .nil)) (laws_eqIntS_law k c1 c2 r hr)⟩
      · cases hm
    · cases hg
  · intro g _ r; rfl
theorem f95_oklaws_eqFrame : Tryz.prog.funcs[95]? = some Tryz.f95 := by kernel_rfl
theorem laws_eqFrame_law (k : Nat) (a1 : Int × Int × (List Int) × Int × Unit) (a2 : Int × Int × (List Int) × Int × Unit) (x : Bool) (h : laws_eqFrame k a1 a2 = some x) : LawV Tryz.prog 95 [.tv (.pair (.int .i64) (.pair (.int .i64) (.pair (.row (.int .i64)) (.pair (.int .i64) .unit)))) a1, .tv (.pair (.int .i64) (.pair (.int .i64) (.pair (.row (.int .i64)) (.pair (.int .i64) .unit)))) a2] (tvn .bool x) := by
  unfold laws_eqFrame at h
  exact law1 (t := .bool) (tyTOk _ _) (E_laws_eqFrame_calls k) mixOk f95_oklaws_eqFrame (nameOk _ _ f95_oklaws_eqFrame) (by kernel_rfl) h
/-! laws.eqFrameS -/
noncomputable def E_laws_eqFrameS (k : Nat) : Env := ⟨ty, fun g => match g with
  | 95 => some (byVal fun ρ l K => match l with
    | [b1, b2] => (b1.as (.pair (.int .i64) (.pair (.int .i64) (.pair (.row (.int .i64)) (.pair (.int .i64) .unit))))).bind fun c1 => (b2.as (.pair (.int .i64) (.pair (.int .i64) (.pair (.row (.int .i64)) (.pair (.int .i64) .unit))))).bind fun c2 => (laws_eqFrame k c1 c2).bind fun r => K (tvn .bool r)
    | _ => none)
  | 73 => some noCon
  | _ => none, fun f r => match f with | 73 => (match r with | 4 => some [0, 1, 5] | _ => none) | _ => none⟩
noncomputable def laws_eqFrameS (k : Nat) (a1 : List (Int × Int × (List Int) × Int × Unit)) (a2 : List (Int × Int × (List Int) × Int × Unit)) : Option (Bool) :=
  abody (E_laws_eqFrameS k) (arun Tryz.prog (E_laws_eqFrameS k) k) k 73 Tryz.f73 [.tv (.row (.pair (.int .i64) (.pair (.int .i64) (.pair (.row (.int .i64)) (.pair (.int .i64) .unit))))) a1, .tv (.row (.pair (.int .i64) (.pair (.int .i64) (.pair (.row (.int .i64)) (.pair (.int .i64) .unit))))) a2] [] (fin1 .bool)
noncomputable def laws_eqFrameS.l4 (k n : Nat) (x0 : List (Int × Int × (List Int) × Int × Unit)) (x1 : List (Int × Int × (List Int) × Int × Unit)) (x5 : Int) : Option (Bool) :=
  resume (E_laws_eqFrameS k) 73 (acall (E_laws_eqFrameS k) (arun Tryz.prog (E_laws_eqFrameS k) k)) k [true, true, false, true, true] [n] (bodyOf Tryz.f73) ⟨[.tv (.row (.pair (.int .i64) (.pair (.int .i64) (.pair (.row (.int .i64)) (.pair (.int .i64) .unit))))) x0, .tv (.row (.pair (.int .i64) (.pair (.int .i64) (.pair (.row (.int .i64)) (.pair (.int .i64) .unit))))) x1, .undef, .undef, .undef, .int .i64 x5, .undef, .undef, .undef, .undef, .undef, .undef, .undef, .undef, .undef, .undef, .undef, .undef, .undef, .undef, .undef, .undef, .undef, .undef, .undef, .undef, .undef], []⟩ (leave (E_laws_eqFrameS k) Tryz.f73 (fin1 .bool))
theorem laws_eqFrameS.l4_0 (k : Nat) (x0 : List (Int × Int × (List Int) × Int × Unit)) (x1 : List (Int × Int × (List Int) × Int × Unit)) (x5 : Int) : laws_eqFrameS.l4 k 0 x0 x1 x5 = none := by kernel_rfl
theorem laws_eqFrameS.l4_s (k n : Nat) (x0 : List (Int × Int × (List Int) × Int × Unit)) (x1 : List (Int × Int × (List Int) × Int × Unit)) (x5 : Int) : laws_eqFrameS.l4 k (n + 1) x0 x1 x5 =
  iteB (decide (x5 < ((List.length x0) : Int))) (iteB (decide (0 ≤ x5)) (iteB (decide (x5 < ((List.length x0) : Int))) (iteB (decide (0 ≤ x5)) (iteB (decide (x5 < ((List.length x1) : Int))) (bindO (laws_eqFrame k (List.getD x0 (Int.toNat x5) (Ty.dflt (.pair (.int .i64) (.pair (.int .i64) (.pair (.row (.int .i64)) (.pair (.int .i64) .unit)))))) (List.getD x1 (Int.toNat x5) (Ty.dflt (.pair (.int .i64) (.pair (.int .i64) (.pair (.row (.int .i64)) (.pair (.int .i64) .unit))))))) fun r1 => (iteB (!r1) (some false) (laws_eqFrameS.l4 k n x0 x1 (IntKind.wrap .i64 (x5 + 1))))) (none)) (none)) (none)) (none)) (some true) := by kernel_rfl
theorem laws_eqFrameS_e (k : Nat) (a1 : List (Int × Int × (List Int) × Int × Unit)) (a2 : List (Int × Int × (List Int) × Int × Unit)) : laws_eqFrameS k a1 a2 =
  iteB (((List.length a1) : Int) != ((List.length a2) : Int)) (some false) (laws_eqFrameS.l4 k k a1 a2 0) := by kernel_rfl
theorem E_laws_eqFrameS_calls (k : Nat) : CallsOk Tryz.prog (E_laws_eqFrameS k) (arun Tryz.prog (E_laws_eqFrameS k) k) := by
  refine told_run (tyTOk _ _) ?_ (fun run h => regOk (tyTOk _ _) mixOk h) ?_ nameOk k
  · intro g m hg
    simp only [E_laws_eqFrameS] at hg
    split at hg
    · cases hg
      refine con_byVal fun ρ l K x hm => ?_
      split at hm
      · obtain ⟨c1, h1, hm⟩ := Option.bind_eq_some_iff.1 hm
        obtain ⟨c2, h2, hm⟩ := Option.bind_eq_some_iff.1 hm
        obtain ⟨r, hr, hm⟩ := Option.bind_eq_some_iff.1 hm
        exact ⟨_, hm, LawV.reads (.cons (.as h1) (.cons (.as h2) .nil)) (laws_eqFrame_law k c1 c2 r hr)⟩
      · cases hm
    · cases hg; exact noCon_ok
    · cases hg
  · intro g hg r
    by_cases h : g = 73
    · subst h; simp [E_laws_eqFrameS] at hg
    · simp [E_laws_eqFrameS, h]
theorem f73_oklaws_eqFrameS : Tryz.prog.funcs[73]? = some Tryz.f73 := by kernel_rfl
theorem laws_eqFrameS_law (k : Nat) (a1 : List (Int × Int × (List Int) × Int × Unit)) (a2 : List (Int × Int × (List Int) × Int × Unit)) (x : Bool) (h : laws_eqFrameS k a1 a2 = some x) : LawV Tryz.prog 73 [.tv (.row (.pair (.int .i64) (.pair (.int .i64) (.pair (.row (.int .i64)) (.pair (.int .i64) .unit))))) a1, .tv (.row (.pair (.int .i64) (.pair (.int .i64) (.pair (.row (.int .i64)) (.pair (.int .i64) .unit))))) a2] (tvn .bool x) := by
  unfold laws_eqFrameS at h
  exact law1 (t := .bool) (tyTOk _ _) (E_laws_eqFrameS_calls k) mixOk f73_oklaws_eqFrameS (nameOk _ _ f73_oklaws_eqFrameS) (by kernel_rfl) h
/-! laws.eqBody -/
noncomputable def E_laws_eqBody (k : Nat) : Env := ⟨ty, fun g => match g with
  | 73 => some (byVal fun ρ l K => match l with
    | [b1, b2] => (b1.as (.row (.pair (.int .i64) (.pair (.int .i64) (.pair (.row (.int .i64)) (.pair (.int .i64) .unit)))))).bind fun c1 => (b2.as (.row (.pair (.int .i64) (.pair (.int .i64) (.pair (.row (.int .i64)) (.pair (.int .i64) .unit)))))).bind fun c2 => (laws_eqFrameS k c1 c2).bind fun r => K (tvn .bool r)
    | _ => none)
  | _ => none, fun _ _ => none⟩
noncomputable def laws_eqBody (k : Nat) (a1 : (List (Int × Int × (List Int) × Int × Unit)) × Bool × Bool × Int × Int × Int × Int × Int × Unit) (a2 : (List (Int × Int × (List Int) × Int × Unit)) × Bool × Bool × Int × Int × Int × Int × Int × Unit) : Option (Bool) :=
  abody (E_laws_eqBody k) (arun Tryz.prog (E_laws_eqBody k) k) k 49 Tryz.f49 [.tv (.pair (.row (.pair (.int .i64) (.pair (.int .i64) (.pair (.row (.int .i64)) (.pair (.int .i64) .unit))))) (.pair .bool (.pair .bool (.pair (.int .i64) (.pair (.int .i64) (.pair (.int .i64) (.pair (.int .i64) (.pair (.int .i64) .unit)))))))) a1, .tv (.pair (.row (.pair (.int .i64) (.pair (.int .i64) (.pair (.row (.int .i64)) (.pair (.int .i64) .unit))))) (.pair .bool (.pair .bool (.pair (.int .i64) (.pair (.int .i64) (.pair (.int .i64) (.pair (.int .i64) (.pair (.int .i64) .unit)))))))) a2] [] (fin1 .bool)
theorem laws_eqBody_e (k : Nat) (a1 : (List (Int × Int × (List Int) × Int × Unit)) × Bool × Bool × Int × Int × Int × Int × Int × Unit) (a2 : (List (Int × Int × (List Int) × Int × Unit)) × Bool × Bool × Int × Int × Int × Int × Int × Unit) : laws_eqBody k a1 a2 =
  bindO (laws_eqFrameS k a1.1 a2.1) fun r1 => (iteB (!r1) (some false) (iteB (!(a1.2.1 == a2.2.1)) (some false) (iteB (!(a1.2.2.1 == a2.2.2.1)) (some false) (iteB (a1.2.2.2.1 != a2.2.2.2.1) (some false) (iteB (a1.2.2.2.2.1 != a2.2.2.2.2.1) (some false) (iteB (a1.2.2.2.2.2.1 != a2.2.2.2.2.2.1) (some false) (iteB (a1.2.2.2.2.2.2.1 != a2.2.2.2.2.2.2.1) (some false) (iteB (a1.2.2.2.2.2.2.2.1 != a2.2.2.2.2.2.2.2.1) (some false) (some true))))))))) := by kernel_rfl
theorem E_laws_eqBody_calls (k : Nat) : CallsOk Tryz.prog (E_laws_eqBody k) (arun Tryz.prog (E_laws_eqBody k) k) := by
  refine told_run (tyTOk _ _) ?_ (fun run h => regOk (tyTOk _ _) mixOk h) ?_ nameOk k
  · intro g m hg
    simp only [E_laws_eqBody] at hg
    split at hg
    · cases hg
      refine con_byVal fun ρ l K x hm => ?_
      split at hm
      · obtain ⟨c1, h1, hm⟩ := Option.bind_eq_some_iff.1 hm
        obtain ⟨c2, h2, hm⟩ := Option.bind_eq_some_iff.1 hm
        obtain ⟨r, hr, hm⟩ := Option.bind_eq_some_iff.1 hm
        exact ⟨_, hm, LawV.reads (.cons (.as h1) (.cons (.as h2) .nil)) (laws_eqFrameS_law k c1 c2 r hr)⟩
      · cases hm
    · cases hg
  · intro g _ r; rfl
theorem f49_oklaws_eqBody : Tryz.prog.funcs[49]? = some Tryz.f49 := by kernel_rfl
theorem laws_eqBody_law (k : Nat) (a1 : (List (Int × Int × (List Int) × Int × Unit)) × Bool × Bool × Int × Int × Int × Int × Int × Unit) (a2 : (List (Int × Int × (List Int) × Int × Unit)) × Bool × Bool × Int × Int × Int × Int × Int × Unit) (x : Bool) (h : laws_eqBody k a1 a2 = some x) : LawV Tryz.prog 49 [.tv (.pair (.row (.pair (.int .i64) (.pair (.int .i64) (.pair (.row (.int .i64)) (.pair (.int .i64) .unit))))) (.pair .bool (.pair .bool (.pair (.int .i64) (.pair (.int .i64) (.pair (.int .i64) (.pair (.int .i64) (.pair (.int .i64) .unit)))))))) a1, .tv (.pair (.row (.pair (.int .i64) (.pair (.int .i64) (.pair (.row (.int .i64)) (.pair (.int .i64) .unit))))) (.pair .bool (.pair .bool (.pair (.int .i64) (.pair (.int .i64) (.pair (.int .i64) (.pair (.int .i64) (.pair (.int .i64) .unit)))))))) a2] (tvn .bool x) := by
  unfold laws_eqBody at h
  exact law1 (t := .bool) (tyTOk _ _) (E_laws_eqBody_calls k) mixOk f49_oklaws_eqBody (nameOk _ _ f49_oklaws_eqBody) (by kernel_rfl) h
/-! laws.eqBodyS -/
noncomputable def E_laws_eqBodyS (k : Nat) : Env := ⟨ty, fun g => match g with
  | 49 => some (byVal fun ρ l K => match l with
    | [b1, b2] => (b1.as (.pair (.row (.pair (.int .i64) (.pair (.int .i64) (.pair (.row (.int .i64)) (.pair (.int .i64) .unit))))) (.pair .bool (.pair .bool (.pair (.int .i64) (.pair (.int .i64) (.pair (.int .i64) (.pair (.int .i64) (.pair (.int .i64) .unit))))))))).bind fun c1 => (b2.as (.pair (.row (.pair (.int .i64) (.pair (.int .i64) (.pair (.row (.int .i64)) (.pair (.int .i64) .unit))))) (.pair .bool (.pair .bool (.pair (.int .i64) (.pair (.int .i64) (.pair (.int .i64) (.pair (.int .i64) (.pair (.int .i64) .unit))))))))).bind fun c2 => (laws_eqBody k c1 c2).bind fun r => K (tvn .bool r)
    | _ => none)
  | 22 => some noCon
  | _ => none, fun f r => match f with | 22 => (match r with | 4 => some [0, 1, 5] | _ => none) | _ => none⟩
noncomputable def laws_eqBodyS (k : Nat) (a1 : List ((List (Int × Int × (List Int) × Int × Unit)) × Bool × Bool × Int × Int × Int × Int × Int × Unit)) (a2 : List ((List (Int × Int × (List Int) × Int × Unit)) × Bool × Bool × Int × Int × Int × Int × Int × Unit)) : Option (Bool) :=
  abody (E_laws_eqBodyS k) (arun Tryz.prog (E_laws_eqBodyS k) k) k 22 Tryz.f22 [.tv (.row (.pair (.row (.pair (.int .i64) (.pair (.int .i64) (.pair (.row (.int .i64)) (.pair (.int .i64) .unit))))) (.pair .bool (.pair .bool (.pair (.int .i64) (.pair (.int .i64) (.pair (.int .i64) (.pair (.int .i64) (.pair (.int .i64) .unit))))))))) a1, .tv (.row (.pair (.row (.pair (.int .i64) (.pair (.int .i64) (.pair (.row (.int .i64)) (.pair (.int .i64) .unit))))) (.pair .bool (.pair .bool (.pair (.int .i64) (.pair (.int .i64) (.pair (.int .i64) (.pair (.int .i64) (.pair (.int .i64) .unit))))))))) a2] [] (fin1 .bool)
noncomputable def laws_eqBodyS.l4 (k n : Nat) (x0 : List ((List (Int × Int × (List Int) × Int × Unit)) × Bool × Bool × Int × Int × Int × Int × Int × Unit)) (x1 : List ((List (Int × Int × (List Int) × Int × Unit)) × Bool × Bool × Int × Int × Int × Int × Int × Unit)) (x5 : Int) : Option (Bool) :=
  resume (E_laws_eqBodyS k) 22 (acall (E_laws_eqBodyS k) (arun Tryz.prog (E_laws_eqBodyS k) k)) k [true, true, false, true, true] [n] (bodyOf Tryz.f22) ⟨[.tv (.row (.pair (.row (.pair (.int .i64) (.pair (.int .i64) (.pair (.row (.int .i64)) (.pair (.int .i64) .unit))))) (.pair .bool (.pair .bool (.pair (.int .i64) (.pair (.int .i64) (.pair (.int .i64) (.pair (.int .i64) (.pair (.int .i64) .unit))))))))) x0, .tv (.row (.pair (.row (.pair (.int .i64) (.pair (.int .i64) (.pair (.row (.int .i64)) (.pair (.int .i64) .unit))))) (.pair .bool (.pair .bool (.pair (.int .i64) (.pair (.int .i64) (.pair (.int .i64) (.pair (.int .i64) (.pair (.int .i64) .unit))))))))) x1, .undef, .undef, .undef, .int .i64 x5, .undef, .undef, .undef, .undef, .undef, .undef, .undef, .undef, .undef, .undef, .undef, .undef, .undef, .undef, .undef, .undef, .undef, .undef, .undef, .undef, .undef], []⟩ (leave (E_laws_eqBodyS k) Tryz.f22 (fin1 .bool))
theorem laws_eqBodyS.l4_0 (k : Nat) (x0 : List ((List (Int × Int × (List Int) × Int × Unit)) × Bool × Bool × Int × Int × Int × Int × Int × Unit)) (x1 : List ((List (Int × Int × (List Int) × Int × Unit)) × Bool × Bool × Int × Int × Int × Int × Int × Unit)) (x5 : Int) : laws_eqBodyS.l4 k 0 x0 x1 x5 = none := by kernel_rfl
theorem laws_eqBodyS.l4_s (k n : Nat) (x0 : List ((List (Int × Int × (List Int) × Int × Unit)) × Bool × Bool × Int × Int × Int × Int × Int × Unit)) (x1 : List ((List (Int × Int × (List Int) × Int × Unit)) × Bool × Bool × Int × Int × Int × Int × Int × Unit)) (x5 : Int) : laws_eqBodyS.l4 k (n + 1) x0 x1 x5 =
  iteB (decide (x5 < ((List.length x0) : Int))) (iteB (decide (0 ≤ x5)) (iteB (decide (x5 < ((List.length x0) : Int))) (iteB (decide (0 ≤ x5)) (iteB (decide (x5 < ((List.length x1) : Int))) (bindO (laws_eqBody k (List.getD x0 (Int.toNat x5) (Ty.dflt (.pair (.row (.pair (.int .i64) (.pair (.int .i64) (.pair (.row (.int .i64)) (.pair (.int .i64) .unit))))) (.pair .bool (.pair .bool (.pair (.int .i64) (.pair (.int .i64) (.pair (.int .i64) (.pair (.int .i64) (.pair (.int .i64) .unit)))))))))) (List.getD x1 (Int.toNat x5) (Ty.dflt (.pair (.row (.pair (.int .i64) (.pair (.int .i64) (.pair (.row (.int .i64)) (.pair (.int .i64) .unit))))) (.pair .bool (.pair .bool (.pair (.int .i64) (.pair (.int .i64) (.pair (.int .i64) (.pair (.int .i64) (.pair (.int .i64) .unit))))))))))) fun r1 => (iteB (!r1) (some false) (laws_eqBodyS.l4 k n x0 x1 (IntKind.wrap .i64 (x5 + 1))))) (none)) (none)) (none)) (none)) (some true) := by kernel_rfl
theorem laws_eqBodyS_e (k : Nat) (a1 : List ((List (Int × Int × (List Int) × Int × Unit)) × Bool × Bool × Int × Int × Int × Int × Int × Unit)) (a2 : List ((List (Int × Int × (List Int) × Int × Unit)) × Bool × Bool × Int × Int × Int × Int × Int × Unit)) : laws_eqBodyS k a1 a2 =
  iteB (((List.length a1) : Int) != ((List.length a2) : Int)) (some false) (laws_eqBodyS.l4 k k a1 a2 0) := by kernel_rfl
theorem E_laws_eqBodyS_calls (k : Nat) : CallsOk Tryz.prog (E_laws_eqBodyS k) (arun Tryz.prog (E_laws_eqBodyS k) k) := by
  refine told_run (tyTOk _ _) ?_ (fun run h => regOk (tyTOk _ _) mixOk h) ?_ nameOk k
  · intro g m hg
    simp only [E_laws_eqBodyS] at hg
    split at hg
    · cases hg
      refine con_byVal fun ρ l K x hm => ?_
      split at hm
      · obtain ⟨c1, h1, hm⟩ := Option.bind_eq_some_iff.1 hm
        obtain ⟨c2, h2, hm⟩ := Option.bind_eq_some_iff.1 hm
        obtain ⟨r, hr, hm⟩ := Option.bind_eq_some_iff.1 hm
        exact ⟨_, hm, LawV.reads (.cons (.as h1) (.cons (.as h2) .nil)) (laws_eqBody_law k c1 c2 r hr)⟩
      · cases hm
    · cases hg; exact noCon_ok
    · cases hg
  · intro g hg r
    by_cases h : g = 22
    · subst h; simp [E_laws_eqBodyS] at hg
    · simp [E_laws_eqBodyS, h]
theorem f22_oklaws_eqBodyS : Tryz.prog.funcs[22]? = some Tryz.f22 := by kernel_rfl
theorem laws_eqBodyS_law (k : Nat) (a1 : List ((List (Int × Int × (List Int) × Int × Unit)) × Bool × Bool × Int × Int × Int × Int × Int × Unit)) (a2 : List ((List (Int × Int × (List Int) × Int × Unit)) × Bool × Bool × Int × Int × Int × Int × Int × Unit)) (x : Bool) (h : laws_eqBodyS k a1 a2 = some x) : LawV Tryz.prog 22 [.tv (.row (.pair (.row (.pair (.int .i64) (.pair (.int .i64) (.pair (.row (.int .i64)) (.pair (.int .i64) .unit))))) (.pair .bool (.pair .bool (.pair (.int .i64) (.pair (.int .i64) (.pair (.int .i64) (.pair (.int .i64) (.pair (.int .i64) .unit))))))))) a1, .tv (.row (.pair (.row (.pair (.int .i64) (.pair (.int .i64) (.pair (.row (.int .i64)) (.pair (.int .i64) .unit))))) (.pair .bool (.pair .bool (.pair (.int .i64) (.pair (.int .i64) (.pair (.int .i64) (.pair (.int .i64) (.pair (.int .i64) .unit))))))))) a2] (tvn .bool x) := by
  unfold laws_eqBodyS at h
  exact law1 (t := .bool) (tyTOk _ _) (E_laws_eqBodyS_calls k) mixOk f22_oklaws_eqBodyS (nameOk _ _ f22_oklaws_eqBodyS) (by kernel_rfl) h
/-! laws.eqWait -/
noncomputable def E_laws_eqWait (k : Nat) : Env := ⟨ty, fun _ => none, fun _ _ => none⟩
noncomputable def laws_eqWait (k : Nat) (a1 : Int × Int × Int × Int × Unit) (a2 : Int × Int × Int × Int × Unit) : Option (Bool) :=
  abody (E_laws_eqWait k) (arun Tryz.prog (E_laws_eqWait k) k) k 96 Tryz.f96 [.tv (.pair (.int .i64) (.pair (.int .i64) (.pair (.int .i64) (.pair (.int .i64) .unit)))) a1, .tv (.pair (.int .i64) (.pair (.int .i64) (.pair (.int .i64) (.pair (.int .i64) .unit)))) a2] [] (fin1 .bool)
theorem laws_eqWait_e (k : Nat) (a1 : Int × Int × Int × Int × Unit) (a2 : Int × Int × Int × Int × Unit) : laws_eqWait k a1 a2 =
  iteB (a1.1 != a2.1) (some false) (iteB (a1.2.1 != a2.2.1) (some false) (iteB (a1.2.2.1 != a2.2.2.1) (some false) (iteB (a1.2.2.2.1 != a2.2.2.2.1) (some false) (some true)))) := by kernel_rfl
theorem E_laws_eqWait_calls (k : Nat) : CallsOk Tryz.prog (E_laws_eqWait k) (arun Tryz.prog (E_laws_eqWait k) k) := by
  refine told_run (tyTOk _ _) ?_ (fun run h => regOk (tyTOk _ _) mixOk h) ?_ nameOk k
  · intro g m hg
    cases hg
  · intro g _ r; rfl
theorem f96_oklaws_eqWait : Tryz.prog.funcs[96]? = some Tryz.f96 := by kernel_rfl
theorem laws_eqWait_law (k : Nat) (a1 : Int × Int × Int × Int × Unit) (a2 : Int × Int × Int × Int × Unit) (x : Bool) (h : laws_eqWait k a1 a2 = some x) : LawV Tryz.prog 96 [.tv (.pair (.int .i64) (.pair (.int .i64) (.pair (.int .i64) (.pair (.int .i64) .unit)))) a1, .tv (.pair (.int .i64) (.pair (.int .i64) (.pair (.int .i64) (.pair (.int .i64) .unit)))) a2] (tvn .bool x) := by
  unfold laws_eqWait at h
  exact law1 (t := .bool) (tyTOk _ _) (E_laws_eqWait_calls k) mixOk f96_oklaws_eqWait (nameOk _ _ f96_oklaws_eqWait) (by kernel_rfl) h
/-! laws.eqWaitS -/
noncomputable def E_laws_eqWaitS (k : Nat) : Env := ⟨ty, fun g => match g with
  | 96 => some (byVal fun ρ l K => match l with
    | [b1, b2] => (b1.as (.pair (.int .i64) (.pair (.int .i64) (.pair (.int .i64) (.pair (.int .i64) .unit))))).bind fun c1 => (b2.as (.pair (.int .i64) (.pair (.int .i64) (.pair (.int .i64) (.pair (.int .i64) .unit))))).bind fun c2 => (laws_eqWait k c1 c2).bind fun r => K (tvn .bool r)
    | _ => none)
  | 74 => some noCon
  | _ => none, fun f r => match f with | 74 => (match r with | 4 => some [0, 1, 5] | _ => none) | _ => none⟩
noncomputable def laws_eqWaitS (k : Nat) (a1 : List (Int × Int × Int × Int × Unit)) (a2 : List (Int × Int × Int × Int × Unit)) : Option (Bool) :=
  abody (E_laws_eqWaitS k) (arun Tryz.prog (E_laws_eqWaitS k) k) k 74 Tryz.f74 [.tv (.row (.pair (.int .i64) (.pair (.int .i64) (.pair (.int .i64) (.pair (.int .i64) .unit))))) a1, .tv (.row (.pair (.int .i64) (.pair (.int .i64) (.pair (.int .i64) (.pair (.int .i64) .unit))))) a2] [] (fin1 .bool)
noncomputable def laws_eqWaitS.l4 (k n : Nat) (x0 : List (Int × Int × Int × Int × Unit)) (x1 : List (Int × Int × Int × Int × Unit)) (x5 : Int) : Option (Bool) :=
  resume (E_laws_eqWaitS k) 74 (acall (E_laws_eqWaitS k) (arun Tryz.prog (E_laws_eqWaitS k) k)) k [true, true, false, true, true] [n] (bodyOf Tryz.f74) ⟨[.tv (.row (.pair (.int .i64) (.pair (.int .i64) (.pair (.int .i64) (.pair (.int .i64) .unit))))) x0, .tv (.row (.pair (.int .i64) (.pair (.int .i64) (.pair (.int .i64) (.pair (.int .i64) .unit))))) x1, .undef, .undef, .undef, .int .i64 x5, .undef, .undef, .undef, .undef, .undef, .undef, .undef, .undef, .undef, .undef, .undef, .undef, .undef, .undef, .undef, .undef, .undef, .undef, .undef, .undef, .undef], []⟩ (leave (E_laws_eqWaitS k) Tryz.f74 (fin1 .bool))
theorem laws_eqWaitS.l4_0 (k : Nat) (x0 : List (Int × Int × Int × Int × Unit)) (x1 : List (Int × Int × Int × Int × Unit)) (x5 : Int) : laws_eqWaitS.l4 k 0 x0 x1 x5 = none := by kernel_rfl
theorem laws_eqWaitS.l4_s (k n : Nat) (x0 : List (Int × Int × Int × Int × Unit)) (x1 : List (Int × Int × Int × Int × Unit)) (x5 : Int) : laws_eqWaitS.l4 k (n + 1) x0 x1 x5 =
  iteB (decide (x5 < ((List.length x0) : Int))) (iteB (decide (0 ≤ x5)) (iteB (decide (x5 < ((List.length x0) : Int))) (iteB (decide (0 ≤ x5)) (iteB (decide (x5 < ((List.length x1) : Int))) (bindO (laws_eqWait k (List.getD x0 (Int.toNat x5) (Ty.dflt (.pair (.int .i64) (.pair (.int .i64) (.pair (.int .i64) (.pair (.int .i64) .unit)))))) (List.getD x1 (Int.toNat x5) (Ty.dflt (.pair (.int .i64) (.pair (.int .i64) (.pair (.int .i64) (.pair (.int .i64) .unit))))))) fun r1 => (iteB (!r1) (some false) (laws_eqWaitS.l4 k n x0 x1 (IntKind.wrap .i64 (x5 + 1))))) (none)) (none)) (none)) (none)) (some true) := by kernel_rfl
theorem laws_eqWaitS_e (k : Nat) (a1 : List (Int × Int × Int × Int × Unit)) (a2 : List (Int × Int × Int × Int × Unit)) : laws_eqWaitS k a1 a2 =
  iteB (((List.length a1) : Int) != ((List.length a2) : Int)) (some false) (laws_eqWaitS.l4 k k a1 a2 0) := by kernel_rfl
theorem E_laws_eqWaitS_calls (k : Nat) : CallsOk Tryz.prog (E_laws_eqWaitS k) (arun Tryz.prog (E_laws_eqWaitS k) k) := by
  refine told_run (tyTOk _ _) ?_ (fun run h => regOk (tyTOk _ _) mixOk h) ?_ nameOk k
  · intro g m hg
    simp only [E_laws_eqWaitS] at hg
    split at hg
    · cases hg
      refine con_byVal fun ρ l K x hm => ?_
      split at hm
      · obtain ⟨c1, h1, hm⟩ := Option.bind_eq_some_iff.1 hm
        obtain ⟨c2, h2, hm⟩ := Option.bind_eq_some_iff.1 hm
        obtain ⟨r, hr, hm⟩ := Option.bind_eq_some_iff.1 hm
        exact ⟨_, hm, LawV.reads (.cons (.as h1) (.cons (.as h2) .nil)) (laws_eqWait_law k c1 c2 r hr)⟩
      · cases hm
    · cases hg; exact noCon_ok
    · cases hg
  · intro g hg r
    by_cases h : g = 74
    · subst h; simp [E_laws_eqWaitS] at hg
    · simp [E_laws_eqWaitS, h]
theorem f74_oklaws_eqWaitS : Tryz.prog.funcs[74]? = some Tryz.f74 := by kernel_rfl
theorem laws_eqWaitS_law (k : Nat) (a1 : List (Int × Int × Int × Int × Unit)) (a2 : List (Int × Int × Int × Int × Unit)) (x : Bool) (h : laws_eqWaitS k a1 a2 = some x) : LawV Tryz.prog 74 [.tv (.row (.pair (.int .i64) (.pair (.int .i64) (.pair (.int .i64) (.pair (.int .i64) .unit))))) a1, .tv (.row (.pair (.int .i64) (.pair (.int .i64) (.pair (.int .i64) (.pair (.int .i64) .unit))))) a2] (tvn .bool x) := by
  unfold laws_eqWaitS at h
  exact law1 (t := .bool) (tyTOk _ _) (E_laws_eqWaitS_calls k) mixOk f74_oklaws_eqWaitS (nameOk _ _ f74_oklaws_eqWaitS) (by kernel_rfl) h
/-! laws.eqChan -/
noncomputable def E_laws_eqChan (k : Nat) : Env := ⟨ty, fun g => match g with
  | 24 => some (byVal fun ρ l K => match l with
    | [b1, b2] => (b1.as (.row (.int .i64))).bind fun c1 => (b2.as (.row (.int .i64))).bind fun c2 => (laws_eqIntS k c1 c2).bind fun r => K (tvn .bool r)
    | _ => none)
  | 74 => some (byVal fun ρ l K => match l with
    | [b1, b2] => (b1.as (.row (.pair (.int .i64) (.pair (.int .i64) (.pair (.int .i64) (.pair (.int .i64) .unit)))))).bind fun c1 => (b2.as (.row (.pair (.int .i64) (.pair (.int .i64) (.pair (.int .i64) (.pair (.int .i64) .unit)))))).bind fun c2 => (laws_eqWaitS k c1 c2).bind fun r => K (tvn .bool r)
    | _ => none)
  | _ => none, fun _ _ => none⟩
noncomputable def laws_eqChan (k : Nat) (a1 : Int × Bool × (List Int) × (List (Int × Int × Int × Int × Unit)) × (List (Int × Int × Int × Int × Unit)) × Unit) (a2 : Int × Bool × (List Int) × (List (Int × Int × Int × Int × Unit)) × (List (Int × Int × Int × Int × Unit)) × Unit) : Option (Bool) :=
  abody (E_laws_eqChan k) (arun Tryz.prog (E_laws_eqChan k) k) k 50 Tryz.f50 [.tv (.pair (.int .i64) (.pair .bool (.pair (.row (.int .i64)) (.pair (.row (.pair (.int .i64) (.pair (.int .i64) (.pair (.int .i64) (.pair (.int .i64) .unit))))) (.pair (.row (.pair (.int .i64) (.pair (.int .i64) (.pair (.int .i64) (.pair (.int .i64) .unit))))) .unit))))) a1, .tv (.pair (.int .i64) (.pair .bool (.pair (.row (.int .i64)) (.pair (.row (.pair (.int .i64) (.pair (.int .i64) (.pair (.int .i64) (.pair (.int .i64) .unit))))) (.pair (.row (.pair (.int .i64) (.pair (.int .i64) (.pair (.int .i64) (.pair (.int .i64) .unit))))) .unit))))) a2] [] (fin1 .bool)
theorem laws_eqChan_e (k : Nat) (a1 : Int × Bool × (List Int) × (List (Int × Int × Int × Int × Unit)) × (List (Int × Int × Int × Int × Unit)) × Unit) (a2 : Int × Bool × (List Int) × (List (Int × Int × Int × Int × Unit)) × (List (Int × Int × Int × Int × Unit)) × Unit) : laws_eqChan k a1 a2 =
  iteB (a1.1 != a2.1) (some false) (iteB (!(a1.2.1 == a2.2.1)) (some false) (bindO (laws_eqIntS k a1.2.2.1 a2.2.2.1) fun r1 => (iteB (!r1) (some false) (bindO (laws_eqWaitS k a1.2.2.2.1 a2.2.2.2.1) fun r2 => (iteB (!r2) (some false) (bindO (laws_eqWaitS k a1.2.2.2.2.1 a2.2.2.2.2.1) fun r3 => (iteB (!r3) (some false) (some true)))))))) := by kernel_rfl
theorem E_laws_eqChan_calls (k : Nat) : CallsOk Tryz.prog (E_laws_eqChan k) (arun Tryz.prog (E_laws_eqChan k) k) := by
  refine told_run (tyTOk _ _) ?_ (fun run h => regOk (tyTOk _ _) mixOk h) ?_ nameOk k
  · intro g m hg
    simp only [E_laws_eqChan] at hg
    split at hg
    · cases hg
      refine con_byVal fun ρ l K x hm => ?_
      split at hm
      · obtain ⟨c1, h1, hm⟩ := Option.bind_eq_some_iff.1 hm
        obtain ⟨c2, h2, hm⟩ := Option.bind_eq_some_iff.1 hm
        obtain ⟨r, hr, hm⟩ := Option.bind_eq_some_iff.1 hm
        exact ⟨_, hm, LawV.reads (.cons (.as h1) (.cons (.as h2) .nil)) (laws_eqIntS_law k c1 c2 r hr)⟩
      · cases hm
    · cases hg
      refine con_byVal fun ρ l K x hm => ?_
      split at hm
      · obtain ⟨c1, h1, hm⟩ := Option.bind_eq_some_iff.1 hm
        obtain ⟨c2, h2, hm⟩ := Option.bind_eq_some_iff.1 hm
        obtain ⟨r, hr, hm⟩ := Option.bind_eq_some_iff.1 hm
        exact ⟨_, hm, LawV.reads (.cons (.as h1) (.cons (.as h2) .nil)) (laws_eqWaitS_law k c1 c2 r hr)⟩
      · cases hm
    · cases hg
  · intro g _ r; rfl
theorem f50_oklaws_eqChan : Tryz.prog.funcs[50]? = some Tryz.f50 := by kernel_rfl
theorem laws_eqChan_law (k : Nat) (a1 : Int × Bool × (List Int) × (List (Int × Int × Int × Int × Unit)) × (List (Int × Int × Int × Int × Unit)) × Unit) (a2 : Int × Bool × (List Int) × (List (Int × Int × Int × Int × Unit)) × (List (Int × Int × Int × Int × Unit)) × Unit) (x : Bool) (h : laws_eqChan k a1 a2 = some x) : LawV Tryz.prog 50 [.tv (.pair (.int .i64) (.pair .bool (.pair (.row (.int .i64)) (.pair (.row (.pair (.int .i64) (.pair (.int .i64) (.pair (.int .i64) (.pair (.int .i64) .unit))))) (.pair (.row (.pair (.int .i64) (.pair (.int .i64) (.pair (.int .i64) (.pair (.int .i64) .unit))))) .unit))))) a1, .tv (.pair (.int .i64) (.pair .bool (.pair (.row (.int .i64)) (.pair (.row (.pair (.int .i64) (.pair (.int .i64) (.pair (.int .i64) (.pair (.int .i64) .unit))))) (.pair (.row (.pair (.int .i64) (.pair (.int .i64) (.pair (.int .i64) (.pair (.int .i64) .unit))))) .unit))))) a2] (tvn .bool x) := by
  unfold laws_eqChan at h
  exact law1 (t := .bool) (tyTOk _ _) (E_laws_eqChan_calls k) mixOk f50_oklaws_eqChan (nameOk _ _ f50_oklaws_eqChan) (by kernel_rfl) h
/-! laws.eqChanS -/
noncomputable def E_laws_eqChanS (k : Nat) : Env := ⟨ty, fun g => match g with
  | 50 => some (byVal fun ρ l K => match l with
    | [b1, b2] => (b1.as (.pair (.int .i64) (.pair .bool (.pair (.row (.int .i64)) (.pair (.row (.pair (.int .i64) (.pair (.int .i64) (.pair (.int .i64) (.pair (.int .i64) .unit))))) (.pair (.row (.pair (.int .i64) (.pair (.int .i64) (.pair (.int .i64) (.pair (.int .i64) .unit))))) .unit)))))).bind fun c1 => (b2.as (.pair (.int .i64) (.pair .bool (.pair (.row (.int .i64)) (.pair (.row (.pair (.int .i64) (.pair (.int .i64) (.pair (.int .i64) (.pair (.int .i64) .unit))))) (.pair (.row (.pair (.int .i64) (.pair (.int .i64) (.pair (.int .i64) (.pair (.int .i64) .unit))))) .unit)))))).bind fun c2 => (laws_eqChan k c1 c2).bind fun r => K (tvn .bool r)
    | _ => none)
  | 23 => some noCon
  | _ => none, fun f r => match f with | 23 => (match r with | 4 => some [0, 1, 5] | _ => none) | _ => none⟩
noncomputable def laws_eqChanS (k : Nat) (a1 : List (Int × Bool × (List Int) × (List (Int × Int × Int × Int × Unit)) × (List (Int × Int × Int × Int × Unit)) × Unit)) (a2 : List (Int × Bool × (List Int) × (List (Int × Int × Int × Int × Unit)) × (List (Int × Int × Int × Int × Unit)) × Unit)) : Option (Bool) :=
  abody (E_laws_eqChanS k) (arun Tryz.prog (E_laws_eqChanS k) k) k 23 Tryz.f23 [.tv (.row (.pair (.int .i64) (.pair .bool (.pair (.row (.int .i64)) (.pair (.row (.pair (.int .i64) (.pair (.int .i64) (.pair (.int .i64) (.pair (.int .i64) .unit))))) (.pair (.row (.pair (.int .i64) (.pair (.int .i64) (.pair (.int .i64) (.pair (.int .i64) .unit))))) .unit)))))) a1, .tv (.row (.pair (.int .i64) (.pair .bool (.pair (.row (.int .i64)) (.pair (.row (.pair (.int .i64) (.pair (.int .i64) (.pair (.int .i64) (.pair (.int .i64) .unit))))) (.pair (.row (.pair (.int .i64) (.pair (.int .i64) (.pair (.int .i64) (.pair (.int .i64) .unit))))) .unit)))))) a2] [] (fin1 .bool)
noncomputable def laws_eqChanS.l4 (k n : Nat) (x0 : List (Int × Bool × (List Int) × (List (Int × Int × Int × Int × Unit)) × (List (Int × Int × Int × Int × Unit)) × Unit)) (x1 : List (Int × Bool × (List Int) × (List (Int × Int × Int × Int × Unit)) × (List (Int × Int × Int × Int × Unit)) × Unit)) (x5 : Int) : Option (Bool) :=
  resume (E_laws_eqChanS k) 23 (acall (E_laws_eqChanS k) (arun Tryz.prog (E_laws_eqChanS k) k)) k [true, true, false, true, true] [n] (bodyOf Tryz.f23) ⟨[.tv (.row (.pair (.int .i64) (.pair .bool (.pair (.row (.int .i64)) (.pair (.row (.pair (.int .i64) (.pair (.int .i64) (.pair (.int .i64) (.pair (.int .i64) .unit))))) (.pair (.row (.pair (.int .i64) (.pair (.int .i64) (.pair (.int .i64) (.pair (.int .i64) .unit))))) .unit)))))) x0, .tv (.row (.pair (.int .i64) (.pair .bool (.pair (.row (.int .i64)) (.pair (.row (.pair (.int .i64) (.pair (.int .i64) (.pair (.int .i64) (.pair (.int .i64) .unit))))) (.pair (.row (.pair (.int .i64) (.pair (.int .i64) (.pair (.int .i64) (.pair (.int .i64) .unit))))) .unit)))))) x1, .undef, .undef, .undef, .int .i64 x5, .undef, .undef, .undef, .undef, .undef, .undef, .undef, .undef, .undef, .undef, .undef, .undef, .undef, .undef, .undef, .undef, .undef, .undef, .undef, .undef, .undef], []⟩ (leave (E_laws_eqChanS k) Tryz.f23 (fin1 .bool))
theorem laws_eqChanS.l4_0 (k : Nat) (x0 : List (Int × Bool × (List Int) × (List (Int × Int × Int × Int × Unit)) × (List (Int × Int × Int × Int × Unit)) × Unit)) (x1 : List (Int × Bool × (List Int) × (List (Int × Int × Int × Int × Unit)) × (List (Int × Int × Int × Int × Unit)) × Unit)) (x5 : Int) : laws_eqChanS.l4 k 0 x0 x1 x5 = none := by kernel_rfl
theorem laws_eqChanS.l4_s (k n : Nat) (x0 : List (Int × Bool × (List Int) × (List (Int × Int × Int × Int × Unit)) × (List (Int × Int × Int × Int × Unit)) × Unit)) (x1 : List (Int × Bool × (List Int) × (List (Int × Int × Int × Int × Unit)) × (List (Int × Int × Int × Int × Unit)) × Unit)) (x5 : Int) : laws_eqChanS.l4 k (n + 1) x0 x1 x5 =
  iteB (decide (x5 < ((List.length x0) : Int))) (iteB (decide (0 ≤ x5)) (iteB (decide (x5 < ((List.length x0) : Int))) (iteB (decide (0 ≤ x5)) (iteB (decide (x5 < ((List.length x1) : Int))) (bindO (laws_eqChan k (List.getD x0 (Int.toNat x5) (Ty.dflt (.pair (.int .i64) (.pair .bool (.pair (.row (.int .i64)) (.pair (.row (.pair (.int .i64) (.pair (.int .i64) (.pair (.int .i64) (.pair (.int .i64) .unit))))) (.pair (.row (.pair (.int .i64) (.pair (.int .i64) (.pair (.int .i64) (.pair (.int .i64) .unit))))) .unit))))))) (List.getD x1 (Int.toNat x5) (Ty.dflt (.pair (.int .i64) (.pair .bool (.pair (.row (.int .i64)) (.pair (.row (.pair (.int .i64) (.pair (.int .i64) (.pair (.int .i64) (.pair (.int .i64) .unit))))) (.pair (.row (.pair (.int .i64) (.pair (.int .i64) (.pair (.int .i64) (.pair (.int .i64) .unit))))) .unit)))))))) fun r1 => (iteB (!r1) (some false) (laws_eqChanS.l4 k n x0 x1 (IntKind.wrap .i64 (x5 + 1))))) (none)) (none)) (none)) (none)) (some true) := by kernel_rfl
theorem laws_eqChanS_e (k : Nat) (a1 : List (Int × Bool × (List Int) × (List (Int × Int × Int × Int × Unit)) × (List (Int × Int × Int × Int × Unit)) × Unit)) (a2 : List (Int × Bool × (List Int) × (List (Int × Int × Int × Int × Unit)) × (List (Int × Int × Int × Int × Unit)) × Unit)) : laws_eqChanS k a1 a2 =
  iteB (((List.length a1) : Int) != ((List.length a2) : Int)) (some false) (laws_eqChanS.l4 k k a1 a2 0) := by kernel_rfl
theorem E_laws_eqChanS_calls (k : Nat) : CallsOk Tryz.prog (E_laws_eqChanS k) (arun Tryz.prog (E_laws_eqChanS k) k) := by
  refine told_run (tyTOk _ _) ?_ (fun run h => regOk (tyTOk _ _) mixOk h) ?_ nameOk k
  · intro g m hg
    simp only [E_laws_eqChanS] at hg
    split at hg
    · cases hg
      refine con_byVal fun ρ l K x hm => ?_
      split at hm
      · obtain ⟨c1, h1, hm⟩ := Option.bind_eq_some_iff.1 hm
        obtain ⟨c2, h2, hm⟩ := Option.bind_eq_some_iff.1 hm
        obtain ⟨r, hr, hm⟩ := Option.bind_eq_some_iff.1 hm
        exact ⟨_, hm, LawV.reads (.cons (.as h1) (.cons (.as h2) .nil)) (laws_eqChan_law k c1 c2 r hr)⟩
      · cases hm
    · cases hg; exact noCon_ok
    · cases hg
  · intro g hg r
    by_cases h : g = 23
    · subst h; simp [E_laws_eqChanS] at hg
    · simp [E_laws_eqChanS, h]
theorem f23_oklaws_eqChanS : Tryz.prog.funcs[23]? = some Tryz.f23 := by kernel_rfl
theorem laws_eqChanS_law (k : Nat) (a1 : List (Int × Bool × (List Int) × (List (Int × Int × Int × Int × Unit)) × (List (Int × Int × Int × Int × Unit)) × Unit)) (a2 : List (Int × Bool × (List Int) × (List (Int × Int × Int × Int × Unit)) × (List (Int × Int × Int × Int × Unit)) × Unit)) (x : Bool) (h : laws_eqChanS k a1 a2 = some x) : LawV Tryz.prog 23 [.tv (.row (.pair (.int .i64) (.pair .bool (.pair (.row (.int .i64)) (.pair (.row (.pair (.int .i64) (.pair (.int .i64) (.pair (.int .i64) (.pair (.int .i64) .unit))))) (.pair (.row (.pair (.int .i64) (.pair (.int .i64) (.pair (.int .i64) (.pair (.int .i64) .unit))))) .unit)))))) a1, .tv (.row (.pair (.int .i64) (.pair .bool (.pair (.row (.int .i64)) (.pair (.row (.pair (.int .i64) (.pair (.int .i64) (.pair (.int .i64) (.pair (.int .i64) .unit))))) (.pair (.row (.pair (.int .i64) (.pair (.int .i64) (.pair (.int .i64) (.pair (.int .i64) .unit))))) .unit)))))) a2] (tvn .bool x) := by
  unfold laws_eqChanS at h
  exact law1 (t := .bool) (tyTOk _ _) (E_laws_eqChanS_calls k) mixOk f23_oklaws_eqChanS (nameOk _ _ f23_oklaws_eqChanS) (by kernel_rfl) h
/-! laws.eqWorld -/
noncomputable def E_laws_eqWorld (k : Nat) : Env := ⟨ty, fun g => match g with
  | 21 => some (byVal fun ρ l K => match l with
    | [b1, b2] => (b1.as (.row (.pair .str (.pair (.int .i64) (.pair (.int .i64) (.pair (.row (.pair (.int .i64) (.pair (.int .i64) (.pair (.int .i64) (.pair (.int .i64) (.pair (.int .i64) (.pair .str (.pair (.row (.int .i64)) .unit)))))))) .unit)))))).bind fun c1 => (b2.as (.row (.pair .str (.pair (.int .i64) (.pair (.int .i64) (.pair (.row (.pair (.int .i64) (.pair (.int .i64) (.pair (.int .i64) (.pair (.int .i64) (.pair (.int .i64) (.pair .str (.pair (.row (.int .i64)) .unit)))))))) .unit)))))).bind fun c2 => (laws_eqUnitS k c1 c2).bind fun r => K (tvn .bool r)
    | _ => none)
  | 22 => some (byVal fun ρ l K => match l with
    | [b1, b2] => (b1.as (.row (.pair (.row (.pair (.int .i64) (.pair (.int .i64) (.pair (.row (.int .i64)) (.pair (.int .i64) .unit))))) (.pair .bool (.pair .bool (.pair (.int .i64) (.pair (.int .i64) (.pair (.int .i64) (.pair (.int .i64) (.pair (.int .i64) .unit)))))))))).bind fun c1 => (b2.as (.row (.pair (.row (.pair (.int .i64) (.pair (.int .i64) (.pair (.row (.int .i64)) (.pair (.int .i64) .unit))))) (.pair .bool (.pair .bool (.pair (.int .i64) (.pair (.int .i64) (.pair (.int .i64) (.pair (.int .i64) (.pair (.int .i64) .unit)))))))))).bind fun c2 => (laws_eqBodyS k c1 c2).bind fun r => K (tvn .bool r)
    | _ => none)
  | 23 => some (byVal fun ρ l K => match l with
    | [b1, b2] => (b1.as (.row (.pair (.int .i64) (.pair .bool (.pair (.row (.int .i64)) (.pair (.row (.pair (.int .i64) (.pair (.int .i64) (.pair (.int .i64) (.pair (.int .i64) .unit))))) (.pair (.row (.pair (.int .i64) (.pair (.int .i64) (.pair (.int .i64) (.pair (.int .i64) .unit))))) .unit))))))).bind fun c1 => (b2.as (.row (.pair (.int .i64) (.pair .bool (.pair (.row (.int .i64)) (.pair (.row (.pair (.int .i64) (.pair (.int .i64) (.pair (.int .i64) (.pair (.int .i64) .unit))))) (.pair (.row (.pair (.int .i64) (.pair (.int .i64) (.pair (.int .i64) (.pair (.int .i64) .unit))))) .unit))))))).bind fun c2 => (laws_eqChanS k c1 c2).bind fun r => K (tvn .bool r)
    | _ => none)
  | 24 => some (byVal fun ρ l K => match l with
    | [b1, b2] => (b1.as (.row (.int .i64))).bind fun c1 => (b2.as (.row (.int .i64))).bind fun c2 => (laws_eqIntS k c1 c2).bind fun r => K (tvn .bool r)
    | _ => none)
  | _ => none, fun _ _ => none⟩
noncomputable def laws_eqWorld (k : Nat) (a1 : (List (ByteArray × Int × Int × (List (Int × Int × Int × Int × Int × ByteArray × (List Int) × Unit)) × Unit)) × (List ((List (Int × Int × (List Int) × Int × Unit)) × Bool × Bool × Int × Int × Int × Int × Int × Unit)) × (List (Int × Bool × (List Int) × (List (Int × Int × Int × Int × Unit)) × (List (Int × Int × Int × Int × Unit)) × Unit)) × (List Int) × Bool × Int × Unit) (a2 : (List (ByteArray × Int × Int × (List (Int × Int × Int × Int × Int × ByteArray × (List Int) × Unit)) × Unit)) × (List ((List (Int × Int × (List Int) × Int × Unit)) × Bool × Bool × Int × Int × Int × Int × Int × Unit)) × (List (Int × Bool × (List Int) × (List (Int × Int × Int × Int × Unit)) × (List (Int × Int × Int × Int × Unit)) × Unit)) × (List Int) × Bool × Int × Unit) : Option (Bool) :=
  abody (E_laws_eqWorld k) (arun Tryz.prog (E_laws_eqWorld k) k) k 8 Tryz.f8 [.tv (.pair (.row (.pair .str (.pair (.int .i64) (.pair (.int .i64) (.pair (.row (.pair (.int .i64) (.pair (.int .i64) (.pair (.int .i64) (.pair (.int .i64) (.pair (.int .i64) (.pair .str (.pair (.row (.int .i64)) .unit)))))))) .unit))))) (.pair (.row (.pair (.row (.pair (.int .i64) (.pair (.int .i64) (.pair (.row (.int .i64)) (.pair (.int .i64) .unit))))) (.pair .bool (.pair .bool (.pair (.int .i64) (.pair (.int .i64) (.pair (.int .i64) (.pair (.int .i64) (.pair (.int .i64) .unit))))))))) (.pair (.row (.pair (.int .i64) (.pair .bool (.pair (.row (.int .i64)) (.pair (.row (.pair (.int .i64) (.pair (.int .i64) (.pair (.int .i64) (.pair (.int .i64) .unit))))) (.pair (.row (.pair (.int .i64) (.pair (.int .i64) (.pair (.int .i64) (.pair (.int .i64) .unit))))) .unit)))))) (.pair (.row (.int .i64)) (.pair .bool (.pair (.int .i64) .unit)))))) a1, .tv (.pair (.row (.pair .str (.pair (.int .i64) (.pair (.int .i64) (.pair (.row (.pair (.int .i64) (.pair (.int .i64) (.pair (.int .i64) (.pair (.int .i64) (.pair (.int .i64) (.pair .str (.pair (.row (.int .i64)) .unit)))))))) .unit))))) (.pair (.row (.pair (.row (.pair (.int .i64) (.pair (.int .i64) (.pair (.row (.int .i64)) (.pair (.int .i64) .unit))))) (.pair .bool (.pair .bool (.pair (.int .i64) (.pair (.int .i64) (.pair (.int .i64) (.pair (.int .i64) (.pair (.int .i64) .unit))))))))) (.pair (.row (.pair (.int .i64) (.pair .bool (.pair (.row (.int .i64)) (.pair (.row (.pair (.int .i64) (.pair (.int .i64) (.pair (.int .i64) (.pair (.int .i64) .unit))))) (.pair (.row (.pair (.int .i64) (.pair (.int .i64) (.pair (.int .i64) (.pair (.int .i64) .unit))))) .unit)))))) (.pair (.row (.int .i64)) (.pair .bool (.pair (.int .i64) .unit)))))) a2] [] (fin1 .bool)
theorem laws_eqWorld_e (k : Nat) (a1 : (List (ByteArray × Int × Int × (List (Int × Int × Int × Int × Int × ByteArray × (List Int) × Unit)) × Unit)) × (List ((List (Int × Int × (List Int) × Int × Unit)) × Bool × Bool × Int × Int × Int × Int × Int × Unit)) × (List (Int × Bool × (List Int) × (List (Int × Int × Int × Int × Unit)) × (List (Int × Int × Int × Int × Unit)) × Unit)) × (List Int) × Bool × Int × Unit) (a2 : (List (ByteArray × Int × Int × (List (Int × Int × Int × Int × Int × ByteArray × (List Int) × Unit)) × Unit)) × (List ((List (Int × Int × (List Int) × Int × Unit)) × Bool × Bool × Int × Int × Int × Int × Int × Unit)) × (List (Int × Bool × (List Int) × (List (Int × Int × Int × Int × Unit)) × (List (Int × Int × Int × Int × Unit)) × Unit)) × (List Int) × Bool × Int × Unit) : laws_eqWorld k a1 a2 =
  bindO (laws_eqUnitS k a1.1 a2.1) fun r1 => (iteB (!r1) (some false) (bindO (laws_eqBodyS k a1.2.1 a2.2.1) fun r2 => (iteB (!r2) (some false) (bindO (laws_eqChanS k a1.2.2.1 a2.2.2.1) fun r3 => (iteB (!r3) (some false) (bindO (laws_eqIntS k a1.2.2.2.1 a2.2.2.2.1) fun r4 => (iteB (!r4) (some false) (iteB (!(a1.2.2.2.2.1 == a2.2.2.2.2.1)) (some false) (iteB (a1.2.2.2.2.2.1 != a2.2.2.2.2.2.1) (some false) (some true)))))))))) := by kernel_rfl
theorem E_laws_eqWorld_calls (k : Nat) : CallsOk Tryz.prog (E_laws_eqWorld k) (arun Tryz.prog (E_laws_eqWorld k) k) := by
  refine told_run (tyTOk _ _) ?_ (fun run h => regOk (tyTOk _ _) mixOk h) ?_ nameOk k
  · intro g m hg
    simp only [E_laws_eqWorld] at hg
    split at hg
    · cases hg
      refine con_byVal fun ρ l K x hm => ?_
      split at hm
      · obtain ⟨c1, h1, hm⟩ := Option.bind_eq_some_iff.1 hm
        obtain ⟨c2, h2, hm⟩ := Option.bind_eq_some_iff.1 hm
        obtain ⟨r, hr, hm⟩ := Option.bind_eq_some_iff.1 hm
        exact ⟨_, hm, LawV.reads (.cons (.as h1) (.cons (.as h2) .nil)) (laws_eqUnitS_law k c1 c2 r hr)⟩
      · cases hm
    · cases hg
      refine con_byVal fun ρ l K x hm => ?_
      split at hm
      · obtain ⟨c1, h1, hm⟩ := Option.bind_eq_some_iff.1 hm
        obtain ⟨c2, h2, hm⟩ := Option.bind_eq_some_iff.1 hm
        obtain ⟨r, hr, hm⟩ := Option.bind_eq_some_iff.1 hm
        exact ⟨_, hm, LawV.reads (.cons (.as h1) (.cons (.as h2) .nil)) (laws_eqBodyS_law k c1 c2 r hr)⟩
      · cases hm
    · cases hg
      refine con_byVal fun ρ l K x hm => ?_
      split at hm
      · obtain ⟨c1, h1, hm⟩ := Option.bind_eq_some_iff.1 hm
        obtain ⟨c2, h2, hm⟩ := Option.bind_eq_some_iff.1 hm
        obtain ⟨r, hr, hm⟩ := Option.bind_eq_some_iff.1 hm
        exact ⟨_, hm, LawV.reads (.cons (.as h1) (.cons (.as h2) .nil)) (laws_eqChanS_law k c1 c2 r hr)⟩
      · cases hm
    · cases hg
      refine con_byVal fun ρ l K x hm => ?_
      split at hm
      · obtain ⟨c1, h1, hm⟩ := Option.bind_eq_some_iff.1 hm
        obtain ⟨c2, h2, hm⟩ := Option.bind_eq_some_iff.1 hm
        obtain ⟨r, hr, hm⟩ := Option.bind_eq_some_iff.1 hm
        exact ⟨_, hm, LawV.reads (.cons (.as h1) (.cons (.as h2) .nil)) (laws_eqIntS_law k c1 c2 r hr)⟩
      · cases hm
    · cases hg
  · intro g _ r; rfl
theorem f8_oklaws_eqWorld : Tryz.prog.funcs[8]? = some Tryz.f8 := by kernel_rfl
theorem laws_eqWorld_law (k : Nat) (a1 : (List (ByteArray × Int × Int × (List (Int × Int × Int × Int × Int × ByteArray × (List Int) × Unit)) × Unit)) × (List ((List (Int × Int × (List Int) × Int × Unit)) × Bool × Bool × Int × Int × Int × Int × Int × Unit)) × (List (Int × Bool × (List Int) × (List (Int × Int × Int × Int × Unit)) × (List (Int × Int × Int × Int × Unit)) × Unit)) × (List Int) × Bool × Int × Unit) (a2 : (List (ByteArray × Int × Int × (List (Int × Int × Int × Int × Int × ByteArray × (List Int) × Unit)) × Unit)) × (List ((List (Int × Int × (List Int) × Int × Unit)) × Bool × Bool × Int × Int × Int × Int × Int × Unit)) × (List (Int × Bool × (List Int) × (List (Int × Int × Int × Int × Unit)) × (List (Int × Int × Int × Int × Unit)) × Unit)) × (List Int) × Bool × Int × Unit) (x : Bool) (h : laws_eqWorld k a1 a2 = some x) : LawV Tryz.prog 8 [.tv (.pair (.row (.pair .str (.pair (.int .i64) (.pair (.int .i64) (.pair (.row (.pair (.int .i64) (.pair (.int .i64) (.pair (.int .i64) (.pair (.int .i64) (.pair (.int .i64) (.pair .str (.pair (.row (.int .i64)) .unit)))))))) .unit))))) (.pair (.row (.pair (.row (.pair (.int .i64) (.pair (.int .i64) (.pair (.row (.int .i64)) (.pair (.int .i64) .unit))))) (.pair .bool (.pair .bool (.pair (.int .i64) (.pair (.int .i64) (.pair (.int .i64) (.pair (.int .i64) (.pair (.int .i64) .unit))))))))) (.pair (.row (.pair (.int .i64) (.pair .bool (.pair (.row (.int .i64)) (.pair (.row (.pair (.int .i64) (.pair (.int .i64) (.pair (.int .i64) (.pair (.int .i64) .unit))))) (.pair (.row (.pair (.int .i64) (.pair (.int .i64) (.pair (.int .i64) (.pair (.int .i64) .unit))))) .unit)))))) (.pair (.row (.int .i64)) (.pair .bool (.pair (.int .i64) .unit)))))) a1, .tv (.pair (.row (.pair .str (.pair (.int .i64) (.pair (.int .i64) (.pair (.row (.pair (.int .i64) (.pair (.int .i64) (.pair (.int .i64) (.pair (.int .i64) (.pair (.int .i64) (.pair .str (.pair (.row (.int .i64)) .unit)))))))) .unit))))) (.pair (.row (.pair (.row (.pair (.int .i64) (.pair (.int .i64) (.pair (.row (.int .i64)) (.pair (.int .i64) .unit))))) (.pair .bool (.pair .bool (.pair (.int .i64) (.pair (.int .i64) (.pair (.int .i64) (.pair (.int .i64) (.pair (.int .i64) .unit))))))))) (.pair (.row (.pair (.int .i64) (.pair .bool (.pair (.row (.int .i64)) (.pair (.row (.pair (.int .i64) (.pair (.int .i64) (.pair (.int .i64) (.pair (.int .i64) .unit))))) (.pair (.row (.pair (.int .i64) (.pair (.int .i64) (.pair (.int .i64) (.pair (.int .i64) .unit))))) .unit)))))) (.pair (.row (.int .i64)) (.pair .bool (.pair (.int .i64) .unit)))))) a2] (tvn .bool x) := by
  unfold laws_eqWorld at h
  exact law1 (t := .bool) (tyTOk _ _) (E_laws_eqWorld_calls k) mixOk f8_oklaws_eqWorld (nameOk _ _ f8_oklaws_eqWorld) (by kernel_rfl) h
/-! laws.FnExactStuck -/
noncomputable def E_laws_FnExactStuck (k : Nat) : Env := ⟨ty, fun g => match g with
  | 4 => some (byVal fun ρ l K => match l with
    | [b1, b2] => (b1.as (.pair (.row (.pair .str (.pair (.int .i64) (.pair (.int .i64) (.pair (.row (.pair (.int .i64) (.pair (.int .i64) (.pair (.int .i64) (.pair (.int .i64) (.pair (.int .i64) (.pair .str (.pair (.row (.int .i64)) .unit)))))))) .unit))))) (.pair (.row (.pair (.row (.pair (.int .i64) (.pair (.int .i64) (.pair (.row (.int .i64)) (.pair (.int .i64) .unit))))) (.pair .bool (.pair .bool (.pair (.int .i64) (.pair (.int .i64) (.pair (.int .i64) (.pair (.int .i64) (.pair (.int .i64) .unit))))))))) (.pair (.row (.pair (.int .i64) (.pair .bool (.pair (.row (.int .i64)) (.pair (.row (.pair (.int .i64) (.pair (.int .i64) (.pair (.int .i64) (.pair (.int .i64) .unit))))) (.pair (.row (.pair (.int .i64) (.pair (.int .i64) (.pair (.int .i64) (.pair (.int .i64) .unit))))) .unit)))))) (.pair (.row (.int .i64)) (.pair .bool (.pair (.int .i64) .unit))))))).bind fun c1 => (b2.as (.int .i64)).bind fun c2 => (laws_szWorld k c1 c2).bind fun r => K (tvn (.int .i64) r)
    | _ => none)
  | 6 => some (byVal fun ρ l K => match l with
    | [b1] => (b1.as (.pair (.row (.pair .str (.pair (.int .i64) (.pair (.int .i64) (.pair (.row (.pair (.int .i64) (.pair (.int .i64) (.pair (.int .i64) (.pair (.int .i64) (.pair (.int .i64) (.pair .str (.pair (.row (.int .i64)) .unit)))))))) .unit))))) (.pair (.row (.pair (.row (.pair (.int .i64) (.pair (.int .i64) (.pair (.row (.int .i64)) (.pair (.int .i64) .unit))))) (.pair .bool (.pair .bool (.pair (.int .i64) (.pair (.int .i64) (.pair (.int .i64) (.pair (.int .i64) (.pair (.int .i64) .unit))))))))) (.pair (.row (.pair (.int .i64) (.pair .bool (.pair (.row (.int .i64)) (.pair (.row (.pair (.int .i64) (.pair (.int .i64) (.pair (.int .i64) (.pair (.int .i64) .unit))))) (.pair (.row (.pair (.int .i64) (.pair (.int .i64) (.pair (.int .i64) (.pair (.int .i64) .unit))))) .unit)))))) (.pair (.row (.int .i64)) (.pair .bool (.pair (.int .i64) .unit))))))).bind fun c1 => (laws_toWorld k c1).bind fun r => K (tvn (.pair (.row (.pair .str (.pair (.int .i64) (.pair (.int .i64) (.pair (.row (.pair (.int .i64) (.pair (.int .i64) (.pair (.int .i64) (.pair (.int .i64) (.pair (.int .i64) (.pair .str (.pair (.row (.int .i64)) .unit)))))))) .unit))))) (.pair (.row (.pair (.row (.pair (.int .i64) (.pair (.int .i64) (.pair (.row (.int .i64)) (.pair (.int .i64) .unit))))) (.pair .bool (.pair .bool (.pair (.int .i64) (.pair (.int .i64) (.pair (.int .i64) (.pair (.int .i64) (.pair (.int .i64) .unit))))))))) (.pair (.row (.pair (.int .i64) (.pair .bool (.pair (.row (.int .i64)) (.pair (.row (.pair (.int .i64) (.pair (.int .i64) (.pair (.int .i64) (.pair (.int .i64) .unit))))) (.pair (.row (.pair (.int .i64) (.pair (.int .i64) (.pair (.int .i64) (.pair (.int .i64) .unit))))) .unit)))))) (.pair (.row (.int .i64)) (.pair .bool (.pair (.int .i64) .unit)))))) r)
    | _ => none)
  | 5 => some (byVal fun ρ l K => match l with
    | [b1] => (b1.as (.pair (.row (.pair .str (.pair (.int .i64) (.pair (.int .i64) (.pair (.row (.pair (.int .i64) (.pair (.int .i64) (.pair (.int .i64) (.pair (.int .i64) (.pair (.int .i64) (.pair .str (.pair (.row (.int .i64)) .unit)))))))) .unit))))) (.pair (.row (.pair (.row (.pair (.int .i64) (.pair (.int .i64) (.pair (.row (.int .i64)) (.pair (.int .i64) .unit))))) (.pair .bool (.pair .bool (.pair (.int .i64) (.pair (.int .i64) (.pair (.int .i64) (.pair (.int .i64) (.pair (.int .i64) .unit))))))))) (.pair (.row (.pair (.int .i64) (.pair .bool (.pair (.row (.int .i64)) (.pair (.row (.pair (.int .i64) (.pair (.int .i64) (.pair (.int .i64) (.pair (.int .i64) .unit))))) (.pair (.row (.pair (.int .i64) (.pair (.int .i64) (.pair (.int .i64) (.pair (.int .i64) .unit))))) .unit)))))) (.pair (.row (.int .i64)) (.pair .bool (.pair (.int .i64) .unit))))))).bind fun c1 => (spec_Stuck k c1).bind fun r => K (tvn .bool r)
    | _ => none)
  | 7 => some (byVal fun ρ l K => match l with
    | [b1] => (b1.as (.pair (.row (.pair .str (.pair (.int .i64) (.pair (.int .i64) (.pair (.row (.pair (.int .i64) (.pair (.int .i64) (.pair (.int .i64) (.pair (.int .i64) (.pair (.int .i64) (.pair .str (.pair (.row (.int .i64)) .unit)))))))) .unit))))) (.pair (.row (.pair (.row (.pair (.int .i64) (.pair (.int .i64) (.pair (.row (.int .i64)) (.pair (.int .i64) .unit))))) (.pair .bool (.pair .bool (.pair (.int .i64) (.pair (.int .i64) (.pair (.int .i64) (.pair (.int .i64) (.pair (.int .i64) .unit))))))))) (.pair (.row (.pair (.int .i64) (.pair .bool (.pair (.row (.int .i64)) (.pair (.row (.pair (.int .i64) (.pair (.int .i64) (.pair (.int .i64) (.pair (.int .i64) .unit))))) (.pair (.row (.pair (.int .i64) (.pair (.int .i64) (.pair (.int .i64) (.pair (.int .i64) .unit))))) .unit)))))) (.pair (.row (.int .i64)) (.pair .bool (.pair (.int .i64) .unit))))))).bind fun c1 => (impl_Stuck k c1).bind fun r => K (tvn .bool r)
    | _ => none)
  | 8 => some (byVal fun ρ l K => match l with
    | [b1, b2] => (b1.as (.pair (.row (.pair .str (.pair (.int .i64) (.pair (.int .i64) (.pair (.row (.pair (.int .i64) (.pair (.int .i64) (.pair (.int .i64) (.pair (.int .i64) (.pair (.int .i64) (.pair .str (.pair (.row (.int .i64)) .unit)))))))) .unit))))) (.pair (.row (.pair (.row (.pair (.int .i64) (.pair (.int .i64) (.pair (.row (.int .i64)) (.pair (.int .i64) .unit))))) (.pair .bool (.pair .bool (.pair (.int .i64) (.pair (.int .i64) (.pair (.int .i64) (.pair (.int .i64) (.pair (.int .i64) .unit))))))))) (.pair (.row (.pair (.int .i64) (.pair .bool (.pair (.row (.int .i64)) (.pair (.row (.pair (.int .i64) (.pair (.int .i64) (.pair (.int .i64) (.pair (.int .i64) .unit))))) (.pair (.row (.pair (.int .i64) (.pair (.int .i64) (.pair (.int .i64) (.pair (.int .i64) .unit))))) .unit)))))) (.pair (.row (.int .i64)) (.pair .bool (.pair (.int .i64) .unit))))))).bind fun c1 => (b2.as (.pair (.row (.pair .str (.pair (.int .i64) (.pair (.int .i64) (.pair (.row (.pair (.int .i64) (.pair (.int .i64) (.pair (.int .i64) (.pair (.int .i64) (.pair (.int .i64) (.pair .str (.pair (.row (.int .i64)) .unit)))))))) .unit))))) (.pair (.row (.pair (.row (.pair (.int .i64) (.pair (.int .i64) (.pair (.row (.int .i64)) (.pair (.int .i64) .unit))))) (.pair .bool (.pair .bool (.pair (.int .i64) (.pair (.int .i64) (.pair (.int .i64) (.pair (.int .i64) (.pair (.int .i64) .unit))))))))) (.pair (.row (.pair (.int .i64) (.pair .bool (.pair (.row (.int .i64)) (.pair (.row (.pair (.int .i64) (.pair (.int .i64) (.pair (.int .i64) (.pair (.int .i64) .unit))))) (.pair (.row (.pair (.int .i64) (.pair (.int .i64) (.pair (.int .i64) (.pair (.int .i64) .unit))))) .unit)))))) (.pair (.row (.int .i64)) (.pair .bool (.pair (.int .i64) .unit))))))).bind fun c2 => (laws_eqWorld k c1 c2).bind fun r => K (tvn .bool r)
    | _ => none)
  | _ => none, fun _ _ => none⟩
noncomputable def laws_FnExactStuck (k : Nat) (a1 : (List (ByteArray × Int × Int × (List (Int × Int × Int × Int × Int × ByteArray × (List Int) × Unit)) × Unit)) × (List ((List (Int × Int × (List Int) × Int × Unit)) × Bool × Bool × Int × Int × Int × Int × Int × Unit)) × (List (Int × Bool × (List Int) × (List (Int × Int × Int × Int × Unit)) × (List (Int × Int × Int × Int × Unit)) × Unit)) × (List Int) × Bool × Int × Unit) : Option (Bool) :=
  abody (E_laws_FnExactStuck k) (arun Tryz.prog (E_laws_FnExactStuck k) k) k 3 Tryz.f3 [.tv (.pair (.row (.pair .str (.pair (.int .i64) (.pair (.int .i64) (.pair (.row (.pair (.int .i64) (.pair (.int .i64) (.pair (.int .i64) (.pair (.int .i64) (.pair (.int .i64) (.pair .str (.pair (.row (.int .i64)) .unit)))))))) .unit))))) (.pair (.row (.pair (.row (.pair (.int .i64) (.pair (.int .i64) (.pair (.row (.int .i64)) (.pair (.int .i64) .unit))))) (.pair .bool (.pair .bool (.pair (.int .i64) (.pair (.int .i64) (.pair (.int .i64) (.pair (.int .i64) (.pair (.int .i64) .unit))))))))) (.pair (.row (.pair (.int .i64) (.pair .bool (.pair (.row (.int .i64)) (.pair (.row (.pair (.int .i64) (.pair (.int .i64) (.pair (.int .i64) (.pair (.int .i64) .unit))))) (.pair (.row (.pair (.int .i64) (.pair (.int .i64) (.pair (.int .i64) (.pair (.int .i64) .unit))))) .unit)))))) (.pair (.row (.int .i64)) (.pair .bool (.pair (.int .i64) .unit)))))) a1] [] (fin1 .bool)
theorem laws_FnExactStuck_e (k : Nat) (a1 : (List (ByteArray × Int × Int × (List (Int × Int × Int × Int × Int × ByteArray × (List Int) × Unit)) × Unit)) × (List ((List (Int × Int × (List Int) × Int × Unit)) × Bool × Bool × Int × Int × Int × Int × Int × Unit)) × (List (Int × Bool × (List Int) × (List (Int × Int × Int × Int × Unit)) × (List (Int × Int × Int × Int × Unit)) × Unit)) × (List Int) × Bool × Int × Unit) : laws_FnExactStuck k a1 =
  bindO (laws_szWorld k a1 1048576) fun r1 => (iteB (decide (r1 < 0)) (some true) (bindO (laws_toWorld k a1) fun r2 => (bindO (spec_Stuck k r2) fun r3 => (bindO (laws_toWorld k a1) fun r4 => (bindO (impl_Stuck k r4) fun r5 => (iteB (!(r5 == r3)) (some false) (bindO (laws_toWorld k a1) fun r6 => (bindO (laws_eqWorld k r4 r6) fun r7 => (iteB (!r7) (some false) (some true)))))))))) := by kernel_rfl
theorem E_laws_FnExactStuck_calls (k : Nat) : CallsOk Tryz.prog (E_laws_FnExactStuck k) (arun Tryz.prog (E_laws_FnExactStuck k) k) := by
  refine told_run (tyTOk _ _) ?_ (fun run h => regOk (tyTOk _ _) mixOk h) ?_ nameOk k
  · intro g m hg
    simp only [E_laws_FnExactStuck] at hg
    split at hg
    · cases hg
      refine con_byVal fun ρ l K x hm => ?_
      split at hm
      · obtain ⟨c1, h1, hm⟩ := Option.bind_eq_some_iff.1 hm
        obtain ⟨c2, h2, hm⟩ := Option.bind_eq_some_iff.1 hm
        obtain ⟨r, hr, hm⟩ := Option.bind_eq_some_iff.1 hm
        exact ⟨_, hm, LawV.reads (.cons (.as h1) (.cons (.as h2) .nil)) (laws_szWorld_law k c1 c2 r hr)⟩
      · cases hm
    · cases hg
      refine con_byVal fun ρ l K x hm => ?_
      split at hm
      · obtain ⟨c1, h1, hm⟩ := Option.bind_eq_some_iff.1 hm
        obtain ⟨r, hr, hm⟩ := Option.bind_eq_some_iff.1 hm
        exact ⟨_, hm, LawV.reads (.cons (.as h1) .nil) (laws_toWorld_law k c1 r hr)⟩
      · cases hm
    · cases hg
      refine con_byVal fun ρ l K x hm => ?_
      split at hm
      · obtain ⟨c1, h1, hm⟩ := Option.bind_eq_some_iff.1 hm
        obtain ⟨r, hr, hm⟩ := Option.bind_eq_some_iff.1 hm
        exact ⟨_, hm, LawV.reads (.cons (.as h1) .nil) (spec_Stuck_law k c1 r hr)⟩
      · cases hm
    · cases hg
      refine con_byVal fun ρ l K x hm => ?_
      split at hm
      · obtain ⟨c1, h1, hm⟩ := Option.bind_eq_some_iff.1 hm
        obtain ⟨r, hr, hm⟩ := Option.bind_eq_some_iff.1 hm
        exact ⟨_, hm, LawV.reads (.cons (.as h1) .nil) (impl_Stuck_law k c1 r hr)⟩
      · cases hm
    · cases hg
      refine con_byVal fun ρ l K x hm => ?_
      split at hm
      · obtain ⟨c1, h1, hm⟩ := Option.bind_eq_some_iff.1 hm
        obtain ⟨c2, h2, hm⟩ := Option.bind_eq_some_iff.1 hm
        obtain ⟨r, hr, hm⟩ := Option.bind_eq_some_iff.1 hm
        exact ⟨_, hm, LawV.reads (.cons (.as h1) (.cons (.as h2) .nil)) (laws_eqWorld_law k c1 c2 r hr)⟩
      · cases hm
    · cases hg
  · intro g _ r; rfl
theorem f3_oklaws_FnExactStuck : Tryz.prog.funcs[3]? = some Tryz.f3 := by kernel_rfl
theorem laws_FnExactStuck_law (k : Nat) (a1 : (List (ByteArray × Int × Int × (List (Int × Int × Int × Int × Int × ByteArray × (List Int) × Unit)) × Unit)) × (List ((List (Int × Int × (List Int) × Int × Unit)) × Bool × Bool × Int × Int × Int × Int × Int × Unit)) × (List (Int × Bool × (List Int) × (List (Int × Int × Int × Int × Unit)) × (List (Int × Int × Int × Int × Unit)) × Unit)) × (List Int) × Bool × Int × Unit) (x : Bool) (h : laws_FnExactStuck k a1 = some x) : LawV Tryz.prog 3 [.tv (.pair (.row (.pair .str (.pair (.int .i64) (.pair (.int .i64) (.pair (.row (.pair (.int .i64) (.pair (.int .i64) (.pair (.int .i64) (.pair (.int .i64) (.pair (.int .i64) (.pair .str (.pair (.row (.int .i64)) .unit)))))))) .unit))))) (.pair (.row (.pair (.row (.pair (.int .i64) (.pair (.int .i64) (.pair (.row (.int .i64)) (.pair (.int .i64) .unit))))) (.pair .bool (.pair .bool (.pair (.int .i64) (.pair (.int .i64) (.pair (.int .i64) (.pair (.int .i64) (.pair (.int .i64) .unit))))))))) (.pair (.row (.pair (.int .i64) (.pair .bool (.pair (.row (.int .i64)) (.pair (.row (.pair (.int .i64) (.pair (.int .i64) (.pair (.int .i64) (.pair (.int .i64) .unit))))) (.pair (.row (.pair (.int .i64) (.pair (.int .i64) (.pair (.int .i64) (.pair (.int .i64) .unit))))) .unit)))))) (.pair (.row (.int .i64)) (.pair .bool (.pair (.int .i64) .unit)))))) a1] (tvn .bool x) := by
  unfold laws_FnExactStuck at h
  exact law1 (t := .bool) (tyTOk _ _) (E_laws_FnExactStuck_calls k) mixOk f3_oklaws_FnExactStuck (nameOk _ _ f3_oklaws_FnExactStuck) (by kernel_rfl) h
end Go.Proofs.YtcjpjgfjagfjjaaGreat.XFnExactStuck
