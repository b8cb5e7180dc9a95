/- Functions of the program as runs of the interpreter: equations, and a law for each. -/
import Derived.Test.YtapijpjgfpjahaaProg
import Derived.Test.YtapijpjgfpjahaaChecked
import Derived.KernelRfl
import Derived.Eval
import Derived.Test.YtapijpjgfpjahaaATyOk
import Derived.Test.YtapijpjgfpjahaaAS33
import Derived.Test.YtapijpjgfpjahaaAMFnExactUnitOk0
import Derived.Test.YtapijpjgfpjahaaAMFnExactUnitOk2
import Derived.Test.YtapijpjgfpjahaaAMFnExactUnitOk4
open Go Go.AM Go.AMx Go.Proofs
namespace Go.Proofs.Ytapijpjgfpjahaa.XFnExactUnitOk
set_option linter.unusedVariables false
set_option linter.unusedSimpArgs false
/-! laws.eqIntS -/
noncomputable def E_laws_eqIntS (k : Nat) : Env := ⟨ty, fun g => match g with
  | 37 => some noCon
  | _ => none, fun f r => match f with | 37 => (match r with | 4 => some [0, 1, 5] | _ => none) | _ => none⟩
noncomputable def laws_eqIntS (k : Nat) (a1 : List Int) (a2 : List Int) : Option (Bool) :=
  abody (E_laws_eqIntS k) (arun Try.prog (E_laws_eqIntS k) k) k 37 Try.f37 [.tv (.row (.int .i64)) a1, .tv (.row (.int .i64)) a2] [] (fin1 .bool)
noncomputable def laws_eqIntS.l4 (k n : Nat) (x0 : List Int) (x1 : List Int) (x5 : Int) : Option (Bool) :=
  resume (E_laws_eqIntS k) 37 (acall (E_laws_eqIntS k) (arun Try.prog (E_laws_eqIntS k) k)) k [true, true, false, true, true] [n] (bodyOf Try.f37) ⟨[.tv (.row (.int .i64)) x0, .tv (.row (.int .i64)) x1, .undef, .undef, .undef, .int .i64 x5, .undef, .undef, .undef, .undef, .undef, .undef, .undef, .undef, .undef, .undef, .undef, .undef, .undef, .undef, .undef, .undef, .undef, .undef, .undef, .undef], []⟩ (leave (E_laws_eqIntS k) Try.f37 (fin1 .bool))
theorem laws_eqIntS.l4_0 (k : Nat) (x0 : List Int) (x1 : List Int) (x5 : Int) : laws_eqIntS.l4 k 0 x0 x1 x5 = none := by kernel_rfl
theorem laws_eqIntS.l4_s (k n : Nat) (x0 : List Int) (x1 : List Int) (x5 : Int) : laws_eqIntS.l4 k (n + 1) x0 x1 x5 =
  iteB (decide (x5 < ((List.length x0) : Int))) (iteB (decide (0 ≤ x5)) (iteB (decide (x5 < ((List.length x0) : Int))) (iteB (decide (0 ≤ x5)) (iteB (decide (x5 < ((List.length x1) : Int))) (iteB ((List.getD x0 (Int.toNat x5) 0) != (List.getD x1 (Int.toNat x5) 0)) (some false) (laws_eqIntS.l4 k n x0 x1 (IntKind.wrap .i64 (x5 + 1)))) (none)) (none)) (none)) (none)) (some true) := by kernel_rfl
theorem laws_eqIntS_e (k : Nat) (a1 : List Int) (a2 : List Int) : laws_eqIntS k a1 a2 =
  iteB (((List.length a1) : Int) != ((List.length a2) : Int)) (some false) (laws_eqIntS.l4 k k a1 a2 0) := by kernel_rfl
theorem E_laws_eqIntS_calls (k : Nat) : CallsOk Try.prog (E_laws_eqIntS k) (arun Try.prog (E_laws_eqIntS k) k) := by
  refine told_run (tyTOk _ _) ?_ (fun run h => regOk (tyTOk _ _) mixOk h) ?_ nameOk k
  · intro g m hg
    simp only [E_laws_eqIntS] at hg
    split at hg
    · cases hg; exact noCon_ok
    · cases hg
  · intro g hg r
    by_cases h : g = 37
    · subst h; simp [E_laws_eqIntS] at hg
    · simp [E_laws_eqIntS, h]
theorem f37_oklaws_eqIntS : Try.prog.funcs[37]? = some Try.f37 := by kernel_rfl
theorem laws_eqIntS_law (k : Nat) (a1 : List Int) (a2 : List Int) (x : Bool) (h : laws_eqIntS k a1 a2 = some x) : LawV Try.prog 37 [.tv (.row (.int .i64)) a1, .tv (.row (.int .i64)) a2] (tvn .bool x) := by
  unfold laws_eqIntS at h
  exact law1 (t := .bool) (tyTOk _ _) (E_laws_eqIntS_calls k) mixOk f37_oklaws_eqIntS (nameOk _ _ f37_oklaws_eqIntS) (by kernel_rfl) h
/-! laws.eqTac -/
noncomputable def E_laws_eqTac (k : Nat) : Env := ⟨ty, fun g => match g with
  | 37 => some (byVal fun ρ l K => match l with
    | [b1, b2] => (b1.as (.row (.int .i64))).bind fun c1 => (b2.as (.row (.int .i64))).bind fun c2 => (laws_eqIntS k c1 c2).bind fun r => K (tvn .bool r)
    | _ => none)
  | _ => none, fun _ _ => none⟩
noncomputable def laws_eqTac (k : Nat) (a1 : Int × Int × Int × Int × Int × ByteArray × (List Int) × Unit) (a2 : Int × Int × Int × Int × Int × ByteArray × (List Int) × Unit) : Option (Bool) :=
  abody (E_laws_eqTac k) (arun Try.prog (E_laws_eqTac k) k) k 167 Try.f167 [.tv (.pair (.int .i64) (.pair (.int .i64) (.pair (.int .i64) (.pair (.int .i64) (.pair (.int .i64) (.pair .str (.pair (.row (.int .i64)) .unit))))))) a1, .tv (.pair (.int .i64) (.pair (.int .i64) (.pair (.int .i64) (.pair (.int .i64) (.pair (.int .i64) (.pair .str (.pair (.row (.int .i64)) .unit))))))) a2] [] (fin1 .bool)
theorem laws_eqTac_e (k : Nat) (a1 : Int × Int × Int × Int × Int × ByteArray × (List Int) × Unit) (a2 : Int × Int × Int × Int × Int × ByteArray × (List Int) × Unit) : laws_eqTac k a1 a2 =
  iteB (a1.1 != a2.1) (some false) (iteB (a1.2.1 != a2.2.1) (some false) (iteB (a1.2.2.1 != a2.2.2.1) (some false) (iteB (a1.2.2.2.1 != a2.2.2.2.1) (some false) (iteB (a1.2.2.2.2.1 != a2.2.2.2.2.1) (some false) (iteB (!(ByteArray.toList a1.2.2.2.2.2.1 == ByteArray.toList a2.2.2.2.2.2.1)) (some false) (bindO (laws_eqIntS k a1.2.2.2.2.2.2.1 a2.2.2.2.2.2.2.1) fun r1 => (iteB (!r1) (some false) (some true)))))))) := by kernel_rfl
theorem E_laws_eqTac_calls (k : Nat) : CallsOk Try.prog (E_laws_eqTac k) (arun Try.prog (E_laws_eqTac k) k) := by
  refine told_run (tyTOk _ _) ?_ (fun run h => regOk (tyTOk _ _) mixOk h) ?_ nameOk k
  · intro g m hg
    simp only [E_laws_eqTac] at hg
    split at hg
    · cases hg
      refine con_byVal fun ρ l K x hm => ?_
      split at hm
      · obtain ⟨c1, h1, hm⟩ := Option.bind_eq_some_iff.1 hm
        obtain ⟨c2, h2, hm⟩ := Option.bind_eq_some_iff.1 hm
        obtain ⟨r, hr, hm⟩ := Option.bind_eq_some_iff.1 hm
        exact ⟨_, hm, LawV.reads (.cons (.as h1) (.cons (.as h2) .nil)) (laws_eqIntS_law k c1 c2 r hr)⟩
      · cases hm
    · cases hg
  · intro g _ r; rfl
theorem f167_oklaws_eqTac : Try.prog.funcs[167]? = some Try.f167 := by kernel_rfl
theorem laws_eqTac_law (k : Nat) (a1 : Int × Int × Int × Int × Int × ByteArray × (List Int) × Unit) (a2 : Int × Int × Int × Int × Int × ByteArray × (List Int) × Unit) (x : Bool) (h : laws_eqTac k a1 a2 = some x) : LawV Try.prog 167 [.tv (.pair (.int .i64) (.pair (.int .i64) (.pair (.int .i64) (.pair (.int .i64) (.pair (.int .i64) (.pair .str (.pair (.row (.int .i64)) .unit))))))) a1, .tv (.pair (.int .i64) (.pair (.int .i64) (.pair (.int .i64) (.pair (.int .i64) (.pair (.int .i64) (.pair .str (.pair (.row (.int .i64)) .unit))))))) a2] (tvn .bool x) := by
  unfold laws_eqTac at h
  exact law1 (t := .bool) (tyTOk _ _) (E_laws_eqTac_calls k) mixOk f167_oklaws_eqTac (nameOk _ _ f167_oklaws_eqTac) (by kernel_rfl) h
/-! laws.eqTacS -/
noncomputable def E_laws_eqTacS (k : Nat) : Env := ⟨ty, fun g => match g with
  | 167 => some (byVal fun ρ l K => match l with
    | [b1, b2] => (b1.as (.pair (.int .i64) (.pair (.int .i64) (.pair (.int .i64) (.pair (.int .i64) (.pair (.int .i64) (.pair .str (.pair (.row (.int .i64)) .unit)))))))).bind fun c1 => (b2.as (.pair (.int .i64) (.pair (.int .i64) (.pair (.int .i64) (.pair (.int .i64) (.pair (.int .i64) (.pair .str (.pair (.row (.int .i64)) .unit)))))))).bind fun c2 => (laws_eqTac k c1 c2).bind fun r => K (tvn .bool r)
    | _ => none)
  | 100 => some noCon
  | _ => none, fun f r => match f with | 100 => (match r with | 4 => some [0, 1, 5] | _ => none) | _ => none⟩
noncomputable def laws_eqTacS (k : Nat) (a1 : List (Int × Int × Int × Int × Int × ByteArray × (List Int) × Unit)) (a2 : List (Int × Int × Int × Int × Int × ByteArray × (List Int) × Unit)) : Option (Bool) :=
  abody (E_laws_eqTacS k) (arun Try.prog (E_laws_eqTacS k) k) k 100 Try.f100 [.tv (.row (.pair (.int .i64) (.pair (.int .i64) (.pair (.int .i64) (.pair (.int .i64) (.pair (.int .i64) (.pair .str (.pair (.row (.int .i64)) .unit)))))))) a1, .tv (.row (.pair (.int .i64) (.pair (.int .i64) (.pair (.int .i64) (.pair (.int .i64) (.pair (.int .i64) (.pair .str (.pair (.row (.int .i64)) .unit)))))))) a2] [] (fin1 .bool)
noncomputable def laws_eqTacS.l4 (k n : Nat) (x0 : List (Int × Int × Int × Int × Int × ByteArray × (List Int) × Unit)) (x1 : List (Int × Int × Int × Int × Int × ByteArray × (List Int) × Unit)) (x5 : Int) : Option (Bool) :=
  resume (E_laws_eqTacS k) 100 (acall (E_laws_eqTacS k) (arun Try.prog (E_laws_eqTacS k) k)) k [true, true, false, true, true] [n] (bodyOf Try.f100) ⟨[.tv (.row (.pair (.int .i64) (.pair (.int .i64) (.pair (.int .i64) (.pair (.int .i64) (.pair (.int .i64) (.pair .str (.pair (.row (.int .i64)) .unit)))))))) x0, .tv (.row (.pair (.int .i64) (.pair (.int .i64) (.pair (.int .i64) (.pair (.int .i64) (.pair (.int .i64) (.pair .str (.pair (.row (.int .i64)) .unit)))))))) x1, .undef, .undef, .undef, .int .i64 x5, .undef, .undef, .undef, .undef, .undef, .undef, .undef, .undef, .undef, .undef, .undef, .undef, .undef, .undef, .undef, .undef, .undef, .undef, .undef, .undef, .undef], []⟩ (leave (E_laws_eqTacS k) Try.f100 (fin1 .bool))
theorem laws_eqTacS.l4_0 (k : Nat) (x0 : List (Int × Int × Int × Int × Int × ByteArray × (List Int) × Unit)) (x1 : List (Int × Int × Int × Int × Int × ByteArray × (List Int) × Unit)) (x5 : Int) : laws_eqTacS.l4 k 0 x0 x1 x5 = none := by kernel_rfl
theorem laws_eqTacS.l4_s (k n : Nat) (x0 : List (Int × Int × Int × Int × Int × ByteArray × (List Int) × Unit)) (x1 : List (Int × Int × Int × Int × Int × ByteArray × (List Int) × Unit)) (x5 : Int) : laws_eqTacS.l4 k (n + 1) x0 x1 x5 =
  iteB (decide (x5 < ((List.length x0) : Int))) (iteB (decide (0 ≤ x5)) (iteB (decide (x5 < ((List.length x0) : Int))) (iteB (decide (0 ≤ x5)) (iteB (decide (x5 < ((List.length x1) : Int))) (bindO (laws_eqTac k (List.getD x0 (Int.toNat x5) (Ty.dflt (.pair (.int .i64) (.pair (.int .i64) (.pair (.int .i64) (.pair (.int .i64) (.pair (.int .i64) (.pair .str (.pair (.row (.int .i64)) .unit))))))))) (List.getD x1 (Int.toNat x5) (Ty.dflt (.pair (.int .i64) (.pair (.int .i64) (.pair (.int .i64) (.pair (.int .i64) (.pair (.int .i64) (.pair .str (.pair (.row (.int .i64)) .unit)))))))))) fun r1 => (iteB (!r1) (some false) (laws_eqTacS.l4 k n x0 x1 (IntKind.wrap .i64 (x5 + 1))))) (none)) (none)) (none)) (none)) (some true) := by kernel_rfl
theorem laws_eqTacS_e (k : Nat) (a1 : List (Int × Int × Int × Int × Int × ByteArray × (List Int) × Unit)) (a2 : List (Int × Int × Int × Int × Int × ByteArray × (List Int) × Unit)) : laws_eqTacS k a1 a2 =
  iteB (((List.length a1) : Int) != ((List.length a2) : Int)) (some false) (laws_eqTacS.l4 k k a1 a2 0) := by kernel_rfl
theorem E_laws_eqTacS_calls (k : Nat) : CallsOk Try.prog (E_laws_eqTacS k) (arun Try.prog (E_laws_eqTacS k) k) := by
  refine told_run (tyTOk _ _) ?_ (fun run h => regOk (tyTOk _ _) mixOk h) ?_ nameOk k
  · intro g m hg
    simp only [E_laws_eqTacS] at hg
    split at hg
    · cases hg
      refine con_byVal fun ρ l K x hm => ?_
      split at hm
      · obtain ⟨c1, h1, hm⟩ := Option.bind_eq_some_iff.1 hm
        obtain ⟨c2, h2, hm⟩ := Option.bind_eq_some_iff.1 hm
        obtain ⟨r, hr, hm⟩ := Option.bind_eq_some_iff.1 hm
        exact ⟨_, hm, LawV.reads (.cons (.as h1) (.cons (.as h2) .nil)) (laws_eqTac_law k c1 c2 r hr)⟩
      · cases hm
    · cases hg; exact noCon_ok
    · cases hg
  · intro g hg r
    by_cases h : g = 100
    · subst h; simp [E_laws_eqTacS] at hg
    · simp [E_laws_eqTacS, h]
theorem f100_oklaws_eqTacS : Try.prog.funcs[100]? = some Try.f100 := by kernel_rfl
theorem laws_eqTacS_law (k : Nat) (a1 : List (Int × Int × Int × Int × Int × ByteArray × (List Int) × Unit)) (a2 : List (Int × Int × Int × Int × Int × ByteArray × (List Int) × Unit)) (x : Bool) (h : laws_eqTacS k a1 a2 = some x) : LawV Try.prog 100 [.tv (.row (.pair (.int .i64) (.pair (.int .i64) (.pair (.int .i64) (.pair (.int .i64) (.pair (.int .i64) (.pair .str (.pair (.row (.int .i64)) .unit)))))))) a1, .tv (.row (.pair (.int .i64) (.pair (.int .i64) (.pair (.int .i64) (.pair (.int .i64) (.pair (.int .i64) (.pair .str (.pair (.row (.int .i64)) .unit)))))))) a2] (tvn .bool x) := by
  unfold laws_eqTacS at h
  exact law1 (t := .bool) (tyTOk _ _) (E_laws_eqTacS_calls k) mixOk f100_oklaws_eqTacS (nameOk _ _ f100_oklaws_eqTacS) (by kernel_rfl) h
/-! laws.eqUnit -/
noncomputable def E_laws_eqUnit (k : Nat) : Env := ⟨ty, fun g => match g with
  | 100 => some (byVal fun ρ l K => match l with
    | [b1, b2] => (b1.as (.row (.pair (.int .i64) (.pair (.int .i64) (.pair (.int .i64) (.pair (.int .i64) (.pair (.int .i64) (.pair .str (.pair (.row (.int .i64)) .unit))))))))).bind fun c1 => (b2.as (.row (.pair (.int .i64) (.pair (.int .i64) (.pair (.int .i64) (.pair (.int .i64) (.pair (.int .i64) (.pair .str (.pair (.row (.int .i64)) .unit))))))))).bind fun c2 => (laws_eqTacS k c1 c2).bind fun r => K (tvn .bool r)
    | _ => none)
  | _ => none, fun _ _ => none⟩
noncomputable def laws_eqUnit (k : Nat) (a1 : ByteArray × Int × Int × (List (Int × Int × Int × Int × Int × ByteArray × (List Int) × Unit)) × Unit) (a2 : ByteArray × Int × Int × (List (Int × Int × Int × Int × Int × ByteArray × (List Int) × Unit)) × Unit) : Option (Bool) :=
  abody (E_laws_eqUnit k) (arun Try.prog (E_laws_eqUnit k) k) k 21 Try.f21 [.tv (.pair .str (.pair (.int .i64) (.pair (.int .i64) (.pair (.row (.pair (.int .i64) (.pair (.int .i64) (.pair (.int .i64) (.pair (.int .i64) (.pair (.int .i64) (.pair .str (.pair (.row (.int .i64)) .unit)))))))) .unit)))) a1, .tv (.pair .str (.pair (.int .i64) (.pair (.int .i64) (.pair (.row (.pair (.int .i64) (.pair (.int .i64) (.pair (.int .i64) (.pair (.int .i64) (.pair (.int .i64) (.pair .str (.pair (.row (.int .i64)) .unit)))))))) .unit)))) a2] [] (fin1 .bool)
theorem laws_eqUnit_e (k : Nat) (a1 : ByteArray × Int × Int × (List (Int × Int × Int × Int × Int × ByteArray × (List Int) × Unit)) × Unit) (a2 : ByteArray × Int × Int × (List (Int × Int × Int × Int × Int × ByteArray × (List Int) × Unit)) × Unit) : laws_eqUnit k a1 a2 =
  iteB (!(ByteArray.toList a1.1 == ByteArray.toList a2.1)) (some false) (iteB (a1.2.1 != a2.2.1) (some false) (iteB (a1.2.2.1 != a2.2.2.1) (some false) (bindO (laws_eqTacS k a1.2.2.2.1 a2.2.2.2.1) fun r1 => (iteB (!r1) (some false) (some true))))) := by kernel_rfl
theorem E_laws_eqUnit_calls (k : Nat) : CallsOk Try.prog (E_laws_eqUnit k) (arun Try.prog (E_laws_eqUnit k) k) := by
  refine told_run (tyTOk _ _) ?_ (fun run h => regOk (tyTOk _ _) mixOk h) ?_ nameOk k
  · intro g m hg
    simp only [E_laws_eqUnit] at hg
    split at hg
    · cases hg
      refine con_byVal fun ρ l K x hm => ?_
      split at hm
      · obtain ⟨c1, h1, hm⟩ := Option.bind_eq_some_iff.1 hm
        obtain ⟨c2, h2, hm⟩ := Option.bind_eq_some_iff.1 hm
        obtain ⟨r, hr, hm⟩ := Option.bind_eq_some_iff.1 hm
        exact ⟨_, hm, LawV.reads (.cons (.as h1) (.cons (.as h2) .nil)) (laws_eqTacS_law k c1 c2 r hr)⟩
      · cases hm
    · cases hg
  · intro g _ r; rfl
theorem f21_oklaws_eqUnit : Try.prog.funcs[21]? = some Try.f21 := by kernel_rfl
theorem laws_eqUnit_law (k : Nat) (a1 : ByteArray × Int × Int × (List (Int × Int × Int × Int × Int × ByteArray × (List Int) × Unit)) × Unit) (a2 : ByteArray × Int × Int × (List (Int × Int × Int × Int × Int × ByteArray × (List Int) × Unit)) × Unit) (x : Bool) (h : laws_eqUnit k a1 a2 = some x) : LawV Try.prog 21 [.tv (.pair .str (.pair (.int .i64) (.pair (.int .i64) (.pair (.row (.pair (.int .i64) (.pair (.int .i64) (.pair (.int .i64) (.pair (.int .i64) (.pair (.int .i64) (.pair .str (.pair (.row (.int .i64)) .unit)))))))) .unit)))) a1, .tv (.pair .str (.pair (.int .i64) (.pair (.int .i64) (.pair (.row (.pair (.int .i64) (.pair (.int .i64) (.pair (.int .i64) (.pair (.int .i64) (.pair (.int .i64) (.pair .str (.pair (.row (.int .i64)) .unit)))))))) .unit)))) a2] (tvn .bool x) := by
  unfold laws_eqUnit at h
  exact law1 (t := .bool) (tyTOk _ _) (E_laws_eqUnit_calls k) mixOk f21_oklaws_eqUnit (nameOk _ _ f21_oklaws_eqUnit) (by kernel_rfl) h
/-! laws.FnExactUnitOk -/
noncomputable def E_laws_FnExactUnitOk (k : Nat) : Env := ⟨ty, fun g => match g with
  | 17 => some (byVal fun ρ l K => match l with
    | [b1, b2] => (b1.as (.pair .str (.pair (.int .i64) (.pair (.int .i64) (.pair (.row (.pair (.int .i64) (.pair (.int .i64) (.pair (.int .i64) (.pair (.int .i64) (.pair (.int .i64) (.pair .str (.pair (.row (.int .i64)) .unit)))))))) .unit))))).bind fun c1 => (b2.as (.int .i64)).bind fun c2 => (laws_szUnit k c1 c2).bind fun r => K (tvn (.int .i64) r)
    | _ => none)
  | 19 => some (byVal fun ρ l K => match l with
    | [b1] => (b1.as (.pair .str (.pair (.int .i64) (.pair (.int .i64) (.pair (.row (.pair (.int .i64) (.pair (.int .i64) (.pair (.int .i64) (.pair (.int .i64) (.pair (.int .i64) (.pair .str (.pair (.row (.int .i64)) .unit)))))))) .unit))))).bind fun c1 => (laws_toUnit k c1).bind fun r => K (tvn (.pair .str (.pair (.int .i64) (.pair (.int .i64) (.pair (.row (.pair (.int .i64) (.pair (.int .i64) (.pair (.int .i64) (.pair (.int .i64) (.pair (.int .i64) (.pair .str (.pair (.row (.int .i64)) .unit)))))))) .unit)))) r)
    | _ => none)
  | 18 => some (byVal fun ρ l K => match l with
    | [b1] => (b1.as (.pair .str (.pair (.int .i64) (.pair (.int .i64) (.pair (.row (.pair (.int .i64) (.pair (.int .i64) (.pair (.int .i64) (.pair (.int .i64) (.pair (.int .i64) (.pair .str (.pair (.row (.int .i64)) .unit)))))))) .unit))))).bind fun c1 => (spec_UnitOk k c1).bind fun r => K (tvn .bool r)
    | _ => none)
  | 20 => some (byVal fun ρ l K => match l with
    | [b1] => (b1.as (.pair .str (.pair (.int .i64) (.pair (.int .i64) (.pair (.row (.pair (.int .i64) (.pair (.int .i64) (.pair (.int .i64) (.pair (.int .i64) (.pair (.int .i64) (.pair .str (.pair (.row (.int .i64)) .unit)))))))) .unit))))).bind fun c1 => (impl_UnitOk k c1).bind fun r => K (tvn .bool r)
    | _ => none)
  | 21 => some (byVal fun ρ l K => match l with
    | [b1, b2] => (b1.as (.pair .str (.pair (.int .i64) (.pair (.int .i64) (.pair (.row (.pair (.int .i64) (.pair (.int .i64) (.pair (.int .i64) (.pair (.int .i64) (.pair (.int .i64) (.pair .str (.pair (.row (.int .i64)) .unit)))))))) .unit))))).bind fun c1 => (b2.as (.pair .str (.pair (.int .i64) (.pair (.int .i64) (.pair (.row (.pair (.int .i64) (.pair (.int .i64) (.pair (.int .i64) (.pair (.int .i64) (.pair (.int .i64) (.pair .str (.pair (.row (.int .i64)) .unit)))))))) .unit))))).bind fun c2 => (laws_eqUnit k c1 c2).bind fun r => K (tvn .bool r)
    | _ => none)
  | _ => none, fun _ _ => none⟩
noncomputable def laws_FnExactUnitOk (k : Nat) (a1 : ByteArray × Int × Int × (List (Int × Int × Int × Int × Int × ByteArray × (List Int) × Unit)) × Unit) : Option (Bool) :=
  abody (E_laws_FnExactUnitOk k) (arun Try.prog (E_laws_FnExactUnitOk k) k) k 4 Try.f4 [.tv (.pair .str (.pair (.int .i64) (.pair (.int .i64) (.pair (.row (.pair (.int .i64) (.pair (.int .i64) (.pair (.int .i64) (.pair (.int .i64) (.pair (.int .i64) (.pair .str (.pair (.row (.int .i64)) .unit)))))))) .unit)))) a1] [] (fin1 .bool)
theorem laws_FnExactUnitOk_e (k : Nat) (a1 : ByteArray × Int × Int × (List (Int × Int × Int × Int × Int × ByteArray × (List Int) × Unit)) × Unit) : laws_FnExactUnitOk k a1 =
  bindO (laws_szUnit k a1 1048576) fun r1 => (iteB (decide (r1 < 0)) (some true) (bindO (laws_toUnit k a1) fun r2 => (bindO (spec_UnitOk k r2) fun r3 => (bindO (laws_toUnit k a1) fun r4 => (bindO (impl_UnitOk k r4) fun r5 => (iteB (!(r5 == r3)) (some false) (bindO (laws_toUnit k a1) fun r6 => (bindO (laws_eqUnit k r4 r6) fun r7 => (iteB (!r7) (some false) (some true)))))))))) := by kernel_rfl
theorem E_laws_FnExactUnitOk_calls (k : Nat) : CallsOk Try.prog (E_laws_FnExactUnitOk k) (arun Try.prog (E_laws_FnExactUnitOk k) k) := by
  refine told_run (tyTOk _ _) ?_ (fun run h => regOk (tyTOk _ _) mixOk h) ?_ nameOk k
  · intro g m hg
    simp only [E_laws_FnExactUnitOk] at hg
    split at hg
    · cases hg
      refine con_byVal fun ρ l K x hm => ?_
      split at hm
      · obtain ⟨c1, h1, hm⟩ := Option.bind_eq_some_iff.1 hm
        obtain ⟨c2, h2, hm⟩ := Option.bind_eq_some_iff.1 hm
        obtain ⟨r, hr, hm⟩ := Option.bind_eq_some_iff.1 hm
        exact ⟨_, hm, LawV.reads (.cons (.as h1) (.cons (.as h2) .nil)) (laws_szUnit_law k c1 c2 r hr)⟩
      · cases hm
    · cases hg
      refine con_byVal fun ρ l K x hm => ?_
      split at hm
      · obtain ⟨c1, h1, hm⟩ := Option.bind_eq_some_iff.1 hm
        obtain ⟨r, hr, hm⟩ := Option.bind_eq_some_iff.1 hm
        exact ⟨_, hm, LawV.reads (.cons (.as h1) .nil) (laws_toUnit_law k c1 r hr)⟩
      · cases hm
    · cases hg
      refine con_byVal fun ρ l K x hm => ?_
      split at hm
      · obtain ⟨c1, h1, hm⟩ := Option.bind_eq_some_iff.1 hm
        obtain ⟨r, hr, hm⟩ := Option.bind_eq_some_iff.1 hm
        exact ⟨_, hm, LawV.reads (.cons (.as h1) .nil) (spec_UnitOk_law k c1 r hr)⟩
      · cases hm
    · cases hg
      refine con_byVal fun ρ l K x hm => ?_
      split at hm
      · obtain ⟨c1, h1, hm⟩ := Option.bind_eq_some_iff.1 hm
        obtain ⟨r, hr, hm⟩ := Option.bind_eq_some_iff.1 hm
        exact ⟨_, hm, LawV.reads (.cons (.as h1) .nil) (impl_UnitOk_law k c1 r hr)⟩
      · cases hm
    · cases hg
      refine con_byVal fun ρ l K x hm => ?_
      split at hm
      · obtain ⟨c1, h1, hm⟩ := Option.bind_eq_some_iff.1 hm
        obtain ⟨c2, h2, hm⟩ := Option.bind_eq_some_iff.1 hm
        obtain ⟨r, hr, hm⟩ := Option.bind_eq_some_iff.1 hm
        exact ⟨_, hm, LawV.reads (.cons (.as h1) (.cons (.as h2) .nil)) (laws_eqUnit_law k c1 c2 r hr)⟩
      · cases hm
    · cases hg
  · intro g _ r; rfl
theorem f4_oklaws_FnExactUnitOk : Try.prog.funcs[4]? = some Try.f4 := by kernel_rfl
theorem laws_FnExactUnitOk_law (k : Nat) (a1 : ByteArray × Int × Int × (List (Int × Int × Int × Int × Int × ByteArray × (List Int) × Unit)) × Unit) (x : Bool) (h : laws_FnExactUnitOk k a1 = some x) : LawV Try.prog 4 [.tv (.pair .str (.pair (.int .i64) (.pair (.int .i64) (.pair (.row (.pair (.int .i64) (.pair (.int .i64) (.pair (.int .i64) (.pair (.int .i64) (.pair (.int .i64) (.pair .str (.pair (.row (.int .i64)) .unit)))))))) .unit)))) a1] (tvn .bool x) := by
  unfold laws_FnExactUnitOk at h
  exact law1 (t := .bool) (tyTOk _ _) (E_laws_FnExactUnitOk_calls k) mixOk f4_oklaws_FnExactUnitOk (nameOk _ _ f4_oklaws_FnExactUnitOk) (by kernel_rfl) h
end Go.Proofs.Ytapijpjgfpjahaa.XFnExactUnitOk
