/- Functions of the program as runs of the interpreter: equations, and a law for each. -/
import Derived.Test.YtajlenpookikoaaProg
import Derived.Test.YtajlenpookikoaaChecked
import Derived.KernelRfl
import Derived.Eval
import Derived.Test.YtajlenpookikoaaATyOk
import Derived.Test.YtajlenpookikoaaAS38
import Derived.Test.YtajlenpookikoaaAS41
import Derived.Test.YtajlenpookikoaaAMFnExactWorldNew0
import Derived.Test.YtajlenpookikoaaAMFnExactWorldNew2
import Derived.Test.YtajlenpookikoaaAMFnExactWorldNew3
import Derived.Test.YtajlenpookikoaaAMFnExactWorldNew4
import Derived.Test.YtajlenpookikoaaAMFnExactWorldNew5
import Derived.Test.YtajlenpookikoaaAMFnExactWorldNew6
open Go Go.AM Go.AMx Go.Proofs
namespace Go.Proofs.Ytajlenpookikoaa.XFnExactWorldNew
set_option linter.unusedVariables false
set_option linter.unusedSimpArgs false
/-! laws.heldUnitS -/
noncomputable def E_laws_heldUnitS (k : Nat) : Env := ⟨ty, fun g => match g with
  | 27 => some (byVal fun ρ l K => match l with
    | [b1] => (b1.as (.int .i64)).bind fun c1 => (laws_markText k c1).bind fun r => K (tvn .str r)
    | _ => none)
  | 50 => some (byVal fun ρ l K => match l with
    | [b1, b2] => (b1.as (.row tA4)).bind fun c1 => (b2.as (.int .i64)).bind fun c2 => (laws_heldTacS k c1 c2).bind fun r => K (tvn (.int .i64) r)
    | _ => none)
  | 32 => some noCon
  | _ => none, fun f r => match f with | 32 => (match r with | 2 => some [0, 1, 5] | _ => none) | _ => none⟩
noncomputable def laws_heldUnitS (k : Nat) (a1 : List (ByteArray × Int × Int × (List (Int × Int × Int × Int × Int × ByteArray × (List Int) × Unit)) × Unit)) (a2 : Int) : Option (Int) :=
  abody (E_laws_heldUnitS k) (arun Try.prog (E_laws_heldUnitS k) k) k 32 Try.f32 [.tv (.row tA5) a1, .int .i64 a2] [] (fin1 (.int .i64))
noncomputable def laws_heldUnitS.l2 (k n : Nat) (x0 : List (ByteArray × Int × Int × (List (Int × Int × Int × Int × Int × ByteArray × (List Int) × Unit)) × Unit)) (x1 : Int) (x5 : Int) : Option (Int) :=
  resume (E_laws_heldUnitS k) 32 (acall (E_laws_heldUnitS k) (arun Try.prog (E_laws_heldUnitS k) k)) k [true, false, true, true] [n] (bodyOf Try.f32) ⟨[.tv (.row tA5) x0, .int .i64 x1, .undef, .undef, .undef, .int .i64 x5, .undef, .undef, .undef, .undef, .undef, .undef, .undef, .undef, .undef, .undef, .undef, .undef, .undef, .undef, .undef, .undef, .undef, .undef, .undef, .undef, .undef, .undef, .undef, .undef, .undef, .undef, .undef, .undef, .undef, .undef, .undef, .undef, .undef, .undef, .undef, .undef, .undef, .undef, .undef, .undef, .undef, .undef, .undef, .undef], []⟩ (leave (E_laws_heldUnitS k) Try.f32 (fin1 (.int .i64)))
theorem laws_heldUnitS.l2_0 (k : Nat) (x0 : List (ByteArray × Int × Int × (List (Int × Int × Int × Int × Int × ByteArray × (List Int) × Unit)) × Unit)) (x1 : Int) (x5 : Int) : laws_heldUnitS.l2 k 0 x0 x1 x5 = none := by kernel_rfl
theorem laws_heldUnitS.l2_s (k n : Nat) (x0 : List (ByteArray × Int × Int × (List (Int × Int × Int × Int × Int × ByteArray × (List Int) × Unit)) × Unit)) (x1 : Int) (x5 : Int) : laws_heldUnitS.l2 k (n + 1) x0 x1 x5 =
  iteB (decide (x5 < ((List.length x0) : Int))) (iteB (decide (0 ≤ x5)) (iteB (decide (x5 < ((List.length x0) : Int))) (bindO (laws_markText k x1) fun r1 => (iteB (!(ByteArray.toList ((List.getD x0 (Int.toNat x5) (Ty.dflt tA5)).1) == ByteArray.toList r1)) (some (-1)) (iteB (decide (0 ≤ x5)) (iteB (decide (x5 < ((List.length x0) : Int))) (iteB ((((List.getD x0 (Int.toNat x5) (Ty.dflt tA5)).2).1) != (IntKind.wrap .i64 (x1 + 1))) (some (-1)) (iteB (decide (0 ≤ x5)) (iteB (decide (x5 < ((List.length x0) : Int))) (iteB (((((List.getD x0 (Int.toNat x5) (Ty.dflt tA5)).2).2).1) != (IntKind.wrap .i64 ((IntKind.wrap .i64 (x1 + 1)) + 1))) (some (-1)) (iteB (decide (0 ≤ x5)) (iteB (decide (x5 < ((List.length x0) : Int))) (bindO (laws_heldTacS k (((((List.getD x0 (Int.toNat x5) (Ty.dflt tA5)).2).2).2).1) (IntKind.wrap .i64 ((IntKind.wrap .i64 ((IntKind.wrap .i64 (x1 + 1)) + 1)) + 1))) fun r2 => (iteB (decide (r2 < 0)) (some (-1)) (laws_heldUnitS.l2 k n x0 r2 (IntKind.wrap .i64 (x5 + 1))))) (none)) (none))) (none)) (none))) (none)) (none)))) (none)) (none)) (some x1) := by kernel_rfl
theorem laws_heldUnitS_e (k : Nat) (a1 : List (ByteArray × Int × Int × (List (Int × Int × Int × Int × Int × ByteArray × (List Int) × Unit)) × Unit)) (a2 : Int) : laws_heldUnitS k a1 a2 =
  laws_heldUnitS.l2 k k a1 a2 0 := by kernel_rfl
theorem E_laws_heldUnitS_calls (k : Nat) : CallsOk Try.prog (E_laws_heldUnitS k) (arun Try.prog (E_laws_heldUnitS k) k) := by
  refine told_run (tyTOk _ _) ?_ (fun run h => regOk (tyTOk _ _) mixOk h) ?_ nameOk k
  · intro g m hg
    simp only [E_laws_heldUnitS] at hg
    split at hg
    · cases hg
      refine con_byVal fun ρ l K x hm => ?_
      split at hm
      · obtain ⟨c1, h1, hm⟩ := Option.bind_eq_some_iff.1 hm
        obtain ⟨r, hr, hm⟩ := Option.bind_eq_some_iff.1 hm
        exact ⟨_, hm, LawV.reads (.cons (.as h1) .nil) (laws_markText_law k c1 r hr)⟩
      · cases hm
    · cases hg
      refine con_byVal fun ρ l K x hm => ?_
      split at hm
      · obtain ⟨c1, h1, hm⟩ := Option.bind_eq_some_iff.1 hm
        obtain ⟨c2, h2, hm⟩ := Option.bind_eq_some_iff.1 hm
        obtain ⟨r, hr, hm⟩ := Option.bind_eq_some_iff.1 hm
        exact ⟨_, hm, LawV.reads (.cons (.as h1) (.cons (.as h2) .nil)) (laws_heldTacS_law k c1 c2 r hr)⟩
      · cases hm
    · cases hg; exact noCon_ok
    · cases hg
  · intro g hg r
    by_cases h : g = 32
    · subst h; simp [E_laws_heldUnitS] at hg
    · simp [E_laws_heldUnitS, h]
theorem f32_oklaws_heldUnitS : Try.prog.funcs[32]? = some Try.f32 := by kernel_rfl
theorem laws_heldUnitS_law (k : Nat) (a1 : List (ByteArray × Int × Int × (List (Int × Int × Int × Int × Int × ByteArray × (List Int) × Unit)) × Unit)) (a2 : Int) (x : Int) (h : laws_heldUnitS k a1 a2 = some x) : LawV Try.prog 32 [.tv (.row tA5) a1, .int .i64 a2] (tvn (.int .i64) x) := by
  unfold laws_heldUnitS at h
  exact law1 (t := (.int .i64)) (tyTOk _ _) (E_laws_heldUnitS_calls k) mixOk f32_oklaws_heldUnitS (nameOk _ _ f32_oklaws_heldUnitS) (by kernel_rfl) h
/-! laws.heldFrameS -/
noncomputable def E_laws_heldFrameS (k : Nat) : Env := ⟨ty, fun g => match g with
  | 35 => some (byVal fun ρ l K => match l with
    | [b1, b2] => (b1.as (.row (.int .i64))).bind fun c1 => (b2.as (.int .i64)).bind fun c2 => (laws_heldIntS k c1 c2).bind fun r => K (tvn (.int .i64) r)
    | _ => none)
  | 51 => some noCon
  | _ => none, fun f r => match f with | 51 => (match r with | 2 => some [0, 1, 5] | _ => none) | _ => none⟩
noncomputable def laws_heldFrameS (k : Nat) (a1 : List (Int × Int × (List Int) × Int × Unit)) (a2 : Int) : Option (Int) :=
  abody (E_laws_heldFrameS k) (arun Try.prog (E_laws_heldFrameS k) k) k 51 Try.f51 [.tv (.row tA1) a1, .int .i64 a2] [] (fin1 (.int .i64))
noncomputable def laws_heldFrameS.l2 (k n : Nat) (x0 : List (Int × Int × (List Int) × Int × Unit)) (x1 : Int) (x5 : Int) : Option (Int) :=
  resume (E_laws_heldFrameS k) 51 (acall (E_laws_heldFrameS k) (arun Try.prog (E_laws_heldFrameS k) k)) k [true, false, true, true] [n] (bodyOf Try.f51) ⟨[.tv (.row tA1) x0, .int .i64 x1, .undef, .undef, .undef, .int .i64 x5, .undef, .undef, .undef, .undef, .undef, .undef, .undef, .undef, .undef, .undef, .undef, .undef, .undef, .undef, .undef, .undef, .undef, .undef, .undef, .undef, .undef, .undef, .undef, .undef, .undef, .undef, .undef, .undef, .undef, .undef, .undef, .undef, .undef, .undef, .undef, .undef, .undef, .undef, .undef, .undef, .undef, .undef, .undef], []⟩ (leave (E_laws_heldFrameS k) Try.f51 (fin1 (.int .i64)))
theorem laws_heldFrameS.l2_0 (k : Nat) (x0 : List (Int × Int × (List Int) × Int × Unit)) (x1 : Int) (x5 : Int) : laws_heldFrameS.l2 k 0 x0 x1 x5 = none := by kernel_rfl
theorem laws_heldFrameS.l2_s (k n : Nat) (x0 : List (Int × Int × (List Int) × Int × Unit)) (x1 : Int) (x5 : Int) : laws_heldFrameS.l2 k (n + 1) x0 x1 x5 =
  iteB (decide (x5 < ((List.length x0) : Int))) (iteB (decide (0 ≤ x5)) (iteB (decide (x5 < ((List.length x0) : Int))) (iteB (((List.getD x0 (Int.toNat x5) (Ty.dflt tA1)).1) != x1) (some (-1)) (iteB (decide (0 ≤ x5)) (iteB (decide (x5 < ((List.length x0) : Int))) (iteB ((((List.getD x0 (Int.toNat x5) (Ty.dflt tA1)).2).1) != (IntKind.wrap .i64 (x1 + 1))) (some (-1)) (iteB (decide (0 ≤ x5)) (iteB (decide (x5 < ((List.length x0) : Int))) (bindO (laws_heldIntS k ((((List.getD x0 (Int.toNat x5) (Ty.dflt tA1)).2).2).1) (IntKind.wrap .i64 ((IntKind.wrap .i64 (x1 + 1)) + 1))) fun r1 => (iteB (decide (r1 < 0)) (some (-1)) (iteB (decide (0 ≤ x5)) (iteB (decide (x5 < ((List.length x0) : Int))) (iteB ((((((List.getD x0 (Int.toNat x5) (Ty.dflt tA1)).2).2).2).1) != r1) (some (-1)) (laws_heldFrameS.l2 k n x0 (IntKind.wrap .i64 (r1 + 1)) (IntKind.wrap .i64 (x5 + 1)))) (none)) (none)))) (none)) (none))) (none)) (none))) (none)) (none)) (some x1) := by kernel_rfl
theorem laws_heldFrameS_e (k : Nat) (a1 : List (Int × Int × (List Int) × Int × Unit)) (a2 : Int) : laws_heldFrameS k a1 a2 =
  laws_heldFrameS.l2 k k a1 a2 0 := by kernel_rfl
theorem E_laws_heldFrameS_calls (k : Nat) : CallsOk Try.prog (E_laws_heldFrameS k) (arun Try.prog (E_laws_heldFrameS k) k) := by
  refine told_run (tyTOk _ _) ?_ (fun run h => regOk (tyTOk _ _) mixOk h) ?_ nameOk k
  · intro g m hg
    simp only [E_laws_heldFrameS] at hg
    split at hg
    · cases hg
      refine con_byVal fun ρ l K x hm => ?_
      split at hm
      · obtain ⟨c1, h1, hm⟩ := Option.bind_eq_some_iff.1 hm
        obtain ⟨c2, h2, hm⟩ := Option.bind_eq_some_iff.1 hm
        obtain ⟨r, hr, hm⟩ := Option.bind_eq_some_iff.1 hm
        exact ⟨_, hm, LawV.reads (.cons (.as h1) (.cons (.as h2) .nil)) (laws_heldIntS_law k c1 c2 r hr)⟩
      · cases hm
    · cases hg; exact noCon_ok
    · cases hg
  · intro g hg r
    by_cases h : g = 51
    · subst h; simp [E_laws_heldFrameS] at hg
    · simp [E_laws_heldFrameS, h]
theorem f51_oklaws_heldFrameS : Try.prog.funcs[51]? = some Try.f51 := by kernel_rfl
theorem laws_heldFrameS_law (k : Nat) (a1 : List (Int × Int × (List Int) × Int × Unit)) (a2 : Int) (x : Int) (h : laws_heldFrameS k a1 a2 = some x) : LawV Try.prog 51 [.tv (.row tA1) a1, .int .i64 a2] (tvn (.int .i64) x) := by
  unfold laws_heldFrameS at h
  exact law1 (t := (.int .i64)) (tyTOk _ _) (E_laws_heldFrameS_calls k) mixOk f51_oklaws_heldFrameS (nameOk _ _ f51_oklaws_heldFrameS) (by kernel_rfl) h
/-! laws.heldBodyS -/
noncomputable def E_laws_heldBodyS (k : Nat) : Env := ⟨ty, fun g => match g with
  | 51 => some (byVal fun ρ l K => match l with
    | [b1, b2] => (b1.as (.row tA1)).bind fun c1 => (b2.as (.int .i64)).bind fun c2 => (laws_heldFrameS k c1 c2).bind fun r => K (tvn (.int .i64) r)
    | _ => none)
  | 33 => some noCon
  | _ => none, fun f r => match f with | 33 => (match r with | 2 => some [0, 1, 5] | _ => none) | _ => none⟩
noncomputable def laws_heldBodyS (k : Nat) (a1 : List ((List (Int × Int × (List Int) × Int × Unit)) × Bool × Bool × Int × Int × Int × Int × Int × Unit)) (a2 : Int) : Option (Int) :=
  abody (E_laws_heldBodyS k) (arun Try.prog (E_laws_heldBodyS k) k) k 33 Try.f33 [.tv (.row tA2) a1, .int .i64 a2] [] (fin1 (.int .i64))
noncomputable def laws_heldBodyS.l2 (k n : Nat) (x0 : List ((List (Int × Int × (List Int) × Int × Unit)) × Bool × Bool × Int × Int × Int × Int × Int × Unit)) (x1 : Int) (x5 : Int) : Option (Int) :=
  resume (E_laws_heldBodyS k) 33 (acall (E_laws_heldBodyS k) (arun Try.prog (E_laws_heldBodyS k) k)) k [true, false, true, true] [n] (bodyOf Try.f33) ⟨[.tv (.row tA2) x0, .int .i64 x1, .undef, .undef, .undef, .int .i64 x5, .undef, .undef, .undef, .undef, .undef, .undef, .undef, .undef, .undef, .undef, .undef, .undef, .undef, .undef, .undef, .undef, .undef, .undef, .undef, .undef, .undef, .undef, .undef, .undef, .undef, .undef, .undef, .undef, .undef, .undef, .undef, .undef, .undef, .undef, .undef, .undef, .undef, .undef, .undef, .undef, .undef, .undef, .undef, .undef, .undef, .undef, .undef, .undef, .undef, .undef, .undef, .undef, .undef, .undef, .undef, .undef, .undef, .undef, .undef, .undef, .undef, .undef, .undef, .undef, .undef, .undef, .undef, .undef, .undef, .undef, .undef, .undef, .undef, .undef, .undef, .undef, .undef, .undef, .undef, .undef, .undef, .undef, .undef], []⟩ (leave (E_laws_heldBodyS k) Try.f33 (fin1 (.int .i64)))
theorem laws_heldBodyS.l2_0 (k : Nat) (x0 : List ((List (Int × Int × (List Int) × Int × Unit)) × Bool × Bool × Int × Int × Int × Int × Int × Unit)) (x1 : Int) (x5 : Int) : laws_heldBodyS.l2 k 0 x0 x1 x5 = none := by kernel_rfl
theorem laws_heldBodyS.l2_s (k n : Nat) (x0 : List ((List (Int × Int × (List Int) × Int × Unit)) × Bool × Bool × Int × Int × Int × Int × Int × Unit)) (x1 : Int) (x5 : Int) : laws_heldBodyS.l2 k (n + 1) x0 x1 x5 =
  iteB (decide (x5 < ((List.length x0) : Int))) (iteB (decide (0 ≤ x5)) (iteB (decide (x5 < ((List.length x0) : Int))) (bindO (laws_heldFrameS k ((List.getD x0 (Int.toNat x5) (Ty.dflt tA2)).1) x1) fun r1 => (iteB (decide (r1 < 0)) (some (-1)) (iteB (decide (0 ≤ x5)) (iteB (decide (x5 < ((List.length x0) : Int))) (iteB (!((((List.getD x0 (Int.toNat x5) (Ty.dflt tA2)).2).1) == ((Int.tmod r1 3) == 0))) (some (-1)) (iteB (decide (0 ≤ x5)) (iteB (decide (x5 < ((List.length x0) : Int))) (iteB (!(((((List.getD x0 (Int.toNat x5) (Ty.dflt tA2)).2).2).1) == ((Int.tmod (IntKind.wrap .i64 (r1 + 1)) 3) == 0))) (some (-1)) (iteB (decide (0 ≤ x5)) (iteB (decide (x5 < ((List.length x0) : Int))) (iteB ((((((List.getD x0 (Int.toNat x5) (Ty.dflt tA2)).2).2).2).1) != (IntKind.wrap .i64 ((IntKind.wrap .i64 (r1 + 1)) + 1))) (some (-1)) (iteB (decide (0 ≤ x5)) (iteB (decide (x5 < ((List.length x0) : Int))) (iteB (((((((List.getD x0 (Int.toNat x5) (Ty.dflt tA2)).2).2).2).2).1) != (IntKind.wrap .i64 ((IntKind.wrap .i64 ((IntKind.wrap .i64 (r1 + 1)) + 1)) + 1))) (some (-1)) (iteB (decide (0 ≤ x5)) (iteB (decide (x5 < ((List.length x0) : Int))) (iteB ((((((((List.getD x0 (Int.toNat x5) (Ty.dflt tA2)).2).2).2).2).2).1) != (IntKind.wrap .i64 ((IntKind.wrap .i64 ((IntKind.wrap .i64 ((IntKind.wrap .i64 (r1 + 1)) + 1)) + 1)) + 1))) (some (-1)) (iteB (decide (0 ≤ x5)) (iteB (decide (x5 < ((List.length x0) : Int))) (iteB (((((((((List.getD x0 (Int.toNat x5) (Ty.dflt tA2)).2).2).2).2).2).2).1) != (IntKind.wrap .i64 ((IntKind.wrap .i64 ((IntKind.wrap .i64 ((IntKind.wrap .i64 ((IntKind.wrap .i64 (r1 + 1)) + 1)) + 1)) + 1)) + 1))) (some (-1)) (iteB (decide (0 ≤ x5)) (iteB (decide (x5 < ((List.length x0) : Int))) (iteB ((((((((((List.getD x0 (Int.toNat x5) (Ty.dflt tA2)).2).2).2).2).2).2).2).1) != (IntKind.wrap .i64 ((IntKind.wrap .i64 ((IntKind.wrap .i64 ((IntKind.wrap .i64 ((IntKind.wrap .i64 ((IntKind.wrap .i64 (r1 + 1)) + 1)) + 1)) + 1)) + 1)) + 1))) (some (-1)) (laws_heldBodyS.l2 k n x0 (IntKind.wrap .i64 ((IntKind.wrap .i64 ((IntKind.wrap .i64 ((IntKind.wrap .i64 ((IntKind.wrap .i64 ((IntKind.wrap .i64 ((IntKind.wrap .i64 (r1 + 1)) + 1)) + 1)) + 1)) + 1)) + 1)) + 1)) (IntKind.wrap .i64 (x5 + 1)))) (none)) (none))) (none)) (none))) (none)) (none))) (none)) (none))) (none)) (none))) (none)) (none))) (none)) (none)))) (none)) (none)) (some x1) := by kernel_rfl
theorem laws_heldBodyS_e (k : Nat) (a1 : List ((List (Int × Int × (List Int) × Int × Unit)) × Bool × Bool × Int × Int × Int × Int × Int × Unit)) (a2 : Int) : laws_heldBodyS k a1 a2 =
  laws_heldBodyS.l2 k k a1 a2 0 := by kernel_rfl
theorem E_laws_heldBodyS_calls (k : Nat) : CallsOk Try.prog (E_laws_heldBodyS k) (arun Try.prog (E_laws_heldBodyS k) k) := by
  refine told_run (tyTOk _ _) ?_ (fun run h => regOk (tyTOk _ _) mixOk h) ?_ nameOk k
  · intro g m hg
    simp only [E_laws_heldBodyS] at hg
    split at hg
    · cases hg
      refine con_byVal fun ρ l K x hm => ?_
      split at hm
      · obtain ⟨c1, h1, hm⟩ := Option.bind_eq_some_iff.1 hm
        obtain ⟨c2, h2, hm⟩ := Option.bind_eq_some_iff.1 hm
        obtain ⟨r, hr, hm⟩ := Option.bind_eq_some_iff.1 hm
        exact ⟨_, hm, LawV.reads (.cons (.as h1) (.cons (.as h2) .nil)) (laws_heldFrameS_law k c1 c2 r hr)⟩
      · cases hm
    · cases hg; exact noCon_ok
    · cases hg
  · intro g hg r
    by_cases h : g = 33
    · subst h; simp [E_laws_heldBodyS] at hg
    · simp [E_laws_heldBodyS, h]
theorem f33_oklaws_heldBodyS : Try.prog.funcs[33]? = some Try.f33 := by kernel_rfl
theorem laws_heldBodyS_law (k : Nat) (a1 : List ((List (Int × Int × (List Int) × Int × Unit)) × Bool × Bool × Int × Int × Int × Int × Int × Unit)) (a2 : Int) (x : Int) (h : laws_heldBodyS k a1 a2 = some x) : LawV Try.prog 33 [.tv (.row tA2) a1, .int .i64 a2] (tvn (.int .i64) x) := by
  unfold laws_heldBodyS at h
  exact law1 (t := (.int .i64)) (tyTOk _ _) (E_laws_heldBodyS_calls k) mixOk f33_oklaws_heldBodyS (nameOk _ _ f33_oklaws_heldBodyS) (by kernel_rfl) h
/-! laws.heldWaitS -/
noncomputable def E_laws_heldWaitS (k : Nat) : Env := ⟨ty, fun g => match g with
  | 52 => some noCon
  | _ => none, fun f r => match f with | 52 => (match r with | 2 => some [0, 1, 5] | _ => none) | _ => none⟩
noncomputable def laws_heldWaitS (k : Nat) (a1 : List (Int × Int × Int × Int × Unit)) (a2 : Int) : Option (Int) :=
  abody (E_laws_heldWaitS k) (arun Try.prog (E_laws_heldWaitS k) k) k 52 Try.f52 [.tv (.row tA0) a1, .int .i64 a2] [] (fin1 (.int .i64))
noncomputable def laws_heldWaitS.l2 (k n : Nat) (x0 : List (Int × Int × Int × Int × Unit)) (x1 : Int) (x5 : Int) : Option (Int) :=
  resume (E_laws_heldWaitS k) 52 (acall (E_laws_heldWaitS k) (arun Try.prog (E_laws_heldWaitS k) k)) k [true, false, true, true] [n] (bodyOf Try.f52) ⟨[.tv (.row tA0) x0, .int .i64 x1, .undef, .undef, .undef, .int .i64 x5, .undef, .undef, .undef, .undef, .undef, .undef, .undef, .undef, .undef, .undef, .undef, .undef, .undef, .undef, .undef, .undef, .undef, .undef, .undef, .undef, .undef, .undef, .undef, .undef, .undef, .undef, .undef, .undef, .undef, .undef, .undef, .undef, .undef, .undef, .undef, .undef, .undef, .undef, .undef, .undef, .undef, .undef, .undef], []⟩ (leave (E_laws_heldWaitS k) Try.f52 (fin1 (.int .i64)))
theorem laws_heldWaitS.l2_0 (k : Nat) (x0 : List (Int × Int × Int × Int × Unit)) (x1 : Int) (x5 : Int) : laws_heldWaitS.l2 k 0 x0 x1 x5 = none := by kernel_rfl
theorem laws_heldWaitS.l2_s (k n : Nat) (x0 : List (Int × Int × Int × Int × Unit)) (x1 : Int) (x5 : Int) : laws_heldWaitS.l2 k (n + 1) x0 x1 x5 =
  iteB (decide (x5 < ((List.length x0) : Int))) (iteB (decide (0 ≤ x5)) (iteB (decide (x5 < ((List.length x0) : Int))) (iteB (((List.getD x0 (Int.toNat x5) (Ty.dflt tA0)).1) != x1) (some (-1)) (iteB (decide (0 ≤ x5)) (iteB (decide (x5 < ((List.length x0) : Int))) (iteB ((((List.getD x0 (Int.toNat x5) (Ty.dflt tA0)).2).1) != (IntKind.wrap .i64 (x1 + 1))) (some (-1)) (iteB (decide (0 ≤ x5)) (iteB (decide (x5 < ((List.length x0) : Int))) (iteB (((((List.getD x0 (Int.toNat x5) (Ty.dflt tA0)).2).2).1) != (IntKind.wrap .i64 ((IntKind.wrap .i64 (x1 + 1)) + 1))) (some (-1)) (iteB (decide (0 ≤ x5)) (iteB (decide (x5 < ((List.length x0) : Int))) (iteB ((((((List.getD x0 (Int.toNat x5) (Ty.dflt tA0)).2).2).2).1) != (IntKind.wrap .i64 ((IntKind.wrap .i64 ((IntKind.wrap .i64 (x1 + 1)) + 1)) + 1))) (some (-1)) (laws_heldWaitS.l2 k n x0 (IntKind.wrap .i64 ((IntKind.wrap .i64 ((IntKind.wrap .i64 ((IntKind.wrap .i64 (x1 + 1)) + 1)) + 1)) + 1)) (IntKind.wrap .i64 (x5 + 1)))) (none)) (none))) (none)) (none))) (none)) (none))) (none)) (none)) (some x1) := by kernel_rfl
theorem laws_heldWaitS_e (k : Nat) (a1 : List (Int × Int × Int × Int × Unit)) (a2 : Int) : laws_heldWaitS k a1 a2 =
  laws_heldWaitS.l2 k k a1 a2 0 := by kernel_rfl
theorem E_laws_heldWaitS_calls (k : Nat) : CallsOk Try.prog (E_laws_heldWaitS k) (arun Try.prog (E_laws_heldWaitS k) k) := by
  refine told_run (tyTOk _ _) ?_ (fun run h => regOk (tyTOk _ _) mixOk h) ?_ nameOk k
  · intro g m hg
    simp only [E_laws_heldWaitS] at hg
    split at hg
    · cases hg; exact noCon_ok
    · cases hg
  · intro g hg r
    by_cases h : g = 52
    · subst h; simp [E_laws_heldWaitS] at hg
    · simp [E_laws_heldWaitS, h]
theorem f52_oklaws_heldWaitS : Try.prog.funcs[52]? = some Try.f52 := by kernel_rfl
theorem laws_heldWaitS_law (k : Nat) (a1 : List (Int × Int × Int × Int × Unit)) (a2 : Int) (x : Int) (h : laws_heldWaitS k a1 a2 = some x) : LawV Try.prog 52 [.tv (.row tA0) a1, .int .i64 a2] (tvn (.int .i64) x) := by
  unfold laws_heldWaitS at h
  exact law1 (t := (.int .i64)) (tyTOk _ _) (E_laws_heldWaitS_calls k) mixOk f52_oklaws_heldWaitS (nameOk _ _ f52_oklaws_heldWaitS) (by kernel_rfl) h
/-! laws.heldChanS -/
noncomputable def E_laws_heldChanS (k : Nat) : Env := ⟨ty, fun g => match g with
  | 35 => some (byVal fun ρ l K => match l with
    | [b1, b2] => (b1.as (.row (.int .i64))).bind fun c1 => (b2.as (.int .i64)).bind fun c2 => (laws_heldIntS k c1 c2).bind fun r => K (tvn (.int .i64) r)
    | _ => none)
  | 52 => some (byVal fun ρ l K => match l with
    | [b1, b2] => (b1.as (.row tA0)).bind fun c1 => (b2.as (.int .i64)).bind fun c2 => (laws_heldWaitS k c1 c2).bind fun r => K (tvn (.int .i64) r)
    | _ => none)
  | 34 => some noCon
  | _ => none, fun f r => match f with | 34 => (match r with | 2 => some [0, 1, 5] | _ => none) | _ => none⟩
noncomputable def laws_heldChanS (k : Nat) (a1 : List (Int × Bool × (List Int) × (List (Int × Int × Int × Int × Unit)) × (List (Int × Int × Int × Int × Unit)) × Unit)) (a2 : Int) : Option (Int) :=
  abody (E_laws_heldChanS k) (arun Try.prog (E_laws_heldChanS k) k) k 34 Try.f34 [.tv (.row tA3) a1, .int .i64 a2] [] (fin1 (.int .i64))
noncomputable def laws_heldChanS.l2 (k n : Nat) (x0 : List (Int × Bool × (List Int) × (List (Int × Int × Int × Int × Unit)) × (List (Int × Int × Int × Int × Unit)) × Unit)) (x1 : Int) (x5 : Int) : Option (Int) :=
  resume (E_laws_heldChanS k) 34 (acall (E_laws_heldChanS k) (arun Try.prog (E_laws_heldChanS k) k)) k [true, false, true, true] [n] (bodyOf Try.f34) ⟨[.tv (.row tA3) x0, .int .i64 x1, .undef, .undef, .undef, .int .i64 x5, .undef, .undef, .undef, .undef, .undef, .undef, .undef, .undef, .undef, .undef, .undef, .undef, .undef, .undef, .undef, .undef, .undef, .undef, .undef, .undef, .undef, .undef, .undef, .undef, .undef, .undef, .undef, .undef, .undef, .undef, .undef, .undef, .undef, .undef, .undef, .undef, .undef, .undef, .undef, .undef, .undef, .undef, .undef, .undef, .undef, .undef, .undef, .undef, .undef, .undef, .undef, .undef, .undef, .undef], []⟩ (leave (E_laws_heldChanS k) Try.f34 (fin1 (.int .i64)))
theorem laws_heldChanS.l2_0 (k : Nat) (x0 : List (Int × Bool × (List Int) × (List (Int × Int × Int × Int × Unit)) × (List (Int × Int × Int × Int × Unit)) × Unit)) (x1 : Int) (x5 : Int) : laws_heldChanS.l2 k 0 x0 x1 x5 = none := by kernel_rfl
theorem laws_heldChanS.l2_s (k n : Nat) (x0 : List (Int × Bool × (List Int) × (List (Int × Int × Int × Int × Unit)) × (List (Int × Int × Int × Int × Unit)) × Unit)) (x1 : Int) (x5 : Int) : laws_heldChanS.l2 k (n + 1) x0 x1 x5 =
  iteB (decide (x5 < ((List.length x0) : Int))) (iteB (decide (0 ≤ x5)) (iteB (decide (x5 < ((List.length x0) : Int))) (iteB (((List.getD x0 (Int.toNat x5) (Ty.dflt tA3)).1) != x1) (some (-1)) (iteB (decide (0 ≤ x5)) (iteB (decide (x5 < ((List.length x0) : Int))) (iteB (!((((List.getD x0 (Int.toNat x5) (Ty.dflt tA3)).2).1) == ((Int.tmod (IntKind.wrap .i64 (x1 + 1)) 3) == 0))) (some (-1)) (iteB (decide (0 ≤ x5)) (iteB (decide (x5 < ((List.length x0) : Int))) (bindO (laws_heldIntS k ((((List.getD x0 (Int.toNat x5) (Ty.dflt tA3)).2).2).1) (IntKind.wrap .i64 ((IntKind.wrap .i64 (x1 + 1)) + 1))) fun r1 => (iteB (decide (r1 < 0)) (some (-1)) (iteB (decide (0 ≤ x5)) (iteB (decide (x5 < ((List.length x0) : Int))) (bindO (laws_heldWaitS k (((((List.getD x0 (Int.toNat x5) (Ty.dflt tA3)).2).2).2).1) r1) fun r2 => (iteB (decide (r2 < 0)) (some (-1)) (iteB (decide (0 ≤ x5)) (iteB (decide (x5 < ((List.length x0) : Int))) (bindO (laws_heldWaitS k ((((((List.getD x0 (Int.toNat x5) (Ty.dflt tA3)).2).2).2).2).1) r2) fun r3 => (iteB (decide (r3 < 0)) (some (-1)) (laws_heldChanS.l2 k n x0 r3 (IntKind.wrap .i64 (x5 + 1))))) (none)) (none)))) (none)) (none)))) (none)) (none))) (none)) (none))) (none)) (none)) (some x1) := by kernel_rfl
theorem laws_heldChanS_e (k : Nat) (a1 : List (Int × Bool × (List Int) × (List (Int × Int × Int × Int × Unit)) × (List (Int × Int × Int × Int × Unit)) × Unit)) (a2 : Int) : laws_heldChanS k a1 a2 =
  laws_heldChanS.l2 k k a1 a2 0 := by kernel_rfl
theorem E_laws_heldChanS_calls (k : Nat) : CallsOk Try.prog (E_laws_heldChanS k) (arun Try.prog (E_laws_heldChanS k) k) := by
  refine told_run (tyTOk _ _) ?_ (fun run h => regOk (tyTOk _ _) mixOk h) ?_ nameOk k
  · intro g m hg
    simp only [E_laws_heldChanS] at hg
    split at hg
    · cases hg
      refine con_byVal fun ρ l K x hm => ?_
      split at hm
      · obtain ⟨c1, h1, hm⟩ := Option.bind_eq_some_iff.1 hm
        obtain ⟨c2, h2, hm⟩ := Option.bind_eq_some_iff.1 hm
        obtain ⟨r, hr, hm⟩ := Option.bind_eq_some_iff.1 hm
        exact ⟨_, hm, LawV.reads (.cons (.as h1) (.cons (.as h2) .nil)) (laws_heldIntS_law k c1 c2 r hr)⟩
      · cases hm
    · cases hg
      refine con_byVal fun ρ l K x hm => ?_
      split at hm
      · obtain ⟨c1, h1, hm⟩ := Option.bind_eq_some_iff.1 hm
        obtain ⟨c2, h2, hm⟩ := Option.bind_eq_some_iff.1 hm
        obtain ⟨r, hr, hm⟩ := Option.bind_eq_some_iff.1 hm
        exact ⟨_, hm, LawV.reads (.cons (.as h1) (.cons (.as h2) .nil)) (laws_heldWaitS_law k c1 c2 r hr)⟩
      · cases hm
    · cases hg; exact noCon_ok
    · cases hg
  · intro g hg r
    by_cases h : g = 34
    · subst h; simp [E_laws_heldChanS] at hg
    · simp [E_laws_heldChanS, h]
theorem f34_oklaws_heldChanS : Try.prog.funcs[34]? = some Try.f34 := by kernel_rfl
theorem laws_heldChanS_law (k : Nat) (a1 : List (Int × Bool × (List Int) × (List (Int × Int × Int × Int × Unit)) × (List (Int × Int × Int × Int × Unit)) × Unit)) (a2 : Int) (x : Int) (h : laws_heldChanS k a1 a2 = some x) : LawV Try.prog 34 [.tv (.row tA3) a1, .int .i64 a2] (tvn (.int .i64) x) := by
  unfold laws_heldChanS at h
  exact law1 (t := (.int .i64)) (tyTOk _ _) (E_laws_heldChanS_calls k) mixOk f34_oklaws_heldChanS (nameOk _ _ f34_oklaws_heldChanS) (by kernel_rfl) h
/-! laws.heldWorld -/
noncomputable def E_laws_heldWorld (k : Nat) : Env := ⟨ty, fun g => match g with
  | 32 => some (byVal fun ρ l K => match l with
    | [b1, b2] => (b1.as (.row tA5)).bind fun c1 => (b2.as (.int .i64)).bind fun c2 => (laws_heldUnitS k c1 c2).bind fun r => K (tvn (.int .i64) r)
    | _ => none)
  | 33 => some (byVal fun ρ l K => match l with
    | [b1, b2] => (b1.as (.row tA2)).bind fun c1 => (b2.as (.int .i64)).bind fun c2 => (laws_heldBodyS k c1 c2).bind fun r => K (tvn (.int .i64) r)
    | _ => none)
  | 34 => some (byVal fun ρ l K => match l with
    | [b1, b2] => (b1.as (.row tA3)).bind fun c1 => (b2.as (.int .i64)).bind fun c2 => (laws_heldChanS k c1 c2).bind fun r => K (tvn (.int .i64) r)
    | _ => none)
  | 35 => some (byVal fun ρ l K => match l with
    | [b1, b2] => (b1.as (.row (.int .i64))).bind fun c1 => (b2.as (.int .i64)).bind fun c2 => (laws_heldIntS k c1 c2).bind fun r => K (tvn (.int .i64) r)
    | _ => none)
  | _ => none, fun _ _ => none⟩
noncomputable def laws_heldWorld (k : Nat) (a1 : (List (ByteArray × Int × Int × (List (Int × Int × Int × Int × Int × ByteArray × (List Int) × Unit)) × Unit)) × (List ((List (Int × Int × (List Int) × Int × Unit)) × Bool × Bool × Int × Int × Int × Int × Int × Unit)) × (List (Int × Bool × (List Int) × (List (Int × Int × Int × Int × Unit)) × (List (Int × Int × Int × Int × Unit)) × Unit)) × (List Int) × Bool × Int × Unit) (a2 : Int) : Option (Int) :=
  abody (E_laws_heldWorld k) (arun Try.prog (E_laws_heldWorld k) k) k 12 Try.f12 [.tv (.pair (.row tA5) (.pair (.row tA2) (.pair (.row tA3) (.pair (.row (.int .i64)) (.pair .bool (.pair (.int .i64) .unit)))))) a1, .int .i64 a2] [] (fin1 (.int .i64))
theorem laws_heldWorld_e (k : Nat) (a1 : (List (ByteArray × Int × Int × (List (Int × Int × Int × Int × Int × ByteArray × (List Int) × Unit)) × Unit)) × (List ((List (Int × Int × (List Int) × Int × Unit)) × Bool × Bool × Int × Int × Int × Int × Int × Unit)) × (List (Int × Bool × (List Int) × (List (Int × Int × Int × Int × Unit)) × (List (Int × Int × Int × Int × Unit)) × Unit)) × (List Int) × Bool × Int × Unit) (a2 : Int) : laws_heldWorld k a1 a2 =
  bindO (laws_heldUnitS k a1.1 a2) fun r1 => (iteB (decide (r1 < 0)) (some (-1)) (bindO (laws_heldBodyS k a1.2.1 r1) fun r2 => (iteB (decide (r2 < 0)) (some (-1)) (bindO (laws_heldChanS k a1.2.2.1 r2) fun r3 => (iteB (decide (r3 < 0)) (some (-1)) (bindO (laws_heldIntS k a1.2.2.2.1 r3) fun r4 => (iteB (decide (r4 < 0)) (some (-1)) (some r4)))))))) := by kernel_rfl
theorem E_laws_heldWorld_calls (k : Nat) : CallsOk Try.prog (E_laws_heldWorld k) (arun Try.prog (E_laws_heldWorld k) k) := by
  refine told_run (tyTOk _ _) ?_ (fun run h => regOk (tyTOk _ _) mixOk h) ?_ nameOk k
  · intro g m hg
    simp only [E_laws_heldWorld] at hg
    split at hg
    · cases hg
      refine con_byVal fun ρ l K x hm => ?_
      split at hm
      · obtain ⟨c1, h1, hm⟩ := Option.bind_eq_some_iff.1 hm
        obtain ⟨c2, h2, hm⟩ := Option.bind_eq_some_iff.1 hm
        obtain ⟨r, hr, hm⟩ := Option.bind_eq_some_iff.1 hm
        exact ⟨_, hm, LawV.reads (.cons (.as h1) (.cons (.as h2) .nil)) (laws_heldUnitS_law k c1 c2 r hr)⟩
      · cases hm
    · cases hg
      refine con_byVal fun ρ l K x hm => ?_
      split at hm
      · obtain ⟨c1, h1, hm⟩ := Option.bind_eq_some_iff.1 hm
        obtain ⟨c2, h2, hm⟩ := Option.bind_eq_some_iff.1 hm
        obtain ⟨r, hr, hm⟩ := Option.bind_eq_some_iff.1 hm
        exact ⟨_, hm, LawV.reads (.cons (.as h1) (.cons (.as h2) .nil)) (laws_heldBodyS_law k c1 c2 r hr)⟩
      · cases hm
    · cases hg
      refine con_byVal fun ρ l K x hm => ?_
      split at hm
      · obtain ⟨c1, h1, hm⟩ := Option.bind_eq_some_iff.1 hm
        obtain ⟨c2, h2, hm⟩ := Option.bind_eq_some_iff.1 hm
        obtain ⟨r, hr, hm⟩ := Option.bind_eq_some_iff.1 hm
        exact ⟨_, hm, LawV.reads (.cons (.as h1) (.cons (.as h2) .nil)) (laws_heldChanS_law k c1 c2 r hr)⟩
      · cases hm
    · cases hg
      refine con_byVal fun ρ l K x hm => ?_
      split at hm
      · obtain ⟨c1, h1, hm⟩ := Option.bind_eq_some_iff.1 hm
        obtain ⟨c2, h2, hm⟩ := Option.bind_eq_some_iff.1 hm
        obtain ⟨r, hr, hm⟩ := Option.bind_eq_some_iff.1 hm
        exact ⟨_, hm, LawV.reads (.cons (.as h1) (.cons (.as h2) .nil)) (laws_heldIntS_law k c1 c2 r hr)⟩
      · cases hm
    · cases hg
  · intro g _ r; rfl
theorem f12_oklaws_heldWorld : Try.prog.funcs[12]? = some Try.f12 := by kernel_rfl
theorem laws_heldWorld_law (k : Nat) (a1 : (List (ByteArray × Int × Int × (List (Int × Int × Int × Int × Int × ByteArray × (List Int) × Unit)) × Unit)) × (List ((List (Int × Int × (List Int) × Int × Unit)) × Bool × Bool × Int × Int × Int × Int × Int × Unit)) × (List (Int × Bool × (List Int) × (List (Int × Int × Int × Int × Unit)) × (List (Int × Int × Int × Int × Unit)) × Unit)) × (List Int) × Bool × Int × Unit) (a2 : Int) (x : Int) (h : laws_heldWorld k a1 a2 = some x) : LawV Try.prog 12 [.tv (.pair (.row tA5) (.pair (.row tA2) (.pair (.row tA3) (.pair (.row (.int .i64)) (.pair .bool (.pair (.int .i64) .unit)))))) a1, .int .i64 a2] (tvn (.int .i64) x) := by
  unfold laws_heldWorld at h
  exact law1 (t := (.int .i64)) (tyTOk _ _) (E_laws_heldWorld_calls k) mixOk f12_oklaws_heldWorld (nameOk _ _ f12_oklaws_heldWorld) (by kernel_rfl) h
/-! laws.FnExactWorldNew -/
noncomputable def E_laws_FnExactWorldNew (k : Nat) : Env := ⟨ty, fun g => match g with
  | 4 => some (byVal fun ρ l K => match l with
    | [b1, b2] => (b1.as (.row tA5)).bind fun c1 => (b2.as (.int .i64)).bind fun c2 => (laws_szUnitS k c1 c2).bind fun r => K (tvn (.int .i64) r)
    | _ => none)
  | 6 => some (byNew (.row tA5) fun ρ l K => match l with
    | [b1] => (b1.as (.row tA5)).bind fun c1 => (laws_toUnitS k c1).bind fun r => K r
    | _ => none)
  | 5 => some (byNewT (.pair (.pair (.row tA5) (.pair (.row tA2) (.pair (.row tA3) (.pair (.row (.int .i64)) (.pair .bool (.pair (.int .i64) .unit)))))) (.pair .bool .unit)) fun ρ l K => match l with
    | [b1] => (b1.as (.row tA5)).bind fun c1 => (spec_WorldNew k c1).bind fun r => K r
    | _ => none)
  | 7 => some (byNewT (.pair (.pair (.row tA5) (.pair (.row tA2) (.pair (.row tA3) (.pair (.row (.int .i64)) (.pair .bool (.pair (.int .i64) .unit)))))) (.pair .bool .unit)) fun ρ l K => match l with
    | [b1] => (b1.as (.row tA5)).bind fun c1 => (impl_WorldNew k c1).bind fun r => K r
    | _ => none)
  | 8 => some (byVal fun ρ l K => match l with
    | [b1, b2] => (b1.as (.pair (.row tA5) (.pair (.row tA2) (.pair (.row tA3) (.pair (.row (.int .i64)) (.pair .bool (.pair (.int .i64) .unit))))))).bind fun c1 => (b2.as (.pair (.row tA5) (.pair (.row tA2) (.pair (.row tA3) (.pair (.row (.int .i64)) (.pair .bool (.pair (.int .i64) .unit))))))).bind fun c2 => (laws_eqWorld k c1 c2).bind fun r => K (tvn .bool r)
    | _ => none)
  | 9 => some (byVal fun ρ l K => match l with
    | [b1, b2] => (b1.as (.row tA5)).bind fun c1 => (b2.as (.row tA5)).bind fun c2 => (laws_eqUnitS k c1 c2).bind fun r => K (tvn .bool r)
    | _ => none)
  | 10 => some (byMutD tA5 fun ρ xs l K => match l with
    | [b1] => (b1.as (.int .i64)).bind fun c1 => (laws_markUnitS k xs c1).bind fun r => K (tvM (.int .i64) r.1) r.2
    | _ => none)
  | 29 => some (byMutD tA2 fun ρ xs l K => match l with
    | [b1] => (b1.as (.int .i64)).bind fun c1 => (laws_markBodyS k xs c1).bind fun r => K (tvM (.int .i64) r.1) r.2
    | _ => none)
  | 30 => some (byMutD tA3 fun ρ xs l K => match l with
    | [b1] => (b1.as (.int .i64)).bind fun c1 => (laws_markChanS k xs c1).bind fun r => K (tvM (.int .i64) r.1) r.2
    | _ => none)
  | 31 => some (byMutD (.int .i64) fun ρ xs l K => match l with
    | [b1] => (b1.as (.int .i64)).bind fun c1 => (laws_markIntS k xs c1).bind fun r => K (tvM (.int .i64) r.1) r.2
    | _ => none)
  | 12 => some (byVal fun ρ l K => match l with
    | [b1, b2] => (b1.as (.pair (.row tA5) (.pair (.row tA2) (.pair (.row tA3) (.pair (.row (.int .i64)) (.pair .bool (.pair (.int .i64) .unit))))))).bind fun c1 => (b2.as (.int .i64)).bind fun c2 => (laws_heldWorld k c1 c2).bind fun r => K (tvn (.int .i64) r)
    | _ => none)
  | 3 => some noCon
  | _ => none, fun f r => match f with | 3 => (match r with | 10 => some [0, 4, 5, 6, 7, 8] | 16 => some [0, 4, 5, 7] | 27 => some [7, 10] | _ => none) | _ => none⟩
noncomputable def laws_FnExactWorldNew (k : Nat) (a1 : List (ByteArray × Int × Int × (List (Int × Int × Int × Int × Int × ByteArray × (List Int) × Unit)) × Unit)) : Option (Bool) :=
  abody (E_laws_FnExactWorldNew k) (arun Try.prog (E_laws_FnExactWorldNew k) 9) k 3 Try.f3 [.tv (.row tA5) a1] [] (fin1 .bool)
noncomputable def laws_FnExactWorldNew.j10 (k : Nat) (x0 : List (ByteArray × Int × Int × (List (Int × Int × Int × Int × Int × ByteArray × (List Int) × Unit)) × Unit)) (x5 : Bool) (x8 : Bool) (y0_0_4 : Bool) (y0_0_5 : Int) (y1 : List (ByteArray × Int × Int × (List (Int × Int × Int × Int × Int × ByteArray × (List Int) × Unit)) × Unit)) (y2 : List ((List (Int × Int × (List Int) × Int × Unit)) × Bool × Bool × Int × Int × Int × Int × Int × Unit)) (y3 : List (Int × Bool × (List Int) × (List (Int × Int × Int × Int × Unit)) × (List (Int × Int × Int × Int × Unit)) × Unit)) (y4 : List Int) (y5 : List (ByteArray × Int × Int × (List (Int × Int × Int × Int × Int × ByteArray × (List Int) × Unit)) × Unit)) (y6_0_4 : Bool) (y6_0_5 : Int) (y7 : List (ByteArray × Int × Int × (List (Int × Int × Int × Int × Int × ByteArray × (List Int) × Unit)) × Unit)) (y8 : List ((List (Int × Int × (List Int) × Int × Unit)) × Bool × Bool × Int × Int × Int × Int × Int × Unit)) (y9 : List (Int × Bool × (List Int) × (List (Int × Int × Int × Int × Unit)) × (List (Int × Int × Int × Int × Unit)) × Unit)) (y10 : List Int) : Option (Bool) :=
  resume (E_laws_FnExactWorldNew k) 3 (acall (E_laws_FnExactWorldNew k) (arun Try.prog (E_laws_FnExactWorldNew k) 9)) k [true, true, true, true, true, true, true, true] [] (bodyOf Try.f3) ⟨[.tv (.row tA5) x0, .undef, .undef, .undef, .ptr 0 0 0, .bool x5, .sl 5, .ptr 6 0 0, .bool x8, .undef, .undef, .undef, .undef, .undef, .undef, .undef, .undef, .undef, .undef, .undef, .undef, .undef, .undef, .undef, .undef, .undef, .undef, .undef, .undef, .undef, .undef, .undef, .undef, .undef, .undef, .undef, .undef, .undef, .undef, .undef, .undef, .undef, .undef, .undef, .undef, .undef, .undef, .undef, .undef, .undef, .undef, .undef, .undef, .undef, .undef, .undef, .undef, .undef, .undef, .undef, .undef, .undef, .undef, .undef, .undef, .undef, .undef, .undef, .undef, .undef, .undef, .undef, .undef, .undef, .undef, .undef, .undef, .undef, .undef, .undef, .undef, .undef, .undef, .undef, .undef, .undef, .undef, .undef, .undef, .undef, .undef, .undef, .undef, .undef, .undef, .undef], [some ⟨.raw true 6 (.agg [.nils, .nils, .nils, .nils, .bool false, .int .i64 0]) [.agg [.sl 1, .sl 2, .sl 3, .sl 4, .bool y0_0_4, .int .i64 y0_0_5]], true⟩, some ⟨.deep false tA5 y1, false⟩, some ⟨.deep false tA2 y2, false⟩, some ⟨.deep false tA3 y3, false⟩, some ⟨.typed (.int .i64) y4, false⟩, some ⟨.deep false tA5 y5, false⟩, some ⟨.raw true 6 (.agg [.nils, .nils, .nils, .nils, .bool false, .int .i64 0]) [.agg [.sl 7, .sl 8, .sl 9, .sl 10, .bool y6_0_4, .int .i64 y6_0_5]], true⟩, some ⟨.deep false tA5 y7, false⟩, some ⟨.deep false tA2 y8, false⟩, some ⟨.deep false tA3 y9, false⟩, some ⟨.typed (.int .i64) y10, false⟩]⟩ (leave (E_laws_FnExactWorldNew k) Try.f3 (fin1 .bool))
noncomputable def laws_FnExactWorldNew.j16 (k : Nat) (x0 : List (ByteArray × Int × Int × (List (Int × Int × Int × Int × Int × ByteArray × (List Int) × Unit)) × Unit)) (x5 : Bool) (y0_0_4 : Bool) (y0_0_5 : Int) (y1 : List (ByteArray × Int × Int × (List (Int × Int × Int × Int × Int × ByteArray × (List Int) × Unit)) × Unit)) (y2 : List ((List (Int × Int × (List Int) × Int × Unit)) × Bool × Bool × Int × Int × Int × Int × Int × Unit)) (y3 : List (Int × Bool × (List Int) × (List (Int × Int × Int × Int × Unit)) × (List (Int × Int × Int × Int × Unit)) × Unit)) (y4 : List Int) (y5_0_4 : Bool) (y5_0_5 : Int) (y6 : List (ByteArray × Int × Int × (List (Int × Int × Int × Int × Int × ByteArray × (List Int) × Unit)) × Unit)) (y7 : List ((List (Int × Int × (List Int) × Int × Unit)) × Bool × Bool × Int × Int × Int × Int × Int × Unit)) (y8 : List (Int × Bool × (List Int) × (List (Int × Int × Int × Int × Unit)) × (List (Int × Int × Int × Int × Unit)) × Unit)) (y9 : List Int) : Option (Bool) :=
  resume (E_laws_FnExactWorldNew k) 3 (acall (E_laws_FnExactWorldNew k) (arun Try.prog (E_laws_FnExactWorldNew k) 9)) k [true, true, true, true, true, true, true, true, true, true, true, true] [] (bodyOf Try.f3) ⟨[.tv (.row tA5) x0, .undef, .undef, .undef, .ptr 0 0 0, .bool x5, .undef, .ptr 5 0 0, .undef, .undef, .undef, .undef, .undef, .undef, .undef, .undef, .undef, .undef, .undef, .undef, .undef, .undef, .undef, .undef, .undef, .undef, .undef, .undef, .undef, .undef, .undef, .undef, .undef, .undef, .undef, .undef, .undef, .undef, .undef, .undef, .undef, .undef, .undef, .undef, .undef, .undef, .undef, .undef, .undef, .undef, .undef, .undef, .undef, .undef, .undef, .undef, .undef, .undef, .undef, .undef, .undef, .undef, .undef, .undef, .undef, .undef, .undef, .undef, .undef, .undef, .undef, .undef, .undef, .undef, .undef, .undef, .undef, .undef, .undef, .undef, .undef, .undef, .undef, .undef, .undef, .undef, .undef, .undef, .undef, .undef, .undef, .undef, .undef, .undef, .undef, .undef], [some ⟨.raw true 6 (.agg [.nils, .nils, .nils, .nils, .bool false, .int .i64 0]) [.agg [.sl 1, .sl 2, .sl 3, .sl 4, .bool y0_0_4, .int .i64 y0_0_5]], true⟩, some ⟨.deep false tA5 y1, false⟩, some ⟨.deep false tA2 y2, false⟩, some ⟨.deep false tA3 y3, false⟩, some ⟨.typed (.int .i64) y4, false⟩, some ⟨.raw true 6 (.agg [.nils, .nils, .nils, .nils, .bool false, .int .i64 0]) [.agg [.sl 6, .sl 7, .sl 8, .sl 9, .bool y5_0_4, .int .i64 y5_0_5]], true⟩, some ⟨.deep false tA5 y6, false⟩, some ⟨.deep false tA2 y7, false⟩, some ⟨.deep false tA3 y8, false⟩, some ⟨.typed (.int .i64) y9, false⟩]⟩ (leave (E_laws_FnExactWorldNew k) Try.f3 (fin1 .bool))
noncomputable def laws_FnExactWorldNew.j27 (k : Nat) (x10 : Int) (y0_0_4 : Bool) (y0_0_5 : Int) (y1 : List (ByteArray × Int × Int × (List (Int × Int × Int × Int × Int × ByteArray × (List Int) × Unit)) × Unit)) (y2 : List ((List (Int × Int × (List Int) × Int × Unit)) × Bool × Bool × Int × Int × Int × Int × Int × Unit)) (y3 : List (Int × Bool × (List Int) × (List (Int × Int × Int × Int × Unit)) × (List (Int × Int × Int × Int × Unit)) × Unit)) (y4 : List Int) : Option (Bool) :=
  resume (E_laws_FnExactWorldNew k) 3 (acall (E_laws_FnExactWorldNew k) (arun Try.prog (E_laws_FnExactWorldNew k) 9)) k [true, true, true, true, true, true, true, true, true, true, true, true, true, true, true, true, true, true, true, true] [] (bodyOf Try.f3) ⟨[.undef, .undef, .undef, .undef, .undef, .undef, .undef, .ptr 0 0 0, .undef, .undef, .int .i64 x10, .undef, .undef, .undef, .undef, .undef, .undef, .undef, .undef, .undef, .undef, .undef, .undef, .undef, .undef, .undef, .undef, .undef, .undef, .undef, .undef, .undef, .undef, .undef, .undef, .undef, .undef, .undef, .undef, .undef, .undef, .undef, .undef, .undef, .undef, .undef, .undef, .undef, .undef, .undef, .undef, .undef, .undef, .undef, .undef, .undef, .undef, .undef, .undef, .undef, .undef, .undef, .undef, .undef, .undef, .undef, .undef, .undef, .undef, .undef, .undef, .undef, .undef, .undef, .undef, .undef, .undef, .undef, .undef, .undef, .undef, .undef, .undef, .undef, .undef, .undef, .undef, .undef, .undef, .undef, .undef, .undef, .undef, .undef, .undef, .undef], [some ⟨.raw true 6 (.agg [.nils, .nils, .nils, .nils, .bool false, .int .i64 0]) [.agg [.sl 1, .sl 2, .sl 3, .sl 4, .bool y0_0_4, .int .i64 y0_0_5]], true⟩, some ⟨.deep false tA5 y1, false⟩, some ⟨.deep false tA2 y2, false⟩, some ⟨.deep false tA3 y3, false⟩, some ⟨.typed (.int .i64) y4, false⟩]⟩ (leave (E_laws_FnExactWorldNew k) Try.f3 (fin1 .bool))
theorem laws_FnExactWorldNew.j10_e (k : Nat) (x0 : List (ByteArray × Int × Int × (List (Int × Int × Int × Int × Int × ByteArray × (List Int) × Unit)) × Unit)) (x5 : Bool) (x8 : Bool) (y0_0_4 : Bool) (y0_0_5 : Int) (y1 : List (ByteArray × Int × Int × (List (Int × Int × Int × Int × Int × ByteArray × (List Int) × Unit)) × Unit)) (y2 : List ((List (Int × Int × (List Int) × Int × Unit)) × Bool × Bool × Int × Int × Int × Int × Int × Unit)) (y3 : List (Int × Bool × (List Int) × (List (Int × Int × Int × Int × Unit)) × (List (Int × Int × Int × Int × Unit)) × Unit)) (y4 : List Int) (y5 : List (ByteArray × Int × Int × (List (Int × Int × Int × Int × Int × ByteArray × (List Int) × Unit)) × Unit)) (y6_0_4 : Bool) (y6_0_5 : Int) (y7 : List (ByteArray × Int × Int × (List (Int × Int × Int × Int × Int × ByteArray × (List Int) × Unit)) × Unit)) (y8 : List ((List (Int × Int × (List Int) × Int × Unit)) × Bool × Bool × Int × Int × Int × Int × Int × Unit)) (y9 : List (Int × Bool × (List Int) × (List (Int × Int × Int × Int × Unit)) × (List (Int × Int × Int × Int × Unit)) × Unit)) (y10 : List Int) : laws_FnExactWorldNew.j10 k x0 x5 x8 y0_0_4 y0_0_5 y1 y2 y3 y4 y5 y6_0_4 y6_0_5 y7 y8 y9 y10 =
  bindO (laws_toUnitS k x0) fun r7 => (bindO (laws_eqUnitS k y5 r7) fun r8 => (iteB (!r8) (some false) (bindO (laws_markUnitS k y5 1) fun r9 => (iteB (!(decide (r9.1 < 0))) (bindO (laws_eqWorld k (y7, y8, y9, y10, y6_0_4, y6_0_5, ()) (y1, y2, y3, y4, y0_0_4, y0_0_5, ())) fun r10 => (iteB (!(!r10)) (iteB (!(x8 == x5)) (some false) (gate k (laws_FnExactWorldNew.j16 k x0 x5 y0_0_4 y0_0_5 y1 y2 y3 y4 y6_0_4 y6_0_5 y7 y8 y9 y10))) (some false))) (some false))))) := by kernel_rfl
theorem laws_FnExactWorldNew.j16_e (k : Nat) (x0 : List (ByteArray × Int × Int × (List (Int × Int × Int × Int × Int × ByteArray × (List Int) × Unit)) × Unit)) (x5 : Bool) (y0_0_4 : Bool) (y0_0_5 : Int) (y1 : List (ByteArray × Int × Int × (List (Int × Int × Int × Int × Int × ByteArray × (List Int) × Unit)) × Unit)) (y2 : List ((List (Int × Int × (List Int) × Int × Unit)) × Bool × Bool × Int × Int × Int × Int × Int × Unit)) (y3 : List (Int × Bool × (List Int) × (List (Int × Int × Int × Int × Unit)) × (List (Int × Int × Int × Int × Unit)) × Unit)) (y4 : List Int) (y5_0_4 : Bool) (y5_0_5 : Int) (y6 : List (ByteArray × Int × Int × (List (Int × Int × Int × Int × Int × ByteArray × (List Int) × Unit)) × Unit)) (y7 : List ((List (Int × Int × (List Int) × Int × Unit)) × Bool × Bool × Int × Int × Int × Int × Int × Unit)) (y8 : List (Int × Bool × (List Int) × (List (Int × Int × Int × Int × Unit)) × (List (Int × Int × Int × Int × Unit)) × Unit)) (y9 : List Int) : laws_FnExactWorldNew.j16 k x0 x5 y0_0_4 y0_0_5 y1 y2 y3 y4 y5_0_4 y5_0_5 y6 y7 y8 y9 =
  bindO (laws_markUnitS k y6 1) fun r11 => (bindO (laws_markBodyS k y7 r11.1) fun r12 => (bindO (laws_markChanS k y8 r12.1) fun r13 => (bindO (laws_markIntS k y9 r13.1) fun r14 => (bindO (laws_heldWorld k (r11.2, r12.2, r13.2, r14.2, y5_0_4, y5_0_5, ()) 1) fun r15 => (iteB (decide (r15 < 0)) (some false) (iteB (r15 != r14.1) (some false) (bindO (laws_toUnitS k x0) fun r16 => (bindO (impl_WorldNew k r16) fun r17 => (bindO (laws_eqWorld k (r17.1.1, r17.1.2.1, r17.1.2.2.1, r17.1.2.2.2.1, r17.1.2.2.2.2.1, r17.1.2.2.2.2.2.1, ()) (y1, y2, y3, y4, y0_0_4, y0_0_5, ())) fun r18 => (iteB (!(!r18)) (iteB (!(r17.2.1 == x5)) (some false) (gate k (laws_FnExactWorldNew.j27 k r14.1 y5_0_4 y5_0_5 r11.2 r12.2 r13.2 r14.2))) (some false))))))))))) := by kernel_rfl
theorem laws_FnExactWorldNew.j27_e (k : Nat) (x10 : Int) (y0_0_4 : Bool) (y0_0_5 : Int) (y1 : List (ByteArray × Int × Int × (List (Int × Int × Int × Int × Int × ByteArray × (List Int) × Unit)) × Unit)) (y2 : List ((List (Int × Int × (List Int) × Int × Unit)) × Bool × Bool × Int × Int × Int × Int × Int × Unit)) (y3 : List (Int × Bool × (List Int) × (List (Int × Int × Int × Int × Unit)) × (List (Int × Int × Int × Int × Unit)) × Unit)) (y4 : List Int) : laws_FnExactWorldNew.j27 k x10 y0_0_4 y0_0_5 y1 y2 y3 y4 =
  bindO (laws_heldWorld k (y1, y2, y3, y4, y0_0_4, y0_0_5, ()) 1) fun r19 => (iteB (decide (r19 < 0)) (some false) (iteB (r19 != x10) (some false) (some true))) := by kernel_rfl
theorem laws_FnExactWorldNew_e (k : Nat) (a1 : List (ByteArray × Int × Int × (List (Int × Int × Int × Int × Int × ByteArray × (List Int) × Unit)) × Unit)) : laws_FnExactWorldNew k a1 =
  bindO (laws_szUnitS k a1 1048576) fun r1 => (iteB (decide (r1 < 0)) (some true) (bindO (laws_toUnitS k a1) fun r2 => (bindO (spec_WorldNew k r2) fun r3 => (bindO (laws_toUnitS k a1) fun r4 => (bindO (impl_WorldNew k r4) fun r5 => (bindO (laws_eqWorld k (r5.1.1, r5.1.2.1, r5.1.2.2.1, r5.1.2.2.2.1, r5.1.2.2.2.2.1, r5.1.2.2.2.2.2.1, ()) (r3.1.1, r3.1.2.1, r3.1.2.2.1, r3.1.2.2.2.1, r3.1.2.2.2.2.1, r3.1.2.2.2.2.2.1, ())) fun r6 => (iteB (!(!r6)) (iteB (!(r5.2.1 == r3.2.1)) (some false) (gate k (laws_FnExactWorldNew.j10 k a1 r3.2.1 r5.2.1 r3.1.2.2.2.2.1 r3.1.2.2.2.2.2.1 r3.1.1 r3.1.2.1 r3.1.2.2.1 r3.1.2.2.2.1 r4 r5.1.2.2.2.2.1 r5.1.2.2.2.2.2.1 r5.1.1 r5.1.2.1 r5.1.2.2.1 r5.1.2.2.2.1))) (some false)))))))) := by kernel_rfl
theorem E_laws_FnExactWorldNew_calls (k : Nat) : CallsOk Try.prog (E_laws_FnExactWorldNew k) (arun Try.prog (E_laws_FnExactWorldNew k) 9) := by
  refine told_run (tyTOk _ _) ?_ (fun run h => regOk (tyTOk _ _) mixOk h) ?_ nameOk 9
  · intro g m hg
    simp only [E_laws_FnExactWorldNew] at hg
    split at hg
    · cases hg
      refine con_byVal fun ρ l K x hm => ?_
      split at hm
      · obtain ⟨c1, h1, hm⟩ := Option.bind_eq_some_iff.1 hm
        obtain ⟨c2, h2, hm⟩ := Option.bind_eq_some_iff.1 hm
        obtain ⟨r, hr, hm⟩ := Option.bind_eq_some_iff.1 hm
        exact ⟨_, hm, LawV.reads (.cons (.as h1) (.cons (.as h2) .nil)) (laws_szUnitS_law k c1 c2 r hr)⟩
      · cases hm
    · cases hg
      refine con_byNew fun ρ l K x hm => ?_
      split at hm
      · obtain ⟨c1, h1, hm⟩ := Option.bind_eq_some_iff.1 hm
        obtain ⟨r, hr, hm⟩ := Option.bind_eq_some_iff.1 hm
        exact ⟨_, hm, LawD.reads (.cons (.as h1) .nil) (laws_toUnitS_law k c1 r hr)⟩
      · cases hm
    · cases hg
      refine con_byNewT fun ρ l K x hm => ?_
      split at hm
      · obtain ⟨c1, h1, hm⟩ := Option.bind_eq_some_iff.1 hm
        obtain ⟨r, hr, hm⟩ := Option.bind_eq_some_iff.1 hm
        exact ⟨_, hm, LawDT.reads (.cons (.as h1) .nil) (spec_WorldNew_law k c1 r hr)⟩
      · cases hm
    · cases hg
      refine con_byNewT fun ρ l K x hm => ?_
      split at hm
      · obtain ⟨c1, h1, hm⟩ := Option.bind_eq_some_iff.1 hm
        obtain ⟨r, hr, hm⟩ := Option.bind_eq_some_iff.1 hm
        exact ⟨_, hm, LawDT.reads (.cons (.as h1) .nil) (impl_WorldNew_law k c1 r hr)⟩
      · cases hm
    · cases hg
      refine con_byVal fun ρ l K x hm => ?_
      split at hm
      · obtain ⟨c1, h1, hm⟩ := Option.bind_eq_some_iff.1 hm
        obtain ⟨c2, h2, hm⟩ := Option.bind_eq_some_iff.1 hm
        obtain ⟨r, hr, hm⟩ := Option.bind_eq_some_iff.1 hm
        exact ⟨_, hm, LawV.reads (.cons (.as h1) (.cons (.as h2) .nil)) (laws_eqWorld_law k c1 c2 r hr)⟩
      · cases hm
    · cases hg
      refine con_byVal fun ρ l K x hm => ?_
      split at hm
      · obtain ⟨c1, h1, hm⟩ := Option.bind_eq_some_iff.1 hm
        obtain ⟨c2, h2, hm⟩ := Option.bind_eq_some_iff.1 hm
        obtain ⟨r, hr, hm⟩ := Option.bind_eq_some_iff.1 hm
        exact ⟨_, hm, LawV.reads (.cons (.as h1) (.cons (.as h2) .nil)) (laws_eqUnitS_law k c1 c2 r hr)⟩
      · cases hm
    · cases hg
      refine con_byMutD fun ρ xs l K x hm => ?_
      split at hm
      · obtain ⟨c1, h1, hm⟩ := Option.bind_eq_some_iff.1 hm
        obtain ⟨r, hr, hm⟩ := Option.bind_eq_some_iff.1 hm
        exact ⟨_, _, hm, LawMd.reads (.cons (.as h1) .nil) (laws_markUnitS_law k xs c1 r hr)⟩
      · cases hm
    · cases hg
      refine con_byMutD fun ρ xs l K x hm => ?_
      split at hm
      · obtain ⟨c1, h1, hm⟩ := Option.bind_eq_some_iff.1 hm
        obtain ⟨r, hr, hm⟩ := Option.bind_eq_some_iff.1 hm
        exact ⟨_, _, hm, LawMd.reads (.cons (.as h1) .nil) (laws_markBodyS_law k xs c1 r hr)⟩
      · cases hm
    · cases hg
      refine con_byMutD fun ρ xs l K x hm => ?_
      split at hm
      · obtain ⟨c1, h1, hm⟩ := Option.bind_eq_some_iff.1 hm
        obtain ⟨r, hr, hm⟩ := Option.bind_eq_some_iff.1 hm
        exact ⟨_, _, hm, LawMd.reads (.cons (.as h1) .nil) (laws_markChanS_law k xs c1 r hr)⟩
      · cases hm
    · cases hg
      refine con_byMutD fun ρ xs l K x hm => ?_
      split at hm
      · obtain ⟨c1, h1, hm⟩ := Option.bind_eq_some_iff.1 hm
        obtain ⟨r, hr, hm⟩ := Option.bind_eq_some_iff.1 hm
        exact ⟨_, _, hm, LawMd.reads (.cons (.as h1) .nil) (laws_markIntS_law k xs c1 r hr)⟩
      · cases hm
    · cases hg
      refine con_byVal fun ρ l K x hm => ?_
      split at hm
      · obtain ⟨c1, h1, hm⟩ := Option.bind_eq_some_iff.1 hm
        obtain ⟨c2, h2, hm⟩ := Option.bind_eq_some_iff.1 hm
        obtain ⟨r, hr, hm⟩ := Option.bind_eq_some_iff.1 hm
        exact ⟨_, hm, LawV.reads (.cons (.as h1) (.cons (.as h2) .nil)) (laws_heldWorld_law k c1 c2 r hr)⟩
      · cases hm
    · cases hg; exact noCon_ok
    · cases hg
  · intro g hg r
    by_cases h : g = 3
    · subst h; simp [E_laws_FnExactWorldNew] at hg
    · simp [E_laws_FnExactWorldNew, h]
theorem f3_oklaws_FnExactWorldNew : Try.prog.funcs[3]? = some Try.f3 := by kernel_rfl
theorem laws_FnExactWorldNew_law (k : Nat) (a1 : List (ByteArray × Int × Int × (List (Int × Int × Int × Int × Int × ByteArray × (List Int) × Unit)) × Unit)) (x : Bool) (h : laws_FnExactWorldNew k a1 = some x) : LawV Try.prog 3 [.tv (.row tA5) a1] (tvn .bool x) := by
  unfold laws_FnExactWorldNew at h
  exact law1 (t := .bool) (tyTOk _ _) (E_laws_FnExactWorldNew_calls k) mixOk f3_oklaws_FnExactWorldNew (nameOk _ _ f3_oklaws_FnExactWorldNew) (by kernel_rfl) h
end Go.Proofs.Ytajlenpookikoaa.XFnExactWorldNew
