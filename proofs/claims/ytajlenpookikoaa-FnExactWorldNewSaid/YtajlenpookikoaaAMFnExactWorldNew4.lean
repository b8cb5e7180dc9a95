/- Functions of the program as runs of the interpreter: equations, and a law for each. -/
import Derived.Test.YtajlenpookikoaaProg
import Derived.Test.YtajlenpookikoaaChecked
import Derived.KernelRfl
import Derived.Eval
import Derived.Test.YtajlenpookikoaaATyOk
import Derived.Test.YtajlenpookikoaaAS38
import Derived.Test.YtajlenpookikoaaAMFnExactWorldNew3
open Go Go.AM Go.AMx Go.Proofs
namespace Go.Proofs.Ytajlenpookikoaa.XFnExactWorldNew
set_option linter.unusedVariables false
set_option linter.unusedSimpArgs false
/-! laws.eqUnitS -/
noncomputable def E_laws_eqUnitS (k : Nat) : Env := ⟨ty, fun g => match g with
  | 26 => some (byVal fun ρ l K => match l with
    | [b1, b2] => (b1.as tA5).bind fun c1 => (b2.as tA5).bind fun c2 => (laws_eqUnit k c1 c2).bind fun r => K (tvn .bool r)
    | _ => none)
  | 9 => some noCon
  | _ => none, fun f r => match f with | 9 => (match r with | 4 => some [0, 1, 5] | _ => none) | _ => none⟩
noncomputable def laws_eqUnitS (k : Nat) (a1 : List (ByteArray × Int × Int × (List (Int × Int × Int × Int × Int × ByteArray × (List Int) × Unit)) × Unit)) (a2 : List (ByteArray × Int × Int × (List (Int × Int × Int × Int × Int × ByteArray × (List Int) × Unit)) × Unit)) : Option (Bool) :=
  abody (E_laws_eqUnitS k) (arun Try.prog (E_laws_eqUnitS k) k) k 9 Try.f9 [.tv (.row tA5) a1, .tv (.row tA5) a2] [] (fin1 .bool)
noncomputable def laws_eqUnitS.l4 (k n : Nat) (x0 : List (ByteArray × Int × Int × (List (Int × Int × Int × Int × Int × ByteArray × (List Int) × Unit)) × Unit)) (x1 : List (ByteArray × Int × Int × (List (Int × Int × Int × Int × Int × ByteArray × (List Int) × Unit)) × Unit)) (x5 : Int) : Option (Bool) :=
  resume (E_laws_eqUnitS k) 9 (acall (E_laws_eqUnitS k) (arun Try.prog (E_laws_eqUnitS k) k)) k [true, true, false, true, true] [n] (bodyOf Try.f9) ⟨[.tv (.row tA5) x0, .tv (.row tA5) x1, .undef, .undef, .undef, .int .i64 x5, .undef, .undef, .undef, .undef, .undef, .undef, .undef, .undef, .undef, .undef, .undef, .undef, .undef, .undef, .undef, .undef, .undef, .undef, .undef, .undef, .undef], []⟩ (leave (E_laws_eqUnitS k) Try.f9 (fin1 .bool))
theorem laws_eqUnitS.l4_0 (k : Nat) (x0 : List (ByteArray × Int × Int × (List (Int × Int × Int × Int × Int × ByteArray × (List Int) × Unit)) × Unit)) (x1 : List (ByteArray × Int × Int × (List (Int × Int × Int × Int × Int × ByteArray × (List Int) × Unit)) × Unit)) (x5 : Int) : laws_eqUnitS.l4 k 0 x0 x1 x5 = none := by kernel_rfl
theorem laws_eqUnitS.l4_s (k n : Nat) (x0 : List (ByteArray × Int × Int × (List (Int × Int × Int × Int × Int × ByteArray × (List Int) × Unit)) × Unit)) (x1 : List (ByteArray × Int × Int × (List (Int × Int × Int × Int × Int × ByteArray × (List Int) × Unit)) × Unit)) (x5 : Int) : laws_eqUnitS.l4 k (n + 1) x0 x1 x5 =
  iteB (decide (x5 < ((List.length x0) : Int))) (iteB (decide (0 ≤ x5)) (iteB (decide (x5 < ((List.length x0) : Int))) (iteB (decide (0 ≤ x5)) (iteB (decide (x5 < ((List.length x1) : Int))) (bindO (laws_eqUnit k (List.getD x0 (Int.toNat x5) (Ty.dflt tA5)) (List.getD x1 (Int.toNat x5) (Ty.dflt tA5))) fun r1 => (iteB (!r1) (some false) (laws_eqUnitS.l4 k n x0 x1 (IntKind.wrap .i64 (x5 + 1))))) (none)) (none)) (none)) (none)) (some true) := by kernel_rfl
theorem laws_eqUnitS_e (k : Nat) (a1 : List (ByteArray × Int × Int × (List (Int × Int × Int × Int × Int × ByteArray × (List Int) × Unit)) × Unit)) (a2 : List (ByteArray × Int × Int × (List (Int × Int × Int × Int × Int × ByteArray × (List Int) × Unit)) × Unit)) : laws_eqUnitS k a1 a2 =
  iteB (((List.length a1) : Int) != ((List.length a2) : Int)) (some false) (laws_eqUnitS.l4 k k a1 a2 0) := by kernel_rfl
theorem E_laws_eqUnitS_calls (k : Nat) : CallsOk Try.prog (E_laws_eqUnitS k) (arun Try.prog (E_laws_eqUnitS k) k) := by
  refine told_run (tyTOk _ _) ?_ (fun run h => regOk (tyTOk _ _) mixOk h) ?_ nameOk k
  · intro g m hg
    simp only [E_laws_eqUnitS] at hg
    split at hg
    · cases hg
      refine con_byVal fun ρ l K x hm => ?_
      split at hm
      · obtain ⟨c1, h1, hm⟩ := Option.bind_eq_some_iff.1 hm
        obtain ⟨c2, h2, hm⟩ := Option.bind_eq_some_iff.1 hm
        obtain ⟨r, hr, hm⟩ := Option.bind_eq_some_iff.1 hm
        exact ⟨_, hm, LawV.reads (.cons (.as h1) (.cons (.as h2) .nil)) (laws_eqUnit_law k c1 c2 r hr)⟩
      · cases hm
    · cases hg; exact noCon_ok
    · cases hg
  · intro g hg r
    by_cases h : g = 9
    · subst h; simp [E_laws_eqUnitS] at hg
    · simp [E_laws_eqUnitS, h]
theorem f9_oklaws_eqUnitS : Try.prog.funcs[9]? = some Try.f9 := by kernel_rfl
theorem laws_eqUnitS_law (k : Nat) (a1 : List (ByteArray × Int × Int × (List (Int × Int × Int × Int × Int × ByteArray × (List Int) × Unit)) × Unit)) (a2 : List (ByteArray × Int × Int × (List (Int × Int × Int × Int × Int × ByteArray × (List Int) × Unit)) × Unit)) (x : Bool) (h : laws_eqUnitS k a1 a2 = some x) : LawV Try.prog 9 [.tv (.row tA5) a1, .tv (.row tA5) a2] (tvn .bool x) := by
  unfold laws_eqUnitS at h
  exact law1 (t := .bool) (tyTOk _ _) (E_laws_eqUnitS_calls k) mixOk f9_oklaws_eqUnitS (nameOk _ _ f9_oklaws_eqUnitS) (by kernel_rfl) h
/-! laws.eqFrame -/
noncomputable def E_laws_eqFrame (k : Nat) : Env := ⟨ty, fun g => match g with
  | 25 => some (byVal fun ρ l K => match l with
    | [b1, b2] => (b1.as (.row (.int .i64))).bind fun c1 => (b2.as (.row (.int .i64))).bind fun c2 => (laws_eqIntS k c1 c2).bind fun r => K (tvn .bool r)
    | _ => none)
  | _ => none, fun _ _ => none⟩
noncomputable def laws_eqFrame (k : Nat) (a1 : Int × Int × (List Int) × Int × Unit) (a2 : Int × Int × (List Int) × Int × Unit) : Option (Bool) :=
  abody (E_laws_eqFrame k) (arun Try.prog (E_laws_eqFrame k) k) k 87 Try.f87 [.tv tA1 a1, .tv tA1 a2] [] (fin1 .bool)
theorem laws_eqFrame_e (k : Nat) (a1 : Int × Int × (List Int) × Int × Unit) (a2 : Int × Int × (List Int) × Int × Unit) : laws_eqFrame k a1 a2 =
  iteB (a1.1 != a2.1) (some false) (iteB (a1.2.1 != a2.2.1) (some false) (bindO (laws_eqIntS k a1.2.2.1 a2.2.2.1) fun r1 => (iteB (!r1) (some false) (iteB (a1.2.2.2.1 != a2.2.2.2.1) (some false) (some true))))) := by kernel_rfl
theorem E_laws_eqFrame_calls (k : Nat) : CallsOk Try.prog (E_laws_eqFrame k) (arun Try.prog (E_laws_eqFrame k) k) := by
  refine told_run (tyTOk _ _) ?_ (fun run h => regOk (tyTOk _ _) mixOk h) ?_ nameOk k
  · intro g m hg
    simp only [E_laws_eqFrame] at hg
    split at hg
    · cases hg
      refine con_byVal fun ρ l K x hm => ?_
      split at hm
      · obtain ⟨c1, h1, hm⟩ := Option.bind_eq_some_iff.1 hm
        obtain ⟨c2, h2, hm⟩ := Option.bind_eq_some_iff.1 hm
        obtain ⟨r, hr, hm⟩ := Option.bind_eq_some_iff.1 hm
        exact ⟨_, hm, LawV.reads (.cons (.as h1) (.cons (.as h2) .nil)) (laws_eqIntS_law k c1 c2 r hr)⟩
      · cases hm
    · cases hg
  · intro g _ r; rfl
theorem f87_oklaws_eqFrame : Try.prog.funcs[87]? = some Try.f87 := by kernel_rfl
theorem laws_eqFrame_law (k : Nat) (a1 : Int × Int × (List Int) × Int × Unit) (a2 : Int × Int × (List Int) × Int × Unit) (x : Bool) (h : laws_eqFrame k a1 a2 = some x) : LawV Try.prog 87 [.tv tA1 a1, .tv tA1 a2] (tvn .bool x) := by
  unfold laws_eqFrame at h
  exact law1 (t := .bool) (tyTOk _ _) (E_laws_eqFrame_calls k) mixOk f87_oklaws_eqFrame (nameOk _ _ f87_oklaws_eqFrame) (by kernel_rfl) h
/-! laws.eqFrameS -/
noncomputable def E_laws_eqFrameS (k : Nat) : Env := ⟨ty, fun g => match g with
  | 87 => some (byVal fun ρ l K => match l with
    | [b1, b2] => (b1.as tA1).bind fun c1 => (b2.as tA1).bind fun c2 => (laws_eqFrame k c1 c2).bind fun r => K (tvn .bool r)
    | _ => none)
  | 67 => some noCon
  | _ => none, fun f r => match f with | 67 => (match r with | 4 => some [0, 1, 5] | _ => none) | _ => none⟩
noncomputable def laws_eqFrameS (k : Nat) (a1 : List (Int × Int × (List Int) × Int × Unit)) (a2 : List (Int × Int × (List Int) × Int × Unit)) : Option (Bool) :=
  abody (E_laws_eqFrameS k) (arun Try.prog (E_laws_eqFrameS k) k) k 67 Try.f67 [.tv (.row tA1) a1, .tv (.row tA1) a2] [] (fin1 .bool)
noncomputable def laws_eqFrameS.l4 (k n : Nat) (x0 : List (Int × Int × (List Int) × Int × Unit)) (x1 : List (Int × Int × (List Int) × Int × Unit)) (x5 : Int) : Option (Bool) :=
  resume (E_laws_eqFrameS k) 67 (acall (E_laws_eqFrameS k) (arun Try.prog (E_laws_eqFrameS k) k)) k [true, true, false, true, true] [n] (bodyOf Try.f67) ⟨[.tv (.row tA1) x0, .tv (.row tA1) x1, .undef, .undef, .undef, .int .i64 x5, .undef, .undef, .undef, .undef, .undef, .undef, .undef, .undef, .undef, .undef, .undef, .undef, .undef, .undef, .undef, .undef, .undef, .undef, .undef, .undef, .undef], []⟩ (leave (E_laws_eqFrameS k) Try.f67 (fin1 .bool))
theorem laws_eqFrameS.l4_0 (k : Nat) (x0 : List (Int × Int × (List Int) × Int × Unit)) (x1 : List (Int × Int × (List Int) × Int × Unit)) (x5 : Int) : laws_eqFrameS.l4 k 0 x0 x1 x5 = none := by kernel_rfl
theorem laws_eqFrameS.l4_s (k n : Nat) (x0 : List (Int × Int × (List Int) × Int × Unit)) (x1 : List (Int × Int × (List Int) × Int × Unit)) (x5 : Int) : laws_eqFrameS.l4 k (n + 1) x0 x1 x5 =
  iteB (decide (x5 < ((List.length x0) : Int))) (iteB (decide (0 ≤ x5)) (iteB (decide (x5 < ((List.length x0) : Int))) (iteB (decide (0 ≤ x5)) (iteB (decide (x5 < ((List.length x1) : Int))) (bindO (laws_eqFrame k (List.getD x0 (Int.toNat x5) (Ty.dflt tA1)) (List.getD x1 (Int.toNat x5) (Ty.dflt tA1))) fun r1 => (iteB (!r1) (some false) (laws_eqFrameS.l4 k n x0 x1 (IntKind.wrap .i64 (x5 + 1))))) (none)) (none)) (none)) (none)) (some true) := by kernel_rfl
theorem laws_eqFrameS_e (k : Nat) (a1 : List (Int × Int × (List Int) × Int × Unit)) (a2 : List (Int × Int × (List Int) × Int × Unit)) : laws_eqFrameS k a1 a2 =
  iteB (((List.length a1) : Int) != ((List.length a2) : Int)) (some false) (laws_eqFrameS.l4 k k a1 a2 0) := by kernel_rfl
theorem E_laws_eqFrameS_calls (k : Nat) : CallsOk Try.prog (E_laws_eqFrameS k) (arun Try.prog (E_laws_eqFrameS k) k) := by
  refine told_run (tyTOk _ _) ?_ (fun run h => regOk (tyTOk _ _) mixOk h) ?_ nameOk k
  · intro g m hg
    simp only [E_laws_eqFrameS] at hg
    split at hg
    · cases hg
      refine con_byVal fun ρ l K x hm => ?_
      split at hm
      · obtain ⟨c1, h1, hm⟩ := Option.bind_eq_some_iff.1 hm
        obtain ⟨c2, h2, hm⟩ := Option.bind_eq_some_iff.1 hm
        obtain ⟨r, hr, hm⟩ := Option.bind_eq_some_iff.1 hm
        exact ⟨_, hm, LawV.reads (.cons (.as h1) (.cons (.as h2) .nil)) (laws_eqFrame_law k c1 c2 r hr)⟩
      · cases hm
    · cases hg; exact noCon_ok
    · cases hg
  · intro g hg r
    by_cases h : g = 67
    · subst h; simp [E_laws_eqFrameS] at hg
    · simp [E_laws_eqFrameS, h]
theorem f67_oklaws_eqFrameS : Try.prog.funcs[67]? = some Try.f67 := by kernel_rfl
theorem laws_eqFrameS_law (k : Nat) (a1 : List (Int × Int × (List Int) × Int × Unit)) (a2 : List (Int × Int × (List Int) × Int × Unit)) (x : Bool) (h : laws_eqFrameS k a1 a2 = some x) : LawV Try.prog 67 [.tv (.row tA1) a1, .tv (.row tA1) a2] (tvn .bool x) := by
  unfold laws_eqFrameS at h
  exact law1 (t := .bool) (tyTOk _ _) (E_laws_eqFrameS_calls k) mixOk f67_oklaws_eqFrameS (nameOk _ _ f67_oklaws_eqFrameS) (by kernel_rfl) h
/-! laws.eqBody -/
noncomputable def E_laws_eqBody (k : Nat) : Env := ⟨ty, fun g => match g with
  | 67 => some (byVal fun ρ l K => match l with
    | [b1, b2] => (b1.as (.row tA1)).bind fun c1 => (b2.as (.row tA1)).bind fun c2 => (laws_eqFrameS k c1 c2).bind fun r => K (tvn .bool r)
    | _ => none)
  | _ => none, fun _ _ => none⟩
noncomputable def laws_eqBody (k : Nat) (a1 : (List (Int × Int × (List Int) × Int × Unit)) × Bool × Bool × Int × Int × Int × Int × Int × Unit) (a2 : (List (Int × Int × (List Int) × Int × Unit)) × Bool × Bool × Int × Int × Int × Int × Int × Unit) : Option (Bool) :=
  abody (E_laws_eqBody k) (arun Try.prog (E_laws_eqBody k) k) k 45 Try.f45 [.tv tA2 a1, .tv tA2 a2] [] (fin1 .bool)
theorem laws_eqBody_e (k : Nat) (a1 : (List (Int × Int × (List Int) × Int × Unit)) × Bool × Bool × Int × Int × Int × Int × Int × Unit) (a2 : (List (Int × Int × (List Int) × Int × Unit)) × Bool × Bool × Int × Int × Int × Int × Int × Unit) : laws_eqBody k a1 a2 =
  bindO (laws_eqFrameS k a1.1 a2.1) fun r1 => (iteB (!r1) (some false) (iteB (!(a1.2.1 == a2.2.1)) (some false) (iteB (!(a1.2.2.1 == a2.2.2.1)) (some false) (iteB (a1.2.2.2.1 != a2.2.2.2.1) (some false) (iteB (a1.2.2.2.2.1 != a2.2.2.2.2.1) (some false) (iteB (a1.2.2.2.2.2.1 != a2.2.2.2.2.2.1) (some false) (iteB (a1.2.2.2.2.2.2.1 != a2.2.2.2.2.2.2.1) (some false) (iteB (a1.2.2.2.2.2.2.2.1 != a2.2.2.2.2.2.2.2.1) (some false) (some true))))))))) := by kernel_rfl
theorem E_laws_eqBody_calls (k : Nat) : CallsOk Try.prog (E_laws_eqBody k) (arun Try.prog (E_laws_eqBody k) k) := by
  refine told_run (tyTOk _ _) ?_ (fun run h => regOk (tyTOk _ _) mixOk h) ?_ nameOk k
  · intro g m hg
    simp only [E_laws_eqBody] at hg
    split at hg
    · cases hg
      refine con_byVal fun ρ l K x hm => ?_
      split at hm
      · obtain ⟨c1, h1, hm⟩ := Option.bind_eq_some_iff.1 hm
        obtain ⟨c2, h2, hm⟩ := Option.bind_eq_some_iff.1 hm
        obtain ⟨r, hr, hm⟩ := Option.bind_eq_some_iff.1 hm
        exact ⟨_, hm, LawV.reads (.cons (.as h1) (.cons (.as h2) .nil)) (laws_eqFrameS_law k c1 c2 r hr)⟩
      · cases hm
    · cases hg
  · intro g _ r; rfl
theorem f45_oklaws_eqBody : Try.prog.funcs[45]? = some Try.f45 := by kernel_rfl
theorem laws_eqBody_law (k : Nat) (a1 : (List (Int × Int × (List Int) × Int × Unit)) × Bool × Bool × Int × Int × Int × Int × Int × Unit) (a2 : (List (Int × Int × (List Int) × Int × Unit)) × Bool × Bool × Int × Int × Int × Int × Int × Unit) (x : Bool) (h : laws_eqBody k a1 a2 = some x) : LawV Try.prog 45 [.tv tA2 a1, .tv tA2 a2] (tvn .bool x) := by
  unfold laws_eqBody at h
  exact law1 (t := .bool) (tyTOk _ _) (E_laws_eqBody_calls k) mixOk f45_oklaws_eqBody (nameOk _ _ f45_oklaws_eqBody) (by kernel_rfl) h
/-! laws.eqBodyS -/
noncomputable def E_laws_eqBodyS (k : Nat) : Env := ⟨ty, fun g => match g with
  | 45 => some (byVal fun ρ l K => match l with
    | [b1, b2] => (b1.as tA2).bind fun c1 => (b2.as tA2).bind fun c2 => (laws_eqBody k c1 c2).bind fun r => K (tvn .bool r)
    | _ => none)
  | 23 => some noCon
  | _ => none, fun f r => match f with | 23 => (match r with | 4 => some [0, 1, 5] | _ => none) | _ => none⟩
noncomputable def laws_eqBodyS (k : Nat) (a1 : List ((List (Int × Int × (List Int) × Int × Unit)) × Bool × Bool × Int × Int × Int × Int × Int × Unit)) (a2 : List ((List (Int × Int × (List Int) × Int × Unit)) × Bool × Bool × Int × Int × Int × Int × Int × Unit)) : Option (Bool) :=
  abody (E_laws_eqBodyS k) (arun Try.prog (E_laws_eqBodyS k) k) k 23 Try.f23 [.tv (.row tA2) a1, .tv (.row tA2) a2] [] (fin1 .bool)
noncomputable def laws_eqBodyS.l4 (k n : Nat) (x0 : List ((List (Int × Int × (List Int) × Int × Unit)) × Bool × Bool × Int × Int × Int × Int × Int × Unit)) (x1 : List ((List (Int × Int × (List Int) × Int × Unit)) × Bool × Bool × Int × Int × Int × Int × Int × Unit)) (x5 : Int) : Option (Bool) :=
  resume (E_laws_eqBodyS k) 23 (acall (E_laws_eqBodyS k) (arun Try.prog (E_laws_eqBodyS k) k)) k [true, true, false, true, true] [n] (bodyOf Try.f23) ⟨[.tv (.row tA2) x0, .tv (.row tA2) x1, .undef, .undef, .undef, .int .i64 x5, .undef, .undef, .undef, .undef, .undef, .undef, .undef, .undef, .undef, .undef, .undef, .undef, .undef, .undef, .undef, .undef, .undef, .undef, .undef, .undef, .undef], []⟩ (leave (E_laws_eqBodyS k) Try.f23 (fin1 .bool))
theorem laws_eqBodyS.l4_0 (k : Nat) (x0 : List ((List (Int × Int × (List Int) × Int × Unit)) × Bool × Bool × Int × Int × Int × Int × Int × Unit)) (x1 : List ((List (Int × Int × (List Int) × Int × Unit)) × Bool × Bool × Int × Int × Int × Int × Int × Unit)) (x5 : Int) : laws_eqBodyS.l4 k 0 x0 x1 x5 = none := by kernel_rfl
theorem laws_eqBodyS.l4_s (k n : Nat) (x0 : List ((List (Int × Int × (List Int) × Int × Unit)) × Bool × Bool × Int × Int × Int × Int × Int × Unit)) (x1 : List ((List (Int × Int × (List Int) × Int × Unit)) × Bool × Bool × Int × Int × Int × Int × Int × Unit)) (x5 : Int) : laws_eqBodyS.l4 k (n + 1) x0 x1 x5 =
  iteB (decide (x5 < ((List.length x0) : Int))) (iteB (decide (0 ≤ x5)) (iteB (decide (x5 < ((List.length x0) : Int))) (iteB (decide (0 ≤ x5)) (iteB (decide (x5 < ((List.length x1) : Int))) (bindO (laws_eqBody k (List.getD x0 (Int.toNat x5) (Ty.dflt tA2)) (List.getD x1 (Int.toNat x5) (Ty.dflt tA2))) fun r1 => (iteB (!r1) (some false) (laws_eqBodyS.l4 k n x0 x1 (IntKind.wrap .i64 (x5 + 1))))) (none)) (none)) (none)) (none)) (some true) := by kernel_rfl
theorem laws_eqBodyS_e (k : Nat) (a1 : List ((List (Int × Int × (List Int) × Int × Unit)) × Bool × Bool × Int × Int × Int × Int × Int × Unit)) (a2 : List ((List (Int × Int × (List Int) × Int × Unit)) × Bool × Bool × Int × Int × Int × Int × Int × Unit)) : laws_eqBodyS k a1 a2 =
  iteB (((List.length a1) : Int) != ((List.length a2) : Int)) (some false) (laws_eqBodyS.l4 k k a1 a2 0) := by kernel_rfl
theorem E_laws_eqBodyS_calls (k : Nat) : CallsOk Try.prog (E_laws_eqBodyS k) (arun Try.prog (E_laws_eqBodyS k) k) := by
  refine told_run (tyTOk _ _) ?_ (fun run h => regOk (tyTOk _ _) mixOk h) ?_ nameOk k
  · intro g m hg
    simp only [E_laws_eqBodyS] at hg
    split at hg
    · cases hg
      refine con_byVal fun ρ l K x hm => ?_
      split at hm
      · obtain ⟨c1, h1, hm⟩ := Option.bind_eq_some_iff.1 hm
        obtain ⟨c2, h2, hm⟩ := Option.bind_eq_some_iff.1 hm
        obtain ⟨r, hr, hm⟩ := Option.bind_eq_some_iff.1 hm
        exact ⟨_, hm, LawV.reads (.cons (.as h1) (.cons (.as h2) .nil)) (laws_eqBody_law k c1 c2 r hr)⟩
      · cases hm
    · cases hg; exact noCon_ok
    · cases hg
  · intro g hg r
    by_cases h : g = 23
    · subst h; simp [E_laws_eqBodyS] at hg
    · simp [E_laws_eqBodyS, h]
theorem f23_oklaws_eqBodyS : Try.prog.funcs[23]? = some Try.f23 := by kernel_rfl
theorem laws_eqBodyS_law (k : Nat) (a1 : List ((List (Int × Int × (List Int) × Int × Unit)) × Bool × Bool × Int × Int × Int × Int × Int × Unit)) (a2 : List ((List (Int × Int × (List Int) × Int × Unit)) × Bool × Bool × Int × Int × Int × Int × Int × Unit)) (x : Bool) (h : laws_eqBodyS k a1 a2 = some x) : LawV Try.prog 23 [.tv (.row tA2) a1, .tv (.row tA2) a2] (tvn .bool x) := by
  unfold laws_eqBodyS at h
  exact law1 (t := .bool) (tyTOk _ _) (E_laws_eqBodyS_calls k) mixOk f23_oklaws_eqBodyS (nameOk _ _ f23_oklaws_eqBodyS) (by kernel_rfl) h
/-! laws.eqWait -/
noncomputable def E_laws_eqWait (k : Nat) : Env := ⟨ty, fun _ => none, fun _ _ => none⟩
noncomputable def laws_eqWait (k : Nat) (a1 : Int × Int × Int × Int × Unit) (a2 : Int × Int × Int × Int × Unit) : Option (Bool) :=
  abody (E_laws_eqWait k) (arun Try.prog (E_laws_eqWait k) k) k 88 Try.f88 [.tv tA0 a1, .tv tA0 a2] [] (fin1 .bool)
theorem laws_eqWait_e (k : Nat) (a1 : Int × Int × Int × Int × Unit) (a2 : Int × Int × Int × Int × Unit) : laws_eqWait k a1 a2 =
  iteB (a1.1 != a2.1) (some false) (iteB (a1.2.1 != a2.2.1) (some false) (iteB (a1.2.2.1 != a2.2.2.1) (some false) (iteB (a1.2.2.2.1 != a2.2.2.2.1) (some false) (some true)))) := by kernel_rfl
theorem E_laws_eqWait_calls (k : Nat) : CallsOk Try.prog (E_laws_eqWait k) (arun Try.prog (E_laws_eqWait k) k) := by
  refine told_run (tyTOk _ _) ?_ (fun run h => regOk (tyTOk _ _) mixOk h) ?_ nameOk k
  · intro g m hg
    cases hg
  · intro g _ r; rfl
theorem f88_oklaws_eqWait : Try.prog.funcs[88]? = some Try.f88 := by kernel_rfl
theorem laws_eqWait_law (k : Nat) (a1 : Int × Int × Int × Int × Unit) (a2 : Int × Int × Int × Int × Unit) (x : Bool) (h : laws_eqWait k a1 a2 = some x) : LawV Try.prog 88 [.tv tA0 a1, .tv tA0 a2] (tvn .bool x) := by
  unfold laws_eqWait at h
  exact law1 (t := .bool) (tyTOk _ _) (E_laws_eqWait_calls k) mixOk f88_oklaws_eqWait (nameOk _ _ f88_oklaws_eqWait) (by kernel_rfl) h
/-! laws.eqWaitS -/
noncomputable def E_laws_eqWaitS (k : Nat) : Env := ⟨ty, fun g => match g with
  | 88 => some (byVal fun ρ l K => match l with
    | [b1, b2] => (b1.as tA0).bind fun c1 => (b2.as tA0).bind fun c2 => (laws_eqWait k c1 c2).bind fun r => K (tvn .bool r)
    | _ => none)
  | 68 => some noCon
  | _ => none, fun f r => match f with | 68 => (match r with | 4 => some [0, 1, 5] | _ => none) | _ => none⟩
noncomputable def laws_eqWaitS (k : Nat) (a1 : List (Int × Int × Int × Int × Unit)) (a2 : List (Int × Int × Int × Int × Unit)) : Option (Bool) :=
  abody (E_laws_eqWaitS k) (arun Try.prog (E_laws_eqWaitS k) k) k 68 Try.f68 [.tv (.row tA0) a1, .tv (.row tA0) a2] [] (fin1 .bool)
noncomputable def laws_eqWaitS.l4 (k n : Nat) (x0 : List (Int × Int × Int × Int × Unit)) (x1 : List (Int × Int × Int × Int × Unit)) (x5 : Int) : Option (Bool) :=
  resume (E_laws_eqWaitS k) 68 (acall (E_laws_eqWaitS k) (arun Try.prog (E_laws_eqWaitS k) k)) k [true, true, false, true, true] [n] (bodyOf Try.f68) ⟨[.tv (.row tA0) x0, .tv (.row tA0) x1, .undef, .undef, .undef, .int .i64 x5, .undef, .undef, .undef, .undef, .undef, .undef, .undef, .undef, .undef, .undef, .undef, .undef, .undef, .undef, .undef, .undef, .undef, .undef, .undef, .undef, .undef], []⟩ (leave (E_laws_eqWaitS k) Try.f68 (fin1 .bool))
theorem laws_eqWaitS.l4_0 (k : Nat) (x0 : List (Int × Int × Int × Int × Unit)) (x1 : List (Int × Int × Int × Int × Unit)) (x5 : Int) : laws_eqWaitS.l4 k 0 x0 x1 x5 = none := by kernel_rfl
theorem laws_eqWaitS.l4_s (k n : Nat) (x0 : List (Int × Int × Int × Int × Unit)) (x1 : List (Int × Int × Int × Int × Unit)) (x5 : Int) : laws_eqWaitS.l4 k (n + 1) x0 x1 x5 =
  iteB (decide (x5 < ((List.length x0) : Int))) (iteB (decide (0 ≤ x5)) (iteB (decide (x5 < ((List.length x0) : Int))) (iteB (decide (0 ≤ x5)) (iteB (decide (x5 < ((List.length x1) : Int))) (bindO (laws_eqWait k (List.getD x0 (Int.toNat x5) (Ty.dflt tA0)) (List.getD x1 (Int.toNat x5) (Ty.dflt tA0))) fun r1 => (iteB (!r1) (some false) (laws_eqWaitS.l4 k n x0 x1 (IntKind.wrap .i64 (x5 + 1))))) (none)) (none)) (none)) (none)) (some true) := by kernel_rfl
theorem laws_eqWaitS_e (k : Nat) (a1 : List (Int × Int × Int × Int × Unit)) (a2 : List (Int × Int × Int × Int × Unit)) : laws_eqWaitS k a1 a2 =
  iteB (((List.length a1) : Int) != ((List.length a2) : Int)) (some false) (laws_eqWaitS.l4 k k a1 a2 0) := by kernel_rfl
theorem E_laws_eqWaitS_calls (k : Nat) : CallsOk Try.prog (E_laws_eqWaitS k) (arun Try.prog (E_laws_eqWaitS k) k) := by
  refine told_run (tyTOk _ _) ?_ (fun run h => regOk (tyTOk _ _) mixOk h) ?_ nameOk k
  · intro g m hg
    simp only [E_laws_eqWaitS] at hg
    split at hg
    · cases hg
      refine con_byVal fun ρ l K x hm => ?_
      split at hm
      · obtain ⟨c1, h1, hm⟩ := Option.bind_eq_some_iff.1 hm
        obtain ⟨c2, h2, hm⟩ := Option.bind_eq_some_iff.1 hm
        obtain ⟨r, hr, hm⟩ := Option.bind_eq_some_iff.1 hm
        exact ⟨_, hm, LawV.reads (.cons (.as h1) (.cons (.as h2) .nil)) (laws_eqWait_law k c1 c2 r hr)⟩
      · cases hm
    · cases hg; exact noCon_ok
    · cases hg
  · intro g hg r
    by_cases h : g = 68
    · subst h; simp [E_laws_eqWaitS] at hg
    · simp [E_laws_eqWaitS, h]
theorem f68_oklaws_eqWaitS : Try.prog.funcs[68]? = some Try.f68 := by kernel_rfl
theorem laws_eqWaitS_law (k : Nat) (a1 : List (Int × Int × Int × Int × Unit)) (a2 : List (Int × Int × Int × Int × Unit)) (x : Bool) (h : laws_eqWaitS k a1 a2 = some x) : LawV Try.prog 68 [.tv (.row tA0) a1, .tv (.row tA0) a2] (tvn .bool x) := by
  unfold laws_eqWaitS at h
  exact law1 (t := .bool) (tyTOk _ _) (E_laws_eqWaitS_calls k) mixOk f68_oklaws_eqWaitS (nameOk _ _ f68_oklaws_eqWaitS) (by kernel_rfl) h
/-! laws.eqChan -/
noncomputable def E_laws_eqChan (k : Nat) : Env := ⟨ty, fun g => match g with
  | 25 => some (byVal fun ρ l K => match l with
    | [b1, b2] => (b1.as (.row (.int .i64))).bind fun c1 => (b2.as (.row (.int .i64))).bind fun c2 => (laws_eqIntS k c1 c2).bind fun r => K (tvn .bool r)
    | _ => none)
  | 68 => some (byVal fun ρ l K => match l with
    | [b1, b2] => (b1.as (.row tA0)).bind fun c1 => (b2.as (.row tA0)).bind fun c2 => (laws_eqWaitS k c1 c2).bind fun r => K (tvn .bool r)
    | _ => none)
  | _ => none, fun _ _ => none⟩
noncomputable def laws_eqChan (k : Nat) (a1 : Int × Bool × (List Int) × (List (Int × Int × Int × Int × Unit)) × (List (Int × Int × Int × Int × Unit)) × Unit) (a2 : Int × Bool × (List Int) × (List (Int × Int × Int × Int × Unit)) × (List (Int × Int × Int × Int × Unit)) × Unit) : Option (Bool) :=
  abody (E_laws_eqChan k) (arun Try.prog (E_laws_eqChan k) k) k 46 Try.f46 [.tv tA3 a1, .tv tA3 a2] [] (fin1 .bool)
theorem laws_eqChan_e (k : Nat) (a1 : Int × Bool × (List Int) × (List (Int × Int × Int × Int × Unit)) × (List (Int × Int × Int × Int × Unit)) × Unit) (a2 : Int × Bool × (List Int) × (List (Int × Int × Int × Int × Unit)) × (List (Int × Int × Int × Int × Unit)) × Unit) : laws_eqChan k a1 a2 =
  iteB (a1.1 != a2.1) (some false) (iteB (!(a1.2.1 == a2.2.1)) (some false) (bindO (laws_eqIntS k a1.2.2.1 a2.2.2.1) fun r1 => (iteB (!r1) (some false) (bindO (laws_eqWaitS k a1.2.2.2.1 a2.2.2.2.1) fun r2 => (iteB (!r2) (some false) (bindO (laws_eqWaitS k a1.2.2.2.2.1 a2.2.2.2.2.1) fun r3 => (iteB (!r3) (some false) (some true)))))))) := by kernel_rfl
theorem E_laws_eqChan_calls (k : Nat) : CallsOk Try.prog (E_laws_eqChan k) (arun Try.prog (E_laws_eqChan k) k) := by
  refine told_run (tyTOk _ _) ?_ (fun run h => regOk (tyTOk _ _) mixOk h) ?_ nameOk k
  · intro g m hg
    simp only [E_laws_eqChan] at hg
    split at hg
    · cases hg
      refine con_byVal fun ρ l K x hm => ?_
      split at hm
      · obtain ⟨c1, h1, hm⟩ := Option.bind_eq_some_iff.1 hm
        obtain ⟨c2, h2, hm⟩ := Option.bind_eq_some_iff.1 hm
        obtain ⟨r, hr, hm⟩ := Option.bind_eq_some_iff.1 hm
        exact ⟨_, hm, LawV.reads (.cons (.as h1) (.cons (.as h2) .nil)) (laws_eqIntS_law k c1 c2 r hr)⟩
      · cases hm
    · cases hg
      refine con_byVal fun ρ l K x hm => ?_
      split at hm
      · obtain ⟨c1, h1, hm⟩ := Option.bind_eq_some_iff.1 hm
        obtain ⟨c2, h2, hm⟩ := Option.bind_eq_some_iff.1 hm
        obtain ⟨r, hr, hm⟩ := Option.bind_eq_some_iff.1 hm
        exact ⟨_, hm, LawV.reads (.cons (.as h1) (.cons (.as h2) .nil)) (laws_eqWaitS_law k c1 c2 r hr)⟩
      · cases hm
    · cases hg
  · intro g _ r; rfl
theorem f46_oklaws_eqChan : Try.prog.funcs[46]? = some Try.f46 := by kernel_rfl
theorem laws_eqChan_law (k : Nat) (a1 : Int × Bool × (List Int) × (List (Int × Int × Int × Int × Unit)) × (List (Int × Int × Int × Int × Unit)) × Unit) (a2 : Int × Bool × (List Int) × (List (Int × Int × Int × Int × Unit)) × (List (Int × Int × Int × Int × Unit)) × Unit) (x : Bool) (h : laws_eqChan k a1 a2 = some x) : LawV Try.prog 46 [.tv tA3 a1, .tv tA3 a2] (tvn .bool x) := by
  unfold laws_eqChan at h
  exact law1 (t := .bool) (tyTOk _ _) (E_laws_eqChan_calls k) mixOk f46_oklaws_eqChan (nameOk _ _ f46_oklaws_eqChan) (by kernel_rfl) h
/-! laws.eqChanS -/
noncomputable def E_laws_eqChanS (k : Nat) : Env := ⟨ty, fun g => match g with
  | 46 => some (byVal fun ρ l K => match l with
    | [b1, b2] => (b1.as tA3).bind fun c1 => (b2.as tA3).bind fun c2 => (laws_eqChan k c1 c2).bind fun r => K (tvn .bool r)
    | _ => none)
  | 24 => some noCon
  | _ => none, fun f r => match f with | 24 => (match r with | 4 => some [0, 1, 5] | _ => none) | _ => none⟩
noncomputable def laws_eqChanS (k : Nat) (a1 : List (Int × Bool × (List Int) × (List (Int × Int × Int × Int × Unit)) × (List (Int × Int × Int × Int × Unit)) × Unit)) (a2 : List (Int × Bool × (List Int) × (List (Int × Int × Int × Int × Unit)) × (List (Int × Int × Int × Int × Unit)) × Unit)) : Option (Bool) :=
  abody (E_laws_eqChanS k) (arun Try.prog (E_laws_eqChanS k) k) k 24 Try.f24 [.tv (.row tA3) a1, .tv (.row tA3) a2] [] (fin1 .bool)
noncomputable def laws_eqChanS.l4 (k n : Nat) (x0 : List (Int × Bool × (List Int) × (List (Int × Int × Int × Int × Unit)) × (List (Int × Int × Int × Int × Unit)) × Unit)) (x1 : List (Int × Bool × (List Int) × (List (Int × Int × Int × Int × Unit)) × (List (Int × Int × Int × Int × Unit)) × Unit)) (x5 : Int) : Option (Bool) :=
  resume (E_laws_eqChanS k) 24 (acall (E_laws_eqChanS k) (arun Try.prog (E_laws_eqChanS k) k)) k [true, true, false, true, true] [n] (bodyOf Try.f24) ⟨[.tv (.row tA3) x0, .tv (.row tA3) x1, .undef, .undef, .undef, .int .i64 x5, .undef, .undef, .undef, .undef, .undef, .undef, .undef, .undef, .undef, .undef, .undef, .undef, .undef, .undef, .undef, .undef, .undef, .undef, .undef, .undef, .undef], []⟩ (leave (E_laws_eqChanS k) Try.f24 (fin1 .bool))
theorem laws_eqChanS.l4_0 (k : Nat) (x0 : List (Int × Bool × (List Int) × (List (Int × Int × Int × Int × Unit)) × (List (Int × Int × Int × Int × Unit)) × Unit)) (x1 : List (Int × Bool × (List Int) × (List (Int × Int × Int × Int × Unit)) × (List (Int × Int × Int × Int × Unit)) × Unit)) (x5 : Int) : laws_eqChanS.l4 k 0 x0 x1 x5 = none := by kernel_rfl
theorem laws_eqChanS.l4_s (k n : Nat) (x0 : List (Int × Bool × (List Int) × (List (Int × Int × Int × Int × Unit)) × (List (Int × Int × Int × Int × Unit)) × Unit)) (x1 : List (Int × Bool × (List Int) × (List (Int × Int × Int × Int × Unit)) × (List (Int × Int × Int × Int × Unit)) × Unit)) (x5 : Int) : laws_eqChanS.l4 k (n + 1) x0 x1 x5 =
  iteB (decide (x5 < ((List.length x0) : Int))) (iteB (decide (0 ≤ x5)) (iteB (decide (x5 < ((List.length x0) : Int))) (iteB (decide (0 ≤ x5)) (iteB (decide (x5 < ((List.length x1) : Int))) (bindO (laws_eqChan k (List.getD x0 (Int.toNat x5) (Ty.dflt tA3)) (List.getD x1 (Int.toNat x5) (Ty.dflt tA3))) fun r1 => (iteB (!r1) (some false) (laws_eqChanS.l4 k n x0 x1 (IntKind.wrap .i64 (x5 + 1))))) (none)) (none)) (none)) (none)) (some true) := by kernel_rfl
theorem laws_eqChanS_e (k : Nat) (a1 : List (Int × Bool × (List Int) × (List (Int × Int × Int × Int × Unit)) × (List (Int × Int × Int × Int × Unit)) × Unit)) (a2 : List (Int × Bool × (List Int) × (List (Int × Int × Int × Int × Unit)) × (List (Int × Int × Int × Int × Unit)) × Unit)) : laws_eqChanS k a1 a2 =
  iteB (((List.length a1) : Int) != ((List.length a2) : Int)) (some false) (laws_eqChanS.l4 k k a1 a2 0) := by kernel_rfl
theorem E_laws_eqChanS_calls (k : Nat) : CallsOk Try.prog (E_laws_eqChanS k) (arun Try.prog (E_laws_eqChanS k) k) := by
  refine told_run (tyTOk _ _) ?_ (fun run h => regOk (tyTOk _ _) mixOk h) ?_ nameOk k
  · intro g m hg
    simp only [E_laws_eqChanS] at hg
    split at hg
    · cases hg
      refine con_byVal fun ρ l K x hm => ?_
      split at hm
      · obtain ⟨c1, h1, hm⟩ := Option.bind_eq_some_iff.1 hm
        obtain ⟨c2, h2, hm⟩ := Option.bind_eq_some_iff.1 hm
        obtain ⟨r, hr, hm⟩ := Option.bind_eq_some_iff.1 hm
        exact ⟨_, hm, LawV.reads (.cons (.as h1) (.cons (.as h2) .nil)) (laws_eqChan_law k c1 c2 r hr)⟩
      · cases hm
    · cases hg; exact noCon_ok
    · cases hg
  · intro g hg r
    by_cases h : g = 24
    · subst h; simp [E_laws_eqChanS] at hg
    · simp [E_laws_eqChanS, h]
theorem f24_oklaws_eqChanS : Try.prog.funcs[24]? = some Try.f24 := by kernel_rfl
theorem laws_eqChanS_law (k : Nat) (a1 : List (Int × Bool × (List Int) × (List (Int × Int × Int × Int × Unit)) × (List (Int × Int × Int × Int × Unit)) × Unit)) (a2 : List (Int × Bool × (List Int) × (List (Int × Int × Int × Int × Unit)) × (List (Int × Int × Int × Int × Unit)) × Unit)) (x : Bool) (h : laws_eqChanS k a1 a2 = some x) : LawV Try.prog 24 [.tv (.row tA3) a1, .tv (.row tA3) a2] (tvn .bool x) := by
  unfold laws_eqChanS at h
  exact law1 (t := .bool) (tyTOk _ _) (E_laws_eqChanS_calls k) mixOk f24_oklaws_eqChanS (nameOk _ _ f24_oklaws_eqChanS) (by kernel_rfl) h
/-! laws.eqWorld -/
noncomputable def E_laws_eqWorld (k : Nat) : Env := ⟨ty, fun g => match g with
  | 9 => some (byVal fun ρ l K => match l with
    | [b1, b2] => (b1.as (.row tA5)).bind fun c1 => (b2.as (.row tA5)).bind fun c2 => (laws_eqUnitS k c1 c2).bind fun r => K (tvn .bool r)
    | _ => none)
  | 23 => some (byVal fun ρ l K => match l with
    | [b1, b2] => (b1.as (.row tA2)).bind fun c1 => (b2.as (.row tA2)).bind fun c2 => (laws_eqBodyS k c1 c2).bind fun r => K (tvn .bool r)
    | _ => none)
  | 24 => some (byVal fun ρ l K => match l with
    | [b1, b2] => (b1.as (.row tA3)).bind fun c1 => (b2.as (.row tA3)).bind fun c2 => (laws_eqChanS k c1 c2).bind fun r => K (tvn .bool r)
    | _ => none)
  | 25 => some (byVal fun ρ l K => match l with
    | [b1, b2] => (b1.as (.row (.int .i64))).bind fun c1 => (b2.as (.row (.int .i64))).bind fun c2 => (laws_eqIntS k c1 c2).bind fun r => K (tvn .bool r)
    | _ => none)
  | _ => none, fun _ _ => none⟩
noncomputable def laws_eqWorld (k : Nat) (a1 : (List (ByteArray × Int × Int × (List (Int × Int × Int × Int × Int × ByteArray × (List Int) × Unit)) × Unit)) × (List ((List (Int × Int × (List Int) × Int × Unit)) × Bool × Bool × Int × Int × Int × Int × Int × Unit)) × (List (Int × Bool × (List Int) × (List (Int × Int × Int × Int × Unit)) × (List (Int × Int × Int × Int × Unit)) × Unit)) × (List Int) × Bool × Int × Unit) (a2 : (List (ByteArray × Int × Int × (List (Int × Int × Int × Int × Int × ByteArray × (List Int) × Unit)) × Unit)) × (List ((List (Int × Int × (List Int) × Int × Unit)) × Bool × Bool × Int × Int × Int × Int × Int × Unit)) × (List (Int × Bool × (List Int) × (List (Int × Int × Int × Int × Unit)) × (List (Int × Int × Int × Int × Unit)) × Unit)) × (List Int) × Bool × Int × Unit) : Option (Bool) :=
  abody (E_laws_eqWorld k) (arun Try.prog (E_laws_eqWorld k) k) k 8 Try.f8 [.tv (.pair (.row tA5) (.pair (.row tA2) (.pair (.row tA3) (.pair (.row (.int .i64)) (.pair .bool (.pair (.int .i64) .unit)))))) a1, .tv (.pair (.row tA5) (.pair (.row tA2) (.pair (.row tA3) (.pair (.row (.int .i64)) (.pair .bool (.pair (.int .i64) .unit)))))) a2] [] (fin1 .bool)
theorem laws_eqWorld_e (k : Nat) (a1 : (List (ByteArray × Int × Int × (List (Int × Int × Int × Int × Int × ByteArray × (List Int) × Unit)) × Unit)) × (List ((List (Int × Int × (List Int) × Int × Unit)) × Bool × Bool × Int × Int × Int × Int × Int × Unit)) × (List (Int × Bool × (List Int) × (List (Int × Int × Int × Int × Unit)) × (List (Int × Int × Int × Int × Unit)) × Unit)) × (List Int) × Bool × Int × Unit) (a2 : (List (ByteArray × Int × Int × (List (Int × Int × Int × Int × Int × ByteArray × (List Int) × Unit)) × Unit)) × (List ((List (Int × Int × (List Int) × Int × Unit)) × Bool × Bool × Int × Int × Int × Int × Int × Unit)) × (List (Int × Bool × (List Int) × (List (Int × Int × Int × Int × Unit)) × (List (Int × Int × Int × Int × Unit)) × Unit)) × (List Int) × Bool × Int × Unit) : laws_eqWorld k a1 a2 =
  bindO (laws_eqUnitS k a1.1 a2.1) fun r1 => (iteB (!r1) (some false) (bindO (laws_eqBodyS k a1.2.1 a2.2.1) fun r2 => (iteB (!r2) (some false) (bindO (laws_eqChanS k a1.2.2.1 a2.2.2.1) fun r3 => (iteB (!r3) (some false) (bindO (laws_eqIntS k a1.2.2.2.1 a2.2.2.2.1) fun r4 => (iteB (!r4) (some false) (iteB (!(a1.2.2.2.2.1 == a2.2.2.2.2.1)) (some false) (iteB (a1.2.2.2.2.2.1 != a2.2.2.2.2.2.1) (some false) (some true)))))))))) := by kernel_rfl
theorem E_laws_eqWorld_calls (k : Nat) : CallsOk Try.prog (E_laws_eqWorld k) (arun Try.prog (E_laws_eqWorld k) k) := by
  refine told_run (tyTOk _ _) ?_ (fun run h => regOk (tyTOk _ _) mixOk h) ?_ nameOk k
  · intro g m hg
    simp only [E_laws_eqWorld] at hg
    split at hg
    · cases hg
      refine con_byVal fun ρ l K x hm => ?_
      split at hm
      · obtain ⟨c1, h1, hm⟩ := Option.bind_eq_some_iff.1 hm
        obtain ⟨c2, h2, hm⟩ := Option.bind_eq_some_iff.1 hm
        obtain ⟨r, hr, hm⟩ := Option.bind_eq_some_iff.1 hm
        exact ⟨_, hm, LawV.reads (.cons (.as h1) (.cons (.as h2) .nil)) (laws_eqUnitS_law k c1 c2 r hr)⟩
      · cases hm
    · cases hg
      refine con_byVal fun ρ l K x hm => ?_
      split at hm
      · obtain ⟨c1, h1, hm⟩ := Option.bind_eq_some_iff.1 hm
        obtain ⟨c2, h2, hm⟩ := Option.bind_eq_some_iff.1 hm
        obtain ⟨r, hr, hm⟩ := Option.bind_eq_some_iff.1 hm
        exact ⟨_, hm, LawV.reads (.cons (.as h1) (.cons (.as h2) .nil)) (laws_eqBodyS_law k c1 c2 r hr)⟩
      · cases hm
    · cases hg
      refine con_byVal fun ρ l K x hm => ?_
      split at hm
      · obtain ⟨c1, h1, hm⟩ := Option.bind_eq_some_iff.1 hm
        obtain ⟨c2, h2, hm⟩ := Option.bind_eq_some_iff.1 hm
        obtain ⟨r, hr, hm⟩ := Option.bind_eq_some_iff.1 hm
        exact ⟨_, hm, LawV.reads (.cons (.as h1) (.cons (.as h2) .nil)) (laws_eqChanS_law k c1 c2 r hr)⟩
      · cases hm
    · cases hg
      refine con_byVal fun ρ l K x hm => ?_
      split at hm
      · obtain ⟨c1, h1, hm⟩ := Option.bind_eq_some_iff.1 hm
        obtain ⟨c2, h2, hm⟩ := Option.bind_eq_some_iff.1 hm
        obtain ⟨r, hr, hm⟩ := Option.bind_eq_some_iff.1 hm
        exact ⟨_, hm, LawV.reads (.cons (.as h1) (.cons (.as h2) .nil)) (laws_eqIntS_law k c1 c2 r hr)⟩
      · cases hm
    · cases hg
  · intro g _ r; rfl
theorem f8_oklaws_eqWorld : Try.prog.funcs[8]? = some Try.f8 := by kernel_rfl
theorem laws_eqWorld_law (k : Nat) (a1 : (List (ByteArray × Int × Int × (List (Int × Int × Int × Int × Int × ByteArray × (List Int) × Unit)) × Unit)) × (List ((List (Int × Int × (List Int) × Int × Unit)) × Bool × Bool × Int × Int × Int × Int × Int × Unit)) × (List (Int × Bool × (List Int) × (List (Int × Int × Int × Int × Unit)) × (List (Int × Int × Int × Int × Unit)) × Unit)) × (List Int) × Bool × Int × Unit) (a2 : (List (ByteArray × Int × Int × (List (Int × Int × Int × Int × Int × ByteArray × (List Int) × Unit)) × Unit)) × (List ((List (Int × Int × (List Int) × Int × Unit)) × Bool × Bool × Int × Int × Int × Int × Int × Unit)) × (List (Int × Bool × (List Int) × (List (Int × Int × Int × Int × Unit)) × (List (Int × Int × Int × Int × Unit)) × Unit)) × (List Int) × Bool × Int × Unit) (x : Bool) (h : laws_eqWorld k a1 a2 = some x) : LawV Try.prog 8 [.tv (.pair (.row tA5) (.pair (.row tA2) (.pair (.row tA3) (.pair (.row (.int .i64)) (.pair .bool (.pair (.int .i64) .unit)))))) a1, .tv (.pair (.row tA5) (.pair (.row tA2) (.pair (.row tA3) (.pair (.row (.int .i64)) (.pair .bool (.pair (.int .i64) .unit)))))) a2] (tvn .bool x) := by
  unfold laws_eqWorld at h
  exact law1 (t := .bool) (tyTOk _ _) (E_laws_eqWorld_calls k) mixOk f8_oklaws_eqWorld (nameOk _ _ f8_oklaws_eqWorld) (by kernel_rfl) h
/-! laws.markText -/
noncomputable def E_laws_markText (k : Nat) : Env := ⟨ty, fun g => match g with
  | 27 => some noCon
  | _ => none, fun f r => match f with | 27 => (match r with | 4 => some [0, 3] | _ => none) | _ => none⟩
noncomputable def laws_markText (k : Nat) (a1 : Int) : Option (ByteArray) :=
  abody (E_laws_markText k) (arun Try.prog (E_laws_markText k) k) k 27 Try.f27 [.int .i64 a1] [] (fin1 .str)
noncomputable def laws_markText.l4 (k n : Nat) (x0 : Int) (x3 : ByteArray) : Option (ByteArray) :=
  resume (E_laws_markText k) 27 (acall (E_laws_markText k) (arun Try.prog (E_laws_markText k) k)) k [true, true, true, false, true] [n] (bodyOf Try.f27) ⟨[.int .i64 x0, .undef, .undef, .str x3, .undef, .undef, .undef, .undef, .undef, .undef, .undef, .undef, .undef, .undef, .undef, .undef, .undef, .undef, .undef, .undef], []⟩ (leave (E_laws_markText k) Try.f27 (fin1 .str))
theorem laws_markText.l4_0 (k : Nat) (x0 : Int) (x3 : ByteArray) : laws_markText.l4 k 0 x0 x3 = none := by kernel_rfl
theorem laws_markText.l4_s (k n : Nat) (x0 : Int) (x3 : ByteArray) : laws_markText.l4 k (n + 1) x0 x3 =
  iteB (decide (x0 > 0)) (iteB (decide (ByteArray.size (bytesVal [IntKind.wrap .u8 (IntKind.wrap .i64 (48 + (Int.tmod x0 10)))]) + ByteArray.size x3 ≤ 9223372036854775807)) (laws_markText.l4 k n (IntKind.wrap .i64 (Int.tdiv x0 10)) ((bytesVal [IntKind.wrap .u8 (IntKind.wrap .i64 (48 + (Int.tmod x0 10)))]) ++ x3)) (none)) (iteB (decide (ByteArray.size (⟨#[109]⟩ : ByteArray) + ByteArray.size x3 ≤ 9223372036854775807)) (some ((⟨#[109]⟩ : ByteArray) ++ x3)) (none)) := by kernel_rfl
theorem laws_markText_e (k : Nat) (a1 : Int) : laws_markText k a1 =
  iteB (decide (a1 ≤ 0)) (some (⟨#[109, 48]⟩ : ByteArray)) (laws_markText.l4 k k a1 (⟨#[]⟩ : ByteArray)) := by kernel_rfl
theorem E_laws_markText_calls (k : Nat) : CallsOk Try.prog (E_laws_markText k) (arun Try.prog (E_laws_markText k) k) := by
  refine told_run (tyTOk _ _) ?_ (fun run h => regOk (tyTOk _ _) mixOk h) ?_ nameOk k
  · intro g m hg
    simp only [E_laws_markText] at hg
    split at hg
    · cases hg; exact noCon_ok
    · cases hg
  · intro g hg r
    by_cases h : g = 27
    · subst h; simp [E_laws_markText] at hg
    · simp [E_laws_markText, h]
theorem f27_oklaws_markText : Try.prog.funcs[27]? = some Try.f27 := by kernel_rfl
theorem laws_markText_law (k : Nat) (a1 : Int) (x : ByteArray) (h : laws_markText k a1 = some x) : LawV Try.prog 27 [.int .i64 a1] (tvn .str x) := by
  unfold laws_markText at h
  exact law1 (t := .str) (tyTOk _ _) (E_laws_markText_calls k) mixOk f27_oklaws_markText (nameOk _ _ f27_oklaws_markText) (by kernel_rfl) h
/-! laws.markIntS -/
noncomputable def E_laws_markIntS (k : Nat) : Env := ⟨ty, fun g => match g with
  | 31 => some noCon
  | _ => none, fun f r => match f with | 31 => (match r with | 2 => some [0, 1, 5] | 999999 => some [1] | _ => none) | _ => none⟩
noncomputable def laws_markIntS (k : Nat) (a1 : List Int) (a2 : Int) : Option (Int × (List (Int))) :=
  abody (E_laws_markIntS k) (arun Try.prog (E_laws_markIntS k) k) k 31 Try.f31 [.sl 0, .int .i64 a2] [some ⟨.typed (.int .i64) a1, false⟩] (finMd (.int .i64) (.int .i64))
noncomputable def laws_markIntS.l2 (k n : Nat) (x1 : Int) (x5 : Int) (y0 : List Int) : Option (Int × (List (Int))) :=
  resume (E_laws_markIntS k) 31 (acall (E_laws_markIntS k) (arun Try.prog (E_laws_markIntS k) k)) k [true, false, true, true] [n] (bodyOf Try.f31) ⟨[.sl 0, .int .i64 x1, .undef, .undef, .undef, .int .i64 x5, .undef, .undef, .undef, .undef, .undef, .undef, .undef, .undef, .undef, .undef, .undef, .undef, .undef], [some ⟨.typed (.int .i64) y0, false⟩]⟩ (leave (E_laws_markIntS k) Try.f31 (finMd (.int .i64) (.int .i64)))
theorem laws_markIntS.l2_0 (k : Nat) (x1 : Int) (x5 : Int) (y0 : List Int) : laws_markIntS.l2 k 0 x1 x5 y0 = none := by kernel_rfl
theorem laws_markIntS.l2_s (k n : Nat) (x1 : Int) (x5 : Int) (y0 : List Int) : laws_markIntS.l2 k (n + 1) x1 x5 y0 =
  iteB (decide (x5 < ((List.length y0) : Int))) (iteB (decide (0 ≤ x5)) (iteB (decide (x5 < ((List.length y0) : Int))) (laws_markIntS.l2 k n (IntKind.wrap .i64 (x1 + 1)) (IntKind.wrap .i64 (x5 + 1)) (List.set y0 (Int.toNat x5) x1)) (none)) (none)) (some (x1, y0)) := by kernel_rfl
theorem laws_markIntS_e (k : Nat) (a1 : List Int) (a2 : Int) : laws_markIntS k a1 a2 =
  laws_markIntS.l2 k k a2 0 a1 := by kernel_rfl
theorem E_laws_markIntS_calls (k : Nat) : CallsOk Try.prog (E_laws_markIntS k) (arun Try.prog (E_laws_markIntS k) k) := by
  refine told_run (tyTOk _ _) ?_ (fun run h => regOk (tyTOk _ _) mixOk h) ?_ nameOk k
  · intro g m hg
    simp only [E_laws_markIntS] at hg
    split at hg
    · cases hg; exact noCon_ok
    · cases hg
  · intro g hg r
    by_cases h : g = 31
    · subst h; simp [E_laws_markIntS] at hg
    · simp [E_laws_markIntS, h]
theorem f31_oklaws_markIntS : Try.prog.funcs[31]? = some Try.f31 := by kernel_rfl
theorem laws_markIntS_law (k : Nat) (a1 : List Int) (a2 : Int) (x : (Int) × (List (Int))) (h : laws_markIntS k a1 a2 = some x) : LawMd Try.prog 31 (.int .i64) a1 [.int .i64 a2] (tvM (.int .i64) x.1) x.2 := by
  unfold laws_markIntS at h
  exact lawMd (t := (.int .i64)) (e := (.int .i64)) (tyTOk _ _) (E_laws_markIntS_calls k) mixOk f31_oklaws_markIntS (nameOk _ _ f31_oklaws_markIntS) (by kernel_rfl) (Nat.lt_of_lt_of_eq Nat.zero_lt_one (by kernel_rfl : 1 = pinsOf (E_laws_markIntS k) 31)) (by kernel_rfl) (fun _ => rfl) h
/-! laws.markTacS -/
noncomputable def E_laws_markTacS (k : Nat) : Env := ⟨ty, fun g => match g with
  | 27 => some (byVal fun ρ l K => match l with
    | [b1] => (b1.as (.int .i64)).bind fun c1 => (laws_markText k c1).bind fun r => K (tvn .str r)
    | _ => none)
  | 31 => some (byMutD (.int .i64) fun ρ xs l K => match l with
    | [b1] => (b1.as (.int .i64)).bind fun c1 => (laws_markIntS k xs c1).bind fun r => K (tvM (.int .i64) r.1) r.2
    | _ => none)
  | 28 => some noCon
  | _ => none, fun f r => match f with | 28 => (match r with | 2 => some [0, 1, 5] | 999999 => some [1] | _ => none) | _ => none⟩
noncomputable def laws_markTacS (k : Nat) (a1 : List (Int × Int × Int × Int × Int × ByteArray × (List Int) × Unit)) (a2 : Int) : Option (Int × (List (Int × Int × Int × Int × Int × ByteArray × (List Int) × Unit))) :=
  abody (E_laws_markTacS k) (arun Try.prog (E_laws_markTacS k) k) k 28 Try.f28 [.sl 0, .int .i64 a2] [some ⟨.deep true tA4 a1, false⟩] (finMd (.int .i64) tA4)
noncomputable def laws_markTacS.l2 (k n : Nat) (x1 : Int) (x5 : Int) (y0 : List (Int × Int × Int × Int × Int × ByteArray × (List Int) × Unit)) : Option (Int × (List (Int × Int × Int × Int × Int × ByteArray × (List Int) × Unit))) :=
  resume (E_laws_markTacS k) 28 (acall (E_laws_markTacS k) (arun Try.prog (E_laws_markTacS k) k)) k [true, false, true, true] [n] (bodyOf Try.f28) ⟨[.sl 0, .int .i64 x1, .undef, .undef, .undef, .int .i64 x5, .undef, .undef, .undef, .undef, .undef, .undef, .undef, .undef, .undef, .undef, .undef, .undef, .undef, .undef, .undef, .undef, .undef, .undef, .undef, .undef, .undef, .undef, .undef, .undef, .undef, .undef, .undef, .undef, .undef, .undef, .undef, .undef, .undef, .undef, .undef, .undef, .undef, .undef, .undef, .undef, .undef, .undef, .undef, .undef, .undef, .undef, .undef, .undef, .undef, .undef, .undef, .undef, .undef, .undef, .undef, .undef, .undef], [some ⟨.deep true tA4 y0, false⟩]⟩ (leave (E_laws_markTacS k) Try.f28 (finMd (.int .i64) tA4))
theorem laws_markTacS.l2_0 (k : Nat) (x1 : Int) (x5 : Int) (y0 : List (Int × Int × Int × Int × Int × ByteArray × (List Int) × Unit)) : laws_markTacS.l2 k 0 x1 x5 y0 = none := by kernel_rfl
theorem laws_markTacS.l2_s (k n : Nat) (x1 : Int) (x5 : Int) (y0 : List (Int × Int × Int × Int × Int × ByteArray × (List Int) × Unit)) : laws_markTacS.l2 k (n + 1) x1 x5 y0 =
  iteB (decide (x5 < ((List.length y0) : Int))) (iteB (decide (0 ≤ x5)) (iteB (decide (x5 < ((List.length y0) : Int))) (iteB (decide (0 ≤ x5)) (iteB (decide (x5 < ((List.length ((fun (l_ : List (Int × Int × Int × Int × Int × ByteArray × (List Int) × Unit)) => List.set l_ (Int.toNat x5) ((fun (z_ : Int × Int × Int × Int × Int × ByteArray × (List Int) × Unit) => (x1, z_.2)) (List.getD l_ (Int.toNat x5) (Ty.dflt tA4)))) y0)) : Int))) (iteB (decide (0 ≤ x5)) (iteB (decide (x5 < ((List.length ((fun (l_ : List (Int × Int × Int × Int × Int × ByteArray × (List Int) × Unit)) => List.set l_ (Int.toNat x5) ((fun (z_ : Int × Int × Int × Int × Int × ByteArray × (List Int) × Unit) => (z_.1, IntKind.wrap .i64 (x1 + 1), z_.2.2)) (List.getD l_ (Int.toNat x5) (Ty.dflt tA4)))) ((fun (l_ : List (Int × Int × Int × Int × Int × ByteArray × (List Int) × Unit)) => List.set l_ (Int.toNat x5) ((fun (z_ : Int × Int × Int × Int × Int × ByteArray × (List Int) × Unit) => (x1, z_.2)) (List.getD l_ (Int.toNat x5) (Ty.dflt tA4)))) y0))) : Int))) (iteB (decide (0 ≤ x5)) (iteB (decide (x5 < ((List.length ((fun (l_ : List (Int × Int × Int × Int × Int × ByteArray × (List Int) × Unit)) => List.set l_ (Int.toNat x5) ((fun (z_ : Int × Int × Int × Int × Int × ByteArray × (List Int) × Unit) => (z_.1, z_.2.1, IntKind.wrap .i64 ((IntKind.wrap .i64 (x1 + 1)) + 1), z_.2.2.2)) (List.getD l_ (Int.toNat x5) (Ty.dflt tA4)))) ((fun (l_ : List (Int × Int × Int × Int × Int × ByteArray × (List Int) × Unit)) => List.set l_ (Int.toNat x5) ((fun (z_ : Int × Int × Int × Int × Int × ByteArray × (List Int) × Unit) => (z_.1, IntKind.wrap .i64 (x1 + 1), z_.2.2)) (List.getD l_ (Int.toNat x5) (Ty.dflt tA4)))) ((fun (l_ : List (Int × Int × Int × Int × Int × ByteArray × (List Int) × Unit)) => List.set l_ (Int.toNat x5) ((fun (z_ : Int × Int × Int × Int × Int × ByteArray × (List Int) × Unit) => (x1, z_.2)) (List.getD l_ (Int.toNat x5) (Ty.dflt tA4)))) y0)))) : Int))) (iteB (decide (0 ≤ x5)) (iteB (decide (x5 < ((List.length ((fun (l_ : List (Int × Int × Int × Int × Int × ByteArray × (List Int) × Unit)) => List.set l_ (Int.toNat x5) ((fun (z_ : Int × Int × Int × Int × Int × ByteArray × (List Int) × Unit) => (z_.1, z_.2.1, z_.2.2.1, IntKind.wrap .i64 ((IntKind.wrap .i64 ((IntKind.wrap .i64 (x1 + 1)) + 1)) + 1), z_.2.2.2.2)) (List.getD l_ (Int.toNat x5) (Ty.dflt tA4)))) ((fun (l_ : List (Int × Int × Int × Int × Int × ByteArray × (List Int) × Unit)) => List.set l_ (Int.toNat x5) ((fun (z_ : Int × Int × Int × Int × Int × ByteArray × (List Int) × Unit) => (z_.1, z_.2.1, IntKind.wrap .i64 ((IntKind.wrap .i64 (x1 + 1)) + 1), z_.2.2.2)) (List.getD l_ (Int.toNat x5) (Ty.dflt tA4)))) ((fun (l_ : List (Int × Int × Int × Int × Int × ByteArray × (List Int) × Unit)) => List.set l_ (Int.toNat x5) ((fun (z_ : Int × Int × Int × Int × Int × ByteArray × (List Int) × Unit) => (z_.1, IntKind.wrap .i64 (x1 + 1), z_.2.2)) (List.getD l_ (Int.toNat x5) (Ty.dflt tA4)))) ((fun (l_ : List (Int × Int × Int × Int × Int × ByteArray × (List Int) × Unit)) => List.set l_ (Int.toNat x5) ((fun (z_ : Int × Int × Int × Int × Int × ByteArray × (List Int) × Unit) => (x1, z_.2)) (List.getD l_ (Int.toNat x5) (Ty.dflt tA4)))) y0))))) : Int))) (bindO (laws_markText k (IntKind.wrap .i64 ((IntKind.wrap .i64 ((IntKind.wrap .i64 ((IntKind.wrap .i64 ((IntKind.wrap .i64 (x1 + 1)) + 1)) + 1)) + 1)) + 1))) fun r1 => (iteB (decide (0 ≤ x5)) (iteB (decide (x5 < ((List.length ((fun (l_ : List (Int × Int × Int × Int × Int × ByteArray × (List Int) × Unit)) => List.set l_ (Int.toNat x5) ((fun (z_ : Int × Int × Int × Int × Int × ByteArray × (List Int) × Unit) => (z_.1, z_.2.1, z_.2.2.1, z_.2.2.2.1, IntKind.wrap .i64 ((IntKind.wrap .i64 ((IntKind.wrap .i64 ((IntKind.wrap .i64 (x1 + 1)) + 1)) + 1)) + 1), z_.2.2.2.2.2)) (List.getD l_ (Int.toNat x5) (Ty.dflt tA4)))) ((fun (l_ : List (Int × Int × Int × Int × Int × ByteArray × (List Int) × Unit)) => List.set l_ (Int.toNat x5) ((fun (z_ : Int × Int × Int × Int × Int × ByteArray × (List Int) × Unit) => (z_.1, z_.2.1, z_.2.2.1, IntKind.wrap .i64 ((IntKind.wrap .i64 ((IntKind.wrap .i64 (x1 + 1)) + 1)) + 1), z_.2.2.2.2)) (List.getD l_ (Int.toNat x5) (Ty.dflt tA4)))) ((fun (l_ : List (Int × Int × Int × Int × Int × ByteArray × (List Int) × Unit)) => List.set l_ (Int.toNat x5) ((fun (z_ : Int × Int × Int × Int × Int × ByteArray × (List Int) × Unit) => (z_.1, z_.2.1, IntKind.wrap .i64 ((IntKind.wrap .i64 (x1 + 1)) + 1), z_.2.2.2)) (List.getD l_ (Int.toNat x5) (Ty.dflt tA4)))) ((fun (l_ : List (Int × Int × Int × Int × Int × ByteArray × (List Int) × Unit)) => List.set l_ (Int.toNat x5) ((fun (z_ : Int × Int × Int × Int × Int × ByteArray × (List Int) × Unit) => (z_.1, IntKind.wrap .i64 (x1 + 1), z_.2.2)) (List.getD l_ (Int.toNat x5) (Ty.dflt tA4)))) ((fun (l_ : List (Int × Int × Int × Int × Int × ByteArray × (List Int) × Unit)) => List.set l_ (Int.toNat x5) ((fun (z_ : Int × Int × Int × Int × Int × ByteArray × (List Int) × Unit) => (x1, z_.2)) (List.getD l_ (Int.toNat x5) (Ty.dflt tA4)))) y0)))))) : Int))) (iteB (decide (0 ≤ x5)) (iteB (decide (x5 < ((List.length ((fun (l_ : List (Int × Int × Int × Int × Int × ByteArray × (List Int) × Unit)) => List.set l_ (Int.toNat x5) ((fun (z_ : Int × Int × Int × Int × Int × ByteArray × (List Int) × Unit) => (z_.1, z_.2.1, z_.2.2.1, z_.2.2.2.1, z_.2.2.2.2.1, r1, z_.2.2.2.2.2.2)) (List.getD l_ (Int.toNat x5) (Ty.dflt tA4)))) ((fun (l_ : List (Int × Int × Int × Int × Int × ByteArray × (List Int) × Unit)) => List.set l_ (Int.toNat x5) ((fun (z_ : Int × Int × Int × Int × Int × ByteArray × (List Int) × Unit) => (z_.1, z_.2.1, z_.2.2.1, z_.2.2.2.1, IntKind.wrap .i64 ((IntKind.wrap .i64 ((IntKind.wrap .i64 ((IntKind.wrap .i64 (x1 + 1)) + 1)) + 1)) + 1), z_.2.2.2.2.2)) (List.getD l_ (Int.toNat x5) (Ty.dflt tA4)))) ((fun (l_ : List (Int × Int × Int × Int × Int × ByteArray × (List Int) × Unit)) => List.set l_ (Int.toNat x5) ((fun (z_ : Int × Int × Int × Int × Int × ByteArray × (List Int) × Unit) => (z_.1, z_.2.1, z_.2.2.1, IntKind.wrap .i64 ((IntKind.wrap .i64 ((IntKind.wrap .i64 (x1 + 1)) + 1)) + 1), z_.2.2.2.2)) (List.getD l_ (Int.toNat x5) (Ty.dflt tA4)))) ((fun (l_ : List (Int × Int × Int × Int × Int × ByteArray × (List Int) × Unit)) => List.set l_ (Int.toNat x5) ((fun (z_ : Int × Int × Int × Int × Int × ByteArray × (List Int) × Unit) => (z_.1, z_.2.1, IntKind.wrap .i64 ((IntKind.wrap .i64 (x1 + 1)) + 1), z_.2.2.2)) (List.getD l_ (Int.toNat x5) (Ty.dflt tA4)))) ((fun (l_ : List (Int × Int × Int × Int × Int × ByteArray × (List Int) × Unit)) => List.set l_ (Int.toNat x5) ((fun (z_ : Int × Int × Int × Int × Int × ByteArray × (List Int) × Unit) => (z_.1, IntKind.wrap .i64 (x1 + 1), z_.2.2)) (List.getD l_ (Int.toNat x5) (Ty.dflt tA4)))) ((fun (l_ : List (Int × Int × Int × Int × Int × ByteArray × (List Int) × Unit)) => List.set l_ (Int.toNat x5) ((fun (z_ : Int × Int × Int × Int × Int × ByteArray × (List Int) × Unit) => (x1, z_.2)) (List.getD l_ (Int.toNat x5) (Ty.dflt tA4)))) y0))))))) : Int))) (bindO (laws_markIntS k ((((((((List.getD ((fun (l_ : List (Int × Int × Int × Int × Int × ByteArray × (List Int) × Unit)) => List.set l_ (Int.toNat x5) ((fun (z_ : Int × Int × Int × Int × Int × ByteArray × (List Int) × Unit) => (z_.1, z_.2.1, z_.2.2.1, z_.2.2.2.1, z_.2.2.2.2.1, r1, z_.2.2.2.2.2.2)) (List.getD l_ (Int.toNat x5) (Ty.dflt tA4)))) ((fun (l_ : List (Int × Int × Int × Int × Int × ByteArray × (List Int) × Unit)) => List.set l_ (Int.toNat x5) ((fun (z_ : Int × Int × Int × Int × Int × ByteArray × (List Int) × Unit) => (z_.1, z_.2.1, z_.2.2.1, z_.2.2.2.1, IntKind.wrap .i64 ((IntKind.wrap .i64 ((IntKind.wrap .i64 ((IntKind.wrap .i64 (x1 + 1)) + 1)) + 1)) + 1), z_.2.2.2.2.2)) (List.getD l_ (Int.toNat x5) (Ty.dflt tA4)))) ((fun (l_ : List (Int × Int × Int × Int × Int × ByteArray × (List Int) × Unit)) => List.set l_ (Int.toNat x5) ((fun (z_ : Int × Int × Int × Int × Int × ByteArray × (List Int) × Unit) => (z_.1, z_.2.1, z_.2.2.1, IntKind.wrap .i64 ((IntKind.wrap .i64 ((IntKind.wrap .i64 (x1 + 1)) + 1)) + 1), z_.2.2.2.2)) (List.getD l_ (Int.toNat x5) (Ty.dflt tA4)))) ((fun (l_ : List (Int × Int × Int × Int × Int × ByteArray × (List Int) × Unit)) => List.set l_ (Int.toNat x5) ((fun (z_ : Int × Int × Int × Int × Int × ByteArray × (List Int) × Unit) => (z_.1, z_.2.1, IntKind.wrap .i64 ((IntKind.wrap .i64 (x1 + 1)) + 1), z_.2.2.2)) (List.getD l_ (Int.toNat x5) (Ty.dflt tA4)))) ((fun (l_ : List (Int × Int × Int × Int × Int × ByteArray × (List Int) × Unit)) => List.set l_ (Int.toNat x5) ((fun (z_ : Int × Int × Int × Int × Int × ByteArray × (List Int) × Unit) => (z_.1, IntKind.wrap .i64 (x1 + 1), z_.2.2)) (List.getD l_ (Int.toNat x5) (Ty.dflt tA4)))) ((fun (l_ : List (Int × Int × Int × Int × Int × ByteArray × (List Int) × Unit)) => List.set l_ (Int.toNat x5) ((fun (z_ : Int × Int × Int × Int × Int × ByteArray × (List Int) × Unit) => (x1, z_.2)) (List.getD l_ (Int.toNat x5) (Ty.dflt tA4)))) y0)))))) (Int.toNat x5) (Ty.dflt tA4)).2).2).2).2).2).2).1) (IntKind.wrap .i64 ((IntKind.wrap .i64 ((IntKind.wrap .i64 ((IntKind.wrap .i64 ((IntKind.wrap .i64 ((IntKind.wrap .i64 (x1 + 1)) + 1)) + 1)) + 1)) + 1)) + 1))) fun r2 => (laws_markTacS.l2 k n r2.1 (IntKind.wrap .i64 (x5 + 1)) ((fun (l_ : List (Int × Int × Int × Int × Int × ByteArray × (List Int) × Unit)) => List.set l_ (Int.toNat x5) ((fun (z_ : Int × Int × Int × Int × Int × ByteArray × (List Int) × Unit) => (z_.1, z_.2.1, z_.2.2.1, z_.2.2.2.1, z_.2.2.2.2.1, z_.2.2.2.2.2.1, r2.2, z_.2.2.2.2.2.2.2)) (List.getD l_ (Int.toNat x5) (Ty.dflt tA4)))) ((fun (l_ : List (Int × Int × Int × Int × Int × ByteArray × (List Int) × Unit)) => List.set l_ (Int.toNat x5) ((fun (z_ : Int × Int × Int × Int × Int × ByteArray × (List Int) × Unit) => (z_.1, z_.2.1, z_.2.2.1, z_.2.2.2.1, z_.2.2.2.2.1, r1, z_.2.2.2.2.2.2)) (List.getD l_ (Int.toNat x5) (Ty.dflt tA4)))) ((fun (l_ : List (Int × Int × Int × Int × Int × ByteArray × (List Int) × Unit)) => List.set l_ (Int.toNat x5) ((fun (z_ : Int × Int × Int × Int × Int × ByteArray × (List Int) × Unit) => (z_.1, z_.2.1, z_.2.2.1, z_.2.2.2.1, IntKind.wrap .i64 ((IntKind.wrap .i64 ((IntKind.wrap .i64 ((IntKind.wrap .i64 (x1 + 1)) + 1)) + 1)) + 1), z_.2.2.2.2.2)) (List.getD l_ (Int.toNat x5) (Ty.dflt tA4)))) ((fun (l_ : List (Int × Int × Int × Int × Int × ByteArray × (List Int) × Unit)) => List.set l_ (Int.toNat x5) ((fun (z_ : Int × Int × Int × Int × Int × ByteArray × (List Int) × Unit) => (z_.1, z_.2.1, z_.2.2.1, IntKind.wrap .i64 ((IntKind.wrap .i64 ((IntKind.wrap .i64 (x1 + 1)) + 1)) + 1), z_.2.2.2.2)) (List.getD l_ (Int.toNat x5) (Ty.dflt tA4)))) ((fun (l_ : List (Int × Int × Int × Int × Int × ByteArray × (List Int) × Unit)) => List.set l_ (Int.toNat x5) ((fun (z_ : Int × Int × Int × Int × Int × ByteArray × (List Int) × Unit) => (z_.1, z_.2.1, IntKind.wrap .i64 ((IntKind.wrap .i64 (x1 + 1)) + 1), z_.2.2.2)) (List.getD l_ (Int.toNat x5) (Ty.dflt tA4)))) ((fun (l_ : List (Int × Int × Int × Int × Int × ByteArray × (List Int) × Unit)) => List.set l_ (Int.toNat x5) ((fun (z_ : Int × Int × Int × Int × Int × ByteArray × (List Int) × Unit) => (z_.1, IntKind.wrap .i64 (x1 + 1), z_.2.2)) (List.getD l_ (Int.toNat x5) (Ty.dflt tA4)))) ((fun (l_ : List (Int × Int × Int × Int × Int × ByteArray × (List Int) × Unit)) => List.set l_ (Int.toNat x5) ((fun (z_ : Int × Int × Int × Int × Int × ByteArray × (List Int) × Unit) => (x1, z_.2)) (List.getD l_ (Int.toNat x5) (Ty.dflt tA4)))) y0))))))))) (none)) (none)) (none)) (none))) (none)) (none)) (none)) (none)) (none)) (none)) (none)) (none)) (none)) (none)) (some (x1, y0)) := by kernel_rfl
theorem laws_markTacS_e (k : Nat) (a1 : List (Int × Int × Int × Int × Int × ByteArray × (List Int) × Unit)) (a2 : Int) : laws_markTacS k a1 a2 =
  laws_markTacS.l2 k k a2 0 a1 := by kernel_rfl
theorem E_laws_markTacS_calls (k : Nat) : CallsOk Try.prog (E_laws_markTacS k) (arun Try.prog (E_laws_markTacS k) k) := by
  refine told_run (tyTOk _ _) ?_ (fun run h => regOk (tyTOk _ _) mixOk h) ?_ nameOk k
  · intro g m hg
    simp only [E_laws_markTacS] at hg
    split at hg
    · cases hg
      refine con_byVal fun ρ l K x hm => ?_
      split at hm
      · obtain ⟨c1, h1, hm⟩ := Option.bind_eq_some_iff.1 hm
        obtain ⟨r, hr, hm⟩ := Option.bind_eq_some_iff.1 hm
        exact ⟨_, hm, LawV.reads (.cons (.as h1) .nil) (laws_markText_law k c1 r hr)⟩
      · cases hm
    · cases hg
      refine con_byMutD fun ρ xs l K x hm => ?_
      split at hm
      · obtain ⟨c1, h1, hm⟩ := Option.bind_eq_some_iff.1 hm
        obtain ⟨r, hr, hm⟩ := Option.bind_eq_some_iff.1 hm
        exact ⟨_, _, hm, LawMd.reads (.cons (.as h1) .nil) (laws_markIntS_law k xs c1 r hr)⟩
      · cases hm
    · cases hg; exact noCon_ok
    · cases hg
  · intro g hg r
    by_cases h : g = 28
    · subst h; simp [E_laws_markTacS] at hg
    · simp [E_laws_markTacS, h]
theorem f28_oklaws_markTacS : Try.prog.funcs[28]? = some Try.f28 := by kernel_rfl
theorem laws_markTacS_law (k : Nat) (a1 : List (Int × Int × Int × Int × Int × ByteArray × (List Int) × Unit)) (a2 : Int) (x : (Int) × (List (Int × Int × Int × Int × Int × ByteArray × (List Int) × Unit))) (h : laws_markTacS k a1 a2 = some x) : LawMd Try.prog 28 tA4 a1 [.int .i64 a2] (tvM (.int .i64) x.1) x.2 := by
  unfold laws_markTacS at h
  exact lawMd (t := (.int .i64)) (e := tA4) (tyTOk _ _) (E_laws_markTacS_calls k) mixOk f28_oklaws_markTacS (nameOk _ _ f28_oklaws_markTacS) (by kernel_rfl) (Nat.lt_of_lt_of_eq Nat.zero_lt_one (by kernel_rfl : 1 = pinsOf (E_laws_markTacS k) 28)) (by kernel_rfl) (fun _ => rfl) h
end Go.Proofs.Ytajlenpookikoaa.XFnExactWorldNew
