/- Functions of the program as runs of the interpreter: equations, and a law for each. -/
import Derived.Test.YtampamlgkfhliaaProg
import Derived.Test.YtampamlgkfhliaaChecked
import Derived.KernelRfl
import Derived.Eval
import Derived.Test.YtampamlgkfhliaaATyOk
import Derived.Test.YtampamlgkfhliaaAS40
open Go Go.AM Go.AMx Go.Proofs
namespace Go.Proofs.Ytampamlgkfhliaa.XFnExactOpen
set_option linter.unusedVariables false
set_option linter.unusedSimpArgs false
/-! laws.szIntS -/
noncomputable def E_laws_szIntS (k : Nat) : Env := ⟨ty, fun _ => none, fun _ _ => none⟩
noncomputable def laws_szIntS (k : Nat) (a1 : List Int) (a2 : Int) : Option (Int) :=
  abody (E_laws_szIntS k) (arun Try.prog (E_laws_szIntS k) k) k 40 Try.f40 [.tv (.row (.int .i64)) a1, .int .i64 a2] [] (fin1 (.int .i64))
theorem laws_szIntS_e (k : Nat) (a1 : List Int) (a2 : Int) : laws_szIntS k a1 a2 =
  iteB (decide (IntKind.wrap .i64 (a2 - ((List.length a1) : Int)) < 0)) (some (-1)) (some (IntKind.wrap .i64 (a2 - ((List.length a1) : Int)))) := by kernel_rfl
theorem E_laws_szIntS_calls (k : Nat) : CallsOk Try.prog (E_laws_szIntS k) (arun Try.prog (E_laws_szIntS k) k) := by
  refine told_run (tyTOk _ _) ?_ (fun run h => regOk (tyTOk _ _) mixOk h) ?_ nameOk k
  · intro g m hg
    cases hg
  · intro g _ r; rfl
theorem f40_oklaws_szIntS : Try.prog.funcs[40]? = some Try.f40 := by kernel_rfl
theorem laws_szIntS_law (k : Nat) (a1 : List Int) (a2 : Int) (x : Int) (h : laws_szIntS k a1 a2 = some x) : LawV Try.prog 40 [.tv (.row (.int .i64)) a1, .int .i64 a2] (tvn (.int .i64) x) := by
  unfold laws_szIntS at h
  exact law1 (t := (.int .i64)) (tyTOk _ _) (E_laws_szIntS_calls k) mixOk f40_oklaws_szIntS (nameOk _ _ f40_oklaws_szIntS) (by kernel_rfl) h
/-! laws.szTac -/
noncomputable def E_laws_szTac (k : Nat) : Env := ⟨ty, fun g => match g with
  | 40 => some (byVal fun ρ l K => match l with
    | [b1, b2] => (b1.as (.row (.int .i64))).bind fun c1 => (b2.as (.int .i64)).bind fun c2 => (laws_szIntS k c1 c2).bind fun r => K (tvn (.int .i64) r)
    | _ => none)
  | _ => none, fun _ _ => none⟩
noncomputable def laws_szTac (k : Nat) (a1 : Int × Int × Int × Int × Int × ByteArray × (List Int) × Unit) (a2 : Int) : Option (Int) :=
  abody (E_laws_szTac k) (arun Try.prog (E_laws_szTac k) k) k 98 Try.f98 [.tv (.pair (.int .i64) (.pair (.int .i64) (.pair (.int .i64) (.pair (.int .i64) (.pair (.int .i64) (.pair .str (.pair (.row (.int .i64)) .unit))))))) a1, .int .i64 a2] [] (fin1 (.int .i64))
theorem laws_szTac_e (k : Nat) (a1 : Int × Int × Int × Int × Int × ByteArray × (List Int) × Unit) (a2 : Int) : laws_szTac k a1 a2 =
  iteB (decide (IntKind.wrap .i64 (a2 - (ByteArray.size a1.2.2.2.2.2.1 : Int)) < 0)) (some (-1)) (bindO (laws_szIntS k a1.2.2.2.2.2.2.1 (IntKind.wrap .i64 (a2 - (ByteArray.size a1.2.2.2.2.2.1 : Int)))) fun r1 => (iteB (decide (r1 < 0)) (some (-1)) (some r1))) := by kernel_rfl
theorem E_laws_szTac_calls (k : Nat) : CallsOk Try.prog (E_laws_szTac k) (arun Try.prog (E_laws_szTac k) k) := by
  refine told_run (tyTOk _ _) ?_ (fun run h => regOk (tyTOk _ _) mixOk h) ?_ nameOk k
  · intro g m hg
    simp only [E_laws_szTac] at hg
    split at hg
    · cases hg
      refine con_byVal fun ρ l K x hm => ?_
      split at hm
      · obtain ⟨c1, h1, hm⟩ := Option.bind_eq_some_iff.1 hm
        obtain ⟨c2, h2, hm⟩ := Option.bind_eq_some_iff.1 hm
        obtain ⟨r, hr, hm⟩ := Option.bind_eq_some_iff.1 hm
        exact ⟨_, hm, LawV.reads (.cons (.as h1) (.cons (.as h2) .nil)) (laws_szIntS_law k c1 c2 r hr)⟩
      · cases hm
    · cases hg
  · intro g _ r; rfl
theorem f98_oklaws_szTac : Try.prog.funcs[98]? = some Try.f98 := by kernel_rfl
theorem laws_szTac_law (k : Nat) (a1 : Int × Int × Int × Int × Int × ByteArray × (List Int) × Unit) (a2 : Int) (x : Int) (h : laws_szTac k a1 a2 = some x) : LawV Try.prog 98 [.tv (.pair (.int .i64) (.pair (.int .i64) (.pair (.int .i64) (.pair (.int .i64) (.pair (.int .i64) (.pair .str (.pair (.row (.int .i64)) .unit))))))) a1, .int .i64 a2] (tvn (.int .i64) x) := by
  unfold laws_szTac at h
  exact law1 (t := (.int .i64)) (tyTOk _ _) (E_laws_szTac_calls k) mixOk f98_oklaws_szTac (nameOk _ _ f98_oklaws_szTac) (by kernel_rfl) h
/-! laws.szTacS -/
noncomputable def E_laws_szTacS (k : Nat) : Env := ⟨ty, fun g => match g with
  | 98 => some (byVal fun ρ l K => match l with
    | [b1, b2] => (b1.as (.pair (.int .i64) (.pair (.int .i64) (.pair (.int .i64) (.pair (.int .i64) (.pair (.int .i64) (.pair .str (.pair (.row (.int .i64)) .unit)))))))).bind fun c1 => (b2.as (.int .i64)).bind fun c2 => (laws_szTac k c1 c2).bind fun r => K (tvn (.int .i64) r)
    | _ => none)
  | 49 => some noCon
  | _ => none, fun f r => match f with | 49 => (match r with | 5 => some [0, 1, 5] | _ => none) | _ => none⟩
noncomputable def laws_szTacS (k : Nat) (a1 : List (Int × Int × Int × Int × Int × ByteArray × (List Int) × Unit)) (a2 : Int) : Option (Int) :=
  abody (E_laws_szTacS k) (arun Try.prog (E_laws_szTacS k) k) k 49 Try.f49 [.tv (.row (.pair (.int .i64) (.pair (.int .i64) (.pair (.int .i64) (.pair (.int .i64) (.pair (.int .i64) (.pair .str (.pair (.row (.int .i64)) .unit)))))))) a1, .int .i64 a2] [] (fin1 (.int .i64))
noncomputable def laws_szTacS.l5 (k n : Nat) (x0 : List (Int × Int × Int × Int × Int × ByteArray × (List Int) × Unit)) (x1 : Int) (x5 : Int) : Option (Int) :=
  resume (E_laws_szTacS k) 49 (acall (E_laws_szTacS k) (arun Try.prog (E_laws_szTacS k) k)) k [true, true, true, false, true, true] [n] (bodyOf Try.f49) ⟨[.tv (.row (.pair (.int .i64) (.pair (.int .i64) (.pair (.int .i64) (.pair (.int .i64) (.pair (.int .i64) (.pair .str (.pair (.row (.int .i64)) .unit)))))))) x0, .int .i64 x1, .undef, .undef, .undef, .int .i64 x5, .undef, .undef, .undef, .undef, .undef, .undef, .undef, .undef, .undef, .undef, .undef, .undef, .undef, .undef, .undef, .undef, .undef, .undef, .undef, .undef, .undef], []⟩ (leave (E_laws_szTacS k) Try.f49 (fin1 (.int .i64)))
theorem laws_szTacS.l5_0 (k : Nat) (x0 : List (Int × Int × Int × Int × Int × ByteArray × (List Int) × Unit)) (x1 : Int) (x5 : Int) : laws_szTacS.l5 k 0 x0 x1 x5 = none := by kernel_rfl
theorem laws_szTacS.l5_s (k n : Nat) (x0 : List (Int × Int × Int × Int × Int × ByteArray × (List Int) × Unit)) (x1 : Int) (x5 : Int) : laws_szTacS.l5 k (n + 1) x0 x1 x5 =
  iteB (decide (x5 < ((List.length x0) : Int))) (iteB (decide (0 ≤ x5)) (iteB (decide (x5 < ((List.length x0) : Int))) (bindO (laws_szTac k (List.getD x0 (Int.toNat x5) (Ty.dflt (.pair (.int .i64) (.pair (.int .i64) (.pair (.int .i64) (.pair (.int .i64) (.pair (.int .i64) (.pair .str (.pair (.row (.int .i64)) .unit))))))))) x1) fun r1 => (iteB (decide (r1 < 0)) (some (-1)) (laws_szTacS.l5 k n x0 r1 (IntKind.wrap .i64 (x5 + 1))))) (none)) (none)) (some x1) := by kernel_rfl
theorem laws_szTacS_e (k : Nat) (a1 : List (Int × Int × Int × Int × Int × ByteArray × (List Int) × Unit)) (a2 : Int) : laws_szTacS k a1 a2 =
  iteB (decide (IntKind.wrap .i64 (a2 - ((List.length a1) : Int)) < 0)) (some (-1)) (laws_szTacS.l5 k k a1 (IntKind.wrap .i64 (a2 - ((List.length a1) : Int))) 0) := by kernel_rfl
theorem E_laws_szTacS_calls (k : Nat) : CallsOk Try.prog (E_laws_szTacS k) (arun Try.prog (E_laws_szTacS k) k) := by
  refine told_run (tyTOk _ _) ?_ (fun run h => regOk (tyTOk _ _) mixOk h) ?_ nameOk k
  · intro g m hg
    simp only [E_laws_szTacS] at hg
    split at hg
    · cases hg
      refine con_byVal fun ρ l K x hm => ?_
      split at hm
      · obtain ⟨c1, h1, hm⟩ := Option.bind_eq_some_iff.1 hm
        obtain ⟨c2, h2, hm⟩ := Option.bind_eq_some_iff.1 hm
        obtain ⟨r, hr, hm⟩ := Option.bind_eq_some_iff.1 hm
        exact ⟨_, hm, LawV.reads (.cons (.as h1) (.cons (.as h2) .nil)) (laws_szTac_law k c1 c2 r hr)⟩
      · cases hm
    · cases hg; exact noCon_ok
    · cases hg
  · intro g hg r
    by_cases h : g = 49
    · subst h; simp [E_laws_szTacS] at hg
    · simp [E_laws_szTacS, h]
theorem f49_oklaws_szTacS : Try.prog.funcs[49]? = some Try.f49 := by kernel_rfl
theorem laws_szTacS_law (k : Nat) (a1 : List (Int × Int × Int × Int × Int × ByteArray × (List Int) × Unit)) (a2 : Int) (x : Int) (h : laws_szTacS k a1 a2 = some x) : LawV Try.prog 49 [.tv (.row (.pair (.int .i64) (.pair (.int .i64) (.pair (.int .i64) (.pair (.int .i64) (.pair (.int .i64) (.pair .str (.pair (.row (.int .i64)) .unit)))))))) a1, .int .i64 a2] (tvn (.int .i64) x) := by
  unfold laws_szTacS at h
  exact law1 (t := (.int .i64)) (tyTOk _ _) (E_laws_szTacS_calls k) mixOk f49_oklaws_szTacS (nameOk _ _ f49_oklaws_szTacS) (by kernel_rfl) h
/-! laws.szUnit -/
noncomputable def E_laws_szUnit (k : Nat) : Env := ⟨ty, fun g => match g with
  | 49 => some (byVal fun ρ l K => match l with
    | [b1, b2] => (b1.as (.row (.pair (.int .i64) (.pair (.int .i64) (.pair (.int .i64) (.pair (.int .i64) (.pair (.int .i64) (.pair .str (.pair (.row (.int .i64)) .unit))))))))).bind fun c1 => (b2.as (.int .i64)).bind fun c2 => (laws_szTacS k c1 c2).bind fun r => K (tvn (.int .i64) r)
    | _ => none)
  | _ => none, fun _ _ => none⟩
noncomputable def laws_szUnit (k : Nat) (a1 : ByteArray × Int × Int × (List (Int × Int × Int × Int × Int × ByteArray × (List Int) × Unit)) × Unit) (a2 : Int) : Option (Int) :=
  abody (E_laws_szUnit k) (arun Try.prog (E_laws_szUnit k) k) k 18 Try.f18 [.tv (.pair .str (.pair (.int .i64) (.pair (.int .i64) (.pair (.row (.pair (.int .i64) (.pair (.int .i64) (.pair (.int .i64) (.pair (.int .i64) (.pair (.int .i64) (.pair .str (.pair (.row (.int .i64)) .unit)))))))) .unit)))) a1, .int .i64 a2] [] (fin1 (.int .i64))
theorem laws_szUnit_e (k : Nat) (a1 : ByteArray × Int × Int × (List (Int × Int × Int × Int × Int × ByteArray × (List Int) × Unit)) × Unit) (a2 : Int) : laws_szUnit k a1 a2 =
  iteB (decide (IntKind.wrap .i64 (a2 - (ByteArray.size a1.1 : Int)) < 0)) (some (-1)) (bindO (laws_szTacS k a1.2.2.2.1 (IntKind.wrap .i64 (a2 - (ByteArray.size a1.1 : Int)))) fun r1 => (iteB (decide (r1 < 0)) (some (-1)) (some r1))) := by kernel_rfl
theorem E_laws_szUnit_calls (k : Nat) : CallsOk Try.prog (E_laws_szUnit k) (arun Try.prog (E_laws_szUnit k) k) := by
  refine told_run (tyTOk _ _) ?_ (fun run h => regOk (tyTOk _ _) mixOk h) ?_ nameOk k
  · intro g m hg
    simp only [E_laws_szUnit] at hg
    split at hg
    · cases hg
      refine con_byVal fun ρ l K x hm => ?_
      split at hm
      · obtain ⟨c1, h1, hm⟩ := Option.bind_eq_some_iff.1 hm
        obtain ⟨c2, h2, hm⟩ := Option.bind_eq_some_iff.1 hm
        obtain ⟨r, hr, hm⟩ := Option.bind_eq_some_iff.1 hm
        exact ⟨_, hm, LawV.reads (.cons (.as h1) (.cons (.as h2) .nil)) (laws_szTacS_law k c1 c2 r hr)⟩
      · cases hm
    · cases hg
  · intro g _ r; rfl
theorem f18_oklaws_szUnit : Try.prog.funcs[18]? = some Try.f18 := by kernel_rfl
theorem laws_szUnit_law (k : Nat) (a1 : ByteArray × Int × Int × (List (Int × Int × Int × Int × Int × ByteArray × (List Int) × Unit)) × Unit) (a2 : Int) (x : Int) (h : laws_szUnit k a1 a2 = some x) : LawV Try.prog 18 [.tv (.pair .str (.pair (.int .i64) (.pair (.int .i64) (.pair (.row (.pair (.int .i64) (.pair (.int .i64) (.pair (.int .i64) (.pair (.int .i64) (.pair (.int .i64) (.pair .str (.pair (.row (.int .i64)) .unit)))))))) .unit)))) a1, .int .i64 a2] (tvn (.int .i64) x) := by
  unfold laws_szUnit at h
  exact law1 (t := (.int .i64)) (tyTOk _ _) (E_laws_szUnit_calls k) mixOk f18_oklaws_szUnit (nameOk _ _ f18_oklaws_szUnit) (by kernel_rfl) h
/-! laws.szUnitS -/
noncomputable def E_laws_szUnitS (k : Nat) : Env := ⟨ty, fun g => match g with
  | 18 => some (byVal fun ρ l K => match l with
    | [b1, b2] => (b1.as (.pair .str (.pair (.int .i64) (.pair (.int .i64) (.pair (.row (.pair (.int .i64) (.pair (.int .i64) (.pair (.int .i64) (.pair (.int .i64) (.pair (.int .i64) (.pair .str (.pair (.row (.int .i64)) .unit)))))))) .unit))))).bind fun c1 => (b2.as (.int .i64)).bind fun c2 => (laws_szUnit k c1 c2).bind fun r => K (tvn (.int .i64) r)
    | _ => none)
  | 31 => some noCon
  | _ => none, fun f r => match f with | 31 => (match r with | 5 => some [0, 1, 5] | _ => none) | _ => none⟩
noncomputable def laws_szUnitS (k : Nat) (a1 : List (ByteArray × Int × Int × (List (Int × Int × Int × Int × Int × ByteArray × (List Int) × Unit)) × Unit)) (a2 : Int) : Option (Int) :=
  abody (E_laws_szUnitS k) (arun Try.prog (E_laws_szUnitS k) k) k 31 Try.f31 [.tv (.row (.pair .str (.pair (.int .i64) (.pair (.int .i64) (.pair (.row (.pair (.int .i64) (.pair (.int .i64) (.pair (.int .i64) (.pair (.int .i64) (.pair (.int .i64) (.pair .str (.pair (.row (.int .i64)) .unit)))))))) .unit))))) a1, .int .i64 a2] [] (fin1 (.int .i64))
noncomputable def laws_szUnitS.l5 (k n : Nat) (x0 : List (ByteArray × Int × Int × (List (Int × Int × Int × Int × Int × ByteArray × (List Int) × Unit)) × Unit)) (x1 : Int) (x5 : Int) : Option (Int) :=
  resume (E_laws_szUnitS k) 31 (acall (E_laws_szUnitS k) (arun Try.prog (E_laws_szUnitS k) k)) k [true, true, true, false, true, true] [n] (bodyOf Try.f31) ⟨[.tv (.row (.pair .str (.pair (.int .i64) (.pair (.int .i64) (.pair (.row (.pair (.int .i64) (.pair (.int .i64) (.pair (.int .i64) (.pair (.int .i64) (.pair (.int .i64) (.pair .str (.pair (.row (.int .i64)) .unit)))))))) .unit))))) x0, .int .i64 x1, .undef, .undef, .undef, .int .i64 x5, .undef, .undef, .undef, .undef, .undef, .undef, .undef, .undef, .undef, .undef, .undef, .undef, .undef, .undef, .undef, .undef, .undef, .undef, .undef, .undef, .undef], []⟩ (leave (E_laws_szUnitS k) Try.f31 (fin1 (.int .i64)))
theorem laws_szUnitS.l5_0 (k : Nat) (x0 : List (ByteArray × Int × Int × (List (Int × Int × Int × Int × Int × ByteArray × (List Int) × Unit)) × Unit)) (x1 : Int) (x5 : Int) : laws_szUnitS.l5 k 0 x0 x1 x5 = none := by kernel_rfl
theorem laws_szUnitS.l5_s (k n : Nat) (x0 : List (ByteArray × Int × Int × (List (Int × Int × Int × Int × Int × ByteArray × (List Int) × Unit)) × Unit)) (x1 : Int) (x5 : Int) : laws_szUnitS.l5 k (n + 1) x0 x1 x5 =
  iteB (decide (x5 < ((List.length x0) : Int))) (iteB (decide (0 ≤ x5)) (iteB (decide (x5 < ((List.length x0) : Int))) (bindO (laws_szUnit k (List.getD x0 (Int.toNat x5) (Ty.dflt (.pair .str (.pair (.int .i64) (.pair (.int .i64) (.pair (.row (.pair (.int .i64) (.pair (.int .i64) (.pair (.int .i64) (.pair (.int .i64) (.pair (.int .i64) (.pair .str (.pair (.row (.int .i64)) .unit)))))))) .unit)))))) x1) fun r1 => (iteB (decide (r1 < 0)) (some (-1)) (laws_szUnitS.l5 k n x0 r1 (IntKind.wrap .i64 (x5 + 1))))) (none)) (none)) (some x1) := by kernel_rfl
theorem laws_szUnitS_e (k : Nat) (a1 : List (ByteArray × Int × Int × (List (Int × Int × Int × Int × Int × ByteArray × (List Int) × Unit)) × Unit)) (a2 : Int) : laws_szUnitS k a1 a2 =
  iteB (decide (IntKind.wrap .i64 (a2 - ((List.length a1) : Int)) < 0)) (some (-1)) (laws_szUnitS.l5 k k a1 (IntKind.wrap .i64 (a2 - ((List.length a1) : Int))) 0) := by kernel_rfl
theorem E_laws_szUnitS_calls (k : Nat) : CallsOk Try.prog (E_laws_szUnitS k) (arun Try.prog (E_laws_szUnitS k) k) := by
  refine told_run (tyTOk _ _) ?_ (fun run h => regOk (tyTOk _ _) mixOk h) ?_ nameOk k
  · intro g m hg
    simp only [E_laws_szUnitS] at hg
    split at hg
    · cases hg
      refine con_byVal fun ρ l K x hm => ?_
      split at hm
      · obtain ⟨c1, h1, hm⟩ := Option.bind_eq_some_iff.1 hm
        obtain ⟨c2, h2, hm⟩ := Option.bind_eq_some_iff.1 hm
        obtain ⟨r, hr, hm⟩ := Option.bind_eq_some_iff.1 hm
        exact ⟨_, hm, LawV.reads (.cons (.as h1) (.cons (.as h2) .nil)) (laws_szUnit_law k c1 c2 r hr)⟩
      · cases hm
    · cases hg; exact noCon_ok
    · cases hg
  · intro g hg r
    by_cases h : g = 31
    · subst h; simp [E_laws_szUnitS] at hg
    · simp [E_laws_szUnitS, h]
theorem f31_oklaws_szUnitS : Try.prog.funcs[31]? = some Try.f31 := by kernel_rfl
theorem laws_szUnitS_law (k : Nat) (a1 : List (ByteArray × Int × Int × (List (Int × Int × Int × Int × Int × ByteArray × (List Int) × Unit)) × Unit)) (a2 : Int) (x : Int) (h : laws_szUnitS k a1 a2 = some x) : LawV Try.prog 31 [.tv (.row (.pair .str (.pair (.int .i64) (.pair (.int .i64) (.pair (.row (.pair (.int .i64) (.pair (.int .i64) (.pair (.int .i64) (.pair (.int .i64) (.pair (.int .i64) (.pair .str (.pair (.row (.int .i64)) .unit)))))))) .unit))))) a1, .int .i64 a2] (tvn (.int .i64) x) := by
  unfold laws_szUnitS at h
  exact law1 (t := (.int .i64)) (tyTOk _ _) (E_laws_szUnitS_calls k) mixOk f31_oklaws_szUnitS (nameOk _ _ f31_oklaws_szUnitS) (by kernel_rfl) h
/-! laws.szFrame -/
noncomputable def E_laws_szFrame (k : Nat) : Env := ⟨ty, fun g => match g with
  | 40 => some (byVal fun ρ l K => match l with
    | [b1, b2] => (b1.as (.row (.int .i64))).bind fun c1 => (b2.as (.int .i64)).bind fun c2 => (laws_szIntS k c1 c2).bind fun r => K (tvn (.int .i64) r)
    | _ => none)
  | _ => none, fun _ _ => none⟩
noncomputable def laws_szFrame (k : Nat) (a1 : Int × Int × (List Int) × Int × Unit) (a2 : Int) : Option (Int) :=
  abody (E_laws_szFrame k) (arun Try.prog (E_laws_szFrame k) k) k 149 Try.f149 [.tv (.pair (.int .i64) (.pair (.int .i64) (.pair (.row (.int .i64)) (.pair (.int .i64) .unit)))) a1, .int .i64 a2] [] (fin1 (.int .i64))
theorem laws_szFrame_e (k : Nat) (a1 : Int × Int × (List Int) × Int × Unit) (a2 : Int) : laws_szFrame k a1 a2 =
  bindO (laws_szIntS k a1.2.2.1 a2) fun r1 => (iteB (decide (r1 < 0)) (some (-1)) (some r1)) := by kernel_rfl
theorem E_laws_szFrame_calls (k : Nat) : CallsOk Try.prog (E_laws_szFrame k) (arun Try.prog (E_laws_szFrame k) k) := by
  refine told_run (tyTOk _ _) ?_ (fun run h => regOk (tyTOk _ _) mixOk h) ?_ nameOk k
  · intro g m hg
    simp only [E_laws_szFrame] at hg
    split at hg
    · cases hg
      refine con_byVal fun ρ l K x hm => ?_
      split at hm
      · obtain ⟨c1, h1, hm⟩ := Option.bind_eq_some_iff.1 hm
        obtain ⟨c2, h2, hm⟩ := Option.bind_eq_some_iff.1 hm
        obtain ⟨r, hr, hm⟩ := Option.bind_eq_some_iff.1 hm
        exact ⟨_, hm, LawV.reads (.cons (.as h1) (.cons (.as h2) .nil)) (laws_szIntS_law k c1 c2 r hr)⟩
      · cases hm
    · cases hg
  · intro g _ r; rfl
theorem f149_oklaws_szFrame : Try.prog.funcs[149]? = some Try.f149 := by kernel_rfl
theorem laws_szFrame_law (k : Nat) (a1 : Int × Int × (List Int) × Int × Unit) (a2 : Int) (x : Int) (h : laws_szFrame k a1 a2 = some x) : LawV Try.prog 149 [.tv (.pair (.int .i64) (.pair (.int .i64) (.pair (.row (.int .i64)) (.pair (.int .i64) .unit)))) a1, .int .i64 a2] (tvn (.int .i64) x) := by
  unfold laws_szFrame at h
  exact law1 (t := (.int .i64)) (tyTOk _ _) (E_laws_szFrame_calls k) mixOk f149_oklaws_szFrame (nameOk _ _ f149_oklaws_szFrame) (by kernel_rfl) h
/-! laws.szFrameS -/
noncomputable def E_laws_szFrameS (k : Nat) : Env := ⟨ty, fun g => match g with
  | 149 => some (byVal fun ρ l K => match l with
    | [b1, b2] => (b1.as (.pair (.int .i64) (.pair (.int .i64) (.pair (.row (.int .i64)) (.pair (.int .i64) .unit))))).bind fun c1 => (b2.as (.int .i64)).bind fun c2 => (laws_szFrame k c1 c2).bind fun r => K (tvn (.int .i64) r)
    | _ => none)
  | 125 => some noCon
  | _ => none, fun f r => match f with | 125 => (match r with | 5 => some [0, 1, 5] | _ => none) | _ => none⟩
noncomputable def laws_szFrameS (k : Nat) (a1 : List (Int × Int × (List Int) × Int × Unit)) (a2 : Int) : Option (Int) :=
  abody (E_laws_szFrameS k) (arun Try.prog (E_laws_szFrameS k) k) k 125 Try.f125 [.tv (.row (.pair (.int .i64) (.pair (.int .i64) (.pair (.row (.int .i64)) (.pair (.int .i64) .unit))))) a1, .int .i64 a2] [] (fin1 (.int .i64))
noncomputable def laws_szFrameS.l5 (k n : Nat) (x0 : List (Int × Int × (List Int) × Int × Unit)) (x1 : Int) (x5 : Int) : Option (Int) :=
  resume (E_laws_szFrameS k) 125 (acall (E_laws_szFrameS k) (arun Try.prog (E_laws_szFrameS k) k)) k [true, true, true, false, true, true] [n] (bodyOf Try.f125) ⟨[.tv (.row (.pair (.int .i64) (.pair (.int .i64) (.pair (.row (.int .i64)) (.pair (.int .i64) .unit))))) x0, .int .i64 x1, .undef, .undef, .undef, .int .i64 x5, .undef, .undef, .undef, .undef, .undef, .undef, .undef, .undef, .undef, .undef, .undef, .undef, .undef, .undef, .undef, .undef, .undef, .undef, .undef, .undef, .undef], []⟩ (leave (E_laws_szFrameS k) Try.f125 (fin1 (.int .i64)))
theorem laws_szFrameS.l5_0 (k : Nat) (x0 : List (Int × Int × (List Int) × Int × Unit)) (x1 : Int) (x5 : Int) : laws_szFrameS.l5 k 0 x0 x1 x5 = none := by kernel_rfl
theorem laws_szFrameS.l5_s (k n : Nat) (x0 : List (Int × Int × (List Int) × Int × Unit)) (x1 : Int) (x5 : Int) : laws_szFrameS.l5 k (n + 1) x0 x1 x5 =
  iteB (decide (x5 < ((List.length x0) : Int))) (iteB (decide (0 ≤ x5)) (iteB (decide (x5 < ((List.length x0) : Int))) (bindO (laws_szFrame k (List.getD x0 (Int.toNat x5) (Ty.dflt (.pair (.int .i64) (.pair (.int .i64) (.pair (.row (.int .i64)) (.pair (.int .i64) .unit)))))) x1) fun r1 => (iteB (decide (r1 < 0)) (some (-1)) (laws_szFrameS.l5 k n x0 r1 (IntKind.wrap .i64 (x5 + 1))))) (none)) (none)) (some x1) := by kernel_rfl
theorem laws_szFrameS_e (k : Nat) (a1 : List (Int × Int × (List Int) × Int × Unit)) (a2 : Int) : laws_szFrameS k a1 a2 =
  iteB (decide (IntKind.wrap .i64 (a2 - ((List.length a1) : Int)) < 0)) (some (-1)) (laws_szFrameS.l5 k k a1 (IntKind.wrap .i64 (a2 - ((List.length a1) : Int))) 0) := by kernel_rfl
theorem E_laws_szFrameS_calls (k : Nat) : CallsOk Try.prog (E_laws_szFrameS k) (arun Try.prog (E_laws_szFrameS k) k) := by
  refine told_run (tyTOk _ _) ?_ (fun run h => regOk (tyTOk _ _) mixOk h) ?_ nameOk k
  · intro g m hg
    simp only [E_laws_szFrameS] at hg
    split at hg
    · cases hg
      refine con_byVal fun ρ l K x hm => ?_
      split at hm
      · obtain ⟨c1, h1, hm⟩ := Option.bind_eq_some_iff.1 hm
        obtain ⟨c2, h2, hm⟩ := Option.bind_eq_some_iff.1 hm
        obtain ⟨r, hr, hm⟩ := Option.bind_eq_some_iff.1 hm
        exact ⟨_, hm, LawV.reads (.cons (.as h1) (.cons (.as h2) .nil)) (laws_szFrame_law k c1 c2 r hr)⟩
      · cases hm
    · cases hg; exact noCon_ok
    · cases hg
  · intro g hg r
    by_cases h : g = 125
    · subst h; simp [E_laws_szFrameS] at hg
    · simp [E_laws_szFrameS, h]
theorem f125_oklaws_szFrameS : Try.prog.funcs[125]? = some Try.f125 := by kernel_rfl
theorem laws_szFrameS_law (k : Nat) (a1 : List (Int × Int × (List Int) × Int × Unit)) (a2 : Int) (x : Int) (h : laws_szFrameS k a1 a2 = some x) : LawV Try.prog 125 [.tv (.row (.pair (.int .i64) (.pair (.int .i64) (.pair (.row (.int .i64)) (.pair (.int .i64) .unit))))) a1, .int .i64 a2] (tvn (.int .i64) x) := by
  unfold laws_szFrameS at h
  exact law1 (t := (.int .i64)) (tyTOk _ _) (E_laws_szFrameS_calls k) mixOk f125_oklaws_szFrameS (nameOk _ _ f125_oklaws_szFrameS) (by kernel_rfl) h
/-! laws.szBody -/
noncomputable def E_laws_szBody (k : Nat) : Env := ⟨ty, fun g => match g with
  | 125 => some (byVal fun ρ l K => match l with
    | [b1, b2] => (b1.as (.row (.pair (.int .i64) (.pair (.int .i64) (.pair (.row (.int .i64)) (.pair (.int .i64) .unit)))))).bind fun c1 => (b2.as (.int .i64)).bind fun c2 => (laws_szFrameS k c1 c2).bind fun r => K (tvn (.int .i64) r)
    | _ => none)
  | _ => none, fun _ _ => none⟩
noncomputable def laws_szBody (k : Nat) (a1 : (List (Int × Int × (List Int) × Int × Unit)) × Bool × Bool × Int × Int × Int × Int × Int × Unit) (a2 : Int) : Option (Int) :=
  abody (E_laws_szBody k) (arun Try.prog (E_laws_szBody k) k) k 90 Try.f90 [.tv (.pair (.row (.pair (.int .i64) (.pair (.int .i64) (.pair (.row (.int .i64)) (.pair (.int .i64) .unit))))) (.pair .bool (.pair .bool (.pair (.int .i64) (.pair (.int .i64) (.pair (.int .i64) (.pair (.int .i64) (.pair (.int .i64) .unit)))))))) a1, .int .i64 a2] [] (fin1 (.int .i64))
theorem laws_szBody_e (k : Nat) (a1 : (List (Int × Int × (List Int) × Int × Unit)) × Bool × Bool × Int × Int × Int × Int × Int × Unit) (a2 : Int) : laws_szBody k a1 a2 =
  bindO (laws_szFrameS k a1.1 a2) fun r1 => (iteB (decide (r1 < 0)) (some (-1)) (some r1)) := by kernel_rfl
theorem E_laws_szBody_calls (k : Nat) : CallsOk Try.prog (E_laws_szBody k) (arun Try.prog (E_laws_szBody k) k) := by
  refine told_run (tyTOk _ _) ?_ (fun run h => regOk (tyTOk _ _) mixOk h) ?_ nameOk k
  · intro g m hg
    simp only [E_laws_szBody] at hg
    split at hg
    · cases hg
      refine con_byVal fun ρ l K x hm => ?_
      split at hm
      · obtain ⟨c1, h1, hm⟩ := Option.bind_eq_some_iff.1 hm
        obtain ⟨c2, h2, hm⟩ := Option.bind_eq_some_iff.1 hm
        obtain ⟨r, hr, hm⟩ := Option.bind_eq_some_iff.1 hm
        exact ⟨_, hm, LawV.reads (.cons (.as h1) (.cons (.as h2) .nil)) (laws_szFrameS_law k c1 c2 r hr)⟩
      · cases hm
    · cases hg
  · intro g _ r; rfl
theorem f90_oklaws_szBody : Try.prog.funcs[90]? = some Try.f90 := by kernel_rfl
theorem laws_szBody_law (k : Nat) (a1 : (List (Int × Int × (List Int) × Int × Unit)) × Bool × Bool × Int × Int × Int × Int × Int × Unit) (a2 : Int) (x : Int) (h : laws_szBody k a1 a2 = some x) : LawV Try.prog 90 [.tv (.pair (.row (.pair (.int .i64) (.pair (.int .i64) (.pair (.row (.int .i64)) (.pair (.int .i64) .unit))))) (.pair .bool (.pair .bool (.pair (.int .i64) (.pair (.int .i64) (.pair (.int .i64) (.pair (.int .i64) (.pair (.int .i64) .unit)))))))) a1, .int .i64 a2] (tvn (.int .i64) x) := by
  unfold laws_szBody at h
  exact law1 (t := (.int .i64)) (tyTOk _ _) (E_laws_szBody_calls k) mixOk f90_oklaws_szBody (nameOk _ _ f90_oklaws_szBody) (by kernel_rfl) h
/-! laws.szBodyS -/
noncomputable def E_laws_szBodyS (k : Nat) : Env := ⟨ty, fun g => match g with
  | 90 => some (byVal fun ρ l K => match l with
    | [b1, b2] => (b1.as (.pair (.row (.pair (.int .i64) (.pair (.int .i64) (.pair (.row (.int .i64)) (.pair (.int .i64) .unit))))) (.pair .bool (.pair .bool (.pair (.int .i64) (.pair (.int .i64) (.pair (.int .i64) (.pair (.int .i64) (.pair (.int .i64) .unit))))))))).bind fun c1 => (b2.as (.int .i64)).bind fun c2 => (laws_szBody k c1 c2).bind fun r => K (tvn (.int .i64) r)
    | _ => none)
  | 38 => some noCon
  | _ => none, fun f r => match f with | 38 => (match r with | 5 => some [0, 1, 5] | _ => none) | _ => none⟩
noncomputable def laws_szBodyS (k : Nat) (a1 : List ((List (Int × Int × (List Int) × Int × Unit)) × Bool × Bool × Int × Int × Int × Int × Int × Unit)) (a2 : Int) : Option (Int) :=
  abody (E_laws_szBodyS k) (arun Try.prog (E_laws_szBodyS k) k) k 38 Try.f38 [.tv (.row (.pair (.row (.pair (.int .i64) (.pair (.int .i64) (.pair (.row (.int .i64)) (.pair (.int .i64) .unit))))) (.pair .bool (.pair .bool (.pair (.int .i64) (.pair (.int .i64) (.pair (.int .i64) (.pair (.int .i64) (.pair (.int .i64) .unit))))))))) a1, .int .i64 a2] [] (fin1 (.int .i64))
noncomputable def laws_szBodyS.l5 (k n : Nat) (x0 : List ((List (Int × Int × (List Int) × Int × Unit)) × Bool × Bool × Int × Int × Int × Int × Int × Unit)) (x1 : Int) (x5 : Int) : Option (Int) :=
  resume (E_laws_szBodyS k) 38 (acall (E_laws_szBodyS k) (arun Try.prog (E_laws_szBodyS k) k)) k [true, true, true, false, true, true] [n] (bodyOf Try.f38) ⟨[.tv (.row (.pair (.row (.pair (.int .i64) (.pair (.int .i64) (.pair (.row (.int .i64)) (.pair (.int .i64) .unit))))) (.pair .bool (.pair .bool (.pair (.int .i64) (.pair (.int .i64) (.pair (.int .i64) (.pair (.int .i64) (.pair (.int .i64) .unit))))))))) x0, .int .i64 x1, .undef, .undef, .undef, .int .i64 x5, .undef, .undef, .undef, .undef, .undef, .undef, .undef, .undef, .undef, .undef, .undef, .undef, .undef, .undef, .undef, .undef, .undef, .undef, .undef, .undef, .undef], []⟩ (leave (E_laws_szBodyS k) Try.f38 (fin1 (.int .i64)))
theorem laws_szBodyS.l5_0 (k : Nat) (x0 : List ((List (Int × Int × (List Int) × Int × Unit)) × Bool × Bool × Int × Int × Int × Int × Int × Unit)) (x1 : Int) (x5 : Int) : laws_szBodyS.l5 k 0 x0 x1 x5 = none := by kernel_rfl
theorem laws_szBodyS.l5_s (k n : Nat) (x0 : List ((List (Int × Int × (List Int) × Int × Unit)) × Bool × Bool × Int × Int × Int × Int × Int × Unit)) (x1 : Int) (x5 : Int) : laws_szBodyS.l5 k (n + 1) x0 x1 x5 =
  iteB (decide (x5 < ((List.length x0) : Int))) (iteB (decide (0 ≤ x5)) (iteB (decide (x5 < ((List.length x0) : Int))) (bindO (laws_szBody k (List.getD x0 (Int.toNat x5) (Ty.dflt (.pair (.row (.pair (.int .i64) (.pair (.int .i64) (.pair (.row (.int .i64)) (.pair (.int .i64) .unit))))) (.pair .bool (.pair .bool (.pair (.int .i64) (.pair (.int .i64) (.pair (.int .i64) (.pair (.int .i64) (.pair (.int .i64) .unit)))))))))) x1) fun r1 => (iteB (decide (r1 < 0)) (some (-1)) (laws_szBodyS.l5 k n x0 r1 (IntKind.wrap .i64 (x5 + 1))))) (none)) (none)) (some x1) := by kernel_rfl
theorem laws_szBodyS_e (k : Nat) (a1 : List ((List (Int × Int × (List Int) × Int × Unit)) × Bool × Bool × Int × Int × Int × Int × Int × Unit)) (a2 : Int) : laws_szBodyS k a1 a2 =
  iteB (decide (IntKind.wrap .i64 (a2 - ((List.length a1) : Int)) < 0)) (some (-1)) (laws_szBodyS.l5 k k a1 (IntKind.wrap .i64 (a2 - ((List.length a1) : Int))) 0) := by kernel_rfl
theorem E_laws_szBodyS_calls (k : Nat) : CallsOk Try.prog (E_laws_szBodyS k) (arun Try.prog (E_laws_szBodyS k) k) := by
  refine told_run (tyTOk _ _) ?_ (fun run h => regOk (tyTOk _ _) mixOk h) ?_ nameOk k
  · intro g m hg
    simp only [E_laws_szBodyS] at hg
    split at hg
    · cases hg
      refine con_byVal fun ρ l K x hm => ?_
      split at hm
      · obtain ⟨c1, h1, hm⟩ := Option.bind_eq_some_iff.1 hm
        obtain ⟨c2, h2, hm⟩ := Option.bind_eq_some_iff.1 hm
        obtain ⟨r, hr, hm⟩ := Option.bind_eq_some_iff.1 hm
        exact ⟨_, hm, LawV.reads (.cons (.as h1) (.cons (.as h2) .nil)) (laws_szBody_law k c1 c2 r hr)⟩
      · cases hm
    · cases hg; exact noCon_ok
    · cases hg
  · intro g hg r
    by_cases h : g = 38
    · subst h; simp [E_laws_szBodyS] at hg
    · simp [E_laws_szBodyS, h]
theorem f38_oklaws_szBodyS : Try.prog.funcs[38]? = some Try.f38 := by kernel_rfl
theorem laws_szBodyS_law (k : Nat) (a1 : List ((List (Int × Int × (List Int) × Int × Unit)) × Bool × Bool × Int × Int × Int × Int × Int × Unit)) (a2 : Int) (x : Int) (h : laws_szBodyS k a1 a2 = some x) : LawV Try.prog 38 [.tv (.row (.pair (.row (.pair (.int .i64) (.pair (.int .i64) (.pair (.row (.int .i64)) (.pair (.int .i64) .unit))))) (.pair .bool (.pair .bool (.pair (.int .i64) (.pair (.int .i64) (.pair (.int .i64) (.pair (.int .i64) (.pair (.int .i64) .unit))))))))) a1, .int .i64 a2] (tvn (.int .i64) x) := by
  unfold laws_szBodyS at h
  exact law1 (t := (.int .i64)) (tyTOk _ _) (E_laws_szBodyS_calls k) mixOk f38_oklaws_szBodyS (nameOk _ _ f38_oklaws_szBodyS) (by kernel_rfl) h
/-! laws.szWaitS -/
noncomputable def E_laws_szWaitS (k : Nat) : Env := ⟨ty, fun _ => none, fun _ _ => none⟩
noncomputable def laws_szWaitS (k : Nat) (a1 : List (Int × Int × Int × Int × Unit)) (a2 : Int) : Option (Int) :=
  abody (E_laws_szWaitS k) (arun Try.prog (E_laws_szWaitS k) k) k 126 Try.f126 [.tv (.row (.pair (.int .i64) (.pair (.int .i64) (.pair (.int .i64) (.pair (.int .i64) .unit))))) a1, .int .i64 a2] [] (fin1 (.int .i64))
theorem laws_szWaitS_e (k : Nat) (a1 : List (Int × Int × Int × Int × Unit)) (a2 : Int) : laws_szWaitS k a1 a2 =
  iteB (decide (IntKind.wrap .i64 (a2 - ((List.length a1) : Int)) < 0)) (some (-1)) (some (IntKind.wrap .i64 (a2 - ((List.length a1) : Int)))) := by kernel_rfl
theorem E_laws_szWaitS_calls (k : Nat) : CallsOk Try.prog (E_laws_szWaitS k) (arun Try.prog (E_laws_szWaitS k) k) := by
  refine told_run (tyTOk _ _) ?_ (fun run h => regOk (tyTOk _ _) mixOk h) ?_ nameOk k
  · intro g m hg
    cases hg
  · intro g _ r; rfl
theorem f126_oklaws_szWaitS : Try.prog.funcs[126]? = some Try.f126 := by kernel_rfl
theorem laws_szWaitS_law (k : Nat) (a1 : List (Int × Int × Int × Int × Unit)) (a2 : Int) (x : Int) (h : laws_szWaitS k a1 a2 = some x) : LawV Try.prog 126 [.tv (.row (.pair (.int .i64) (.pair (.int .i64) (.pair (.int .i64) (.pair (.int .i64) .unit))))) a1, .int .i64 a2] (tvn (.int .i64) x) := by
  unfold laws_szWaitS at h
  exact law1 (t := (.int .i64)) (tyTOk _ _) (E_laws_szWaitS_calls k) mixOk f126_oklaws_szWaitS (nameOk _ _ f126_oklaws_szWaitS) (by kernel_rfl) h
/-! laws.szChan -/
noncomputable def E_laws_szChan (k : Nat) : Env := ⟨ty, fun g => match g with
  | 40 => some (byVal fun ρ l K => match l with
    | [b1, b2] => (b1.as (.row (.int .i64))).bind fun c1 => (b2.as (.int .i64)).bind fun c2 => (laws_szIntS k c1 c2).bind fun r => K (tvn (.int .i64) r)
    | _ => none)
  | 126 => some (byVal fun ρ l K => match l with
    | [b1, b2] => (b1.as (.row (.pair (.int .i64) (.pair (.int .i64) (.pair (.int .i64) (.pair (.int .i64) .unit)))))).bind fun c1 => (b2.as (.int .i64)).bind fun c2 => (laws_szWaitS k c1 c2).bind fun r => K (tvn (.int .i64) r)
    | _ => none)
  | _ => none, fun _ _ => none⟩
noncomputable def laws_szChan (k : Nat) (a1 : Int × Bool × (List Int) × (List (Int × Int × Int × Int × Unit)) × (List (Int × Int × Int × Int × Unit)) × Unit) (a2 : Int) : Option (Int) :=
  abody (E_laws_szChan k) (arun Try.prog (E_laws_szChan k) k) k 91 Try.f91 [.tv (.pair (.int .i64) (.pair .bool (.pair (.row (.int .i64)) (.pair (.row (.pair (.int .i64) (.pair (.int .i64) (.pair (.int .i64) (.pair (.int .i64) .unit))))) (.pair (.row (.pair (.int .i64) (.pair (.int .i64) (.pair (.int .i64) (.pair (.int .i64) .unit))))) .unit))))) a1, .int .i64 a2] [] (fin1 (.int .i64))
theorem laws_szChan_e (k : Nat) (a1 : Int × Bool × (List Int) × (List (Int × Int × Int × Int × Unit)) × (List (Int × Int × Int × Int × Unit)) × Unit) (a2 : Int) : laws_szChan k a1 a2 =
  bindO (laws_szIntS k a1.2.2.1 a2) fun r1 => (iteB (decide (r1 < 0)) (some (-1)) (bindO (laws_szWaitS k a1.2.2.2.1 r1) fun r2 => (iteB (decide (r2 < 0)) (some (-1)) (bindO (laws_szWaitS k a1.2.2.2.2.1 r2) fun r3 => (iteB (decide (r3 < 0)) (some (-1)) (some r3)))))) := by kernel_rfl
theorem E_laws_szChan_calls (k : Nat) : CallsOk Try.prog (E_laws_szChan k) (arun Try.prog (E_laws_szChan k) k) := by
  refine told_run (tyTOk _ _) ?_ (fun run h => regOk (tyTOk _ _) mixOk h) ?_ nameOk k
  · intro g m hg
    simp only [E_laws_szChan] at hg
    split at hg
    · cases hg
      refine con_byVal fun ρ l K x hm => ?_
      split at hm
      · obtain ⟨c1, h1, hm⟩ := Option.bind_eq_some_iff.1 hm
        obtain ⟨c2, h2, hm⟩ := Option.bind_eq_some_iff.1 hm
        obtain ⟨r, hr, hm⟩ := Option.bind_eq_some_iff.1 hm
        exact ⟨_, hm, LawV.reads (.cons (.as h1) (.cons (.as h2) .nil)) (laws_szIntS_law k c1 c2 r hr)⟩
      · cases hm
    · cases hg
      refine con_byVal fun ρ l K x hm => ?_
      split at hm
      · obtain ⟨c1, h1, hm⟩ := Option.bind_eq_some_iff.1 hm
        obtain ⟨c2, h2, hm⟩ := Option.bind_eq_some_iff.1 hm
        obtain ⟨r, hr, hm⟩ := Option.bind_eq_some_iff.1 hm
        exact ⟨_, hm, LawV.reads (.cons (.as h1) (.cons (.as h2) .nil)) (laws_szWaitS_law k c1 c2 r hr)⟩
      · cases hm
    · cases hg
  · intro g _ r; rfl
theorem f91_oklaws_szChan : Try.prog.funcs[91]? = some Try.f91 := by kernel_rfl
theorem laws_szChan_law (k : Nat) (a1 : Int × Bool × (List Int) × (List (Int × Int × Int × Int × Unit)) × (List (Int × Int × Int × Int × Unit)) × Unit) (a2 : Int) (x : Int) (h : laws_szChan k a1 a2 = some x) : LawV Try.prog 91 [.tv (.pair (.int .i64) (.pair .bool (.pair (.row (.int .i64)) (.pair (.row (.pair (.int .i64) (.pair (.int .i64) (.pair (.int .i64) (.pair (.int .i64) .unit))))) (.pair (.row (.pair (.int .i64) (.pair (.int .i64) (.pair (.int .i64) (.pair (.int .i64) .unit))))) .unit))))) a1, .int .i64 a2] (tvn (.int .i64) x) := by
  unfold laws_szChan at h
  exact law1 (t := (.int .i64)) (tyTOk _ _) (E_laws_szChan_calls k) mixOk f91_oklaws_szChan (nameOk _ _ f91_oklaws_szChan) (by kernel_rfl) h
/-! laws.szChanS -/
noncomputable def E_laws_szChanS (k : Nat) : Env := ⟨ty, fun g => match g with
  | 91 => some (byVal fun ρ l K => match l with
    | [b1, b2] => (b1.as (.pair (.int .i64) (.pair .bool (.pair (.row (.int .i64)) (.pair (.row (.pair (.int .i64) (.pair (.int .i64) (.pair (.int .i64) (.pair (.int .i64) .unit))))) (.pair (.row (.pair (.int .i64) (.pair (.int .i64) (.pair (.int .i64) (.pair (.int .i64) .unit))))) .unit)))))).bind fun c1 => (b2.as (.int .i64)).bind fun c2 => (laws_szChan k c1 c2).bind fun r => K (tvn (.int .i64) r)
    | _ => none)
  | 39 => some noCon
  | _ => none, fun f r => match f with | 39 => (match r with | 5 => some [0, 1, 5] | _ => none) | _ => none⟩
noncomputable def laws_szChanS (k : Nat) (a1 : List (Int × Bool × (List Int) × (List (Int × Int × Int × Int × Unit)) × (List (Int × Int × Int × Int × Unit)) × Unit)) (a2 : Int) : Option (Int) :=
  abody (E_laws_szChanS k) (arun Try.prog (E_laws_szChanS k) k) k 39 Try.f39 [.tv (.row (.pair (.int .i64) (.pair .bool (.pair (.row (.int .i64)) (.pair (.row (.pair (.int .i64) (.pair (.int .i64) (.pair (.int .i64) (.pair (.int .i64) .unit))))) (.pair (.row (.pair (.int .i64) (.pair (.int .i64) (.pair (.int .i64) (.pair (.int .i64) .unit))))) .unit)))))) a1, .int .i64 a2] [] (fin1 (.int .i64))
noncomputable def laws_szChanS.l5 (k n : Nat) (x0 : List (Int × Bool × (List Int) × (List (Int × Int × Int × Int × Unit)) × (List (Int × Int × Int × Int × Unit)) × Unit)) (x1 : Int) (x5 : Int) : Option (Int) :=
  resume (E_laws_szChanS k) 39 (acall (E_laws_szChanS k) (arun Try.prog (E_laws_szChanS k) k)) k [true, true, true, false, true, true] [n] (bodyOf Try.f39) ⟨[.tv (.row (.pair (.int .i64) (.pair .bool (.pair (.row (.int .i64)) (.pair (.row (.pair (.int .i64) (.pair (.int .i64) (.pair (.int .i64) (.pair (.int .i64) .unit))))) (.pair (.row (.pair (.int .i64) (.pair (.int .i64) (.pair (.int .i64) (.pair (.int .i64) .unit))))) .unit)))))) x0, .int .i64 x1, .undef, .undef, .undef, .int .i64 x5, .undef, .undef, .undef, .undef, .undef, .undef, .undef, .undef, .undef, .undef, .undef, .undef, .undef, .undef, .undef, .undef, .undef, .undef, .undef, .undef, .undef], []⟩ (leave (E_laws_szChanS k) Try.f39 (fin1 (.int .i64)))
theorem laws_szChanS.l5_0 (k : Nat) (x0 : List (Int × Bool × (List Int) × (List (Int × Int × Int × Int × Unit)) × (List (Int × Int × Int × Int × Unit)) × Unit)) (x1 : Int) (x5 : Int) : laws_szChanS.l5 k 0 x0 x1 x5 = none := by kernel_rfl
theorem laws_szChanS.l5_s (k n : Nat) (x0 : List (Int × Bool × (List Int) × (List (Int × Int × Int × Int × Unit)) × (List (Int × Int × Int × Int × Unit)) × Unit)) (x1 : Int) (x5 : Int) : laws_szChanS.l5 k (n + 1) x0 x1 x5 =
  iteB (decide (x5 < ((List.length x0) : Int))) (iteB (decide (0 ≤ x5)) (iteB (decide (x5 < ((List.length x0) : Int))) (bindO (laws_szChan k (List.getD x0 (Int.toNat x5) (Ty.dflt (.pair (.int .i64) (.pair .bool (.pair (.row (.int .i64)) (.pair (.row (.pair (.int .i64) (.pair (.int .i64) (.pair (.int .i64) (.pair (.int .i64) .unit))))) (.pair (.row (.pair (.int .i64) (.pair (.int .i64) (.pair (.int .i64) (.pair (.int .i64) .unit))))) .unit))))))) x1) fun r1 => (iteB (decide (r1 < 0)) (some (-1)) (laws_szChanS.l5 k n x0 r1 (IntKind.wrap .i64 (x5 + 1))))) (none)) (none)) (some x1) := by kernel_rfl
theorem laws_szChanS_e (k : Nat) (a1 : List (Int × Bool × (List Int) × (List (Int × Int × Int × Int × Unit)) × (List (Int × Int × Int × Int × Unit)) × Unit)) (a2 : Int) : laws_szChanS k a1 a2 =
  iteB (decide (IntKind.wrap .i64 (a2 - ((List.length a1) : Int)) < 0)) (some (-1)) (laws_szChanS.l5 k k a1 (IntKind.wrap .i64 (a2 - ((List.length a1) : Int))) 0) := by kernel_rfl
theorem E_laws_szChanS_calls (k : Nat) : CallsOk Try.prog (E_laws_szChanS k) (arun Try.prog (E_laws_szChanS k) k) := by
  refine told_run (tyTOk _ _) ?_ (fun run h => regOk (tyTOk _ _) mixOk h) ?_ nameOk k
  · intro g m hg
    simp only [E_laws_szChanS] at hg
    split at hg
    · cases hg
      refine con_byVal fun ρ l K x hm => ?_
      split at hm
      · obtain ⟨c1, h1, hm⟩ := Option.bind_eq_some_iff.1 hm
        obtain ⟨c2, h2, hm⟩ := Option.bind_eq_some_iff.1 hm
        obtain ⟨r, hr, hm⟩ := Option.bind_eq_some_iff.1 hm
        exact ⟨_, hm, LawV.reads (.cons (.as h1) (.cons (.as h2) .nil)) (laws_szChan_law k c1 c2 r hr)⟩
      · cases hm
    · cases hg; exact noCon_ok
    · cases hg
  · intro g hg r
    by_cases h : g = 39
    · subst h; simp [E_laws_szChanS] at hg
    · simp [E_laws_szChanS, h]
theorem f39_oklaws_szChanS : Try.prog.funcs[39]? = some Try.f39 := by kernel_rfl
theorem laws_szChanS_law (k : Nat) (a1 : List (Int × Bool × (List Int) × (List (Int × Int × Int × Int × Unit)) × (List (Int × Int × Int × Int × Unit)) × Unit)) (a2 : Int) (x : Int) (h : laws_szChanS k a1 a2 = some x) : LawV Try.prog 39 [.tv (.row (.pair (.int .i64) (.pair .bool (.pair (.row (.int .i64)) (.pair (.row (.pair (.int .i64) (.pair (.int .i64) (.pair (.int .i64) (.pair (.int .i64) .unit))))) (.pair (.row (.pair (.int .i64) (.pair (.int .i64) (.pair (.int .i64) (.pair (.int .i64) .unit))))) .unit)))))) a1, .int .i64 a2] (tvn (.int .i64) x) := by
  unfold laws_szChanS at h
  exact law1 (t := (.int .i64)) (tyTOk _ _) (E_laws_szChanS_calls k) mixOk f39_oklaws_szChanS (nameOk _ _ f39_oklaws_szChanS) (by kernel_rfl) h
/-! laws.szWorld -/
noncomputable def E_laws_szWorld (k : Nat) : Env := ⟨ty, fun g => match g with
  | 31 => some (byVal fun ρ l K => match l with
    | [b1, b2] => (b1.as (.row (.pair .str (.pair (.int .i64) (.pair (.int .i64) (.pair (.row (.pair (.int .i64) (.pair (.int .i64) (.pair (.int .i64) (.pair (.int .i64) (.pair (.int .i64) (.pair .str (.pair (.row (.int .i64)) .unit)))))))) .unit)))))).bind fun c1 => (b2.as (.int .i64)).bind fun c2 => (laws_szUnitS k c1 c2).bind fun r => K (tvn (.int .i64) r)
    | _ => none)
  | 38 => some (byVal fun ρ l K => match l with
    | [b1, b2] => (b1.as (.row (.pair (.row (.pair (.int .i64) (.pair (.int .i64) (.pair (.row (.int .i64)) (.pair (.int .i64) .unit))))) (.pair .bool (.pair .bool (.pair (.int .i64) (.pair (.int .i64) (.pair (.int .i64) (.pair (.int .i64) (.pair (.int .i64) .unit)))))))))).bind fun c1 => (b2.as (.int .i64)).bind fun c2 => (laws_szBodyS k c1 c2).bind fun r => K (tvn (.int .i64) r)
    | _ => none)
  | 39 => some (byVal fun ρ l K => match l with
    | [b1, b2] => (b1.as (.row (.pair (.int .i64) (.pair .bool (.pair (.row (.int .i64)) (.pair (.row (.pair (.int .i64) (.pair (.int .i64) (.pair (.int .i64) (.pair (.int .i64) .unit))))) (.pair (.row (.pair (.int .i64) (.pair (.int .i64) (.pair (.int .i64) (.pair (.int .i64) .unit))))) .unit))))))).bind fun c1 => (b2.as (.int .i64)).bind fun c2 => (laws_szChanS k c1 c2).bind fun r => K (tvn (.int .i64) r)
    | _ => none)
  | 40 => some (byVal fun ρ l K => match l with
    | [b1, b2] => (b1.as (.row (.int .i64))).bind fun c1 => (b2.as (.int .i64)).bind fun c2 => (laws_szIntS k c1 c2).bind fun r => K (tvn (.int .i64) r)
    | _ => none)
  | _ => none, fun _ _ => none⟩
noncomputable def laws_szWorld (k : Nat) (a1 : (List (ByteArray × Int × Int × (List (Int × Int × Int × Int × Int × ByteArray × (List Int) × Unit)) × Unit)) × (List ((List (Int × Int × (List Int) × Int × Unit)) × Bool × Bool × Int × Int × Int × Int × Int × Unit)) × (List (Int × Bool × (List Int) × (List (Int × Int × Int × Int × Unit)) × (List (Int × Int × Int × Int × Unit)) × Unit)) × (List Int) × Bool × Int × Unit) (a2 : Int) : Option (Int) :=
  abody (E_laws_szWorld k) (arun Try.prog (E_laws_szWorld k) k) k 9 Try.f9 [.tv (.pair (.row (.pair .str (.pair (.int .i64) (.pair (.int .i64) (.pair (.row (.pair (.int .i64) (.pair (.int .i64) (.pair (.int .i64) (.pair (.int .i64) (.pair (.int .i64) (.pair .str (.pair (.row (.int .i64)) .unit)))))))) .unit))))) (.pair (.row (.pair (.row (.pair (.int .i64) (.pair (.int .i64) (.pair (.row (.int .i64)) (.pair (.int .i64) .unit))))) (.pair .bool (.pair .bool (.pair (.int .i64) (.pair (.int .i64) (.pair (.int .i64) (.pair (.int .i64) (.pair (.int .i64) .unit))))))))) (.pair (.row (.pair (.int .i64) (.pair .bool (.pair (.row (.int .i64)) (.pair (.row (.pair (.int .i64) (.pair (.int .i64) (.pair (.int .i64) (.pair (.int .i64) .unit))))) (.pair (.row (.pair (.int .i64) (.pair (.int .i64) (.pair (.int .i64) (.pair (.int .i64) .unit))))) .unit)))))) (.pair (.row (.int .i64)) (.pair .bool (.pair (.int .i64) .unit)))))) a1, .int .i64 a2] [] (fin1 (.int .i64))
theorem laws_szWorld_e (k : Nat) (a1 : (List (ByteArray × Int × Int × (List (Int × Int × Int × Int × Int × ByteArray × (List Int) × Unit)) × Unit)) × (List ((List (Int × Int × (List Int) × Int × Unit)) × Bool × Bool × Int × Int × Int × Int × Int × Unit)) × (List (Int × Bool × (List Int) × (List (Int × Int × Int × Int × Unit)) × (List (Int × Int × Int × Int × Unit)) × Unit)) × (List Int) × Bool × Int × Unit) (a2 : Int) : laws_szWorld k a1 a2 =
  bindO (laws_szUnitS k a1.1 a2) fun r1 => (iteB (decide (r1 < 0)) (some (-1)) (bindO (laws_szBodyS k a1.2.1 r1) fun r2 => (iteB (decide (r2 < 0)) (some (-1)) (bindO (laws_szChanS k a1.2.2.1 r2) fun r3 => (iteB (decide (r3 < 0)) (some (-1)) (bindO (laws_szIntS k a1.2.2.2.1 r3) fun r4 => (iteB (decide (r4 < 0)) (some (-1)) (some r4)))))))) := by kernel_rfl
theorem E_laws_szWorld_calls (k : Nat) : CallsOk Try.prog (E_laws_szWorld k) (arun Try.prog (E_laws_szWorld k) k) := by
  refine told_run (tyTOk _ _) ?_ (fun run h => regOk (tyTOk _ _) mixOk h) ?_ nameOk k
  · intro g m hg
    simp only [E_laws_szWorld] at hg
    split at hg
    · cases hg
      refine con_byVal fun ρ l K x hm => ?_
      split at hm
      · obtain ⟨c1, h1, hm⟩ := Option.bind_eq_some_iff.1 hm
        obtain ⟨c2, h2, hm⟩ := Option.bind_eq_some_iff.1 hm
        obtain ⟨r, hr, hm⟩ := Option.bind_eq_some_iff.1 hm
        exact ⟨_, hm, LawV.reads (.cons (.as h1) (.cons (.as h2) .nil)) (laws_szUnitS_law k c1 c2 r hr)⟩
      · cases hm
    · cases hg
      refine con_byVal fun ρ l K x hm => ?_
      split at hm
      · obtain ⟨c1, h1, hm⟩ := Option.bind_eq_some_iff.1 hm
        obtain ⟨c2, h2, hm⟩ := Option.bind_eq_some_iff.1 hm
        obtain ⟨r, hr, hm⟩ := Option.bind_eq_some_iff.1 hm
        exact ⟨_, hm, LawV.reads (.cons (.as h1) (.cons (.as h2) .nil)) (laws_szBodyS_law k c1 c2 r hr)⟩
      · cases hm
    · cases hg
      refine con_byVal fun ρ l K x hm => ?_
      split at hm
      · obtain ⟨c1, h1, hm⟩ := Option.bind_eq_some_iff.1 hm
        obtain ⟨c2, h2, hm⟩ := Option.bind_eq_some_iff.1 hm
        obtain ⟨r, hr, hm⟩ := Option.bind_eq_some_iff.1 hm
        exact ⟨_, hm, LawV.reads (.cons (.as h1) (.cons (.as h2) .nil)) (laws_szChanS_law k c1 c2 r hr)⟩
      · cases hm
    · cases hg
      refine con_byVal fun ρ l K x hm => ?_
      split at hm
      · obtain ⟨c1, h1, hm⟩ := Option.bind_eq_some_iff.1 hm
        obtain ⟨c2, h2, hm⟩ := Option.bind_eq_some_iff.1 hm
        obtain ⟨r, hr, hm⟩ := Option.bind_eq_some_iff.1 hm
        exact ⟨_, hm, LawV.reads (.cons (.as h1) (.cons (.as h2) .nil)) (laws_szIntS_law k c1 c2 r hr)⟩
      · cases hm
    · cases hg
  · intro g _ r; rfl
theorem f9_oklaws_szWorld : Try.prog.funcs[9]? = some Try.f9 := by kernel_rfl
theorem laws_szWorld_law (k : Nat) (a1 : (List (ByteArray × Int × Int × (List (Int × Int × Int × Int × Int × ByteArray × (List Int) × Unit)) × Unit)) × (List ((List (Int × Int × (List Int) × Int × Unit)) × Bool × Bool × Int × Int × Int × Int × Int × Unit)) × (List (Int × Bool × (List Int) × (List (Int × Int × Int × Int × Unit)) × (List (Int × Int × Int × Int × Unit)) × Unit)) × (List Int) × Bool × Int × Unit) (a2 : Int) (x : Int) (h : laws_szWorld k a1 a2 = some x) : LawV Try.prog 9 [.tv (.pair (.row (.pair .str (.pair (.int .i64) (.pair (.int .i64) (.pair (.row (.pair (.int .i64) (.pair (.int .i64) (.pair (.int .i64) (.pair (.int .i64) (.pair (.int .i64) (.pair .str (.pair (.row (.int .i64)) .unit)))))))) .unit))))) (.pair (.row (.pair (.row (.pair (.int .i64) (.pair (.int .i64) (.pair (.row (.int .i64)) (.pair (.int .i64) .unit))))) (.pair .bool (.pair .bool (.pair (.int .i64) (.pair (.int .i64) (.pair (.int .i64) (.pair (.int .i64) (.pair (.int .i64) .unit))))))))) (.pair (.row (.pair (.int .i64) (.pair .bool (.pair (.row (.int .i64)) (.pair (.row (.pair (.int .i64) (.pair (.int .i64) (.pair (.int .i64) (.pair (.int .i64) .unit))))) (.pair (.row (.pair (.int .i64) (.pair (.int .i64) (.pair (.int .i64) (.pair (.int .i64) .unit))))) .unit)))))) (.pair (.row (.int .i64)) (.pair .bool (.pair (.int .i64) .unit)))))) a1, .int .i64 a2] (tvn (.int .i64) x) := by
  unfold laws_szWorld at h
  exact law1 (t := (.int .i64)) (tyTOk _ _) (E_laws_szWorld_calls k) mixOk f9_oklaws_szWorld (nameOk _ _ f9_oklaws_szWorld) (by kernel_rfl) h
/-! laws.toIntS -/
noncomputable def E_laws_toIntS (k : Nat) : Env := ⟨tyD, fun g => match g with
  | 44 => some noCon
  | _ => none, fun f r => match f with | 44 => (match r with | 3 => some [0, 3, 4] | _ => none) | _ => none⟩
noncomputable def laws_toIntS (k : Nat) (a1 : List Int) : Option (List Int) :=
  abody (E_laws_toIntS k) (arun Try.prog (E_laws_toIntS k) k) k 44 Try.f44 [.tv (.row (.int .i64)) a1] [] (finD (.row (.int .i64)))
noncomputable def laws_toIntS.l3 (k n : Nat) (x0 : List Int) (x4 : Int) (y0 : List Int) : Option (List Int) :=
  resume (E_laws_toIntS k) 44 (acall (E_laws_toIntS k) (arun Try.prog (E_laws_toIntS k) k)) k [true, true, false, true, true] [n] (bodyOf Try.f44) ⟨[.tv (.row (.int .i64)) x0, .undef, .undef, .sl 0, .int .i64 x4, .undef, .undef, .undef, .undef, .undef, .undef, .undef, .undef, .undef, .undef, .undef, .undef, .undef, .undef, .undef, .undef, .undef], [some ⟨.deep false (.int .i64) y0, false⟩]⟩ (leave (E_laws_toIntS k) Try.f44 (finD (.row (.int .i64))))
theorem laws_toIntS.l3_0 (k : Nat) (x0 : List Int) (x4 : Int) (y0 : List Int) : laws_toIntS.l3 k 0 x0 x4 y0 = none := by kernel_rfl
theorem laws_toIntS.l3_s (k n : Nat) (x0 : List Int) (x4 : Int) (y0 : List Int) : laws_toIntS.l3 k (n + 1) x0 x4 y0 =
  iteB (decide (x4 < ((List.length x0) : Int))) (iteB (decide (0 ≤ x4)) (iteB (decide (x4 < ((List.length x0) : Int))) (iteB (decide (0 ≤ x4)) (iteB (decide (x4 < ((List.length y0) : Int))) (laws_toIntS.l3 k n x0 (IntKind.wrap .i64 (x4 + 1)) (List.set y0 (Int.toNat x4) (List.getD x0 (Int.toNat x4) 0))) (none)) (none)) (none)) (none)) (some y0) := by kernel_rfl
theorem laws_toIntS_e (k : Nat) (a1 : List Int) : laws_toIntS k a1 =
  iteB (decide (0 ≤ ((List.length a1) : Int))) (iteB (decide (((List.length a1) : Int) ≤ ((List.length a1) : Int))) (iteB (decide (((List.length a1) : Int) * 8 ≤ (lim : Int))) (iteB (decide (((List.length a1) : Int) ≤ (lim : Int)) && true) (laws_toIntS.l3 k k a1 0 (List.replicate (Int.toNat ((List.length a1) : Int)) 0)) (none)) (none)) (none)) (none) := by kernel_rfl
theorem E_laws_toIntS_calls (k : Nat) : CallsOk Try.prog (E_laws_toIntS k) (arun Try.prog (E_laws_toIntS k) k) := by
  refine told_run (tyDTOk _ _) ?_ (fun run h => regOk (tyDTOk _ _) mixOk h) ?_ nameOk k
  · intro g m hg
    simp only [E_laws_toIntS] at hg
    split at hg
    · cases hg; exact noCon_ok
    · cases hg
  · intro g hg r
    by_cases h : g = 44
    · subst h; simp [E_laws_toIntS] at hg
    · simp [E_laws_toIntS, h]
theorem f44_oklaws_toIntS : Try.prog.funcs[44]? = some Try.f44 := by kernel_rfl
theorem laws_toIntS_law (k : Nat) (a1 : List Int) (x : List Int) (h : laws_toIntS k a1 = some x) : LawD Try.prog 44 [.tv (.row (.int .i64)) a1] (.row (.int .i64)) x := by
  unfold laws_toIntS at h
  exact lawD (t := (.row (.int .i64))) (tyDTOk _ _) (E_laws_toIntS_calls k) mixOk f44_oklaws_toIntS (nameOk _ _ f44_oklaws_toIntS) (by kernel_rfl) h
/-! laws.toTac -/
noncomputable def E_laws_toTac (k : Nat) : Env := ⟨tyD, fun g => match g with
  | 44 => some (byNew (.row (.int .i64)) fun ρ l K => match l with
    | [b1] => (b1.as (.row (.int .i64))).bind fun c1 => (laws_toIntS k c1).bind fun r => K r
    | _ => none)
  | _ => none, fun _ _ => none⟩
noncomputable def laws_toTac (k : Nat) (a1 : Int × Int × Int × Int × Int × ByteArray × (List Int) × Unit) : Option (Int × Int × Int × Int × Int × ByteArray × (List Int) × Unit) :=
  abody (E_laws_toTac k) (arun Try.prog (E_laws_toTac k) k) k 102 Try.f102 [.tv (.pair (.int .i64) (.pair (.int .i64) (.pair (.int .i64) (.pair (.int .i64) (.pair (.int .i64) (.pair .str (.pair (.row (.int .i64)) .unit))))))) a1] [] (finD (.pair (.int .i64) (.pair (.int .i64) (.pair (.int .i64) (.pair (.int .i64) (.pair (.int .i64) (.pair .str (.pair (.row (.int .i64)) .unit))))))))
theorem laws_toTac_e (k : Nat) (a1 : Int × Int × Int × Int × Int × ByteArray × (List Int) × Unit) : laws_toTac k a1 =
  bindO (laws_toIntS k a1.2.2.2.2.2.2.1) fun r1 => (some (a1.1, a1.2.1, a1.2.2.1, a1.2.2.2.1, a1.2.2.2.2.1, a1.2.2.2.2.2.1, r1, ())) := by kernel_rfl
theorem E_laws_toTac_calls (k : Nat) : CallsOk Try.prog (E_laws_toTac k) (arun Try.prog (E_laws_toTac k) k) := by
  refine told_run (tyDTOk _ _) ?_ (fun run h => regOk (tyDTOk _ _) mixOk h) ?_ nameOk k
  · intro g m hg
    simp only [E_laws_toTac] at hg
    split at hg
    · cases hg
      refine con_byNew fun ρ l K x hm => ?_
      split at hm
      · obtain ⟨c1, h1, hm⟩ := Option.bind_eq_some_iff.1 hm
        obtain ⟨r, hr, hm⟩ := Option.bind_eq_some_iff.1 hm
        exact ⟨_, hm, LawD.reads (.cons (.as h1) .nil) (laws_toIntS_law k c1 r hr)⟩
      · cases hm
    · cases hg
  · intro g _ r; rfl
theorem f102_oklaws_toTac : Try.prog.funcs[102]? = some Try.f102 := by kernel_rfl
theorem laws_toTac_law (k : Nat) (a1 : Int × Int × Int × Int × Int × ByteArray × (List Int) × Unit) (x : Int × Int × Int × Int × Int × ByteArray × (List Int) × Unit) (h : laws_toTac k a1 = some x) : LawD Try.prog 102 [.tv (.pair (.int .i64) (.pair (.int .i64) (.pair (.int .i64) (.pair (.int .i64) (.pair (.int .i64) (.pair .str (.pair (.row (.int .i64)) .unit))))))) a1] (.pair (.int .i64) (.pair (.int .i64) (.pair (.int .i64) (.pair (.int .i64) (.pair (.int .i64) (.pair .str (.pair (.row (.int .i64)) .unit))))))) x := by
  unfold laws_toTac at h
  exact lawD (t := (.pair (.int .i64) (.pair (.int .i64) (.pair (.int .i64) (.pair (.int .i64) (.pair (.int .i64) (.pair .str (.pair (.row (.int .i64)) .unit)))))))) (tyDTOk _ _) (E_laws_toTac_calls k) mixOk f102_oklaws_toTac (nameOk _ _ f102_oklaws_toTac) (by kernel_rfl) h
/-! laws.toTacS -/
noncomputable def E_laws_toTacS (k : Nat) : Env := ⟨tyD, fun g => match g with
  | 102 => some (byNew (.pair (.int .i64) (.pair (.int .i64) (.pair (.int .i64) (.pair (.int .i64) (.pair (.int .i64) (.pair .str (.pair (.row (.int .i64)) .unit))))))) fun ρ l K => match l with
    | [b1] => (b1.as (.pair (.int .i64) (.pair (.int .i64) (.pair (.int .i64) (.pair (.int .i64) (.pair (.int .i64) (.pair .str (.pair (.row (.int .i64)) .unit)))))))).bind fun c1 => (laws_toTac k c1).bind fun r => K r
    | _ => none)
  | 53 => some noCon
  | _ => none, fun f r => match f with | 53 => (match r with | 3 => some [0, 3, 4] | _ => none) | _ => none⟩
noncomputable def laws_toTacS (k : Nat) (a1 : List (Int × Int × Int × Int × Int × ByteArray × (List Int) × Unit)) : Option (List (Int × Int × Int × Int × Int × ByteArray × (List Int) × Unit)) :=
  abody (E_laws_toTacS k) (arun Try.prog (E_laws_toTacS k) k) k 53 Try.f53 [.tv (.row (.pair (.int .i64) (.pair (.int .i64) (.pair (.int .i64) (.pair (.int .i64) (.pair (.int .i64) (.pair .str (.pair (.row (.int .i64)) .unit)))))))) a1] [] (finD (.row (.pair (.int .i64) (.pair (.int .i64) (.pair (.int .i64) (.pair (.int .i64) (.pair (.int .i64) (.pair .str (.pair (.row (.int .i64)) .unit)))))))))
noncomputable def laws_toTacS.l3 (k n : Nat) (x0 : List (Int × Int × Int × Int × Int × ByteArray × (List Int) × Unit)) (x4 : Int) (y0 : List (Int × Int × Int × Int × Int × ByteArray × (List Int) × Unit)) : Option (List (Int × Int × Int × Int × Int × ByteArray × (List Int) × Unit)) :=
  resume (E_laws_toTacS k) 53 (acall (E_laws_toTacS k) (arun Try.prog (E_laws_toTacS k) k)) k [true, true, false, true, true] [n] (bodyOf Try.f53) ⟨[.tv (.row (.pair (.int .i64) (.pair (.int .i64) (.pair (.int .i64) (.pair (.int .i64) (.pair (.int .i64) (.pair .str (.pair (.row (.int .i64)) .unit)))))))) x0, .undef, .undef, .sl 0, .int .i64 x4, .undef, .undef, .undef, .undef, .undef, .undef, .undef, .undef, .undef, .undef, .undef, .undef, .undef, .undef, .undef, .undef, .undef, .undef], [some ⟨.deep false (.pair (.int .i64) (.pair (.int .i64) (.pair (.int .i64) (.pair (.int .i64) (.pair (.int .i64) (.pair .str (.pair (.row (.int .i64)) .unit))))))) y0, false⟩]⟩ (leave (E_laws_toTacS k) Try.f53 (finD (.row (.pair (.int .i64) (.pair (.int .i64) (.pair (.int .i64) (.pair (.int .i64) (.pair (.int .i64) (.pair .str (.pair (.row (.int .i64)) .unit))))))))))
theorem laws_toTacS.l3_0 (k : Nat) (x0 : List (Int × Int × Int × Int × Int × ByteArray × (List Int) × Unit)) (x4 : Int) (y0 : List (Int × Int × Int × Int × Int × ByteArray × (List Int) × Unit)) : laws_toTacS.l3 k 0 x0 x4 y0 = none := by kernel_rfl
theorem laws_toTacS.l3_s (k n : Nat) (x0 : List (Int × Int × Int × Int × Int × ByteArray × (List Int) × Unit)) (x4 : Int) (y0 : List (Int × Int × Int × Int × Int × ByteArray × (List Int) × Unit)) : laws_toTacS.l3 k (n + 1) x0 x4 y0 =
  iteB (decide (x4 < ((List.length x0) : Int))) (iteB (decide (0 ≤ x4)) (iteB (decide (x4 < ((List.length x0) : Int))) (bindO (laws_toTac k (List.getD x0 (Int.toNat x4) (Ty.dflt (.pair (.int .i64) (.pair (.int .i64) (.pair (.int .i64) (.pair (.int .i64) (.pair (.int .i64) (.pair .str (.pair (.row (.int .i64)) .unit)))))))))) fun r1 => (iteB (decide (0 ≤ x4)) (iteB (decide (x4 < ((List.length y0) : Int))) (laws_toTacS.l3 k n x0 (IntKind.wrap .i64 (x4 + 1)) (List.set y0 (Int.toNat x4) (r1.1, r1.2.1, r1.2.2.1, r1.2.2.2.1, r1.2.2.2.2.1, r1.2.2.2.2.2.1, r1.2.2.2.2.2.2.1, ()))) (none)) (none))) (none)) (none)) (some y0) := by kernel_rfl
theorem laws_toTacS_e (k : Nat) (a1 : List (Int × Int × Int × Int × Int × ByteArray × (List Int) × Unit)) : laws_toTacS k a1 =
  iteB (decide (0 ≤ ((List.length a1) : Int))) (iteB (decide (((List.length a1) : Int) ≤ ((List.length a1) : Int))) (iteB (decide (((List.length a1) : Int) * 80 ≤ (lim : Int))) (iteB (decide (((List.length a1) : Int) ≤ (lim : Int)) && true) (laws_toTacS.l3 k k a1 0 (List.replicate (Int.toNat ((List.length a1) : Int)) (Ty.dflt (.pair (.int .i64) (.pair (.int .i64) (.pair (.int .i64) (.pair (.int .i64) (.pair (.int .i64) (.pair .str (.pair (.row (.int .i64)) .unit)))))))))) (none)) (none)) (none)) (none) := by kernel_rfl
theorem E_laws_toTacS_calls (k : Nat) : CallsOk Try.prog (E_laws_toTacS k) (arun Try.prog (E_laws_toTacS k) k) := by
  refine told_run (tyDTOk _ _) ?_ (fun run h => regOk (tyDTOk _ _) mixOk h) ?_ nameOk k
  · intro g m hg
    simp only [E_laws_toTacS] at hg
    split at hg
    · cases hg
      refine con_byNew fun ρ l K x hm => ?_
      split at hm
      · obtain ⟨c1, h1, hm⟩ := Option.bind_eq_some_iff.1 hm
        obtain ⟨r, hr, hm⟩ := Option.bind_eq_some_iff.1 hm
        exact ⟨_, hm, LawD.reads (.cons (.as h1) .nil) (laws_toTac_law k c1 r hr)⟩
      · cases hm
    · cases hg; exact noCon_ok
    · cases hg
  · intro g hg r
    by_cases h : g = 53
    · subst h; simp [E_laws_toTacS] at hg
    · simp [E_laws_toTacS, h]
theorem f53_oklaws_toTacS : Try.prog.funcs[53]? = some Try.f53 := by kernel_rfl
theorem laws_toTacS_law (k : Nat) (a1 : List (Int × Int × Int × Int × Int × ByteArray × (List Int) × Unit)) (x : List (Int × Int × Int × Int × Int × ByteArray × (List Int) × Unit)) (h : laws_toTacS k a1 = some x) : LawD Try.prog 53 [.tv (.row (.pair (.int .i64) (.pair (.int .i64) (.pair (.int .i64) (.pair (.int .i64) (.pair (.int .i64) (.pair .str (.pair (.row (.int .i64)) .unit)))))))) a1] (.row (.pair (.int .i64) (.pair (.int .i64) (.pair (.int .i64) (.pair (.int .i64) (.pair (.int .i64) (.pair .str (.pair (.row (.int .i64)) .unit)))))))) x := by
  unfold laws_toTacS at h
  exact lawD (t := (.row (.pair (.int .i64) (.pair (.int .i64) (.pair (.int .i64) (.pair (.int .i64) (.pair (.int .i64) (.pair .str (.pair (.row (.int .i64)) .unit))))))))) (tyDTOk _ _) (E_laws_toTacS_calls k) mixOk f53_oklaws_toTacS (nameOk _ _ f53_oklaws_toTacS) (by kernel_rfl) h
/-! laws.toUnit -/
noncomputable def E_laws_toUnit (k : Nat) : Env := ⟨tyD, fun g => match g with
  | 53 => some (byNew (.row (.pair (.int .i64) (.pair (.int .i64) (.pair (.int .i64) (.pair (.int .i64) (.pair (.int .i64) (.pair .str (.pair (.row (.int .i64)) .unit)))))))) fun ρ l K => match l with
    | [b1] => (b1.as (.row (.pair (.int .i64) (.pair (.int .i64) (.pair (.int .i64) (.pair (.int .i64) (.pair (.int .i64) (.pair .str (.pair (.row (.int .i64)) .unit))))))))).bind fun c1 => (laws_toTacS k c1).bind fun r => K r
    | _ => none)
  | _ => none, fun _ _ => none⟩
noncomputable def laws_toUnit (k : Nat) (a1 : ByteArray × Int × Int × (List (Int × Int × Int × Int × Int × ByteArray × (List Int) × Unit)) × Unit) : Option (ByteArray × Int × Int × (List (Int × Int × Int × Int × Int × ByteArray × (List Int) × Unit)) × Unit) :=
  abody (E_laws_toUnit k) (arun Try.prog (E_laws_toUnit k) k) k 20 Try.f20 [.tv (.pair .str (.pair (.int .i64) (.pair (.int .i64) (.pair (.row (.pair (.int .i64) (.pair (.int .i64) (.pair (.int .i64) (.pair (.int .i64) (.pair (.int .i64) (.pair .str (.pair (.row (.int .i64)) .unit)))))))) .unit)))) a1] [] (finD (.pair .str (.pair (.int .i64) (.pair (.int .i64) (.pair (.row (.pair (.int .i64) (.pair (.int .i64) (.pair (.int .i64) (.pair (.int .i64) (.pair (.int .i64) (.pair .str (.pair (.row (.int .i64)) .unit)))))))) .unit)))))
theorem laws_toUnit_e (k : Nat) (a1 : ByteArray × Int × Int × (List (Int × Int × Int × Int × Int × ByteArray × (List Int) × Unit)) × Unit) : laws_toUnit k a1 =
  bindO (laws_toTacS k a1.2.2.2.1) fun r1 => (some (a1.1, a1.2.1, a1.2.2.1, r1, ())) := by kernel_rfl
theorem E_laws_toUnit_calls (k : Nat) : CallsOk Try.prog (E_laws_toUnit k) (arun Try.prog (E_laws_toUnit k) k) := by
  refine told_run (tyDTOk _ _) ?_ (fun run h => regOk (tyDTOk _ _) mixOk h) ?_ nameOk k
  · intro g m hg
    simp only [E_laws_toUnit] at hg
    split at hg
    · cases hg
      refine con_byNew fun ρ l K x hm => ?_
      split at hm
      · obtain ⟨c1, h1, hm⟩ := Option.bind_eq_some_iff.1 hm
        obtain ⟨r, hr, hm⟩ := Option.bind_eq_some_iff.1 hm
        exact ⟨_, hm, LawD.reads (.cons (.as h1) .nil) (laws_toTacS_law k c1 r hr)⟩
      · cases hm
    · cases hg
  · intro g _ r; rfl
theorem f20_oklaws_toUnit : Try.prog.funcs[20]? = some Try.f20 := by kernel_rfl
theorem laws_toUnit_law (k : Nat) (a1 : ByteArray × Int × Int × (List (Int × Int × Int × Int × Int × ByteArray × (List Int) × Unit)) × Unit) (x : ByteArray × Int × Int × (List (Int × Int × Int × Int × Int × ByteArray × (List Int) × Unit)) × Unit) (h : laws_toUnit k a1 = some x) : LawD Try.prog 20 [.tv (.pair .str (.pair (.int .i64) (.pair (.int .i64) (.pair (.row (.pair (.int .i64) (.pair (.int .i64) (.pair (.int .i64) (.pair (.int .i64) (.pair (.int .i64) (.pair .str (.pair (.row (.int .i64)) .unit)))))))) .unit)))) a1] (.pair .str (.pair (.int .i64) (.pair (.int .i64) (.pair (.row (.pair (.int .i64) (.pair (.int .i64) (.pair (.int .i64) (.pair (.int .i64) (.pair (.int .i64) (.pair .str (.pair (.row (.int .i64)) .unit)))))))) .unit)))) x := by
  unfold laws_toUnit at h
  exact lawD (t := (.pair .str (.pair (.int .i64) (.pair (.int .i64) (.pair (.row (.pair (.int .i64) (.pair (.int .i64) (.pair (.int .i64) (.pair (.int .i64) (.pair (.int .i64) (.pair .str (.pair (.row (.int .i64)) .unit)))))))) .unit))))) (tyDTOk _ _) (E_laws_toUnit_calls k) mixOk f20_oklaws_toUnit (nameOk _ _ f20_oklaws_toUnit) (by kernel_rfl) h
/-! laws.toUnitS -/
noncomputable def E_laws_toUnitS (k : Nat) : Env := ⟨tyD, fun g => match g with
  | 20 => some (byNew (.pair .str (.pair (.int .i64) (.pair (.int .i64) (.pair (.row (.pair (.int .i64) (.pair (.int .i64) (.pair (.int .i64) (.pair (.int .i64) (.pair (.int .i64) (.pair .str (.pair (.row (.int .i64)) .unit)))))))) .unit)))) fun ρ l K => match l with
    | [b1] => (b1.as (.pair .str (.pair (.int .i64) (.pair (.int .i64) (.pair (.row (.pair (.int .i64) (.pair (.int .i64) (.pair (.int .i64) (.pair (.int .i64) (.pair (.int .i64) (.pair .str (.pair (.row (.int .i64)) .unit)))))))) .unit))))).bind fun c1 => (laws_toUnit k c1).bind fun r => K r
    | _ => none)
  | 33 => some noCon
  | _ => none, fun f r => match f with | 33 => (match r with | 3 => some [0, 3, 4] | _ => none) | _ => none⟩
noncomputable def laws_toUnitS (k : Nat) (a1 : List (ByteArray × Int × Int × (List (Int × Int × Int × Int × Int × ByteArray × (List Int) × Unit)) × Unit)) : Option (List (ByteArray × Int × Int × (List (Int × Int × Int × Int × Int × ByteArray × (List Int) × Unit)) × Unit)) :=
  abody (E_laws_toUnitS k) (arun Try.prog (E_laws_toUnitS k) k) k 33 Try.f33 [.tv (.row (.pair .str (.pair (.int .i64) (.pair (.int .i64) (.pair (.row (.pair (.int .i64) (.pair (.int .i64) (.pair (.int .i64) (.pair (.int .i64) (.pair (.int .i64) (.pair .str (.pair (.row (.int .i64)) .unit)))))))) .unit))))) a1] [] (finD (.row (.pair .str (.pair (.int .i64) (.pair (.int .i64) (.pair (.row (.pair (.int .i64) (.pair (.int .i64) (.pair (.int .i64) (.pair (.int .i64) (.pair (.int .i64) (.pair .str (.pair (.row (.int .i64)) .unit)))))))) .unit))))))
noncomputable def laws_toUnitS.l3 (k n : Nat) (x0 : List (ByteArray × Int × Int × (List (Int × Int × Int × Int × Int × ByteArray × (List Int) × Unit)) × Unit)) (x4 : Int) (y0 : List (ByteArray × Int × Int × (List (Int × Int × Int × Int × Int × ByteArray × (List Int) × Unit)) × Unit)) : Option (List (ByteArray × Int × Int × (List (Int × Int × Int × Int × Int × ByteArray × (List Int) × Unit)) × Unit)) :=
  resume (E_laws_toUnitS k) 33 (acall (E_laws_toUnitS k) (arun Try.prog (E_laws_toUnitS k) k)) k [true, true, false, true, true] [n] (bodyOf Try.f33) ⟨[.tv (.row (.pair .str (.pair (.int .i64) (.pair (.int .i64) (.pair (.row (.pair (.int .i64) (.pair (.int .i64) (.pair (.int .i64) (.pair (.int .i64) (.pair (.int .i64) (.pair .str (.pair (.row (.int .i64)) .unit)))))))) .unit))))) x0, .undef, .undef, .sl 0, .int .i64 x4, .undef, .undef, .undef, .undef, .undef, .undef, .undef, .undef, .undef, .undef, .undef, .undef, .undef, .undef, .undef, .undef, .undef, .undef], [some ⟨.deep false (.pair .str (.pair (.int .i64) (.pair (.int .i64) (.pair (.row (.pair (.int .i64) (.pair (.int .i64) (.pair (.int .i64) (.pair (.int .i64) (.pair (.int .i64) (.pair .str (.pair (.row (.int .i64)) .unit)))))))) .unit)))) y0, false⟩]⟩ (leave (E_laws_toUnitS k) Try.f33 (finD (.row (.pair .str (.pair (.int .i64) (.pair (.int .i64) (.pair (.row (.pair (.int .i64) (.pair (.int .i64) (.pair (.int .i64) (.pair (.int .i64) (.pair (.int .i64) (.pair .str (.pair (.row (.int .i64)) .unit)))))))) .unit)))))))
theorem laws_toUnitS.l3_0 (k : Nat) (x0 : List (ByteArray × Int × Int × (List (Int × Int × Int × Int × Int × ByteArray × (List Int) × Unit)) × Unit)) (x4 : Int) (y0 : List (ByteArray × Int × Int × (List (Int × Int × Int × Int × Int × ByteArray × (List Int) × Unit)) × Unit)) : laws_toUnitS.l3 k 0 x0 x4 y0 = none := by kernel_rfl
theorem laws_toUnitS.l3_s (k n : Nat) (x0 : List (ByteArray × Int × Int × (List (Int × Int × Int × Int × Int × ByteArray × (List Int) × Unit)) × Unit)) (x4 : Int) (y0 : List (ByteArray × Int × Int × (List (Int × Int × Int × Int × Int × ByteArray × (List Int) × Unit)) × Unit)) : laws_toUnitS.l3 k (n + 1) x0 x4 y0 =
  iteB (decide (x4 < ((List.length x0) : Int))) (iteB (decide (0 ≤ x4)) (iteB (decide (x4 < ((List.length x0) : Int))) (bindO (laws_toUnit k (List.getD x0 (Int.toNat x4) (Ty.dflt (.pair .str (.pair (.int .i64) (.pair (.int .i64) (.pair (.row (.pair (.int .i64) (.pair (.int .i64) (.pair (.int .i64) (.pair (.int .i64) (.pair (.int .i64) (.pair .str (.pair (.row (.int .i64)) .unit)))))))) .unit))))))) fun r1 => (iteB (decide (0 ≤ x4)) (iteB (decide (x4 < ((List.length y0) : Int))) (laws_toUnitS.l3 k n x0 (IntKind.wrap .i64 (x4 + 1)) (List.set y0 (Int.toNat x4) (r1.1, r1.2.1, r1.2.2.1, r1.2.2.2.1, ()))) (none)) (none))) (none)) (none)) (some y0) := by kernel_rfl
theorem laws_toUnitS_e (k : Nat) (a1 : List (ByteArray × Int × Int × (List (Int × Int × Int × Int × Int × ByteArray × (List Int) × Unit)) × Unit)) : laws_toUnitS k a1 =
  iteB (decide (0 ≤ ((List.length a1) : Int))) (iteB (decide (((List.length a1) : Int) ≤ ((List.length a1) : Int))) (iteB (decide (((List.length a1) : Int) * 56 ≤ (lim : Int))) (iteB (decide (((List.length a1) : Int) ≤ (lim : Int)) && true) (laws_toUnitS.l3 k k a1 0 (List.replicate (Int.toNat ((List.length a1) : Int)) (Ty.dflt (.pair .str (.pair (.int .i64) (.pair (.int .i64) (.pair (.row (.pair (.int .i64) (.pair (.int .i64) (.pair (.int .i64) (.pair (.int .i64) (.pair (.int .i64) (.pair .str (.pair (.row (.int .i64)) .unit)))))))) .unit))))))) (none)) (none)) (none)) (none) := by kernel_rfl
theorem E_laws_toUnitS_calls (k : Nat) : CallsOk Try.prog (E_laws_toUnitS k) (arun Try.prog (E_laws_toUnitS k) k) := by
  refine told_run (tyDTOk _ _) ?_ (fun run h => regOk (tyDTOk _ _) mixOk h) ?_ nameOk k
  · intro g m hg
    simp only [E_laws_toUnitS] at hg
    split at hg
    · cases hg
      refine con_byNew fun ρ l K x hm => ?_
      split at hm
      · obtain ⟨c1, h1, hm⟩ := Option.bind_eq_some_iff.1 hm
        obtain ⟨r, hr, hm⟩ := Option.bind_eq_some_iff.1 hm
        exact ⟨_, hm, LawD.reads (.cons (.as h1) .nil) (laws_toUnit_law k c1 r hr)⟩
      · cases hm
    · cases hg; exact noCon_ok
    · cases hg
  · intro g hg r
    by_cases h : g = 33
    · subst h; simp [E_laws_toUnitS] at hg
    · simp [E_laws_toUnitS, h]
theorem f33_oklaws_toUnitS : Try.prog.funcs[33]? = some Try.f33 := by kernel_rfl
theorem laws_toUnitS_law (k : Nat) (a1 : List (ByteArray × Int × Int × (List (Int × Int × Int × Int × Int × ByteArray × (List Int) × Unit)) × Unit)) (x : List (ByteArray × Int × Int × (List (Int × Int × Int × Int × Int × ByteArray × (List Int) × Unit)) × Unit)) (h : laws_toUnitS k a1 = some x) : LawD Try.prog 33 [.tv (.row (.pair .str (.pair (.int .i64) (.pair (.int .i64) (.pair (.row (.pair (.int .i64) (.pair (.int .i64) (.pair (.int .i64) (.pair (.int .i64) (.pair (.int .i64) (.pair .str (.pair (.row (.int .i64)) .unit)))))))) .unit))))) a1] (.row (.pair .str (.pair (.int .i64) (.pair (.int .i64) (.pair (.row (.pair (.int .i64) (.pair (.int .i64) (.pair (.int .i64) (.pair (.int .i64) (.pair (.int .i64) (.pair .str (.pair (.row (.int .i64)) .unit)))))))) .unit))))) x := by
  unfold laws_toUnitS at h
  exact lawD (t := (.row (.pair .str (.pair (.int .i64) (.pair (.int .i64) (.pair (.row (.pair (.int .i64) (.pair (.int .i64) (.pair (.int .i64) (.pair (.int .i64) (.pair (.int .i64) (.pair .str (.pair (.row (.int .i64)) .unit)))))))) .unit)))))) (tyDTOk _ _) (E_laws_toUnitS_calls k) mixOk f33_oklaws_toUnitS (nameOk _ _ f33_oklaws_toUnitS) (by kernel_rfl) h
/-! laws.toFrame -/
noncomputable def E_laws_toFrame (k : Nat) : Env := ⟨tyD, fun g => match g with
  | 44 => some (byNew (.row (.int .i64)) fun ρ l K => match l with
    | [b1] => (b1.as (.row (.int .i64))).bind fun c1 => (laws_toIntS k c1).bind fun r => K r
    | _ => none)
  | _ => none, fun _ _ => none⟩
noncomputable def laws_toFrame (k : Nat) (a1 : Int × Int × (List Int) × Int × Unit) : Option (Int × Int × (List Int) × Int × Unit) :=
  abody (E_laws_toFrame k) (arun Try.prog (E_laws_toFrame k) k) k 150 Try.f150 [.tv (.pair (.int .i64) (.pair (.int .i64) (.pair (.row (.int .i64)) (.pair (.int .i64) .unit)))) a1] [] (finD (.pair (.int .i64) (.pair (.int .i64) (.pair (.row (.int .i64)) (.pair (.int .i64) .unit)))))
theorem laws_toFrame_e (k : Nat) (a1 : Int × Int × (List Int) × Int × Unit) : laws_toFrame k a1 =
  bindO (laws_toIntS k a1.2.2.1) fun r1 => (some (a1.1, a1.2.1, r1, a1.2.2.2.1, ())) := by kernel_rfl
theorem E_laws_toFrame_calls (k : Nat) : CallsOk Try.prog (E_laws_toFrame k) (arun Try.prog (E_laws_toFrame k) k) := by
  refine told_run (tyDTOk _ _) ?_ (fun run h => regOk (tyDTOk _ _) mixOk h) ?_ nameOk k
  · intro g m hg
    simp only [E_laws_toFrame] at hg
    split at hg
    · cases hg
      refine con_byNew fun ρ l K x hm => ?_
      split at hm
      · obtain ⟨c1, h1, hm⟩ := Option.bind_eq_some_iff.1 hm
        obtain ⟨r, hr, hm⟩ := Option.bind_eq_some_iff.1 hm
        exact ⟨_, hm, LawD.reads (.cons (.as h1) .nil) (laws_toIntS_law k c1 r hr)⟩
      · cases hm
    · cases hg
  · intro g _ r; rfl
theorem f150_oklaws_toFrame : Try.prog.funcs[150]? = some Try.f150 := by kernel_rfl
theorem laws_toFrame_law (k : Nat) (a1 : Int × Int × (List Int) × Int × Unit) (x : Int × Int × (List Int) × Int × Unit) (h : laws_toFrame k a1 = some x) : LawD Try.prog 150 [.tv (.pair (.int .i64) (.pair (.int .i64) (.pair (.row (.int .i64)) (.pair (.int .i64) .unit)))) a1] (.pair (.int .i64) (.pair (.int .i64) (.pair (.row (.int .i64)) (.pair (.int .i64) .unit)))) x := by
  unfold laws_toFrame at h
  exact lawD (t := (.pair (.int .i64) (.pair (.int .i64) (.pair (.row (.int .i64)) (.pair (.int .i64) .unit))))) (tyDTOk _ _) (E_laws_toFrame_calls k) mixOk f150_oklaws_toFrame (nameOk _ _ f150_oklaws_toFrame) (by kernel_rfl) h
/-! laws.toFrameS -/
noncomputable def E_laws_toFrameS (k : Nat) : Env := ⟨tyD, fun g => match g with
  | 150 => some (byNew (.pair (.int .i64) (.pair (.int .i64) (.pair (.row (.int .i64)) (.pair (.int .i64) .unit)))) fun ρ l K => match l with
    | [b1] => (b1.as (.pair (.int .i64) (.pair (.int .i64) (.pair (.row (.int .i64)) (.pair (.int .i64) .unit))))).bind fun c1 => (laws_toFrame k c1).bind fun r => K r
    | _ => none)
  | 127 => some noCon
  | _ => none, fun f r => match f with | 127 => (match r with | 3 => some [0, 3, 4] | _ => none) | _ => none⟩
noncomputable def laws_toFrameS (k : Nat) (a1 : List (Int × Int × (List Int) × Int × Unit)) : Option (List (Int × Int × (List Int) × Int × Unit)) :=
  abody (E_laws_toFrameS k) (arun Try.prog (E_laws_toFrameS k) k) k 127 Try.f127 [.tv (.row (.pair (.int .i64) (.pair (.int .i64) (.pair (.row (.int .i64)) (.pair (.int .i64) .unit))))) a1] [] (finD (.row (.pair (.int .i64) (.pair (.int .i64) (.pair (.row (.int .i64)) (.pair (.int .i64) .unit))))))
noncomputable def laws_toFrameS.l3 (k n : Nat) (x0 : List (Int × Int × (List Int) × Int × Unit)) (x4 : Int) (y0 : List (Int × Int × (List Int) × Int × Unit)) : Option (List (Int × Int × (List Int) × Int × Unit)) :=
  resume (E_laws_toFrameS k) 127 (acall (E_laws_toFrameS k) (arun Try.prog (E_laws_toFrameS k) k)) k [true, true, false, true, true] [n] (bodyOf Try.f127) ⟨[.tv (.row (.pair (.int .i64) (.pair (.int .i64) (.pair (.row (.int .i64)) (.pair (.int .i64) .unit))))) x0, .undef, .undef, .sl 0, .int .i64 x4, .undef, .undef, .undef, .undef, .undef, .undef, .undef, .undef, .undef, .undef, .undef, .undef, .undef, .undef, .undef, .undef, .undef, .undef], [some ⟨.deep false (.pair (.int .i64) (.pair (.int .i64) (.pair (.row (.int .i64)) (.pair (.int .i64) .unit)))) y0, false⟩]⟩ (leave (E_laws_toFrameS k) Try.f127 (finD (.row (.pair (.int .i64) (.pair (.int .i64) (.pair (.row (.int .i64)) (.pair (.int .i64) .unit)))))))
theorem laws_toFrameS.l3_0 (k : Nat) (x0 : List (Int × Int × (List Int) × Int × Unit)) (x4 : Int) (y0 : List (Int × Int × (List Int) × Int × Unit)) : laws_toFrameS.l3 k 0 x0 x4 y0 = none := by kernel_rfl
theorem laws_toFrameS.l3_s (k n : Nat) (x0 : List (Int × Int × (List Int) × Int × Unit)) (x4 : Int) (y0 : List (Int × Int × (List Int) × Int × Unit)) : laws_toFrameS.l3 k (n + 1) x0 x4 y0 =
  iteB (decide (x4 < ((List.length x0) : Int))) (iteB (decide (0 ≤ x4)) (iteB (decide (x4 < ((List.length x0) : Int))) (bindO (laws_toFrame k (List.getD x0 (Int.toNat x4) (Ty.dflt (.pair (.int .i64) (.pair (.int .i64) (.pair (.row (.int .i64)) (.pair (.int .i64) .unit))))))) fun r1 => (iteB (decide (0 ≤ x4)) (iteB (decide (x4 < ((List.length y0) : Int))) (laws_toFrameS.l3 k n x0 (IntKind.wrap .i64 (x4 + 1)) (List.set y0 (Int.toNat x4) (r1.1, r1.2.1, r1.2.2.1, r1.2.2.2.1, ()))) (none)) (none))) (none)) (none)) (some y0) := by kernel_rfl
theorem laws_toFrameS_e (k : Nat) (a1 : List (Int × Int × (List Int) × Int × Unit)) : laws_toFrameS k a1 =
  iteB (decide (0 ≤ ((List.length a1) : Int))) (iteB (decide (((List.length a1) : Int) ≤ ((List.length a1) : Int))) (iteB (decide (((List.length a1) : Int) * 48 ≤ (lim : Int))) (iteB (decide (((List.length a1) : Int) ≤ (lim : Int)) && true) (laws_toFrameS.l3 k k a1 0 (List.replicate (Int.toNat ((List.length a1) : Int)) (Ty.dflt (.pair (.int .i64) (.pair (.int .i64) (.pair (.row (.int .i64)) (.pair (.int .i64) .unit))))))) (none)) (none)) (none)) (none) := by kernel_rfl
theorem E_laws_toFrameS_calls (k : Nat) : CallsOk Try.prog (E_laws_toFrameS k) (arun Try.prog (E_laws_toFrameS k) k) := by
  refine told_run (tyDTOk _ _) ?_ (fun run h => regOk (tyDTOk _ _) mixOk h) ?_ nameOk k
  · intro g m hg
    simp only [E_laws_toFrameS] at hg
    split at hg
    · cases hg
      refine con_byNew fun ρ l K x hm => ?_
      split at hm
      · obtain ⟨c1, h1, hm⟩ := Option.bind_eq_some_iff.1 hm
        obtain ⟨r, hr, hm⟩ := Option.bind_eq_some_iff.1 hm
        exact ⟨_, hm, LawD.reads (.cons (.as h1) .nil) (laws_toFrame_law k c1 r hr)⟩
      · cases hm
    · cases hg; exact noCon_ok
    · cases hg
  · intro g hg r
    by_cases h : g = 127
    · subst h; simp [E_laws_toFrameS] at hg
    · simp [E_laws_toFrameS, h]
theorem f127_oklaws_toFrameS : Try.prog.funcs[127]? = some Try.f127 := by kernel_rfl
theorem laws_toFrameS_law (k : Nat) (a1 : List (Int × Int × (List Int) × Int × Unit)) (x : List (Int × Int × (List Int) × Int × Unit)) (h : laws_toFrameS k a1 = some x) : LawD Try.prog 127 [.tv (.row (.pair (.int .i64) (.pair (.int .i64) (.pair (.row (.int .i64)) (.pair (.int .i64) .unit))))) a1] (.row (.pair (.int .i64) (.pair (.int .i64) (.pair (.row (.int .i64)) (.pair (.int .i64) .unit))))) x := by
  unfold laws_toFrameS at h
  exact lawD (t := (.row (.pair (.int .i64) (.pair (.int .i64) (.pair (.row (.int .i64)) (.pair (.int .i64) .unit)))))) (tyDTOk _ _) (E_laws_toFrameS_calls k) mixOk f127_oklaws_toFrameS (nameOk _ _ f127_oklaws_toFrameS) (by kernel_rfl) h
/-! laws.toBody -/
noncomputable def E_laws_toBody (k : Nat) : Env := ⟨tyD, fun g => match g with
  | 127 => some (byNew (.row (.pair (.int .i64) (.pair (.int .i64) (.pair (.row (.int .i64)) (.pair (.int .i64) .unit))))) fun ρ l K => match l with
    | [b1] => (b1.as (.row (.pair (.int .i64) (.pair (.int .i64) (.pair (.row (.int .i64)) (.pair (.int .i64) .unit)))))).bind fun c1 => (laws_toFrameS k c1).bind fun r => K r
    | _ => none)
  | _ => none, fun _ _ => none⟩
noncomputable def laws_toBody (k : Nat) (a1 : (List (Int × Int × (List Int) × Int × Unit)) × Bool × Bool × Int × Int × Int × Int × Int × Unit) : Option ((List (Int × Int × (List Int) × Int × Unit)) × Bool × Bool × Int × Int × Int × Int × Int × Unit) :=
  abody (E_laws_toBody k) (arun Try.prog (E_laws_toBody k) k) k 92 Try.f92 [.tv (.pair (.row (.pair (.int .i64) (.pair (.int .i64) (.pair (.row (.int .i64)) (.pair (.int .i64) .unit))))) (.pair .bool (.pair .bool (.pair (.int .i64) (.pair (.int .i64) (.pair (.int .i64) (.pair (.int .i64) (.pair (.int .i64) .unit)))))))) a1] [] (finD (.pair (.row (.pair (.int .i64) (.pair (.int .i64) (.pair (.row (.int .i64)) (.pair (.int .i64) .unit))))) (.pair .bool (.pair .bool (.pair (.int .i64) (.pair (.int .i64) (.pair (.int .i64) (.pair (.int .i64) (.pair (.int .i64) .unit)))))))))
theorem laws_toBody_e (k : Nat) (a1 : (List (Int × Int × (List Int) × Int × Unit)) × Bool × Bool × Int × Int × Int × Int × Int × Unit) : laws_toBody k a1 =
  bindO (laws_toFrameS k a1.1) fun r1 => (some (r1, a1.2.1, a1.2.2.1, a1.2.2.2.1, a1.2.2.2.2.1, a1.2.2.2.2.2.1, a1.2.2.2.2.2.2.1, a1.2.2.2.2.2.2.2.1, ())) := by kernel_rfl
theorem E_laws_toBody_calls (k : Nat) : CallsOk Try.prog (E_laws_toBody k) (arun Try.prog (E_laws_toBody k) k) := by
  refine told_run (tyDTOk _ _) ?_ (fun run h => regOk (tyDTOk _ _) mixOk h) ?_ nameOk k
  · intro g m hg
    simp only [E_laws_toBody] at hg
    split at hg
    · cases hg
      refine con_byNew fun ρ l K x hm => ?_
      split at hm
      · obtain ⟨c1, h1, hm⟩ := Option.bind_eq_some_iff.1 hm
        obtain ⟨r, hr, hm⟩ := Option.bind_eq_some_iff.1 hm
        exact ⟨_, hm, LawD.reads (.cons (.as h1) .nil) (laws_toFrameS_law k c1 r hr)⟩
      · cases hm
    · cases hg
  · intro g _ r; rfl
theorem f92_oklaws_toBody : Try.prog.funcs[92]? = some Try.f92 := by kernel_rfl
theorem laws_toBody_law (k : Nat) (a1 : (List (Int × Int × (List Int) × Int × Unit)) × Bool × Bool × Int × Int × Int × Int × Int × Unit) (x : (List (Int × Int × (List Int) × Int × Unit)) × Bool × Bool × Int × Int × Int × Int × Int × Unit) (h : laws_toBody k a1 = some x) : LawD Try.prog 92 [.tv (.pair (.row (.pair (.int .i64) (.pair (.int .i64) (.pair (.row (.int .i64)) (.pair (.int .i64) .unit))))) (.pair .bool (.pair .bool (.pair (.int .i64) (.pair (.int .i64) (.pair (.int .i64) (.pair (.int .i64) (.pair (.int .i64) .unit)))))))) a1] (.pair (.row (.pair (.int .i64) (.pair (.int .i64) (.pair (.row (.int .i64)) (.pair (.int .i64) .unit))))) (.pair .bool (.pair .bool (.pair (.int .i64) (.pair (.int .i64) (.pair (.int .i64) (.pair (.int .i64) (.pair (.int .i64) .unit)))))))) x := by
  unfold laws_toBody at h
  exact lawD (t := (.pair (.row (.pair (.int .i64) (.pair (.int .i64) (.pair (.row (.int .i64)) (.pair (.int .i64) .unit))))) (.pair .bool (.pair .bool (.pair (.int .i64) (.pair (.int .i64) (.pair (.int .i64) (.pair (.int .i64) (.pair (.int .i64) .unit))))))))) (tyDTOk _ _) (E_laws_toBody_calls k) mixOk f92_oklaws_toBody (nameOk _ _ f92_oklaws_toBody) (by kernel_rfl) h
/-! laws.toBodyS -/
noncomputable def E_laws_toBodyS (k : Nat) : Env := ⟨tyD, fun g => match g with
  | 92 => some (byNew (.pair (.row (.pair (.int .i64) (.pair (.int .i64) (.pair (.row (.int .i64)) (.pair (.int .i64) .unit))))) (.pair .bool (.pair .bool (.pair (.int .i64) (.pair (.int .i64) (.pair (.int .i64) (.pair (.int .i64) (.pair (.int .i64) .unit)))))))) fun ρ l K => match l with
    | [b1] => (b1.as (.pair (.row (.pair (.int .i64) (.pair (.int .i64) (.pair (.row (.int .i64)) (.pair (.int .i64) .unit))))) (.pair .bool (.pair .bool (.pair (.int .i64) (.pair (.int .i64) (.pair (.int .i64) (.pair (.int .i64) (.pair (.int .i64) .unit))))))))).bind fun c1 => (laws_toBody k c1).bind fun r => K r
    | _ => none)
  | 42 => some noCon
  | _ => none, fun f r => match f with | 42 => (match r with | 3 => some [0, 3, 4] | _ => none) | _ => none⟩
noncomputable def laws_toBodyS (k : Nat) (a1 : List ((List (Int × Int × (List Int) × Int × Unit)) × Bool × Bool × Int × Int × Int × Int × Int × Unit)) : Option (List ((List (Int × Int × (List Int) × Int × Unit)) × Bool × Bool × Int × Int × Int × Int × Int × Unit)) :=
  abody (E_laws_toBodyS k) (arun Try.prog (E_laws_toBodyS k) k) k 42 Try.f42 [.tv (.row (.pair (.row (.pair (.int .i64) (.pair (.int .i64) (.pair (.row (.int .i64)) (.pair (.int .i64) .unit))))) (.pair .bool (.pair .bool (.pair (.int .i64) (.pair (.int .i64) (.pair (.int .i64) (.pair (.int .i64) (.pair (.int .i64) .unit))))))))) a1] [] (finD (.row (.pair (.row (.pair (.int .i64) (.pair (.int .i64) (.pair (.row (.int .i64)) (.pair (.int .i64) .unit))))) (.pair .bool (.pair .bool (.pair (.int .i64) (.pair (.int .i64) (.pair (.int .i64) (.pair (.int .i64) (.pair (.int .i64) .unit))))))))))
noncomputable def laws_toBodyS.l3 (k n : Nat) (x0 : List ((List (Int × Int × (List Int) × Int × Unit)) × Bool × Bool × Int × Int × Int × Int × Int × Unit)) (x4 : Int) (y0 : List ((List (Int × Int × (List Int) × Int × Unit)) × Bool × Bool × Int × Int × Int × Int × Int × Unit)) : Option (List ((List (Int × Int × (List Int) × Int × Unit)) × Bool × Bool × Int × Int × Int × Int × Int × Unit)) :=
  resume (E_laws_toBodyS k) 42 (acall (E_laws_toBodyS k) (arun Try.prog (E_laws_toBodyS k) k)) k [true, true, false, true, true] [n] (bodyOf Try.f42) ⟨[.tv (.row (.pair (.row (.pair (.int .i64) (.pair (.int .i64) (.pair (.row (.int .i64)) (.pair (.int .i64) .unit))))) (.pair .bool (.pair .bool (.pair (.int .i64) (.pair (.int .i64) (.pair (.int .i64) (.pair (.int .i64) (.pair (.int .i64) .unit))))))))) x0, .undef, .undef, .sl 0, .int .i64 x4, .undef, .undef, .undef, .undef, .undef, .undef, .undef, .undef, .undef, .undef, .undef, .undef, .undef, .undef, .undef, .undef, .undef, .undef], [some ⟨.deep false (.pair (.row (.pair (.int .i64) (.pair (.int .i64) (.pair (.row (.int .i64)) (.pair (.int .i64) .unit))))) (.pair .bool (.pair .bool (.pair (.int .i64) (.pair (.int .i64) (.pair (.int .i64) (.pair (.int .i64) (.pair (.int .i64) .unit)))))))) y0, false⟩]⟩ (leave (E_laws_toBodyS k) Try.f42 (finD (.row (.pair (.row (.pair (.int .i64) (.pair (.int .i64) (.pair (.row (.int .i64)) (.pair (.int .i64) .unit))))) (.pair .bool (.pair .bool (.pair (.int .i64) (.pair (.int .i64) (.pair (.int .i64) (.pair (.int .i64) (.pair (.int .i64) .unit)))))))))))
theorem laws_toBodyS.l3_0 (k : Nat) (x0 : List ((List (Int × Int × (List Int) × Int × Unit)) × Bool × Bool × Int × Int × Int × Int × Int × Unit)) (x4 : Int) (y0 : List ((List (Int × Int × (List Int) × Int × Unit)) × Bool × Bool × Int × Int × Int × Int × Int × Unit)) : laws_toBodyS.l3 k 0 x0 x4 y0 = none := by kernel_rfl
theorem laws_toBodyS.l3_s (k n : Nat) (x0 : List ((List (Int × Int × (List Int) × Int × Unit)) × Bool × Bool × Int × Int × Int × Int × Int × Unit)) (x4 : Int) (y0 : List ((List (Int × Int × (List Int) × Int × Unit)) × Bool × Bool × Int × Int × Int × Int × Int × Unit)) : laws_toBodyS.l3 k (n + 1) x0 x4 y0 =
  iteB (decide (x4 < ((List.length x0) : Int))) (iteB (decide (0 ≤ x4)) (iteB (decide (x4 < ((List.length x0) : Int))) (bindO (laws_toBody k (List.getD x0 (Int.toNat x4) (Ty.dflt (.pair (.row (.pair (.int .i64) (.pair (.int .i64) (.pair (.row (.int .i64)) (.pair (.int .i64) .unit))))) (.pair .bool (.pair .bool (.pair (.int .i64) (.pair (.int .i64) (.pair (.int .i64) (.pair (.int .i64) (.pair (.int .i64) .unit))))))))))) fun r1 => (iteB (decide (0 ≤ x4)) (iteB (decide (x4 < ((List.length y0) : Int))) (laws_toBodyS.l3 k n x0 (IntKind.wrap .i64 (x4 + 1)) (List.set y0 (Int.toNat x4) (r1.1, r1.2.1, r1.2.2.1, r1.2.2.2.1, r1.2.2.2.2.1, r1.2.2.2.2.2.1, r1.2.2.2.2.2.2.1, r1.2.2.2.2.2.2.2.1, ()))) (none)) (none))) (none)) (none)) (some y0) := by kernel_rfl
theorem laws_toBodyS_e (k : Nat) (a1 : List ((List (Int × Int × (List Int) × Int × Unit)) × Bool × Bool × Int × Int × Int × Int × Int × Unit)) : laws_toBodyS k a1 =
  iteB (decide (0 ≤ ((List.length a1) : Int))) (iteB (decide (((List.length a1) : Int) ≤ ((List.length a1) : Int))) (iteB (decide (((List.length a1) : Int) * 72 ≤ (lim : Int))) (iteB (decide (((List.length a1) : Int) ≤ (lim : Int)) && true) (laws_toBodyS.l3 k k a1 0 (List.replicate (Int.toNat ((List.length a1) : Int)) (Ty.dflt (.pair (.row (.pair (.int .i64) (.pair (.int .i64) (.pair (.row (.int .i64)) (.pair (.int .i64) .unit))))) (.pair .bool (.pair .bool (.pair (.int .i64) (.pair (.int .i64) (.pair (.int .i64) (.pair (.int .i64) (.pair (.int .i64) .unit))))))))))) (none)) (none)) (none)) (none) := by kernel_rfl
theorem E_laws_toBodyS_calls (k : Nat) : CallsOk Try.prog (E_laws_toBodyS k) (arun Try.prog (E_laws_toBodyS k) k) := by
  refine told_run (tyDTOk _ _) ?_ (fun run h => regOk (tyDTOk _ _) mixOk h) ?_ nameOk k
  · intro g m hg
    simp only [E_laws_toBodyS] at hg
    split at hg
    · cases hg
      refine con_byNew fun ρ l K x hm => ?_
      split at hm
      · obtain ⟨c1, h1, hm⟩ := Option.bind_eq_some_iff.1 hm
        obtain ⟨r, hr, hm⟩ := Option.bind_eq_some_iff.1 hm
        exact ⟨_, hm, LawD.reads (.cons (.as h1) .nil) (laws_toBody_law k c1 r hr)⟩
      · cases hm
    · cases hg; exact noCon_ok
    · cases hg
  · intro g hg r
    by_cases h : g = 42
    · subst h; simp [E_laws_toBodyS] at hg
    · simp [E_laws_toBodyS, h]
theorem f42_oklaws_toBodyS : Try.prog.funcs[42]? = some Try.f42 := by kernel_rfl
theorem laws_toBodyS_law (k : Nat) (a1 : List ((List (Int × Int × (List Int) × Int × Unit)) × Bool × Bool × Int × Int × Int × Int × Int × Unit)) (x : List ((List (Int × Int × (List Int) × Int × Unit)) × Bool × Bool × Int × Int × Int × Int × Int × Unit)) (h : laws_toBodyS k a1 = some x) : LawD Try.prog 42 [.tv (.row (.pair (.row (.pair (.int .i64) (.pair (.int .i64) (.pair (.row (.int .i64)) (.pair (.int .i64) .unit))))) (.pair .bool (.pair .bool (.pair (.int .i64) (.pair (.int .i64) (.pair (.int .i64) (.pair (.int .i64) (.pair (.int .i64) .unit))))))))) a1] (.row (.pair (.row (.pair (.int .i64) (.pair (.int .i64) (.pair (.row (.int .i64)) (.pair (.int .i64) .unit))))) (.pair .bool (.pair .bool (.pair (.int .i64) (.pair (.int .i64) (.pair (.int .i64) (.pair (.int .i64) (.pair (.int .i64) .unit))))))))) x := by
  unfold laws_toBodyS at h
  exact lawD (t := (.row (.pair (.row (.pair (.int .i64) (.pair (.int .i64) (.pair (.row (.int .i64)) (.pair (.int .i64) .unit))))) (.pair .bool (.pair .bool (.pair (.int .i64) (.pair (.int .i64) (.pair (.int .i64) (.pair (.int .i64) (.pair (.int .i64) .unit)))))))))) (tyDTOk _ _) (E_laws_toBodyS_calls k) mixOk f42_oklaws_toBodyS (nameOk _ _ f42_oklaws_toBodyS) (by kernel_rfl) h
/-! laws.toWait -/
noncomputable def E_laws_toWait (k : Nat) : Env := ⟨tyD, fun _ => none, fun _ _ => none⟩
noncomputable def laws_toWait (k : Nat) (a1 : Int × Int × Int × Int × Unit) : Option (Int × Int × Int × Int × Unit) :=
  abody (E_laws_toWait k) (arun Try.prog (E_laws_toWait k) k) k 151 Try.f151 [.tv (.pair (.int .i64) (.pair (.int .i64) (.pair (.int .i64) (.pair (.int .i64) .unit)))) a1] [] (finD (.pair (.int .i64) (.pair (.int .i64) (.pair (.int .i64) (.pair (.int .i64) .unit)))))
theorem laws_toWait_e (k : Nat) (a1 : Int × Int × Int × Int × Unit) : laws_toWait k a1 =
  some (a1.1, a1.2.1, a1.2.2.1, a1.2.2.2.1, ()) := by kernel_rfl
theorem E_laws_toWait_calls (k : Nat) : CallsOk Try.prog (E_laws_toWait k) (arun Try.prog (E_laws_toWait k) k) := by
  refine told_run (tyDTOk _ _) ?_ (fun run h => regOk (tyDTOk _ _) mixOk h) ?_ nameOk k
  · intro g m hg
    cases hg
  · intro g _ r; rfl
theorem f151_oklaws_toWait : Try.prog.funcs[151]? = some Try.f151 := by kernel_rfl
theorem laws_toWait_law (k : Nat) (a1 : Int × Int × Int × Int × Unit) (x : Int × Int × Int × Int × Unit) (h : laws_toWait k a1 = some x) : LawD Try.prog 151 [.tv (.pair (.int .i64) (.pair (.int .i64) (.pair (.int .i64) (.pair (.int .i64) .unit)))) a1] (.pair (.int .i64) (.pair (.int .i64) (.pair (.int .i64) (.pair (.int .i64) .unit)))) x := by
  unfold laws_toWait at h
  exact lawD (t := (.pair (.int .i64) (.pair (.int .i64) (.pair (.int .i64) (.pair (.int .i64) .unit))))) (tyDTOk _ _) (E_laws_toWait_calls k) mixOk f151_oklaws_toWait (nameOk _ _ f151_oklaws_toWait) (by kernel_rfl) h
end Go.Proofs.Ytampamlgkfhliaa.XFnExactOpen
