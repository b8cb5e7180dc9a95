/- Functions of the program as runs of the interpreter: equations, and a law for each. -/
import Derived.Test.YtapijpjgfpjahaaProg
import Derived.Test.YtapijpjgfpjahaaChecked
import Derived.KernelRfl
import Derived.Eval
import Derived.Test.YtapijpjgfpjahaaATyOk
import Derived.Test.YtapijpjgfpjahaaAS32
open Go Go.AM Go.AMx Go.Proofs
namespace Go.Proofs.Ytapijpjgfpjahaa.XFnExactMachineOk
set_option linter.unusedVariables false
set_option linter.unusedSimpArgs false
/-! laws.szInsS -/
noncomputable def E_laws_szInsS (k : Nat) : Env := ⟨ty, fun _ => none, fun _ _ => none⟩
noncomputable def laws_szInsS (k : Nat) (a1 : List (Int × Int × Int × Int × Int × Int × Unit)) (a2 : Int) : Option (Int) :=
  abody (E_laws_szInsS k) (arun Try.prog (E_laws_szInsS k) k) k 65 Try.f65 [.tv (.row (.pair (.int .i64) (.pair (.int .i64) (.pair (.int .i64) (.pair (.int .i64) (.pair (.int .i64) (.pair (.int .i64) .unit))))))) a1, .int .i64 a2] [] (fin1 (.int .i64))
theorem laws_szInsS_e (k : Nat) (a1 : List (Int × Int × Int × Int × Int × Int × Unit)) (a2 : Int) : laws_szInsS k a1 a2 =
  iteB (decide (IntKind.wrap .i64 (a2 - ((List.length a1) : Int)) < 0)) (some (-1)) (some (IntKind.wrap .i64 (a2 - ((List.length a1) : Int)))) := by kernel_rfl
theorem E_laws_szInsS_calls (k : Nat) : CallsOk Try.prog (E_laws_szInsS k) (arun Try.prog (E_laws_szInsS k) k) := by
  refine told_run (tyTOk _ _) ?_ (fun run h => regOk (tyTOk _ _) mixOk h) ?_ nameOk k
  · intro g m hg
    cases hg
  · intro g _ r; rfl
theorem f65_oklaws_szInsS : Try.prog.funcs[65]? = some Try.f65 := by kernel_rfl
theorem laws_szInsS_law (k : Nat) (a1 : List (Int × Int × Int × Int × Int × Int × Unit)) (a2 : Int) (x : Int) (h : laws_szInsS k a1 a2 = some x) : LawV Try.prog 65 [.tv (.row (.pair (.int .i64) (.pair (.int .i64) (.pair (.int .i64) (.pair (.int .i64) (.pair (.int .i64) (.pair (.int .i64) .unit))))))) a1, .int .i64 a2] (tvn (.int .i64) x) := by
  unfold laws_szInsS at h
  exact law1 (t := (.int .i64)) (tyTOk _ _) (E_laws_szInsS_calls k) mixOk f65_oklaws_szInsS (nameOk _ _ f65_oklaws_szInsS) (by kernel_rfl) h
/-! laws.szIntS -/
noncomputable def E_laws_szIntS (k : Nat) : Env := ⟨ty, fun _ => none, fun _ _ => none⟩
noncomputable def laws_szIntS (k : Nat) (a1 : List Int) (a2 : Int) : Option (Int) :=
  abody (E_laws_szIntS k) (arun Try.prog (E_laws_szIntS k) k) k 66 Try.f66 [.tv (.row (.int .i64)) a1, .int .i64 a2] [] (fin1 (.int .i64))
theorem laws_szIntS_e (k : Nat) (a1 : List Int) (a2 : Int) : laws_szIntS k a1 a2 =
  iteB (decide (IntKind.wrap .i64 (a2 - ((List.length a1) : Int)) < 0)) (some (-1)) (some (IntKind.wrap .i64 (a2 - ((List.length a1) : Int)))) := by kernel_rfl
theorem E_laws_szIntS_calls (k : Nat) : CallsOk Try.prog (E_laws_szIntS k) (arun Try.prog (E_laws_szIntS k) k) := by
  refine told_run (tyTOk _ _) ?_ (fun run h => regOk (tyTOk _ _) mixOk h) ?_ nameOk k
  · intro g m hg
    cases hg
  · intro g _ r; rfl
theorem f66_oklaws_szIntS : Try.prog.funcs[66]? = some Try.f66 := by kernel_rfl
theorem laws_szIntS_law (k : Nat) (a1 : List Int) (a2 : Int) (x : Int) (h : laws_szIntS k a1 a2 = some x) : LawV Try.prog 66 [.tv (.row (.int .i64)) a1, .int .i64 a2] (tvn (.int .i64) x) := by
  unfold laws_szIntS at h
  exact law1 (t := (.int .i64)) (tyTOk _ _) (E_laws_szIntS_calls k) mixOk f66_oklaws_szIntS (nameOk _ _ f66_oklaws_szIntS) (by kernel_rfl) h
/-! laws.szCore -/
noncomputable def E_laws_szCore (k : Nat) : Env := ⟨ty, fun g => match g with
  | 66 => some (byVal fun ρ l K => match l with
    | [b1, b2] => (b1.as (.row (.int .i64))).bind fun c1 => (b2.as (.int .i64)).bind fun c2 => (laws_szIntS k c1 c2).bind fun r => K (tvn (.int .i64) r)
    | _ => none)
  | _ => none, fun _ _ => none⟩
noncomputable def laws_szCore (k : Nat) (a1 : Int × Int × (List Int) × Unit) (a2 : Int) : Option (Int) :=
  abody (E_laws_szCore k) (arun Try.prog (E_laws_szCore k) k) k 142 Try.f142 [.tv (.pair (.int .i64) (.pair (.int .i64) (.pair (.row (.int .i64)) .unit))) a1, .int .i64 a2] [] (fin1 (.int .i64))
theorem laws_szCore_e (k : Nat) (a1 : Int × Int × (List Int) × Unit) (a2 : Int) : laws_szCore k a1 a2 =
  bindO (laws_szIntS k a1.2.2.1 a2) fun r1 => (iteB (decide (r1 < 0)) (some (-1)) (some r1)) := by kernel_rfl
theorem E_laws_szCore_calls (k : Nat) : CallsOk Try.prog (E_laws_szCore k) (arun Try.prog (E_laws_szCore k) k) := by
  refine told_run (tyTOk _ _) ?_ (fun run h => regOk (tyTOk _ _) mixOk h) ?_ nameOk k
  · intro g m hg
    simp only [E_laws_szCore] at hg
    split at hg
    · cases hg
      refine con_byVal fun ρ l K x hm => ?_
      split at hm
      · obtain ⟨c1, h1, hm⟩ := Option.bind_eq_some_iff.1 hm
        obtain ⟨c2, h2, hm⟩ := Option.bind_eq_some_iff.1 hm
        obtain ⟨r, hr, hm⟩ := Option.bind_eq_some_iff.1 hm
        exact ⟨_, hm, LawV.reads (.cons (.as h1) (.cons (.as h2) .nil)) (laws_szIntS_law k c1 c2 r hr)⟩
      · cases hm
    · cases hg
  · intro g _ r; rfl
theorem f142_oklaws_szCore : Try.prog.funcs[142]? = some Try.f142 := by kernel_rfl
theorem laws_szCore_law (k : Nat) (a1 : Int × Int × (List Int) × Unit) (a2 : Int) (x : Int) (h : laws_szCore k a1 a2 = some x) : LawV Try.prog 142 [.tv (.pair (.int .i64) (.pair (.int .i64) (.pair (.row (.int .i64)) .unit))) a1, .int .i64 a2] (tvn (.int .i64) x) := by
  unfold laws_szCore at h
  exact law1 (t := (.int .i64)) (tyTOk _ _) (E_laws_szCore_calls k) mixOk f142_oklaws_szCore (nameOk _ _ f142_oklaws_szCore) (by kernel_rfl) h
/-! laws.szCoreS -/
noncomputable def E_laws_szCoreS (k : Nat) : Env := ⟨ty, fun g => match g with
  | 142 => some (byVal fun ρ l K => match l with
    | [b1, b2] => (b1.as (.pair (.int .i64) (.pair (.int .i64) (.pair (.row (.int .i64)) .unit)))).bind fun c1 => (b2.as (.int .i64)).bind fun c2 => (laws_szCore k c1 c2).bind fun r => K (tvn (.int .i64) r)
    | _ => none)
  | 67 => some noCon
  | _ => none, fun f r => match f with | 67 => (match r with | 5 => some [0, 1, 5] | _ => none) | _ => none⟩
noncomputable def laws_szCoreS (k : Nat) (a1 : List (Int × Int × (List Int) × Unit)) (a2 : Int) : Option (Int) :=
  abody (E_laws_szCoreS k) (arun Try.prog (E_laws_szCoreS k) k) k 67 Try.f67 [.tv (.row (.pair (.int .i64) (.pair (.int .i64) (.pair (.row (.int .i64)) .unit)))) a1, .int .i64 a2] [] (fin1 (.int .i64))
noncomputable def laws_szCoreS.l5 (k n : Nat) (x0 : List (Int × Int × (List Int) × Unit)) (x1 : Int) (x5 : Int) : Option (Int) :=
  resume (E_laws_szCoreS k) 67 (acall (E_laws_szCoreS k) (arun Try.prog (E_laws_szCoreS k) k)) k [true, true, true, false, true, true] [n] (bodyOf Try.f67) ⟨[.tv (.row (.pair (.int .i64) (.pair (.int .i64) (.pair (.row (.int .i64)) .unit)))) x0, .int .i64 x1, .undef, .undef, .undef, .int .i64 x5, .undef, .undef, .undef, .undef, .undef, .undef, .undef, .undef, .undef, .undef, .undef, .undef, .undef, .undef, .undef, .undef, .undef, .undef, .undef, .undef, .undef], []⟩ (leave (E_laws_szCoreS k) Try.f67 (fin1 (.int .i64)))
theorem laws_szCoreS.l5_0 (k : Nat) (x0 : List (Int × Int × (List Int) × Unit)) (x1 : Int) (x5 : Int) : laws_szCoreS.l5 k 0 x0 x1 x5 = none := by kernel_rfl
theorem laws_szCoreS.l5_s (k n : Nat) (x0 : List (Int × Int × (List Int) × Unit)) (x1 : Int) (x5 : Int) : laws_szCoreS.l5 k (n + 1) x0 x1 x5 =
  iteB (decide (x5 < ((List.length x0) : Int))) (iteB (decide (0 ≤ x5)) (iteB (decide (x5 < ((List.length x0) : Int))) (bindO (laws_szCore k (List.getD x0 (Int.toNat x5) (Ty.dflt (.pair (.int .i64) (.pair (.int .i64) (.pair (.row (.int .i64)) .unit))))) x1) fun r1 => (iteB (decide (r1 < 0)) (some (-1)) (laws_szCoreS.l5 k n x0 r1 (IntKind.wrap .i64 (x5 + 1))))) (none)) (none)) (some x1) := by kernel_rfl
theorem laws_szCoreS_e (k : Nat) (a1 : List (Int × Int × (List Int) × Unit)) (a2 : Int) : laws_szCoreS k a1 a2 =
  iteB (decide (IntKind.wrap .i64 (a2 - ((List.length a1) : Int)) < 0)) (some (-1)) (laws_szCoreS.l5 k k a1 (IntKind.wrap .i64 (a2 - ((List.length a1) : Int))) 0) := by kernel_rfl
theorem E_laws_szCoreS_calls (k : Nat) : CallsOk Try.prog (E_laws_szCoreS k) (arun Try.prog (E_laws_szCoreS k) k) := by
  refine told_run (tyTOk _ _) ?_ (fun run h => regOk (tyTOk _ _) mixOk h) ?_ nameOk k
  · intro g m hg
    simp only [E_laws_szCoreS] at hg
    split at hg
    · cases hg
      refine con_byVal fun ρ l K x hm => ?_
      split at hm
      · obtain ⟨c1, h1, hm⟩ := Option.bind_eq_some_iff.1 hm
        obtain ⟨c2, h2, hm⟩ := Option.bind_eq_some_iff.1 hm
        obtain ⟨r, hr, hm⟩ := Option.bind_eq_some_iff.1 hm
        exact ⟨_, hm, LawV.reads (.cons (.as h1) (.cons (.as h2) .nil)) (laws_szCore_law k c1 c2 r hr)⟩
      · cases hm
    · cases hg; exact noCon_ok
    · cases hg
  · intro g hg r
    by_cases h : g = 67
    · subst h; simp [E_laws_szCoreS] at hg
    · simp [E_laws_szCoreS, h]
theorem f67_oklaws_szCoreS : Try.prog.funcs[67]? = some Try.f67 := by kernel_rfl
theorem laws_szCoreS_law (k : Nat) (a1 : List (Int × Int × (List Int) × Unit)) (a2 : Int) (x : Int) (h : laws_szCoreS k a1 a2 = some x) : LawV Try.prog 67 [.tv (.row (.pair (.int .i64) (.pair (.int .i64) (.pair (.row (.int .i64)) .unit)))) a1, .int .i64 a2] (tvn (.int .i64) x) := by
  unfold laws_szCoreS at h
  exact law1 (t := (.int .i64)) (tyTOk _ _) (E_laws_szCoreS_calls k) mixOk f67_oklaws_szCoreS (nameOk _ _ f67_oklaws_szCoreS) (by kernel_rfl) h
/-! laws.szNoteS -/
noncomputable def E_laws_szNoteS (k : Nat) : Env := ⟨ty, fun _ => none, fun _ _ => none⟩
noncomputable def laws_szNoteS (k : Nat) (a1 : List (Int × Int × Unit)) (a2 : Int) : Option (Int) :=
  abody (E_laws_szNoteS k) (arun Try.prog (E_laws_szNoteS k) k) k 68 Try.f68 [.tv (.row (.pair (.int .i64) (.pair (.int .i64) .unit))) a1, .int .i64 a2] [] (fin1 (.int .i64))
theorem laws_szNoteS_e (k : Nat) (a1 : List (Int × Int × Unit)) (a2 : Int) : laws_szNoteS k a1 a2 =
  iteB (decide (IntKind.wrap .i64 (a2 - ((List.length a1) : Int)) < 0)) (some (-1)) (some (IntKind.wrap .i64 (a2 - ((List.length a1) : Int)))) := by kernel_rfl
theorem E_laws_szNoteS_calls (k : Nat) : CallsOk Try.prog (E_laws_szNoteS k) (arun Try.prog (E_laws_szNoteS k) k) := by
  refine told_run (tyTOk _ _) ?_ (fun run h => regOk (tyTOk _ _) mixOk h) ?_ nameOk k
  · intro g m hg
    cases hg
  · intro g _ r; rfl
theorem f68_oklaws_szNoteS : Try.prog.funcs[68]? = some Try.f68 := by kernel_rfl
theorem laws_szNoteS_law (k : Nat) (a1 : List (Int × Int × Unit)) (a2 : Int) (x : Int) (h : laws_szNoteS k a1 a2 = some x) : LawV Try.prog 68 [.tv (.row (.pair (.int .i64) (.pair (.int .i64) .unit))) a1, .int .i64 a2] (tvn (.int .i64) x) := by
  unfold laws_szNoteS at h
  exact law1 (t := (.int .i64)) (tyTOk _ _) (E_laws_szNoteS_calls k) mixOk f68_oklaws_szNoteS (nameOk _ _ f68_oklaws_szNoteS) (by kernel_rfl) h
/-! laws.szMachine -/
noncomputable def E_laws_szMachine (k : Nat) : Env := ⟨ty, fun g => match g with
  | 65 => some (byVal fun ρ l K => match l with
    | [b1, b2] => (b1.as (.row (.pair (.int .i64) (.pair (.int .i64) (.pair (.int .i64) (.pair (.int .i64) (.pair (.int .i64) (.pair (.int .i64) .unit)))))))).bind fun c1 => (b2.as (.int .i64)).bind fun c2 => (laws_szInsS k c1 c2).bind fun r => K (tvn (.int .i64) r)
    | _ => none)
  | 66 => some (byVal fun ρ l K => match l with
    | [b1, b2] => (b1.as (.row (.int .i64))).bind fun c1 => (b2.as (.int .i64)).bind fun c2 => (laws_szIntS k c1 c2).bind fun r => K (tvn (.int .i64) r)
    | _ => none)
  | 67 => some (byVal fun ρ l K => match l with
    | [b1, b2] => (b1.as (.row (.pair (.int .i64) (.pair (.int .i64) (.pair (.row (.int .i64)) .unit))))).bind fun c1 => (b2.as (.int .i64)).bind fun c2 => (laws_szCoreS k c1 c2).bind fun r => K (tvn (.int .i64) r)
    | _ => none)
  | 68 => some (byVal fun ρ l K => match l with
    | [b1, b2] => (b1.as (.row (.pair (.int .i64) (.pair (.int .i64) .unit)))).bind fun c1 => (b2.as (.int .i64)).bind fun c2 => (laws_szNoteS k c1 c2).bind fun r => K (tvn (.int .i64) r)
    | _ => none)
  | _ => none, fun _ _ => none⟩
noncomputable def laws_szMachine (k : Nat) (a1 : (List (Int × Int × Int × Int × Int × Int × Unit)) × (List Int) × (List (Int × Int × (List Int) × Unit)) × (List Int) × (List (Int × Int × Unit)) × Bool × Int × Unit) (a2 : Int) : Option (Int) :=
  abody (E_laws_szMachine k) (arun Try.prog (E_laws_szMachine k) k) k 12 Try.f12 [.tv (.pair (.row (.pair (.int .i64) (.pair (.int .i64) (.pair (.int .i64) (.pair (.int .i64) (.pair (.int .i64) (.pair (.int .i64) .unit))))))) (.pair (.row (.int .i64)) (.pair (.row (.pair (.int .i64) (.pair (.int .i64) (.pair (.row (.int .i64)) .unit)))) (.pair (.row (.int .i64)) (.pair (.row (.pair (.int .i64) (.pair (.int .i64) .unit))) (.pair .bool (.pair (.int .i64) .unit))))))) a1, .int .i64 a2] [] (fin1 (.int .i64))
theorem laws_szMachine_e (k : Nat) (a1 : (List (Int × Int × Int × Int × Int × Int × Unit)) × (List Int) × (List (Int × Int × (List Int) × Unit)) × (List Int) × (List (Int × Int × Unit)) × Bool × Int × Unit) (a2 : Int) : laws_szMachine k a1 a2 =
  bindO (laws_szInsS k a1.1 a2) fun r1 => (iteB (decide (r1 < 0)) (some (-1)) (bindO (laws_szIntS k a1.2.1 r1) fun r2 => (iteB (decide (r2 < 0)) (some (-1)) (bindO (laws_szCoreS k a1.2.2.1 r2) fun r3 => (iteB (decide (r3 < 0)) (some (-1)) (bindO (laws_szIntS k a1.2.2.2.1 r3) fun r4 => (iteB (decide (r4 < 0)) (some (-1)) (bindO (laws_szNoteS k a1.2.2.2.2.1 r4) fun r5 => (iteB (decide (r5 < 0)) (some (-1)) (some r5)))))))))) := by kernel_rfl
theorem E_laws_szMachine_calls (k : Nat) : CallsOk Try.prog (E_laws_szMachine k) (arun Try.prog (E_laws_szMachine k) k) := by
  refine told_run (tyTOk _ _) ?_ (fun run h => regOk (tyTOk _ _) mixOk h) ?_ nameOk k
  · intro g m hg
    simp only [E_laws_szMachine] at hg
    split at hg
    · cases hg
      refine con_byVal fun ρ l K x hm => ?_
      split at hm
      · obtain ⟨c1, h1, hm⟩ := Option.bind_eq_some_iff.1 hm
        obtain ⟨c2, h2, hm⟩ := Option.bind_eq_some_iff.1 hm
        obtain ⟨r, hr, hm⟩ := Option.bind_eq_some_iff.1 hm
        exact ⟨_, hm, LawV.reads (.cons (.as h1) (.cons (.as h2) .nil)) (laws_szInsS_law k c1 c2 r hr)⟩
      · cases hm
    · cases hg
      refine con_byVal fun ρ l K x hm => ?_
      split at hm
      · obtain ⟨c1, h1, hm⟩ := Option.bind_eq_some_iff.1 hm
        obtain ⟨c2, h2, hm⟩ := Option.bind_eq_some_iff.1 hm
        obtain ⟨r, hr, hm⟩ := Option.bind_eq_some_iff.1 hm
        exact ⟨_, hm, LawV.reads (.cons (.as h1) (.cons (.as h2) .nil)) (laws_szIntS_law k c1 c2 r hr)⟩
      · cases hm
    · cases hg
      refine con_byVal fun ρ l K x hm => ?_
      split at hm
      · obtain ⟨c1, h1, hm⟩ := Option.bind_eq_some_iff.1 hm
        obtain ⟨c2, h2, hm⟩ := Option.bind_eq_some_iff.1 hm
        obtain ⟨r, hr, hm⟩ := Option.bind_eq_some_iff.1 hm
        exact ⟨_, hm, LawV.reads (.cons (.as h1) (.cons (.as h2) .nil)) (laws_szCoreS_law k c1 c2 r hr)⟩
      · cases hm
    · cases hg
      refine con_byVal fun ρ l K x hm => ?_
      split at hm
      · obtain ⟨c1, h1, hm⟩ := Option.bind_eq_some_iff.1 hm
        obtain ⟨c2, h2, hm⟩ := Option.bind_eq_some_iff.1 hm
        obtain ⟨r, hr, hm⟩ := Option.bind_eq_some_iff.1 hm
        exact ⟨_, hm, LawV.reads (.cons (.as h1) (.cons (.as h2) .nil)) (laws_szNoteS_law k c1 c2 r hr)⟩
      · cases hm
    · cases hg
  · intro g _ r; rfl
theorem f12_oklaws_szMachine : Try.prog.funcs[12]? = some Try.f12 := by kernel_rfl
theorem laws_szMachine_law (k : Nat) (a1 : (List (Int × Int × Int × Int × Int × Int × Unit)) × (List Int) × (List (Int × Int × (List Int) × Unit)) × (List Int) × (List (Int × Int × Unit)) × Bool × Int × Unit) (a2 : Int) (x : Int) (h : laws_szMachine k a1 a2 = some x) : LawV Try.prog 12 [.tv (.pair (.row (.pair (.int .i64) (.pair (.int .i64) (.pair (.int .i64) (.pair (.int .i64) (.pair (.int .i64) (.pair (.int .i64) .unit))))))) (.pair (.row (.int .i64)) (.pair (.row (.pair (.int .i64) (.pair (.int .i64) (.pair (.row (.int .i64)) .unit)))) (.pair (.row (.int .i64)) (.pair (.row (.pair (.int .i64) (.pair (.int .i64) .unit))) (.pair .bool (.pair (.int .i64) .unit))))))) a1, .int .i64 a2] (tvn (.int .i64) x) := by
  unfold laws_szMachine at h
  exact law1 (t := (.int .i64)) (tyTOk _ _) (E_laws_szMachine_calls k) mixOk f12_oklaws_szMachine (nameOk _ _ f12_oklaws_szMachine) (by kernel_rfl) h
/-! laws.toIns -/
noncomputable def E_laws_toIns (k : Nat) : Env := ⟨ty, fun _ => none, fun _ _ => none⟩
noncomputable def laws_toIns (k : Nat) (a1 : Int × Int × Int × Int × Int × Int × Unit) : Option (Int × Int × Int × Int × Int × Int × Unit) :=
  abody (E_laws_toIns k) (arun Try.prog (E_laws_toIns k) k) k 35 Try.f35 [.tv (.pair (.int .i64) (.pair (.int .i64) (.pair (.int .i64) (.pair (.int .i64) (.pair (.int .i64) (.pair (.int .i64) .unit)))))) a1] [] (fin1 (.pair (.int .i64) (.pair (.int .i64) (.pair (.int .i64) (.pair (.int .i64) (.pair (.int .i64) (.pair (.int .i64) .unit)))))))
theorem laws_toIns_e (k : Nat) (a1 : Int × Int × Int × Int × Int × Int × Unit) : laws_toIns k a1 =
  some (a1.1, a1.2.1, a1.2.2.1, a1.2.2.2.1, a1.2.2.2.2.1, a1.2.2.2.2.2.1, ()) := by kernel_rfl
theorem E_laws_toIns_calls (k : Nat) : CallsOk Try.prog (E_laws_toIns k) (arun Try.prog (E_laws_toIns k) k) := by
  refine told_run (tyTOk _ _) ?_ (fun run h => regOk (tyTOk _ _) mixOk h) ?_ nameOk k
  · intro g m hg
    cases hg
  · intro g _ r; rfl
theorem f35_oklaws_toIns : Try.prog.funcs[35]? = some Try.f35 := by kernel_rfl
theorem laws_toIns_law (k : Nat) (a1 : Int × Int × Int × Int × Int × Int × Unit) (x : Int × Int × Int × Int × Int × Int × Unit) (h : laws_toIns k a1 = some x) : LawV Try.prog 35 [.tv (.pair (.int .i64) (.pair (.int .i64) (.pair (.int .i64) (.pair (.int .i64) (.pair (.int .i64) (.pair (.int .i64) .unit)))))) a1] (tvn (.pair (.int .i64) (.pair (.int .i64) (.pair (.int .i64) (.pair (.int .i64) (.pair (.int .i64) (.pair (.int .i64) .unit)))))) x) := by
  unfold laws_toIns at h
  exact law1 (t := (.pair (.int .i64) (.pair (.int .i64) (.pair (.int .i64) (.pair (.int .i64) (.pair (.int .i64) (.pair (.int .i64) .unit))))))) (tyTOk _ _) (E_laws_toIns_calls k) mixOk f35_oklaws_toIns (nameOk _ _ f35_oklaws_toIns) (by kernel_rfl) h
/-! laws.toInsS -/
noncomputable def E_laws_toInsS (k : Nat) : Env := ⟨ty, fun g => match g with
  | 35 => some (byVal fun ρ l K => match l with
    | [b1] => (b1.as (.pair (.int .i64) (.pair (.int .i64) (.pair (.int .i64) (.pair (.int .i64) (.pair (.int .i64) (.pair (.int .i64) .unit))))))).bind fun c1 => (laws_toIns k c1).bind fun r => K (tvn (.pair (.int .i64) (.pair (.int .i64) (.pair (.int .i64) (.pair (.int .i64) (.pair (.int .i64) (.pair (.int .i64) .unit)))))) r)
    | _ => none)
  | 74 => some noCon
  | _ => none, fun f r => match f with | 74 => (match r with | 3 => some [0, 3, 4] | _ => none) | _ => none⟩
noncomputable def laws_toInsS (k : Nat) (a1 : List (Int × Int × Int × Int × Int × Int × Unit)) : Option (List (Int × Int × Int × Int × Int × Int × Unit)) :=
  abody (E_laws_toInsS k) (arun Try.prog (E_laws_toInsS k) k) k 74 Try.f74 [.tv (.row (.pair (.int .i64) (.pair (.int .i64) (.pair (.int .i64) (.pair (.int .i64) (.pair (.int .i64) (.pair (.int .i64) .unit))))))) a1] [] (fin1 (.row (.pair (.int .i64) (.pair (.int .i64) (.pair (.int .i64) (.pair (.int .i64) (.pair (.int .i64) (.pair (.int .i64) .unit))))))))
noncomputable def laws_toInsS.l3 (k n : Nat) (x0 : List (Int × Int × Int × Int × Int × Int × Unit)) (x4 : Int) (y0 : List (Int × Int × Int × Int × Int × Int × Unit)) : Option (List (Int × Int × Int × Int × Int × Int × Unit)) :=
  resume (E_laws_toInsS k) 74 (acall (E_laws_toInsS k) (arun Try.prog (E_laws_toInsS k) k)) k [true, true, false, true, true] [n] (bodyOf Try.f74) ⟨[.tv (.row (.pair (.int .i64) (.pair (.int .i64) (.pair (.int .i64) (.pair (.int .i64) (.pair (.int .i64) (.pair (.int .i64) .unit))))))) x0, .undef, .undef, .sl 0, .int .i64 x4, .undef, .undef, .undef, .undef, .undef, .undef, .undef, .undef, .undef, .undef, .undef, .undef, .undef, .undef, .undef, .undef, .undef, .undef], [some ⟨.typed (.pair (.int .i64) (.pair (.int .i64) (.pair (.int .i64) (.pair (.int .i64) (.pair (.int .i64) (.pair (.int .i64) .unit)))))) y0, false⟩]⟩ (leave (E_laws_toInsS k) Try.f74 (fin1 (.row (.pair (.int .i64) (.pair (.int .i64) (.pair (.int .i64) (.pair (.int .i64) (.pair (.int .i64) (.pair (.int .i64) .unit)))))))))
theorem laws_toInsS.l3_0 (k : Nat) (x0 : List (Int × Int × Int × Int × Int × Int × Unit)) (x4 : Int) (y0 : List (Int × Int × Int × Int × Int × Int × Unit)) : laws_toInsS.l3 k 0 x0 x4 y0 = none := by kernel_rfl
theorem laws_toInsS.l3_s (k n : Nat) (x0 : List (Int × Int × Int × Int × Int × Int × Unit)) (x4 : Int) (y0 : List (Int × Int × Int × Int × Int × Int × Unit)) : laws_toInsS.l3 k (n + 1) x0 x4 y0 =
  iteB (decide (x4 < ((List.length x0) : Int))) (iteB (decide (0 ≤ x4)) (iteB (decide (x4 < ((List.length x0) : Int))) (bindO (laws_toIns k (List.getD x0 (Int.toNat x4) (Ty.dflt (.pair (.int .i64) (.pair (.int .i64) (.pair (.int .i64) (.pair (.int .i64) (.pair (.int .i64) (.pair (.int .i64) .unit))))))))) fun r1 => (iteB (decide (0 ≤ x4)) (iteB (decide (x4 < ((List.length y0) : Int))) (laws_toInsS.l3 k n x0 (IntKind.wrap .i64 (x4 + 1)) (List.set y0 (Int.toNat x4) r1)) (none)) (none))) (none)) (none)) (some y0) := by kernel_rfl
theorem laws_toInsS_e (k : Nat) (a1 : List (Int × Int × Int × Int × Int × Int × Unit)) : laws_toInsS k a1 =
  iteB (decide (0 ≤ ((List.length a1) : Int))) (iteB (decide (((List.length a1) : Int) ≤ ((List.length a1) : Int))) (iteB (decide (((List.length a1) : Int) * 48 ≤ (lim : Int))) (iteB (decide (((List.length a1) : Int) ≤ (lim : Int)) && true) (laws_toInsS.l3 k k a1 0 (List.replicate (Int.toNat ((List.length a1) : Int)) (Ty.dflt (.pair (.int .i64) (.pair (.int .i64) (.pair (.int .i64) (.pair (.int .i64) (.pair (.int .i64) (.pair (.int .i64) .unit))))))))) (none)) (none)) (none)) (none) := by kernel_rfl
theorem E_laws_toInsS_calls (k : Nat) : CallsOk Try.prog (E_laws_toInsS k) (arun Try.prog (E_laws_toInsS k) k) := by
  refine told_run (tyTOk _ _) ?_ (fun run h => regOk (tyTOk _ _) mixOk h) ?_ nameOk k
  · intro g m hg
    simp only [E_laws_toInsS] at hg
    split at hg
    · cases hg
      refine con_byVal fun ρ l K x hm => ?_
      split at hm
      · obtain ⟨c1, h1, hm⟩ := Option.bind_eq_some_iff.1 hm
        obtain ⟨r, hr, hm⟩ := Option.bind_eq_some_iff.1 hm
        exact ⟨_, hm, LawV.reads (.cons (.as h1) .nil) (laws_toIns_law k c1 r hr)⟩
      · cases hm
    · cases hg; exact noCon_ok
    · cases hg
  · intro g hg r
    by_cases h : g = 74
    · subst h; simp [E_laws_toInsS] at hg
    · simp [E_laws_toInsS, h]
theorem f74_oklaws_toInsS : Try.prog.funcs[74]? = some Try.f74 := by kernel_rfl
theorem laws_toInsS_law (k : Nat) (a1 : List (Int × Int × Int × Int × Int × Int × Unit)) (x : List (Int × Int × Int × Int × Int × Int × Unit)) (h : laws_toInsS k a1 = some x) : LawV Try.prog 74 [.tv (.row (.pair (.int .i64) (.pair (.int .i64) (.pair (.int .i64) (.pair (.int .i64) (.pair (.int .i64) (.pair (.int .i64) .unit))))))) a1] (tvn (.row (.pair (.int .i64) (.pair (.int .i64) (.pair (.int .i64) (.pair (.int .i64) (.pair (.int .i64) (.pair (.int .i64) .unit))))))) x) := by
  unfold laws_toInsS at h
  exact law1 (t := (.row (.pair (.int .i64) (.pair (.int .i64) (.pair (.int .i64) (.pair (.int .i64) (.pair (.int .i64) (.pair (.int .i64) .unit)))))))) (tyTOk _ _) (E_laws_toInsS_calls k) mixOk f74_oklaws_toInsS (nameOk _ _ f74_oklaws_toInsS) (by kernel_rfl) h
/-! laws.toIntS -/
noncomputable def E_laws_toIntS (k : Nat) : Env := ⟨ty, fun g => match g with
  | 75 => some noCon
  | _ => none, fun f r => match f with | 75 => (match r with | 3 => some [0, 3, 4] | _ => none) | _ => none⟩
noncomputable def laws_toIntS (k : Nat) (a1 : List Int) : Option (List Int) :=
  abody (E_laws_toIntS k) (arun Try.prog (E_laws_toIntS k) k) k 75 Try.f75 [.tv (.row (.int .i64)) a1] [] (fin1 (.row (.int .i64)))
noncomputable def laws_toIntS.l3 (k n : Nat) (x0 : List Int) (x4 : Int) (y0 : List Int) : Option (List Int) :=
  resume (E_laws_toIntS k) 75 (acall (E_laws_toIntS k) (arun Try.prog (E_laws_toIntS k) k)) k [true, true, false, true, true] [n] (bodyOf Try.f75) ⟨[.tv (.row (.int .i64)) x0, .undef, .undef, .sl 0, .int .i64 x4, .undef, .undef, .undef, .undef, .undef, .undef, .undef, .undef, .undef, .undef, .undef, .undef, .undef, .undef, .undef, .undef, .undef], [some ⟨.typed (.int .i64) y0, false⟩]⟩ (leave (E_laws_toIntS k) Try.f75 (fin1 (.row (.int .i64))))
theorem laws_toIntS.l3_0 (k : Nat) (x0 : List Int) (x4 : Int) (y0 : List Int) : laws_toIntS.l3 k 0 x0 x4 y0 = none := by kernel_rfl
theorem laws_toIntS.l3_s (k n : Nat) (x0 : List Int) (x4 : Int) (y0 : List Int) : laws_toIntS.l3 k (n + 1) x0 x4 y0 =
  iteB (decide (x4 < ((List.length x0) : Int))) (iteB (decide (0 ≤ x4)) (iteB (decide (x4 < ((List.length x0) : Int))) (iteB (decide (0 ≤ x4)) (iteB (decide (x4 < ((List.length y0) : Int))) (laws_toIntS.l3 k n x0 (IntKind.wrap .i64 (x4 + 1)) (List.set y0 (Int.toNat x4) (List.getD x0 (Int.toNat x4) 0))) (none)) (none)) (none)) (none)) (some y0) := by kernel_rfl
theorem laws_toIntS_e (k : Nat) (a1 : List Int) : laws_toIntS k a1 =
  iteB (decide (0 ≤ ((List.length a1) : Int))) (iteB (decide (((List.length a1) : Int) ≤ ((List.length a1) : Int))) (iteB (decide (((List.length a1) : Int) * 8 ≤ (lim : Int))) (iteB (decide (((List.length a1) : Int) ≤ (lim : Int)) && true) (laws_toIntS.l3 k k a1 0 (List.replicate (Int.toNat ((List.length a1) : Int)) 0)) (none)) (none)) (none)) (none) := by kernel_rfl
theorem E_laws_toIntS_calls (k : Nat) : CallsOk Try.prog (E_laws_toIntS k) (arun Try.prog (E_laws_toIntS k) k) := by
  refine told_run (tyTOk _ _) ?_ (fun run h => regOk (tyTOk _ _) mixOk h) ?_ nameOk k
  · intro g m hg
    simp only [E_laws_toIntS] at hg
    split at hg
    · cases hg; exact noCon_ok
    · cases hg
  · intro g hg r
    by_cases h : g = 75
    · subst h; simp [E_laws_toIntS] at hg
    · simp [E_laws_toIntS, h]
theorem f75_oklaws_toIntS : Try.prog.funcs[75]? = some Try.f75 := by kernel_rfl
theorem laws_toIntS_law (k : Nat) (a1 : List Int) (x : List Int) (h : laws_toIntS k a1 = some x) : LawV Try.prog 75 [.tv (.row (.int .i64)) a1] (tvn (.row (.int .i64)) x) := by
  unfold laws_toIntS at h
  exact law1 (t := (.row (.int .i64))) (tyTOk _ _) (E_laws_toIntS_calls k) mixOk f75_oklaws_toIntS (nameOk _ _ f75_oklaws_toIntS) (by kernel_rfl) h
/-! laws.toCore -/
noncomputable def E_laws_toCore (k : Nat) : Env := ⟨ty, fun g => match g with
  | 75 => some (byVal fun ρ l K => match l with
    | [b1] => (b1.as (.row (.int .i64))).bind fun c1 => (laws_toIntS k c1).bind fun r => K (tvn (.row (.int .i64)) r)
    | _ => none)
  | _ => none, fun _ _ => none⟩
noncomputable def laws_toCore (k : Nat) (a1 : Int × Int × (List Int) × Unit) : Option (Int × Int × (List Int) × Unit) :=
  abody (E_laws_toCore k) (arun Try.prog (E_laws_toCore k) k) k 144 Try.f144 [.tv (.pair (.int .i64) (.pair (.int .i64) (.pair (.row (.int .i64)) .unit))) a1] [] (fin1 (.pair (.int .i64) (.pair (.int .i64) (.pair (.row (.int .i64)) .unit))))
theorem laws_toCore_e (k : Nat) (a1 : Int × Int × (List Int) × Unit) : laws_toCore k a1 =
  bindO (laws_toIntS k a1.2.2.1) fun r1 => (some (a1.1, a1.2.1, r1, ())) := by kernel_rfl
theorem E_laws_toCore_calls (k : Nat) : CallsOk Try.prog (E_laws_toCore k) (arun Try.prog (E_laws_toCore k) k) := by
  refine told_run (tyTOk _ _) ?_ (fun run h => regOk (tyTOk _ _) mixOk h) ?_ nameOk k
  · intro g m hg
    simp only [E_laws_toCore] at hg
    split at hg
    · cases hg
      refine con_byVal fun ρ l K x hm => ?_
      split at hm
      · obtain ⟨c1, h1, hm⟩ := Option.bind_eq_some_iff.1 hm
        obtain ⟨r, hr, hm⟩ := Option.bind_eq_some_iff.1 hm
        exact ⟨_, hm, LawV.reads (.cons (.as h1) .nil) (laws_toIntS_law k c1 r hr)⟩
      · cases hm
    · cases hg
  · intro g _ r; rfl
theorem f144_oklaws_toCore : Try.prog.funcs[144]? = some Try.f144 := by kernel_rfl
theorem laws_toCore_law (k : Nat) (a1 : Int × Int × (List Int) × Unit) (x : Int × Int × (List Int) × Unit) (h : laws_toCore k a1 = some x) : LawV Try.prog 144 [.tv (.pair (.int .i64) (.pair (.int .i64) (.pair (.row (.int .i64)) .unit))) a1] (tvn (.pair (.int .i64) (.pair (.int .i64) (.pair (.row (.int .i64)) .unit))) x) := by
  unfold laws_toCore at h
  exact law1 (t := (.pair (.int .i64) (.pair (.int .i64) (.pair (.row (.int .i64)) .unit)))) (tyTOk _ _) (E_laws_toCore_calls k) mixOk f144_oklaws_toCore (nameOk _ _ f144_oklaws_toCore) (by kernel_rfl) h
/-! laws.toCoreS -/
noncomputable def E_laws_toCoreS (k : Nat) : Env := ⟨ty, fun g => match g with
  | 144 => some (byVal fun ρ l K => match l with
    | [b1] => (b1.as (.pair (.int .i64) (.pair (.int .i64) (.pair (.row (.int .i64)) .unit)))).bind fun c1 => (laws_toCore k c1).bind fun r => K (tvn (.pair (.int .i64) (.pair (.int .i64) (.pair (.row (.int .i64)) .unit))) r)
    | _ => none)
  | 76 => some noCon
  | _ => none, fun f r => match f with | 76 => (match r with | 3 => some [0, 3, 4] | _ => none) | _ => none⟩
noncomputable def laws_toCoreS (k : Nat) (a1 : List (Int × Int × (List Int) × Unit)) : Option (List (Int × Int × (List Int) × Unit)) :=
  abody (E_laws_toCoreS k) (arun Try.prog (E_laws_toCoreS k) k) k 76 Try.f76 [.tv (.row (.pair (.int .i64) (.pair (.int .i64) (.pair (.row (.int .i64)) .unit)))) a1] [] (fin1 (.row (.pair (.int .i64) (.pair (.int .i64) (.pair (.row (.int .i64)) .unit)))))
noncomputable def laws_toCoreS.l3 (k n : Nat) (x0 : List (Int × Int × (List Int) × Unit)) (x4 : Int) (y0 : List (Int × Int × (List Int) × Unit)) : Option (List (Int × Int × (List Int) × Unit)) :=
  resume (E_laws_toCoreS k) 76 (acall (E_laws_toCoreS k) (arun Try.prog (E_laws_toCoreS k) k)) k [true, true, false, true, true] [n] (bodyOf Try.f76) ⟨[.tv (.row (.pair (.int .i64) (.pair (.int .i64) (.pair (.row (.int .i64)) .unit)))) x0, .undef, .undef, .sl 0, .int .i64 x4, .undef, .undef, .undef, .undef, .undef, .undef, .undef, .undef, .undef, .undef, .undef, .undef, .undef, .undef, .undef, .undef, .undef, .undef], [some ⟨.typed (.pair (.int .i64) (.pair (.int .i64) (.pair (.row (.int .i64)) .unit))) y0, false⟩]⟩ (leave (E_laws_toCoreS k) Try.f76 (fin1 (.row (.pair (.int .i64) (.pair (.int .i64) (.pair (.row (.int .i64)) .unit))))))
theorem laws_toCoreS.l3_0 (k : Nat) (x0 : List (Int × Int × (List Int) × Unit)) (x4 : Int) (y0 : List (Int × Int × (List Int) × Unit)) : laws_toCoreS.l3 k 0 x0 x4 y0 = none := by kernel_rfl
theorem laws_toCoreS.l3_s (k n : Nat) (x0 : List (Int × Int × (List Int) × Unit)) (x4 : Int) (y0 : List (Int × Int × (List Int) × Unit)) : laws_toCoreS.l3 k (n + 1) x0 x4 y0 =
  iteB (decide (x4 < ((List.length x0) : Int))) (iteB (decide (0 ≤ x4)) (iteB (decide (x4 < ((List.length x0) : Int))) (bindO (laws_toCore k (List.getD x0 (Int.toNat x4) (Ty.dflt (.pair (.int .i64) (.pair (.int .i64) (.pair (.row (.int .i64)) .unit)))))) fun r1 => (iteB (decide (0 ≤ x4)) (iteB (decide (x4 < ((List.length y0) : Int))) (laws_toCoreS.l3 k n x0 (IntKind.wrap .i64 (x4 + 1)) (List.set y0 (Int.toNat x4) r1)) (none)) (none))) (none)) (none)) (some y0) := by kernel_rfl
theorem laws_toCoreS_e (k : Nat) (a1 : List (Int × Int × (List Int) × Unit)) : laws_toCoreS k a1 =
  iteB (decide (0 ≤ ((List.length a1) : Int))) (iteB (decide (((List.length a1) : Int) ≤ ((List.length a1) : Int))) (iteB (decide (((List.length a1) : Int) * 40 ≤ (lim : Int))) (iteB (decide (((List.length a1) : Int) ≤ (lim : Int)) && true) (laws_toCoreS.l3 k k a1 0 (List.replicate (Int.toNat ((List.length a1) : Int)) (Ty.dflt (.pair (.int .i64) (.pair (.int .i64) (.pair (.row (.int .i64)) .unit)))))) (none)) (none)) (none)) (none) := by kernel_rfl
theorem E_laws_toCoreS_calls (k : Nat) : CallsOk Try.prog (E_laws_toCoreS k) (arun Try.prog (E_laws_toCoreS k) k) := by
  refine told_run (tyTOk _ _) ?_ (fun run h => regOk (tyTOk _ _) mixOk h) ?_ nameOk k
  · intro g m hg
    simp only [E_laws_toCoreS] at hg
    split at hg
    · cases hg
      refine con_byVal fun ρ l K x hm => ?_
      split at hm
      · obtain ⟨c1, h1, hm⟩ := Option.bind_eq_some_iff.1 hm
        obtain ⟨r, hr, hm⟩ := Option.bind_eq_some_iff.1 hm
        exact ⟨_, hm, LawV.reads (.cons (.as h1) .nil) (laws_toCore_law k c1 r hr)⟩
      · cases hm
    · cases hg; exact noCon_ok
    · cases hg
  · intro g hg r
    by_cases h : g = 76
    · subst h; simp [E_laws_toCoreS] at hg
    · simp [E_laws_toCoreS, h]
theorem f76_oklaws_toCoreS : Try.prog.funcs[76]? = some Try.f76 := by kernel_rfl
theorem laws_toCoreS_law (k : Nat) (a1 : List (Int × Int × (List Int) × Unit)) (x : List (Int × Int × (List Int) × Unit)) (h : laws_toCoreS k a1 = some x) : LawV Try.prog 76 [.tv (.row (.pair (.int .i64) (.pair (.int .i64) (.pair (.row (.int .i64)) .unit)))) a1] (tvn (.row (.pair (.int .i64) (.pair (.int .i64) (.pair (.row (.int .i64)) .unit)))) x) := by
  unfold laws_toCoreS at h
  exact law1 (t := (.row (.pair (.int .i64) (.pair (.int .i64) (.pair (.row (.int .i64)) .unit))))) (tyTOk _ _) (E_laws_toCoreS_calls k) mixOk f76_oklaws_toCoreS (nameOk _ _ f76_oklaws_toCoreS) (by kernel_rfl) h
/-! laws.toNote -/
noncomputable def E_laws_toNote (k : Nat) : Env := ⟨ty, fun _ => none, fun _ _ => none⟩
noncomputable def laws_toNote (k : Nat) (a1 : Int × Int × Unit) : Option (Int × Int × Unit) :=
  abody (E_laws_toNote k) (arun Try.prog (E_laws_toNote k) k) k 145 Try.f145 [.tv (.pair (.int .i64) (.pair (.int .i64) .unit)) a1] [] (fin1 (.pair (.int .i64) (.pair (.int .i64) .unit)))
theorem laws_toNote_e (k : Nat) (a1 : Int × Int × Unit) : laws_toNote k a1 =
  some (a1.1, a1.2.1, ()) := by kernel_rfl
theorem E_laws_toNote_calls (k : Nat) : CallsOk Try.prog (E_laws_toNote k) (arun Try.prog (E_laws_toNote k) k) := by
  refine told_run (tyTOk _ _) ?_ (fun run h => regOk (tyTOk _ _) mixOk h) ?_ nameOk k
  · intro g m hg
    cases hg
  · intro g _ r; rfl
theorem f145_oklaws_toNote : Try.prog.funcs[145]? = some Try.f145 := by kernel_rfl
theorem laws_toNote_law (k : Nat) (a1 : Int × Int × Unit) (x : Int × Int × Unit) (h : laws_toNote k a1 = some x) : LawV Try.prog 145 [.tv (.pair (.int .i64) (.pair (.int .i64) .unit)) a1] (tvn (.pair (.int .i64) (.pair (.int .i64) .unit)) x) := by
  unfold laws_toNote at h
  exact law1 (t := (.pair (.int .i64) (.pair (.int .i64) .unit))) (tyTOk _ _) (E_laws_toNote_calls k) mixOk f145_oklaws_toNote (nameOk _ _ f145_oklaws_toNote) (by kernel_rfl) h
/-! laws.toNoteS -/
noncomputable def E_laws_toNoteS (k : Nat) : Env := ⟨ty, fun g => match g with
  | 145 => some (byVal fun ρ l K => match l with
    | [b1] => (b1.as (.pair (.int .i64) (.pair (.int .i64) .unit))).bind fun c1 => (laws_toNote k c1).bind fun r => K (tvn (.pair (.int .i64) (.pair (.int .i64) .unit)) r)
    | _ => none)
  | 77 => some noCon
  | _ => none, fun f r => match f with | 77 => (match r with | 3 => some [0, 3, 4] | _ => none) | _ => none⟩
noncomputable def laws_toNoteS (k : Nat) (a1 : List (Int × Int × Unit)) : Option (List (Int × Int × Unit)) :=
  abody (E_laws_toNoteS k) (arun Try.prog (E_laws_toNoteS k) k) k 77 Try.f77 [.tv (.row (.pair (.int .i64) (.pair (.int .i64) .unit))) a1] [] (fin1 (.row (.pair (.int .i64) (.pair (.int .i64) .unit))))
noncomputable def laws_toNoteS.l3 (k n : Nat) (x0 : List (Int × Int × Unit)) (x4 : Int) (y0 : List (Int × Int × Unit)) : Option (List (Int × Int × Unit)) :=
  resume (E_laws_toNoteS k) 77 (acall (E_laws_toNoteS k) (arun Try.prog (E_laws_toNoteS k) k)) k [true, true, false, true, true] [n] (bodyOf Try.f77) ⟨[.tv (.row (.pair (.int .i64) (.pair (.int .i64) .unit))) x0, .undef, .undef, .sl 0, .int .i64 x4, .undef, .undef, .undef, .undef, .undef, .undef, .undef, .undef, .undef, .undef, .undef, .undef, .undef, .undef, .undef, .undef, .undef, .undef], [some ⟨.typed (.pair (.int .i64) (.pair (.int .i64) .unit)) y0, false⟩]⟩ (leave (E_laws_toNoteS k) Try.f77 (fin1 (.row (.pair (.int .i64) (.pair (.int .i64) .unit)))))
theorem laws_toNoteS.l3_0 (k : Nat) (x0 : List (Int × Int × Unit)) (x4 : Int) (y0 : List (Int × Int × Unit)) : laws_toNoteS.l3 k 0 x0 x4 y0 = none := by kernel_rfl
theorem laws_toNoteS.l3_s (k n : Nat) (x0 : List (Int × Int × Unit)) (x4 : Int) (y0 : List (Int × Int × Unit)) : laws_toNoteS.l3 k (n + 1) x0 x4 y0 =
  iteB (decide (x4 < ((List.length x0) : Int))) (iteB (decide (0 ≤ x4)) (iteB (decide (x4 < ((List.length x0) : Int))) (bindO (laws_toNote k (List.getD x0 (Int.toNat x4) (Ty.dflt (.pair (.int .i64) (.pair (.int .i64) .unit))))) fun r1 => (iteB (decide (0 ≤ x4)) (iteB (decide (x4 < ((List.length y0) : Int))) (laws_toNoteS.l3 k n x0 (IntKind.wrap .i64 (x4 + 1)) (List.set y0 (Int.toNat x4) r1)) (none)) (none))) (none)) (none)) (some y0) := by kernel_rfl
theorem laws_toNoteS_e (k : Nat) (a1 : List (Int × Int × Unit)) : laws_toNoteS k a1 =
  iteB (decide (0 ≤ ((List.length a1) : Int))) (iteB (decide (((List.length a1) : Int) ≤ ((List.length a1) : Int))) (iteB (decide (((List.length a1) : Int) * 16 ≤ (lim : Int))) (iteB (decide (((List.length a1) : Int) ≤ (lim : Int)) && true) (laws_toNoteS.l3 k k a1 0 (List.replicate (Int.toNat ((List.length a1) : Int)) (Ty.dflt (.pair (.int .i64) (.pair (.int .i64) .unit))))) (none)) (none)) (none)) (none) := by kernel_rfl
theorem E_laws_toNoteS_calls (k : Nat) : CallsOk Try.prog (E_laws_toNoteS k) (arun Try.prog (E_laws_toNoteS k) k) := by
  refine told_run (tyTOk _ _) ?_ (fun run h => regOk (tyTOk _ _) mixOk h) ?_ nameOk k
  · intro g m hg
    simp only [E_laws_toNoteS] at hg
    split at hg
    · cases hg
      refine con_byVal fun ρ l K x hm => ?_
      split at hm
      · obtain ⟨c1, h1, hm⟩ := Option.bind_eq_some_iff.1 hm
        obtain ⟨r, hr, hm⟩ := Option.bind_eq_some_iff.1 hm
        exact ⟨_, hm, LawV.reads (.cons (.as h1) .nil) (laws_toNote_law k c1 r hr)⟩
      · cases hm
    · cases hg; exact noCon_ok
    · cases hg
  · intro g hg r
    by_cases h : g = 77
    · subst h; simp [E_laws_toNoteS] at hg
    · simp [E_laws_toNoteS, h]
theorem f77_oklaws_toNoteS : Try.prog.funcs[77]? = some Try.f77 := by kernel_rfl
theorem laws_toNoteS_law (k : Nat) (a1 : List (Int × Int × Unit)) (x : List (Int × Int × Unit)) (h : laws_toNoteS k a1 = some x) : LawV Try.prog 77 [.tv (.row (.pair (.int .i64) (.pair (.int .i64) .unit))) a1] (tvn (.row (.pair (.int .i64) (.pair (.int .i64) .unit))) x) := by
  unfold laws_toNoteS at h
  exact law1 (t := (.row (.pair (.int .i64) (.pair (.int .i64) .unit)))) (tyTOk _ _) (E_laws_toNoteS_calls k) mixOk f77_oklaws_toNoteS (nameOk _ _ f77_oklaws_toNoteS) (by kernel_rfl) h
end Go.Proofs.Ytapijpjgfpjahaa.XFnExactMachineOk
