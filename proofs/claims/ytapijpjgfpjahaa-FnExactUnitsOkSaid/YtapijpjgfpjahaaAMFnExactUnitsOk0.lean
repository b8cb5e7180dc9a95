/- Functions of the program as runs of the interpreter: equations, and a law for each. -/
import Derived.Test.YtapijpjgfpjahaaProg
import Derived.Test.YtapijpjgfpjahaaChecked
import Derived.KernelRfl
import Derived.Eval
import Derived.Test.YtapijpjgfpjahaaATyOk
import Derived.Test.YtapijpjgfpjahaaAS33
open Go Go.AM Go.AMx Go.Proofs
namespace Go.Proofs.Ytapijpjgfpjahaa.XFnExactUnitsOk
set_option linter.unusedVariables false
set_option linter.unusedSimpArgs false
/-! laws.szIntS -/
noncomputable def E_laws_szIntS (k : Nat) : Env := ⟨ty, fun _ => none, fun _ _ => none⟩
noncomputable def laws_szIntS (k : Nat) (a1 : List Int) (a2 : Int) : Option (Int) :=
  abody (E_laws_szIntS k) (arun Try.prog (E_laws_szIntS k) k) k 66 Try.f66 [.tv (.row (.int .i64)) a1, .int .i64 a2] [] (fin1 (.int .i64))
theorem laws_szIntS_e (k : Nat) (a1 : List Int) (a2 : Int) : laws_szIntS k a1 a2 =
  iteB (decide (IntKind.wrap .i64 (a2 - ((List.length a1) : Int)) < 0)) (some (-1)) (some (IntKind.wrap .i64 (a2 - ((List.length a1) : Int)))) := by kernel_rfl
theorem E_laws_szIntS_calls (k : Nat) : CallsOk Try.prog (E_laws_szIntS k) (arun Try.prog (E_laws_szIntS k) k) := by
  refine told_run (tyTOk _ _) ?_ (fun run h => regOk (tyTOk _ _) mixOk h) ?_ nameOk k
  · intro g m hg
    cases hg
  · intro g _ r; rfl
theorem f66_oklaws_szIntS : Try.prog.funcs[66]? = some Try.f66 := by kernel_rfl
theorem laws_szIntS_law (k : Nat) (a1 : List Int) (a2 : Int) (x : Int) (h : laws_szIntS k a1 a2 = some x) : LawV Try.prog 66 [.tv (.row (.int .i64)) a1, .int .i64 a2] (tvn (.int .i64) x) := by
  unfold laws_szIntS at h
  exact law1 (t := (.int .i64)) (tyTOk _ _) (E_laws_szIntS_calls k) mixOk f66_oklaws_szIntS (nameOk _ _ f66_oklaws_szIntS) (by kernel_rfl) h
/-! laws.szTac -/
noncomputable def E_laws_szTac (k : Nat) : Env := ⟨ty, fun g => match g with
  | 66 => some (byVal fun ρ l K => match l with
    | [b1, b2] => (b1.as (.row (.int .i64))).bind fun c1 => (b2.as (.int .i64)).bind fun c2 => (laws_szIntS k c1 c2).bind fun r => K (tvn (.int .i64) r)
    | _ => none)
  | _ => none, fun _ _ => none⟩
noncomputable def laws_szTac (k : Nat) (a1 : Int × Int × Int × Int × Int × ByteArray × (List Int) × Unit) (a2 : Int) : Option (Int) :=
  abody (E_laws_szTac k) (arun Try.prog (E_laws_szTac k) k) k 155 Try.f155 [.tv (.pair (.int .i64) (.pair (.int .i64) (.pair (.int .i64) (.pair (.int .i64) (.pair (.int .i64) (.pair .str (.pair (.row (.int .i64)) .unit))))))) a1, .int .i64 a2] [] (fin1 (.int .i64))
theorem laws_szTac_e (k : Nat) (a1 : Int × Int × Int × Int × Int × ByteArray × (List Int) × Unit) (a2 : Int) : laws_szTac k a1 a2 =
  iteB (decide (IntKind.wrap .i64 (a2 - (ByteArray.size a1.2.2.2.2.2.1 : Int)) < 0)) (some (-1)) (bindO (laws_szIntS k a1.2.2.2.2.2.2.1 (IntKind.wrap .i64 (a2 - (ByteArray.size a1.2.2.2.2.2.1 : Int)))) fun r1 => (iteB (decide (r1 < 0)) (some (-1)) (some r1))) := by kernel_rfl
theorem E_laws_szTac_calls (k : Nat) : CallsOk Try.prog (E_laws_szTac k) (arun Try.prog (E_laws_szTac k) k) := by
  refine told_run (tyTOk _ _) ?_ (fun run h => regOk (tyTOk _ _) mixOk h) ?_ nameOk k
  · intro g m hg
    simp only [E_laws_szTac] at hg
    split at hg
    · cases hg
      refine con_byVal fun ρ l K x hm => ?_
      split at hm
      · obtain ⟨c1, h1, hm⟩ := Option.bind_eq_some_iff.1 hm
        obtain ⟨c2, h2, hm⟩ := Option.bind_eq_some_iff.1 hm
        obtain ⟨r, hr, hm⟩ := Option.bind_eq_some_iff.1 hm
        exact ⟨_, hm, LawV.reads (.cons (.as h1) (.cons (.as h2) .nil)) (laws_szIntS_law k c1 c2 r hr)⟩
      · cases hm
    · cases hg
  · intro g _ r; rfl
theorem f155_oklaws_szTac : Try.prog.funcs[155]? = some Try.f155 := by kernel_rfl
theorem laws_szTac_law (k : Nat) (a1 : Int × Int × Int × Int × Int × ByteArray × (List Int) × Unit) (a2 : Int) (x : Int) (h : laws_szTac k a1 a2 = some x) : LawV Try.prog 155 [.tv (.pair (.int .i64) (.pair (.int .i64) (.pair (.int .i64) (.pair (.int .i64) (.pair (.int .i64) (.pair .str (.pair (.row (.int .i64)) .unit))))))) a1, .int .i64 a2] (tvn (.int .i64) x) := by
  unfold laws_szTac at h
  exact law1 (t := (.int .i64)) (tyTOk _ _) (E_laws_szTac_calls k) mixOk f155_oklaws_szTac (nameOk _ _ f155_oklaws_szTac) (by kernel_rfl) h
/-! laws.szTacS -/
noncomputable def E_laws_szTacS (k : Nat) : Env := ⟨ty, fun g => match g with
  | 155 => some (byVal fun ρ l K => match l with
    | [b1, b2] => (b1.as (.pair (.int .i64) (.pair (.int .i64) (.pair (.int .i64) (.pair (.int .i64) (.pair (.int .i64) (.pair .str (.pair (.row (.int .i64)) .unit)))))))).bind fun c1 => (b2.as (.int .i64)).bind fun c2 => (laws_szTac k c1 c2).bind fun r => K (tvn (.int .i64) r)
    | _ => none)
  | 92 => some noCon
  | _ => none, fun f r => match f with | 92 => (match r with | 5 => some [0, 1, 5] | _ => none) | _ => none⟩
noncomputable def laws_szTacS (k : Nat) (a1 : List (Int × Int × Int × Int × Int × ByteArray × (List Int) × Unit)) (a2 : Int) : Option (Int) :=
  abody (E_laws_szTacS k) (arun Try.prog (E_laws_szTacS k) k) k 92 Try.f92 [.tv (.row (.pair (.int .i64) (.pair (.int .i64) (.pair (.int .i64) (.pair (.int .i64) (.pair (.int .i64) (.pair .str (.pair (.row (.int .i64)) .unit)))))))) a1, .int .i64 a2] [] (fin1 (.int .i64))
noncomputable def laws_szTacS.l5 (k n : Nat) (x0 : List (Int × Int × Int × Int × Int × ByteArray × (List Int) × Unit)) (x1 : Int) (x5 : Int) : Option (Int) :=
  resume (E_laws_szTacS k) 92 (acall (E_laws_szTacS k) (arun Try.prog (E_laws_szTacS k) k)) k [true, true, true, false, true, true] [n] (bodyOf Try.f92) ⟨[.tv (.row (.pair (.int .i64) (.pair (.int .i64) (.pair (.int .i64) (.pair (.int .i64) (.pair (.int .i64) (.pair .str (.pair (.row (.int .i64)) .unit)))))))) x0, .int .i64 x1, .undef, .undef, .undef, .int .i64 x5, .undef, .undef, .undef, .undef, .undef, .undef, .undef, .undef, .undef, .undef, .undef, .undef, .undef, .undef, .undef, .undef, .undef, .undef, .undef, .undef, .undef], []⟩ (leave (E_laws_szTacS k) Try.f92 (fin1 (.int .i64)))
theorem laws_szTacS.l5_0 (k : Nat) (x0 : List (Int × Int × Int × Int × Int × ByteArray × (List Int) × Unit)) (x1 : Int) (x5 : Int) : laws_szTacS.l5 k 0 x0 x1 x5 = none := by kernel_rfl
theorem laws_szTacS.l5_s (k n : Nat) (x0 : List (Int × Int × Int × Int × Int × ByteArray × (List Int) × Unit)) (x1 : Int) (x5 : Int) : laws_szTacS.l5 k (n + 1) x0 x1 x5 =
  iteB (decide (x5 < ((List.length x0) : Int))) (iteB (decide (0 ≤ x5)) (iteB (decide (x5 < ((List.length x0) : Int))) (bindO (laws_szTac k (List.getD x0 (Int.toNat x5) (Ty.dflt (.pair (.int .i64) (.pair (.int .i64) (.pair (.int .i64) (.pair (.int .i64) (.pair (.int .i64) (.pair .str (.pair (.row (.int .i64)) .unit))))))))) x1) fun r1 => (iteB (decide (r1 < 0)) (some (-1)) (laws_szTacS.l5 k n x0 r1 (IntKind.wrap .i64 (x5 + 1))))) (none)) (none)) (some x1) := by kernel_rfl
theorem laws_szTacS_e (k : Nat) (a1 : List (Int × Int × Int × Int × Int × ByteArray × (List Int) × Unit)) (a2 : Int) : laws_szTacS k a1 a2 =
  iteB (decide (IntKind.wrap .i64 (a2 - ((List.length a1) : Int)) < 0)) (some (-1)) (laws_szTacS.l5 k k a1 (IntKind.wrap .i64 (a2 - ((List.length a1) : Int))) 0) := by kernel_rfl
theorem E_laws_szTacS_calls (k : Nat) : CallsOk Try.prog (E_laws_szTacS k) (arun Try.prog (E_laws_szTacS k) k) := by
  refine told_run (tyTOk _ _) ?_ (fun run h => regOk (tyTOk _ _) mixOk h) ?_ nameOk k
  · intro g m hg
    simp only [E_laws_szTacS] at hg
    split at hg
    · cases hg
      refine con_byVal fun ρ l K x hm => ?_
      split at hm
      · obtain ⟨c1, h1, hm⟩ := Option.bind_eq_some_iff.1 hm
        obtain ⟨c2, h2, hm⟩ := Option.bind_eq_some_iff.1 hm
        obtain ⟨r, hr, hm⟩ := Option.bind_eq_some_iff.1 hm
        exact ⟨_, hm, LawV.reads (.cons (.as h1) (.cons (.as h2) .nil)) (laws_szTac_law k c1 c2 r hr)⟩
      · cases hm
    · cases hg; exact noCon_ok
    · cases hg
  · intro g hg r
    by_cases h : g = 92
    · subst h; simp [E_laws_szTacS] at hg
    · simp [E_laws_szTacS, h]
theorem f92_oklaws_szTacS : Try.prog.funcs[92]? = some Try.f92 := by kernel_rfl
theorem laws_szTacS_law (k : Nat) (a1 : List (Int × Int × Int × Int × Int × ByteArray × (List Int) × Unit)) (a2 : Int) (x : Int) (h : laws_szTacS k a1 a2 = some x) : LawV Try.prog 92 [.tv (.row (.pair (.int .i64) (.pair (.int .i64) (.pair (.int .i64) (.pair (.int .i64) (.pair (.int .i64) (.pair .str (.pair (.row (.int .i64)) .unit)))))))) a1, .int .i64 a2] (tvn (.int .i64) x) := by
  unfold laws_szTacS at h
  exact law1 (t := (.int .i64)) (tyTOk _ _) (E_laws_szTacS_calls k) mixOk f92_oklaws_szTacS (nameOk _ _ f92_oklaws_szTacS) (by kernel_rfl) h
/-! laws.szUnit -/
noncomputable def E_laws_szUnit (k : Nat) : Env := ⟨ty, fun g => match g with
  | 92 => some (byVal fun ρ l K => match l with
    | [b1, b2] => (b1.as (.row (.pair (.int .i64) (.pair (.int .i64) (.pair (.int .i64) (.pair (.int .i64) (.pair (.int .i64) (.pair .str (.pair (.row (.int .i64)) .unit))))))))).bind fun c1 => (b2.as (.int .i64)).bind fun c2 => (laws_szTacS k c1 c2).bind fun r => K (tvn (.int .i64) r)
    | _ => none)
  | _ => none, fun _ _ => none⟩
noncomputable def laws_szUnit (k : Nat) (a1 : ByteArray × Int × Int × (List (Int × Int × Int × Int × Int × ByteArray × (List Int) × Unit)) × Unit) (a2 : Int) : Option (Int) :=
  abody (E_laws_szUnit k) (arun Try.prog (E_laws_szUnit k) k) k 17 Try.f17 [.tv (.pair .str (.pair (.int .i64) (.pair (.int .i64) (.pair (.row (.pair (.int .i64) (.pair (.int .i64) (.pair (.int .i64) (.pair (.int .i64) (.pair (.int .i64) (.pair .str (.pair (.row (.int .i64)) .unit)))))))) .unit)))) a1, .int .i64 a2] [] (fin1 (.int .i64))
theorem laws_szUnit_e (k : Nat) (a1 : ByteArray × Int × Int × (List (Int × Int × Int × Int × Int × ByteArray × (List Int) × Unit)) × Unit) (a2 : Int) : laws_szUnit k a1 a2 =
  iteB (decide (IntKind.wrap .i64 (a2 - (ByteArray.size a1.1 : Int)) < 0)) (some (-1)) (bindO (laws_szTacS k a1.2.2.2.1 (IntKind.wrap .i64 (a2 - (ByteArray.size a1.1 : Int)))) fun r1 => (iteB (decide (r1 < 0)) (some (-1)) (some r1))) := by kernel_rfl
theorem E_laws_szUnit_calls (k : Nat) : CallsOk Try.prog (E_laws_szUnit k) (arun Try.prog (E_laws_szUnit k) k) := by
  refine told_run (tyTOk _ _) ?_ (fun run h => regOk (tyTOk _ _) mixOk h) ?_ nameOk k
  · intro g m hg
    simp only [E_laws_szUnit] at hg
    split at hg
    · cases hg
      refine con_byVal fun ρ l K x hm => ?_
      split at hm
      · obtain ⟨c1, h1, hm⟩ := Option.bind_eq_some_iff.1 hm
        obtain ⟨c2, h2, hm⟩ := Option.bind_eq_some_iff.1 hm
        obtain ⟨r, hr, hm⟩ := Option.bind_eq_some_iff.1 hm
        exact ⟨_, hm, LawV.reads (.cons (.as h1) (.cons (.as h2) .nil)) (laws_szTacS_law k c1 c2 r hr)⟩
      · cases hm
    · cases hg
  · intro g _ r; rfl
theorem f17_oklaws_szUnit : Try.prog.funcs[17]? = some Try.f17 := by kernel_rfl
theorem laws_szUnit_law (k : Nat) (a1 : ByteArray × Int × Int × (List (Int × Int × Int × Int × Int × ByteArray × (List Int) × Unit)) × Unit) (a2 : Int) (x : Int) (h : laws_szUnit k a1 a2 = some x) : LawV Try.prog 17 [.tv (.pair .str (.pair (.int .i64) (.pair (.int .i64) (.pair (.row (.pair (.int .i64) (.pair (.int .i64) (.pair (.int .i64) (.pair (.int .i64) (.pair (.int .i64) (.pair .str (.pair (.row (.int .i64)) .unit)))))))) .unit)))) a1, .int .i64 a2] (tvn (.int .i64) x) := by
  unfold laws_szUnit at h
  exact law1 (t := (.int .i64)) (tyTOk _ _) (E_laws_szUnit_calls k) mixOk f17_oklaws_szUnit (nameOk _ _ f17_oklaws_szUnit) (by kernel_rfl) h
/-! laws.szUnitS -/
noncomputable def E_laws_szUnitS (k : Nat) : Env := ⟨ty, fun g => match g with
  | 17 => some (byVal fun ρ l K => match l with
    | [b1, b2] => (b1.as (.pair .str (.pair (.int .i64) (.pair (.int .i64) (.pair (.row (.pair (.int .i64) (.pair (.int .i64) (.pair (.int .i64) (.pair (.int .i64) (.pair (.int .i64) (.pair .str (.pair (.row (.int .i64)) .unit)))))))) .unit))))).bind fun c1 => (b2.as (.int .i64)).bind fun c2 => (laws_szUnit k c1 c2).bind fun r => K (tvn (.int .i64) r)
    | _ => none)
  | 22 => some noCon
  | _ => none, fun f r => match f with | 22 => (match r with | 5 => some [0, 1, 5] | _ => none) | _ => none⟩
noncomputable def laws_szUnitS (k : Nat) (a1 : List (ByteArray × Int × Int × (List (Int × Int × Int × Int × Int × ByteArray × (List Int) × Unit)) × Unit)) (a2 : Int) : Option (Int) :=
  abody (E_laws_szUnitS k) (arun Try.prog (E_laws_szUnitS k) k) k 22 Try.f22 [.tv (.row (.pair .str (.pair (.int .i64) (.pair (.int .i64) (.pair (.row (.pair (.int .i64) (.pair (.int .i64) (.pair (.int .i64) (.pair (.int .i64) (.pair (.int .i64) (.pair .str (.pair (.row (.int .i64)) .unit)))))))) .unit))))) a1, .int .i64 a2] [] (fin1 (.int .i64))
noncomputable def laws_szUnitS.l5 (k n : Nat) (x0 : List (ByteArray × Int × Int × (List (Int × Int × Int × Int × Int × ByteArray × (List Int) × Unit)) × Unit)) (x1 : Int) (x5 : Int) : Option (Int) :=
  resume (E_laws_szUnitS k) 22 (acall (E_laws_szUnitS k) (arun Try.prog (E_laws_szUnitS k) k)) k [true, true, true, false, true, true] [n] (bodyOf Try.f22) ⟨[.tv (.row (.pair .str (.pair (.int .i64) (.pair (.int .i64) (.pair (.row (.pair (.int .i64) (.pair (.int .i64) (.pair (.int .i64) (.pair (.int .i64) (.pair (.int .i64) (.pair .str (.pair (.row (.int .i64)) .unit)))))))) .unit))))) x0, .int .i64 x1, .undef, .undef, .undef, .int .i64 x5, .undef, .undef, .undef, .undef, .undef, .undef, .undef, .undef, .undef, .undef, .undef, .undef, .undef, .undef, .undef, .undef, .undef, .undef, .undef, .undef, .undef], []⟩ (leave (E_laws_szUnitS k) Try.f22 (fin1 (.int .i64)))
theorem laws_szUnitS.l5_0 (k : Nat) (x0 : List (ByteArray × Int × Int × (List (Int × Int × Int × Int × Int × ByteArray × (List Int) × Unit)) × Unit)) (x1 : Int) (x5 : Int) : laws_szUnitS.l5 k 0 x0 x1 x5 = none := by kernel_rfl
theorem laws_szUnitS.l5_s (k n : Nat) (x0 : List (ByteArray × Int × Int × (List (Int × Int × Int × Int × Int × ByteArray × (List Int) × Unit)) × Unit)) (x1 : Int) (x5 : Int) : laws_szUnitS.l5 k (n + 1) x0 x1 x5 =
  iteB (decide (x5 < ((List.length x0) : Int))) (iteB (decide (0 ≤ x5)) (iteB (decide (x5 < ((List.length x0) : Int))) (bindO (laws_szUnit k (List.getD x0 (Int.toNat x5) (Ty.dflt (.pair .str (.pair (.int .i64) (.pair (.int .i64) (.pair (.row (.pair (.int .i64) (.pair (.int .i64) (.pair (.int .i64) (.pair (.int .i64) (.pair (.int .i64) (.pair .str (.pair (.row (.int .i64)) .unit)))))))) .unit)))))) x1) fun r1 => (iteB (decide (r1 < 0)) (some (-1)) (laws_szUnitS.l5 k n x0 r1 (IntKind.wrap .i64 (x5 + 1))))) (none)) (none)) (some x1) := by kernel_rfl
theorem laws_szUnitS_e (k : Nat) (a1 : List (ByteArray × Int × Int × (List (Int × Int × Int × Int × Int × ByteArray × (List Int) × Unit)) × Unit)) (a2 : Int) : laws_szUnitS k a1 a2 =
  iteB (decide (IntKind.wrap .i64 (a2 - ((List.length a1) : Int)) < 0)) (some (-1)) (laws_szUnitS.l5 k k a1 (IntKind.wrap .i64 (a2 - ((List.length a1) : Int))) 0) := by kernel_rfl
theorem E_laws_szUnitS_calls (k : Nat) : CallsOk Try.prog (E_laws_szUnitS k) (arun Try.prog (E_laws_szUnitS k) k) := by
  refine told_run (tyTOk _ _) ?_ (fun run h => regOk (tyTOk _ _) mixOk h) ?_ nameOk k
  · intro g m hg
    simp only [E_laws_szUnitS] at hg
    split at hg
    · cases hg
      refine con_byVal fun ρ l K x hm => ?_
      split at hm
      · obtain ⟨c1, h1, hm⟩ := Option.bind_eq_some_iff.1 hm
        obtain ⟨c2, h2, hm⟩ := Option.bind_eq_some_iff.1 hm
        obtain ⟨r, hr, hm⟩ := Option.bind_eq_some_iff.1 hm
        exact ⟨_, hm, LawV.reads (.cons (.as h1) (.cons (.as h2) .nil)) (laws_szUnit_law k c1 c2 r hr)⟩
      · cases hm
    · cases hg; exact noCon_ok
    · cases hg
  · intro g hg r
    by_cases h : g = 22
    · subst h; simp [E_laws_szUnitS] at hg
    · simp [E_laws_szUnitS, h]
theorem f22_oklaws_szUnitS : Try.prog.funcs[22]? = some Try.f22 := by kernel_rfl
theorem laws_szUnitS_law (k : Nat) (a1 : List (ByteArray × Int × Int × (List (Int × Int × Int × Int × Int × ByteArray × (List Int) × Unit)) × Unit)) (a2 : Int) (x : Int) (h : laws_szUnitS k a1 a2 = some x) : LawV Try.prog 22 [.tv (.row (.pair .str (.pair (.int .i64) (.pair (.int .i64) (.pair (.row (.pair (.int .i64) (.pair (.int .i64) (.pair (.int .i64) (.pair (.int .i64) (.pair (.int .i64) (.pair .str (.pair (.row (.int .i64)) .unit)))))))) .unit))))) a1, .int .i64 a2] (tvn (.int .i64) x) := by
  unfold laws_szUnitS at h
  exact law1 (t := (.int .i64)) (tyTOk _ _) (E_laws_szUnitS_calls k) mixOk f22_oklaws_szUnitS (nameOk _ _ f22_oklaws_szUnitS) (by kernel_rfl) h
/-! laws.toIntS -/
noncomputable def E_laws_toIntS (k : Nat) : Env := ⟨ty, fun g => match g with
  | 75 => some noCon
  | _ => none, fun f r => match f with | 75 => (match r with | 3 => some [0, 3, 4] | _ => none) | _ => none⟩
noncomputable def laws_toIntS (k : Nat) (a1 : List Int) : Option (List Int) :=
  abody (E_laws_toIntS k) (arun Try.prog (E_laws_toIntS k) k) k 75 Try.f75 [.tv (.row (.int .i64)) a1] [] (fin1 (.row (.int .i64)))
noncomputable def laws_toIntS.l3 (k n : Nat) (x0 : List Int) (x4 : Int) (y0 : List Int) : Option (List Int) :=
  resume (E_laws_toIntS k) 75 (acall (E_laws_toIntS k) (arun Try.prog (E_laws_toIntS k) k)) k [true, true, false, true, true] [n] (bodyOf Try.f75) ⟨[.tv (.row (.int .i64)) x0, .undef, .undef, .sl 0, .int .i64 x4, .undef, .undef, .undef, .undef, .undef, .undef, .undef, .undef, .undef, .undef, .undef, .undef, .undef, .undef, .undef, .undef, .undef], [some ⟨.typed (.int .i64) y0, false⟩]⟩ (leave (E_laws_toIntS k) Try.f75 (fin1 (.row (.int .i64))))
theorem laws_toIntS.l3_0 (k : Nat) (x0 : List Int) (x4 : Int) (y0 : List Int) : laws_toIntS.l3 k 0 x0 x4 y0 = none := by kernel_rfl
theorem laws_toIntS.l3_s (k n : Nat) (x0 : List Int) (x4 : Int) (y0 : List Int) : laws_toIntS.l3 k (n + 1) x0 x4 y0 =
  iteB (decide (x4 < ((List.length x0) : Int))) (iteB (decide (0 ≤ x4)) (iteB (decide (x4 < ((List.length x0) : Int))) (iteB (decide (0 ≤ x4)) (iteB (decide (x4 < ((List.length y0) : Int))) (laws_toIntS.l3 k n x0 (IntKind.wrap .i64 (x4 + 1)) (List.set y0 (Int.toNat x4) (List.getD x0 (Int.toNat x4) 0))) (none)) (none)) (none)) (none)) (some y0) := by kernel_rfl
theorem laws_toIntS_e (k : Nat) (a1 : List Int) : laws_toIntS k a1 =
  iteB (decide (0 ≤ ((List.length a1) : Int))) (iteB (decide (((List.length a1) : Int) ≤ ((List.length a1) : Int))) (iteB (decide (((List.length a1) : Int) * 8 ≤ (lim : Int))) (iteB (decide (((List.length a1) : Int) ≤ (lim : Int)) && true) (laws_toIntS.l3 k k a1 0 (List.replicate (Int.toNat ((List.length a1) : Int)) 0)) (none)) (none)) (none)) (none) := by kernel_rfl
theorem E_laws_toIntS_calls (k : Nat) : CallsOk Try.prog (E_laws_toIntS k) (arun Try.prog (E_laws_toIntS k) k) := by
  refine told_run (tyTOk _ _) ?_ (fun run h => regOk (tyTOk _ _) mixOk h) ?_ nameOk k
  · intro g m hg
    simp only [E_laws_toIntS] at hg
    split at hg
    · cases hg; exact noCon_ok
    · cases hg
  · intro g hg r
    by_cases h : g = 75
    · subst h; simp [E_laws_toIntS] at hg
    · simp [E_laws_toIntS, h]
theorem f75_oklaws_toIntS : Try.prog.funcs[75]? = some Try.f75 := by kernel_rfl
theorem laws_toIntS_law (k : Nat) (a1 : List Int) (x : List Int) (h : laws_toIntS k a1 = some x) : LawV Try.prog 75 [.tv (.row (.int .i64)) a1] (tvn (.row (.int .i64)) x) := by
  unfold laws_toIntS at h
  exact law1 (t := (.row (.int .i64))) (tyTOk _ _) (E_laws_toIntS_calls k) mixOk f75_oklaws_toIntS (nameOk _ _ f75_oklaws_toIntS) (by kernel_rfl) h
/-! laws.toTac -/
noncomputable def E_laws_toTac (k : Nat) : Env := ⟨ty, fun g => match g with
  | 75 => some (byVal fun ρ l K => match l with
    | [b1] => (b1.as (.row (.int .i64))).bind fun c1 => (laws_toIntS k c1).bind fun r => K (tvn (.row (.int .i64)) r)
    | _ => none)
  | _ => none, fun _ _ => none⟩
noncomputable def laws_toTac (k : Nat) (a1 : Int × Int × Int × Int × Int × ByteArray × (List Int) × Unit) : Option (Int × Int × Int × Int × Int × ByteArray × (List Int) × Unit) :=
  abody (E_laws_toTac k) (arun Try.prog (E_laws_toTac k) k) k 159 Try.f159 [.tv (.pair (.int .i64) (.pair (.int .i64) (.pair (.int .i64) (.pair (.int .i64) (.pair (.int .i64) (.pair .str (.pair (.row (.int .i64)) .unit))))))) a1] [] (fin1 (.pair (.int .i64) (.pair (.int .i64) (.pair (.int .i64) (.pair (.int .i64) (.pair (.int .i64) (.pair .str (.pair (.row (.int .i64)) .unit))))))))
theorem laws_toTac_e (k : Nat) (a1 : Int × Int × Int × Int × Int × ByteArray × (List Int) × Unit) : laws_toTac k a1 =
  bindO (laws_toIntS k a1.2.2.2.2.2.2.1) fun r1 => (some (a1.1, a1.2.1, a1.2.2.1, a1.2.2.2.1, a1.2.2.2.2.1, a1.2.2.2.2.2.1, r1, ())) := by kernel_rfl
theorem E_laws_toTac_calls (k : Nat) : CallsOk Try.prog (E_laws_toTac k) (arun Try.prog (E_laws_toTac k) k) := by
  refine told_run (tyTOk _ _) ?_ (fun run h => regOk (tyTOk _ _) mixOk h) ?_ nameOk k
  · intro g m hg
    simp only [E_laws_toTac] at hg
    split at hg
    · cases hg
      refine con_byVal fun ρ l K x hm => ?_
      split at hm
      · obtain ⟨c1, h1, hm⟩ := Option.bind_eq_some_iff.1 hm
        obtain ⟨r, hr, hm⟩ := Option.bind_eq_some_iff.1 hm
        exact ⟨_, hm, LawV.reads (.cons (.as h1) .nil) (laws_toIntS_law k c1 r hr)⟩
      · cases hm
    · cases hg
  · intro g _ r; rfl
theorem f159_oklaws_toTac : Try.prog.funcs[159]? = some Try.f159 := by kernel_rfl
theorem laws_toTac_law (k : Nat) (a1 : Int × Int × Int × Int × Int × ByteArray × (List Int) × Unit) (x : Int × Int × Int × Int × Int × ByteArray × (List Int) × Unit) (h : laws_toTac k a1 = some x) : LawV Try.prog 159 [.tv (.pair (.int .i64) (.pair (.int .i64) (.pair (.int .i64) (.pair (.int .i64) (.pair (.int .i64) (.pair .str (.pair (.row (.int .i64)) .unit))))))) a1] (tvn (.pair (.int .i64) (.pair (.int .i64) (.pair (.int .i64) (.pair (.int .i64) (.pair (.int .i64) (.pair .str (.pair (.row (.int .i64)) .unit))))))) x) := by
  unfold laws_toTac at h
  exact law1 (t := (.pair (.int .i64) (.pair (.int .i64) (.pair (.int .i64) (.pair (.int .i64) (.pair (.int .i64) (.pair .str (.pair (.row (.int .i64)) .unit)))))))) (tyTOk _ _) (E_laws_toTac_calls k) mixOk f159_oklaws_toTac (nameOk _ _ f159_oklaws_toTac) (by kernel_rfl) h
/-! laws.toTacS -/
noncomputable def E_laws_toTacS (k : Nat) : Env := ⟨ty, fun g => match g with
  | 159 => some (byVal fun ρ l K => match l with
    | [b1] => (b1.as (.pair (.int .i64) (.pair (.int .i64) (.pair (.int .i64) (.pair (.int .i64) (.pair (.int .i64) (.pair .str (.pair (.row (.int .i64)) .unit)))))))).bind fun c1 => (laws_toTac k c1).bind fun r => K (tvn (.pair (.int .i64) (.pair (.int .i64) (.pair (.int .i64) (.pair (.int .i64) (.pair (.int .i64) (.pair .str (.pair (.row (.int .i64)) .unit))))))) r)
    | _ => none)
  | 96 => some noCon
  | _ => none, fun f r => match f with | 96 => (match r with | 3 => some [0, 3, 4] | _ => none) | _ => none⟩
noncomputable def laws_toTacS (k : Nat) (a1 : List (Int × Int × Int × Int × Int × ByteArray × (List Int) × Unit)) : Option (List (Int × Int × Int × Int × Int × ByteArray × (List Int) × Unit)) :=
  abody (E_laws_toTacS k) (arun Try.prog (E_laws_toTacS k) k) k 96 Try.f96 [.tv (.row (.pair (.int .i64) (.pair (.int .i64) (.pair (.int .i64) (.pair (.int .i64) (.pair (.int .i64) (.pair .str (.pair (.row (.int .i64)) .unit)))))))) a1] [] (fin1 (.row (.pair (.int .i64) (.pair (.int .i64) (.pair (.int .i64) (.pair (.int .i64) (.pair (.int .i64) (.pair .str (.pair (.row (.int .i64)) .unit)))))))))
noncomputable def laws_toTacS.l3 (k n : Nat) (x0 : List (Int × Int × Int × Int × Int × ByteArray × (List Int) × Unit)) (x4 : Int) (y0 : List (Int × Int × Int × Int × Int × ByteArray × (List Int) × Unit)) : Option (List (Int × Int × Int × Int × Int × ByteArray × (List Int) × Unit)) :=
  resume (E_laws_toTacS k) 96 (acall (E_laws_toTacS k) (arun Try.prog (E_laws_toTacS k) k)) k [true, true, false, true, true] [n] (bodyOf Try.f96) ⟨[.tv (.row (.pair (.int .i64) (.pair (.int .i64) (.pair (.int .i64) (.pair (.int .i64) (.pair (.int .i64) (.pair .str (.pair (.row (.int .i64)) .unit)))))))) x0, .undef, .undef, .sl 0, .int .i64 x4, .undef, .undef, .undef, .undef, .undef, .undef, .undef, .undef, .undef, .undef, .undef, .undef, .undef, .undef, .undef, .undef, .undef, .undef], [some ⟨.typed (.pair (.int .i64) (.pair (.int .i64) (.pair (.int .i64) (.pair (.int .i64) (.pair (.int .i64) (.pair .str (.pair (.row (.int .i64)) .unit))))))) y0, false⟩]⟩ (leave (E_laws_toTacS k) Try.f96 (fin1 (.row (.pair (.int .i64) (.pair (.int .i64) (.pair (.int .i64) (.pair (.int .i64) (.pair (.int .i64) (.pair .str (.pair (.row (.int .i64)) .unit))))))))))
theorem laws_toTacS.l3_0 (k : Nat) (x0 : List (Int × Int × Int × Int × Int × ByteArray × (List Int) × Unit)) (x4 : Int) (y0 : List (Int × Int × Int × Int × Int × ByteArray × (List Int) × Unit)) : laws_toTacS.l3 k 0 x0 x4 y0 = none := by kernel_rfl
theorem laws_toTacS.l3_s (k n : Nat) (x0 : List (Int × Int × Int × Int × Int × ByteArray × (List Int) × Unit)) (x4 : Int) (y0 : List (Int × Int × Int × Int × Int × ByteArray × (List Int) × Unit)) : laws_toTacS.l3 k (n + 1) x0 x4 y0 =
  iteB (decide (x4 < ((List.length x0) : Int))) (iteB (decide (0 ≤ x4)) (iteB (decide (x4 < ((List.length x0) : Int))) (bindO (laws_toTac k (List.getD x0 (Int.toNat x4) (Ty.dflt (.pair (.int .i64) (.pair (.int .i64) (.pair (.int .i64) (.pair (.int .i64) (.pair (.int .i64) (.pair .str (.pair (.row (.int .i64)) .unit)))))))))) fun r1 => (iteB (decide (0 ≤ x4)) (iteB (decide (x4 < ((List.length y0) : Int))) (laws_toTacS.l3 k n x0 (IntKind.wrap .i64 (x4 + 1)) (List.set y0 (Int.toNat x4) r1)) (none)) (none))) (none)) (none)) (some y0) := by kernel_rfl
theorem laws_toTacS_e (k : Nat) (a1 : List (Int × Int × Int × Int × Int × ByteArray × (List Int) × Unit)) : laws_toTacS k a1 =
  iteB (decide (0 ≤ ((List.length a1) : Int))) (iteB (decide (((List.length a1) : Int) ≤ ((List.length a1) : Int))) (iteB (decide (((List.length a1) : Int) * 80 ≤ (lim : Int))) (iteB (decide (((List.length a1) : Int) ≤ (lim : Int)) && true) (laws_toTacS.l3 k k a1 0 (List.replicate (Int.toNat ((List.length a1) : Int)) (Ty.dflt (.pair (.int .i64) (.pair (.int .i64) (.pair (.int .i64) (.pair (.int .i64) (.pair (.int .i64) (.pair .str (.pair (.row (.int .i64)) .unit)))))))))) (none)) (none)) (none)) (none) := by kernel_rfl
theorem E_laws_toTacS_calls (k : Nat) : CallsOk Try.prog (E_laws_toTacS k) (arun Try.prog (E_laws_toTacS k) k) := by
  refine told_run (tyTOk _ _) ?_ (fun run h => regOk (tyTOk _ _) mixOk h) ?_ nameOk k
  · intro g m hg
    simp only [E_laws_toTacS] at hg
    split at hg
    · cases hg
      refine con_byVal fun ρ l K x hm => ?_
      split at hm
      · obtain ⟨c1, h1, hm⟩ := Option.bind_eq_some_iff.1 hm
        obtain ⟨r, hr, hm⟩ := Option.bind_eq_some_iff.1 hm
        exact ⟨_, hm, LawV.reads (.cons (.as h1) .nil) (laws_toTac_law k c1 r hr)⟩
      · cases hm
    · cases hg; exact noCon_ok
    · cases hg
  · intro g hg r
    by_cases h : g = 96
    · subst h; simp [E_laws_toTacS] at hg
    · simp [E_laws_toTacS, h]
theorem f96_oklaws_toTacS : Try.prog.funcs[96]? = some Try.f96 := by kernel_rfl
theorem laws_toTacS_law (k : Nat) (a1 : List (Int × Int × Int × Int × Int × ByteArray × (List Int) × Unit)) (x : List (Int × Int × Int × Int × Int × ByteArray × (List Int) × Unit)) (h : laws_toTacS k a1 = some x) : LawV Try.prog 96 [.tv (.row (.pair (.int .i64) (.pair (.int .i64) (.pair (.int .i64) (.pair (.int .i64) (.pair (.int .i64) (.pair .str (.pair (.row (.int .i64)) .unit)))))))) a1] (tvn (.row (.pair (.int .i64) (.pair (.int .i64) (.pair (.int .i64) (.pair (.int .i64) (.pair (.int .i64) (.pair .str (.pair (.row (.int .i64)) .unit)))))))) x) := by
  unfold laws_toTacS at h
  exact law1 (t := (.row (.pair (.int .i64) (.pair (.int .i64) (.pair (.int .i64) (.pair (.int .i64) (.pair (.int .i64) (.pair .str (.pair (.row (.int .i64)) .unit))))))))) (tyTOk _ _) (E_laws_toTacS_calls k) mixOk f96_oklaws_toTacS (nameOk _ _ f96_oklaws_toTacS) (by kernel_rfl) h
/-! laws.toUnit -/
noncomputable def E_laws_toUnit (k : Nat) : Env := ⟨ty, fun g => match g with
  | 96 => some (byVal fun ρ l K => match l with
    | [b1] => (b1.as (.row (.pair (.int .i64) (.pair (.int .i64) (.pair (.int .i64) (.pair (.int .i64) (.pair (.int .i64) (.pair .str (.pair (.row (.int .i64)) .unit))))))))).bind fun c1 => (laws_toTacS k c1).bind fun r => K (tvn (.row (.pair (.int .i64) (.pair (.int .i64) (.pair (.int .i64) (.pair (.int .i64) (.pair (.int .i64) (.pair .str (.pair (.row (.int .i64)) .unit)))))))) r)
    | _ => none)
  | _ => none, fun _ _ => none⟩
noncomputable def laws_toUnit (k : Nat) (a1 : ByteArray × Int × Int × (List (Int × Int × Int × Int × Int × ByteArray × (List Int) × Unit)) × Unit) : Option (ByteArray × Int × Int × (List (Int × Int × Int × Int × Int × ByteArray × (List Int) × Unit)) × Unit) :=
  abody (E_laws_toUnit k) (arun Try.prog (E_laws_toUnit k) k) k 19 Try.f19 [.tv (.pair .str (.pair (.int .i64) (.pair (.int .i64) (.pair (.row (.pair (.int .i64) (.pair (.int .i64) (.pair (.int .i64) (.pair (.int .i64) (.pair (.int .i64) (.pair .str (.pair (.row (.int .i64)) .unit)))))))) .unit)))) a1] [] (fin1 (.pair .str (.pair (.int .i64) (.pair (.int .i64) (.pair (.row (.pair (.int .i64) (.pair (.int .i64) (.pair (.int .i64) (.pair (.int .i64) (.pair (.int .i64) (.pair .str (.pair (.row (.int .i64)) .unit)))))))) .unit)))))
theorem laws_toUnit_e (k : Nat) (a1 : ByteArray × Int × Int × (List (Int × Int × Int × Int × Int × ByteArray × (List Int) × Unit)) × Unit) : laws_toUnit k a1 =
  bindO (laws_toTacS k a1.2.2.2.1) fun r1 => (some (a1.1, a1.2.1, a1.2.2.1, r1, ())) := by kernel_rfl
theorem E_laws_toUnit_calls (k : Nat) : CallsOk Try.prog (E_laws_toUnit k) (arun Try.prog (E_laws_toUnit k) k) := by
  refine told_run (tyTOk _ _) ?_ (fun run h => regOk (tyTOk _ _) mixOk h) ?_ nameOk k
  · intro g m hg
    simp only [E_laws_toUnit] at hg
    split at hg
    · cases hg
      refine con_byVal fun ρ l K x hm => ?_
      split at hm
      · obtain ⟨c1, h1, hm⟩ := Option.bind_eq_some_iff.1 hm
        obtain ⟨r, hr, hm⟩ := Option.bind_eq_some_iff.1 hm
        exact ⟨_, hm, LawV.reads (.cons (.as h1) .nil) (laws_toTacS_law k c1 r hr)⟩
      · cases hm
    · cases hg
  · intro g _ r; rfl
theorem f19_oklaws_toUnit : Try.prog.funcs[19]? = some Try.f19 := by kernel_rfl
theorem laws_toUnit_law (k : Nat) (a1 : ByteArray × Int × Int × (List (Int × Int × Int × Int × Int × ByteArray × (List Int) × Unit)) × Unit) (x : ByteArray × Int × Int × (List (Int × Int × Int × Int × Int × ByteArray × (List Int) × Unit)) × Unit) (h : laws_toUnit k a1 = some x) : LawV Try.prog 19 [.tv (.pair .str (.pair (.int .i64) (.pair (.int .i64) (.pair (.row (.pair (.int .i64) (.pair (.int .i64) (.pair (.int .i64) (.pair (.int .i64) (.pair (.int .i64) (.pair .str (.pair (.row (.int .i64)) .unit)))))))) .unit)))) a1] (tvn (.pair .str (.pair (.int .i64) (.pair (.int .i64) (.pair (.row (.pair (.int .i64) (.pair (.int .i64) (.pair (.int .i64) (.pair (.int .i64) (.pair (.int .i64) (.pair .str (.pair (.row (.int .i64)) .unit)))))))) .unit)))) x) := by
  unfold laws_toUnit at h
  exact law1 (t := (.pair .str (.pair (.int .i64) (.pair (.int .i64) (.pair (.row (.pair (.int .i64) (.pair (.int .i64) (.pair (.int .i64) (.pair (.int .i64) (.pair (.int .i64) (.pair .str (.pair (.row (.int .i64)) .unit)))))))) .unit))))) (tyTOk _ _) (E_laws_toUnit_calls k) mixOk f19_oklaws_toUnit (nameOk _ _ f19_oklaws_toUnit) (by kernel_rfl) h
/-! laws.toUnitS -/
noncomputable def E_laws_toUnitS (k : Nat) : Env := ⟨ty, fun g => match g with
  | 19 => some (byVal fun ρ l K => match l with
    | [b1] => (b1.as (.pair .str (.pair (.int .i64) (.pair (.int .i64) (.pair (.row (.pair (.int .i64) (.pair (.int .i64) (.pair (.int .i64) (.pair (.int .i64) (.pair (.int .i64) (.pair .str (.pair (.row (.int .i64)) .unit)))))))) .unit))))).bind fun c1 => (laws_toUnit k c1).bind fun r => K (tvn (.pair .str (.pair (.int .i64) (.pair (.int .i64) (.pair (.row (.pair (.int .i64) (.pair (.int .i64) (.pair (.int .i64) (.pair (.int .i64) (.pair (.int .i64) (.pair .str (.pair (.row (.int .i64)) .unit)))))))) .unit)))) r)
    | _ => none)
  | 24 => some noCon
  | _ => none, fun f r => match f with | 24 => (match r with | 3 => some [0, 3, 4] | _ => none) | _ => none⟩
noncomputable def laws_toUnitS (k : Nat) (a1 : List (ByteArray × Int × Int × (List (Int × Int × Int × Int × Int × ByteArray × (List Int) × Unit)) × Unit)) : Option (List (ByteArray × Int × Int × (List (Int × Int × Int × Int × Int × ByteArray × (List Int) × Unit)) × Unit)) :=
  abody (E_laws_toUnitS k) (arun Try.prog (E_laws_toUnitS k) k) k 24 Try.f24 [.tv (.row (.pair .str (.pair (.int .i64) (.pair (.int .i64) (.pair (.row (.pair (.int .i64) (.pair (.int .i64) (.pair (.int .i64) (.pair (.int .i64) (.pair (.int .i64) (.pair .str (.pair (.row (.int .i64)) .unit)))))))) .unit))))) a1] [] (fin1 (.row (.pair .str (.pair (.int .i64) (.pair (.int .i64) (.pair (.row (.pair (.int .i64) (.pair (.int .i64) (.pair (.int .i64) (.pair (.int .i64) (.pair (.int .i64) (.pair .str (.pair (.row (.int .i64)) .unit)))))))) .unit))))))
noncomputable def laws_toUnitS.l3 (k n : Nat) (x0 : List (ByteArray × Int × Int × (List (Int × Int × Int × Int × Int × ByteArray × (List Int) × Unit)) × Unit)) (x4 : Int) (y0 : List (ByteArray × Int × Int × (List (Int × Int × Int × Int × Int × ByteArray × (List Int) × Unit)) × Unit)) : Option (List (ByteArray × Int × Int × (List (Int × Int × Int × Int × Int × ByteArray × (List Int) × Unit)) × Unit)) :=
  resume (E_laws_toUnitS k) 24 (acall (E_laws_toUnitS k) (arun Try.prog (E_laws_toUnitS k) k)) k [true, true, false, true, true] [n] (bodyOf Try.f24) ⟨[.tv (.row (.pair .str (.pair (.int .i64) (.pair (.int .i64) (.pair (.row (.pair (.int .i64) (.pair (.int .i64) (.pair (.int .i64) (.pair (.int .i64) (.pair (.int .i64) (.pair .str (.pair (.row (.int .i64)) .unit)))))))) .unit))))) x0, .undef, .undef, .sl 0, .int .i64 x4, .undef, .undef, .undef, .undef, .undef, .undef, .undef, .undef, .undef, .undef, .undef, .undef, .undef, .undef, .undef, .undef, .undef, .undef], [some ⟨.typed (.pair .str (.pair (.int .i64) (.pair (.int .i64) (.pair (.row (.pair (.int .i64) (.pair (.int .i64) (.pair (.int .i64) (.pair (.int .i64) (.pair (.int .i64) (.pair .str (.pair (.row (.int .i64)) .unit)))))))) .unit)))) y0, false⟩]⟩ (leave (E_laws_toUnitS k) Try.f24 (fin1 (.row (.pair .str (.pair (.int .i64) (.pair (.int .i64) (.pair (.row (.pair (.int .i64) (.pair (.int .i64) (.pair (.int .i64) (.pair (.int .i64) (.pair (.int .i64) (.pair .str (.pair (.row (.int .i64)) .unit)))))))) .unit)))))))
theorem laws_toUnitS.l3_0 (k : Nat) (x0 : List (ByteArray × Int × Int × (List (Int × Int × Int × Int × Int × ByteArray × (List Int) × Unit)) × Unit)) (x4 : Int) (y0 : List (ByteArray × Int × Int × (List (Int × Int × Int × Int × Int × ByteArray × (List Int) × Unit)) × Unit)) : laws_toUnitS.l3 k 0 x0 x4 y0 = none := by kernel_rfl
theorem laws_toUnitS.l3_s (k n : Nat) (x0 : List (ByteArray × Int × Int × (List (Int × Int × Int × Int × Int × ByteArray × (List Int) × Unit)) × Unit)) (x4 : Int) (y0 : List (ByteArray × Int × Int × (List (Int × Int × Int × Int × Int × ByteArray × (List Int) × Unit)) × Unit)) : laws_toUnitS.l3 k (n + 1) x0 x4 y0 =
  iteB (decide (x4 < ((List.length x0) : Int))) (iteB (decide (0 ≤ x4)) (iteB (decide (x4 < ((List.length x0) : Int))) (bindO (laws_toUnit k (List.getD x0 (Int.toNat x4) (Ty.dflt (.pair .str (.pair (.int .i64) (.pair (.int .i64) (.pair (.row (.pair (.int .i64) (.pair (.int .i64) (.pair (.int .i64) (.pair (.int .i64) (.pair (.int .i64) (.pair .str (.pair (.row (.int .i64)) .unit)))))))) .unit))))))) fun r1 => (iteB (decide (0 ≤ x4)) (iteB (decide (x4 < ((List.length y0) : Int))) (laws_toUnitS.l3 k n x0 (IntKind.wrap .i64 (x4 + 1)) (List.set y0 (Int.toNat x4) r1)) (none)) (none))) (none)) (none)) (some y0) := by kernel_rfl
theorem laws_toUnitS_e (k : Nat) (a1 : List (ByteArray × Int × Int × (List (Int × Int × Int × Int × Int × ByteArray × (List Int) × Unit)) × Unit)) : laws_toUnitS k a1 =
  iteB (decide (0 ≤ ((List.length a1) : Int))) (iteB (decide (((List.length a1) : Int) ≤ ((List.length a1) : Int))) (iteB (decide (((List.length a1) : Int) * 56 ≤ (lim : Int))) (iteB (decide (((List.length a1) : Int) ≤ (lim : Int)) && true) (laws_toUnitS.l3 k k a1 0 (List.replicate (Int.toNat ((List.length a1) : Int)) (Ty.dflt (.pair .str (.pair (.int .i64) (.pair (.int .i64) (.pair (.row (.pair (.int .i64) (.pair (.int .i64) (.pair (.int .i64) (.pair (.int .i64) (.pair (.int .i64) (.pair .str (.pair (.row (.int .i64)) .unit)))))))) .unit))))))) (none)) (none)) (none)) (none) := by kernel_rfl
theorem E_laws_toUnitS_calls (k : Nat) : CallsOk Try.prog (E_laws_toUnitS k) (arun Try.prog (E_laws_toUnitS k) k) := by
  refine told_run (tyTOk _ _) ?_ (fun run h => regOk (tyTOk _ _) mixOk h) ?_ nameOk k
  · intro g m hg
    simp only [E_laws_toUnitS] at hg
    split at hg
    · cases hg
      refine con_byVal fun ρ l K x hm => ?_
      split at hm
      · obtain ⟨c1, h1, hm⟩ := Option.bind_eq_some_iff.1 hm
        obtain ⟨r, hr, hm⟩ := Option.bind_eq_some_iff.1 hm
        exact ⟨_, hm, LawV.reads (.cons (.as h1) .nil) (laws_toUnit_law k c1 r hr)⟩
      · cases hm
    · cases hg; exact noCon_ok
    · cases hg
  · intro g hg r
    by_cases h : g = 24
    · subst h; simp [E_laws_toUnitS] at hg
    · simp [E_laws_toUnitS, h]
theorem f24_oklaws_toUnitS : Try.prog.funcs[24]? = some Try.f24 := by kernel_rfl
theorem laws_toUnitS_law (k : Nat) (a1 : List (ByteArray × Int × Int × (List (Int × Int × Int × Int × Int × ByteArray × (List Int) × Unit)) × Unit)) (x : List (ByteArray × Int × Int × (List (Int × Int × Int × Int × Int × ByteArray × (List Int) × Unit)) × Unit)) (h : laws_toUnitS k a1 = some x) : LawV Try.prog 24 [.tv (.row (.pair .str (.pair (.int .i64) (.pair (.int .i64) (.pair (.row (.pair (.int .i64) (.pair (.int .i64) (.pair (.int .i64) (.pair (.int .i64) (.pair (.int .i64) (.pair .str (.pair (.row (.int .i64)) .unit)))))))) .unit))))) a1] (tvn (.row (.pair .str (.pair (.int .i64) (.pair (.int .i64) (.pair (.row (.pair (.int .i64) (.pair (.int .i64) (.pair (.int .i64) (.pair (.int .i64) (.pair (.int .i64) (.pair .str (.pair (.row (.int .i64)) .unit)))))))) .unit))))) x) := by
  unfold laws_toUnitS at h
  exact law1 (t := (.row (.pair .str (.pair (.int .i64) (.pair (.int .i64) (.pair (.row (.pair (.int .i64) (.pair (.int .i64) (.pair (.int .i64) (.pair (.int .i64) (.pair (.int .i64) (.pair .str (.pair (.row (.int .i64)) .unit)))))))) .unit)))))) (tyTOk _ _) (E_laws_toUnitS_calls k) mixOk f24_oklaws_toUnitS (nameOk _ _ f24_oklaws_toUnitS) (by kernel_rfl) h
/-! spec.l1In -/
noncomputable def E_spec_l1In (k : Nat) : Env := ⟨ty, fun _ => none, fun _ _ => none⟩
noncomputable def spec_l1In (k : Nat) (a1 : Int) (a2 : Int) (a3 : Int) : Option (Bool) :=
  abody (E_spec_l1In k) (arun Try.prog (E_spec_l1In k) k) k 69 Try.f69 [.int .i64 a1, .int .i64 a2, .int .i64 a3] [] (fin1 .bool)
theorem spec_l1In_e (k : Nat) (a1 : Int) (a2 : Int) (a3 : Int) : spec_l1In k a1 a2 a3 =
  iteB (decide (a1 ≥ a2)) (some (decide (a1 ≤ a3))) (some false) := by kernel_rfl
theorem E_spec_l1In_calls (k : Nat) : CallsOk Try.prog (E_spec_l1In k) (arun Try.prog (E_spec_l1In k) k) := by
  refine told_run (tyTOk _ _) ?_ (fun run h => regOk (tyTOk _ _) mixOk h) ?_ nameOk k
  · intro g m hg
    cases hg
  · intro g _ r; rfl
theorem f69_okspec_l1In : Try.prog.funcs[69]? = some Try.f69 := by kernel_rfl
theorem spec_l1In_law (k : Nat) (a1 : Int) (a2 : Int) (a3 : Int) (x : Bool) (h : spec_l1In k a1 a2 a3 = some x) : LawV Try.prog 69 [.int .i64 a1, .int .i64 a2, .int .i64 a3] (tvn .bool x) := by
  unfold spec_l1In at h
  exact law1 (t := .bool) (tyTOk _ _) (E_spec_l1In_calls k) mixOk f69_okspec_l1In (nameOk _ _ f69_okspec_l1In) (by kernel_rfl) h
end Go.Proofs.Ytapijpjgfpjahaa.XFnExactUnitsOk
