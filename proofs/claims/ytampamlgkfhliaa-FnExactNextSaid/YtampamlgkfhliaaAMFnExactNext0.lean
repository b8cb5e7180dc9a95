/- Functions of the program as runs of the interpreter: equations, and a law for each. -/
import Derived.Test.YtampamlgkfhliaaProg
import Derived.Test.YtampamlgkfhliaaChecked
import Derived.KernelRfl
import Derived.Eval
import Derived.Test.YtampamlgkfhliaaATyOk
import Derived.Test.YtampamlgkfhliaaAS40
open Go Go.AM Go.AMx Go.Proofs
namespace Go.Proofs.Ytampamlgkfhliaa.XFnExactNext
set_option linter.unusedVariables false
set_option linter.unusedSimpArgs false
/-! laws.szIntS -/
noncomputable def E_laws_szIntS (k : Nat) : Env := ⟨ty, fun _ => none, fun _ _ => none⟩
noncomputable def laws_szIntS (k : Nat) (a1 : List Int) (a2 : Int) : Option (Int) :=
  abody (E_laws_szIntS k) (arun Try.prog (E_laws_szIntS k) k) k 40 Try.f40 [.tv (.row (.int .i64)) a1, .int .i64 a2] [] (fin1 (.int .i64))
theorem laws_szIntS_e (k : Nat) (a1 : List Int) (a2 : Int) : laws_szIntS k a1 a2 =
  iteB (decide (IntKind.wrap .i64 (a2 - ((List.length a1) : Int)) < 0)) (some (-1)) (some (IntKind.wrap .i64 (a2 - ((List.length a1) : Int)))) := by kernel_rfl
theorem E_laws_szIntS_calls (k : Nat) : CallsOk Try.prog (E_laws_szIntS k) (arun Try.prog (E_laws_szIntS k) k) := by
  refine told_run (tyTOk _ _) ?_ (fun run h => regOk (tyTOk _ _) mixOk h) ?_ nameOk k
  · intro g m hg
    cases hg
  · intro g _ r; rfl
theorem f40_oklaws_szIntS : Try.prog.funcs[40]? = some Try.f40 := by kernel_rfl
theorem laws_szIntS_law (k : Nat) (a1 : List Int) (a2 : Int) (x : Int) (h : laws_szIntS k a1 a2 = some x) : LawV Try.prog 40 [.tv (.row (.int .i64)) a1, .int .i64 a2] (tvn (.int .i64) x) := by
  unfold laws_szIntS at h
  exact law1 (t := (.int .i64)) (tyTOk _ _) (E_laws_szIntS_calls k) mixOk f40_oklaws_szIntS (nameOk _ _ f40_oklaws_szIntS) (by kernel_rfl) h
/-! laws.szTac -/
noncomputable def E_laws_szTac (k : Nat) : Env := ⟨ty, fun g => match g with
  | 40 => some (byVal fun ρ l K => match l with
    | [b1, b2] => (b1.as (.row (.int .i64))).bind fun c1 => (b2.as (.int .i64)).bind fun c2 => (laws_szIntS k c1 c2).bind fun r => K (tvn (.int .i64) r)
    | _ => none)
  | _ => none, fun _ _ => none⟩
noncomputable def laws_szTac (k : Nat) (a1 : Int × Int × Int × Int × Int × ByteArray × (List Int) × Unit) (a2 : Int) : Option (Int) :=
  abody (E_laws_szTac k) (arun Try.prog (E_laws_szTac k) k) k 98 Try.f98 [.tv (.pair (.int .i64) (.pair (.int .i64) (.pair (.int .i64) (.pair (.int .i64) (.pair (.int .i64) (.pair .str (.pair (.row (.int .i64)) .unit))))))) a1, .int .i64 a2] [] (fin1 (.int .i64))
theorem laws_szTac_e (k : Nat) (a1 : Int × Int × Int × Int × Int × ByteArray × (List Int) × Unit) (a2 : Int) : laws_szTac k a1 a2 =
  iteB (decide (IntKind.wrap .i64 (a2 - (ByteArray.size a1.2.2.2.2.2.1 : Int)) < 0)) (some (-1)) (bindO (laws_szIntS k a1.2.2.2.2.2.2.1 (IntKind.wrap .i64 (a2 - (ByteArray.size a1.2.2.2.2.2.1 : Int)))) fun r1 => (iteB (decide (r1 < 0)) (some (-1)) (some r1))) := by kernel_rfl
theorem E_laws_szTac_calls (k : Nat) : CallsOk Try.prog (E_laws_szTac k) (arun Try.prog (E_laws_szTac k) k) := by
  refine told_run (tyTOk _ _) ?_ (fun run h => regOk (tyTOk _ _) mixOk h) ?_ nameOk k
  · intro g m hg
    simp only [E_laws_szTac] at hg
    split at hg
    · cases hg
      refine con_byVal fun ρ l K x hm => ?_
      split at hm
      · obtain ⟨c1, h1, hm⟩ := Option.bind_eq_some_iff.1 hm
        obtain ⟨c2, h2, hm⟩ := Option.bind_eq_some_iff.1 hm
        obtain ⟨r, hr, hm⟩ := Option.bind_eq_some_iff.1 hm
        exact ⟨_, hm, LawV.reads (.cons (.as h1) (.cons (.as h2) .nil)) (laws_szIntS_law k c1 c2 r hr)⟩
      · cases hm
    · cases hg
  · intro g _ r; rfl
theorem f98_oklaws_szTac : Try.prog.funcs[98]? = some Try.f98 := by kernel_rfl
theorem laws_szTac_law (k : Nat) (a1 : Int × Int × Int × Int × Int × ByteArray × (List Int) × Unit) (a2 : Int) (x : Int) (h : laws_szTac k a1 a2 = some x) : LawV Try.prog 98 [.tv (.pair (.int .i64) (.pair (.int .i64) (.pair (.int .i64) (.pair (.int .i64) (.pair (.int .i64) (.pair .str (.pair (.row (.int .i64)) .unit))))))) a1, .int .i64 a2] (tvn (.int .i64) x) := by
  unfold laws_szTac at h
  exact law1 (t := (.int .i64)) (tyTOk _ _) (E_laws_szTac_calls k) mixOk f98_oklaws_szTac (nameOk _ _ f98_oklaws_szTac) (by kernel_rfl) h
/-! laws.szTacS -/
noncomputable def E_laws_szTacS (k : Nat) : Env := ⟨ty, fun g => match g with
  | 98 => some (byVal fun ρ l K => match l with
    | [b1, b2] => (b1.as (.pair (.int .i64) (.pair (.int .i64) (.pair (.int .i64) (.pair (.int .i64) (.pair (.int .i64) (.pair .str (.pair (.row (.int .i64)) .unit)))))))).bind fun c1 => (b2.as (.int .i64)).bind fun c2 => (laws_szTac k c1 c2).bind fun r => K (tvn (.int .i64) r)
    | _ => none)
  | 49 => some noCon
  | _ => none, fun f r => match f with | 49 => (match r with | 5 => some [0, 1, 5] | _ => none) | _ => none⟩
noncomputable def laws_szTacS (k : Nat) (a1 : List (Int × Int × Int × Int × Int × ByteArray × (List Int) × Unit)) (a2 : Int) : Option (Int) :=
  abody (E_laws_szTacS k) (arun Try.prog (E_laws_szTacS k) k) k 49 Try.f49 [.tv (.row (.pair (.int .i64) (.pair (.int .i64) (.pair (.int .i64) (.pair (.int .i64) (.pair (.int .i64) (.pair .str (.pair (.row (.int .i64)) .unit)))))))) a1, .int .i64 a2] [] (fin1 (.int .i64))
noncomputable def laws_szTacS.l5 (k n : Nat) (x0 : List (Int × Int × Int × Int × Int × ByteArray × (List Int) × Unit)) (x1 : Int) (x5 : Int) : Option (Int) :=
  resume (E_laws_szTacS k) 49 (acall (E_laws_szTacS k) (arun Try.prog (E_laws_szTacS k) k)) k [true, true, true, false, true, true] [n] (bodyOf Try.f49) ⟨[.tv (.row (.pair (.int .i64) (.pair (.int .i64) (.pair (.int .i64) (.pair (.int .i64) (.pair (.int .i64) (.pair .str (.pair (.row (.int .i64)) .unit)))))))) x0, .int .i64 x1, .undef, .undef, .undef, .int .i64 x5, .undef, .undef, .undef, .undef, .undef, .undef, .undef, .undef, .undef, .undef, .undef, .undef, .undef, .undef, .undef, .undef, .undef, .undef, .undef, .undef, .undef], []⟩ (leave (E_laws_szTacS k) Try.f49 (fin1 (.int .i64)))
theorem laws_szTacS.l5_0 (k : Nat) (x0 : List (Int × Int × Int × Int × Int × ByteArray × (List Int) × Unit)) (x1 : Int) (x5 : Int) : laws_szTacS.l5 k 0 x0 x1 x5 = none := by kernel_rfl
theorem laws_szTacS.l5_s (k n : Nat) (x0 : List (Int × Int × Int × Int × Int × ByteArray × (List Int) × Unit)) (x1 : Int) (x5 : Int) : laws_szTacS.l5 k (n + 1) x0 x1 x5 =
  iteB (decide (x5 < ((List.length x0) : Int))) (iteB (decide (0 ≤ x5)) (iteB (decide (x5 < ((List.length x0) : Int))) (bindO (laws_szTac k (List.getD x0 (Int.toNat x5) (Ty.dflt (.pair (.int .i64) (.pair (.int .i64) (.pair (.int .i64) (.pair (.int .i64) (.pair (.int .i64) (.pair .str (.pair (.row (.int .i64)) .unit))))))))) x1) fun r1 => (iteB (decide (r1 < 0)) (some (-1)) (laws_szTacS.l5 k n x0 r1 (IntKind.wrap .i64 (x5 + 1))))) (none)) (none)) (some x1) := by kernel_rfl
theorem laws_szTacS_e (k : Nat) (a1 : List (Int × Int × Int × Int × Int × ByteArray × (List Int) × Unit)) (a2 : Int) : laws_szTacS k a1 a2 =
  iteB (decide (IntKind.wrap .i64 (a2 - ((List.length a1) : Int)) < 0)) (some (-1)) (laws_szTacS.l5 k k a1 (IntKind.wrap .i64 (a2 - ((List.length a1) : Int))) 0) := by kernel_rfl
theorem E_laws_szTacS_calls (k : Nat) : CallsOk Try.prog (E_laws_szTacS k) (arun Try.prog (E_laws_szTacS k) k) := by
  refine told_run (tyTOk _ _) ?_ (fun run h => regOk (tyTOk _ _) mixOk h) ?_ nameOk k
  · intro g m hg
    simp only [E_laws_szTacS] at hg
    split at hg
    · cases hg
      refine con_byVal fun ρ l K x hm => ?_
      split at hm
      · obtain ⟨c1, h1, hm⟩ := Option.bind_eq_some_iff.1 hm
        obtain ⟨c2, h2, hm⟩ := Option.bind_eq_some_iff.1 hm
        obtain ⟨r, hr, hm⟩ := Option.bind_eq_some_iff.1 hm
        exact ⟨_, hm, LawV.reads (.cons (.as h1) (.cons (.as h2) .nil)) (laws_szTac_law k c1 c2 r hr)⟩
      · cases hm
    · cases hg; exact noCon_ok
    · cases hg
  · intro g hg r
    by_cases h : g = 49
    · subst h; simp [E_laws_szTacS] at hg
    · simp [E_laws_szTacS, h]
theorem f49_oklaws_szTacS : Try.prog.funcs[49]? = some Try.f49 := by kernel_rfl
theorem laws_szTacS_law (k : Nat) (a1 : List (Int × Int × Int × Int × Int × ByteArray × (List Int) × Unit)) (a2 : Int) (x : Int) (h : laws_szTacS k a1 a2 = some x) : LawV Try.prog 49 [.tv (.row (.pair (.int .i64) (.pair (.int .i64) (.pair (.int .i64) (.pair (.int .i64) (.pair (.int .i64) (.pair .str (.pair (.row (.int .i64)) .unit)))))))) a1, .int .i64 a2] (tvn (.int .i64) x) := by
  unfold laws_szTacS at h
  exact law1 (t := (.int .i64)) (tyTOk _ _) (E_laws_szTacS_calls k) mixOk f49_oklaws_szTacS (nameOk _ _ f49_oklaws_szTacS) (by kernel_rfl) h
/-! laws.szUnit -/
noncomputable def E_laws_szUnit (k : Nat) : Env := ⟨ty, fun g => match g with
  | 49 => some (byVal fun ρ l K => match l with
    | [b1, b2] => (b1.as (.row (.pair (.int .i64) (.pair (.int .i64) (.pair (.int .i64) (.pair (.int .i64) (.pair (.int .i64) (.pair .str (.pair (.row (.int .i64)) .unit))))))))).bind fun c1 => (b2.as (.int .i64)).bind fun c2 => (laws_szTacS k c1 c2).bind fun r => K (tvn (.int .i64) r)
    | _ => none)
  | _ => none, fun _ _ => none⟩
noncomputable def laws_szUnit (k : Nat) (a1 : ByteArray × Int × Int × (List (Int × Int × Int × Int × Int × ByteArray × (List Int) × Unit)) × Unit) (a2 : Int) : Option (Int) :=
  abody (E_laws_szUnit k) (arun Try.prog (E_laws_szUnit k) k) k 18 Try.f18 [.tv (.pair .str (.pair (.int .i64) (.pair (.int .i64) (.pair (.row (.pair (.int .i64) (.pair (.int .i64) (.pair (.int .i64) (.pair (.int .i64) (.pair (.int .i64) (.pair .str (.pair (.row (.int .i64)) .unit)))))))) .unit)))) a1, .int .i64 a2] [] (fin1 (.int .i64))
theorem laws_szUnit_e (k : Nat) (a1 : ByteArray × Int × Int × (List (Int × Int × Int × Int × Int × ByteArray × (List Int) × Unit)) × Unit) (a2 : Int) : laws_szUnit k a1 a2 =
  iteB (decide (IntKind.wrap .i64 (a2 - (ByteArray.size a1.1 : Int)) < 0)) (some (-1)) (bindO (laws_szTacS k a1.2.2.2.1 (IntKind.wrap .i64 (a2 - (ByteArray.size a1.1 : Int)))) fun r1 => (iteB (decide (r1 < 0)) (some (-1)) (some r1))) := by kernel_rfl
theorem E_laws_szUnit_calls (k : Nat) : CallsOk Try.prog (E_laws_szUnit k) (arun Try.prog (E_laws_szUnit k) k) := by
  refine told_run (tyTOk _ _) ?_ (fun run h => regOk (tyTOk _ _) mixOk h) ?_ nameOk k
  · intro g m hg
    simp only [E_laws_szUnit] at hg
    split at hg
    · cases hg
      refine con_byVal fun ρ l K x hm => ?_
      split at hm
      · obtain ⟨c1, h1, hm⟩ := Option.bind_eq_some_iff.1 hm
        obtain ⟨c2, h2, hm⟩ := Option.bind_eq_some_iff.1 hm
        obtain ⟨r, hr, hm⟩ := Option.bind_eq_some_iff.1 hm
        exact ⟨_, hm, LawV.reads (.cons (.as h1) (.cons (.as h2) .nil)) (laws_szTacS_law k c1 c2 r hr)⟩
      · cases hm
    · cases hg
  · intro g _ r; rfl
theorem f18_oklaws_szUnit : Try.prog.funcs[18]? = some Try.f18 := by kernel_rfl
theorem laws_szUnit_law (k : Nat) (a1 : ByteArray × Int × Int × (List (Int × Int × Int × Int × Int × ByteArray × (List Int) × Unit)) × Unit) (a2 : Int) (x : Int) (h : laws_szUnit k a1 a2 = some x) : LawV Try.prog 18 [.tv (.pair .str (.pair (.int .i64) (.pair (.int .i64) (.pair (.row (.pair (.int .i64) (.pair (.int .i64) (.pair (.int .i64) (.pair (.int .i64) (.pair (.int .i64) (.pair .str (.pair (.row (.int .i64)) .unit)))))))) .unit)))) a1, .int .i64 a2] (tvn (.int .i64) x) := by
  unfold laws_szUnit at h
  exact law1 (t := (.int .i64)) (tyTOk _ _) (E_laws_szUnit_calls k) mixOk f18_oklaws_szUnit (nameOk _ _ f18_oklaws_szUnit) (by kernel_rfl) h
/-! laws.toIntS -/
noncomputable def E_laws_toIntS (k : Nat) : Env := ⟨tyD, fun g => match g with
  | 44 => some noCon
  | _ => none, fun f r => match f with | 44 => (match r with | 3 => some [0, 3, 4] | _ => none) | _ => none⟩
noncomputable def laws_toIntS (k : Nat) (a1 : List Int) : Option (List Int) :=
  abody (E_laws_toIntS k) (arun Try.prog (E_laws_toIntS k) k) k 44 Try.f44 [.tv (.row (.int .i64)) a1] [] (finD (.row (.int .i64)))
noncomputable def laws_toIntS.l3 (k n : Nat) (x0 : List Int) (x4 : Int) (y0 : List Int) : Option (List Int) :=
  resume (E_laws_toIntS k) 44 (acall (E_laws_toIntS k) (arun Try.prog (E_laws_toIntS k) k)) k [true, true, false, true, true] [n] (bodyOf Try.f44) ⟨[.tv (.row (.int .i64)) x0, .undef, .undef, .sl 0, .int .i64 x4, .undef, .undef, .undef, .undef, .undef, .undef, .undef, .undef, .undef, .undef, .undef, .undef, .undef, .undef, .undef, .undef, .undef], [some ⟨.deep false (.int .i64) y0, false⟩]⟩ (leave (E_laws_toIntS k) Try.f44 (finD (.row (.int .i64))))
theorem laws_toIntS.l3_0 (k : Nat) (x0 : List Int) (x4 : Int) (y0 : List Int) : laws_toIntS.l3 k 0 x0 x4 y0 = none := by kernel_rfl
theorem laws_toIntS.l3_s (k n : Nat) (x0 : List Int) (x4 : Int) (y0 : List Int) : laws_toIntS.l3 k (n + 1) x0 x4 y0 =
  iteB (decide (x4 < ((List.length x0) : Int))) (iteB (decide (0 ≤ x4)) (iteB (decide (x4 < ((List.length x0) : Int))) (iteB (decide (0 ≤ x4)) (iteB (decide (x4 < ((List.length y0) : Int))) (laws_toIntS.l3 k n x0 (IntKind.wrap .i64 (x4 + 1)) (List.set y0 (Int.toNat x4) (List.getD x0 (Int.toNat x4) 0))) (none)) (none)) (none)) (none)) (some y0) := by kernel_rfl
theorem laws_toIntS_e (k : Nat) (a1 : List Int) : laws_toIntS k a1 =
  iteB (decide (0 ≤ ((List.length a1) : Int))) (iteB (decide (((List.length a1) : Int) ≤ ((List.length a1) : Int))) (iteB (decide (((List.length a1) : Int) * 8 ≤ (lim : Int))) (iteB (decide (((List.length a1) : Int) ≤ (lim : Int)) && true) (laws_toIntS.l3 k k a1 0 (List.replicate (Int.toNat ((List.length a1) : Int)) 0)) (none)) (none)) (none)) (none) := by kernel_rfl
theorem E_laws_toIntS_calls (k : Nat) : CallsOk Try.prog (E_laws_toIntS k) (arun Try.prog (E_laws_toIntS k) k) := by
  refine told_run (tyDTOk _ _) ?_ (fun run h => regOk (tyDTOk _ _) mixOk h) ?_ nameOk k
  · intro g m hg
    simp only [E_laws_toIntS] at hg
    split at hg
    · cases hg; exact noCon_ok
    · cases hg
  · intro g hg r
    by_cases h : g = 44
    · subst h; simp [E_laws_toIntS] at hg
    · simp [E_laws_toIntS, h]
theorem f44_oklaws_toIntS : Try.prog.funcs[44]? = some Try.f44 := by kernel_rfl
theorem laws_toIntS_law (k : Nat) (a1 : List Int) (x : List Int) (h : laws_toIntS k a1 = some x) : LawD Try.prog 44 [.tv (.row (.int .i64)) a1] (.row (.int .i64)) x := by
  unfold laws_toIntS at h
  exact lawD (t := (.row (.int .i64))) (tyDTOk _ _) (E_laws_toIntS_calls k) mixOk f44_oklaws_toIntS (nameOk _ _ f44_oklaws_toIntS) (by kernel_rfl) h
/-! laws.toTac -/
noncomputable def E_laws_toTac (k : Nat) : Env := ⟨tyD, fun g => match g with
  | 44 => some (byNew (.row (.int .i64)) fun ρ l K => match l with
    | [b1] => (b1.as (.row (.int .i64))).bind fun c1 => (laws_toIntS k c1).bind fun r => K r
    | _ => none)
  | _ => none, fun _ _ => none⟩
noncomputable def laws_toTac (k : Nat) (a1 : Int × Int × Int × Int × Int × ByteArray × (List Int) × Unit) : Option (Int × Int × Int × Int × Int × ByteArray × (List Int) × Unit) :=
  abody (E_laws_toTac k) (arun Try.prog (E_laws_toTac k) k) k 102 Try.f102 [.tv (.pair (.int .i64) (.pair (.int .i64) (.pair (.int .i64) (.pair (.int .i64) (.pair (.int .i64) (.pair .str (.pair (.row (.int .i64)) .unit))))))) a1] [] (finD (.pair (.int .i64) (.pair (.int .i64) (.pair (.int .i64) (.pair (.int .i64) (.pair (.int .i64) (.pair .str (.pair (.row (.int .i64)) .unit))))))))
theorem laws_toTac_e (k : Nat) (a1 : Int × Int × Int × Int × Int × ByteArray × (List Int) × Unit) : laws_toTac k a1 =
  bindO (laws_toIntS k a1.2.2.2.2.2.2.1) fun r1 => (some (a1.1, a1.2.1, a1.2.2.1, a1.2.2.2.1, a1.2.2.2.2.1, a1.2.2.2.2.2.1, r1, ())) := by kernel_rfl
theorem E_laws_toTac_calls (k : Nat) : CallsOk Try.prog (E_laws_toTac k) (arun Try.prog (E_laws_toTac k) k) := by
  refine told_run (tyDTOk _ _) ?_ (fun run h => regOk (tyDTOk _ _) mixOk h) ?_ nameOk k
  · intro g m hg
    simp only [E_laws_toTac] at hg
    split at hg
    · cases hg
      refine con_byNew fun ρ l K x hm => ?_
      split at hm
      · obtain ⟨c1, h1, hm⟩ := Option.bind_eq_some_iff.1 hm
        obtain ⟨r, hr, hm⟩ := Option.bind_eq_some_iff.1 hm
        exact ⟨_, hm, LawD.reads (.cons (.as h1) .nil) (laws_toIntS_law k c1 r hr)⟩
      · cases hm
    · cases hg
  · intro g _ r; rfl
theorem f102_oklaws_toTac : Try.prog.funcs[102]? = some Try.f102 := by kernel_rfl
theorem laws_toTac_law (k : Nat) (a1 : Int × Int × Int × Int × Int × ByteArray × (List Int) × Unit) (x : Int × Int × Int × Int × Int × ByteArray × (List Int) × Unit) (h : laws_toTac k a1 = some x) : LawD Try.prog 102 [.tv (.pair (.int .i64) (.pair (.int .i64) (.pair (.int .i64) (.pair (.int .i64) (.pair (.int .i64) (.pair .str (.pair (.row (.int .i64)) .unit))))))) a1] (.pair (.int .i64) (.pair (.int .i64) (.pair (.int .i64) (.pair (.int .i64) (.pair (.int .i64) (.pair .str (.pair (.row (.int .i64)) .unit))))))) x := by
  unfold laws_toTac at h
  exact lawD (t := (.pair (.int .i64) (.pair (.int .i64) (.pair (.int .i64) (.pair (.int .i64) (.pair (.int .i64) (.pair .str (.pair (.row (.int .i64)) .unit)))))))) (tyDTOk _ _) (E_laws_toTac_calls k) mixOk f102_oklaws_toTac (nameOk _ _ f102_oklaws_toTac) (by kernel_rfl) h
/-! laws.toTacS -/
noncomputable def E_laws_toTacS (k : Nat) : Env := ⟨tyD, fun g => match g with
  | 102 => some (byNew (.pair (.int .i64) (.pair (.int .i64) (.pair (.int .i64) (.pair (.int .i64) (.pair (.int .i64) (.pair .str (.pair (.row (.int .i64)) .unit))))))) fun ρ l K => match l with
    | [b1] => (b1.as (.pair (.int .i64) (.pair (.int .i64) (.pair (.int .i64) (.pair (.int .i64) (.pair (.int .i64) (.pair .str (.pair (.row (.int .i64)) .unit)))))))).bind fun c1 => (laws_toTac k c1).bind fun r => K r
    | _ => none)
  | 53 => some noCon
  | _ => none, fun f r => match f with | 53 => (match r with | 3 => some [0, 3, 4] | _ => none) | _ => none⟩
noncomputable def laws_toTacS (k : Nat) (a1 : List (Int × Int × Int × Int × Int × ByteArray × (List Int) × Unit)) : Option (List (Int × Int × Int × Int × Int × ByteArray × (List Int) × Unit)) :=
  abody (E_laws_toTacS k) (arun Try.prog (E_laws_toTacS k) k) k 53 Try.f53 [.tv (.row (.pair (.int .i64) (.pair (.int .i64) (.pair (.int .i64) (.pair (.int .i64) (.pair (.int .i64) (.pair .str (.pair (.row (.int .i64)) .unit)))))))) a1] [] (finD (.row (.pair (.int .i64) (.pair (.int .i64) (.pair (.int .i64) (.pair (.int .i64) (.pair (.int .i64) (.pair .str (.pair (.row (.int .i64)) .unit)))))))))
noncomputable def laws_toTacS.l3 (k n : Nat) (x0 : List (Int × Int × Int × Int × Int × ByteArray × (List Int) × Unit)) (x4 : Int) (y0 : List (Int × Int × Int × Int × Int × ByteArray × (List Int) × Unit)) : Option (List (Int × Int × Int × Int × Int × ByteArray × (List Int) × Unit)) :=
  resume (E_laws_toTacS k) 53 (acall (E_laws_toTacS k) (arun Try.prog (E_laws_toTacS k) k)) k [true, true, false, true, true] [n] (bodyOf Try.f53) ⟨[.tv (.row (.pair (.int .i64) (.pair (.int .i64) (.pair (.int .i64) (.pair (.int .i64) (.pair (.int .i64) (.pair .str (.pair (.row (.int .i64)) .unit)))))))) x0, .undef, .undef, .sl 0, .int .i64 x4, .undef, .undef, .undef, .undef, .undef, .undef, .undef, .undef, .undef, .undef, .undef, .undef, .undef, .undef, .undef, .undef, .undef, .undef], [some ⟨.deep false (.pair (.int .i64) (.pair (.int .i64) (.pair (.int .i64) (.pair (.int .i64) (.pair (.int .i64) (.pair .str (.pair (.row (.int .i64)) .unit))))))) y0, false⟩]⟩ (leave (E_laws_toTacS k) Try.f53 (finD (.row (.pair (.int .i64) (.pair (.int .i64) (.pair (.int .i64) (.pair (.int .i64) (.pair (.int .i64) (.pair .str (.pair (.row (.int .i64)) .unit))))))))))
theorem laws_toTacS.l3_0 (k : Nat) (x0 : List (Int × Int × Int × Int × Int × ByteArray × (List Int) × Unit)) (x4 : Int) (y0 : List (Int × Int × Int × Int × Int × ByteArray × (List Int) × Unit)) : laws_toTacS.l3 k 0 x0 x4 y0 = none := by kernel_rfl
theorem laws_toTacS.l3_s (k n : Nat) (x0 : List (Int × Int × Int × Int × Int × ByteArray × (List Int) × Unit)) (x4 : Int) (y0 : List (Int × Int × Int × Int × Int × ByteArray × (List Int) × Unit)) : laws_toTacS.l3 k (n + 1) x0 x4 y0 =
  iteB (decide (x4 < ((List.length x0) : Int))) (iteB (decide (0 ≤ x4)) (iteB (decide (x4 < ((List.length x0) : Int))) (bindO (laws_toTac k (List.getD x0 (Int.toNat x4) (Ty.dflt (.pair (.int .i64) (.pair (.int .i64) (.pair (.int .i64) (.pair (.int .i64) (.pair (.int .i64) (.pair .str (.pair (.row (.int .i64)) .unit)))))))))) fun r1 => (iteB (decide (0 ≤ x4)) (iteB (decide (x4 < ((List.length y0) : Int))) (laws_toTacS.l3 k n x0 (IntKind.wrap .i64 (x4 + 1)) (List.set y0 (Int.toNat x4) (r1.1, r1.2.1, r1.2.2.1, r1.2.2.2.1, r1.2.2.2.2.1, r1.2.2.2.2.2.1, r1.2.2.2.2.2.2.1, ()))) (none)) (none))) (none)) (none)) (some y0) := by kernel_rfl
theorem laws_toTacS_e (k : Nat) (a1 : List (Int × Int × Int × Int × Int × ByteArray × (List Int) × Unit)) : laws_toTacS k a1 =
  iteB (decide (0 ≤ ((List.length a1) : Int))) (iteB (decide (((List.length a1) : Int) ≤ ((List.length a1) : Int))) (iteB (decide (((List.length a1) : Int) * 80 ≤ (lim : Int))) (iteB (decide (((List.length a1) : Int) ≤ (lim : Int)) && true) (laws_toTacS.l3 k k a1 0 (List.replicate (Int.toNat ((List.length a1) : Int)) (Ty.dflt (.pair (.int .i64) (.pair (.int .i64) (.pair (.int .i64) (.pair (.int .i64) (.pair (.int .i64) (.pair .str (.pair (.row (.int .i64)) .unit)))))))))) (none)) (none)) (none)) (none) := by kernel_rfl
theorem E_laws_toTacS_calls (k : Nat) : CallsOk Try.prog (E_laws_toTacS k) (arun Try.prog (E_laws_toTacS k) k) := by
  refine told_run (tyDTOk _ _) ?_ (fun run h => regOk (tyDTOk _ _) mixOk h) ?_ nameOk k
  · intro g m hg
    simp only [E_laws_toTacS] at hg
    split at hg
    · cases hg
      refine con_byNew fun ρ l K x hm => ?_
      split at hm
      · obtain ⟨c1, h1, hm⟩ := Option.bind_eq_some_iff.1 hm
        obtain ⟨r, hr, hm⟩ := Option.bind_eq_some_iff.1 hm
        exact ⟨_, hm, LawD.reads (.cons (.as h1) .nil) (laws_toTac_law k c1 r hr)⟩
      · cases hm
    · cases hg; exact noCon_ok
    · cases hg
  · intro g hg r
    by_cases h : g = 53
    · subst h; simp [E_laws_toTacS] at hg
    · simp [E_laws_toTacS, h]
theorem f53_oklaws_toTacS : Try.prog.funcs[53]? = some Try.f53 := by kernel_rfl
theorem laws_toTacS_law (k : Nat) (a1 : List (Int × Int × Int × Int × Int × ByteArray × (List Int) × Unit)) (x : List (Int × Int × Int × Int × Int × ByteArray × (List Int) × Unit)) (h : laws_toTacS k a1 = some x) : LawD Try.prog 53 [.tv (.row (.pair (.int .i64) (.pair (.int .i64) (.pair (.int .i64) (.pair (.int .i64) (.pair (.int .i64) (.pair .str (.pair (.row (.int .i64)) .unit)))))))) a1] (.row (.pair (.int .i64) (.pair (.int .i64) (.pair (.int .i64) (.pair (.int .i64) (.pair (.int .i64) (.pair .str (.pair (.row (.int .i64)) .unit)))))))) x := by
  unfold laws_toTacS at h
  exact lawD (t := (.row (.pair (.int .i64) (.pair (.int .i64) (.pair (.int .i64) (.pair (.int .i64) (.pair (.int .i64) (.pair .str (.pair (.row (.int .i64)) .unit))))))))) (tyDTOk _ _) (E_laws_toTacS_calls k) mixOk f53_oklaws_toTacS (nameOk _ _ f53_oklaws_toTacS) (by kernel_rfl) h
/-! laws.toUnit -/
noncomputable def E_laws_toUnit (k : Nat) : Env := ⟨tyD, fun g => match g with
  | 53 => some (byNew (.row (.pair (.int .i64) (.pair (.int .i64) (.pair (.int .i64) (.pair (.int .i64) (.pair (.int .i64) (.pair .str (.pair (.row (.int .i64)) .unit)))))))) fun ρ l K => match l with
    | [b1] => (b1.as (.row (.pair (.int .i64) (.pair (.int .i64) (.pair (.int .i64) (.pair (.int .i64) (.pair (.int .i64) (.pair .str (.pair (.row (.int .i64)) .unit))))))))).bind fun c1 => (laws_toTacS k c1).bind fun r => K r
    | _ => none)
  | _ => none, fun _ _ => none⟩
noncomputable def laws_toUnit (k : Nat) (a1 : ByteArray × Int × Int × (List (Int × Int × Int × Int × Int × ByteArray × (List Int) × Unit)) × Unit) : Option (ByteArray × Int × Int × (List (Int × Int × Int × Int × Int × ByteArray × (List Int) × Unit)) × Unit) :=
  abody (E_laws_toUnit k) (arun Try.prog (E_laws_toUnit k) k) k 20 Try.f20 [.tv (.pair .str (.pair (.int .i64) (.pair (.int .i64) (.pair (.row (.pair (.int .i64) (.pair (.int .i64) (.pair (.int .i64) (.pair (.int .i64) (.pair (.int .i64) (.pair .str (.pair (.row (.int .i64)) .unit)))))))) .unit)))) a1] [] (finD (.pair .str (.pair (.int .i64) (.pair (.int .i64) (.pair (.row (.pair (.int .i64) (.pair (.int .i64) (.pair (.int .i64) (.pair (.int .i64) (.pair (.int .i64) (.pair .str (.pair (.row (.int .i64)) .unit)))))))) .unit)))))
theorem laws_toUnit_e (k : Nat) (a1 : ByteArray × Int × Int × (List (Int × Int × Int × Int × Int × ByteArray × (List Int) × Unit)) × Unit) : laws_toUnit k a1 =
  bindO (laws_toTacS k a1.2.2.2.1) fun r1 => (some (a1.1, a1.2.1, a1.2.2.1, r1, ())) := by kernel_rfl
theorem E_laws_toUnit_calls (k : Nat) : CallsOk Try.prog (E_laws_toUnit k) (arun Try.prog (E_laws_toUnit k) k) := by
  refine told_run (tyDTOk _ _) ?_ (fun run h => regOk (tyDTOk _ _) mixOk h) ?_ nameOk k
  · intro g m hg
    simp only [E_laws_toUnit] at hg
    split at hg
    · cases hg
      refine con_byNew fun ρ l K x hm => ?_
      split at hm
      · obtain ⟨c1, h1, hm⟩ := Option.bind_eq_some_iff.1 hm
        obtain ⟨r, hr, hm⟩ := Option.bind_eq_some_iff.1 hm
        exact ⟨_, hm, LawD.reads (.cons (.as h1) .nil) (laws_toTacS_law k c1 r hr)⟩
      · cases hm
    · cases hg
  · intro g _ r; rfl
theorem f20_oklaws_toUnit : Try.prog.funcs[20]? = some Try.f20 := by kernel_rfl
theorem laws_toUnit_law (k : Nat) (a1 : ByteArray × Int × Int × (List (Int × Int × Int × Int × Int × ByteArray × (List Int) × Unit)) × Unit) (x : ByteArray × Int × Int × (List (Int × Int × Int × Int × Int × ByteArray × (List Int) × Unit)) × Unit) (h : laws_toUnit k a1 = some x) : LawD Try.prog 20 [.tv (.pair .str (.pair (.int .i64) (.pair (.int .i64) (.pair (.row (.pair (.int .i64) (.pair (.int .i64) (.pair (.int .i64) (.pair (.int .i64) (.pair (.int .i64) (.pair .str (.pair (.row (.int .i64)) .unit)))))))) .unit)))) a1] (.pair .str (.pair (.int .i64) (.pair (.int .i64) (.pair (.row (.pair (.int .i64) (.pair (.int .i64) (.pair (.int .i64) (.pair (.int .i64) (.pair (.int .i64) (.pair .str (.pair (.row (.int .i64)) .unit)))))))) .unit)))) x := by
  unfold laws_toUnit at h
  exact lawD (t := (.pair .str (.pair (.int .i64) (.pair (.int .i64) (.pair (.row (.pair (.int .i64) (.pair (.int .i64) (.pair (.int .i64) (.pair (.int .i64) (.pair (.int .i64) (.pair .str (.pair (.row (.int .i64)) .unit)))))))) .unit))))) (tyDTOk _ _) (E_laws_toUnit_calls k) mixOk f20_oklaws_toUnit (nameOk _ _ f20_oklaws_toUnit) (by kernel_rfl) h
/-! spec.l1In -/
noncomputable def E_spec_l1In (k : Nat) : Env := ⟨ty, fun _ => none, fun _ _ => none⟩
noncomputable def spec_l1In (k : Nat) (a1 : Int) (a2 : Int) (a3 : Int) : Option (Bool) :=
  abody (E_spec_l1In k) (arun Try.prog (E_spec_l1In k) k) k 51 Try.f51 [.int .i64 a1, .int .i64 a2, .int .i64 a3] [] (fin1 .bool)
theorem spec_l1In_e (k : Nat) (a1 : Int) (a2 : Int) (a3 : Int) : spec_l1In k a1 a2 a3 =
  iteB (decide (a1 ≥ a2)) (some (decide (a1 ≤ a3))) (some false) := by kernel_rfl
theorem E_spec_l1In_calls (k : Nat) : CallsOk Try.prog (E_spec_l1In k) (arun Try.prog (E_spec_l1In k) k) := by
  refine told_run (tyTOk _ _) ?_ (fun run h => regOk (tyTOk _ _) mixOk h) ?_ nameOk k
  · intro g m hg
    cases hg
  · intro g _ r; rfl
theorem f51_okspec_l1In : Try.prog.funcs[51]? = some Try.f51 := by kernel_rfl
theorem spec_l1In_law (k : Nat) (a1 : Int) (a2 : Int) (a3 : Int) (x : Bool) (h : spec_l1In k a1 a2 a3 = some x) : LawV Try.prog 51 [.int .i64 a1, .int .i64 a2, .int .i64 a3] (tvn .bool x) := by
  unfold spec_l1In at h
  exact law1 (t := .bool) (tyTOk _ _) (E_spec_l1In_calls k) mixOk f51_okspec_l1In (nameOk _ _ f51_okspec_l1In) (by kernel_rfl) h
/-! spec.l1Min -/
noncomputable def E_spec_l1Min (k : Nat) : Env := ⟨ty, fun _ => none, fun _ _ => none⟩
noncomputable def spec_l1Min (k : Nat) (a1 : Int) (a2 : Int) : Option (Int) :=
  abody (E_spec_l1Min k) (arun Try.prog (E_spec_l1Min k) k) k 99 Try.f99 [.int .i64 a1, .int .i64 a2] [] (fin1 (.int .i64))
theorem spec_l1Min_e (k : Nat) (a1 : Int) (a2 : Int) : spec_l1Min k a1 a2 =
  iteB (decide (a1 < a2)) (some a1) (some a2) := by kernel_rfl
theorem E_spec_l1Min_calls (k : Nat) : CallsOk Try.prog (E_spec_l1Min k) (arun Try.prog (E_spec_l1Min k) k) := by
  refine told_run (tyTOk _ _) ?_ (fun run h => regOk (tyTOk _ _) mixOk h) ?_ nameOk k
  · intro g m hg
    cases hg
  · intro g _ r; rfl
theorem f99_okspec_l1Min : Try.prog.funcs[99]? = some Try.f99 := by kernel_rfl
theorem spec_l1Min_law (k : Nat) (a1 : Int) (a2 : Int) (x : Int) (h : spec_l1Min k a1 a2 = some x) : LawV Try.prog 99 [.int .i64 a1, .int .i64 a2] (tvn (.int .i64) x) := by
  unfold spec_l1Min at h
  exact law1 (t := (.int .i64)) (tyTOk _ _) (E_spec_l1Min_calls k) mixOk f99_okspec_l1Min (nameOk _ _ f99_okspec_l1Min) (by kernel_rfl) h
/-! spec.l10Has -/
noncomputable def E_spec_l10Has (k : Nat) : Env := ⟨ty, fun g => match g with
  | 51 => some (byVal fun ρ l K => match l with
    | [b1, b2, b3] => (b1.as (.int .i64)).bind fun c1 => (b2.as (.int .i64)).bind fun c2 => (b3.as (.int .i64)).bind fun c3 => (spec_l1In k c1 c2 c3).bind fun r => K (tvn .bool r)
    | _ => none)
  | _ => none, fun _ _ => none⟩
noncomputable def spec_l10Has (k : Nat) (a1 : Int) : Option (Int) :=
  abody (E_spec_l10Has k) (arun Try.prog (E_spec_l10Has k) k) k 109 Try.f109 [.int .i64 a1] [] (fin1 (.int .i64))
theorem spec_l10Has_e (k : Nat) (a1 : Int) : spec_l10Has k a1 =
  bindO (spec_l1In k a1 1 28) fun r1 => (iteB (!r1) (some 0) (iteB (decide (0 ≤ a1)) (iteB (decide (a1 < ((List.length [0, 9, 3, 7, 7, 7, 7, 7, 8, 8, 10, 49, 2, 2, 48, 3, 6, 3, 2, 45, 3, 6, 39, 1, 17, 2, 6, 6, 2]) : Int))) (some (List.getD [0, 9, 3, 7, 7, 7, 7, 7, 8, 8, 10, 49, 2, 2, 48, 3, 6, 3, 2, 45, 3, 6, 39, 1, 17, 2, 6, 6, 2] (Int.toNat a1) 0)) (none)) (none))) := by kernel_rfl
theorem E_spec_l10Has_calls (k : Nat) : CallsOk Try.prog (E_spec_l10Has k) (arun Try.prog (E_spec_l10Has k) k) := by
  refine told_run (tyTOk _ _) ?_ (fun run h => regOk (tyTOk _ _) mixOk h) ?_ nameOk k
  · intro g m hg
    simp only [E_spec_l10Has] at hg
    split at hg
    · cases hg
      refine con_byVal fun ρ l K x hm => ?_
      split at hm
      · obtain ⟨c1, h1, hm⟩ := Option.bind_eq_some_iff.1 hm
        obtain ⟨c2, h2, hm⟩ := Option.bind_eq_some_iff.1 hm
        obtain ⟨c3, h3, hm⟩ := Option.bind_eq_some_iff.1 hm
        obtain ⟨r, hr, hm⟩ := Option.bind_eq_some_iff.1 hm
        exact ⟨_, hm, LawV.reads (.cons (.as h1) (.cons (.as h2) (.cons (.as h3) .nil))) (spec_l1In_law k c1 c2 c3 r hr)⟩
      · cases hm
    · cases hg
  · intro g _ r; rfl
theorem f109_okspec_l10Has : Try.prog.funcs[109]? = some Try.f109 := by kernel_rfl
theorem spec_l10Has_law (k : Nat) (a1 : Int) (x : Int) (h : spec_l10Has k a1 = some x) : LawV Try.prog 109 [.int .i64 a1] (tvn (.int .i64) x) := by
  unfold spec_l10Has at h
  exact law1 (t := (.int .i64)) (tyTOk _ _) (E_spec_l10Has_calls k) mixOk f109_okspec_l10Has (nameOk _ _ f109_okspec_l10Has) (by kernel_rfl) h
/-! spec.l10Args -/
noncomputable def E_spec_l10Args (k : Nat) : Env := ⟨ty, fun g => match g with
  | 51 => some (byVal fun ρ l K => match l with
    | [b1, b2, b3] => (b1.as (.int .i64)).bind fun c1 => (b2.as (.int .i64)).bind fun c2 => (b3.as (.int .i64)).bind fun c3 => (spec_l1In k c1 c2 c3).bind fun r => K (tvn .bool r)
    | _ => none)
  | 131 => some noCon
  | _ => none, fun f r => match f with | 131 => (match r with | 5 => some [1, 3, 4] | _ => none) | _ => none⟩
noncomputable def spec_l10Args (k : Nat) (a1 : Int × Int × Int × Int × Int × ByteArray × (List Int) × Unit) : Option (Bool) :=
  abody (E_spec_l10Args k) (arun Try.prog (E_spec_l10Args k) k) k 131 Try.f131 [.tv (.pair (.int .i64) (.pair (.int .i64) (.pair (.int .i64) (.pair (.int .i64) (.pair (.int .i64) (.pair .str (.pair (.row (.int .i64)) .unit))))))) a1] [] (fin1 .bool)
noncomputable def spec_l10Args.l5 (k n : Nat) (x3 : Int) (x4 : Int) (y0_0 : Int × Int × Int × Int × Int × ByteArray × (List Int) × Unit) : Option (Bool) :=
  resume (E_spec_l10Args k) 131 (acall (E_spec_l10Args k) (arun Try.prog (E_spec_l10Args k) k)) k [true, true, false, true, true, true, false, false, true, true] [n] (bodyOf Try.f131) ⟨[.undef, .ptr 0 0 0, .undef, .int .i64 x3, .int .i64 x4, .undef, .undef, .undef, .undef, .undef, .undef, .undef, .undef, .undef, .undef, .undef, .undef, .undef, .undef, .undef, .undef, .undef, .undef, .undef, .undef, .undef, .undef, .undef, .undef, .undef, .undef, .undef, .undef, .undef, .undef, .undef, .undef, .undef, .undef, .undef, .undef, .undef, .undef, .undef, .undef, .undef, .undef, .undef, .undef, .undef, .undef, .undef, .undef, .undef, .undef, .undef, .undef, .undef, .undef, .undef, .undef, .undef, .undef, .undef, .undef, .undef, .undef, .undef], [some ⟨.raw true 7 (.agg [.int .i64 0, .int .i64 0, .int .i64 0, .int .i64 0, .int .i64 0, .str ByteArray.empty, .nils]) [.tv (.pair (.int .i64) (.pair (.int .i64) (.pair (.int .i64) (.pair (.int .i64) (.pair (.int .i64) (.pair .str (.pair (.row (.int .i64)) .unit))))))) y0_0], true⟩]⟩ (leave (E_spec_l10Args k) Try.f131 (fin1 .bool))
theorem spec_l10Args.l5_0 (k : Nat) (x3 : Int) (x4 : Int) (y0_0 : Int × Int × Int × Int × Int × ByteArray × (List Int) × Unit) : spec_l10Args.l5 k 0 x3 x4 y0_0 = none := by kernel_rfl
theorem spec_l10Args.l5_s (k n : Nat) (x3 : Int) (x4 : Int) (y0_0 : Int × Int × Int × Int × Int × ByteArray × (List Int) × Unit) : spec_l10Args.l5 k (n + 1) x3 x4 y0_0 =
  iteB (decide (x4 < x3)) (iteB (decide (0 ≤ x4)) (iteB (decide (x4 < ((List.length y0_0.2.2.2.2.2.2.1) : Int))) (bindO (spec_l1In k (List.getD y0_0.2.2.2.2.2.2.1 (Int.toNat x4) 0) 1 2) fun r1 => (iteB (!(!r1)) (iteB (decide (IntKind.wrap .i64 (x4 + 2) < x3)) (iteB (decide (0 ≤ x4)) (iteB (decide (x4 < ((List.length y0_0.2.2.2.2.2.2.1) : Int))) (iteB ((List.getD y0_0.2.2.2.2.2.2.1 (Int.toNat x4) 0) == 1) (iteB (decide (0 ≤ IntKind.wrap .i64 (x4 + 2))) (iteB (decide (IntKind.wrap .i64 (x4 + 2) < ((List.length y0_0.2.2.2.2.2.2.1) : Int))) (iteB ((List.getD y0_0.2.2.2.2.2.2.1 (Int.toNat (IntKind.wrap .i64 (x4 + 2))) 0) != 0) (some false) (spec_l10Args.l5 k n x3 (IntKind.wrap .i64 (x4 + 3)) y0_0)) (none)) (none)) (spec_l10Args.l5 k n x3 (IntKind.wrap .i64 (x4 + 3)) y0_0)) (none)) (none)) (spec_l10Args.l5 k n x3 (IntKind.wrap .i64 (x4 + 3)) y0_0)) (some false))) (none)) (none)) (iteB (!(x3 == 3)) (iteB (!(x3 == 6)) (some (x3 == 9)) (some true)) (some true)) := by kernel_rfl
theorem spec_l10Args_e (k : Nat) (a1 : Int × Int × Int × Int × Int × ByteArray × (List Int) × Unit) : spec_l10Args k a1 =
  iteB (a1.1 == 19) (spec_l10Args.l5 k k ((List.length a1.2.2.2.2.2.2.1) : Int) 0 a1) (iteB (a1.1 == 22) (some (((List.length a1.2.2.2.2.2.2.1) : Int) == 1)) (iteB (a1.1 == 11) (some (decide (((List.length a1.2.2.2.2.2.2.1) : Int) ≤ 4))) (iteB (a1.1 == 14) (some (decide (((List.length a1.2.2.2.2.2.2.1) : Int) ≤ 4))) (some (((List.length a1.2.2.2.2.2.2.1) : Int) == 0))))) := by kernel_rfl
theorem E_spec_l10Args_calls (k : Nat) : CallsOk Try.prog (E_spec_l10Args k) (arun Try.prog (E_spec_l10Args k) k) := by
  refine told_run (tyTOk _ _) ?_ (fun run h => regOk (tyTOk _ _) mixOk h) ?_ nameOk k
  · intro g m hg
    simp only [E_spec_l10Args] at hg
    split at hg
    · cases hg
      refine con_byVal fun ρ l K x hm => ?_
      split at hm
      · obtain ⟨c1, h1, hm⟩ := Option.bind_eq_some_iff.1 hm
        obtain ⟨c2, h2, hm⟩ := Option.bind_eq_some_iff.1 hm
        obtain ⟨c3, h3, hm⟩ := Option.bind_eq_some_iff.1 hm
        obtain ⟨r, hr, hm⟩ := Option.bind_eq_some_iff.1 hm
        exact ⟨_, hm, LawV.reads (.cons (.as h1) (.cons (.as h2) (.cons (.as h3) .nil))) (spec_l1In_law k c1 c2 c3 r hr)⟩
      · cases hm
    · cases hg; exact noCon_ok
    · cases hg
  · intro g hg r
    by_cases h : g = 131
    · subst h; simp [E_spec_l10Args] at hg
    · simp [E_spec_l10Args, h]
theorem f131_okspec_l10Args : Try.prog.funcs[131]? = some Try.f131 := by kernel_rfl
theorem spec_l10Args_law (k : Nat) (a1 : Int × Int × Int × Int × Int × ByteArray × (List Int) × Unit) (x : Bool) (h : spec_l10Args k a1 = some x) : LawV Try.prog 131 [.tv (.pair (.int .i64) (.pair (.int .i64) (.pair (.int .i64) (.pair (.int .i64) (.pair (.int .i64) (.pair .str (.pair (.row (.int .i64)) .unit))))))) a1] (tvn .bool x) := by
  unfold spec_l10Args at h
  exact law1 (t := .bool) (tyTOk _ _) (E_spec_l10Args_calls k) mixOk f131_okspec_l10Args (nameOk _ _ f131_okspec_l10Args) (by kernel_rfl) h
/-! spec.Sets -/
noncomputable def E_spec_Sets (k : Nat) : Env := ⟨ty, fun g => match g with
  | 109 => some (byVal fun ρ l K => match l with
    | [b1] => (b1.as (.int .i64)).bind fun c1 => (spec_l10Has k c1).bind fun r => K (tvn (.int .i64) r)
    | _ => none)
  | 62 => some noCon
  | _ => none, fun f r => match f with | 62 => (match r with | 4 => some [1, 3] | _ => none) | _ => none⟩
noncomputable def spec_Sets (k : Nat) (a1 : Int × Int × Int × Int × Int × ByteArray × (List Int) × Unit) : Option (List Int) :=
  abody (E_spec_Sets k) (arun Try.prog (E_spec_Sets k) k) k 62 Try.f62 [.tv (.pair (.int .i64) (.pair (.int .i64) (.pair (.int .i64) (.pair (.int .i64) (.pair (.int .i64) (.pair .str (.pair (.row (.int .i64)) .unit))))))) a1] [] (finF (.int .i64))
noncomputable def spec_Sets.j4 (k : Nat) (y0_0 : Int × Int × Int × Int × Int × ByteArray × (List Int) × Unit) (y1 : List Int) : Option (List Int) :=
  resume (E_spec_Sets k) 62 (acall (E_spec_Sets k) (arun Try.prog (E_spec_Sets k) k)) k [true, true, true] [] (bodyOf Try.f62) ⟨[.undef, .ptr 0 0 0, .undef, .sl 1, .undef, .undef, .undef, .undef, .undef, .undef, .undef, .undef, .undef, .undef, .undef, .undef, .undef, .undef, .undef, .undef, .undef, .undef, .undef, .undef], [some ⟨.raw true 7 (.agg [.int .i64 0, .int .i64 0, .int .i64 0, .int .i64 0, .int .i64 0, .str ByteArray.empty, .nils]) [.tv (.pair (.int .i64) (.pair (.int .i64) (.pair (.int .i64) (.pair (.int .i64) (.pair (.int .i64) (.pair .str (.pair (.row (.int .i64)) .unit))))))) y0_0], true⟩, some ⟨.typed (.int .i64) y1, false⟩]⟩ (leave (E_spec_Sets k) Try.f62 (finF (.int .i64)))
noncomputable def spec_Sets.j4b (k : Nat) (y0_0 : Int × Int × Int × Int × Int × ByteArray × (List Int) × Unit) : Option (List Int) :=
  resume (E_spec_Sets k) 62 (acall (E_spec_Sets k) (arun Try.prog (E_spec_Sets k) k)) k [true, true, true] [] (bodyOf Try.f62) ⟨[.undef, .ptr 0 0 0, .undef, .sl 1, .undef, .undef, .undef, .undef, .undef, .undef, .undef, .undef, .undef, .undef, .undef, .undef, .undef, .undef, .undef, .undef, .undef, .undef, .undef, .undef], [some ⟨.raw true 7 (.agg [.int .i64 0, .int .i64 0, .int .i64 0, .int .i64 0, .int .i64 0, .str ByteArray.empty, .nils]) [.tv (.pair (.int .i64) (.pair (.int .i64) (.pair (.int .i64) (.pair (.int .i64) (.pair (.int .i64) (.pair .str (.pair (.row (.int .i64)) .unit))))))) y0_0], true⟩, some ⟨.typed (.int .i64) [], true⟩]⟩ (leave (E_spec_Sets k) Try.f62 (finF (.int .i64)))
theorem spec_Sets.j4_e (k : Nat) (y0_0 : Int × Int × Int × Int × Int × ByteArray × (List Int) × Unit) (y1 : List Int) : spec_Sets.j4 k y0_0 y1 =
  iteB (y0_0.1 == 19) (iteB (decide ((List.length (y1 ++ [y0_0.2.2.2.1])) * 8 ≤ lim)) (some (y1 ++ [y0_0.2.2.2.1])) (none)) (some y1) := by kernel_rfl
theorem spec_Sets.j4b_e (k : Nat) (y0_0 : Int × Int × Int × Int × Int × ByteArray × (List Int) × Unit) : spec_Sets.j4b k y0_0 =
  iteB (y0_0.1 == 19) (iteB (decide ((List.length ([] ++ [y0_0.2.2.2.1])) * 8 ≤ lim)) (some ([] ++ [y0_0.2.2.2.1])) (none)) (some []) := by kernel_rfl
theorem spec_Sets_e (k : Nat) (a1 : Int × Int × Int × Int × Int × ByteArray × (List Int) × Unit) : spec_Sets k a1 =
  bindO (spec_l10Has k a1.1) fun r1 => (iteB ((IntKind.wrap .i64 ((BitVec.ofInt (IntKind.bits .i64) r1 &&& BitVec.ofInt (IntKind.bits .i64) 1).toNat : Int)) != 0) (iteB (decide ((List.length ([] ++ [a1.2.1])) * 8 ≤ lim)) (gate k (spec_Sets.j4 k a1 ([] ++ [a1.2.1]))) (none)) (gate k (spec_Sets.j4b k a1))) := by kernel_rfl
theorem E_spec_Sets_calls (k : Nat) : CallsOk Try.prog (E_spec_Sets k) (arun Try.prog (E_spec_Sets k) k) := by
  refine told_run (tyTOk _ _) ?_ (fun run h => regOk (tyTOk _ _) mixOk h) ?_ nameOk k
  · intro g m hg
    simp only [E_spec_Sets] at hg
    split at hg
    · cases hg
      refine con_byVal fun ρ l K x hm => ?_
      split at hm
      · obtain ⟨c1, h1, hm⟩ := Option.bind_eq_some_iff.1 hm
        obtain ⟨r, hr, hm⟩ := Option.bind_eq_some_iff.1 hm
        exact ⟨_, hm, LawV.reads (.cons (.as h1) .nil) (spec_l10Has_law k c1 r hr)⟩
      · cases hm
    · cases hg; exact noCon_ok
    · cases hg
  · intro g hg r
    by_cases h : g = 62
    · subst h; simp [E_spec_Sets] at hg
    · simp [E_spec_Sets, h]
theorem f62_okspec_Sets : Try.prog.funcs[62]? = some Try.f62 := by kernel_rfl
theorem spec_Sets_law (k : Nat) (a1 : Int × Int × Int × Int × Int × ByteArray × (List Int) × Unit) (x : List Int) (h : spec_Sets k a1 = some x) : LawF Try.prog 62 [.tv (.pair (.int .i64) (.pair (.int .i64) (.pair (.int .i64) (.pair (.int .i64) (.pair (.int .i64) (.pair .str (.pair (.row (.int .i64)) .unit))))))) a1] (.int .i64) x := by
  unfold spec_Sets at h
  exact lawF (e := (.int .i64)) (tyTOk _ _) (E_spec_Sets_calls k) mixOk f62_okspec_Sets (nameOk _ _ f62_okspec_Sets) (by kernel_rfl) h
/-! spec.Uses -/
noncomputable def E_spec_Uses (k : Nat) : Env := ⟨ty, fun g => match g with
  | 109 => some (byVal fun ρ l K => match l with
    | [b1] => (b1.as (.int .i64)).bind fun c1 => (spec_l10Has k c1).bind fun r => K (tvn (.int .i64) r)
    | _ => none)
  | 154 => some noCon
  | _ => none, fun f r => match f with | 154 => (match r with | 5 => some [1, 3, 4] | 7 => some [1, 3, 4] | 8 => some [1, 3, 4, 5] | 10 => some [1, 3, 4, 5] | _ => none) | _ => none⟩
noncomputable def spec_Uses (k : Nat) (a1 : Int × Int × Int × Int × Int × ByteArray × (List Int) × Unit) : Option (List Int) :=
  abody (E_spec_Uses k) (arun Try.prog (E_spec_Uses k) k) k 154 Try.f154 [.tv (.pair (.int .i64) (.pair (.int .i64) (.pair (.int .i64) (.pair (.int .i64) (.pair (.int .i64) (.pair .str (.pair (.row (.int .i64)) .unit))))))) a1] [] (fin1 (.row (.int .i64)))
noncomputable def spec_Uses.j5 (k : Nat) (x4 : Int) (y0_0 : Int × Int × Int × Int × Int × ByteArray × (List Int) × Unit) (y1 : List Int) : Option (List Int) :=
  resume (E_spec_Uses k) 154 (acall (E_spec_Uses k) (arun Try.prog (E_spec_Uses k) k)) k [true, true, true, true] [] (bodyOf Try.f154) ⟨[.undef, .ptr 0 0 0, .undef, .sl 1, .int .i64 x4, .undef, .undef, .undef, .undef, .undef, .undef, .undef, .undef, .undef, .undef, .undef, .undef, .undef, .undef, .undef, .undef, .undef, .undef, .undef, .undef, .undef, .undef, .undef, .undef, .undef, .undef, .undef, .undef, .undef, .undef, .undef, .undef, .undef, .undef, .undef, .undef, .undef, .undef, .undef, .undef, .undef, .undef, .undef, .undef, .undef, .undef, .undef, .undef, .undef, .undef, .undef, .undef, .undef, .undef, .undef, .undef, .undef, .undef, .undef, .undef, .undef, .undef, .undef, .undef, .undef, .undef, .undef, .undef, .undef], [some ⟨.raw true 7 (.agg [.int .i64 0, .int .i64 0, .int .i64 0, .int .i64 0, .int .i64 0, .str ByteArray.empty, .nils]) [.tv (.pair (.int .i64) (.pair (.int .i64) (.pair (.int .i64) (.pair (.int .i64) (.pair (.int .i64) (.pair .str (.pair (.row (.int .i64)) .unit))))))) y0_0], true⟩, some ⟨.typed (.int .i64) y1, false⟩]⟩ (leave (E_spec_Uses k) Try.f154 (fin1 (.row (.int .i64))))
noncomputable def spec_Uses.j5b (k : Nat) (x4 : Int) (y0_0 : Int × Int × Int × Int × Int × ByteArray × (List Int) × Unit) : Option (List Int) :=
  resume (E_spec_Uses k) 154 (acall (E_spec_Uses k) (arun Try.prog (E_spec_Uses k) k)) k [true, true, true, true] [] (bodyOf Try.f154) ⟨[.undef, .ptr 0 0 0, .undef, .sl 1, .int .i64 x4, .undef, .undef, .undef, .undef, .undef, .undef, .undef, .undef, .undef, .undef, .undef, .undef, .undef, .undef, .undef, .undef, .undef, .undef, .undef, .undef, .undef, .undef, .undef, .undef, .undef, .undef, .undef, .undef, .undef, .undef, .undef, .undef, .undef, .undef, .undef, .undef, .undef, .undef, .undef, .undef, .undef, .undef, .undef, .undef, .undef, .undef, .undef, .undef, .undef, .undef, .undef, .undef, .undef, .undef, .undef, .undef, .undef, .undef, .undef, .undef, .undef, .undef, .undef, .undef, .undef, .undef, .undef, .undef, .undef], [some ⟨.raw true 7 (.agg [.int .i64 0, .int .i64 0, .int .i64 0, .int .i64 0, .int .i64 0, .str ByteArray.empty, .nils]) [.tv (.pair (.int .i64) (.pair (.int .i64) (.pair (.int .i64) (.pair (.int .i64) (.pair (.int .i64) (.pair .str (.pair (.row (.int .i64)) .unit))))))) y0_0], true⟩, some ⟨.typed (.int .i64) [], true⟩]⟩ (leave (E_spec_Uses k) Try.f154 (fin1 (.row (.int .i64))))
noncomputable def spec_Uses.j7 (k : Nat) (x4 : Int) (y0_0 : Int × Int × Int × Int × Int × ByteArray × (List Int) × Unit) (y1 : List Int) : Option (List Int) :=
  resume (E_spec_Uses k) 154 (acall (E_spec_Uses k) (arun Try.prog (E_spec_Uses k) k)) k [true, true, true, true, true] [] (bodyOf Try.f154) ⟨[.undef, .ptr 0 0 0, .undef, .sl 1, .int .i64 x4, .undef, .undef, .undef, .undef, .undef, .undef, .undef, .undef, .undef, .undef, .undef, .undef, .undef, .undef, .undef, .undef, .undef, .undef, .undef, .undef, .undef, .undef, .undef, .undef, .undef, .undef, .undef, .undef, .undef, .undef, .undef, .undef, .undef, .undef, .undef, .undef, .undef, .undef, .undef, .undef, .undef, .undef, .undef, .undef, .undef, .undef, .undef, .undef, .undef, .undef, .undef, .undef, .undef, .undef, .undef, .undef, .undef, .undef, .undef, .undef, .undef, .undef, .undef, .undef, .undef, .undef, .undef, .undef, .undef], [some ⟨.raw true 7 (.agg [.int .i64 0, .int .i64 0, .int .i64 0, .int .i64 0, .int .i64 0, .str ByteArray.empty, .nils]) [.tv (.pair (.int .i64) (.pair (.int .i64) (.pair (.int .i64) (.pair (.int .i64) (.pair (.int .i64) (.pair .str (.pair (.row (.int .i64)) .unit))))))) y0_0], true⟩, some ⟨.typed (.int .i64) y1, false⟩]⟩ (leave (E_spec_Uses k) Try.f154 (fin1 (.row (.int .i64))))
noncomputable def spec_Uses.j7b (k : Nat) (x4 : Int) (y0_0 : Int × Int × Int × Int × Int × ByteArray × (List Int) × Unit) : Option (List Int) :=
  resume (E_spec_Uses k) 154 (acall (E_spec_Uses k) (arun Try.prog (E_spec_Uses k) k)) k [true, true, true, true, true] [] (bodyOf Try.f154) ⟨[.undef, .ptr 0 0 0, .undef, .sl 1, .int .i64 x4, .undef, .undef, .undef, .undef, .undef, .undef, .undef, .undef, .undef, .undef, .undef, .undef, .undef, .undef, .undef, .undef, .undef, .undef, .undef, .undef, .undef, .undef, .undef, .undef, .undef, .undef, .undef, .undef, .undef, .undef, .undef, .undef, .undef, .undef, .undef, .undef, .undef, .undef, .undef, .undef, .undef, .undef, .undef, .undef, .undef, .undef, .undef, .undef, .undef, .undef, .undef, .undef, .undef, .undef, .undef, .undef, .undef, .undef, .undef, .undef, .undef, .undef, .undef, .undef, .undef, .undef, .undef, .undef, .undef], [some ⟨.raw true 7 (.agg [.int .i64 0, .int .i64 0, .int .i64 0, .int .i64 0, .int .i64 0, .str ByteArray.empty, .nils]) [.tv (.pair (.int .i64) (.pair (.int .i64) (.pair (.int .i64) (.pair (.int .i64) (.pair (.int .i64) (.pair .str (.pair (.row (.int .i64)) .unit))))))) y0_0], true⟩, some ⟨.typed (.int .i64) [], true⟩]⟩ (leave (E_spec_Uses k) Try.f154 (fin1 (.row (.int .i64))))
noncomputable def spec_Uses.l8 (k n : Nat) (x4 : Int) (x5 : Int) (y0_0 : Int × Int × Int × Int × Int × ByteArray × (List Int) × Unit) (y1 : List Int) : Option (List Int) :=
  resume (E_spec_Uses k) 154 (acall (E_spec_Uses k) (arun Try.prog (E_spec_Uses k) k)) k [true, true, true, true, true, false, true, true] [n] (bodyOf Try.f154) ⟨[.undef, .ptr 0 0 0, .undef, .sl 1, .int .i64 x4, .int .i64 x5, .undef, .undef, .undef, .undef, .undef, .undef, .undef, .undef, .undef, .undef, .undef, .undef, .undef, .undef, .undef, .undef, .undef, .undef, .undef, .undef, .undef, .undef, .undef, .undef, .undef, .undef, .undef, .undef, .undef, .undef, .undef, .undef, .undef, .undef, .undef, .undef, .undef, .undef, .undef, .undef, .undef, .undef, .undef, .undef, .undef, .undef, .undef, .undef, .undef, .undef, .undef, .undef, .undef, .undef, .undef, .undef, .undef, .undef, .undef, .undef, .undef, .undef, .undef, .undef, .undef, .undef, .undef, .undef], [some ⟨.raw true 7 (.agg [.int .i64 0, .int .i64 0, .int .i64 0, .int .i64 0, .int .i64 0, .str ByteArray.empty, .nils]) [.tv (.pair (.int .i64) (.pair (.int .i64) (.pair (.int .i64) (.pair (.int .i64) (.pair (.int .i64) (.pair .str (.pair (.row (.int .i64)) .unit))))))) y0_0], true⟩, some ⟨.typed (.int .i64) y1, false⟩]⟩ (leave (E_spec_Uses k) Try.f154 (fin1 (.row (.int .i64))))
noncomputable def spec_Uses.l8b (k n : Nat) (x4 : Int) (x5 : Int) (y0_0 : Int × Int × Int × Int × Int × ByteArray × (List Int) × Unit) : Option (List Int) :=
  resume (E_spec_Uses k) 154 (acall (E_spec_Uses k) (arun Try.prog (E_spec_Uses k) k)) k [true, true, true, true, true, false, true, true] [n] (bodyOf Try.f154) ⟨[.undef, .ptr 0 0 0, .undef, .sl 1, .int .i64 x4, .int .i64 x5, .undef, .undef, .undef, .undef, .undef, .undef, .undef, .undef, .undef, .undef, .undef, .undef, .undef, .undef, .undef, .undef, .undef, .undef, .undef, .undef, .undef, .undef, .undef, .undef, .undef, .undef, .undef, .undef, .undef, .undef, .undef, .undef, .undef, .undef, .undef, .undef, .undef, .undef, .undef, .undef, .undef, .undef, .undef, .undef, .undef, .undef, .undef, .undef, .undef, .undef, .undef, .undef, .undef, .undef, .undef, .undef, .undef, .undef, .undef, .undef, .undef, .undef, .undef, .undef, .undef, .undef, .undef, .undef], [some ⟨.raw true 7 (.agg [.int .i64 0, .int .i64 0, .int .i64 0, .int .i64 0, .int .i64 0, .str ByteArray.empty, .nils]) [.tv (.pair (.int .i64) (.pair (.int .i64) (.pair (.int .i64) (.pair (.int .i64) (.pair (.int .i64) (.pair .str (.pair (.row (.int .i64)) .unit))))))) y0_0], true⟩, some ⟨.typed (.int .i64) [], true⟩]⟩ (leave (E_spec_Uses k) Try.f154 (fin1 (.row (.int .i64))))
noncomputable def spec_Uses.j10 (k m8 : Nat) (x4 : Int) (x5 : Int) (y0_0 : Int × Int × Int × Int × Int × ByteArray × (List Int) × Unit) (y1 : List Int) : Option (List Int) :=
  resume (E_spec_Uses k) 154 (acall (E_spec_Uses k) (arun Try.prog (E_spec_Uses k) k)) k [true, true, true, true, true, false, true, true, true, true] [m8] (bodyOf Try.f154) ⟨[.undef, .ptr 0 0 0, .undef, .sl 1, .int .i64 x4, .int .i64 x5, .undef, .undef, .undef, .undef, .undef, .undef, .undef, .undef, .undef, .undef, .undef, .undef, .undef, .undef, .undef, .undef, .undef, .undef, .undef, .undef, .undef, .undef, .undef, .undef, .undef, .undef, .undef, .undef, .undef, .undef, .undef, .undef, .undef, .undef, .undef, .undef, .undef, .undef, .undef, .undef, .undef, .undef, .undef, .undef, .undef, .undef, .undef, .undef, .undef, .undef, .undef, .undef, .undef, .undef, .undef, .undef, .undef, .undef, .undef, .undef, .undef, .undef, .undef, .undef, .undef, .undef, .undef, .undef], [some ⟨.raw true 7 (.agg [.int .i64 0, .int .i64 0, .int .i64 0, .int .i64 0, .int .i64 0, .str ByteArray.empty, .nils]) [.tv (.pair (.int .i64) (.pair (.int .i64) (.pair (.int .i64) (.pair (.int .i64) (.pair (.int .i64) (.pair .str (.pair (.row (.int .i64)) .unit))))))) y0_0], true⟩, some ⟨.typed (.int .i64) y1, false⟩]⟩ (leave (E_spec_Uses k) Try.f154 (fin1 (.row (.int .i64))))
noncomputable def spec_Uses.j10b (k m8 : Nat) (x4 : Int) (x5 : Int) (y0_0 : Int × Int × Int × Int × Int × ByteArray × (List Int) × Unit) : Option (List Int) :=
  resume (E_spec_Uses k) 154 (acall (E_spec_Uses k) (arun Try.prog (E_spec_Uses k) k)) k [true, true, true, true, true, false, true, true, true, true] [m8] (bodyOf Try.f154) ⟨[.undef, .ptr 0 0 0, .undef, .sl 1, .int .i64 x4, .int .i64 x5, .undef, .undef, .undef, .undef, .undef, .undef, .undef, .undef, .undef, .undef, .undef, .undef, .undef, .undef, .undef, .undef, .undef, .undef, .undef, .undef, .undef, .undef, .undef, .undef, .undef, .undef, .undef, .undef, .undef, .undef, .undef, .undef, .undef, .undef, .undef, .undef, .undef, .undef, .undef, .undef, .undef, .undef, .undef, .undef, .undef, .undef, .undef, .undef, .undef, .undef, .undef, .undef, .undef, .undef, .undef, .undef, .undef, .undef, .undef, .undef, .undef, .undef, .undef, .undef, .undef, .undef, .undef, .undef], [some ⟨.raw true 7 (.agg [.int .i64 0, .int .i64 0, .int .i64 0, .int .i64 0, .int .i64 0, .str ByteArray.empty, .nils]) [.tv (.pair (.int .i64) (.pair (.int .i64) (.pair (.int .i64) (.pair (.int .i64) (.pair (.int .i64) (.pair .str (.pair (.row (.int .i64)) .unit))))))) y0_0], true⟩, some ⟨.typed (.int .i64) [], true⟩]⟩ (leave (E_spec_Uses k) Try.f154 (fin1 (.row (.int .i64))))
theorem spec_Uses.j5_e (k : Nat) (x4 : Int) (y0_0 : Int × Int × Int × Int × Int × ByteArray × (List Int) × Unit) (y1 : List Int) : spec_Uses.j5 k x4 y0_0 y1 =
  iteB ((IntKind.wrap .i64 ((BitVec.ofInt (IntKind.bits .i64) x4 &&& BitVec.ofInt (IntKind.bits .i64) 4).toNat : Int)) != 0) (iteB (y0_0.1 != 19) (iteB (decide ((List.length (y1 ++ [y0_0.2.2.2.1])) * 8 ≤ lim)) (gate k (spec_Uses.j7 k x4 y0_0 (y1 ++ [y0_0.2.2.2.1]))) (none)) (gate k (spec_Uses.j7 k x4 y0_0 y1))) (gate k (spec_Uses.j7 k x4 y0_0 y1)) := by kernel_rfl
theorem spec_Uses.j5b_e (k : Nat) (x4 : Int) (y0_0 : Int × Int × Int × Int × Int × ByteArray × (List Int) × Unit) : spec_Uses.j5b k x4 y0_0 =
  iteB ((IntKind.wrap .i64 ((BitVec.ofInt (IntKind.bits .i64) x4 &&& BitVec.ofInt (IntKind.bits .i64) 4).toNat : Int)) != 0) (iteB (y0_0.1 != 19) (iteB (decide ((List.length ([] ++ [y0_0.2.2.2.1])) * 8 ≤ lim)) (gate k (spec_Uses.j7 k x4 y0_0 ([] ++ [y0_0.2.2.2.1]))) (none)) (gate k (spec_Uses.j7b k x4 y0_0))) (gate k (spec_Uses.j7b k x4 y0_0)) := by kernel_rfl
theorem spec_Uses.j7_e (k : Nat) (x4 : Int) (y0_0 : Int × Int × Int × Int × Int × ByteArray × (List Int) × Unit) (y1 : List Int) : spec_Uses.j7 k x4 y0_0 y1 =
  spec_Uses.l8 k k x4 0 y0_0 y1 := by kernel_rfl
theorem spec_Uses.j7b_e (k : Nat) (x4 : Int) (y0_0 : Int × Int × Int × Int × Int × ByteArray × (List Int) × Unit) : spec_Uses.j7b k x4 y0_0 =
  spec_Uses.l8b k k x4 0 y0_0 := by kernel_rfl
theorem spec_Uses.l8_0 (k : Nat) (x4 : Int) (x5 : Int) (y0_0 : Int × Int × Int × Int × Int × ByteArray × (List Int) × Unit) (y1 : List Int) : spec_Uses.l8 k 0 x4 x5 y0_0 y1 = none := by kernel_rfl
theorem spec_Uses.l8_s (k n : Nat) (x4 : Int) (x5 : Int) (y0_0 : Int × Int × Int × Int × Int × ByteArray × (List Int) × Unit) (y1 : List Int) : spec_Uses.l8 k (n + 1) x4 x5 y0_0 y1 =
  iteB (decide (x5 < ((List.length y0_0.2.2.2.2.2.2.1) : Int))) (iteB ((IntKind.wrap .i64 ((BitVec.ofInt (IntKind.bits .i64) x4 &&& BitVec.ofInt (IntKind.bits .i64) 32).toNat : Int)) != 0) (gate k (spec_Uses.j10 k n x4 x5 y0_0 y1)) (some y1)) (some y1) := by kernel_rfl
theorem spec_Uses.l8b_0 (k : Nat) (x4 : Int) (x5 : Int) (y0_0 : Int × Int × Int × Int × Int × ByteArray × (List Int) × Unit) : spec_Uses.l8b k 0 x4 x5 y0_0 = none := by kernel_rfl
theorem spec_Uses.l8b_s (k n : Nat) (x4 : Int) (x5 : Int) (y0_0 : Int × Int × Int × Int × Int × ByteArray × (List Int) × Unit) : spec_Uses.l8b k (n + 1) x4 x5 y0_0 =
  iteB (decide (x5 < ((List.length y0_0.2.2.2.2.2.2.1) : Int))) (iteB ((IntKind.wrap .i64 ((BitVec.ofInt (IntKind.bits .i64) x4 &&& BitVec.ofInt (IntKind.bits .i64) 32).toNat : Int)) != 0) (gate k (spec_Uses.j10b k n x4 x5 y0_0)) (some [])) (some []) := by kernel_rfl
theorem spec_Uses.j10_e (k m8 : Nat) (x4 : Int) (x5 : Int) (y0_0 : Int × Int × Int × Int × Int × ByteArray × (List Int) × Unit) (y1 : List Int) : spec_Uses.j10 k m8 x4 x5 y0_0 y1 =
  iteB (!(y0_0.1 != 19)) (iteB (!((Int.tmod x5 3) == 1)) (iteB ((Int.tmod x5 3) == 2) (iteB (decide (0 ≤ IntKind.wrap .i64 (x5 - 2))) (iteB (decide (IntKind.wrap .i64 (x5 - 2) < ((List.length y0_0.2.2.2.2.2.2.1) : Int))) (iteB ((List.getD y0_0.2.2.2.2.2.2.1 (Int.toNat (IntKind.wrap .i64 (x5 - 2))) 0) == 2) (iteB (decide (0 ≤ x5)) (iteB (decide (x5 < ((List.length y0_0.2.2.2.2.2.2.1) : Int))) (iteB (decide ((List.length (y1 ++ [List.getD y0_0.2.2.2.2.2.2.1 (Int.toNat x5) 0])) * 8 ≤ lim)) (spec_Uses.l8 k m8 x4 (IntKind.wrap .i64 (x5 + 1)) y0_0 (y1 ++ [List.getD y0_0.2.2.2.2.2.2.1 (Int.toNat x5) 0])) (none)) (none)) (none)) (spec_Uses.l8 k m8 x4 (IntKind.wrap .i64 (x5 + 1)) y0_0 y1)) (none)) (none)) (spec_Uses.l8 k m8 x4 (IntKind.wrap .i64 (x5 + 1)) y0_0 y1)) (iteB (decide (0 ≤ x5)) (iteB (decide (x5 < ((List.length y0_0.2.2.2.2.2.2.1) : Int))) (iteB (decide ((List.length (y1 ++ [List.getD y0_0.2.2.2.2.2.2.1 (Int.toNat x5) 0])) * 8 ≤ lim)) (spec_Uses.l8 k m8 x4 (IntKind.wrap .i64 (x5 + 1)) y0_0 (y1 ++ [List.getD y0_0.2.2.2.2.2.2.1 (Int.toNat x5) 0])) (none)) (none)) (none))) (iteB (decide (0 ≤ x5)) (iteB (decide (x5 < ((List.length y0_0.2.2.2.2.2.2.1) : Int))) (iteB (decide ((List.length (y1 ++ [List.getD y0_0.2.2.2.2.2.2.1 (Int.toNat x5) 0])) * 8 ≤ lim)) (spec_Uses.l8 k m8 x4 (IntKind.wrap .i64 (x5 + 1)) y0_0 (y1 ++ [List.getD y0_0.2.2.2.2.2.2.1 (Int.toNat x5) 0])) (none)) (none)) (none)) := by kernel_rfl
theorem spec_Uses.j10b_e (k m8 : Nat) (x4 : Int) (x5 : Int) (y0_0 : Int × Int × Int × Int × Int × ByteArray × (List Int) × Unit) : spec_Uses.j10b k m8 x4 x5 y0_0 =
  iteB (!(y0_0.1 != 19)) (iteB (!((Int.tmod x5 3) == 1)) (iteB ((Int.tmod x5 3) == 2) (iteB (decide (0 ≤ IntKind.wrap .i64 (x5 - 2))) (iteB (decide (IntKind.wrap .i64 (x5 - 2) < ((List.length y0_0.2.2.2.2.2.2.1) : Int))) (iteB ((List.getD y0_0.2.2.2.2.2.2.1 (Int.toNat (IntKind.wrap .i64 (x5 - 2))) 0) == 2) (iteB (decide (0 ≤ x5)) (iteB (decide (x5 < ((List.length y0_0.2.2.2.2.2.2.1) : Int))) (iteB (decide ((List.length ([] ++ [List.getD y0_0.2.2.2.2.2.2.1 (Int.toNat x5) 0])) * 8 ≤ lim)) (spec_Uses.l8 k m8 x4 (IntKind.wrap .i64 (x5 + 1)) y0_0 ([] ++ [List.getD y0_0.2.2.2.2.2.2.1 (Int.toNat x5) 0])) (none)) (none)) (none)) (spec_Uses.l8b k m8 x4 (IntKind.wrap .i64 (x5 + 1)) y0_0)) (none)) (none)) (spec_Uses.l8b k m8 x4 (IntKind.wrap .i64 (x5 + 1)) y0_0)) (iteB (decide (0 ≤ x5)) (iteB (decide (x5 < ((List.length y0_0.2.2.2.2.2.2.1) : Int))) (iteB (decide ((List.length ([] ++ [List.getD y0_0.2.2.2.2.2.2.1 (Int.toNat x5) 0])) * 8 ≤ lim)) (spec_Uses.l8 k m8 x4 (IntKind.wrap .i64 (x5 + 1)) y0_0 ([] ++ [List.getD y0_0.2.2.2.2.2.2.1 (Int.toNat x5) 0])) (none)) (none)) (none))) (iteB (decide (0 ≤ x5)) (iteB (decide (x5 < ((List.length y0_0.2.2.2.2.2.2.1) : Int))) (iteB (decide ((List.length ([] ++ [List.getD y0_0.2.2.2.2.2.2.1 (Int.toNat x5) 0])) * 8 ≤ lim)) (spec_Uses.l8 k m8 x4 (IntKind.wrap .i64 (x5 + 1)) y0_0 ([] ++ [List.getD y0_0.2.2.2.2.2.2.1 (Int.toNat x5) 0])) (none)) (none)) (none)) := by kernel_rfl
theorem spec_Uses_e (k : Nat) (a1 : Int × Int × Int × Int × Int × ByteArray × (List Int) × Unit) : spec_Uses k a1 =
  bindO (spec_l10Has k a1.1) fun r1 => (iteB ((IntKind.wrap .i64 ((BitVec.ofInt (IntKind.bits .i64) r1 &&& BitVec.ofInt (IntKind.bits .i64) 2).toNat : Int)) != 0) (iteB (decide ((List.length ([] ++ [a1.2.2.1])) * 8 ≤ lim)) (gate k (spec_Uses.j5 k r1 a1 ([] ++ [a1.2.2.1]))) (none)) (gate k (spec_Uses.j5b k r1 a1))) := by kernel_rfl
theorem E_spec_Uses_calls (k : Nat) : CallsOk Try.prog (E_spec_Uses k) (arun Try.prog (E_spec_Uses k) k) := by
  refine told_run (tyTOk _ _) ?_ (fun run h => regOk (tyTOk _ _) mixOk h) ?_ nameOk k
  · intro g m hg
    simp only [E_spec_Uses] at hg
    split at hg
    · cases hg
      refine con_byVal fun ρ l K x hm => ?_
      split at hm
      · obtain ⟨c1, h1, hm⟩ := Option.bind_eq_some_iff.1 hm
        obtain ⟨r, hr, hm⟩ := Option.bind_eq_some_iff.1 hm
        exact ⟨_, hm, LawV.reads (.cons (.as h1) .nil) (spec_l10Has_law k c1 r hr)⟩
      · cases hm
    · cases hg; exact noCon_ok
    · cases hg
  · intro g hg r
    by_cases h : g = 154
    · subst h; simp [E_spec_Uses] at hg
    · simp [E_spec_Uses, h]
theorem f154_okspec_Uses : Try.prog.funcs[154]? = some Try.f154 := by kernel_rfl
theorem spec_Uses_law (k : Nat) (a1 : Int × Int × Int × Int × Int × ByteArray × (List Int) × Unit) (x : List Int) (h : spec_Uses k a1 = some x) : LawV Try.prog 154 [.tv (.pair (.int .i64) (.pair (.int .i64) (.pair (.int .i64) (.pair (.int .i64) (.pair (.int .i64) (.pair .str (.pair (.row (.int .i64)) .unit))))))) a1] (tvn (.row (.int .i64)) x) := by
  unfold spec_Uses at h
  exact law1 (t := (.row (.int .i64))) (tyTOk _ _) (E_spec_Uses_calls k) mixOk f154_okspec_Uses (nameOk _ _ f154_okspec_Uses) (by kernel_rfl) h
/-! spec.l10Regs -/
noncomputable def E_spec_l10Regs (k : Nat) : Env := ⟨ty, fun g => match g with
  | 62 => some (byFresh (.int .i64) fun ρ l K => match l with
    | [b1] => (b1.as (.pair (.int .i64) (.pair (.int .i64) (.pair (.int .i64) (.pair (.int .i64) (.pair (.int .i64) (.pair .str (.pair (.row (.int .i64)) .unit)))))))).bind fun c1 => (spec_Sets k c1).bind fun r => K r
    | _ => none)
  | 154 => some (byVal fun ρ l K => match l with
    | [b1] => (b1.as (.pair (.int .i64) (.pair (.int .i64) (.pair (.int .i64) (.pair (.int .i64) (.pair (.int .i64) (.pair .str (.pair (.row (.int .i64)) .unit)))))))).bind fun c1 => (spec_Uses k c1).bind fun r => K (tvn (.row (.int .i64)) r)
    | _ => none)
  | 51 => some (byVal fun ρ l K => match l with
    | [b1, b2, b3] => (b1.as (.int .i64)).bind fun c1 => (b2.as (.int .i64)).bind fun c2 => (b3.as (.int .i64)).bind fun c3 => (spec_l1In k c1 c2 c3).bind fun r => K (tvn .bool r)
    | _ => none)
  | 132 => some noCon
  | _ => none, fun f r => match f with | 132 => (match r with | 3 => some [1, 5, 6] | _ => none) | _ => none⟩
noncomputable def spec_l10Regs (k : Nat) (a1 : Int × Int × Int × Int × Int × ByteArray × (List Int) × Unit) (a2 : Int) : Option (Bool) :=
  abody (E_spec_l10Regs k) (arun Try.prog (E_spec_l10Regs k) k) k 132 Try.f132 [.tv (.pair (.int .i64) (.pair (.int .i64) (.pair (.int .i64) (.pair (.int .i64) (.pair (.int .i64) (.pair .str (.pair (.row (.int .i64)) .unit))))))) a1, .int .i64 a2] [] (fin1 .bool)
noncomputable def spec_l10Regs.l3 (k n : Nat) (x1 : Int) (x6 : Int) (y0 : List Int) : Option (Bool) :=
  resume (E_spec_l10Regs k) 132 (acall (E_spec_l10Regs k) (arun Try.prog (E_spec_l10Regs k) k)) k [true, true, false, true, true] [n] (bodyOf Try.f132) ⟨[.undef, .int .i64 x1, .undef, .undef, .undef, .sl 0, .int .i64 x6, .undef, .undef, .undef, .undef, .undef, .undef, .undef, .undef, .undef, .undef, .undef, .undef, .undef, .undef, .undef, .undef, .undef, .undef, .undef], [some ⟨.typed (.int .i64) y0, false⟩]⟩ (leave (E_spec_l10Regs k) Try.f132 (fin1 .bool))
theorem spec_l10Regs.l3_0 (k : Nat) (x1 : Int) (x6 : Int) (y0 : List Int) : spec_l10Regs.l3 k 0 x1 x6 y0 = none := by kernel_rfl
theorem spec_l10Regs.l3_s (k n : Nat) (x1 : Int) (x6 : Int) (y0 : List Int) : spec_l10Regs.l3 k (n + 1) x1 x6 y0 =
  iteB (decide (x6 < ((List.length y0) : Int))) (iteB (decide (0 ≤ x6)) (iteB (decide (x6 < ((List.length y0) : Int))) (bindO (spec_l1In k (List.getD y0 (Int.toNat x6) 0) 0 (IntKind.wrap .i64 (x1 - 1))) fun r3 => (iteB (!r3) (some false) (spec_l10Regs.l3 k n x1 (IntKind.wrap .i64 (x6 + 1)) y0))) (none)) (none)) (some true) := by kernel_rfl
theorem spec_l10Regs_e (k : Nat) (a1 : Int × Int × Int × Int × Int × ByteArray × (List Int) × Unit) (a2 : Int) : spec_l10Regs k a1 a2 =
  bindO (spec_Sets k a1) fun r1 => (bindO (spec_Uses k a1) fun r2 => (iteB (decide ((List.length (r1 ++ r2)) * 8 ≤ lim)) (spec_l10Regs.l3 k k a2 0 (r1 ++ r2)) (none))) := by kernel_rfl
theorem E_spec_l10Regs_calls (k : Nat) : CallsOk Try.prog (E_spec_l10Regs k) (arun Try.prog (E_spec_l10Regs k) k) := by
  refine told_run (tyTOk _ _) ?_ (fun run h => regOk (tyTOk _ _) mixOk h) ?_ nameOk k
  · intro g m hg
    simp only [E_spec_l10Regs] at hg
    split at hg
    · cases hg
      refine con_byFresh fun ρ l K x hm => ?_
      split at hm
      · obtain ⟨c1, h1, hm⟩ := Option.bind_eq_some_iff.1 hm
        obtain ⟨r, hr, hm⟩ := Option.bind_eq_some_iff.1 hm
        exact ⟨_, hm, LawF.reads (.cons (.as h1) .nil) (spec_Sets_law k c1 r hr)⟩
      · cases hm
    · cases hg
      refine con_byVal fun ρ l K x hm => ?_
      split at hm
      · obtain ⟨c1, h1, hm⟩ := Option.bind_eq_some_iff.1 hm
        obtain ⟨r, hr, hm⟩ := Option.bind_eq_some_iff.1 hm
        exact ⟨_, hm, LawV.reads (.cons (.as h1) .nil) (spec_Uses_law k c1 r hr)⟩
      · cases hm
    · cases hg
      refine con_byVal fun ρ l K x hm => ?_
      split at hm
      · obtain ⟨c1, h1, hm⟩ := Option.bind_eq_some_iff.1 hm
        obtain ⟨c2, h2, hm⟩ := Option.bind_eq_some_iff.1 hm
        obtain ⟨c3, h3, hm⟩ := Option.bind_eq_some_iff.1 hm
        obtain ⟨r, hr, hm⟩ := Option.bind_eq_some_iff.1 hm
        exact ⟨_, hm, LawV.reads (.cons (.as h1) (.cons (.as h2) (.cons (.as h3) .nil))) (spec_l1In_law k c1 c2 c3 r hr)⟩
      · cases hm
    · cases hg; exact noCon_ok
    · cases hg
  · intro g hg r
    by_cases h : g = 132
    · subst h; simp [E_spec_l10Regs] at hg
    · simp [E_spec_l10Regs, h]
theorem f132_okspec_l10Regs : Try.prog.funcs[132]? = some Try.f132 := by kernel_rfl
theorem spec_l10Regs_law (k : Nat) (a1 : Int × Int × Int × Int × Int × ByteArray × (List Int) × Unit) (a2 : Int) (x : Bool) (h : spec_l10Regs k a1 a2 = some x) : LawV Try.prog 132 [.tv (.pair (.int .i64) (.pair (.int .i64) (.pair (.int .i64) (.pair (.int .i64) (.pair (.int .i64) (.pair .str (.pair (.row (.int .i64)) .unit))))))) a1, .int .i64 a2] (tvn .bool x) := by
  unfold spec_l10Regs at h
  exact law1 (t := .bool) (tyTOk _ _) (E_spec_l10Regs_calls k) mixOk f132_okspec_l10Regs (nameOk _ _ f132_okspec_l10Regs) (by kernel_rfl) h
/-! spec.WordOk -/
noncomputable def E_spec_WordOk (k : Nat) : Env := ⟨ty, fun g => match g with
  | 51 => some (byVal fun ρ l K => match l with
    | [b1, b2, b3] => (b1.as (.int .i64)).bind fun c1 => (b2.as (.int .i64)).bind fun c2 => (b3.as (.int .i64)).bind fun c3 => (spec_l1In k c1 c2 c3).bind fun r => K (tvn .bool r)
    | _ => none)
  | _ => none, fun _ _ => none⟩
noncomputable def spec_WordOk (k : Nat) (a1 : Int) : Option (Bool) :=
  abody (E_spec_WordOk k) (arun Try.prog (E_spec_WordOk k) k) k 133 Try.f133 [.int .i64 a1] [] (fin1 .bool)
theorem spec_WordOk_e (k : Nat) (a1 : Int) : spec_WordOk k a1 =
  bindO (spec_l1In k a1 (-2147483648) 2147483647) fun r1 => (some r1) := by kernel_rfl
theorem E_spec_WordOk_calls (k : Nat) : CallsOk Try.prog (E_spec_WordOk k) (arun Try.prog (E_spec_WordOk k) k) := by
  refine told_run (tyTOk _ _) ?_ (fun run h => regOk (tyTOk _ _) mixOk h) ?_ nameOk k
  · intro g m hg
    simp only [E_spec_WordOk] at hg
    split at hg
    · cases hg
      refine con_byVal fun ρ l K x hm => ?_
      split at hm
      · obtain ⟨c1, h1, hm⟩ := Option.bind_eq_some_iff.1 hm
        obtain ⟨c2, h2, hm⟩ := Option.bind_eq_some_iff.1 hm
        obtain ⟨c3, h3, hm⟩ := Option.bind_eq_some_iff.1 hm
        obtain ⟨r, hr, hm⟩ := Option.bind_eq_some_iff.1 hm
        exact ⟨_, hm, LawV.reads (.cons (.as h1) (.cons (.as h2) (.cons (.as h3) .nil))) (spec_l1In_law k c1 c2 c3 r hr)⟩
      · cases hm
    · cases hg
  · intro g _ r; rfl
theorem f133_okspec_WordOk : Try.prog.funcs[133]? = some Try.f133 := by kernel_rfl
theorem spec_WordOk_law (k : Nat) (a1 : Int) (x : Bool) (h : spec_WordOk k a1 = some x) : LawV Try.prog 133 [.int .i64 a1] (tvn .bool x) := by
  unfold spec_WordOk at h
  exact law1 (t := .bool) (tyTOk _ _) (E_spec_WordOk_calls k) mixOk f133_okspec_WordOk (nameOk _ _ f133_okspec_WordOk) (by kernel_rfl) h
/-! spec.l10Place -/
noncomputable def E_spec_l10Place (k : Nat) : Env := ⟨ty, fun g => match g with
  | 109 => some (byVal fun ρ l K => match l with
    | [b1] => (b1.as (.int .i64)).bind fun c1 => (spec_l10Has k c1).bind fun r => K (tvn (.int .i64) r)
    | _ => none)
  | 51 => some (byVal fun ρ l K => match l with
    | [b1, b2, b3] => (b1.as (.int .i64)).bind fun c1 => (b2.as (.int .i64)).bind fun c2 => (b3.as (.int .i64)).bind fun c3 => (spec_l1In k c1 c2 c3).bind fun r => K (tvn .bool r)
    | _ => none)
  | 131 => some (byVal fun ρ l K => match l with
    | [b1] => (b1.as (.pair (.int .i64) (.pair (.int .i64) (.pair (.int .i64) (.pair (.int .i64) (.pair (.int .i64) (.pair .str (.pair (.row (.int .i64)) .unit)))))))).bind fun c1 => (spec_l10Args k c1).bind fun r => K (tvn .bool r)
    | _ => none)
  | 132 => some (byVal fun ρ l K => match l with
    | [b1, b2] => (b1.as (.pair (.int .i64) (.pair (.int .i64) (.pair (.int .i64) (.pair (.int .i64) (.pair (.int .i64) (.pair .str (.pair (.row (.int .i64)) .unit)))))))).bind fun c1 => (b2.as (.int .i64)).bind fun c2 => (spec_l10Regs k c1 c2).bind fun r => K (tvn .bool r)
    | _ => none)
  | 133 => some (byVal fun ρ l K => match l with
    | [b1] => (b1.as (.int .i64)).bind fun c1 => (spec_WordOk k c1).bind fun r => K (tvn .bool r)
    | _ => none)
  | 100 => some noCon
  | _ => none, fun f r => match f with | 100 => (match r with | 4 => some [2, 5] | 6 => some [2, 5] | _ => none) | _ => none⟩
noncomputable def spec_l10Place (k : Nat) (a1 : Int × Int × Int × Int × Int × ByteArray × (List Int) × Unit) (a2 : Int) : Option (Bool) :=
  abody (E_spec_l10Place k) (arun Try.prog (E_spec_l10Place k) k) k 100 Try.f100 [.tv (.pair (.int .i64) (.pair (.int .i64) (.pair (.int .i64) (.pair (.int .i64) (.pair (.int .i64) (.pair .str (.pair (.row (.int .i64)) .unit))))))) a1, .int .i64 a2] [] (fin1 .bool)
noncomputable def spec_l10Place.j4 (k : Nat) (x5 : Int) (y0_0 : Int × Int × Int × Int × Int × ByteArray × (List Int) × Unit) : Option (Bool) :=
  resume (E_spec_l10Place k) 100 (acall (E_spec_l10Place k) (arun Try.prog (E_spec_l10Place k) k)) k [true, true, true] [] (bodyOf Try.f100) ⟨[.undef, .undef, .ptr 0 0 0, .undef, .undef, .int .i64 x5, .undef, .undef, .undef, .undef, .undef, .undef, .undef, .undef, .undef, .undef, .undef, .undef, .undef, .undef, .undef, .undef, .undef, .undef, .undef, .undef, .undef, .undef, .undef, .undef, .undef, .undef, .undef, .undef, .undef, .undef, .undef, .undef, .undef, .undef, .undef, .undef, .undef, .undef, .undef, .undef, .undef, .undef, .undef, .undef, .undef, .undef, .undef, .undef, .undef, .undef, .undef, .undef, .undef, .undef, .undef, .undef, .undef, .undef, .undef, .undef, .undef, .undef, .undef, .undef, .undef, .undef, .undef, .undef, .undef, .undef, .undef, .undef, .undef, .undef, .undef, .undef, .undef, .undef, .undef, .undef, .undef], [some ⟨.raw true 7 (.agg [.int .i64 0, .int .i64 0, .int .i64 0, .int .i64 0, .int .i64 0, .str ByteArray.empty, .nils]) [.tv (.pair (.int .i64) (.pair (.int .i64) (.pair (.int .i64) (.pair (.int .i64) (.pair (.int .i64) (.pair .str (.pair (.row (.int .i64)) .unit))))))) y0_0], true⟩]⟩ (leave (E_spec_l10Place k) Try.f100 (fin1 .bool))
noncomputable def spec_l10Place.j6 (k : Nat) (x5 : Int) (y0_0 : Int × Int × Int × Int × Int × ByteArray × (List Int) × Unit) : Option (Bool) :=
  resume (E_spec_l10Place k) 100 (acall (E_spec_l10Place k) (arun Try.prog (E_spec_l10Place k) k)) k [true, true, true, true] [] (bodyOf Try.f100) ⟨[.undef, .undef, .ptr 0 0 0, .undef, .undef, .int .i64 x5, .undef, .undef, .undef, .undef, .undef, .undef, .undef, .undef, .undef, .undef, .undef, .undef, .undef, .undef, .undef, .undef, .undef, .undef, .undef, .undef, .undef, .undef, .undef, .undef, .undef, .undef, .undef, .undef, .undef, .undef, .undef, .undef, .undef, .undef, .undef, .undef, .undef, .undef, .undef, .undef, .undef, .undef, .undef, .undef, .undef, .undef, .undef, .undef, .undef, .undef, .undef, .undef, .undef, .undef, .undef, .undef, .undef, .undef, .undef, .undef, .undef, .undef, .undef, .undef, .undef, .undef, .undef, .undef, .undef, .undef, .undef, .undef, .undef, .undef, .undef, .undef, .undef, .undef, .undef, .undef, .undef], [some ⟨.raw true 7 (.agg [.int .i64 0, .int .i64 0, .int .i64 0, .int .i64 0, .int .i64 0, .str ByteArray.empty, .nils]) [.tv (.pair (.int .i64) (.pair (.int .i64) (.pair (.int .i64) (.pair (.int .i64) (.pair (.int .i64) (.pair .str (.pair (.row (.int .i64)) .unit))))))) y0_0], true⟩]⟩ (leave (E_spec_l10Place k) Try.f100 (fin1 .bool))
theorem spec_l10Place.j4_e (k : Nat) (x5 : Int) (y0_0 : Int × Int × Int × Int × Int × ByteArray × (List Int) × Unit) : spec_l10Place.j4 k x5 y0_0 =
  iteB (y0_0.1 == 19) (bindO (spec_l1In k y0_0.2.2.2.2.1 0 1) fun r5 => (iteB (!(!r5)) (bindO (spec_WordOk k y0_0.2.2.2.2.1) fun r6 => (iteB (!r6) (some false) (gate k (spec_l10Place.j6 k x5 y0_0)))) (some false))) (bindO (spec_WordOk k y0_0.2.2.2.2.1) fun r7 => (iteB (!r7) (some false) (gate k (spec_l10Place.j6 k x5 y0_0)))) := by kernel_rfl
theorem spec_l10Place.j6_e (k : Nat) (x5 : Int) (y0_0 : Int × Int × Int × Int × Int × ByteArray × (List Int) × Unit) : spec_l10Place.j6 k x5 y0_0 =
  iteB (!((IntKind.wrap .i64 ((BitVec.ofInt (IntKind.bits .i64) x5 &&& BitVec.ofInt (IntKind.bits .i64) 1).toNat : Int)) != 0)) (iteB (y0_0.2.1 == 0) (iteB (!((IntKind.wrap .i64 ((BitVec.ofInt (IntKind.bits .i64) x5 &&& BitVec.ofInt (IntKind.bits .i64) 2).toNat : Int)) != 0)) (iteB (y0_0.2.2.1 == 0) (iteB (!((IntKind.wrap .i64 ((BitVec.ofInt (IntKind.bits .i64) x5 &&& BitVec.ofInt (IntKind.bits .i64) 4).toNat : Int)) != 0)) (iteB (y0_0.2.2.2.1 == 0) (iteB (!((IntKind.wrap .i64 ((BitVec.ofInt (IntKind.bits .i64) x5 &&& BitVec.ofInt (IntKind.bits .i64) 8).toNat : Int)) != 0)) (iteB (y0_0.2.2.2.2.1 == 0) (iteB (!((IntKind.wrap .i64 ((BitVec.ofInt (IntKind.bits .i64) x5 &&& BitVec.ofInt (IntKind.bits .i64) 16).toNat : Int)) != 0)) (some (ByteArray.toList y0_0.2.2.2.2.2.1 == ByteArray.toList (⟨#[]⟩ : ByteArray))) (some true)) (some false)) (iteB (!((IntKind.wrap .i64 ((BitVec.ofInt (IntKind.bits .i64) x5 &&& BitVec.ofInt (IntKind.bits .i64) 16).toNat : Int)) != 0)) (some (ByteArray.toList y0_0.2.2.2.2.2.1 == ByteArray.toList (⟨#[]⟩ : ByteArray))) (some true))) (some false)) (iteB (!((IntKind.wrap .i64 ((BitVec.ofInt (IntKind.bits .i64) x5 &&& BitVec.ofInt (IntKind.bits .i64) 8).toNat : Int)) != 0)) (iteB (y0_0.2.2.2.2.1 == 0) (iteB (!((IntKind.wrap .i64 ((BitVec.ofInt (IntKind.bits .i64) x5 &&& BitVec.ofInt (IntKind.bits .i64) 16).toNat : Int)) != 0)) (some (ByteArray.toList y0_0.2.2.2.2.2.1 == ByteArray.toList (⟨#[]⟩ : ByteArray))) (some true)) (some false)) (iteB (!((IntKind.wrap .i64 ((BitVec.ofInt (IntKind.bits .i64) x5 &&& BitVec.ofInt (IntKind.bits .i64) 16).toNat : Int)) != 0)) (some (ByteArray.toList y0_0.2.2.2.2.2.1 == ByteArray.toList (⟨#[]⟩ : ByteArray))) (some true)))) (some false)) (iteB (!((IntKind.wrap .i64 ((BitVec.ofInt (IntKind.bits .i64) x5 &&& BitVec.ofInt (IntKind.bits .i64) 4).toNat : Int)) != 0)) (iteB (y0_0.2.2.2.1 == 0) (iteB (!((IntKind.wrap .i64 ((BitVec.ofInt (IntKind.bits .i64) x5 &&& BitVec.ofInt (IntKind.bits .i64) 8).toNat : Int)) != 0)) (iteB (y0_0.2.2.2.2.1 == 0) (iteB (!((IntKind.wrap .i64 ((BitVec.ofInt (IntKind.bits .i64) x5 &&& BitVec.ofInt (IntKind.bits .i64) 16).toNat : Int)) != 0)) (some (ByteArray.toList y0_0.2.2.2.2.2.1 == ByteArray.toList (⟨#[]⟩ : ByteArray))) (some true)) (some false)) (iteB (!((IntKind.wrap .i64 ((BitVec.ofInt (IntKind.bits .i64) x5 &&& BitVec.ofInt (IntKind.bits .i64) 16).toNat : Int)) != 0)) (some (ByteArray.toList y0_0.2.2.2.2.2.1 == ByteArray.toList (⟨#[]⟩ : ByteArray))) (some true))) (some false)) (iteB (!((IntKind.wrap .i64 ((BitVec.ofInt (IntKind.bits .i64) x5 &&& BitVec.ofInt (IntKind.bits .i64) 8).toNat : Int)) != 0)) (iteB (y0_0.2.2.2.2.1 == 0) (iteB (!((IntKind.wrap .i64 ((BitVec.ofInt (IntKind.bits .i64) x5 &&& BitVec.ofInt (IntKind.bits .i64) 16).toNat : Int)) != 0)) (some (ByteArray.toList y0_0.2.2.2.2.2.1 == ByteArray.toList (⟨#[]⟩ : ByteArray))) (some true)) (some false)) (iteB (!((IntKind.wrap .i64 ((BitVec.ofInt (IntKind.bits .i64) x5 &&& BitVec.ofInt (IntKind.bits .i64) 16).toNat : Int)) != 0)) (some (ByteArray.toList y0_0.2.2.2.2.2.1 == ByteArray.toList (⟨#[]⟩ : ByteArray))) (some true))))) (some false)) (iteB (!((IntKind.wrap .i64 ((BitVec.ofInt (IntKind.bits .i64) x5 &&& BitVec.ofInt (IntKind.bits .i64) 2).toNat : Int)) != 0)) (iteB (y0_0.2.2.1 == 0) (iteB (!((IntKind.wrap .i64 ((BitVec.ofInt (IntKind.bits .i64) x5 &&& BitVec.ofInt (IntKind.bits .i64) 4).toNat : Int)) != 0)) (iteB (y0_0.2.2.2.1 == 0) (iteB (!((IntKind.wrap .i64 ((BitVec.ofInt (IntKind.bits .i64) x5 &&& BitVec.ofInt (IntKind.bits .i64) 8).toNat : Int)) != 0)) (iteB (y0_0.2.2.2.2.1 == 0) (iteB (!((IntKind.wrap .i64 ((BitVec.ofInt (IntKind.bits .i64) x5 &&& BitVec.ofInt (IntKind.bits .i64) 16).toNat : Int)) != 0)) (some (ByteArray.toList y0_0.2.2.2.2.2.1 == ByteArray.toList (⟨#[]⟩ : ByteArray))) (some true)) (some false)) (iteB (!((IntKind.wrap .i64 ((BitVec.ofInt (IntKind.bits .i64) x5 &&& BitVec.ofInt (IntKind.bits .i64) 16).toNat : Int)) != 0)) (some (ByteArray.toList y0_0.2.2.2.2.2.1 == ByteArray.toList (⟨#[]⟩ : ByteArray))) (some true))) (some false)) (iteB (!((IntKind.wrap .i64 ((BitVec.ofInt (IntKind.bits .i64) x5 &&& BitVec.ofInt (IntKind.bits .i64) 8).toNat : Int)) != 0)) (iteB (y0_0.2.2.2.2.1 == 0) (iteB (!((IntKind.wrap .i64 ((BitVec.ofInt (IntKind.bits .i64) x5 &&& BitVec.ofInt (IntKind.bits .i64) 16).toNat : Int)) != 0)) (some (ByteArray.toList y0_0.2.2.2.2.2.1 == ByteArray.toList (⟨#[]⟩ : ByteArray))) (some true)) (some false)) (iteB (!((IntKind.wrap .i64 ((BitVec.ofInt (IntKind.bits .i64) x5 &&& BitVec.ofInt (IntKind.bits .i64) 16).toNat : Int)) != 0)) (some (ByteArray.toList y0_0.2.2.2.2.2.1 == ByteArray.toList (⟨#[]⟩ : ByteArray))) (some true)))) (some false)) (iteB (!((IntKind.wrap .i64 ((BitVec.ofInt (IntKind.bits .i64) x5 &&& BitVec.ofInt (IntKind.bits .i64) 4).toNat : Int)) != 0)) (iteB (y0_0.2.2.2.1 == 0) (iteB (!((IntKind.wrap .i64 ((BitVec.ofInt (IntKind.bits .i64) x5 &&& BitVec.ofInt (IntKind.bits .i64) 8).toNat : Int)) != 0)) (iteB (y0_0.2.2.2.2.1 == 0) (iteB (!((IntKind.wrap .i64 ((BitVec.ofInt (IntKind.bits .i64) x5 &&& BitVec.ofInt (IntKind.bits .i64) 16).toNat : Int)) != 0)) (some (ByteArray.toList y0_0.2.2.2.2.2.1 == ByteArray.toList (⟨#[]⟩ : ByteArray))) (some true)) (some false)) (iteB (!((IntKind.wrap .i64 ((BitVec.ofInt (IntKind.bits .i64) x5 &&& BitVec.ofInt (IntKind.bits .i64) 16).toNat : Int)) != 0)) (some (ByteArray.toList y0_0.2.2.2.2.2.1 == ByteArray.toList (⟨#[]⟩ : ByteArray))) (some true))) (some false)) (iteB (!((IntKind.wrap .i64 ((BitVec.ofInt (IntKind.bits .i64) x5 &&& BitVec.ofInt (IntKind.bits .i64) 8).toNat : Int)) != 0)) (iteB (y0_0.2.2.2.2.1 == 0) (iteB (!((IntKind.wrap .i64 ((BitVec.ofInt (IntKind.bits .i64) x5 &&& BitVec.ofInt (IntKind.bits .i64) 16).toNat : Int)) != 0)) (some (ByteArray.toList y0_0.2.2.2.2.2.1 == ByteArray.toList (⟨#[]⟩ : ByteArray))) (some true)) (some false)) (iteB (!((IntKind.wrap .i64 ((BitVec.ofInt (IntKind.bits .i64) x5 &&& BitVec.ofInt (IntKind.bits .i64) 16).toNat : Int)) != 0)) (some (ByteArray.toList y0_0.2.2.2.2.2.1 == ByteArray.toList (⟨#[]⟩ : ByteArray))) (some true))))) := by kernel_rfl
theorem spec_l10Place_e (k : Nat) (a1 : Int × Int × Int × Int × Int × ByteArray × (List Int) × Unit) (a2 : Int) : spec_l10Place k a1 a2 =
  bindO (spec_l10Has k a1.1) fun r1 => (bindO (spec_l1In k a1.1 1 28) fun r2 => (iteB (!(!r2)) (bindO (spec_l10Args k a1) fun r3 => (iteB (!(!r3)) (bindO (spec_l10Regs k a1 a2) fun r4 => (iteB (!r4) (some false) (gate k (spec_l10Place.j4 k r1 a1)))) (some false))) (some false))) := by kernel_rfl
theorem E_spec_l10Place_calls (k : Nat) : CallsOk Try.prog (E_spec_l10Place k) (arun Try.prog (E_spec_l10Place k) k) := by
  refine told_run (tyTOk _ _) ?_ (fun run h => regOk (tyTOk _ _) mixOk h) ?_ nameOk k
  · intro g m hg
    simp only [E_spec_l10Place] at hg
    split at hg
    · cases hg
      refine con_byVal fun ρ l K x hm => ?_
      split at hm
      · obtain ⟨c1, h1, hm⟩ := Option.bind_eq_some_iff.1 hm
        obtain ⟨r, hr, hm⟩ := Option.bind_eq_some_iff.1 hm
        exact ⟨_, hm, LawV.reads (.cons (.as h1) .nil) (spec_l10Has_law k c1 r hr)⟩
      · cases hm
    · cases hg
      refine con_byVal fun ρ l K x hm => ?_
      split at hm
      · obtain ⟨c1, h1, hm⟩ := Option.bind_eq_some_iff.1 hm
        obtain ⟨c2, h2, hm⟩ := Option.bind_eq_some_iff.1 hm
        obtain ⟨c3, h3, hm⟩ := Option.bind_eq_some_iff.1 hm
        obtain ⟨r, hr, hm⟩ := Option.bind_eq_some_iff.1 hm
        exact ⟨_, hm, LawV.reads (.cons (.as h1) (.cons (.as h2) (.cons (.as h3) .nil))) (spec_l1In_law k c1 c2 c3 r hr)⟩
      · cases hm
    · cases hg
      refine con_byVal fun ρ l K x hm => ?_
      split at hm
      · obtain ⟨c1, h1, hm⟩ := Option.bind_eq_some_iff.1 hm
        obtain ⟨r, hr, hm⟩ := Option.bind_eq_some_iff.1 hm
        exact ⟨_, hm, LawV.reads (.cons (.as h1) .nil) (spec_l10Args_law k c1 r hr)⟩
      · cases hm
    · cases hg
      refine con_byVal fun ρ l K x hm => ?_
      split at hm
      · obtain ⟨c1, h1, hm⟩ := Option.bind_eq_some_iff.1 hm
        obtain ⟨c2, h2, hm⟩ := Option.bind_eq_some_iff.1 hm
        obtain ⟨r, hr, hm⟩ := Option.bind_eq_some_iff.1 hm
        exact ⟨_, hm, LawV.reads (.cons (.as h1) (.cons (.as h2) .nil)) (spec_l10Regs_law k c1 c2 r hr)⟩
      · cases hm
    · cases hg
      refine con_byVal fun ρ l K x hm => ?_
      split at hm
      · obtain ⟨c1, h1, hm⟩ := Option.bind_eq_some_iff.1 hm
        obtain ⟨r, hr, hm⟩ := Option.bind_eq_some_iff.1 hm
        exact ⟨_, hm, LawV.reads (.cons (.as h1) .nil) (spec_WordOk_law k c1 r hr)⟩
      · cases hm
    · cases hg; exact noCon_ok
    · cases hg
  · intro g hg r
    by_cases h : g = 100
    · subst h; simp [E_spec_l10Place] at hg
    · simp [E_spec_l10Place, h]
theorem f100_okspec_l10Place : Try.prog.funcs[100]? = some Try.f100 := by kernel_rfl
theorem spec_l10Place_law (k : Nat) (a1 : Int × Int × Int × Int × Int × ByteArray × (List Int) × Unit) (a2 : Int) (x : Bool) (h : spec_l10Place k a1 a2 = some x) : LawV Try.prog 100 [.tv (.pair (.int .i64) (.pair (.int .i64) (.pair (.int .i64) (.pair (.int .i64) (.pair (.int .i64) (.pair .str (.pair (.row (.int .i64)) .unit))))))) a1, .int .i64 a2] (tvn .bool x) := by
  unfold spec_l10Place at h
  exact law1 (t := .bool) (tyTOk _ _) (E_spec_l10Place_calls k) mixOk f100_okspec_l10Place (nameOk _ _ f100_okspec_l10Place) (by kernel_rfl) h
/-! spec.l10Label -/
noncomputable def E_spec_l10Label (k : Nat) : Env := ⟨ty, fun g => match g with
  | 101 => some noCon
  | _ => none, fun f r => match f with | 101 => (match r with | 2 => some [0, 1, 5] | _ => none) | _ => none⟩
noncomputable def spec_l10Label (k : Nat) (a1 : List (Int × Int × Int × Int × Int × ByteArray × (List Int) × Unit)) (a2 : Int) : Option (Int) :=
  abody (E_spec_l10Label k) (arun Try.prog (E_spec_l10Label k) k) k 101 Try.f101 [.tv (.row (.pair (.int .i64) (.pair (.int .i64) (.pair (.int .i64) (.pair (.int .i64) (.pair (.int .i64) (.pair .str (.pair (.row (.int .i64)) .unit)))))))) a1, .int .i64 a2] [] (fin1 (.int .i64))
noncomputable def spec_l10Label.l2 (k n : Nat) (x0 : List (Int × Int × Int × Int × Int × ByteArray × (List Int) × Unit)) (x1 : Int) (x5 : Int) : Option (Int) :=
  resume (E_spec_l10Label k) 101 (acall (E_spec_l10Label k) (arun Try.prog (E_spec_l10Label k) k)) k [true, false, true, true] [n] (bodyOf Try.f101) ⟨[.tv (.row (.pair (.int .i64) (.pair (.int .i64) (.pair (.int .i64) (.pair (.int .i64) (.pair (.int .i64) (.pair .str (.pair (.row (.int .i64)) .unit)))))))) x0, .int .i64 x1, .undef, .undef, .undef, .int .i64 x5, .undef, .undef, .undef, .undef, .undef, .undef, .undef, .undef, .undef, .undef, .undef, .undef, .undef, .undef, .undef, .undef, .undef, .undef, .undef, .undef, .undef, .undef], []⟩ (leave (E_spec_l10Label k) Try.f101 (fin1 (.int .i64)))
theorem spec_l10Label.l2_0 (k : Nat) (x0 : List (Int × Int × Int × Int × Int × ByteArray × (List Int) × Unit)) (x1 : Int) (x5 : Int) : spec_l10Label.l2 k 0 x0 x1 x5 = none := by kernel_rfl
theorem spec_l10Label.l2_s (k n : Nat) (x0 : List (Int × Int × Int × Int × Int × ByteArray × (List Int) × Unit)) (x1 : Int) (x5 : Int) : spec_l10Label.l2 k (n + 1) x0 x1 x5 =
  iteB (decide (x5 < ((List.length x0) : Int))) (iteB (decide (0 ≤ x5)) (iteB (decide (x5 < ((List.length x0) : Int))) (iteB (((List.getD x0 (Int.toNat x5) (Ty.dflt (.pair (.int .i64) (.pair (.int .i64) (.pair (.int .i64) (.pair (.int .i64) (.pair (.int .i64) (.pair .str (.pair (.row (.int .i64)) .unit))))))))).1) == 8) (iteB (decide (0 ≤ x5)) (iteB (decide (x5 < ((List.length x0) : Int))) (iteB (((((((List.getD x0 (Int.toNat x5) (Ty.dflt (.pair (.int .i64) (.pair (.int .i64) (.pair (.int .i64) (.pair (.int .i64) (.pair (.int .i64) (.pair .str (.pair (.row (.int .i64)) .unit))))))))).2).2).2).2).1) == x1) (some x5) (spec_l10Label.l2 k n x0 x1 (IntKind.wrap .i64 (x5 + 1)))) (none)) (none)) (spec_l10Label.l2 k n x0 x1 (IntKind.wrap .i64 (x5 + 1)))) (none)) (none)) (some (-1)) := by kernel_rfl
theorem spec_l10Label_e (k : Nat) (a1 : List (Int × Int × Int × Int × Int × ByteArray × (List Int) × Unit)) (a2 : Int) : spec_l10Label k a1 a2 =
  spec_l10Label.l2 k k a1 a2 0 := by kernel_rfl
theorem E_spec_l10Label_calls (k : Nat) : CallsOk Try.prog (E_spec_l10Label k) (arun Try.prog (E_spec_l10Label k) k) := by
  refine told_run (tyTOk _ _) ?_ (fun run h => regOk (tyTOk _ _) mixOk h) ?_ nameOk k
  · intro g m hg
    simp only [E_spec_l10Label] at hg
    split at hg
    · cases hg; exact noCon_ok
    · cases hg
  · intro g hg r
    by_cases h : g = 101
    · subst h; simp [E_spec_l10Label] at hg
    · simp [E_spec_l10Label, h]
theorem f101_okspec_l10Label : Try.prog.funcs[101]? = some Try.f101 := by kernel_rfl
theorem spec_l10Label_law (k : Nat) (a1 : List (Int × Int × Int × Int × Int × ByteArray × (List Int) × Unit)) (a2 : Int) (x : Int) (h : spec_l10Label k a1 a2 = some x) : LawV Try.prog 101 [.tv (.row (.pair (.int .i64) (.pair (.int .i64) (.pair (.int .i64) (.pair (.int .i64) (.pair (.int .i64) (.pair .str (.pair (.row (.int .i64)) .unit)))))))) a1, .int .i64 a2] (tvn (.int .i64) x) := by
  unfold spec_l10Label at h
  exact law1 (t := (.int .i64)) (tyTOk _ _) (E_spec_l10Label_calls k) mixOk f101_okspec_l10Label (nameOk _ _ f101_okspec_l10Label) (by kernel_rfl) h
end Go.Proofs.Ytampamlgkfhliaa.XFnExactNext
