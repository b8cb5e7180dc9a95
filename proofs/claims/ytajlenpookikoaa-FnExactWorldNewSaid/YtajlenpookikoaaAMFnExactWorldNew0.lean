/- Functions of the program as runs of the interpreter: equations, and a law for each. -/
import Derived.Test.YtajlenpookikoaaProg
import Derived.Test.YtajlenpookikoaaChecked
import Derived.KernelRfl
import Derived.Eval
import Derived.Test.YtajlenpookikoaaATyOk
import Derived.Test.YtajlenpookikoaaAS38
open Go Go.AM Go.AMx Go.Proofs
namespace Go.Proofs.Ytajlenpookikoaa.XFnExactWorldNew
set_option linter.unusedVariables false
set_option linter.unusedSimpArgs false
abbrev tA0 : Ty := (.pair (.int .i64) (.pair (.int .i64) (.pair (.int .i64) (.pair (.int .i64) .unit))))
abbrev tA1 : Ty := (.pair (.int .i64) (.pair (.int .i64) (.pair (.row (.int .i64)) (.pair (.int .i64) .unit))))
abbrev tA2 : Ty := (.pair (.row tA1) (.pair .bool (.pair .bool (.pair (.int .i64) tA0))))
abbrev tA3 : Ty := (.pair (.int .i64) (.pair .bool (.pair (.row (.int .i64)) (.pair (.row tA0) (.pair (.row tA0) .unit)))))
abbrev tA4 : Ty := (.pair (.int .i64) (.pair (.int .i64) (.pair (.int .i64) (.pair (.int .i64) (.pair (.int .i64) (.pair .str (.pair (.row (.int .i64)) .unit)))))))
abbrev tA5 : Ty := (.pair .str (.pair (.int .i64) (.pair (.int .i64) (.pair (.row tA4) .unit))))
/-! laws.szIntS -/
noncomputable def E_laws_szIntS (k : Nat) : Env := ⟨ty, fun _ => none, fun _ _ => none⟩
noncomputable def laws_szIntS (k : Nat) (a1 : List Int) (a2 : Int) : Option (Int) :=
  abody (E_laws_szIntS k) (arun Try.prog (E_laws_szIntS k) k) k 70 Try.f70 [.tv (.row (.int .i64)) a1, .int .i64 a2] [] (fin1 (.int .i64))
theorem laws_szIntS_e (k : Nat) (a1 : List Int) (a2 : Int) : laws_szIntS k a1 a2 =
  iteB (decide (IntKind.wrap .i64 (a2 - ((List.length a1) : Int)) < 0)) (some (-1)) (some (IntKind.wrap .i64 (a2 - ((List.length a1) : Int)))) := by kernel_rfl
theorem E_laws_szIntS_calls (k : Nat) : CallsOk Try.prog (E_laws_szIntS k) (arun Try.prog (E_laws_szIntS k) k) := by
  refine told_run (tyTOk _ _) ?_ (fun run h => regOk (tyTOk _ _) mixOk h) ?_ nameOk k
  · intro g m hg
    cases hg
  · intro g _ r; rfl
theorem f70_oklaws_szIntS : Try.prog.funcs[70]? = some Try.f70 := by kernel_rfl
theorem laws_szIntS_law (k : Nat) (a1 : List Int) (a2 : Int) (x : Int) (h : laws_szIntS k a1 a2 = some x) : LawV Try.prog 70 [.tv (.row (.int .i64)) a1, .int .i64 a2] (tvn (.int .i64) x) := by
  unfold laws_szIntS at h
  exact law1 (t := (.int .i64)) (tyTOk _ _) (E_laws_szIntS_calls k) mixOk f70_oklaws_szIntS (nameOk _ _ f70_oklaws_szIntS) (by kernel_rfl) h
/-! laws.szTac -/
noncomputable def E_laws_szTac (k : Nat) : Env := ⟨ty, fun g => match g with
  | 70 => some (byVal fun ρ l K => match l with
    | [b1, b2] => (b1.as (.row (.int .i64))).bind fun c1 => (b2.as (.int .i64)).bind fun c2 => (laws_szIntS k c1 c2).bind fun r => K (tvn (.int .i64) r)
    | _ => none)
  | _ => none, fun _ _ => none⟩
noncomputable def laws_szTac (k : Nat) (a1 : Int × Int × Int × Int × Int × ByteArray × (List Int) × Unit) (a2 : Int) : Option (Int) :=
  abody (E_laws_szTac k) (arun Try.prog (E_laws_szTac k) k) k 53 Try.f53 [.tv tA4 a1, .int .i64 a2] [] (fin1 (.int .i64))
theorem laws_szTac_e (k : Nat) (a1 : Int × Int × Int × Int × Int × ByteArray × (List Int) × Unit) (a2 : Int) : laws_szTac k a1 a2 =
  iteB (decide (IntKind.wrap .i64 (a2 - (ByteArray.size a1.2.2.2.2.2.1 : Int)) < 0)) (some (-1)) (bindO (laws_szIntS k a1.2.2.2.2.2.2.1 (IntKind.wrap .i64 (a2 - (ByteArray.size a1.2.2.2.2.2.1 : Int)))) fun r1 => (iteB (decide (r1 < 0)) (some (-1)) (some r1))) := by kernel_rfl
theorem E_laws_szTac_calls (k : Nat) : CallsOk Try.prog (E_laws_szTac k) (arun Try.prog (E_laws_szTac k) k) := by
  refine told_run (tyTOk _ _) ?_ (fun run h => regOk (tyTOk _ _) mixOk h) ?_ nameOk k
  · intro g m hg
    simp only [E_laws_szTac] at hg
    split at hg
    · cases hg
      refine con_byVal fun ρ l K x hm => ?_
      split at hm
      · obtain ⟨c1, h1, hm⟩ := Option.bind_eq_some_iff.1 hm
        obtain ⟨c2, h2, hm⟩ := Option.bind_eq_some_iff.1 hm
        obtain ⟨r, hr, hm⟩ := Option.bind_eq_some_iff.1 hm
        exact ⟨_, hm, LawV.reads (.cons (.as h1) (.cons (.as h2) .nil)) (laws_szIntS_law k c1 c2 r hr)⟩
      · cases hm
    · cases hg
  · intro g _ r; rfl
theorem f53_oklaws_szTac : Try.prog.funcs[53]? = some Try.f53 := by kernel_rfl
theorem laws_szTac_law (k : Nat) (a1 : Int × Int × Int × Int × Int × ByteArray × (List Int) × Unit) (a2 : Int) (x : Int) (h : laws_szTac k a1 a2 = some x) : LawV Try.prog 53 [.tv tA4 a1, .int .i64 a2] (tvn (.int .i64) x) := by
  unfold laws_szTac at h
  exact law1 (t := (.int .i64)) (tyTOk _ _) (E_laws_szTac_calls k) mixOk f53_oklaws_szTac (nameOk _ _ f53_oklaws_szTac) (by kernel_rfl) h
/-! laws.szTacS -/
noncomputable def E_laws_szTacS (k : Nat) : Env := ⟨ty, fun g => match g with
  | 53 => some (byVal fun ρ l K => match l with
    | [b1, b2] => (b1.as tA4).bind fun c1 => (b2.as (.int .i64)).bind fun c2 => (laws_szTac k c1 c2).bind fun r => K (tvn (.int .i64) r)
    | _ => none)
  | 36 => some noCon
  | _ => none, fun f r => match f with | 36 => (match r with | 5 => some [0, 1, 5] | _ => none) | _ => none⟩
noncomputable def laws_szTacS (k : Nat) (a1 : List (Int × Int × Int × Int × Int × ByteArray × (List Int) × Unit)) (a2 : Int) : Option (Int) :=
  abody (E_laws_szTacS k) (arun Try.prog (E_laws_szTacS k) k) k 36 Try.f36 [.tv (.row tA4) a1, .int .i64 a2] [] (fin1 (.int .i64))
noncomputable def laws_szTacS.l5 (k n : Nat) (x0 : List (Int × Int × Int × Int × Int × ByteArray × (List Int) × Unit)) (x1 : Int) (x5 : Int) : Option (Int) :=
  resume (E_laws_szTacS k) 36 (acall (E_laws_szTacS k) (arun Try.prog (E_laws_szTacS k) k)) k [true, true, true, false, true, true] [n] (bodyOf Try.f36) ⟨[.tv (.row tA4) x0, .int .i64 x1, .undef, .undef, .undef, .int .i64 x5, .undef, .undef, .undef, .undef, .undef, .undef, .undef, .undef, .undef, .undef, .undef, .undef, .undef, .undef, .undef, .undef, .undef, .undef, .undef, .undef, .undef], []⟩ (leave (E_laws_szTacS k) Try.f36 (fin1 (.int .i64)))
theorem laws_szTacS.l5_0 (k : Nat) (x0 : List (Int × Int × Int × Int × Int × ByteArray × (List Int) × Unit)) (x1 : Int) (x5 : Int) : laws_szTacS.l5 k 0 x0 x1 x5 = none := by kernel_rfl
theorem laws_szTacS.l5_s (k n : Nat) (x0 : List (Int × Int × Int × Int × Int × ByteArray × (List Int) × Unit)) (x1 : Int) (x5 : Int) : laws_szTacS.l5 k (n + 1) x0 x1 x5 =
  iteB (decide (x5 < ((List.length x0) : Int))) (iteB (decide (0 ≤ x5)) (iteB (decide (x5 < ((List.length x0) : Int))) (bindO (laws_szTac k (List.getD x0 (Int.toNat x5) (Ty.dflt tA4)) x1) fun r1 => (iteB (decide (r1 < 0)) (some (-1)) (laws_szTacS.l5 k n x0 r1 (IntKind.wrap .i64 (x5 + 1))))) (none)) (none)) (some x1) := by kernel_rfl
theorem laws_szTacS_e (k : Nat) (a1 : List (Int × Int × Int × Int × Int × ByteArray × (List Int) × Unit)) (a2 : Int) : laws_szTacS k a1 a2 =
  iteB (decide (IntKind.wrap .i64 (a2 - ((List.length a1) : Int)) < 0)) (some (-1)) (laws_szTacS.l5 k k a1 (IntKind.wrap .i64 (a2 - ((List.length a1) : Int))) 0) := by kernel_rfl
theorem E_laws_szTacS_calls (k : Nat) : CallsOk Try.prog (E_laws_szTacS k) (arun Try.prog (E_laws_szTacS k) k) := by
  refine told_run (tyTOk _ _) ?_ (fun run h => regOk (tyTOk _ _) mixOk h) ?_ nameOk k
  · intro g m hg
    simp only [E_laws_szTacS] at hg
    split at hg
    · cases hg
      refine con_byVal fun ρ l K x hm => ?_
      split at hm
      · obtain ⟨c1, h1, hm⟩ := Option.bind_eq_some_iff.1 hm
        obtain ⟨c2, h2, hm⟩ := Option.bind_eq_some_iff.1 hm
        obtain ⟨r, hr, hm⟩ := Option.bind_eq_some_iff.1 hm
        exact ⟨_, hm, LawV.reads (.cons (.as h1) (.cons (.as h2) .nil)) (laws_szTac_law k c1 c2 r hr)⟩
      · cases hm
    · cases hg; exact noCon_ok
    · cases hg
  · intro g hg r
    by_cases h : g = 36
    · subst h; simp [E_laws_szTacS] at hg
    · simp [E_laws_szTacS, h]
theorem f36_oklaws_szTacS : Try.prog.funcs[36]? = some Try.f36 := by kernel_rfl
theorem laws_szTacS_law (k : Nat) (a1 : List (Int × Int × Int × Int × Int × ByteArray × (List Int) × Unit)) (a2 : Int) (x : Int) (h : laws_szTacS k a1 a2 = some x) : LawV Try.prog 36 [.tv (.row tA4) a1, .int .i64 a2] (tvn (.int .i64) x) := by
  unfold laws_szTacS at h
  exact law1 (t := (.int .i64)) (tyTOk _ _) (E_laws_szTacS_calls k) mixOk f36_oklaws_szTacS (nameOk _ _ f36_oklaws_szTacS) (by kernel_rfl) h
/-! laws.szUnit -/
noncomputable def E_laws_szUnit (k : Nat) : Env := ⟨ty, fun g => match g with
  | 36 => some (byVal fun ρ l K => match l with
    | [b1, b2] => (b1.as (.row tA4)).bind fun c1 => (b2.as (.int .i64)).bind fun c2 => (laws_szTacS k c1 c2).bind fun r => K (tvn (.int .i64) r)
    | _ => none)
  | _ => none, fun _ _ => none⟩
noncomputable def laws_szUnit (k : Nat) (a1 : ByteArray × Int × Int × (List (Int × Int × Int × Int × Int × ByteArray × (List Int) × Unit)) × Unit) (a2 : Int) : Option (Int) :=
  abody (E_laws_szUnit k) (arun Try.prog (E_laws_szUnit k) k) k 13 Try.f13 [.tv tA5 a1, .int .i64 a2] [] (fin1 (.int .i64))
theorem laws_szUnit_e (k : Nat) (a1 : ByteArray × Int × Int × (List (Int × Int × Int × Int × Int × ByteArray × (List Int) × Unit)) × Unit) (a2 : Int) : laws_szUnit k a1 a2 =
  iteB (decide (IntKind.wrap .i64 (a2 - (ByteArray.size a1.1 : Int)) < 0)) (some (-1)) (bindO (laws_szTacS k a1.2.2.2.1 (IntKind.wrap .i64 (a2 - (ByteArray.size a1.1 : Int)))) fun r1 => (iteB (decide (r1 < 0)) (some (-1)) (some r1))) := by kernel_rfl
theorem E_laws_szUnit_calls (k : Nat) : CallsOk Try.prog (E_laws_szUnit k) (arun Try.prog (E_laws_szUnit k) k) := by
  refine told_run (tyTOk _ _) ?_ (fun run h => regOk (tyTOk _ _) mixOk h) ?_ nameOk k
  · intro g m hg
    simp only [E_laws_szUnit] at hg
    split at hg
    · cases hg
      refine con_byVal fun ρ l K x hm => ?_
      split at hm
      · obtain ⟨c1, h1, hm⟩ := Option.bind_eq_some_iff.1 hm
        obtain ⟨c2, h2, hm⟩ := Option.bind_eq_some_iff.1 hm
        obtain ⟨r, hr, hm⟩ := Option.bind_eq_some_iff.1 hm
        exact ⟨_, hm, LawV.reads (.cons (.as h1) (.cons (.as h2) .nil)) (laws_szTacS_law k c1 c2 r hr)⟩
      · cases hm
    · cases hg
  · intro g _ r; rfl
theorem f13_oklaws_szUnit : Try.prog.funcs[13]? = some Try.f13 := by kernel_rfl
theorem laws_szUnit_law (k : Nat) (a1 : ByteArray × Int × Int × (List (Int × Int × Int × Int × Int × ByteArray × (List Int) × Unit)) × Unit) (a2 : Int) (x : Int) (h : laws_szUnit k a1 a2 = some x) : LawV Try.prog 13 [.tv tA5 a1, .int .i64 a2] (tvn (.int .i64) x) := by
  unfold laws_szUnit at h
  exact law1 (t := (.int .i64)) (tyTOk _ _) (E_laws_szUnit_calls k) mixOk f13_oklaws_szUnit (nameOk _ _ f13_oklaws_szUnit) (by kernel_rfl) h
/-! laws.szUnitS -/
noncomputable def E_laws_szUnitS (k : Nat) : Env := ⟨ty, fun g => match g with
  | 13 => some (byVal fun ρ l K => match l with
    | [b1, b2] => (b1.as tA5).bind fun c1 => (b2.as (.int .i64)).bind fun c2 => (laws_szUnit k c1 c2).bind fun r => K (tvn (.int .i64) r)
    | _ => none)
  | 4 => some noCon
  | _ => none, fun f r => match f with | 4 => (match r with | 5 => some [0, 1, 5] | _ => none) | _ => none⟩
noncomputable def laws_szUnitS (k : Nat) (a1 : List (ByteArray × Int × Int × (List (Int × Int × Int × Int × Int × ByteArray × (List Int) × Unit)) × Unit)) (a2 : Int) : Option (Int) :=
  abody (E_laws_szUnitS k) (arun Try.prog (E_laws_szUnitS k) k) k 4 Try.f4 [.tv (.row tA5) a1, .int .i64 a2] [] (fin1 (.int .i64))
noncomputable def laws_szUnitS.l5 (k n : Nat) (x0 : List (ByteArray × Int × Int × (List (Int × Int × Int × Int × Int × ByteArray × (List Int) × Unit)) × Unit)) (x1 : Int) (x5 : Int) : Option (Int) :=
  resume (E_laws_szUnitS k) 4 (acall (E_laws_szUnitS k) (arun Try.prog (E_laws_szUnitS k) k)) k [true, true, true, false, true, true] [n] (bodyOf Try.f4) ⟨[.tv (.row tA5) x0, .int .i64 x1, .undef, .undef, .undef, .int .i64 x5, .undef, .undef, .undef, .undef, .undef, .undef, .undef, .undef, .undef, .undef, .undef, .undef, .undef, .undef, .undef, .undef, .undef, .undef, .undef, .undef, .undef], []⟩ (leave (E_laws_szUnitS k) Try.f4 (fin1 (.int .i64)))
theorem laws_szUnitS.l5_0 (k : Nat) (x0 : List (ByteArray × Int × Int × (List (Int × Int × Int × Int × Int × ByteArray × (List Int) × Unit)) × Unit)) (x1 : Int) (x5 : Int) : laws_szUnitS.l5 k 0 x0 x1 x5 = none := by kernel_rfl
theorem laws_szUnitS.l5_s (k n : Nat) (x0 : List (ByteArray × Int × Int × (List (Int × Int × Int × Int × Int × ByteArray × (List Int) × Unit)) × Unit)) (x1 : Int) (x5 : Int) : laws_szUnitS.l5 k (n + 1) x0 x1 x5 =
  iteB (decide (x5 < ((List.length x0) : Int))) (iteB (decide (0 ≤ x5)) (iteB (decide (x5 < ((List.length x0) : Int))) (bindO (laws_szUnit k (List.getD x0 (Int.toNat x5) (Ty.dflt tA5)) x1) fun r1 => (iteB (decide (r1 < 0)) (some (-1)) (laws_szUnitS.l5 k n x0 r1 (IntKind.wrap .i64 (x5 + 1))))) (none)) (none)) (some x1) := by kernel_rfl
theorem laws_szUnitS_e (k : Nat) (a1 : List (ByteArray × Int × Int × (List (Int × Int × Int × Int × Int × ByteArray × (List Int) × Unit)) × Unit)) (a2 : Int) : laws_szUnitS k a1 a2 =
  iteB (decide (IntKind.wrap .i64 (a2 - ((List.length a1) : Int)) < 0)) (some (-1)) (laws_szUnitS.l5 k k a1 (IntKind.wrap .i64 (a2 - ((List.length a1) : Int))) 0) := by kernel_rfl
theorem E_laws_szUnitS_calls (k : Nat) : CallsOk Try.prog (E_laws_szUnitS k) (arun Try.prog (E_laws_szUnitS k) k) := by
  refine told_run (tyTOk _ _) ?_ (fun run h => regOk (tyTOk _ _) mixOk h) ?_ nameOk k
  · intro g m hg
    simp only [E_laws_szUnitS] at hg
    split at hg
    · cases hg
      refine con_byVal fun ρ l K x hm => ?_
      split at hm
      · obtain ⟨c1, h1, hm⟩ := Option.bind_eq_some_iff.1 hm
        obtain ⟨c2, h2, hm⟩ := Option.bind_eq_some_iff.1 hm
        obtain ⟨r, hr, hm⟩ := Option.bind_eq_some_iff.1 hm
        exact ⟨_, hm, LawV.reads (.cons (.as h1) (.cons (.as h2) .nil)) (laws_szUnit_law k c1 c2 r hr)⟩
      · cases hm
    · cases hg; exact noCon_ok
    · cases hg
  · intro g hg r
    by_cases h : g = 4
    · subst h; simp [E_laws_szUnitS] at hg
    · simp [E_laws_szUnitS, h]
theorem f4_oklaws_szUnitS : Try.prog.funcs[4]? = some Try.f4 := by kernel_rfl
theorem laws_szUnitS_law (k : Nat) (a1 : List (ByteArray × Int × Int × (List (Int × Int × Int × Int × Int × ByteArray × (List Int) × Unit)) × Unit)) (a2 : Int) (x : Int) (h : laws_szUnitS k a1 a2 = some x) : LawV Try.prog 4 [.tv (.row tA5) a1, .int .i64 a2] (tvn (.int .i64) x) := by
  unfold laws_szUnitS at h
  exact law1 (t := (.int .i64)) (tyTOk _ _) (E_laws_szUnitS_calls k) mixOk f4_oklaws_szUnitS (nameOk _ _ f4_oklaws_szUnitS) (by kernel_rfl) h
/-! laws.toIntS -/
noncomputable def E_laws_toIntS (k : Nat) : Env := ⟨tyD, fun g => match g with
  | 76 => some noCon
  | _ => none, fun f r => match f with | 76 => (match r with | 3 => some [0, 3, 4] | _ => none) | _ => none⟩
noncomputable def laws_toIntS (k : Nat) (a1 : List Int) : Option (List Int) :=
  abody (E_laws_toIntS k) (arun Try.prog (E_laws_toIntS k) k) k 76 Try.f76 [.tv (.row (.int .i64)) a1] [] (finD (.row (.int .i64)))
noncomputable def laws_toIntS.l3 (k n : Nat) (x0 : List Int) (x4 : Int) (y0 : List Int) : Option (List Int) :=
  resume (E_laws_toIntS k) 76 (acall (E_laws_toIntS k) (arun Try.prog (E_laws_toIntS k) k)) k [true, true, false, true, true] [n] (bodyOf Try.f76) ⟨[.tv (.row (.int .i64)) x0, .undef, .undef, .sl 0, .int .i64 x4, .undef, .undef, .undef, .undef, .undef, .undef, .undef, .undef, .undef, .undef, .undef, .undef, .undef, .undef, .undef, .undef, .undef], [some ⟨.typed (.int .i64) y0, false⟩]⟩ (leave (E_laws_toIntS k) Try.f76 (finD (.row (.int .i64))))
theorem laws_toIntS.l3_0 (k : Nat) (x0 : List Int) (x4 : Int) (y0 : List Int) : laws_toIntS.l3 k 0 x0 x4 y0 = none := by kernel_rfl
theorem laws_toIntS.l3_s (k n : Nat) (x0 : List Int) (x4 : Int) (y0 : List Int) : laws_toIntS.l3 k (n + 1) x0 x4 y0 =
  iteB (decide (x4 < ((List.length x0) : Int))) (iteB (decide (0 ≤ x4)) (iteB (decide (x4 < ((List.length x0) : Int))) (iteB (decide (0 ≤ x4)) (iteB (decide (x4 < ((List.length y0) : Int))) (laws_toIntS.l3 k n x0 (IntKind.wrap .i64 (x4 + 1)) (List.set y0 (Int.toNat x4) (List.getD x0 (Int.toNat x4) 0))) (none)) (none)) (none)) (none)) (some y0) := by kernel_rfl
theorem laws_toIntS_e (k : Nat) (a1 : List Int) : laws_toIntS k a1 =
  iteB (decide (0 ≤ ((List.length a1) : Int))) (iteB (decide (((List.length a1) : Int) ≤ ((List.length a1) : Int))) (iteB (decide (((List.length a1) : Int) * 8 ≤ (lim : Int))) (iteB (decide (((List.length a1) : Int) ≤ (lim : Int)) && true) (laws_toIntS.l3 k k a1 0 (List.replicate (Int.toNat ((List.length a1) : Int)) (0 : Int))) (none)) (none)) (none)) (none) := by kernel_rfl
theorem E_laws_toIntS_calls (k : Nat) : CallsOk Try.prog (E_laws_toIntS k) (arun Try.prog (E_laws_toIntS k) k) := by
  refine told_run (tyDTOk _ _) ?_ (fun run h => regOk (tyDTOk _ _) mixOk h) ?_ nameOk k
  · intro g m hg
    simp only [E_laws_toIntS] at hg
    split at hg
    · cases hg; exact noCon_ok
    · cases hg
  · intro g hg r
    by_cases h : g = 76
    · subst h; simp [E_laws_toIntS] at hg
    · simp [E_laws_toIntS, h]
theorem f76_oklaws_toIntS : Try.prog.funcs[76]? = some Try.f76 := by kernel_rfl
theorem laws_toIntS_law (k : Nat) (a1 : List Int) (x : List Int) (h : laws_toIntS k a1 = some x) : LawD Try.prog 76 [.tv (.row (.int .i64)) a1] (.row (.int .i64)) x := by
  unfold laws_toIntS at h
  exact lawD (t := (.row (.int .i64))) (tyDTOk _ _) (E_laws_toIntS_calls k) mixOk f76_oklaws_toIntS (nameOk _ _ f76_oklaws_toIntS) (by kernel_rfl) h
/-! laws.toTac -/
noncomputable def E_laws_toTac (k : Nat) : Env := ⟨tyD, fun g => match g with
  | 76 => some (byNew (.row (.int .i64)) fun ρ l K => match l with
    | [b1] => (b1.as (.row (.int .i64))).bind fun c1 => (laws_toIntS k c1).bind fun r => K r
    | _ => none)
  | _ => none, fun _ _ => none⟩
noncomputable def laws_toTac (k : Nat) (a1 : Int × Int × Int × Int × Int × ByteArray × (List Int) × Unit) : Option (Int × Int × Int × Int × Int × ByteArray × (List Int) × Unit) :=
  abody (E_laws_toTac k) (arun Try.prog (E_laws_toTac k) k) k 59 Try.f59 [.tv tA4 a1] [] (finD tA4)
theorem laws_toTac_e (k : Nat) (a1 : Int × Int × Int × Int × Int × ByteArray × (List Int) × Unit) : laws_toTac k a1 =
  bindO (laws_toIntS k a1.2.2.2.2.2.2.1) fun r1 => (some (a1.1, a1.2.1, a1.2.2.1, a1.2.2.2.1, a1.2.2.2.2.1, a1.2.2.2.2.2.1, r1, ())) := by kernel_rfl
theorem E_laws_toTac_calls (k : Nat) : CallsOk Try.prog (E_laws_toTac k) (arun Try.prog (E_laws_toTac k) k) := by
  refine told_run (tyDTOk _ _) ?_ (fun run h => regOk (tyDTOk _ _) mixOk h) ?_ nameOk k
  · intro g m hg
    simp only [E_laws_toTac] at hg
    split at hg
    · cases hg
      refine con_byNew fun ρ l K x hm => ?_
      split at hm
      · obtain ⟨c1, h1, hm⟩ := Option.bind_eq_some_iff.1 hm
        obtain ⟨r, hr, hm⟩ := Option.bind_eq_some_iff.1 hm
        exact ⟨_, hm, LawD.reads (.cons (.as h1) .nil) (laws_toIntS_law k c1 r hr)⟩
      · cases hm
    · cases hg
  · intro g _ r; rfl
theorem f59_oklaws_toTac : Try.prog.funcs[59]? = some Try.f59 := by kernel_rfl
theorem laws_toTac_law (k : Nat) (a1 : Int × Int × Int × Int × Int × ByteArray × (List Int) × Unit) (x : Int × Int × Int × Int × Int × ByteArray × (List Int) × Unit) (h : laws_toTac k a1 = some x) : LawD Try.prog 59 [.tv tA4 a1] tA4 x := by
  unfold laws_toTac at h
  exact lawD (t := tA4) (tyDTOk _ _) (E_laws_toTac_calls k) mixOk f59_oklaws_toTac (nameOk _ _ f59_oklaws_toTac) (by kernel_rfl) h
/-! laws.toTacS -/
noncomputable def E_laws_toTacS (k : Nat) : Env := ⟨tyD, fun g => match g with
  | 59 => some (byNew tA4 fun ρ l K => match l with
    | [b1] => (b1.as tA4).bind fun c1 => (laws_toTac k c1).bind fun r => K r
    | _ => none)
  | 39 => some noCon
  | _ => none, fun f r => match f with | 39 => (match r with | 3 => some [0, 3, 4] | _ => none) | _ => none⟩
noncomputable def laws_toTacS (k : Nat) (a1 : List (Int × Int × Int × Int × Int × ByteArray × (List Int) × Unit)) : Option (List (Int × Int × Int × Int × Int × ByteArray × (List Int) × Unit)) :=
  abody (E_laws_toTacS k) (arun Try.prog (E_laws_toTacS k) k) k 39 Try.f39 [.tv (.row tA4) a1] [] (finD (.row tA4))
noncomputable def laws_toTacS.l3 (k n : Nat) (x0 : List (Int × Int × Int × Int × Int × ByteArray × (List Int) × Unit)) (x4 : Int) (y0 : List (Int × Int × Int × Int × Int × ByteArray × (List Int) × Unit)) : Option (List (Int × Int × Int × Int × Int × ByteArray × (List Int) × Unit)) :=
  resume (E_laws_toTacS k) 39 (acall (E_laws_toTacS k) (arun Try.prog (E_laws_toTacS k) k)) k [true, true, false, true, true] [n] (bodyOf Try.f39) ⟨[.tv (.row tA4) x0, .undef, .undef, .sl 0, .int .i64 x4, .undef, .undef, .undef, .undef, .undef, .undef, .undef, .undef, .undef, .undef, .undef, .undef, .undef, .undef, .undef, .undef, .undef, .undef], [some ⟨.deep false tA4 y0, false⟩]⟩ (leave (E_laws_toTacS k) Try.f39 (finD (.row tA4)))
theorem laws_toTacS.l3_0 (k : Nat) (x0 : List (Int × Int × Int × Int × Int × ByteArray × (List Int) × Unit)) (x4 : Int) (y0 : List (Int × Int × Int × Int × Int × ByteArray × (List Int) × Unit)) : laws_toTacS.l3 k 0 x0 x4 y0 = none := by kernel_rfl
theorem laws_toTacS.l3_s (k n : Nat) (x0 : List (Int × Int × Int × Int × Int × ByteArray × (List Int) × Unit)) (x4 : Int) (y0 : List (Int × Int × Int × Int × Int × ByteArray × (List Int) × Unit)) : laws_toTacS.l3 k (n + 1) x0 x4 y0 =
  iteB (decide (x4 < ((List.length x0) : Int))) (iteB (decide (0 ≤ x4)) (iteB (decide (x4 < ((List.length x0) : Int))) (bindO (laws_toTac k (List.getD x0 (Int.toNat x4) (Ty.dflt tA4))) fun r1 => (iteB (decide (0 ≤ x4)) (iteB (decide (x4 < ((List.length y0) : Int))) (laws_toTacS.l3 k n x0 (IntKind.wrap .i64 (x4 + 1)) (List.set y0 (Int.toNat x4) (r1.1, r1.2.1, r1.2.2.1, r1.2.2.2.1, r1.2.2.2.2.1, r1.2.2.2.2.2.1, r1.2.2.2.2.2.2.1, ()))) (none)) (none))) (none)) (none)) (some y0) := by kernel_rfl
theorem laws_toTacS_e (k : Nat) (a1 : List (Int × Int × Int × Int × Int × ByteArray × (List Int) × Unit)) : laws_toTacS k a1 =
  iteB (decide (0 ≤ ((List.length a1) : Int))) (iteB (decide (((List.length a1) : Int) ≤ ((List.length a1) : Int))) (iteB (decide (((List.length a1) : Int) * 80 ≤ (lim : Int))) (iteB (decide (((List.length a1) : Int) ≤ (lim : Int)) && true) (laws_toTacS.l3 k k a1 0 (List.replicate (Int.toNat ((List.length a1) : Int)) (Ty.dflt tA4))) (none)) (none)) (none)) (none) := by kernel_rfl
theorem E_laws_toTacS_calls (k : Nat) : CallsOk Try.prog (E_laws_toTacS k) (arun Try.prog (E_laws_toTacS k) k) := by
  refine told_run (tyDTOk _ _) ?_ (fun run h => regOk (tyDTOk _ _) mixOk h) ?_ nameOk k
  · intro g m hg
    simp only [E_laws_toTacS] at hg
    split at hg
    · cases hg
      refine con_byNew fun ρ l K x hm => ?_
      split at hm
      · obtain ⟨c1, h1, hm⟩ := Option.bind_eq_some_iff.1 hm
        obtain ⟨r, hr, hm⟩ := Option.bind_eq_some_iff.1 hm
        exact ⟨_, hm, LawD.reads (.cons (.as h1) .nil) (laws_toTac_law k c1 r hr)⟩
      · cases hm
    · cases hg; exact noCon_ok
    · cases hg
  · intro g hg r
    by_cases h : g = 39
    · subst h; simp [E_laws_toTacS] at hg
    · simp [E_laws_toTacS, h]
theorem f39_oklaws_toTacS : Try.prog.funcs[39]? = some Try.f39 := by kernel_rfl
theorem laws_toTacS_law (k : Nat) (a1 : List (Int × Int × Int × Int × Int × ByteArray × (List Int) × Unit)) (x : List (Int × Int × Int × Int × Int × ByteArray × (List Int) × Unit)) (h : laws_toTacS k a1 = some x) : LawD Try.prog 39 [.tv (.row tA4) a1] (.row tA4) x := by
  unfold laws_toTacS at h
  exact lawD (t := (.row tA4)) (tyDTOk _ _) (E_laws_toTacS_calls k) mixOk f39_oklaws_toTacS (nameOk _ _ f39_oklaws_toTacS) (by kernel_rfl) h
/-! laws.toUnit -/
noncomputable def E_laws_toUnit (k : Nat) : Env := ⟨tyD, fun g => match g with
  | 39 => some (byNew (.row tA4) fun ρ l K => match l with
    | [b1] => (b1.as (.row tA4)).bind fun c1 => (laws_toTacS k c1).bind fun r => K r
    | _ => none)
  | _ => none, fun _ _ => none⟩
noncomputable def laws_toUnit (k : Nat) (a1 : ByteArray × Int × Int × (List (Int × Int × Int × Int × Int × ByteArray × (List Int) × Unit)) × Unit) : Option (ByteArray × Int × Int × (List (Int × Int × Int × Int × Int × ByteArray × (List Int) × Unit)) × Unit) :=
  abody (E_laws_toUnit k) (arun Try.prog (E_laws_toUnit k) k) k 18 Try.f18 [.tv tA5 a1] [] (finD tA5)
theorem laws_toUnit_e (k : Nat) (a1 : ByteArray × Int × Int × (List (Int × Int × Int × Int × Int × ByteArray × (List Int) × Unit)) × Unit) : laws_toUnit k a1 =
  bindO (laws_toTacS k a1.2.2.2.1) fun r1 => (some (a1.1, a1.2.1, a1.2.2.1, r1, ())) := by kernel_rfl
theorem E_laws_toUnit_calls (k : Nat) : CallsOk Try.prog (E_laws_toUnit k) (arun Try.prog (E_laws_toUnit k) k) := by
  refine told_run (tyDTOk _ _) ?_ (fun run h => regOk (tyDTOk _ _) mixOk h) ?_ nameOk k
  · intro g m hg
    simp only [E_laws_toUnit] at hg
    split at hg
    · cases hg
      refine con_byNew fun ρ l K x hm => ?_
      split at hm
      · obtain ⟨c1, h1, hm⟩ := Option.bind_eq_some_iff.1 hm
        obtain ⟨r, hr, hm⟩ := Option.bind_eq_some_iff.1 hm
        exact ⟨_, hm, LawD.reads (.cons (.as h1) .nil) (laws_toTacS_law k c1 r hr)⟩
      · cases hm
    · cases hg
  · intro g _ r; rfl
theorem f18_oklaws_toUnit : Try.prog.funcs[18]? = some Try.f18 := by kernel_rfl
theorem laws_toUnit_law (k : Nat) (a1 : ByteArray × Int × Int × (List (Int × Int × Int × Int × Int × ByteArray × (List Int) × Unit)) × Unit) (x : ByteArray × Int × Int × (List (Int × Int × Int × Int × Int × ByteArray × (List Int) × Unit)) × Unit) (h : laws_toUnit k a1 = some x) : LawD Try.prog 18 [.tv tA5 a1] tA5 x := by
  unfold laws_toUnit at h
  exact lawD (t := tA5) (tyDTOk _ _) (E_laws_toUnit_calls k) mixOk f18_oklaws_toUnit (nameOk _ _ f18_oklaws_toUnit) (by kernel_rfl) h
/-! laws.toUnitS -/
noncomputable def E_laws_toUnitS (k : Nat) : Env := ⟨tyD, fun g => match g with
  | 18 => some (byNew tA5 fun ρ l K => match l with
    | [b1] => (b1.as tA5).bind fun c1 => (laws_toUnit k c1).bind fun r => K r
    | _ => none)
  | 6 => some noCon
  | _ => none, fun f r => match f with | 6 => (match r with | 3 => some [0, 3, 4] | _ => none) | _ => none⟩
noncomputable def laws_toUnitS (k : Nat) (a1 : List (ByteArray × Int × Int × (List (Int × Int × Int × Int × Int × ByteArray × (List Int) × Unit)) × Unit)) : Option (List (ByteArray × Int × Int × (List (Int × Int × Int × Int × Int × ByteArray × (List Int) × Unit)) × Unit)) :=
  abody (E_laws_toUnitS k) (arun Try.prog (E_laws_toUnitS k) k) k 6 Try.f6 [.tv (.row tA5) a1] [] (finD (.row tA5))
noncomputable def laws_toUnitS.l3 (k n : Nat) (x0 : List (ByteArray × Int × Int × (List (Int × Int × Int × Int × Int × ByteArray × (List Int) × Unit)) × Unit)) (x4 : Int) (y0 : List (ByteArray × Int × Int × (List (Int × Int × Int × Int × Int × ByteArray × (List Int) × Unit)) × Unit)) : Option (List (ByteArray × Int × Int × (List (Int × Int × Int × Int × Int × ByteArray × (List Int) × Unit)) × Unit)) :=
  resume (E_laws_toUnitS k) 6 (acall (E_laws_toUnitS k) (arun Try.prog (E_laws_toUnitS k) k)) k [true, true, false, true, true] [n] (bodyOf Try.f6) ⟨[.tv (.row tA5) x0, .undef, .undef, .sl 0, .int .i64 x4, .undef, .undef, .undef, .undef, .undef, .undef, .undef, .undef, .undef, .undef, .undef, .undef, .undef, .undef, .undef, .undef, .undef, .undef], [some ⟨.deep false tA5 y0, false⟩]⟩ (leave (E_laws_toUnitS k) Try.f6 (finD (.row tA5)))
theorem laws_toUnitS.l3_0 (k : Nat) (x0 : List (ByteArray × Int × Int × (List (Int × Int × Int × Int × Int × ByteArray × (List Int) × Unit)) × Unit)) (x4 : Int) (y0 : List (ByteArray × Int × Int × (List (Int × Int × Int × Int × Int × ByteArray × (List Int) × Unit)) × Unit)) : laws_toUnitS.l3 k 0 x0 x4 y0 = none := by kernel_rfl
theorem laws_toUnitS.l3_s (k n : Nat) (x0 : List (ByteArray × Int × Int × (List (Int × Int × Int × Int × Int × ByteArray × (List Int) × Unit)) × Unit)) (x4 : Int) (y0 : List (ByteArray × Int × Int × (List (Int × Int × Int × Int × Int × ByteArray × (List Int) × Unit)) × Unit)) : laws_toUnitS.l3 k (n + 1) x0 x4 y0 =
  iteB (decide (x4 < ((List.length x0) : Int))) (iteB (decide (0 ≤ x4)) (iteB (decide (x4 < ((List.length x0) : Int))) (bindO (laws_toUnit k (List.getD x0 (Int.toNat x4) (Ty.dflt tA5))) fun r1 => (iteB (decide (0 ≤ x4)) (iteB (decide (x4 < ((List.length y0) : Int))) (laws_toUnitS.l3 k n x0 (IntKind.wrap .i64 (x4 + 1)) (List.set y0 (Int.toNat x4) (r1.1, r1.2.1, r1.2.2.1, r1.2.2.2.1, ()))) (none)) (none))) (none)) (none)) (some y0) := by kernel_rfl
theorem laws_toUnitS_e (k : Nat) (a1 : List (ByteArray × Int × Int × (List (Int × Int × Int × Int × Int × ByteArray × (List Int) × Unit)) × Unit)) : laws_toUnitS k a1 =
  iteB (decide (0 ≤ ((List.length a1) : Int))) (iteB (decide (((List.length a1) : Int) ≤ ((List.length a1) : Int))) (iteB (decide (((List.length a1) : Int) * 56 ≤ (lim : Int))) (iteB (decide (((List.length a1) : Int) ≤ (lim : Int)) && true) (laws_toUnitS.l3 k k a1 0 (List.replicate (Int.toNat ((List.length a1) : Int)) (Ty.dflt tA5))) (none)) (none)) (none)) (none) := by kernel_rfl
theorem E_laws_toUnitS_calls (k : Nat) : CallsOk Try.prog (E_laws_toUnitS k) (arun Try.prog (E_laws_toUnitS k) k) := by
  refine told_run (tyDTOk _ _) ?_ (fun run h => regOk (tyDTOk _ _) mixOk h) ?_ nameOk k
  · intro g m hg
    simp only [E_laws_toUnitS] at hg
    split at hg
    · cases hg
      refine con_byNew fun ρ l K x hm => ?_
      split at hm
      · obtain ⟨c1, h1, hm⟩ := Option.bind_eq_some_iff.1 hm
        obtain ⟨r, hr, hm⟩ := Option.bind_eq_some_iff.1 hm
        exact ⟨_, hm, LawD.reads (.cons (.as h1) .nil) (laws_toUnit_law k c1 r hr)⟩
      · cases hm
    · cases hg; exact noCon_ok
    · cases hg
  · intro g hg r
    by_cases h : g = 6
    · subst h; simp [E_laws_toUnitS] at hg
    · simp [E_laws_toUnitS, h]
theorem f6_oklaws_toUnitS : Try.prog.funcs[6]? = some Try.f6 := by kernel_rfl
theorem laws_toUnitS_law (k : Nat) (a1 : List (ByteArray × Int × Int × (List (Int × Int × Int × Int × Int × ByteArray × (List Int) × Unit)) × Unit)) (x : List (ByteArray × Int × Int × (List (Int × Int × Int × Int × Int × ByteArray × (List Int) × Unit)) × Unit)) (h : laws_toUnitS k a1 = some x) : LawD Try.prog 6 [.tv (.row tA5) a1] (.row tA5) x := by
  unfold laws_toUnitS at h
  exact lawD (t := (.row tA5)) (tyDTOk _ _) (E_laws_toUnitS_calls k) mixOk f6_oklaws_toUnitS (nameOk _ _ f6_oklaws_toUnitS) (by kernel_rfl) h
/-! spec.l10Unit -/
noncomputable def E_spec_l10Unit (k : Nat) : Env := ⟨ty, fun g => match g with
  | 14 => some noCon
  | _ => none, fun f r => match f with | 14 => (match r with | 2 => some [0, 1, 5] | _ => none) | _ => none⟩
noncomputable def spec_l10Unit (k : Nat) (a1 : List (ByteArray × Int × Int × (List (Int × Int × Int × Int × Int × ByteArray × (List Int) × Unit)) × Unit)) (a2 : ByteArray) : Option (Int) :=
  abody (E_spec_l10Unit k) (arun Try.prog (E_spec_l10Unit k) k) k 14 Try.f14 [.tv (.row tA5) a1, .str a2] [] (fin1 (.int .i64))
noncomputable def spec_l10Unit.l2 (k n : Nat) (x0 : List (ByteArray × Int × Int × (List (Int × Int × Int × Int × Int × ByteArray × (List Int) × Unit)) × Unit)) (x1 : ByteArray) (x5 : Int) : Option (Int) :=
  resume (E_spec_l10Unit k) 14 (acall (E_spec_l10Unit k) (arun Try.prog (E_spec_l10Unit k) k)) k [true, false, true, true] [n] (bodyOf Try.f14) ⟨[.tv (.row tA5) x0, .str x1, .undef, .undef, .undef, .int .i64 x5, .undef, .undef, .undef, .undef, .undef, .undef, .undef, .undef, .undef, .undef, .undef, .undef, .undef, .undef], []⟩ (leave (E_spec_l10Unit k) Try.f14 (fin1 (.int .i64)))
theorem spec_l10Unit.l2_0 (k : Nat) (x0 : List (ByteArray × Int × Int × (List (Int × Int × Int × Int × Int × ByteArray × (List Int) × Unit)) × Unit)) (x1 : ByteArray) (x5 : Int) : spec_l10Unit.l2 k 0 x0 x1 x5 = none := by kernel_rfl
theorem spec_l10Unit.l2_s (k n : Nat) (x0 : List (ByteArray × Int × Int × (List (Int × Int × Int × Int × Int × ByteArray × (List Int) × Unit)) × Unit)) (x1 : ByteArray) (x5 : Int) : spec_l10Unit.l2 k (n + 1) x0 x1 x5 =
  iteB (decide (x5 < ((List.length x0) : Int))) (iteB (decide (0 ≤ x5)) (iteB (decide (x5 < ((List.length x0) : Int))) (iteB (ByteArray.toList ((List.getD x0 (Int.toNat x5) (Ty.dflt tA5)).1) == ByteArray.toList x1) (some x5) (spec_l10Unit.l2 k n x0 x1 (IntKind.wrap .i64 (x5 + 1)))) (none)) (none)) (some (-1)) := by kernel_rfl
theorem spec_l10Unit_e (k : Nat) (a1 : List (ByteArray × Int × Int × (List (Int × Int × Int × Int × Int × ByteArray × (List Int) × Unit)) × Unit)) (a2 : ByteArray) : spec_l10Unit k a1 a2 =
  spec_l10Unit.l2 k k a1 a2 0 := by kernel_rfl
theorem E_spec_l10Unit_calls (k : Nat) : CallsOk Try.prog (E_spec_l10Unit k) (arun Try.prog (E_spec_l10Unit k) k) := by
  refine told_run (tyTOk _ _) ?_ (fun run h => regOk (tyTOk _ _) mixOk h) ?_ nameOk k
  · intro g m hg
    simp only [E_spec_l10Unit] at hg
    split at hg
    · cases hg; exact noCon_ok
    · cases hg
  · intro g hg r
    by_cases h : g = 14
    · subst h; simp [E_spec_l10Unit] at hg
    · simp [E_spec_l10Unit, h]
theorem f14_okspec_l10Unit : Try.prog.funcs[14]? = some Try.f14 := by kernel_rfl
theorem spec_l10Unit_law (k : Nat) (a1 : List (ByteArray × Int × Int × (List (Int × Int × Int × Int × Int × ByteArray × (List Int) × Unit)) × Unit)) (a2 : ByteArray) (x : Int) (h : spec_l10Unit k a1 a2 = some x) : LawV Try.prog 14 [.tv (.row tA5) a1, .str a2] (tvn (.int .i64) x) := by
  unfold spec_l10Unit at h
  exact law1 (t := (.int .i64)) (tyTOk _ _) (E_spec_l10Unit_calls k) mixOk f14_okspec_l10Unit (nameOk _ _ f14_okspec_l10Unit) (by kernel_rfl) h
/-! spec.l1In -/
noncomputable def E_spec_l1In (k : Nat) : Env := ⟨ty, fun _ => none, fun _ _ => none⟩
noncomputable def spec_l1In (k : Nat) (a1 : Int) (a2 : Int) (a3 : Int) : Option (Bool) :=
  abody (E_spec_l1In k) (arun Try.prog (E_spec_l1In k) k) k 54 Try.f54 [.int .i64 a1, .int .i64 a2, .int .i64 a3] [] (fin1 .bool)
theorem spec_l1In_e (k : Nat) (a1 : Int) (a2 : Int) (a3 : Int) : spec_l1In k a1 a2 a3 =
  iteB (decide (a1 ≥ a2)) (some (decide (a1 ≤ a3))) (some false) := by kernel_rfl
theorem E_spec_l1In_calls (k : Nat) : CallsOk Try.prog (E_spec_l1In k) (arun Try.prog (E_spec_l1In k) k) := by
  refine told_run (tyTOk _ _) ?_ (fun run h => regOk (tyTOk _ _) mixOk h) ?_ nameOk k
  · intro g m hg
    cases hg
  · intro g _ r; rfl
theorem f54_okspec_l1In : Try.prog.funcs[54]? = some Try.f54 := by kernel_rfl
theorem spec_l1In_law (k : Nat) (a1 : Int) (a2 : Int) (a3 : Int) (x : Bool) (h : spec_l1In k a1 a2 a3 = some x) : LawV Try.prog 54 [.int .i64 a1, .int .i64 a2, .int .i64 a3] (tvn .bool x) := by
  unfold spec_l1In at h
  exact law1 (t := .bool) (tyTOk _ _) (E_spec_l1In_calls k) mixOk f54_okspec_l1In (nameOk _ _ f54_okspec_l1In) (by kernel_rfl) h
/-! spec.l1Min -/
noncomputable def E_spec_l1Min (k : Nat) : Env := ⟨ty, fun _ => none, fun _ _ => none⟩
noncomputable def spec_l1Min (k : Nat) (a1 : Int) (a2 : Int) : Option (Int) :=
  abody (E_spec_l1Min k) (arun Try.prog (E_spec_l1Min k) k) k 55 Try.f55 [.int .i64 a1, .int .i64 a2] [] (fin1 (.int .i64))
theorem spec_l1Min_e (k : Nat) (a1 : Int) (a2 : Int) : spec_l1Min k a1 a2 =
  iteB (decide (a1 < a2)) (some a1) (some a2) := by kernel_rfl
theorem E_spec_l1Min_calls (k : Nat) : CallsOk Try.prog (E_spec_l1Min k) (arun Try.prog (E_spec_l1Min k) k) := by
  refine told_run (tyTOk _ _) ?_ (fun run h => regOk (tyTOk _ _) mixOk h) ?_ nameOk k
  · intro g m hg
    cases hg
  · intro g _ r; rfl
theorem f55_okspec_l1Min : Try.prog.funcs[55]? = some Try.f55 := by kernel_rfl
theorem spec_l1Min_law (k : Nat) (a1 : Int) (a2 : Int) (x : Int) (h : spec_l1Min k a1 a2 = some x) : LawV Try.prog 55 [.int .i64 a1, .int .i64 a2] (tvn (.int .i64) x) := by
  unfold spec_l1Min at h
  exact law1 (t := (.int .i64)) (tyTOk _ _) (E_spec_l1Min_calls k) mixOk f55_okspec_l1Min (nameOk _ _ f55_okspec_l1Min) (by kernel_rfl) h
/-! spec.l10Has -/
noncomputable def E_spec_l10Has (k : Nat) : Env := ⟨ty, fun g => match g with
  | 54 => some (byVal fun ρ l K => match l with
    | [b1, b2, b3] => (b1.as (.int .i64)).bind fun c1 => (b2.as (.int .i64)).bind fun c2 => (b3.as (.int .i64)).bind fun c3 => (spec_l1In k c1 c2 c3).bind fun r => K (tvn .bool r)
    | _ => none)
  | _ => none, fun _ _ => none⟩
noncomputable def spec_l10Has (k : Nat) (a1 : Int) : Option (Int) :=
  abody (E_spec_l10Has k) (arun Try.prog (E_spec_l10Has k) k) k 71 Try.f71 [.int .i64 a1] [] (fin1 (.int .i64))
theorem spec_l10Has_e (k : Nat) (a1 : Int) : spec_l10Has k a1 =
  bindO (spec_l1In k a1 1 28) fun r1 => (iteB (!r1) (some 0) (iteB (decide (0 ≤ a1)) (iteB (decide (a1 < ((List.length [0, 9, 3, 7, 7, 7, 7, 7, 8, 8, 10, 49, 2, 2, 48, 3, 6, 3, 2, 45, 3, 6, 39, 1, 17, 2, 6, 6, 2]) : Int))) (some (List.getD [0, 9, 3, 7, 7, 7, 7, 7, 8, 8, 10, 49, 2, 2, 48, 3, 6, 3, 2, 45, 3, 6, 39, 1, 17, 2, 6, 6, 2] (Int.toNat a1) 0)) (none)) (none))) := by kernel_rfl
theorem E_spec_l10Has_calls (k : Nat) : CallsOk Try.prog (E_spec_l10Has k) (arun Try.prog (E_spec_l10Has k) k) := by
  refine told_run (tyTOk _ _) ?_ (fun run h => regOk (tyTOk _ _) mixOk h) ?_ nameOk k
  · intro g m hg
    simp only [E_spec_l10Has] at hg
    split at hg
    · cases hg
      refine con_byVal fun ρ l K x hm => ?_
      split at hm
      · obtain ⟨c1, h1, hm⟩ := Option.bind_eq_some_iff.1 hm
        obtain ⟨c2, h2, hm⟩ := Option.bind_eq_some_iff.1 hm
        obtain ⟨c3, h3, hm⟩ := Option.bind_eq_some_iff.1 hm
        obtain ⟨r, hr, hm⟩ := Option.bind_eq_some_iff.1 hm
        exact ⟨_, hm, LawV.reads (.cons (.as h1) (.cons (.as h2) (.cons (.as h3) .nil))) (spec_l1In_law k c1 c2 c3 r hr)⟩
      · cases hm
    · cases hg
  · intro g _ r; rfl
theorem f71_okspec_l10Has : Try.prog.funcs[71]? = some Try.f71 := by kernel_rfl
theorem spec_l10Has_law (k : Nat) (a1 : Int) (x : Int) (h : spec_l10Has k a1 = some x) : LawV Try.prog 71 [.int .i64 a1] (tvn (.int .i64) x) := by
  unfold spec_l10Has at h
  exact law1 (t := (.int .i64)) (tyTOk _ _) (E_spec_l10Has_calls k) mixOk f71_okspec_l10Has (nameOk _ _ f71_okspec_l10Has) (by kernel_rfl) h
/-! spec.l10Args -/
noncomputable def E_spec_l10Args (k : Nat) : Env := ⟨ty, fun g => match g with
  | 54 => some (byVal fun ρ l K => match l with
    | [b1, b2, b3] => (b1.as (.int .i64)).bind fun c1 => (b2.as (.int .i64)).bind fun c2 => (b3.as (.int .i64)).bind fun c3 => (spec_l1In k c1 c2 c3).bind fun r => K (tvn .bool r)
    | _ => none)
  | 72 => some noCon
  | _ => none, fun f r => match f with | 72 => (match r with | 5 => some [1, 3, 4] | _ => none) | _ => none⟩
noncomputable def spec_l10Args (k : Nat) (a1 : Int × Int × Int × Int × Int × ByteArray × (List Int) × Unit) : Option (Bool) :=
  abody (E_spec_l10Args k) (arun Try.prog (E_spec_l10Args k) k) k 72 Try.f72 [.tv tA4 a1] [] (fin1 .bool)
noncomputable def spec_l10Args.l5 (k n : Nat) (x3 : Int) (x4 : Int) (y0_0 : Int × Int × Int × Int × Int × ByteArray × (List Int) × Unit) : Option (Bool) :=
  resume (E_spec_l10Args k) 72 (acall (E_spec_l10Args k) (arun Try.prog (E_spec_l10Args k) k)) k [true, true, false, true, true, true, false, false, true, true] [n] (bodyOf Try.f72) ⟨[.undef, .ptr 0 0 0, .undef, .int .i64 x3, .int .i64 x4, .undef, .undef, .undef, .undef, .undef, .undef, .undef, .undef, .undef, .undef, .undef, .undef, .undef, .undef, .undef, .undef, .undef, .undef, .undef, .undef, .undef, .undef, .undef, .undef, .undef, .undef, .undef, .undef, .undef, .undef, .undef, .undef, .undef, .undef, .undef, .undef, .undef, .undef, .undef, .undef, .undef, .undef, .undef, .undef, .undef, .undef, .undef, .undef, .undef, .undef, .undef, .undef, .undef, .undef, .undef, .undef, .undef, .undef, .undef, .undef, .undef, .undef, .undef], [some ⟨.raw true 7 (.agg [.int .i64 0, .int .i64 0, .int .i64 0, .int .i64 0, .int .i64 0, .str ByteArray.empty, .nils]) [.tv tA4 y0_0], true⟩]⟩ (leave (E_spec_l10Args k) Try.f72 (fin1 .bool))
theorem spec_l10Args.l5_0 (k : Nat) (x3 : Int) (x4 : Int) (y0_0 : Int × Int × Int × Int × Int × ByteArray × (List Int) × Unit) : spec_l10Args.l5 k 0 x3 x4 y0_0 = none := by kernel_rfl
theorem spec_l10Args.l5_s (k n : Nat) (x3 : Int) (x4 : Int) (y0_0 : Int × Int × Int × Int × Int × ByteArray × (List Int) × Unit) : spec_l10Args.l5 k (n + 1) x3 x4 y0_0 =
  iteB (decide (x4 < x3)) (iteB (decide (0 ≤ x4)) (iteB (decide (x4 < ((List.length y0_0.2.2.2.2.2.2.1) : Int))) (bindO (spec_l1In k (List.getD y0_0.2.2.2.2.2.2.1 (Int.toNat x4) 0) 1 2) fun r1 => (iteB (!(!r1)) (iteB (decide (IntKind.wrap .i64 (x4 + 2) < x3)) (iteB (decide (0 ≤ x4)) (iteB (decide (x4 < ((List.length y0_0.2.2.2.2.2.2.1) : Int))) (iteB ((List.getD y0_0.2.2.2.2.2.2.1 (Int.toNat x4) 0) == 1) (iteB (decide (0 ≤ IntKind.wrap .i64 (x4 + 2))) (iteB (decide (IntKind.wrap .i64 (x4 + 2) < ((List.length y0_0.2.2.2.2.2.2.1) : Int))) (iteB ((List.getD y0_0.2.2.2.2.2.2.1 (Int.toNat (IntKind.wrap .i64 (x4 + 2))) 0) != 0) (some false) (spec_l10Args.l5 k n x3 (IntKind.wrap .i64 (x4 + 3)) y0_0)) (none)) (none)) (spec_l10Args.l5 k n x3 (IntKind.wrap .i64 (x4 + 3)) y0_0)) (none)) (none)) (spec_l10Args.l5 k n x3 (IntKind.wrap .i64 (x4 + 3)) y0_0)) (some false))) (none)) (none)) (iteB (!(x3 == 3)) (iteB (!(x3 == 6)) (some (x3 == 9)) (some true)) (some true)) := by kernel_rfl
theorem spec_l10Args_e (k : Nat) (a1 : Int × Int × Int × Int × Int × ByteArray × (List Int) × Unit) : spec_l10Args k a1 =
  iteB (a1.1 == 19) (spec_l10Args.l5 k k ((List.length a1.2.2.2.2.2.2.1) : Int) 0 a1) (iteB (a1.1 == 22) (some (((List.length a1.2.2.2.2.2.2.1) : Int) == 1)) (iteB (a1.1 == 11) (some (decide (((List.length a1.2.2.2.2.2.2.1) : Int) ≤ 4))) (iteB (a1.1 == 14) (some (decide (((List.length a1.2.2.2.2.2.2.1) : Int) ≤ 4))) (some (((List.length a1.2.2.2.2.2.2.1) : Int) == 0))))) := by kernel_rfl
theorem E_spec_l10Args_calls (k : Nat) : CallsOk Try.prog (E_spec_l10Args k) (arun Try.prog (E_spec_l10Args k) k) := by
  refine told_run (tyTOk _ _) ?_ (fun run h => regOk (tyTOk _ _) mixOk h) ?_ nameOk k
  · intro g m hg
    simp only [E_spec_l10Args] at hg
    split at hg
    · cases hg
      refine con_byVal fun ρ l K x hm => ?_
      split at hm
      · obtain ⟨c1, h1, hm⟩ := Option.bind_eq_some_iff.1 hm
        obtain ⟨c2, h2, hm⟩ := Option.bind_eq_some_iff.1 hm
        obtain ⟨c3, h3, hm⟩ := Option.bind_eq_some_iff.1 hm
        obtain ⟨r, hr, hm⟩ := Option.bind_eq_some_iff.1 hm
        exact ⟨_, hm, LawV.reads (.cons (.as h1) (.cons (.as h2) (.cons (.as h3) .nil))) (spec_l1In_law k c1 c2 c3 r hr)⟩
      · cases hm
    · cases hg; exact noCon_ok
    · cases hg
  · intro g hg r
    by_cases h : g = 72
    · subst h; simp [E_spec_l10Args] at hg
    · simp [E_spec_l10Args, h]
theorem f72_okspec_l10Args : Try.prog.funcs[72]? = some Try.f72 := by kernel_rfl
theorem spec_l10Args_law (k : Nat) (a1 : Int × Int × Int × Int × Int × ByteArray × (List Int) × Unit) (x : Bool) (h : spec_l10Args k a1 = some x) : LawV Try.prog 72 [.tv tA4 a1] (tvn .bool x) := by
  unfold spec_l10Args at h
  exact law1 (t := .bool) (tyTOk _ _) (E_spec_l10Args_calls k) mixOk f72_okspec_l10Args (nameOk _ _ f72_okspec_l10Args) (by kernel_rfl) h
/-! spec.Sets -/
noncomputable def E_spec_Sets (k : Nat) : Env := ⟨ty, fun g => match g with
  | 71 => some (byVal fun ρ l K => match l with
    | [b1] => (b1.as (.int .i64)).bind fun c1 => (spec_l10Has k c1).bind fun r => K (tvn (.int .i64) r)
    | _ => none)
  | 89 => some noCon
  | _ => none, fun f r => match f with | 89 => (match r with | 4 => some [1, 3] | _ => none) | _ => none⟩
noncomputable def spec_Sets (k : Nat) (a1 : Int × Int × Int × Int × Int × ByteArray × (List Int) × Unit) : Option (List Int) :=
  abody (E_spec_Sets k) (arun Try.prog (E_spec_Sets k) k) k 89 Try.f89 [.tv tA4 a1] [] (finF (.int .i64))
noncomputable def spec_Sets.j4 (k : Nat) (y0_0 : Int × Int × Int × Int × Int × ByteArray × (List Int) × Unit) (y1 : List Int) : Option (List Int) :=
  resume (E_spec_Sets k) 89 (acall (E_spec_Sets k) (arun Try.prog (E_spec_Sets k) k)) k [true, true, true] [] (bodyOf Try.f89) ⟨[.undef, .ptr 0 0 0, .undef, .sl 1, .undef, .undef, .undef, .undef, .undef, .undef, .undef, .undef, .undef, .undef, .undef, .undef, .undef, .undef, .undef, .undef, .undef, .undef, .undef, .undef], [some ⟨.raw true 7 (.agg [.int .i64 0, .int .i64 0, .int .i64 0, .int .i64 0, .int .i64 0, .str ByteArray.empty, .nils]) [.tv tA4 y0_0], true⟩, some ⟨.typed (.int .i64) y1, false⟩]⟩ (leave (E_spec_Sets k) Try.f89 (finF (.int .i64)))
noncomputable def spec_Sets.j4b (k : Nat) (y0_0 : Int × Int × Int × Int × Int × ByteArray × (List Int) × Unit) : Option (List Int) :=
  resume (E_spec_Sets k) 89 (acall (E_spec_Sets k) (arun Try.prog (E_spec_Sets k) k)) k [true, true, true] [] (bodyOf Try.f89) ⟨[.undef, .ptr 0 0 0, .undef, .sl 1, .undef, .undef, .undef, .undef, .undef, .undef, .undef, .undef, .undef, .undef, .undef, .undef, .undef, .undef, .undef, .undef, .undef, .undef, .undef, .undef], [some ⟨.raw true 7 (.agg [.int .i64 0, .int .i64 0, .int .i64 0, .int .i64 0, .int .i64 0, .str ByteArray.empty, .nils]) [.tv tA4 y0_0], true⟩, some ⟨.typed (.int .i64) [], true⟩]⟩ (leave (E_spec_Sets k) Try.f89 (finF (.int .i64)))
theorem spec_Sets.j4_e (k : Nat) (y0_0 : Int × Int × Int × Int × Int × ByteArray × (List Int) × Unit) (y1 : List Int) : spec_Sets.j4 k y0_0 y1 =
  iteB (y0_0.1 == 19) (iteB (decide ((List.length (y1 ++ [y0_0.2.2.2.1])) * 8 ≤ lim)) (some (y1 ++ [y0_0.2.2.2.1])) (none)) (some y1) := by kernel_rfl
theorem spec_Sets.j4b_e (k : Nat) (y0_0 : Int × Int × Int × Int × Int × ByteArray × (List Int) × Unit) : spec_Sets.j4b k y0_0 =
  iteB (y0_0.1 == 19) (iteB (decide ((List.length ([] ++ [y0_0.2.2.2.1])) * 8 ≤ lim)) (some ([] ++ [y0_0.2.2.2.1])) (none)) (some []) := by kernel_rfl
theorem spec_Sets_e (k : Nat) (a1 : Int × Int × Int × Int × Int × ByteArray × (List Int) × Unit) : spec_Sets k a1 =
  bindO (spec_l10Has k a1.1) fun r1 => (iteB ((IntKind.wrap .i64 ((BitVec.ofInt (IntKind.bits .i64) r1 &&& BitVec.ofInt (IntKind.bits .i64) 1).toNat : Int)) != 0) (iteB (decide ((List.length ([] ++ [a1.2.1])) * 8 ≤ lim)) (gate k (spec_Sets.j4 k a1 ([] ++ [a1.2.1]))) (none)) (gate k (spec_Sets.j4b k a1))) := by kernel_rfl
theorem E_spec_Sets_calls (k : Nat) : CallsOk Try.prog (E_spec_Sets k) (arun Try.prog (E_spec_Sets k) k) := by
  refine told_run (tyTOk _ _) ?_ (fun run h => regOk (tyTOk _ _) mixOk h) ?_ nameOk k
  · intro g m hg
    simp only [E_spec_Sets] at hg
    split at hg
    · cases hg
      refine con_byVal fun ρ l K x hm => ?_
      split at hm
      · obtain ⟨c1, h1, hm⟩ := Option.bind_eq_some_iff.1 hm
        obtain ⟨r, hr, hm⟩ := Option.bind_eq_some_iff.1 hm
        exact ⟨_, hm, LawV.reads (.cons (.as h1) .nil) (spec_l10Has_law k c1 r hr)⟩
      · cases hm
    · cases hg; exact noCon_ok
    · cases hg
  · intro g hg r
    by_cases h : g = 89
    · subst h; simp [E_spec_Sets] at hg
    · simp [E_spec_Sets, h]
theorem f89_okspec_Sets : Try.prog.funcs[89]? = some Try.f89 := by kernel_rfl
theorem spec_Sets_law (k : Nat) (a1 : Int × Int × Int × Int × Int × ByteArray × (List Int) × Unit) (x : List Int) (h : spec_Sets k a1 = some x) : LawF Try.prog 89 [.tv tA4 a1] (.int .i64) x := by
  unfold spec_Sets at h
  exact lawF (e := (.int .i64)) (tyTOk _ _) (E_spec_Sets_calls k) mixOk f89_okspec_Sets (nameOk _ _ f89_okspec_Sets) (by kernel_rfl) h
/-! spec.Uses -/
noncomputable def E_spec_Uses (k : Nat) : Env := ⟨ty, fun g => match g with
  | 71 => some (byVal fun ρ l K => match l with
    | [b1] => (b1.as (.int .i64)).bind fun c1 => (spec_l10Has k c1).bind fun r => K (tvn (.int .i64) r)
    | _ => none)
  | 90 => some noCon
  | _ => none, fun f r => match f with | 90 => (match r with | 5 => some [1, 3, 4] | 7 => some [1, 3, 4] | 8 => some [1, 3, 4, 5] | 10 => some [1, 3, 4, 5] | _ => none) | _ => none⟩
noncomputable def spec_Uses (k : Nat) (a1 : Int × Int × Int × Int × Int × ByteArray × (List Int) × Unit) : Option (List Int) :=
  abody (E_spec_Uses k) (arun Try.prog (E_spec_Uses k) k) k 90 Try.f90 [.tv tA4 a1] [] (fin1 (.row (.int .i64)))
noncomputable def spec_Uses.j5 (k : Nat) (x4 : Int) (y0_0 : Int × Int × Int × Int × Int × ByteArray × (List Int) × Unit) (y1 : List Int) : Option (List Int) :=
  resume (E_spec_Uses k) 90 (acall (E_spec_Uses k) (arun Try.prog (E_spec_Uses k) k)) k [true, true, true, true] [] (bodyOf Try.f90) ⟨[.undef, .ptr 0 0 0, .undef, .sl 1, .int .i64 x4, .undef, .undef, .undef, .undef, .undef, .undef, .undef, .undef, .undef, .undef, .undef, .undef, .undef, .undef, .undef, .undef, .undef, .undef, .undef, .undef, .undef, .undef, .undef, .undef, .undef, .undef, .undef, .undef, .undef, .undef, .undef, .undef, .undef, .undef, .undef, .undef, .undef, .undef, .undef, .undef, .undef, .undef, .undef, .undef, .undef, .undef, .undef, .undef, .undef, .undef, .undef, .undef, .undef, .undef, .undef, .undef, .undef, .undef, .undef, .undef, .undef, .undef, .undef, .undef, .undef, .undef, .undef, .undef, .undef], [some ⟨.raw true 7 (.agg [.int .i64 0, .int .i64 0, .int .i64 0, .int .i64 0, .int .i64 0, .str ByteArray.empty, .nils]) [.tv tA4 y0_0], true⟩, some ⟨.typed (.int .i64) y1, false⟩]⟩ (leave (E_spec_Uses k) Try.f90 (fin1 (.row (.int .i64))))
noncomputable def spec_Uses.j5b (k : Nat) (x4 : Int) (y0_0 : Int × Int × Int × Int × Int × ByteArray × (List Int) × Unit) : Option (List Int) :=
  resume (E_spec_Uses k) 90 (acall (E_spec_Uses k) (arun Try.prog (E_spec_Uses k) k)) k [true, true, true, true] [] (bodyOf Try.f90) ⟨[.undef, .ptr 0 0 0, .undef, .sl 1, .int .i64 x4, .undef, .undef, .undef, .undef, .undef, .undef, .undef, .undef, .undef, .undef, .undef, .undef, .undef, .undef, .undef, .undef, .undef, .undef, .undef, .undef, .undef, .undef, .undef, .undef, .undef, .undef, .undef, .undef, .undef, .undef, .undef, .undef, .undef, .undef, .undef, .undef, .undef, .undef, .undef, .undef, .undef, .undef, .undef, .undef, .undef, .undef, .undef, .undef, .undef, .undef, .undef, .undef, .undef, .undef, .undef, .undef, .undef, .undef, .undef, .undef, .undef, .undef, .undef, .undef, .undef, .undef, .undef, .undef, .undef], [some ⟨.raw true 7 (.agg [.int .i64 0, .int .i64 0, .int .i64 0, .int .i64 0, .int .i64 0, .str ByteArray.empty, .nils]) [.tv tA4 y0_0], true⟩, some ⟨.typed (.int .i64) [], true⟩]⟩ (leave (E_spec_Uses k) Try.f90 (fin1 (.row (.int .i64))))
noncomputable def spec_Uses.j7 (k : Nat) (x4 : Int) (y0_0 : Int × Int × Int × Int × Int × ByteArray × (List Int) × Unit) (y1 : List Int) : Option (List Int) :=
  resume (E_spec_Uses k) 90 (acall (E_spec_Uses k) (arun Try.prog (E_spec_Uses k) k)) k [true, true, true, true, true] [] (bodyOf Try.f90) ⟨[.undef, .ptr 0 0 0, .undef, .sl 1, .int .i64 x4, .undef, .undef, .undef, .undef, .undef, .undef, .undef, .undef, .undef, .undef, .undef, .undef, .undef, .undef, .undef, .undef, .undef, .undef, .undef, .undef, .undef, .undef, .undef, .undef, .undef, .undef, .undef, .undef, .undef, .undef, .undef, .undef, .undef, .undef, .undef, .undef, .undef, .undef, .undef, .undef, .undef, .undef, .undef, .undef, .undef, .undef, .undef, .undef, .undef, .undef, .undef, .undef, .undef, .undef, .undef, .undef, .undef, .undef, .undef, .undef, .undef, .undef, .undef, .undef, .undef, .undef, .undef, .undef, .undef], [some ⟨.raw true 7 (.agg [.int .i64 0, .int .i64 0, .int .i64 0, .int .i64 0, .int .i64 0, .str ByteArray.empty, .nils]) [.tv tA4 y0_0], true⟩, some ⟨.typed (.int .i64) y1, false⟩]⟩ (leave (E_spec_Uses k) Try.f90 (fin1 (.row (.int .i64))))
noncomputable def spec_Uses.j7b (k : Nat) (x4 : Int) (y0_0 : Int × Int × Int × Int × Int × ByteArray × (List Int) × Unit) : Option (List Int) :=
  resume (E_spec_Uses k) 90 (acall (E_spec_Uses k) (arun Try.prog (E_spec_Uses k) k)) k [true, true, true, true, true] [] (bodyOf Try.f90) ⟨[.undef, .ptr 0 0 0, .undef, .sl 1, .int .i64 x4, .undef, .undef, .undef, .undef, .undef, .undef, .undef, .undef, .undef, .undef, .undef, .undef, .undef, .undef, .undef, .undef, .undef, .undef, .undef, .undef, .undef, .undef, .undef, .undef, .undef, .undef, .undef, .undef, .undef, .undef, .undef, .undef, .undef, .undef, .undef, .undef, .undef, .undef, .undef, .undef, .undef, .undef, .undef, .undef, .undef, .undef, .undef, .undef, .undef, .undef, .undef, .undef, .undef, .undef, .undef, .undef, .undef, .undef, .undef, .undef, .undef, .undef, .undef, .undef, .undef, .undef, .undef, .undef, .undef], [some ⟨.raw true 7 (.agg [.int .i64 0, .int .i64 0, .int .i64 0, .int .i64 0, .int .i64 0, .str ByteArray.empty, .nils]) [.tv tA4 y0_0], true⟩, some ⟨.typed (.int .i64) [], true⟩]⟩ (leave (E_spec_Uses k) Try.f90 (fin1 (.row (.int .i64))))
noncomputable def spec_Uses.l8 (k n : Nat) (x4 : Int) (x5 : Int) (y0_0 : Int × Int × Int × Int × Int × ByteArray × (List Int) × Unit) (y1 : List Int) : Option (List Int) :=
  resume (E_spec_Uses k) 90 (acall (E_spec_Uses k) (arun Try.prog (E_spec_Uses k) k)) k [true, true, true, true, true, false, true, true] [n] (bodyOf Try.f90) ⟨[.undef, .ptr 0 0 0, .undef, .sl 1, .int .i64 x4, .int .i64 x5, .undef, .undef, .undef, .undef, .undef, .undef, .undef, .undef, .undef, .undef, .undef, .undef, .undef, .undef, .undef, .undef, .undef, .undef, .undef, .undef, .undef, .undef, .undef, .undef, .undef, .undef, .undef, .undef, .undef, .undef, .undef, .undef, .undef, .undef, .undef, .undef, .undef, .undef, .undef, .undef, .undef, .undef, .undef, .undef, .undef, .undef, .undef, .undef, .undef, .undef, .undef, .undef, .undef, .undef, .undef, .undef, .undef, .undef, .undef, .undef, .undef, .undef, .undef, .undef, .undef, .undef, .undef, .undef], [some ⟨.raw true 7 (.agg [.int .i64 0, .int .i64 0, .int .i64 0, .int .i64 0, .int .i64 0, .str ByteArray.empty, .nils]) [.tv tA4 y0_0], true⟩, some ⟨.typed (.int .i64) y1, false⟩]⟩ (leave (E_spec_Uses k) Try.f90 (fin1 (.row (.int .i64))))
noncomputable def spec_Uses.l8b (k n : Nat) (x4 : Int) (x5 : Int) (y0_0 : Int × Int × Int × Int × Int × ByteArray × (List Int) × Unit) : Option (List Int) :=
  resume (E_spec_Uses k) 90 (acall (E_spec_Uses k) (arun Try.prog (E_spec_Uses k) k)) k [true, true, true, true, true, false, true, true] [n] (bodyOf Try.f90) ⟨[.undef, .ptr 0 0 0, .undef, .sl 1, .int .i64 x4, .int .i64 x5, .undef, .undef, .undef, .undef, .undef, .undef, .undef, .undef, .undef, .undef, .undef, .undef, .undef, .undef, .undef, .undef, .undef, .undef, .undef, .undef, .undef, .undef, .undef, .undef, .undef, .undef, .undef, .undef, .undef, .undef, .undef, .undef, .undef, .undef, .undef, .undef, .undef, .undef, .undef, .undef, .undef, .undef, .undef, .undef, .undef, .undef, .undef, .undef, .undef, .undef, .undef, .undef, .undef, .undef, .undef, .undef, .undef, .undef, .undef, .undef, .undef, .undef, .undef, .undef, .undef, .undef, .undef, .undef], [some ⟨.raw true 7 (.agg [.int .i64 0, .int .i64 0, .int .i64 0, .int .i64 0, .int .i64 0, .str ByteArray.empty, .nils]) [.tv tA4 y0_0], true⟩, some ⟨.typed (.int .i64) [], true⟩]⟩ (leave (E_spec_Uses k) Try.f90 (fin1 (.row (.int .i64))))
noncomputable def spec_Uses.j10 (k m8 : Nat) (x4 : Int) (x5 : Int) (y0_0 : Int × Int × Int × Int × Int × ByteArray × (List Int) × Unit) (y1 : List Int) : Option (List Int) :=
  resume (E_spec_Uses k) 90 (acall (E_spec_Uses k) (arun Try.prog (E_spec_Uses k) k)) k [true, true, true, true, true, false, true, true, true, true] [m8] (bodyOf Try.f90) ⟨[.undef, .ptr 0 0 0, .undef, .sl 1, .int .i64 x4, .int .i64 x5, .undef, .undef, .undef, .undef, .undef, .undef, .undef, .undef, .undef, .undef, .undef, .undef, .undef, .undef, .undef, .undef, .undef, .undef, .undef, .undef, .undef, .undef, .undef, .undef, .undef, .undef, .undef, .undef, .undef, .undef, .undef, .undef, .undef, .undef, .undef, .undef, .undef, .undef, .undef, .undef, .undef, .undef, .undef, .undef, .undef, .undef, .undef, .undef, .undef, .undef, .undef, .undef, .undef, .undef, .undef, .undef, .undef, .undef, .undef, .undef, .undef, .undef, .undef, .undef, .undef, .undef, .undef, .undef], [some ⟨.raw true 7 (.agg [.int .i64 0, .int .i64 0, .int .i64 0, .int .i64 0, .int .i64 0, .str ByteArray.empty, .nils]) [.tv tA4 y0_0], true⟩, some ⟨.typed (.int .i64) y1, false⟩]⟩ (leave (E_spec_Uses k) Try.f90 (fin1 (.row (.int .i64))))
noncomputable def spec_Uses.j10b (k m8 : Nat) (x4 : Int) (x5 : Int) (y0_0 : Int × Int × Int × Int × Int × ByteArray × (List Int) × Unit) : Option (List Int) :=
  resume (E_spec_Uses k) 90 (acall (E_spec_Uses k) (arun Try.prog (E_spec_Uses k) k)) k [true, true, true, true, true, false, true, true, true, true] [m8] (bodyOf Try.f90) ⟨[.undef, .ptr 0 0 0, .undef, .sl 1, .int .i64 x4, .int .i64 x5, .undef, .undef, .undef, .undef, .undef, .undef, .undef, .undef, .undef, .undef, .undef, .undef, .undef, .undef, .undef, .undef, .undef, .undef, .undef, .undef, .undef, .undef, .undef, .undef, .undef, .undef, .undef, .undef, .undef, .undef, .undef, .undef, .undef, .undef, .undef, .undef, .undef, .undef, .undef, .undef, .undef, .undef, .undef, .undef, .undef, .undef, .undef, .undef, .undef, .undef, .undef, .undef, .undef, .undef, .undef, .undef, .undef, .undef, .undef, .undef, .undef, .undef, .undef, .undef, .undef, .undef, .undef, .undef], [some ⟨.raw true 7 (.agg [.int .i64 0, .int .i64 0, .int .i64 0, .int .i64 0, .int .i64 0, .str ByteArray.empty, .nils]) [.tv tA4 y0_0], true⟩, some ⟨.typed (.int .i64) [], true⟩]⟩ (leave (E_spec_Uses k) Try.f90 (fin1 (.row (.int .i64))))
theorem spec_Uses.j5_e (k : Nat) (x4 : Int) (y0_0 : Int × Int × Int × Int × Int × ByteArray × (List Int) × Unit) (y1 : List Int) : spec_Uses.j5 k x4 y0_0 y1 =
  iteB ((IntKind.wrap .i64 ((BitVec.ofInt (IntKind.bits .i64) x4 &&& BitVec.ofInt (IntKind.bits .i64) 4).toNat : Int)) != 0) (iteB (y0_0.1 != 19) (iteB (decide ((List.length (y1 ++ [y0_0.2.2.2.1])) * 8 ≤ lim)) (gate k (spec_Uses.j7 k x4 y0_0 (y1 ++ [y0_0.2.2.2.1]))) (none)) (gate k (spec_Uses.j7 k x4 y0_0 y1))) (gate k (spec_Uses.j7 k x4 y0_0 y1)) := by kernel_rfl
theorem spec_Uses.j5b_e (k : Nat) (x4 : Int) (y0_0 : Int × Int × Int × Int × Int × ByteArray × (List Int) × Unit) : spec_Uses.j5b k x4 y0_0 =
  iteB ((IntKind.wrap .i64 ((BitVec.ofInt (IntKind.bits .i64) x4 &&& BitVec.ofInt (IntKind.bits .i64) 4).toNat : Int)) != 0) (iteB (y0_0.1 != 19) (iteB (decide ((List.length ([] ++ [y0_0.2.2.2.1])) * 8 ≤ lim)) (gate k (spec_Uses.j7 k x4 y0_0 ([] ++ [y0_0.2.2.2.1]))) (none)) (gate k (spec_Uses.j7b k x4 y0_0))) (gate k (spec_Uses.j7b k x4 y0_0)) := by kernel_rfl
theorem spec_Uses.j7_e (k : Nat) (x4 : Int) (y0_0 : Int × Int × Int × Int × Int × ByteArray × (List Int) × Unit) (y1 : List Int) : spec_Uses.j7 k x4 y0_0 y1 =
  spec_Uses.l8 k k x4 0 y0_0 y1 := by kernel_rfl
theorem spec_Uses.j7b_e (k : Nat) (x4 : Int) (y0_0 : Int × Int × Int × Int × Int × ByteArray × (List Int) × Unit) : spec_Uses.j7b k x4 y0_0 =
  spec_Uses.l8b k k x4 0 y0_0 := by kernel_rfl
theorem spec_Uses.l8_0 (k : Nat) (x4 : Int) (x5 : Int) (y0_0 : Int × Int × Int × Int × Int × ByteArray × (List Int) × Unit) (y1 : List Int) : spec_Uses.l8 k 0 x4 x5 y0_0 y1 = none := by kernel_rfl
theorem spec_Uses.l8_s (k n : Nat) (x4 : Int) (x5 : Int) (y0_0 : Int × Int × Int × Int × Int × ByteArray × (List Int) × Unit) (y1 : List Int) : spec_Uses.l8 k (n + 1) x4 x5 y0_0 y1 =
  iteB (decide (x5 < ((List.length y0_0.2.2.2.2.2.2.1) : Int))) (iteB ((IntKind.wrap .i64 ((BitVec.ofInt (IntKind.bits .i64) x4 &&& BitVec.ofInt (IntKind.bits .i64) 32).toNat : Int)) != 0) (gate k (spec_Uses.j10 k n x4 x5 y0_0 y1)) (some y1)) (some y1) := by kernel_rfl
theorem spec_Uses.l8b_0 (k : Nat) (x4 : Int) (x5 : Int) (y0_0 : Int × Int × Int × Int × Int × ByteArray × (List Int) × Unit) : spec_Uses.l8b k 0 x4 x5 y0_0 = none := by kernel_rfl
theorem spec_Uses.l8b_s (k n : Nat) (x4 : Int) (x5 : Int) (y0_0 : Int × Int × Int × Int × Int × ByteArray × (List Int) × Unit) : spec_Uses.l8b k (n + 1) x4 x5 y0_0 =
  iteB (decide (x5 < ((List.length y0_0.2.2.2.2.2.2.1) : Int))) (iteB ((IntKind.wrap .i64 ((BitVec.ofInt (IntKind.bits .i64) x4 &&& BitVec.ofInt (IntKind.bits .i64) 32).toNat : Int)) != 0) (gate k (spec_Uses.j10b k n x4 x5 y0_0)) (some [])) (some []) := by kernel_rfl
theorem spec_Uses.j10_e (k m8 : Nat) (x4 : Int) (x5 : Int) (y0_0 : Int × Int × Int × Int × Int × ByteArray × (List Int) × Unit) (y1 : List Int) : spec_Uses.j10 k m8 x4 x5 y0_0 y1 =
  iteB (!(y0_0.1 != 19)) (iteB (!((Int.tmod x5 3) == 1)) (iteB ((Int.tmod x5 3) == 2) (iteB (decide (0 ≤ IntKind.wrap .i64 (x5 - 2))) (iteB (decide (IntKind.wrap .i64 (x5 - 2) < ((List.length y0_0.2.2.2.2.2.2.1) : Int))) (iteB ((List.getD y0_0.2.2.2.2.2.2.1 (Int.toNat (IntKind.wrap .i64 (x5 - 2))) 0) == 2) (iteB (decide (0 ≤ x5)) (iteB (decide (x5 < ((List.length y0_0.2.2.2.2.2.2.1) : Int))) (iteB (decide ((List.length (y1 ++ [List.getD y0_0.2.2.2.2.2.2.1 (Int.toNat x5) 0])) * 8 ≤ lim)) (spec_Uses.l8 k m8 x4 (IntKind.wrap .i64 (x5 + 1)) y0_0 (y1 ++ [List.getD y0_0.2.2.2.2.2.2.1 (Int.toNat x5) 0])) (none)) (none)) (none)) (spec_Uses.l8 k m8 x4 (IntKind.wrap .i64 (x5 + 1)) y0_0 y1)) (none)) (none)) (spec_Uses.l8 k m8 x4 (IntKind.wrap .i64 (x5 + 1)) y0_0 y1)) (iteB (decide (0 ≤ x5)) (iteB (decide (x5 < ((List.length y0_0.2.2.2.2.2.2.1) : Int))) (iteB (decide ((List.length (y1 ++ [List.getD y0_0.2.2.2.2.2.2.1 (Int.toNat x5) 0])) * 8 ≤ lim)) (spec_Uses.l8 k m8 x4 (IntKind.wrap .i64 (x5 + 1)) y0_0 (y1 ++ [List.getD y0_0.2.2.2.2.2.2.1 (Int.toNat x5) 0])) (none)) (none)) (none))) (iteB (decide (0 ≤ x5)) (iteB (decide (x5 < ((List.length y0_0.2.2.2.2.2.2.1) : Int))) (iteB (decide ((List.length (y1 ++ [List.getD y0_0.2.2.2.2.2.2.1 (Int.toNat x5) 0])) * 8 ≤ lim)) (spec_Uses.l8 k m8 x4 (IntKind.wrap .i64 (x5 + 1)) y0_0 (y1 ++ [List.getD y0_0.2.2.2.2.2.2.1 (Int.toNat x5) 0])) (none)) (none)) (none)) := by kernel_rfl
theorem spec_Uses.j10b_e (k m8 : Nat) (x4 : Int) (x5 : Int) (y0_0 : Int × Int × Int × Int × Int × ByteArray × (List Int) × Unit) : spec_Uses.j10b k m8 x4 x5 y0_0 =
  iteB (!(y0_0.1 != 19)) (iteB (!((Int.tmod x5 3) == 1)) (iteB ((Int.tmod x5 3) == 2) (iteB (decide (0 ≤ IntKind.wrap .i64 (x5 - 2))) (iteB (decide (IntKind.wrap .i64 (x5 - 2) < ((List.length y0_0.2.2.2.2.2.2.1) : Int))) (iteB ((List.getD y0_0.2.2.2.2.2.2.1 (Int.toNat (IntKind.wrap .i64 (x5 - 2))) 0) == 2) (iteB (decide (0 ≤ x5)) (iteB (decide (x5 < ((List.length y0_0.2.2.2.2.2.2.1) : Int))) (iteB (decide ((List.length ([] ++ [List.getD y0_0.2.2.2.2.2.2.1 (Int.toNat x5) 0])) * 8 ≤ lim)) (spec_Uses.l8 k m8 x4 (IntKind.wrap .i64 (x5 + 1)) y0_0 ([] ++ [List.getD y0_0.2.2.2.2.2.2.1 (Int.toNat x5) 0])) (none)) (none)) (none)) (spec_Uses.l8b k m8 x4 (IntKind.wrap .i64 (x5 + 1)) y0_0)) (none)) (none)) (spec_Uses.l8b k m8 x4 (IntKind.wrap .i64 (x5 + 1)) y0_0)) (iteB (decide (0 ≤ x5)) (iteB (decide (x5 < ((List.length y0_0.2.2.2.2.2.2.1) : Int))) (iteB (decide ((List.length ([] ++ [List.getD y0_0.2.2.2.2.2.2.1 (Int.toNat x5) 0])) * 8 ≤ lim)) (spec_Uses.l8 k m8 x4 (IntKind.wrap .i64 (x5 + 1)) y0_0 ([] ++ [List.getD y0_0.2.2.2.2.2.2.1 (Int.toNat x5) 0])) (none)) (none)) (none))) (iteB (decide (0 ≤ x5)) (iteB (decide (x5 < ((List.length y0_0.2.2.2.2.2.2.1) : Int))) (iteB (decide ((List.length ([] ++ [List.getD y0_0.2.2.2.2.2.2.1 (Int.toNat x5) 0])) * 8 ≤ lim)) (spec_Uses.l8 k m8 x4 (IntKind.wrap .i64 (x5 + 1)) y0_0 ([] ++ [List.getD y0_0.2.2.2.2.2.2.1 (Int.toNat x5) 0])) (none)) (none)) (none)) := by kernel_rfl
theorem spec_Uses_e (k : Nat) (a1 : Int × Int × Int × Int × Int × ByteArray × (List Int) × Unit) : spec_Uses k a1 =
  bindO (spec_l10Has k a1.1) fun r1 => (iteB ((IntKind.wrap .i64 ((BitVec.ofInt (IntKind.bits .i64) r1 &&& BitVec.ofInt (IntKind.bits .i64) 2).toNat : Int)) != 0) (iteB (decide ((List.length ([] ++ [a1.2.2.1])) * 8 ≤ lim)) (gate k (spec_Uses.j5 k r1 a1 ([] ++ [a1.2.2.1]))) (none)) (gate k (spec_Uses.j5b k r1 a1))) := by kernel_rfl
theorem E_spec_Uses_calls (k : Nat) : CallsOk Try.prog (E_spec_Uses k) (arun Try.prog (E_spec_Uses k) k) := by
  refine told_run (tyTOk _ _) ?_ (fun run h => regOk (tyTOk _ _) mixOk h) ?_ nameOk k
  · intro g m hg
    simp only [E_spec_Uses] at hg
    split at hg
    · cases hg
      refine con_byVal fun ρ l K x hm => ?_
      split at hm
      · obtain ⟨c1, h1, hm⟩ := Option.bind_eq_some_iff.1 hm
        obtain ⟨r, hr, hm⟩ := Option.bind_eq_some_iff.1 hm
        exact ⟨_, hm, LawV.reads (.cons (.as h1) .nil) (spec_l10Has_law k c1 r hr)⟩
      · cases hm
    · cases hg; exact noCon_ok
    · cases hg
  · intro g hg r
    by_cases h : g = 90
    · subst h; simp [E_spec_Uses] at hg
    · simp [E_spec_Uses, h]
theorem f90_okspec_Uses : Try.prog.funcs[90]? = some Try.f90 := by kernel_rfl
theorem spec_Uses_law (k : Nat) (a1 : Int × Int × Int × Int × Int × ByteArray × (List Int) × Unit) (x : List Int) (h : spec_Uses k a1 = some x) : LawV Try.prog 90 [.tv tA4 a1] (tvn (.row (.int .i64)) x) := by
  unfold spec_Uses at h
  exact law1 (t := (.row (.int .i64))) (tyTOk _ _) (E_spec_Uses_calls k) mixOk f90_okspec_Uses (nameOk _ _ f90_okspec_Uses) (by kernel_rfl) h
/-! spec.l10Regs -/
noncomputable def E_spec_l10Regs (k : Nat) : Env := ⟨ty, fun g => match g with
  | 89 => some (byFresh (.int .i64) fun ρ l K => match l with
    | [b1] => (b1.as tA4).bind fun c1 => (spec_Sets k c1).bind fun r => K r
    | _ => none)
  | 90 => some (byVal fun ρ l K => match l with
    | [b1] => (b1.as tA4).bind fun c1 => (spec_Uses k c1).bind fun r => K (tvn (.row (.int .i64)) r)
    | _ => none)
  | 54 => some (byVal fun ρ l K => match l with
    | [b1, b2, b3] => (b1.as (.int .i64)).bind fun c1 => (b2.as (.int .i64)).bind fun c2 => (b3.as (.int .i64)).bind fun c3 => (spec_l1In k c1 c2 c3).bind fun r => K (tvn .bool r)
    | _ => none)
  | 73 => some noCon
  | _ => none, fun f r => match f with | 73 => (match r with | 3 => some [1, 5, 6] | _ => none) | _ => none⟩
noncomputable def spec_l10Regs (k : Nat) (a1 : Int × Int × Int × Int × Int × ByteArray × (List Int) × Unit) (a2 : Int) : Option (Bool) :=
  abody (E_spec_l10Regs k) (arun Try.prog (E_spec_l10Regs k) k) k 73 Try.f73 [.tv tA4 a1, .int .i64 a2] [] (fin1 .bool)
noncomputable def spec_l10Regs.l3 (k n : Nat) (x1 : Int) (x6 : Int) (y0 : List Int) : Option (Bool) :=
  resume (E_spec_l10Regs k) 73 (acall (E_spec_l10Regs k) (arun Try.prog (E_spec_l10Regs k) k)) k [true, true, false, true, true] [n] (bodyOf Try.f73) ⟨[.undef, .int .i64 x1, .undef, .undef, .undef, .sl 0, .int .i64 x6, .undef, .undef, .undef, .undef, .undef, .undef, .undef, .undef, .undef, .undef, .undef, .undef, .undef, .undef, .undef, .undef, .undef, .undef, .undef], [some ⟨.typed (.int .i64) y0, false⟩]⟩ (leave (E_spec_l10Regs k) Try.f73 (fin1 .bool))
theorem spec_l10Regs.l3_0 (k : Nat) (x1 : Int) (x6 : Int) (y0 : List Int) : spec_l10Regs.l3 k 0 x1 x6 y0 = none := by kernel_rfl
theorem spec_l10Regs.l3_s (k n : Nat) (x1 : Int) (x6 : Int) (y0 : List Int) : spec_l10Regs.l3 k (n + 1) x1 x6 y0 =
  iteB (decide (x6 < ((List.length y0) : Int))) (iteB (decide (0 ≤ x6)) (iteB (decide (x6 < ((List.length y0) : Int))) (bindO (spec_l1In k (List.getD y0 (Int.toNat x6) 0) 0 (IntKind.wrap .i64 (x1 - 1))) fun r3 => (iteB (!r3) (some false) (spec_l10Regs.l3 k n x1 (IntKind.wrap .i64 (x6 + 1)) y0))) (none)) (none)) (some true) := by kernel_rfl
theorem spec_l10Regs_e (k : Nat) (a1 : Int × Int × Int × Int × Int × ByteArray × (List Int) × Unit) (a2 : Int) : spec_l10Regs k a1 a2 =
  bindO (spec_Sets k a1) fun r1 => (bindO (spec_Uses k a1) fun r2 => (iteB (decide ((List.length (r1 ++ r2)) * 8 ≤ lim)) (spec_l10Regs.l3 k k a2 0 (r1 ++ r2)) (none))) := by kernel_rfl
theorem E_spec_l10Regs_calls (k : Nat) : CallsOk Try.prog (E_spec_l10Regs k) (arun Try.prog (E_spec_l10Regs k) k) := by
  refine told_run (tyTOk _ _) ?_ (fun run h => regOk (tyTOk _ _) mixOk h) ?_ nameOk k
  · intro g m hg
    simp only [E_spec_l10Regs] at hg
    split at hg
    · cases hg
      refine con_byFresh fun ρ l K x hm => ?_
      split at hm
      · obtain ⟨c1, h1, hm⟩ := Option.bind_eq_some_iff.1 hm
        obtain ⟨r, hr, hm⟩ := Option.bind_eq_some_iff.1 hm
        exact ⟨_, hm, LawF.reads (.cons (.as h1) .nil) (spec_Sets_law k c1 r hr)⟩
      · cases hm
    · cases hg
      refine con_byVal fun ρ l K x hm => ?_
      split at hm
      · obtain ⟨c1, h1, hm⟩ := Option.bind_eq_some_iff.1 hm
        obtain ⟨r, hr, hm⟩ := Option.bind_eq_some_iff.1 hm
        exact ⟨_, hm, LawV.reads (.cons (.as h1) .nil) (spec_Uses_law k c1 r hr)⟩
      · cases hm
    · cases hg
      refine con_byVal fun ρ l K x hm => ?_
      split at hm
      · obtain ⟨c1, h1, hm⟩ := Option.bind_eq_some_iff.1 hm
        obtain ⟨c2, h2, hm⟩ := Option.bind_eq_some_iff.1 hm
        obtain ⟨c3, h3, hm⟩ := Option.bind_eq_some_iff.1 hm
        obtain ⟨r, hr, hm⟩ := Option.bind_eq_some_iff.1 hm
        exact ⟨_, hm, LawV.reads (.cons (.as h1) (.cons (.as h2) (.cons (.as h3) .nil))) (spec_l1In_law k c1 c2 c3 r hr)⟩
      · cases hm
    · cases hg; exact noCon_ok
    · cases hg
  · intro g hg r
    by_cases h : g = 73
    · subst h; simp [E_spec_l10Regs] at hg
    · simp [E_spec_l10Regs, h]
theorem f73_okspec_l10Regs : Try.prog.funcs[73]? = some Try.f73 := by kernel_rfl
theorem spec_l10Regs_law (k : Nat) (a1 : Int × Int × Int × Int × Int × ByteArray × (List Int) × Unit) (a2 : Int) (x : Bool) (h : spec_l10Regs k a1 a2 = some x) : LawV Try.prog 73 [.tv tA4 a1, .int .i64 a2] (tvn .bool x) := by
  unfold spec_l10Regs at h
  exact law1 (t := .bool) (tyTOk _ _) (E_spec_l10Regs_calls k) mixOk f73_okspec_l10Regs (nameOk _ _ f73_okspec_l10Regs) (by kernel_rfl) h
/-! spec.WordOk -/
noncomputable def E_spec_WordOk (k : Nat) : Env := ⟨ty, fun g => match g with
  | 54 => some (byVal fun ρ l K => match l with
    | [b1, b2, b3] => (b1.as (.int .i64)).bind fun c1 => (b2.as (.int .i64)).bind fun c2 => (b3.as (.int .i64)).bind fun c3 => (spec_l1In k c1 c2 c3).bind fun r => K (tvn .bool r)
    | _ => none)
  | _ => none, fun _ _ => none⟩
noncomputable def spec_WordOk (k : Nat) (a1 : Int) : Option (Bool) :=
  abody (E_spec_WordOk k) (arun Try.prog (E_spec_WordOk k) k) k 74 Try.f74 [.int .i64 a1] [] (fin1 .bool)
theorem spec_WordOk_e (k : Nat) (a1 : Int) : spec_WordOk k a1 =
  bindO (spec_l1In k a1 (-2147483648) 2147483647) fun r1 => (some r1) := by kernel_rfl
theorem E_spec_WordOk_calls (k : Nat) : CallsOk Try.prog (E_spec_WordOk k) (arun Try.prog (E_spec_WordOk k) k) := by
  refine told_run (tyTOk _ _) ?_ (fun run h => regOk (tyTOk _ _) mixOk h) ?_ nameOk k
  · intro g m hg
    simp only [E_spec_WordOk] at hg
    split at hg
    · cases hg
      refine con_byVal fun ρ l K x hm => ?_
      split at hm
      · obtain ⟨c1, h1, hm⟩ := Option.bind_eq_some_iff.1 hm
        obtain ⟨c2, h2, hm⟩ := Option.bind_eq_some_iff.1 hm
        obtain ⟨c3, h3, hm⟩ := Option.bind_eq_some_iff.1 hm
        obtain ⟨r, hr, hm⟩ := Option.bind_eq_some_iff.1 hm
        exact ⟨_, hm, LawV.reads (.cons (.as h1) (.cons (.as h2) (.cons (.as h3) .nil))) (spec_l1In_law k c1 c2 c3 r hr)⟩
      · cases hm
    · cases hg
  · intro g _ r; rfl
theorem f74_okspec_WordOk : Try.prog.funcs[74]? = some Try.f74 := by kernel_rfl
theorem spec_WordOk_law (k : Nat) (a1 : Int) (x : Bool) (h : spec_WordOk k a1 = some x) : LawV Try.prog 74 [.int .i64 a1] (tvn .bool x) := by
  unfold spec_WordOk at h
  exact law1 (t := .bool) (tyTOk _ _) (E_spec_WordOk_calls k) mixOk f74_okspec_WordOk (nameOk _ _ f74_okspec_WordOk) (by kernel_rfl) h
end Go.Proofs.Ytajlenpookikoaa.XFnExactWorldNew
