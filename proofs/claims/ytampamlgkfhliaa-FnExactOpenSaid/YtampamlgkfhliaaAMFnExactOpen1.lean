/- Functions of the program as runs of the interpreter: equations, and a law for each. -/
import Derived.Test.YtampamlgkfhliaaProg
import Derived.Test.YtampamlgkfhliaaChecked
import Derived.KernelRfl
import Derived.Eval
import Derived.Test.YtampamlgkfhliaaATyOk
import Derived.Test.YtampamlgkfhliaaAS40
import Derived.Test.YtampamlgkfhliaaAMFnExactOpen0
open Go Go.AM Go.AMx Go.Proofs
namespace Go.Proofs.Ytampamlgkfhliaa.XFnExactOpen
set_option linter.unusedVariables false
set_option linter.unusedSimpArgs false
/-! laws.toWaitS -/
noncomputable def E_laws_toWaitS (k : Nat) : Env := ⟨tyD, fun g => match g with
  | 151 => some (byNew (.pair (.int .i64) (.pair (.int .i64) (.pair (.int .i64) (.pair (.int .i64) .unit)))) fun ρ l K => match l with
    | [b1] => (b1.as (.pair (.int .i64) (.pair (.int .i64) (.pair (.int .i64) (.pair (.int .i64) .unit))))).bind fun c1 => (laws_toWait k c1).bind fun r => K r
    | _ => none)
  | 128 => some noCon
  | _ => none, fun f r => match f with | 128 => (match r with | 3 => some [0, 3, 4] | _ => none) | _ => none⟩
noncomputable def laws_toWaitS (k : Nat) (a1 : List (Int × Int × Int × Int × Unit)) : Option (List (Int × Int × Int × Int × Unit)) :=
  abody (E_laws_toWaitS k) (arun Try.prog (E_laws_toWaitS k) k) k 128 Try.f128 [.tv (.row (.pair (.int .i64) (.pair (.int .i64) (.pair (.int .i64) (.pair (.int .i64) .unit))))) a1] [] (finD (.row (.pair (.int .i64) (.pair (.int .i64) (.pair (.int .i64) (.pair (.int .i64) .unit))))))
noncomputable def laws_toWaitS.l3 (k n : Nat) (x0 : List (Int × Int × Int × Int × Unit)) (x4 : Int) (y0 : List (Int × Int × Int × Int × Unit)) : Option (List (Int × Int × Int × Int × Unit)) :=
  resume (E_laws_toWaitS k) 128 (acall (E_laws_toWaitS k) (arun Try.prog (E_laws_toWaitS k) k)) k [true, true, false, true, true] [n] (bodyOf Try.f128) ⟨[.tv (.row (.pair (.int .i64) (.pair (.int .i64) (.pair (.int .i64) (.pair (.int .i64) .unit))))) x0, .undef, .undef, .sl 0, .int .i64 x4, .undef, .undef, .undef, .undef, .undef, .undef, .undef, .undef, .undef, .undef, .undef, .undef, .undef, .undef, .undef, .undef, .undef, .undef], [some ⟨.deep false (.pair (.int .i64) (.pair (.int .i64) (.pair (.int .i64) (.pair (.int .i64) .unit)))) y0, false⟩]⟩ (leave (E_laws_toWaitS k) Try.f128 (finD (.row (.pair (.int .i64) (.pair (.int .i64) (.pair (.int .i64) (.pair (.int .i64) .unit)))))))
theorem laws_toWaitS.l3_0 (k : Nat) (x0 : List (Int × Int × Int × Int × Unit)) (x4 : Int) (y0 : List (Int × Int × Int × Int × Unit)) : laws_toWaitS.l3 k 0 x0 x4 y0 = none := by kernel_rfl
theorem laws_toWaitS.l3_s (k n : Nat) (x0 : List (Int × Int × Int × Int × Unit)) (x4 : Int) (y0 : List (Int × Int × Int × Int × Unit)) : laws_toWaitS.l3 k (n + 1) x0 x4 y0 =
  iteB (decide (x4 < ((List.length x0) : Int))) (iteB (decide (0 ≤ x4)) (iteB (decide (x4 < ((List.length x0) : Int))) (bindO (laws_toWait k (List.getD x0 (Int.toNat x4) (Ty.dflt (.pair (.int .i64) (.pair (.int .i64) (.pair (.int .i64) (.pair (.int .i64) .unit))))))) fun r1 => (iteB (decide (0 ≤ x4)) (iteB (decide (x4 < ((List.length y0) : Int))) (laws_toWaitS.l3 k n x0 (IntKind.wrap .i64 (x4 + 1)) (List.set y0 (Int.toNat x4) (r1.1, r1.2.1, r1.2.2.1, r1.2.2.2.1, ()))) (none)) (none))) (none)) (none)) (some y0) := by kernel_rfl
theorem laws_toWaitS_e (k : Nat) (a1 : List (Int × Int × Int × Int × Unit)) : laws_toWaitS k a1 =
  iteB (decide (0 ≤ ((List.length a1) : Int))) (iteB (decide (((List.length a1) : Int) ≤ ((List.length a1) : Int))) (iteB (decide (((List.length a1) : Int) * 32 ≤ (lim : Int))) (iteB (decide (((List.length a1) : Int) ≤ (lim : Int)) && true) (laws_toWaitS.l3 k k a1 0 (List.replicate (Int.toNat ((List.length a1) : Int)) (Ty.dflt (.pair (.int .i64) (.pair (.int .i64) (.pair (.int .i64) (.pair (.int .i64) .unit))))))) (none)) (none)) (none)) (none) := by kernel_rfl
theorem E_laws_toWaitS_calls (k : Nat) : CallsOk Try.prog (E_laws_toWaitS k) (arun Try.prog (E_laws_toWaitS k) k) := by
  refine told_run (tyDTOk _ _) ?_ (fun run h => regOk (tyDTOk _ _) mixOk h) ?_ nameOk k
  · intro g m hg
    simp only [E_laws_toWaitS] at hg
    split at hg
    · cases hg
      refine con_byNew fun ρ l K x hm => ?_
      split at hm
      · obtain ⟨c1, h1, hm⟩ := Option.bind_eq_some_iff.1 hm
        obtain ⟨r, hr, hm⟩ := Option.bind_eq_some_iff.1 hm
        exact ⟨_, hm, LawD.reads (.cons (.as h1) .nil) (laws_toWait_law k c1 r hr)⟩
      · cases hm
    · cases hg; exact noCon_ok
    · cases hg
  · intro g hg r
    by_cases h : g = 128
    · subst h; simp [E_laws_toWaitS] at hg
    · simp [E_laws_toWaitS, h]
theorem f128_oklaws_toWaitS : Try.prog.funcs[128]? = some Try.f128 := by kernel_rfl
theorem laws_toWaitS_law (k : Nat) (a1 : List (Int × Int × Int × Int × Unit)) (x : List (Int × Int × Int × Int × Unit)) (h : laws_toWaitS k a1 = some x) : LawD Try.prog 128 [.tv (.row (.pair (.int .i64) (.pair (.int .i64) (.pair (.int .i64) (.pair (.int .i64) .unit))))) a1] (.row (.pair (.int .i64) (.pair (.int .i64) (.pair (.int .i64) (.pair (.int .i64) .unit))))) x := by
  unfold laws_toWaitS at h
  exact lawD (t := (.row (.pair (.int .i64) (.pair (.int .i64) (.pair (.int .i64) (.pair (.int .i64) .unit)))))) (tyDTOk _ _) (E_laws_toWaitS_calls k) mixOk f128_oklaws_toWaitS (nameOk _ _ f128_oklaws_toWaitS) (by kernel_rfl) h
/-! laws.toChan -/
noncomputable def E_laws_toChan (k : Nat) : Env := ⟨tyD, fun g => match g with
  | 44 => some (byNew (.row (.int .i64)) fun ρ l K => match l with
    | [b1] => (b1.as (.row (.int .i64))).bind fun c1 => (laws_toIntS k c1).bind fun r => K r
    | _ => none)
  | 128 => some (byNew (.row (.pair (.int .i64) (.pair (.int .i64) (.pair (.int .i64) (.pair (.int .i64) .unit))))) fun ρ l K => match l with
    | [b1] => (b1.as (.row (.pair (.int .i64) (.pair (.int .i64) (.pair (.int .i64) (.pair (.int .i64) .unit)))))).bind fun c1 => (laws_toWaitS k c1).bind fun r => K r
    | _ => none)
  | _ => none, fun _ _ => none⟩
noncomputable def laws_toChan (k : Nat) (a1 : Int × Bool × (List Int) × (List (Int × Int × Int × Int × Unit)) × (List (Int × Int × Int × Int × Unit)) × Unit) : Option (Int × Bool × (List Int) × (List (Int × Int × Int × Int × Unit)) × (List (Int × Int × Int × Int × Unit)) × Unit) :=
  abody (E_laws_toChan k) (arun Try.prog (E_laws_toChan k) k) k 93 Try.f93 [.tv (.pair (.int .i64) (.pair .bool (.pair (.row (.int .i64)) (.pair (.row (.pair (.int .i64) (.pair (.int .i64) (.pair (.int .i64) (.pair (.int .i64) .unit))))) (.pair (.row (.pair (.int .i64) (.pair (.int .i64) (.pair (.int .i64) (.pair (.int .i64) .unit))))) .unit))))) a1] [] (finD (.pair (.int .i64) (.pair .bool (.pair (.row (.int .i64)) (.pair (.row (.pair (.int .i64) (.pair (.int .i64) (.pair (.int .i64) (.pair (.int .i64) .unit))))) (.pair (.row (.pair (.int .i64) (.pair (.int .i64) (.pair (.int .i64) (.pair (.int .i64) .unit))))) .unit))))))
theorem laws_toChan_e (k : Nat) (a1 : Int × Bool × (List Int) × (List (Int × Int × Int × Int × Unit)) × (List (Int × Int × Int × Int × Unit)) × Unit) : laws_toChan k a1 =
  bindO (laws_toIntS k a1.2.2.1) fun r1 => (bindO (laws_toWaitS k a1.2.2.2.1) fun r2 => (bindO (laws_toWaitS k a1.2.2.2.2.1) fun r3 => (some (a1.1, a1.2.1, r1, r2, r3, ())))) := by kernel_rfl
theorem E_laws_toChan_calls (k : Nat) : CallsOk Try.prog (E_laws_toChan k) (arun Try.prog (E_laws_toChan k) k) := by
  refine told_run (tyDTOk _ _) ?_ (fun run h => regOk (tyDTOk _ _) mixOk h) ?_ nameOk k
  · intro g m hg
    simp only [E_laws_toChan] at hg
    split at hg
    · cases hg
      refine con_byNew fun ρ l K x hm => ?_
      split at hm
      · obtain ⟨c1, h1, hm⟩ := Option.bind_eq_some_iff.1 hm
        obtain ⟨r, hr, hm⟩ := Option.bind_eq_some_iff.1 hm
        exact ⟨_, hm, LawD.reads (.cons (.as h1) .nil) (laws_toIntS_law k c1 r hr)⟩
      · cases hm
    · cases hg
      refine con_byNew fun ρ l K x hm => ?_
      split at hm
      · obtain ⟨c1, h1, hm⟩ := Option.bind_eq_some_iff.1 hm
        obtain ⟨r, hr, hm⟩ := Option.bind_eq_some_iff.1 hm
        exact ⟨_, hm, LawD.reads (.cons (.as h1) .nil) (laws_toWaitS_law k c1 r hr)⟩
      · cases hm
    · cases hg
  · intro g _ r; rfl
theorem f93_oklaws_toChan : Try.prog.funcs[93]? = some Try.f93 := by kernel_rfl
theorem laws_toChan_law (k : Nat) (a1 : Int × Bool × (List Int) × (List (Int × Int × Int × Int × Unit)) × (List (Int × Int × Int × Int × Unit)) × Unit) (x : Int × Bool × (List Int) × (List (Int × Int × Int × Int × Unit)) × (List (Int × Int × Int × Int × Unit)) × Unit) (h : laws_toChan k a1 = some x) : LawD Try.prog 93 [.tv (.pair (.int .i64) (.pair .bool (.pair (.row (.int .i64)) (.pair (.row (.pair (.int .i64) (.pair (.int .i64) (.pair (.int .i64) (.pair (.int .i64) .unit))))) (.pair (.row (.pair (.int .i64) (.pair (.int .i64) (.pair (.int .i64) (.pair (.int .i64) .unit))))) .unit))))) a1] (.pair (.int .i64) (.pair .bool (.pair (.row (.int .i64)) (.pair (.row (.pair (.int .i64) (.pair (.int .i64) (.pair (.int .i64) (.pair (.int .i64) .unit))))) (.pair (.row (.pair (.int .i64) (.pair (.int .i64) (.pair (.int .i64) (.pair (.int .i64) .unit))))) .unit))))) x := by
  unfold laws_toChan at h
  exact lawD (t := (.pair (.int .i64) (.pair .bool (.pair (.row (.int .i64)) (.pair (.row (.pair (.int .i64) (.pair (.int .i64) (.pair (.int .i64) (.pair (.int .i64) .unit))))) (.pair (.row (.pair (.int .i64) (.pair (.int .i64) (.pair (.int .i64) (.pair (.int .i64) .unit))))) .unit)))))) (tyDTOk _ _) (E_laws_toChan_calls k) mixOk f93_oklaws_toChan (nameOk _ _ f93_oklaws_toChan) (by kernel_rfl) h
/-! laws.toChanS -/
noncomputable def E_laws_toChanS (k : Nat) : Env := ⟨tyD, fun g => match g with
  | 93 => some (byNew (.pair (.int .i64) (.pair .bool (.pair (.row (.int .i64)) (.pair (.row (.pair (.int .i64) (.pair (.int .i64) (.pair (.int .i64) (.pair (.int .i64) .unit))))) (.pair (.row (.pair (.int .i64) (.pair (.int .i64) (.pair (.int .i64) (.pair (.int .i64) .unit))))) .unit))))) fun ρ l K => match l with
    | [b1] => (b1.as (.pair (.int .i64) (.pair .bool (.pair (.row (.int .i64)) (.pair (.row (.pair (.int .i64) (.pair (.int .i64) (.pair (.int .i64) (.pair (.int .i64) .unit))))) (.pair (.row (.pair (.int .i64) (.pair (.int .i64) (.pair (.int .i64) (.pair (.int .i64) .unit))))) .unit)))))).bind fun c1 => (laws_toChan k c1).bind fun r => K r
    | _ => none)
  | 43 => some noCon
  | _ => none, fun f r => match f with | 43 => (match r with | 3 => some [0, 3, 4] | _ => none) | _ => none⟩
noncomputable def laws_toChanS (k : Nat) (a1 : List (Int × Bool × (List Int) × (List (Int × Int × Int × Int × Unit)) × (List (Int × Int × Int × Int × Unit)) × Unit)) : Option (List (Int × Bool × (List Int) × (List (Int × Int × Int × Int × Unit)) × (List (Int × Int × Int × Int × Unit)) × Unit)) :=
  abody (E_laws_toChanS k) (arun Try.prog (E_laws_toChanS k) k) k 43 Try.f43 [.tv (.row (.pair (.int .i64) (.pair .bool (.pair (.row (.int .i64)) (.pair (.row (.pair (.int .i64) (.pair (.int .i64) (.pair (.int .i64) (.pair (.int .i64) .unit))))) (.pair (.row (.pair (.int .i64) (.pair (.int .i64) (.pair (.int .i64) (.pair (.int .i64) .unit))))) .unit)))))) a1] [] (finD (.row (.pair (.int .i64) (.pair .bool (.pair (.row (.int .i64)) (.pair (.row (.pair (.int .i64) (.pair (.int .i64) (.pair (.int .i64) (.pair (.int .i64) .unit))))) (.pair (.row (.pair (.int .i64) (.pair (.int .i64) (.pair (.int .i64) (.pair (.int .i64) .unit))))) .unit)))))))
noncomputable def laws_toChanS.l3 (k n : Nat) (x0 : List (Int × Bool × (List Int) × (List (Int × Int × Int × Int × Unit)) × (List (Int × Int × Int × Int × Unit)) × Unit)) (x4 : Int) (y0 : List (Int × Bool × (List Int) × (List (Int × Int × Int × Int × Unit)) × (List (Int × Int × Int × Int × Unit)) × Unit)) : Option (List (Int × Bool × (List Int) × (List (Int × Int × Int × Int × Unit)) × (List (Int × Int × Int × Int × Unit)) × Unit)) :=
  resume (E_laws_toChanS k) 43 (acall (E_laws_toChanS k) (arun Try.prog (E_laws_toChanS k) k)) k [true, true, false, true, true] [n] (bodyOf Try.f43) ⟨[.tv (.row (.pair (.int .i64) (.pair .bool (.pair (.row (.int .i64)) (.pair (.row (.pair (.int .i64) (.pair (.int .i64) (.pair (.int .i64) (.pair (.int .i64) .unit))))) (.pair (.row (.pair (.int .i64) (.pair (.int .i64) (.pair (.int .i64) (.pair (.int .i64) .unit))))) .unit)))))) x0, .undef, .undef, .sl 0, .int .i64 x4, .undef, .undef, .undef, .undef, .undef, .undef, .undef, .undef, .undef, .undef, .undef, .undef, .undef, .undef, .undef, .undef, .undef, .undef], [some ⟨.deep false (.pair (.int .i64) (.pair .bool (.pair (.row (.int .i64)) (.pair (.row (.pair (.int .i64) (.pair (.int .i64) (.pair (.int .i64) (.pair (.int .i64) .unit))))) (.pair (.row (.pair (.int .i64) (.pair (.int .i64) (.pair (.int .i64) (.pair (.int .i64) .unit))))) .unit))))) y0, false⟩]⟩ (leave (E_laws_toChanS k) Try.f43 (finD (.row (.pair (.int .i64) (.pair .bool (.pair (.row (.int .i64)) (.pair (.row (.pair (.int .i64) (.pair (.int .i64) (.pair (.int .i64) (.pair (.int .i64) .unit))))) (.pair (.row (.pair (.int .i64) (.pair (.int .i64) (.pair (.int .i64) (.pair (.int .i64) .unit))))) .unit))))))))
theorem laws_toChanS.l3_0 (k : Nat) (x0 : List (Int × Bool × (List Int) × (List (Int × Int × Int × Int × Unit)) × (List (Int × Int × Int × Int × Unit)) × Unit)) (x4 : Int) (y0 : List (Int × Bool × (List Int) × (List (Int × Int × Int × Int × Unit)) × (List (Int × Int × Int × Int × Unit)) × Unit)) : laws_toChanS.l3 k 0 x0 x4 y0 = none := by kernel_rfl
theorem laws_toChanS.l3_s (k n : Nat) (x0 : List (Int × Bool × (List Int) × (List (Int × Int × Int × Int × Unit)) × (List (Int × Int × Int × Int × Unit)) × Unit)) (x4 : Int) (y0 : List (Int × Bool × (List Int) × (List (Int × Int × Int × Int × Unit)) × (List (Int × Int × Int × Int × Unit)) × Unit)) : laws_toChanS.l3 k (n + 1) x0 x4 y0 =
  iteB (decide (x4 < ((List.length x0) : Int))) (iteB (decide (0 ≤ x4)) (iteB (decide (x4 < ((List.length x0) : Int))) (bindO (laws_toChan k (List.getD x0 (Int.toNat x4) (Ty.dflt (.pair (.int .i64) (.pair .bool (.pair (.row (.int .i64)) (.pair (.row (.pair (.int .i64) (.pair (.int .i64) (.pair (.int .i64) (.pair (.int .i64) .unit))))) (.pair (.row (.pair (.int .i64) (.pair (.int .i64) (.pair (.int .i64) (.pair (.int .i64) .unit))))) .unit)))))))) fun r1 => (iteB (decide (0 ≤ x4)) (iteB (decide (x4 < ((List.length y0) : Int))) (laws_toChanS.l3 k n x0 (IntKind.wrap .i64 (x4 + 1)) (List.set y0 (Int.toNat x4) (r1.1, r1.2.1, r1.2.2.1, r1.2.2.2.1, r1.2.2.2.2.1, ()))) (none)) (none))) (none)) (none)) (some y0) := by kernel_rfl
theorem laws_toChanS_e (k : Nat) (a1 : List (Int × Bool × (List Int) × (List (Int × Int × Int × Int × Unit)) × (List (Int × Int × Int × Int × Unit)) × Unit)) : laws_toChanS k a1 =
  iteB (decide (0 ≤ ((List.length a1) : Int))) (iteB (decide (((List.length a1) : Int) ≤ ((List.length a1) : Int))) (iteB (decide (((List.length a1) : Int) * 88 ≤ (lim : Int))) (iteB (decide (((List.length a1) : Int) ≤ (lim : Int)) && true) (laws_toChanS.l3 k k a1 0 (List.replicate (Int.toNat ((List.length a1) : Int)) (Ty.dflt (.pair (.int .i64) (.pair .bool (.pair (.row (.int .i64)) (.pair (.row (.pair (.int .i64) (.pair (.int .i64) (.pair (.int .i64) (.pair (.int .i64) .unit))))) (.pair (.row (.pair (.int .i64) (.pair (.int .i64) (.pair (.int .i64) (.pair (.int .i64) .unit))))) .unit)))))))) (none)) (none)) (none)) (none) := by kernel_rfl
theorem E_laws_toChanS_calls (k : Nat) : CallsOk Try.prog (E_laws_toChanS k) (arun Try.prog (E_laws_toChanS k) k) := by
  refine told_run (tyDTOk _ _) ?_ (fun run h => regOk (tyDTOk _ _) mixOk h) ?_ nameOk k
  · intro g m hg
    simp only [E_laws_toChanS] at hg
    split at hg
    · cases hg
      refine con_byNew fun ρ l K x hm => ?_
      split at hm
      · obtain ⟨c1, h1, hm⟩ := Option.bind_eq_some_iff.1 hm
        obtain ⟨r, hr, hm⟩ := Option.bind_eq_some_iff.1 hm
        exact ⟨_, hm, LawD.reads (.cons (.as h1) .nil) (laws_toChan_law k c1 r hr)⟩
      · cases hm
    · cases hg; exact noCon_ok
    · cases hg
  · intro g hg r
    by_cases h : g = 43
    · subst h; simp [E_laws_toChanS] at hg
    · simp [E_laws_toChanS, h]
theorem f43_oklaws_toChanS : Try.prog.funcs[43]? = some Try.f43 := by kernel_rfl
theorem laws_toChanS_law (k : Nat) (a1 : List (Int × Bool × (List Int) × (List (Int × Int × Int × Int × Unit)) × (List (Int × Int × Int × Int × Unit)) × Unit)) (x : List (Int × Bool × (List Int) × (List (Int × Int × Int × Int × Unit)) × (List (Int × Int × Int × Int × Unit)) × Unit)) (h : laws_toChanS k a1 = some x) : LawD Try.prog 43 [.tv (.row (.pair (.int .i64) (.pair .bool (.pair (.row (.int .i64)) (.pair (.row (.pair (.int .i64) (.pair (.int .i64) (.pair (.int .i64) (.pair (.int .i64) .unit))))) (.pair (.row (.pair (.int .i64) (.pair (.int .i64) (.pair (.int .i64) (.pair (.int .i64) .unit))))) .unit)))))) a1] (.row (.pair (.int .i64) (.pair .bool (.pair (.row (.int .i64)) (.pair (.row (.pair (.int .i64) (.pair (.int .i64) (.pair (.int .i64) (.pair (.int .i64) .unit))))) (.pair (.row (.pair (.int .i64) (.pair (.int .i64) (.pair (.int .i64) (.pair (.int .i64) .unit))))) .unit)))))) x := by
  unfold laws_toChanS at h
  exact lawD (t := (.row (.pair (.int .i64) (.pair .bool (.pair (.row (.int .i64)) (.pair (.row (.pair (.int .i64) (.pair (.int .i64) (.pair (.int .i64) (.pair (.int .i64) .unit))))) (.pair (.row (.pair (.int .i64) (.pair (.int .i64) (.pair (.int .i64) (.pair (.int .i64) .unit))))) .unit))))))) (tyDTOk _ _) (E_laws_toChanS_calls k) mixOk f43_oklaws_toChanS (nameOk _ _ f43_oklaws_toChanS) (by kernel_rfl) h
/-! laws.toWorld -/
noncomputable def E_laws_toWorld (k : Nat) : Env := ⟨tyD, fun g => match g with
  | 33 => some (byNew (.row (.pair .str (.pair (.int .i64) (.pair (.int .i64) (.pair (.row (.pair (.int .i64) (.pair (.int .i64) (.pair (.int .i64) (.pair (.int .i64) (.pair (.int .i64) (.pair .str (.pair (.row (.int .i64)) .unit)))))))) .unit))))) fun ρ l K => match l with
    | [b1] => (b1.as (.row (.pair .str (.pair (.int .i64) (.pair (.int .i64) (.pair (.row (.pair (.int .i64) (.pair (.int .i64) (.pair (.int .i64) (.pair (.int .i64) (.pair (.int .i64) (.pair .str (.pair (.row (.int .i64)) .unit)))))))) .unit)))))).bind fun c1 => (laws_toUnitS k c1).bind fun r => K r
    | _ => none)
  | 42 => some (byNew (.row (.pair (.row (.pair (.int .i64) (.pair (.int .i64) (.pair (.row (.int .i64)) (.pair (.int .i64) .unit))))) (.pair .bool (.pair .bool (.pair (.int .i64) (.pair (.int .i64) (.pair (.int .i64) (.pair (.int .i64) (.pair (.int .i64) .unit))))))))) fun ρ l K => match l with
    | [b1] => (b1.as (.row (.pair (.row (.pair (.int .i64) (.pair (.int .i64) (.pair (.row (.int .i64)) (.pair (.int .i64) .unit))))) (.pair .bool (.pair .bool (.pair (.int .i64) (.pair (.int .i64) (.pair (.int .i64) (.pair (.int .i64) (.pair (.int .i64) .unit)))))))))).bind fun c1 => (laws_toBodyS k c1).bind fun r => K r
    | _ => none)
  | 43 => some (byNew (.row (.pair (.int .i64) (.pair .bool (.pair (.row (.int .i64)) (.pair (.row (.pair (.int .i64) (.pair (.int .i64) (.pair (.int .i64) (.pair (.int .i64) .unit))))) (.pair (.row (.pair (.int .i64) (.pair (.int .i64) (.pair (.int .i64) (.pair (.int .i64) .unit))))) .unit)))))) fun ρ l K => match l with
    | [b1] => (b1.as (.row (.pair (.int .i64) (.pair .bool (.pair (.row (.int .i64)) (.pair (.row (.pair (.int .i64) (.pair (.int .i64) (.pair (.int .i64) (.pair (.int .i64) .unit))))) (.pair (.row (.pair (.int .i64) (.pair (.int .i64) (.pair (.int .i64) (.pair (.int .i64) .unit))))) .unit))))))).bind fun c1 => (laws_toChanS k c1).bind fun r => K r
    | _ => none)
  | 44 => some (byNew (.row (.int .i64)) fun ρ l K => match l with
    | [b1] => (b1.as (.row (.int .i64))).bind fun c1 => (laws_toIntS k c1).bind fun r => K r
    | _ => none)
  | _ => none, fun _ _ => none⟩
noncomputable def laws_toWorld (k : Nat) (a1 : (List (ByteArray × Int × Int × (List (Int × Int × Int × Int × Int × ByteArray × (List Int) × Unit)) × Unit)) × (List ((List (Int × Int × (List Int) × Int × Unit)) × Bool × Bool × Int × Int × Int × Int × Int × Unit)) × (List (Int × Bool × (List Int) × (List (Int × Int × Int × Int × Unit)) × (List (Int × Int × Int × Int × Unit)) × Unit)) × (List Int) × Bool × Int × Unit) : Option ((List (ByteArray × Int × Int × (List (Int × Int × Int × Int × Int × ByteArray × (List Int) × Unit)) × Unit)) × (List ((List (Int × Int × (List Int) × Int × Unit)) × Bool × Bool × Int × Int × Int × Int × Int × Unit)) × (List (Int × Bool × (List Int) × (List (Int × Int × Int × Int × Unit)) × (List (Int × Int × Int × Int × Unit)) × Unit)) × (List Int) × Bool × Int × Unit) :=
  abody (E_laws_toWorld k) (arun Try.prog (E_laws_toWorld k) k) k 11 Try.f11 [.tv (.pair (.row (.pair .str (.pair (.int .i64) (.pair (.int .i64) (.pair (.row (.pair (.int .i64) (.pair (.int .i64) (.pair (.int .i64) (.pair (.int .i64) (.pair (.int .i64) (.pair .str (.pair (.row (.int .i64)) .unit)))))))) .unit))))) (.pair (.row (.pair (.row (.pair (.int .i64) (.pair (.int .i64) (.pair (.row (.int .i64)) (.pair (.int .i64) .unit))))) (.pair .bool (.pair .bool (.pair (.int .i64) (.pair (.int .i64) (.pair (.int .i64) (.pair (.int .i64) (.pair (.int .i64) .unit))))))))) (.pair (.row (.pair (.int .i64) (.pair .bool (.pair (.row (.int .i64)) (.pair (.row (.pair (.int .i64) (.pair (.int .i64) (.pair (.int .i64) (.pair (.int .i64) .unit))))) (.pair (.row (.pair (.int .i64) (.pair (.int .i64) (.pair (.int .i64) (.pair (.int .i64) .unit))))) .unit)))))) (.pair (.row (.int .i64)) (.pair .bool (.pair (.int .i64) .unit)))))) a1] [] (finD (.pair (.row (.pair .str (.pair (.int .i64) (.pair (.int .i64) (.pair (.row (.pair (.int .i64) (.pair (.int .i64) (.pair (.int .i64) (.pair (.int .i64) (.pair (.int .i64) (.pair .str (.pair (.row (.int .i64)) .unit)))))))) .unit))))) (.pair (.row (.pair (.row (.pair (.int .i64) (.pair (.int .i64) (.pair (.row (.int .i64)) (.pair (.int .i64) .unit))))) (.pair .bool (.pair .bool (.pair (.int .i64) (.pair (.int .i64) (.pair (.int .i64) (.pair (.int .i64) (.pair (.int .i64) .unit))))))))) (.pair (.row (.pair (.int .i64) (.pair .bool (.pair (.row (.int .i64)) (.pair (.row (.pair (.int .i64) (.pair (.int .i64) (.pair (.int .i64) (.pair (.int .i64) .unit))))) (.pair (.row (.pair (.int .i64) (.pair (.int .i64) (.pair (.int .i64) (.pair (.int .i64) .unit))))) .unit)))))) (.pair (.row (.int .i64)) (.pair .bool (.pair (.int .i64) .unit)))))))
theorem laws_toWorld_e (k : Nat) (a1 : (List (ByteArray × Int × Int × (List (Int × Int × Int × Int × Int × ByteArray × (List Int) × Unit)) × Unit)) × (List ((List (Int × Int × (List Int) × Int × Unit)) × Bool × Bool × Int × Int × Int × Int × Int × Unit)) × (List (Int × Bool × (List Int) × (List (Int × Int × Int × Int × Unit)) × (List (Int × Int × Int × Int × Unit)) × Unit)) × (List Int) × Bool × Int × Unit) : laws_toWorld k a1 =
  bindO (laws_toUnitS k a1.1) fun r1 => (bindO (laws_toBodyS k a1.2.1) fun r2 => (bindO (laws_toChanS k a1.2.2.1) fun r3 => (bindO (laws_toIntS k a1.2.2.2.1) fun r4 => (some (r1, r2, r3, r4, a1.2.2.2.2.1, a1.2.2.2.2.2.1, ()))))) := by kernel_rfl
theorem E_laws_toWorld_calls (k : Nat) : CallsOk Try.prog (E_laws_toWorld k) (arun Try.prog (E_laws_toWorld k) k) := by
  refine told_run (tyDTOk _ _) ?_ (fun run h => regOk (tyDTOk _ _) mixOk h) ?_ nameOk k
  · intro g m hg
    simp only [E_laws_toWorld] at hg
    split at hg
    · cases hg
      refine con_byNew fun ρ l K x hm => ?_
      split at hm
      · obtain ⟨c1, h1, hm⟩ := Option.bind_eq_some_iff.1 hm
        obtain ⟨r, hr, hm⟩ := Option.bind_eq_some_iff.1 hm
        exact ⟨_, hm, LawD.reads (.cons (.as h1) .nil) (laws_toUnitS_law k c1 r hr)⟩
      · cases hm
    · cases hg
      refine con_byNew fun ρ l K x hm => ?_
      split at hm
      · obtain ⟨c1, h1, hm⟩ := Option.bind_eq_some_iff.1 hm
        obtain ⟨r, hr, hm⟩ := Option.bind_eq_some_iff.1 hm
        exact ⟨_, hm, LawD.reads (.cons (.as h1) .nil) (laws_toBodyS_law k c1 r hr)⟩
      · cases hm
    · cases hg
      refine con_byNew fun ρ l K x hm => ?_
      split at hm
      · obtain ⟨c1, h1, hm⟩ := Option.bind_eq_some_iff.1 hm
        obtain ⟨r, hr, hm⟩ := Option.bind_eq_some_iff.1 hm
        exact ⟨_, hm, LawD.reads (.cons (.as h1) .nil) (laws_toChanS_law k c1 r hr)⟩
      · cases hm
    · cases hg
      refine con_byNew fun ρ l K x hm => ?_
      split at hm
      · obtain ⟨c1, h1, hm⟩ := Option.bind_eq_some_iff.1 hm
        obtain ⟨r, hr, hm⟩ := Option.bind_eq_some_iff.1 hm
        exact ⟨_, hm, LawD.reads (.cons (.as h1) .nil) (laws_toIntS_law k c1 r hr)⟩
      · cases hm
    · cases hg
  · intro g _ r; rfl
theorem f11_oklaws_toWorld : Try.prog.funcs[11]? = some Try.f11 := by kernel_rfl
theorem laws_toWorld_law (k : Nat) (a1 : (List (ByteArray × Int × Int × (List (Int × Int × Int × Int × Int × ByteArray × (List Int) × Unit)) × Unit)) × (List ((List (Int × Int × (List Int) × Int × Unit)) × Bool × Bool × Int × Int × Int × Int × Int × Unit)) × (List (Int × Bool × (List Int) × (List (Int × Int × Int × Int × Unit)) × (List (Int × Int × Int × Int × Unit)) × Unit)) × (List Int) × Bool × Int × Unit) (x : (List (ByteArray × Int × Int × (List (Int × Int × Int × Int × Int × ByteArray × (List Int) × Unit)) × Unit)) × (List ((List (Int × Int × (List Int) × Int × Unit)) × Bool × Bool × Int × Int × Int × Int × Int × Unit)) × (List (Int × Bool × (List Int) × (List (Int × Int × Int × Int × Unit)) × (List (Int × Int × Int × Int × Unit)) × Unit)) × (List Int) × Bool × Int × Unit) (h : laws_toWorld k a1 = some x) : LawD Try.prog 11 [.tv (.pair (.row (.pair .str (.pair (.int .i64) (.pair (.int .i64) (.pair (.row (.pair (.int .i64) (.pair (.int .i64) (.pair (.int .i64) (.pair (.int .i64) (.pair (.int .i64) (.pair .str (.pair (.row (.int .i64)) .unit)))))))) .unit))))) (.pair (.row (.pair (.row (.pair (.int .i64) (.pair (.int .i64) (.pair (.row (.int .i64)) (.pair (.int .i64) .unit))))) (.pair .bool (.pair .bool (.pair (.int .i64) (.pair (.int .i64) (.pair (.int .i64) (.pair (.int .i64) (.pair (.int .i64) .unit))))))))) (.pair (.row (.pair (.int .i64) (.pair .bool (.pair (.row (.int .i64)) (.pair (.row (.pair (.int .i64) (.pair (.int .i64) (.pair (.int .i64) (.pair (.int .i64) .unit))))) (.pair (.row (.pair (.int .i64) (.pair (.int .i64) (.pair (.int .i64) (.pair (.int .i64) .unit))))) .unit)))))) (.pair (.row (.int .i64)) (.pair .bool (.pair (.int .i64) .unit)))))) a1] (.pair (.row (.pair .str (.pair (.int .i64) (.pair (.int .i64) (.pair (.row (.pair (.int .i64) (.pair (.int .i64) (.pair (.int .i64) (.pair (.int .i64) (.pair (.int .i64) (.pair .str (.pair (.row (.int .i64)) .unit)))))))) .unit))))) (.pair (.row (.pair (.row (.pair (.int .i64) (.pair (.int .i64) (.pair (.row (.int .i64)) (.pair (.int .i64) .unit))))) (.pair .bool (.pair .bool (.pair (.int .i64) (.pair (.int .i64) (.pair (.int .i64) (.pair (.int .i64) (.pair (.int .i64) .unit))))))))) (.pair (.row (.pair (.int .i64) (.pair .bool (.pair (.row (.int .i64)) (.pair (.row (.pair (.int .i64) (.pair (.int .i64) (.pair (.int .i64) (.pair (.int .i64) .unit))))) (.pair (.row (.pair (.int .i64) (.pair (.int .i64) (.pair (.int .i64) (.pair (.int .i64) .unit))))) .unit)))))) (.pair (.row (.int .i64)) (.pair .bool (.pair (.int .i64) .unit)))))) x := by
  unfold laws_toWorld at h
  exact lawD (t := (.pair (.row (.pair .str (.pair (.int .i64) (.pair (.int .i64) (.pair (.row (.pair (.int .i64) (.pair (.int .i64) (.pair (.int .i64) (.pair (.int .i64) (.pair (.int .i64) (.pair .str (.pair (.row (.int .i64)) .unit)))))))) .unit))))) (.pair (.row (.pair (.row (.pair (.int .i64) (.pair (.int .i64) (.pair (.row (.int .i64)) (.pair (.int .i64) .unit))))) (.pair .bool (.pair .bool (.pair (.int .i64) (.pair (.int .i64) (.pair (.int .i64) (.pair (.int .i64) (.pair (.int .i64) .unit))))))))) (.pair (.row (.pair (.int .i64) (.pair .bool (.pair (.row (.int .i64)) (.pair (.row (.pair (.int .i64) (.pair (.int .i64) (.pair (.int .i64) (.pair (.int .i64) .unit))))) (.pair (.row (.pair (.int .i64) (.pair (.int .i64) (.pair (.int .i64) (.pair (.int .i64) .unit))))) .unit)))))) (.pair (.row (.int .i64)) (.pair .bool (.pair (.int .i64) .unit))))))) (tyDTOk _ _) (E_laws_toWorld_calls k) mixOk f11_oklaws_toWorld (nameOk _ _ f11_oklaws_toWorld) (by kernel_rfl) h
/-! spec.l1In -/
noncomputable def E_spec_l1In (k : Nat) : Env := ⟨ty, fun _ => none, fun _ _ => none⟩
noncomputable def spec_l1In (k : Nat) (a1 : Int) (a2 : Int) (a3 : Int) : Option (Bool) :=
  abody (E_spec_l1In k) (arun Try.prog (E_spec_l1In k) k) k 51 Try.f51 [.int .i64 a1, .int .i64 a2, .int .i64 a3] [] (fin1 .bool)
theorem spec_l1In_e (k : Nat) (a1 : Int) (a2 : Int) (a3 : Int) : spec_l1In k a1 a2 a3 =
  iteB (decide (a1 ≥ a2)) (some (decide (a1 ≤ a3))) (some false) := by kernel_rfl
theorem E_spec_l1In_calls (k : Nat) : CallsOk Try.prog (E_spec_l1In k) (arun Try.prog (E_spec_l1In k) k) := by
  refine told_run (tyTOk _ _) ?_ (fun run h => regOk (tyTOk _ _) mixOk h) ?_ nameOk k
  · intro g m hg
    cases hg
  · intro g _ r; rfl
theorem f51_okspec_l1In : Try.prog.funcs[51]? = some Try.f51 := by kernel_rfl
theorem spec_l1In_law (k : Nat) (a1 : Int) (a2 : Int) (a3 : Int) (x : Bool) (h : spec_l1In k a1 a2 a3 = some x) : LawV Try.prog 51 [.int .i64 a1, .int .i64 a2, .int .i64 a3] (tvn .bool x) := by
  unfold spec_l1In at h
  exact law1 (t := .bool) (tyTOk _ _) (E_spec_l1In_calls k) mixOk f51_okspec_l1In (nameOk _ _ f51_okspec_l1In) (by kernel_rfl) h
/-! spec.l13Open -/
noncomputable def E_spec_l13Open (k : Nat) : Env := ⟨ty, fun g => match g with
  | 51 => some (byVal fun ρ l K => match l with
    | [b1, b2, b3] => (b1.as (.int .i64)).bind fun c1 => (b2.as (.int .i64)).bind fun c2 => (b3.as (.int .i64)).bind fun c3 => (spec_l1In k c1 c2 c3).bind fun r => K (tvn .bool r)
    | _ => none)
  | _ => none, fun _ _ => none⟩
noncomputable def spec_l13Open (k : Nat) (a1 : (List (ByteArray × Int × Int × (List (Int × Int × Int × Int × Int × ByteArray × (List Int) × Unit)) × Unit)) × (List ((List (Int × Int × (List Int) × Int × Unit)) × Bool × Bool × Int × Int × Int × Int × Int × Unit)) × (List (Int × Bool × (List Int) × (List (Int × Int × Int × Int × Unit)) × (List (Int × Int × Int × Int × Unit)) × Unit)) × (List Int) × Bool × Int × Unit) (a2 : Int) : Option (Bool) :=
  abody (E_spec_l13Open k) (arun Try.prog (E_spec_l13Open k) k) k 41 Try.f41 [.tv (.pair (.row (.pair .str (.pair (.int .i64) (.pair (.int .i64) (.pair (.row (.pair (.int .i64) (.pair (.int .i64) (.pair (.int .i64) (.pair (.int .i64) (.pair (.int .i64) (.pair .str (.pair (.row (.int .i64)) .unit)))))))) .unit))))) (.pair (.row (.pair (.row (.pair (.int .i64) (.pair (.int .i64) (.pair (.row (.int .i64)) (.pair (.int .i64) .unit))))) (.pair .bool (.pair .bool (.pair (.int .i64) (.pair (.int .i64) (.pair (.int .i64) (.pair (.int .i64) (.pair (.int .i64) .unit))))))))) (.pair (.row (.pair (.int .i64) (.pair .bool (.pair (.row (.int .i64)) (.pair (.row (.pair (.int .i64) (.pair (.int .i64) (.pair (.int .i64) (.pair (.int .i64) .unit))))) (.pair (.row (.pair (.int .i64) (.pair (.int .i64) (.pair (.int .i64) (.pair (.int .i64) .unit))))) .unit)))))) (.pair (.row (.int .i64)) (.pair .bool (.pair (.int .i64) .unit)))))) a1, .int .i64 a2] [] (fin1 .bool)
theorem spec_l13Open_e (k : Nat) (a1 : (List (ByteArray × Int × Int × (List (Int × Int × Int × Int × Int × ByteArray × (List Int) × Unit)) × Unit)) × (List ((List (Int × Int × (List Int) × Int × Unit)) × Bool × Bool × Int × Int × Int × Int × Int × Unit)) × (List (Int × Bool × (List Int) × (List (Int × Int × Int × Int × Unit)) × (List (Int × Int × Int × Int × Unit)) × Unit)) × (List Int) × Bool × Int × Unit) (a2 : Int) : spec_l13Open k a1 a2 =
  iteB (!a1.2.2.2.2.1) (bindO (spec_l1In k a2 0 (IntKind.wrap .i64 (((List.length a1.2.1) : Int) - 1))) fun r1 => (iteB r1 (iteB (decide (0 ≤ a2)) (iteB (decide (a2 < ((List.length a1.2.1) : Int))) (iteB (!(((List.getD a1.2.1 (Int.toNat a2) (Ty.dflt (.pair (.row (.pair (.int .i64) (.pair (.int .i64) (.pair (.row (.int .i64)) (.pair (.int .i64) .unit))))) (.pair .bool (.pair .bool (.pair (.int .i64) (.pair (.int .i64) (.pair (.int .i64) (.pair (.int .i64) (.pair (.int .i64) .unit)))))))))).2).1)) (iteB (decide (0 ≤ a2)) (iteB (decide (a2 < ((List.length a1.2.1) : Int))) (some (!((((List.getD a1.2.1 (Int.toNat a2) (Ty.dflt (.pair (.row (.pair (.int .i64) (.pair (.int .i64) (.pair (.row (.int .i64)) (.pair (.int .i64) .unit))))) (.pair .bool (.pair .bool (.pair (.int .i64) (.pair (.int .i64) (.pair (.int .i64) (.pair (.int .i64) (.pair (.int .i64) .unit)))))))))).2).2).1))) (none)) (none)) (some false)) (none)) (none)) (some false))) (some false) := by kernel_rfl
theorem E_spec_l13Open_calls (k : Nat) : CallsOk Try.prog (E_spec_l13Open k) (arun Try.prog (E_spec_l13Open k) k) := by
  refine told_run (tyTOk _ _) ?_ (fun run h => regOk (tyTOk _ _) mixOk h) ?_ nameOk k
  · intro g m hg
    simp only [E_spec_l13Open] at hg
    split at hg
    · cases hg
      refine con_byVal fun ρ l K x hm => ?_
      split at hm
      · obtain ⟨c1, h1, hm⟩ := Option.bind_eq_some_iff.1 hm
        obtain ⟨c2, h2, hm⟩ := Option.bind_eq_some_iff.1 hm
        obtain ⟨c3, h3, hm⟩ := Option.bind_eq_some_iff.1 hm
        obtain ⟨r, hr, hm⟩ := Option.bind_eq_some_iff.1 hm
        exact ⟨_, hm, LawV.reads (.cons (.as h1) (.cons (.as h2) (.cons (.as h3) .nil))) (spec_l1In_law k c1 c2 c3 r hr)⟩
      · cases hm
    · cases hg
  · intro g _ r; rfl
theorem f41_okspec_l13Open : Try.prog.funcs[41]? = some Try.f41 := by kernel_rfl
theorem spec_l13Open_law (k : Nat) (a1 : (List (ByteArray × Int × Int × (List (Int × Int × Int × Int × Int × ByteArray × (List Int) × Unit)) × Unit)) × (List ((List (Int × Int × (List Int) × Int × Unit)) × Bool × Bool × Int × Int × Int × Int × Int × Unit)) × (List (Int × Bool × (List Int) × (List (Int × Int × Int × Int × Unit)) × (List (Int × Int × Int × Int × Unit)) × Unit)) × (List Int) × Bool × Int × Unit) (a2 : Int) (x : Bool) (h : spec_l13Open k a1 a2 = some x) : LawV Try.prog 41 [.tv (.pair (.row (.pair .str (.pair (.int .i64) (.pair (.int .i64) (.pair (.row (.pair (.int .i64) (.pair (.int .i64) (.pair (.int .i64) (.pair (.int .i64) (.pair (.int .i64) (.pair .str (.pair (.row (.int .i64)) .unit)))))))) .unit))))) (.pair (.row (.pair (.row (.pair (.int .i64) (.pair (.int .i64) (.pair (.row (.int .i64)) (.pair (.int .i64) .unit))))) (.pair .bool (.pair .bool (.pair (.int .i64) (.pair (.int .i64) (.pair (.int .i64) (.pair (.int .i64) (.pair (.int .i64) .unit))))))))) (.pair (.row (.pair (.int .i64) (.pair .bool (.pair (.row (.int .i64)) (.pair (.row (.pair (.int .i64) (.pair (.int .i64) (.pair (.int .i64) (.pair (.int .i64) .unit))))) (.pair (.row (.pair (.int .i64) (.pair (.int .i64) (.pair (.int .i64) (.pair (.int .i64) .unit))))) .unit)))))) (.pair (.row (.int .i64)) (.pair .bool (.pair (.int .i64) .unit)))))) a1, .int .i64 a2] (tvn .bool x) := by
  unfold spec_l13Open at h
  exact law1 (t := .bool) (tyTOk _ _) (E_spec_l13Open_calls k) mixOk f41_okspec_l13Open (nameOk _ _ f41_okspec_l13Open) (by kernel_rfl) h
/-! spec.Open -/
noncomputable def E_spec_Open (k : Nat) : Env := ⟨ty, fun g => match g with
  | 41 => some (byVal fun ρ l K => match l with
    | [b1, b2] => (b1.as (.pair (.row (.pair .str (.pair (.int .i64) (.pair (.int .i64) (.pair (.row (.pair (.int .i64) (.pair (.int .i64) (.pair (.int .i64) (.pair (.int .i64) (.pair (.int .i64) (.pair .str (.pair (.row (.int .i64)) .unit)))))))) .unit))))) (.pair (.row (.pair (.row (.pair (.int .i64) (.pair (.int .i64) (.pair (.row (.int .i64)) (.pair (.int .i64) .unit))))) (.pair .bool (.pair .bool (.pair (.int .i64) (.pair (.int .i64) (.pair (.int .i64) (.pair (.int .i64) (.pair (.int .i64) .unit))))))))) (.pair (.row (.pair (.int .i64) (.pair .bool (.pair (.row (.int .i64)) (.pair (.row (.pair (.int .i64) (.pair (.int .i64) (.pair (.int .i64) (.pair (.int .i64) .unit))))) (.pair (.row (.pair (.int .i64) (.pair (.int .i64) (.pair (.int .i64) (.pair (.int .i64) .unit))))) .unit)))))) (.pair (.row (.int .i64)) (.pair .bool (.pair (.int .i64) .unit))))))).bind fun c1 => (b2.as (.int .i64)).bind fun c2 => (spec_l13Open k c1 c2).bind fun r => K (tvn .bool r)
    | _ => none)
  | 10 => some noCon
  | _ => none, fun f r => match f with | 10 => (match r with | 3 => some [1, 3, 4] | _ => none) | _ => none⟩
noncomputable def spec_Open (k : Nat) (a1 : (List (ByteArray × Int × Int × (List (Int × Int × Int × Int × Int × ByteArray × (List Int) × Unit)) × Unit)) × (List ((List (Int × Int × (List Int) × Int × Unit)) × Bool × Bool × Int × Int × Int × Int × Int × Unit)) × (List (Int × Bool × (List Int) × (List (Int × Int × Int × Int × Unit)) × (List (Int × Int × Int × Int × Unit)) × Unit)) × (List Int) × Bool × Int × Unit) : Option (List Int) :=
  abody (E_spec_Open k) (arun Try.prog (E_spec_Open k) k) k 10 Try.f10 [.tv (.pair (.row (.pair .str (.pair (.int .i64) (.pair (.int .i64) (.pair (.row (.pair (.int .i64) (.pair (.int .i64) (.pair (.int .i64) (.pair (.int .i64) (.pair (.int .i64) (.pair .str (.pair (.row (.int .i64)) .unit)))))))) .unit))))) (.pair (.row (.pair (.row (.pair (.int .i64) (.pair (.int .i64) (.pair (.row (.int .i64)) (.pair (.int .i64) .unit))))) (.pair .bool (.pair .bool (.pair (.int .i64) (.pair (.int .i64) (.pair (.int .i64) (.pair (.int .i64) (.pair (.int .i64) .unit))))))))) (.pair (.row (.pair (.int .i64) (.pair .bool (.pair (.row (.int .i64)) (.pair (.row (.pair (.int .i64) (.pair (.int .i64) (.pair (.int .i64) (.pair (.int .i64) .unit))))) (.pair (.row (.pair (.int .i64) (.pair (.int .i64) (.pair (.int .i64) (.pair (.int .i64) .unit))))) .unit)))))) (.pair (.row (.int .i64)) (.pair .bool (.pair (.int .i64) .unit)))))) a1] [] (finF (.int .i64))
noncomputable def spec_Open.l3 (k n : Nat) (x4 : Int) (y0_0 : (List (ByteArray × Int × Int × (List (Int × Int × Int × Int × Int × ByteArray × (List Int) × Unit)) × Unit)) × (List ((List (Int × Int × (List Int) × Int × Unit)) × Bool × Bool × Int × Int × Int × Int × Int × Unit)) × (List (Int × Bool × (List Int) × (List (Int × Int × Int × Int × Unit)) × (List (Int × Int × Int × Int × Unit)) × Unit)) × (List Int) × Bool × Int × Unit) : Option (List Int) :=
  resume (E_spec_Open k) 10 (acall (E_spec_Open k) (arun Try.prog (E_spec_Open k) k)) k [true, true, false, true, true] [n] (bodyOf Try.f10) ⟨[.undef, .ptr 0 0 0, .undef, .sl 1, .int .i64 x4, .undef, .undef, .undef, .undef, .undef, .undef, .undef, .undef, .undef, .undef, .undef, .undef, .undef, .undef, .undef, .undef], [some ⟨.raw true 6 (.agg [.nils, .nils, .nils, .nils, .bool false, .int .i64 0]) [.tv (.pair (.row (.pair .str (.pair (.int .i64) (.pair (.int .i64) (.pair (.row (.pair (.int .i64) (.pair (.int .i64) (.pair (.int .i64) (.pair (.int .i64) (.pair (.int .i64) (.pair .str (.pair (.row (.int .i64)) .unit)))))))) .unit))))) (.pair (.row (.pair (.row (.pair (.int .i64) (.pair (.int .i64) (.pair (.row (.int .i64)) (.pair (.int .i64) .unit))))) (.pair .bool (.pair .bool (.pair (.int .i64) (.pair (.int .i64) (.pair (.int .i64) (.pair (.int .i64) (.pair (.int .i64) .unit))))))))) (.pair (.row (.pair (.int .i64) (.pair .bool (.pair (.row (.int .i64)) (.pair (.row (.pair (.int .i64) (.pair (.int .i64) (.pair (.int .i64) (.pair (.int .i64) .unit))))) (.pair (.row (.pair (.int .i64) (.pair (.int .i64) (.pair (.int .i64) (.pair (.int .i64) .unit))))) .unit)))))) (.pair (.row (.int .i64)) (.pair .bool (.pair (.int .i64) .unit)))))) y0_0], true⟩, some ⟨.typed (.int .i64) [], true⟩]⟩ (leave (E_spec_Open k) Try.f10 (finF (.int .i64)))
noncomputable def spec_Open.l3b (k n : Nat) (x4 : Int) (y0_0 : (List (ByteArray × Int × Int × (List (Int × Int × Int × Int × Int × ByteArray × (List Int) × Unit)) × Unit)) × (List ((List (Int × Int × (List Int) × Int × Unit)) × Bool × Bool × Int × Int × Int × Int × Int × Unit)) × (List (Int × Bool × (List Int) × (List (Int × Int × Int × Int × Unit)) × (List (Int × Int × Int × Int × Unit)) × Unit)) × (List Int) × Bool × Int × Unit) (y1 : List Int) : Option (List Int) :=
  resume (E_spec_Open k) 10 (acall (E_spec_Open k) (arun Try.prog (E_spec_Open k) k)) k [true, true, false, true, true] [n] (bodyOf Try.f10) ⟨[.undef, .ptr 0 0 0, .undef, .sl 1, .int .i64 x4, .undef, .undef, .undef, .undef, .undef, .undef, .undef, .undef, .undef, .undef, .undef, .undef, .undef, .undef, .undef, .undef], [some ⟨.raw true 6 (.agg [.nils, .nils, .nils, .nils, .bool false, .int .i64 0]) [.tv (.pair (.row (.pair .str (.pair (.int .i64) (.pair (.int .i64) (.pair (.row (.pair (.int .i64) (.pair (.int .i64) (.pair (.int .i64) (.pair (.int .i64) (.pair (.int .i64) (.pair .str (.pair (.row (.int .i64)) .unit)))))))) .unit))))) (.pair (.row (.pair (.row (.pair (.int .i64) (.pair (.int .i64) (.pair (.row (.int .i64)) (.pair (.int .i64) .unit))))) (.pair .bool (.pair .bool (.pair (.int .i64) (.pair (.int .i64) (.pair (.int .i64) (.pair (.int .i64) (.pair (.int .i64) .unit))))))))) (.pair (.row (.pair (.int .i64) (.pair .bool (.pair (.row (.int .i64)) (.pair (.row (.pair (.int .i64) (.pair (.int .i64) (.pair (.int .i64) (.pair (.int .i64) .unit))))) (.pair (.row (.pair (.int .i64) (.pair (.int .i64) (.pair (.int .i64) (.pair (.int .i64) .unit))))) .unit)))))) (.pair (.row (.int .i64)) (.pair .bool (.pair (.int .i64) .unit)))))) y0_0], true⟩, some ⟨.typed (.int .i64) y1, false⟩]⟩ (leave (E_spec_Open k) Try.f10 (finF (.int .i64)))
theorem spec_Open.l3_0 (k : Nat) (x4 : Int) (y0_0 : (List (ByteArray × Int × Int × (List (Int × Int × Int × Int × Int × ByteArray × (List Int) × Unit)) × Unit)) × (List ((List (Int × Int × (List Int) × Int × Unit)) × Bool × Bool × Int × Int × Int × Int × Int × Unit)) × (List (Int × Bool × (List Int) × (List (Int × Int × Int × Int × Unit)) × (List (Int × Int × Int × Int × Unit)) × Unit)) × (List Int) × Bool × Int × Unit) : spec_Open.l3 k 0 x4 y0_0 = none := by kernel_rfl
theorem spec_Open.l3_s (k n : Nat) (x4 : Int) (y0_0 : (List (ByteArray × Int × Int × (List (Int × Int × Int × Int × Int × ByteArray × (List Int) × Unit)) × Unit)) × (List ((List (Int × Int × (List Int) × Int × Unit)) × Bool × Bool × Int × Int × Int × Int × Int × Unit)) × (List (Int × Bool × (List Int) × (List (Int × Int × Int × Int × Unit)) × (List (Int × Int × Int × Int × Unit)) × Unit)) × (List Int) × Bool × Int × Unit) : spec_Open.l3 k (n + 1) x4 y0_0 =
  iteB (decide (x4 < ((List.length y0_0.2.1) : Int))) (bindO (spec_l13Open k y0_0 x4) fun r1 => (iteB r1 (iteB (decide ((List.length ([] ++ [x4])) * 8 ≤ lim)) (spec_Open.l3b k n (IntKind.wrap .i64 (x4 + 1)) y0_0 ([] ++ [x4])) (none)) (spec_Open.l3 k n (IntKind.wrap .i64 (x4 + 1)) y0_0))) (some []) := by kernel_rfl
theorem spec_Open.l3b_0 (k : Nat) (x4 : Int) (y0_0 : (List (ByteArray × Int × Int × (List (Int × Int × Int × Int × Int × ByteArray × (List Int) × Unit)) × Unit)) × (List ((List (Int × Int × (List Int) × Int × Unit)) × Bool × Bool × Int × Int × Int × Int × Int × Unit)) × (List (Int × Bool × (List Int) × (List (Int × Int × Int × Int × Unit)) × (List (Int × Int × Int × Int × Unit)) × Unit)) × (List Int) × Bool × Int × Unit) (y1 : List Int) : spec_Open.l3b k 0 x4 y0_0 y1 = none := by kernel_rfl
theorem spec_Open.l3b_s (k n : Nat) (x4 : Int) (y0_0 : (List (ByteArray × Int × Int × (List (Int × Int × Int × Int × Int × ByteArray × (List Int) × Unit)) × Unit)) × (List ((List (Int × Int × (List Int) × Int × Unit)) × Bool × Bool × Int × Int × Int × Int × Int × Unit)) × (List (Int × Bool × (List Int) × (List (Int × Int × Int × Int × Unit)) × (List (Int × Int × Int × Int × Unit)) × Unit)) × (List Int) × Bool × Int × Unit) (y1 : List Int) : spec_Open.l3b k (n + 1) x4 y0_0 y1 =
  iteB (decide (x4 < ((List.length y0_0.2.1) : Int))) (bindO (spec_l13Open k y0_0 x4) fun r2 => (iteB r2 (iteB (decide ((List.length (y1 ++ [x4])) * 8 ≤ lim)) (spec_Open.l3b k n (IntKind.wrap .i64 (x4 + 1)) y0_0 (y1 ++ [x4])) (none)) (spec_Open.l3b k n (IntKind.wrap .i64 (x4 + 1)) y0_0 y1))) (some y1) := by kernel_rfl
theorem spec_Open_e (k : Nat) (a1 : (List (ByteArray × Int × Int × (List (Int × Int × Int × Int × Int × ByteArray × (List Int) × Unit)) × Unit)) × (List ((List (Int × Int × (List Int) × Int × Unit)) × Bool × Bool × Int × Int × Int × Int × Int × Unit)) × (List (Int × Bool × (List Int) × (List (Int × Int × Int × Int × Unit)) × (List (Int × Int × Int × Int × Unit)) × Unit)) × (List Int) × Bool × Int × Unit) : spec_Open k a1 =
  spec_Open.l3 k k 0 a1 := by kernel_rfl
theorem E_spec_Open_calls (k : Nat) : CallsOk Try.prog (E_spec_Open k) (arun Try.prog (E_spec_Open k) k) := by
  refine told_run (tyTOk _ _) ?_ (fun run h => regOk (tyTOk _ _) mixOk h) ?_ nameOk k
  · intro g m hg
    simp only [E_spec_Open] at hg
    split at hg
    · cases hg
      refine con_byVal fun ρ l K x hm => ?_
      split at hm
      · obtain ⟨c1, h1, hm⟩ := Option.bind_eq_some_iff.1 hm
        obtain ⟨c2, h2, hm⟩ := Option.bind_eq_some_iff.1 hm
        obtain ⟨r, hr, hm⟩ := Option.bind_eq_some_iff.1 hm
        exact ⟨_, hm, LawV.reads (.cons (.as h1) (.cons (.as h2) .nil)) (spec_l13Open_law k c1 c2 r hr)⟩
      · cases hm
    · cases hg; exact noCon_ok
    · cases hg
  · intro g hg r
    by_cases h : g = 10
    · subst h; simp [E_spec_Open] at hg
    · simp [E_spec_Open, h]
theorem f10_okspec_Open : Try.prog.funcs[10]? = some Try.f10 := by kernel_rfl
theorem spec_Open_law (k : Nat) (a1 : (List (ByteArray × Int × Int × (List (Int × Int × Int × Int × Int × ByteArray × (List Int) × Unit)) × Unit)) × (List ((List (Int × Int × (List Int) × Int × Unit)) × Bool × Bool × Int × Int × Int × Int × Int × Unit)) × (List (Int × Bool × (List Int) × (List (Int × Int × Int × Int × Unit)) × (List (Int × Int × Int × Int × Unit)) × Unit)) × (List Int) × Bool × Int × Unit) (x : List Int) (h : spec_Open k a1 = some x) : LawF Try.prog 10 [.tv (.pair (.row (.pair .str (.pair (.int .i64) (.pair (.int .i64) (.pair (.row (.pair (.int .i64) (.pair (.int .i64) (.pair (.int .i64) (.pair (.int .i64) (.pair (.int .i64) (.pair .str (.pair (.row (.int .i64)) .unit)))))))) .unit))))) (.pair (.row (.pair (.row (.pair (.int .i64) (.pair (.int .i64) (.pair (.row (.int .i64)) (.pair (.int .i64) .unit))))) (.pair .bool (.pair .bool (.pair (.int .i64) (.pair (.int .i64) (.pair (.int .i64) (.pair (.int .i64) (.pair (.int .i64) .unit))))))))) (.pair (.row (.pair (.int .i64) (.pair .bool (.pair (.row (.int .i64)) (.pair (.row (.pair (.int .i64) (.pair (.int .i64) (.pair (.int .i64) (.pair (.int .i64) .unit))))) (.pair (.row (.pair (.int .i64) (.pair (.int .i64) (.pair (.int .i64) (.pair (.int .i64) .unit))))) .unit)))))) (.pair (.row (.int .i64)) (.pair .bool (.pair (.int .i64) .unit)))))) a1] (.int .i64) x := by
  unfold spec_Open at h
  exact lawF (e := (.int .i64)) (tyTOk _ _) (E_spec_Open_calls k) mixOk f10_okspec_Open (nameOk _ _ f10_okspec_Open) (by kernel_rfl) h
/-! impl.Open -/
noncomputable def E_impl_Open (k : Nat) : Env := ⟨ty, fun g => match g with
  | 12 => some noCon
  | _ => none, fun f r => match f with | 12 => (match r with | 3 => some [1, 3, 8, 9, 10] | _ => none) | _ => none⟩
noncomputable def impl_Open (k : Nat) (a1 : (List (ByteArray × Int × Int × (List (Int × Int × Int × Int × Int × ByteArray × (List Int) × Unit)) × Unit)) × (List ((List (Int × Int × (List Int) × Int × Unit)) × Bool × Bool × Int × Int × Int × Int × Int × Unit)) × (List (Int × Bool × (List Int) × (List (Int × Int × Int × Int × Unit)) × (List (Int × Int × Int × Int × Unit)) × Unit)) × (List Int) × Bool × Int × Unit) : Option (List Int) :=
  abody (E_impl_Open k) (arun Try.prog (E_impl_Open k) k) k 12 Try.f12 [.tv (.pair (.row (.pair .str (.pair (.int .i64) (.pair (.int .i64) (.pair (.row (.pair (.int .i64) (.pair (.int .i64) (.pair (.int .i64) (.pair (.int .i64) (.pair (.int .i64) (.pair .str (.pair (.row (.int .i64)) .unit)))))))) .unit))))) (.pair (.row (.pair (.row (.pair (.int .i64) (.pair (.int .i64) (.pair (.row (.int .i64)) (.pair (.int .i64) .unit))))) (.pair .bool (.pair .bool (.pair (.int .i64) (.pair (.int .i64) (.pair (.int .i64) (.pair (.int .i64) (.pair (.int .i64) .unit))))))))) (.pair (.row (.pair (.int .i64) (.pair .bool (.pair (.row (.int .i64)) (.pair (.row (.pair (.int .i64) (.pair (.int .i64) (.pair (.int .i64) (.pair (.int .i64) .unit))))) (.pair (.row (.pair (.int .i64) (.pair (.int .i64) (.pair (.int .i64) (.pair (.int .i64) .unit))))) .unit)))))) (.pair (.row (.int .i64)) (.pair .bool (.pair (.int .i64) .unit)))))) a1] [] (finF (.int .i64))
noncomputable def impl_Open.l3 (k n : Nat) (x8 : List ((List (Int × Int × (List Int) × Int × Unit)) × Bool × Bool × Int × Int × Int × Int × Int × Unit)) (x9 : Int) (x10 : Int) (y0_0 : (List (ByteArray × Int × Int × (List (Int × Int × Int × Int × Int × ByteArray × (List Int) × Unit)) × Unit)) × (List ((List (Int × Int × (List Int) × Int × Unit)) × Bool × Bool × Int × Int × Int × Int × Int × Unit)) × (List (Int × Bool × (List Int) × (List (Int × Int × Int × Int × Unit)) × (List (Int × Int × Int × Int × Unit)) × Unit)) × (List Int) × Bool × Int × Unit) : Option (List Int) :=
  resume (E_impl_Open k) 12 (acall (E_impl_Open k) (arun Try.prog (E_impl_Open k) k)) k [true, true, false, true, true] [n] (bodyOf Try.f12) ⟨[.undef, .ptr 0 0 0, .undef, .sl 1, .undef, .undef, .undef, .undef, .tv (.row (.pair (.row (.pair (.int .i64) (.pair (.int .i64) (.pair (.row (.int .i64)) (.pair (.int .i64) .unit))))) (.pair .bool (.pair .bool (.pair (.int .i64) (.pair (.int .i64) (.pair (.int .i64) (.pair (.int .i64) (.pair (.int .i64) .unit))))))))) x8, .int .i64 x9, .int .i64 x10, .undef, .undef, .undef, .undef, .undef, .undef, .undef, .undef, .undef, .undef, .undef, .undef, .undef, .undef, .undef, .undef, .undef, .undef, .undef, .undef, .undef, .undef, .undef], [some ⟨.raw true 6 (.agg [.nils, .nils, .nils, .nils, .bool false, .int .i64 0]) [.tv (.pair (.row (.pair .str (.pair (.int .i64) (.pair (.int .i64) (.pair (.row (.pair (.int .i64) (.pair (.int .i64) (.pair (.int .i64) (.pair (.int .i64) (.pair (.int .i64) (.pair .str (.pair (.row (.int .i64)) .unit)))))))) .unit))))) (.pair (.row (.pair (.row (.pair (.int .i64) (.pair (.int .i64) (.pair (.row (.int .i64)) (.pair (.int .i64) .unit))))) (.pair .bool (.pair .bool (.pair (.int .i64) (.pair (.int .i64) (.pair (.int .i64) (.pair (.int .i64) (.pair (.int .i64) .unit))))))))) (.pair (.row (.pair (.int .i64) (.pair .bool (.pair (.row (.int .i64)) (.pair (.row (.pair (.int .i64) (.pair (.int .i64) (.pair (.int .i64) (.pair (.int .i64) .unit))))) (.pair (.row (.pair (.int .i64) (.pair (.int .i64) (.pair (.int .i64) (.pair (.int .i64) .unit))))) .unit)))))) (.pair (.row (.int .i64)) (.pair .bool (.pair (.int .i64) .unit)))))) y0_0], true⟩, some ⟨.typed (.int .i64) [], true⟩]⟩ (leave (E_impl_Open k) Try.f12 (finF (.int .i64)))
noncomputable def impl_Open.l3b (k n : Nat) (x8 : List ((List (Int × Int × (List Int) × Int × Unit)) × Bool × Bool × Int × Int × Int × Int × Int × Unit)) (x9 : Int) (x10 : Int) (y0_0 : (List (ByteArray × Int × Int × (List (Int × Int × Int × Int × Int × ByteArray × (List Int) × Unit)) × Unit)) × (List ((List (Int × Int × (List Int) × Int × Unit)) × Bool × Bool × Int × Int × Int × Int × Int × Unit)) × (List (Int × Bool × (List Int) × (List (Int × Int × Int × Int × Unit)) × (List (Int × Int × Int × Int × Unit)) × Unit)) × (List Int) × Bool × Int × Unit) (y1 : List Int) : Option (List Int) :=
  resume (E_impl_Open k) 12 (acall (E_impl_Open k) (arun Try.prog (E_impl_Open k) k)) k [true, true, false, true, true] [n] (bodyOf Try.f12) ⟨[.undef, .ptr 0 0 0, .undef, .sl 1, .undef, .undef, .undef, .undef, .tv (.row (.pair (.row (.pair (.int .i64) (.pair (.int .i64) (.pair (.row (.int .i64)) (.pair (.int .i64) .unit))))) (.pair .bool (.pair .bool (.pair (.int .i64) (.pair (.int .i64) (.pair (.int .i64) (.pair (.int .i64) (.pair (.int .i64) .unit))))))))) x8, .int .i64 x9, .int .i64 x10, .undef, .undef, .undef, .undef, .undef, .undef, .undef, .undef, .undef, .undef, .undef, .undef, .undef, .undef, .undef, .undef, .undef, .undef, .undef, .undef, .undef, .undef, .undef], [some ⟨.raw true 6 (.agg [.nils, .nils, .nils, .nils, .bool false, .int .i64 0]) [.tv (.pair (.row (.pair .str (.pair (.int .i64) (.pair (.int .i64) (.pair (.row (.pair (.int .i64) (.pair (.int .i64) (.pair (.int .i64) (.pair (.int .i64) (.pair (.int .i64) (.pair .str (.pair (.row (.int .i64)) .unit)))))))) .unit))))) (.pair (.row (.pair (.row (.pair (.int .i64) (.pair (.int .i64) (.pair (.row (.int .i64)) (.pair (.int .i64) .unit))))) (.pair .bool (.pair .bool (.pair (.int .i64) (.pair (.int .i64) (.pair (.int .i64) (.pair (.int .i64) (.pair (.int .i64) .unit))))))))) (.pair (.row (.pair (.int .i64) (.pair .bool (.pair (.row (.int .i64)) (.pair (.row (.pair (.int .i64) (.pair (.int .i64) (.pair (.int .i64) (.pair (.int .i64) .unit))))) (.pair (.row (.pair (.int .i64) (.pair (.int .i64) (.pair (.int .i64) (.pair (.int .i64) .unit))))) .unit)))))) (.pair (.row (.int .i64)) (.pair .bool (.pair (.int .i64) .unit)))))) y0_0], true⟩, some ⟨.typed (.int .i64) y1, false⟩]⟩ (leave (E_impl_Open k) Try.f12 (finF (.int .i64)))
theorem impl_Open.l3_0 (k : Nat) (x8 : List ((List (Int × Int × (List Int) × Int × Unit)) × Bool × Bool × Int × Int × Int × Int × Int × Unit)) (x9 : Int) (x10 : Int) (y0_0 : (List (ByteArray × Int × Int × (List (Int × Int × Int × Int × Int × ByteArray × (List Int) × Unit)) × Unit)) × (List ((List (Int × Int × (List Int) × Int × Unit)) × Bool × Bool × Int × Int × Int × Int × Int × Unit)) × (List (Int × Bool × (List Int) × (List (Int × Int × Int × Int × Unit)) × (List (Int × Int × Int × Int × Unit)) × Unit)) × (List Int) × Bool × Int × Unit) : impl_Open.l3 k 0 x8 x9 x10 y0_0 = none := by kernel_rfl
theorem impl_Open.l3_s (k n : Nat) (x8 : List ((List (Int × Int × (List Int) × Int × Unit)) × Bool × Bool × Int × Int × Int × Int × Int × Unit)) (x9 : Int) (x10 : Int) (y0_0 : (List (ByteArray × Int × Int × (List (Int × Int × Int × Int × Int × ByteArray × (List Int) × Unit)) × Unit)) × (List ((List (Int × Int × (List Int) × Int × Unit)) × Bool × Bool × Int × Int × Int × Int × Int × Unit)) × (List (Int × Bool × (List Int) × (List (Int × Int × Int × Int × Unit)) × (List (Int × Int × Int × Int × Unit)) × Unit)) × (List Int) × Bool × Int × Unit) : impl_Open.l3 k (n + 1) x8 x9 x10 y0_0 =
  iteB (decide (x10 < x9)) (iteB (decide (0 ≤ x10)) (iteB (decide (x10 < ((List.length x8) : Int))) (iteB (!y0_0.2.2.2.2.1) (iteB (!(((List.getD x8 (Int.toNat x10) (Ty.dflt (.pair (.row (.pair (.int .i64) (.pair (.int .i64) (.pair (.row (.int .i64)) (.pair (.int .i64) .unit))))) (.pair .bool (.pair .bool (.pair (.int .i64) (.pair (.int .i64) (.pair (.int .i64) (.pair (.int .i64) (.pair (.int .i64) .unit)))))))))).2).1)) (iteB (!((((List.getD x8 (Int.toNat x10) (Ty.dflt (.pair (.row (.pair (.int .i64) (.pair (.int .i64) (.pair (.row (.int .i64)) (.pair (.int .i64) .unit))))) (.pair .bool (.pair .bool (.pair (.int .i64) (.pair (.int .i64) (.pair (.int .i64) (.pair (.int .i64) (.pair (.int .i64) .unit)))))))))).2).2).1)) (iteB (decide ((List.length ([] ++ [x10])) * 8 ≤ lim)) (impl_Open.l3b k n x8 x9 (IntKind.wrap .i64 (x10 + 1)) y0_0 ([] ++ [x10])) (none)) (impl_Open.l3 k n x8 x9 (IntKind.wrap .i64 (x10 + 1)) y0_0)) (impl_Open.l3 k n x8 x9 (IntKind.wrap .i64 (x10 + 1)) y0_0)) (impl_Open.l3 k n x8 x9 (IntKind.wrap .i64 (x10 + 1)) y0_0)) (none)) (none)) (some []) := by kernel_rfl
theorem impl_Open.l3b_0 (k : Nat) (x8 : List ((List (Int × Int × (List Int) × Int × Unit)) × Bool × Bool × Int × Int × Int × Int × Int × Unit)) (x9 : Int) (x10 : Int) (y0_0 : (List (ByteArray × Int × Int × (List (Int × Int × Int × Int × Int × ByteArray × (List Int) × Unit)) × Unit)) × (List ((List (Int × Int × (List Int) × Int × Unit)) × Bool × Bool × Int × Int × Int × Int × Int × Unit)) × (List (Int × Bool × (List Int) × (List (Int × Int × Int × Int × Unit)) × (List (Int × Int × Int × Int × Unit)) × Unit)) × (List Int) × Bool × Int × Unit) (y1 : List Int) : impl_Open.l3b k 0 x8 x9 x10 y0_0 y1 = none := by kernel_rfl
theorem impl_Open.l3b_s (k n : Nat) (x8 : List ((List (Int × Int × (List Int) × Int × Unit)) × Bool × Bool × Int × Int × Int × Int × Int × Unit)) (x9 : Int) (x10 : Int) (y0_0 : (List (ByteArray × Int × Int × (List (Int × Int × Int × Int × Int × ByteArray × (List Int) × Unit)) × Unit)) × (List ((List (Int × Int × (List Int) × Int × Unit)) × Bool × Bool × Int × Int × Int × Int × Int × Unit)) × (List (Int × Bool × (List Int) × (List (Int × Int × Int × Int × Unit)) × (List (Int × Int × Int × Int × Unit)) × Unit)) × (List Int) × Bool × Int × Unit) (y1 : List Int) : impl_Open.l3b k (n + 1) x8 x9 x10 y0_0 y1 =
  iteB (decide (x10 < x9)) (iteB (decide (0 ≤ x10)) (iteB (decide (x10 < ((List.length x8) : Int))) (iteB (!y0_0.2.2.2.2.1) (iteB (!(((List.getD x8 (Int.toNat x10) (Ty.dflt (.pair (.row (.pair (.int .i64) (.pair (.int .i64) (.pair (.row (.int .i64)) (.pair (.int .i64) .unit))))) (.pair .bool (.pair .bool (.pair (.int .i64) (.pair (.int .i64) (.pair (.int .i64) (.pair (.int .i64) (.pair (.int .i64) .unit)))))))))).2).1)) (iteB (!((((List.getD x8 (Int.toNat x10) (Ty.dflt (.pair (.row (.pair (.int .i64) (.pair (.int .i64) (.pair (.row (.int .i64)) (.pair (.int .i64) .unit))))) (.pair .bool (.pair .bool (.pair (.int .i64) (.pair (.int .i64) (.pair (.int .i64) (.pair (.int .i64) (.pair (.int .i64) .unit)))))))))).2).2).1)) (iteB (decide ((List.length (y1 ++ [x10])) * 8 ≤ lim)) (impl_Open.l3b k n x8 x9 (IntKind.wrap .i64 (x10 + 1)) y0_0 (y1 ++ [x10])) (none)) (impl_Open.l3b k n x8 x9 (IntKind.wrap .i64 (x10 + 1)) y0_0 y1)) (impl_Open.l3b k n x8 x9 (IntKind.wrap .i64 (x10 + 1)) y0_0 y1)) (impl_Open.l3b k n x8 x9 (IntKind.wrap .i64 (x10 + 1)) y0_0 y1)) (none)) (none)) (some y1) := by kernel_rfl
theorem impl_Open_e (k : Nat) (a1 : (List (ByteArray × Int × Int × (List (Int × Int × Int × Int × Int × ByteArray × (List Int) × Unit)) × Unit)) × (List ((List (Int × Int × (List Int) × Int × Unit)) × Bool × Bool × Int × Int × Int × Int × Int × Unit)) × (List (Int × Bool × (List Int) × (List (Int × Int × Int × Int × Unit)) × (List (Int × Int × Int × Int × Unit)) × Unit)) × (List Int) × Bool × Int × Unit) : impl_Open k a1 =
  impl_Open.l3 k k a1.2.1 ((List.length a1.2.1) : Int) 0 a1 := by kernel_rfl
theorem E_impl_Open_calls (k : Nat) : CallsOk Try.prog (E_impl_Open k) (arun Try.prog (E_impl_Open k) k) := by
  refine told_run (tyTOk _ _) ?_ (fun run h => regOk (tyTOk _ _) mixOk h) ?_ nameOk k
  · intro g m hg
    simp only [E_impl_Open] at hg
    split at hg
    · cases hg; exact noCon_ok
    · cases hg
  · intro g hg r
    by_cases h : g = 12
    · subst h; simp [E_impl_Open] at hg
    · simp [E_impl_Open, h]
theorem f12_okimpl_Open : Try.prog.funcs[12]? = some Try.f12 := by kernel_rfl
theorem impl_Open_law (k : Nat) (a1 : (List (ByteArray × Int × Int × (List (Int × Int × Int × Int × Int × ByteArray × (List Int) × Unit)) × Unit)) × (List ((List (Int × Int × (List Int) × Int × Unit)) × Bool × Bool × Int × Int × Int × Int × Int × Unit)) × (List (Int × Bool × (List Int) × (List (Int × Int × Int × Int × Unit)) × (List (Int × Int × Int × Int × Unit)) × Unit)) × (List Int) × Bool × Int × Unit) (x : List Int) (h : impl_Open k a1 = some x) : LawF Try.prog 12 [.tv (.pair (.row (.pair .str (.pair (.int .i64) (.pair (.int .i64) (.pair (.row (.pair (.int .i64) (.pair (.int .i64) (.pair (.int .i64) (.pair (.int .i64) (.pair (.int .i64) (.pair .str (.pair (.row (.int .i64)) .unit)))))))) .unit))))) (.pair (.row (.pair (.row (.pair (.int .i64) (.pair (.int .i64) (.pair (.row (.int .i64)) (.pair (.int .i64) .unit))))) (.pair .bool (.pair .bool (.pair (.int .i64) (.pair (.int .i64) (.pair (.int .i64) (.pair (.int .i64) (.pair (.int .i64) .unit))))))))) (.pair (.row (.pair (.int .i64) (.pair .bool (.pair (.row (.int .i64)) (.pair (.row (.pair (.int .i64) (.pair (.int .i64) (.pair (.int .i64) (.pair (.int .i64) .unit))))) (.pair (.row (.pair (.int .i64) (.pair (.int .i64) (.pair (.int .i64) (.pair (.int .i64) .unit))))) .unit)))))) (.pair (.row (.int .i64)) (.pair .bool (.pair (.int .i64) .unit)))))) a1] (.int .i64) x := by
  unfold impl_Open at h
  exact lawF (e := (.int .i64)) (tyTOk _ _) (E_impl_Open_calls k) mixOk f12_okimpl_Open (nameOk _ _ f12_okimpl_Open) (by kernel_rfl) h
/-! laws.eqIntS -/
noncomputable def E_laws_eqIntS (k : Nat) : Env := ⟨ty, fun g => match g with
  | 13 => some noCon
  | _ => none, fun f r => match f with | 13 => (match r with | 4 => some [0, 1, 5] | _ => none) | _ => none⟩
noncomputable def laws_eqIntS (k : Nat) (a1 : List Int) (a2 : List Int) : Option (Bool) :=
  abody (E_laws_eqIntS k) (arun Try.prog (E_laws_eqIntS k) k) k 13 Try.f13 [.tv (.row (.int .i64)) a1, .tv (.row (.int .i64)) a2] [] (fin1 .bool)
noncomputable def laws_eqIntS.l4 (k n : Nat) (x0 : List Int) (x1 : List Int) (x5 : Int) : Option (Bool) :=
  resume (E_laws_eqIntS k) 13 (acall (E_laws_eqIntS k) (arun Try.prog (E_laws_eqIntS k) k)) k [true, true, false, true, true] [n] (bodyOf Try.f13) ⟨[.tv (.row (.int .i64)) x0, .tv (.row (.int .i64)) x1, .undef, .undef, .undef, .int .i64 x5, .undef, .undef, .undef, .undef, .undef, .undef, .undef, .undef, .undef, .undef, .undef, .undef, .undef, .undef, .undef, .undef, .undef, .undef, .undef, .undef], []⟩ (leave (E_laws_eqIntS k) Try.f13 (fin1 .bool))
theorem laws_eqIntS.l4_0 (k : Nat) (x0 : List Int) (x1 : List Int) (x5 : Int) : laws_eqIntS.l4 k 0 x0 x1 x5 = none := by kernel_rfl
theorem laws_eqIntS.l4_s (k n : Nat) (x0 : List Int) (x1 : List Int) (x5 : Int) : laws_eqIntS.l4 k (n + 1) x0 x1 x5 =
  iteB (decide (x5 < ((List.length x0) : Int))) (iteB (decide (0 ≤ x5)) (iteB (decide (x5 < ((List.length x0) : Int))) (iteB (decide (0 ≤ x5)) (iteB (decide (x5 < ((List.length x1) : Int))) (iteB ((List.getD x0 (Int.toNat x5) 0) != (List.getD x1 (Int.toNat x5) 0)) (some false) (laws_eqIntS.l4 k n x0 x1 (IntKind.wrap .i64 (x5 + 1)))) (none)) (none)) (none)) (none)) (some true) := by kernel_rfl
theorem laws_eqIntS_e (k : Nat) (a1 : List Int) (a2 : List Int) : laws_eqIntS k a1 a2 =
  iteB (((List.length a1) : Int) != ((List.length a2) : Int)) (some false) (laws_eqIntS.l4 k k a1 a2 0) := by kernel_rfl
theorem E_laws_eqIntS_calls (k : Nat) : CallsOk Try.prog (E_laws_eqIntS k) (arun Try.prog (E_laws_eqIntS k) k) := by
  refine told_run (tyTOk _ _) ?_ (fun run h => regOk (tyTOk _ _) mixOk h) ?_ nameOk k
  · intro g m hg
    simp only [E_laws_eqIntS] at hg
    split at hg
    · cases hg; exact noCon_ok
    · cases hg
  · intro g hg r
    by_cases h : g = 13
    · subst h; simp [E_laws_eqIntS] at hg
    · simp [E_laws_eqIntS, h]
theorem f13_oklaws_eqIntS : Try.prog.funcs[13]? = some Try.f13 := by kernel_rfl
theorem laws_eqIntS_law (k : Nat) (a1 : List Int) (a2 : List Int) (x : Bool) (h : laws_eqIntS k a1 a2 = some x) : LawV Try.prog 13 [.tv (.row (.int .i64)) a1, .tv (.row (.int .i64)) a2] (tvn .bool x) := by
  unfold laws_eqIntS at h
  exact law1 (t := .bool) (tyTOk _ _) (E_laws_eqIntS_calls k) mixOk f13_oklaws_eqIntS (nameOk _ _ f13_oklaws_eqIntS) (by kernel_rfl) h
/-! laws.eqTac -/
noncomputable def E_laws_eqTac (k : Nat) : Env := ⟨ty, fun g => match g with
  | 13 => some (byVal fun ρ l K => match l with
    | [b1, b2] => (b1.as (.row (.int .i64))).bind fun c1 => (b2.as (.row (.int .i64))).bind fun c2 => (laws_eqIntS k c1 c2).bind fun r => K (tvn .bool r)
    | _ => none)
  | _ => none, fun _ _ => none⟩
noncomputable def laws_eqTac (k : Nat) (a1 : Int × Int × Int × Int × Int × ByteArray × (List Int) × Unit) (a2 : Int × Int × Int × Int × Int × ByteArray × (List Int) × Unit) : Option (Bool) :=
  abody (E_laws_eqTac k) (arun Try.prog (E_laws_eqTac k) k) k 107 Try.f107 [.tv (.pair (.int .i64) (.pair (.int .i64) (.pair (.int .i64) (.pair (.int .i64) (.pair (.int .i64) (.pair .str (.pair (.row (.int .i64)) .unit))))))) a1, .tv (.pair (.int .i64) (.pair (.int .i64) (.pair (.int .i64) (.pair (.int .i64) (.pair (.int .i64) (.pair .str (.pair (.row (.int .i64)) .unit))))))) a2] [] (fin1 .bool)
theorem laws_eqTac_e (k : Nat) (a1 : Int × Int × Int × Int × Int × ByteArray × (List Int) × Unit) (a2 : Int × Int × Int × Int × Int × ByteArray × (List Int) × Unit) : laws_eqTac k a1 a2 =
  iteB (a1.1 != a2.1) (some false) (iteB (a1.2.1 != a2.2.1) (some false) (iteB (a1.2.2.1 != a2.2.2.1) (some false) (iteB (a1.2.2.2.1 != a2.2.2.2.1) (some false) (iteB (a1.2.2.2.2.1 != a2.2.2.2.2.1) (some false) (iteB (!(ByteArray.toList a1.2.2.2.2.2.1 == ByteArray.toList a2.2.2.2.2.2.1)) (some false) (bindO (laws_eqIntS k a1.2.2.2.2.2.2.1 a2.2.2.2.2.2.2.1) fun r1 => (iteB (!r1) (some false) (some true)))))))) := by kernel_rfl
theorem E_laws_eqTac_calls (k : Nat) : CallsOk Try.prog (E_laws_eqTac k) (arun Try.prog (E_laws_eqTac k) k) := by
  refine told_run (tyTOk _ _) ?_ (fun run h => regOk (tyTOk _ _) mixOk h) ?_ nameOk k
  · intro g m hg
    simp only [E_laws_eqTac] at hg
    split at hg
    · cases hg
      refine con_byVal fun ρ l K x hm => ?_
      split at hm
      · obtain ⟨c1, h1, hm⟩ := Option.bind_eq_some_iff.1 hm
        obtain ⟨c2, h2, hm⟩ := Option.bind_eq_some_iff.1 hm
        obtain ⟨r, hr, hm⟩ := Option.bind_eq_some_iff.1 hm
        exact ⟨_, hm, LawV.reads (.cons (.as h1) (.cons (.as h2) .nil)) (laws_eqIntS_law k c1 c2 r hr)⟩
      · cases hm
    · cases hg
  · intro g _ r; rfl
theorem f107_oklaws_eqTac : Try.prog.funcs[107]? = some Try.f107 := by kernel_rfl
theorem laws_eqTac_law (k : Nat) (a1 : Int × Int × Int × Int × Int × ByteArray × (List Int) × Unit) (a2 : Int × Int × Int × Int × Int × ByteArray × (List Int) × Unit) (x : Bool) (h : laws_eqTac k a1 a2 = some x) : LawV Try.prog 107 [.tv (.pair (.int .i64) (.pair (.int .i64) (.pair (.int .i64) (.pair (.int .i64) (.pair (.int .i64) (.pair .str (.pair (.row (.int .i64)) .unit))))))) a1, .tv (.pair (.int .i64) (.pair (.int .i64) (.pair (.int .i64) (.pair (.int .i64) (.pair (.int .i64) (.pair .str (.pair (.row (.int .i64)) .unit))))))) a2] (tvn .bool x) := by
  unfold laws_eqTac at h
  exact law1 (t := .bool) (tyTOk _ _) (E_laws_eqTac_calls k) mixOk f107_oklaws_eqTac (nameOk _ _ f107_oklaws_eqTac) (by kernel_rfl) h
/-! laws.eqTacS -/
noncomputable def E_laws_eqTacS (k : Nat) : Env := ⟨ty, fun g => match g with
  | 107 => some (byVal fun ρ l K => match l with
    | [b1, b2] => (b1.as (.pair (.int .i64) (.pair (.int .i64) (.pair (.int .i64) (.pair (.int .i64) (.pair (.int .i64) (.pair .str (.pair (.row (.int .i64)) .unit)))))))).bind fun c1 => (b2.as (.pair (.int .i64) (.pair (.int .i64) (.pair (.int .i64) (.pair (.int .i64) (.pair (.int .i64) (.pair .str (.pair (.row (.int .i64)) .unit)))))))).bind fun c2 => (laws_eqTac k c1 c2).bind fun r => K (tvn .bool r)
    | _ => none)
  | 57 => some noCon
  | _ => none, fun f r => match f with | 57 => (match r with | 4 => some [0, 1, 5] | _ => none) | _ => none⟩
noncomputable def laws_eqTacS (k : Nat) (a1 : List (Int × Int × Int × Int × Int × ByteArray × (List Int) × Unit)) (a2 : List (Int × Int × Int × Int × Int × ByteArray × (List Int) × Unit)) : Option (Bool) :=
  abody (E_laws_eqTacS k) (arun Try.prog (E_laws_eqTacS k) k) k 57 Try.f57 [.tv (.row (.pair (.int .i64) (.pair (.int .i64) (.pair (.int .i64) (.pair (.int .i64) (.pair (.int .i64) (.pair .str (.pair (.row (.int .i64)) .unit)))))))) a1, .tv (.row (.pair (.int .i64) (.pair (.int .i64) (.pair (.int .i64) (.pair (.int .i64) (.pair (.int .i64) (.pair .str (.pair (.row (.int .i64)) .unit)))))))) a2] [] (fin1 .bool)
noncomputable def laws_eqTacS.l4 (k n : Nat) (x0 : List (Int × Int × Int × Int × Int × ByteArray × (List Int) × Unit)) (x1 : List (Int × Int × Int × Int × Int × ByteArray × (List Int) × Unit)) (x5 : Int) : Option (Bool) :=
  resume (E_laws_eqTacS k) 57 (acall (E_laws_eqTacS k) (arun Try.prog (E_laws_eqTacS k) k)) k [true, true, false, true, true] [n] (bodyOf Try.f57) ⟨[.tv (.row (.pair (.int .i64) (.pair (.int .i64) (.pair (.int .i64) (.pair (.int .i64) (.pair (.int .i64) (.pair .str (.pair (.row (.int .i64)) .unit)))))))) x0, .tv (.row (.pair (.int .i64) (.pair (.int .i64) (.pair (.int .i64) (.pair (.int .i64) (.pair (.int .i64) (.pair .str (.pair (.row (.int .i64)) .unit)))))))) x1, .undef, .undef, .undef, .int .i64 x5, .undef, .undef, .undef, .undef, .undef, .undef, .undef, .undef, .undef, .undef, .undef, .undef, .undef, .undef, .undef, .undef, .undef, .undef, .undef, .undef, .undef], []⟩ (leave (E_laws_eqTacS k) Try.f57 (fin1 .bool))
theorem laws_eqTacS.l4_0 (k : Nat) (x0 : List (Int × Int × Int × Int × Int × ByteArray × (List Int) × Unit)) (x1 : List (Int × Int × Int × Int × Int × ByteArray × (List Int) × Unit)) (x5 : Int) : laws_eqTacS.l4 k 0 x0 x1 x5 = none := by kernel_rfl
theorem laws_eqTacS.l4_s (k n : Nat) (x0 : List (Int × Int × Int × Int × Int × ByteArray × (List Int) × Unit)) (x1 : List (Int × Int × Int × Int × Int × ByteArray × (List Int) × Unit)) (x5 : Int) : laws_eqTacS.l4 k (n + 1) x0 x1 x5 =
  iteB (decide (x5 < ((List.length x0) : Int))) (iteB (decide (0 ≤ x5)) (iteB (decide (x5 < ((List.length x0) : Int))) (iteB (decide (0 ≤ x5)) (iteB (decide (x5 < ((List.length x1) : Int))) (bindO (laws_eqTac k (List.getD x0 (Int.toNat x5) (Ty.dflt (.pair (.int .i64) (.pair (.int .i64) (.pair (.int .i64) (.pair (.int .i64) (.pair (.int .i64) (.pair .str (.pair (.row (.int .i64)) .unit))))))))) (List.getD x1 (Int.toNat x5) (Ty.dflt (.pair (.int .i64) (.pair (.int .i64) (.pair (.int .i64) (.pair (.int .i64) (.pair (.int .i64) (.pair .str (.pair (.row (.int .i64)) .unit)))))))))) fun r1 => (iteB (!r1) (some false) (laws_eqTacS.l4 k n x0 x1 (IntKind.wrap .i64 (x5 + 1))))) (none)) (none)) (none)) (none)) (some true) := by kernel_rfl
theorem laws_eqTacS_e (k : Nat) (a1 : List (Int × Int × Int × Int × Int × ByteArray × (List Int) × Unit)) (a2 : List (Int × Int × Int × Int × Int × ByteArray × (List Int) × Unit)) : laws_eqTacS k a1 a2 =
  iteB (((List.length a1) : Int) != ((List.length a2) : Int)) (some false) (laws_eqTacS.l4 k k a1 a2 0) := by kernel_rfl
theorem E_laws_eqTacS_calls (k : Nat) : CallsOk Try.prog (E_laws_eqTacS k) (arun Try.prog (E_laws_eqTacS k) k) := by
  refine told_run (tyTOk _ _) ?_ (fun run h => regOk (tyTOk _ _) mixOk h) ?_ nameOk k
  · intro g m hg
    simp only [E_laws_eqTacS] at hg
    split at hg
    · cases hg
      refine con_byVal fun ρ l K x hm => ?_
      split at hm
      · obtain ⟨c1, h1, hm⟩ := Option.bind_eq_some_iff.1 hm
        obtain ⟨c2, h2, hm⟩ := Option.bind_eq_some_iff.1 hm
        obtain ⟨r, hr, hm⟩ := Option.bind_eq_some_iff.1 hm
        exact ⟨_, hm, LawV.reads (.cons (.as h1) (.cons (.as h2) .nil)) (laws_eqTac_law k c1 c2 r hr)⟩
      · cases hm
    · cases hg; exact noCon_ok
    · cases hg
  · intro g hg r
    by_cases h : g = 57
    · subst h; simp [E_laws_eqTacS] at hg
    · simp [E_laws_eqTacS, h]
theorem f57_oklaws_eqTacS : Try.prog.funcs[57]? = some Try.f57 := by kernel_rfl
theorem laws_eqTacS_law (k : Nat) (a1 : List (Int × Int × Int × Int × Int × ByteArray × (List Int) × Unit)) (a2 : List (Int × Int × Int × Int × Int × ByteArray × (List Int) × Unit)) (x : Bool) (h : laws_eqTacS k a1 a2 = some x) : LawV Try.prog 57 [.tv (.row (.pair (.int .i64) (.pair (.int .i64) (.pair (.int .i64) (.pair (.int .i64) (.pair (.int .i64) (.pair .str (.pair (.row (.int .i64)) .unit)))))))) a1, .tv (.row (.pair (.int .i64) (.pair (.int .i64) (.pair (.int .i64) (.pair (.int .i64) (.pair (.int .i64) (.pair .str (.pair (.row (.int .i64)) .unit)))))))) a2] (tvn .bool x) := by
  unfold laws_eqTacS at h
  exact law1 (t := .bool) (tyTOk _ _) (E_laws_eqTacS_calls k) mixOk f57_oklaws_eqTacS (nameOk _ _ f57_oklaws_eqTacS) (by kernel_rfl) h
/-! laws.eqUnit -/
noncomputable def E_laws_eqUnit (k : Nat) : Env := ⟨ty, fun g => match g with
  | 57 => some (byVal fun ρ l K => match l with
    | [b1, b2] => (b1.as (.row (.pair (.int .i64) (.pair (.int .i64) (.pair (.int .i64) (.pair (.int .i64) (.pair (.int .i64) (.pair .str (.pair (.row (.int .i64)) .unit))))))))).bind fun c1 => (b2.as (.row (.pair (.int .i64) (.pair (.int .i64) (.pair (.int .i64) (.pair (.int .i64) (.pair (.int .i64) (.pair .str (.pair (.row (.int .i64)) .unit))))))))).bind fun c2 => (laws_eqTacS k c1 c2).bind fun r => K (tvn .bool r)
    | _ => none)
  | _ => none, fun _ _ => none⟩
noncomputable def laws_eqUnit (k : Nat) (a1 : ByteArray × Int × Int × (List (Int × Int × Int × Int × Int × ByteArray × (List Int) × Unit)) × Unit) (a2 : ByteArray × Int × Int × (List (Int × Int × Int × Int × Int × ByteArray × (List Int) × Unit)) × Unit) : Option (Bool) :=
  abody (E_laws_eqUnit k) (arun Try.prog (E_laws_eqUnit k) k) k 22 Try.f22 [.tv (.pair .str (.pair (.int .i64) (.pair (.int .i64) (.pair (.row (.pair (.int .i64) (.pair (.int .i64) (.pair (.int .i64) (.pair (.int .i64) (.pair (.int .i64) (.pair .str (.pair (.row (.int .i64)) .unit)))))))) .unit)))) a1, .tv (.pair .str (.pair (.int .i64) (.pair (.int .i64) (.pair (.row (.pair (.int .i64) (.pair (.int .i64) (.pair (.int .i64) (.pair (.int .i64) (.pair (.int .i64) (.pair .str (.pair (.row (.int .i64)) .unit)))))))) .unit)))) a2] [] (fin1 .bool)
theorem laws_eqUnit_e (k : Nat) (a1 : ByteArray × Int × Int × (List (Int × Int × Int × Int × Int × ByteArray × (List Int) × Unit)) × Unit) (a2 : ByteArray × Int × Int × (List (Int × Int × Int × Int × Int × ByteArray × (List Int) × Unit)) × Unit) : laws_eqUnit k a1 a2 =
  iteB (!(ByteArray.toList a1.1 == ByteArray.toList a2.1)) (some false) (iteB (a1.2.1 != a2.2.1) (some false) (iteB (a1.2.2.1 != a2.2.2.1) (some false) (bindO (laws_eqTacS k a1.2.2.2.1 a2.2.2.2.1) fun r1 => (iteB (!r1) (some false) (some true))))) := by kernel_rfl
theorem E_laws_eqUnit_calls (k : Nat) : CallsOk Try.prog (E_laws_eqUnit k) (arun Try.prog (E_laws_eqUnit k) k) := by
  refine told_run (tyTOk _ _) ?_ (fun run h => regOk (tyTOk _ _) mixOk h) ?_ nameOk k
  · intro g m hg
    simp only [E_laws_eqUnit] at hg
    split at hg
    · cases hg
      refine con_byVal fun ρ l K x hm => ?_
      split at hm
      · obtain ⟨c1, h1, hm⟩ := Option.bind_eq_some_iff.1 hm
        obtain ⟨c2, h2, hm⟩ := Option.bind_eq_some_iff.1 hm
        obtain ⟨r, hr, hm⟩ := Option.bind_eq_some_iff.1 hm
        exact ⟨_, hm, LawV.reads (.cons (.as h1) (.cons (.as h2) .nil)) (laws_eqTacS_law k c1 c2 r hr)⟩
      · cases hm
    · cases hg
  · intro g _ r; rfl
theorem f22_oklaws_eqUnit : Try.prog.funcs[22]? = some Try.f22 := by kernel_rfl
theorem laws_eqUnit_law (k : Nat) (a1 : ByteArray × Int × Int × (List (Int × Int × Int × Int × Int × ByteArray × (List Int) × Unit)) × Unit) (a2 : ByteArray × Int × Int × (List (Int × Int × Int × Int × Int × ByteArray × (List Int) × Unit)) × Unit) (x : Bool) (h : laws_eqUnit k a1 a2 = some x) : LawV Try.prog 22 [.tv (.pair .str (.pair (.int .i64) (.pair (.int .i64) (.pair (.row (.pair (.int .i64) (.pair (.int .i64) (.pair (.int .i64) (.pair (.int .i64) (.pair (.int .i64) (.pair .str (.pair (.row (.int .i64)) .unit)))))))) .unit)))) a1, .tv (.pair .str (.pair (.int .i64) (.pair (.int .i64) (.pair (.row (.pair (.int .i64) (.pair (.int .i64) (.pair (.int .i64) (.pair (.int .i64) (.pair (.int .i64) (.pair .str (.pair (.row (.int .i64)) .unit)))))))) .unit)))) a2] (tvn .bool x) := by
  unfold laws_eqUnit at h
  exact law1 (t := .bool) (tyTOk _ _) (E_laws_eqUnit_calls k) mixOk f22_oklaws_eqUnit (nameOk _ _ f22_oklaws_eqUnit) (by kernel_rfl) h
/-! laws.eqUnitS -/
noncomputable def E_laws_eqUnitS (k : Nat) : Env := ⟨ty, fun g => match g with
  | 22 => some (byVal fun ρ l K => match l with
    | [b1, b2] => (b1.as (.pair .str (.pair (.int .i64) (.pair (.int .i64) (.pair (.row (.pair (.int .i64) (.pair (.int .i64) (.pair (.int .i64) (.pair (.int .i64) (.pair (.int .i64) (.pair .str (.pair (.row (.int .i64)) .unit)))))))) .unit))))).bind fun c1 => (b2.as (.pair .str (.pair (.int .i64) (.pair (.int .i64) (.pair (.row (.pair (.int .i64) (.pair (.int .i64) (.pair (.int .i64) (.pair (.int .i64) (.pair (.int .i64) (.pair .str (.pair (.row (.int .i64)) .unit)))))))) .unit))))).bind fun c2 => (laws_eqUnit k c1 c2).bind fun r => K (tvn .bool r)
    | _ => none)
  | 35 => some noCon
  | _ => none, fun f r => match f with | 35 => (match r with | 4 => some [0, 1, 5] | _ => none) | _ => none⟩
noncomputable def laws_eqUnitS (k : Nat) (a1 : List (ByteArray × Int × Int × (List (Int × Int × Int × Int × Int × ByteArray × (List Int) × Unit)) × Unit)) (a2 : List (ByteArray × Int × Int × (List (Int × Int × Int × Int × Int × ByteArray × (List Int) × Unit)) × Unit)) : Option (Bool) :=
  abody (E_laws_eqUnitS k) (arun Try.prog (E_laws_eqUnitS k) k) k 35 Try.f35 [.tv (.row (.pair .str (.pair (.int .i64) (.pair (.int .i64) (.pair (.row (.pair (.int .i64) (.pair (.int .i64) (.pair (.int .i64) (.pair (.int .i64) (.pair (.int .i64) (.pair .str (.pair (.row (.int .i64)) .unit)))))))) .unit))))) a1, .tv (.row (.pair .str (.pair (.int .i64) (.pair (.int .i64) (.pair (.row (.pair (.int .i64) (.pair (.int .i64) (.pair (.int .i64) (.pair (.int .i64) (.pair (.int .i64) (.pair .str (.pair (.row (.int .i64)) .unit)))))))) .unit))))) a2] [] (fin1 .bool)
noncomputable def laws_eqUnitS.l4 (k n : Nat) (x0 : List (ByteArray × Int × Int × (List (Int × Int × Int × Int × Int × ByteArray × (List Int) × Unit)) × Unit)) (x1 : List (ByteArray × Int × Int × (List (Int × Int × Int × Int × Int × ByteArray × (List Int) × Unit)) × Unit)) (x5 : Int) : Option (Bool) :=
  resume (E_laws_eqUnitS k) 35 (acall (E_laws_eqUnitS k) (arun Try.prog (E_laws_eqUnitS k) k)) k [true, true, false, true, true] [n] (bodyOf Try.f35) ⟨[.tv (.row (.pair .str (.pair (.int .i64) (.pair (.int .i64) (.pair (.row (.pair (.int .i64) (.pair (.int .i64) (.pair (.int .i64) (.pair (.int .i64) (.pair (.int .i64) (.pair .str (.pair (.row (.int .i64)) .unit)))))))) .unit))))) x0, .tv (.row (.pair .str (.pair (.int .i64) (.pair (.int .i64) (.pair (.row (.pair (.int .i64) (.pair (.int .i64) (.pair (.int .i64) (.pair (.int .i64) (.pair (.int .i64) (.pair .str (.pair (.row (.int .i64)) .unit)))))))) .unit))))) x1, .undef, .undef, .undef, .int .i64 x5, .undef, .undef, .undef, .undef, .undef, .undef, .undef, .undef, .undef, .undef, .undef, .undef, .undef, .undef, .undef, .undef, .undef, .undef, .undef, .undef, .undef], []⟩ (leave (E_laws_eqUnitS k) Try.f35 (fin1 .bool))
theorem laws_eqUnitS.l4_0 (k : Nat) (x0 : List (ByteArray × Int × Int × (List (Int × Int × Int × Int × Int × ByteArray × (List Int) × Unit)) × Unit)) (x1 : List (ByteArray × Int × Int × (List (Int × Int × Int × Int × Int × ByteArray × (List Int) × Unit)) × Unit)) (x5 : Int) : laws_eqUnitS.l4 k 0 x0 x1 x5 = none := by kernel_rfl
theorem laws_eqUnitS.l4_s (k n : Nat) (x0 : List (ByteArray × Int × Int × (List (Int × Int × Int × Int × Int × ByteArray × (List Int) × Unit)) × Unit)) (x1 : List (ByteArray × Int × Int × (List (Int × Int × Int × Int × Int × ByteArray × (List Int) × Unit)) × Unit)) (x5 : Int) : laws_eqUnitS.l4 k (n + 1) x0 x1 x5 =
  iteB (decide (x5 < ((List.length x0) : Int))) (iteB (decide (0 ≤ x5)) (iteB (decide (x5 < ((List.length x0) : Int))) (iteB (decide (0 ≤ x5)) (iteB (decide (x5 < ((List.length x1) : Int))) (bindO (laws_eqUnit k (List.getD x0 (Int.toNat x5) (Ty.dflt (.pair .str (.pair (.int .i64) (.pair (.int .i64) (.pair (.row (.pair (.int .i64) (.pair (.int .i64) (.pair (.int .i64) (.pair (.int .i64) (.pair (.int .i64) (.pair .str (.pair (.row (.int .i64)) .unit)))))))) .unit)))))) (List.getD x1 (Int.toNat x5) (Ty.dflt (.pair .str (.pair (.int .i64) (.pair (.int .i64) (.pair (.row (.pair (.int .i64) (.pair (.int .i64) (.pair (.int .i64) (.pair (.int .i64) (.pair (.int .i64) (.pair .str (.pair (.row (.int .i64)) .unit)))))))) .unit))))))) fun r1 => (iteB (!r1) (some false) (laws_eqUnitS.l4 k n x0 x1 (IntKind.wrap .i64 (x5 + 1))))) (none)) (none)) (none)) (none)) (some true) := by kernel_rfl
theorem laws_eqUnitS_e (k : Nat) (a1 : List (ByteArray × Int × Int × (List (Int × Int × Int × Int × Int × ByteArray × (List Int) × Unit)) × Unit)) (a2 : List (ByteArray × Int × Int × (List (Int × Int × Int × Int × Int × ByteArray × (List Int) × Unit)) × Unit)) : laws_eqUnitS k a1 a2 =
  iteB (((List.length a1) : Int) != ((List.length a2) : Int)) (some false) (laws_eqUnitS.l4 k k a1 a2 0) := by kernel_rfl
theorem E_laws_eqUnitS_calls (k : Nat) : CallsOk Try.prog (E_laws_eqUnitS k) (arun Try.prog (E_laws_eqUnitS k) k) := by
  refine told_run (tyTOk _ _) ?_ (fun run h => regOk (tyTOk _ _) mixOk h) ?_ nameOk k
  · intro g m hg
    simp only [E_laws_eqUnitS] at hg
    split at hg
    · cases hg
      refine con_byVal fun ρ l K x hm => ?_
      split at hm
      · obtain ⟨c1, h1, hm⟩ := Option.bind_eq_some_iff.1 hm
        obtain ⟨c2, h2, hm⟩ := Option.bind_eq_some_iff.1 hm
        obtain ⟨r, hr, hm⟩ := Option.bind_eq_some_iff.1 hm
        exact ⟨_, hm, LawV.reads (.cons (.as h1) (.cons (.as h2) .nil)) (laws_eqUnit_law k c1 c2 r hr)⟩
      · cases hm
    · cases hg; exact noCon_ok
    · cases hg
  · intro g hg r
    by_cases h : g = 35
    · subst h; simp [E_laws_eqUnitS] at hg
    · simp [E_laws_eqUnitS, h]
theorem f35_oklaws_eqUnitS : Try.prog.funcs[35]? = some Try.f35 := by kernel_rfl
theorem laws_eqUnitS_law (k : Nat) (a1 : List (ByteArray × Int × Int × (List (Int × Int × Int × Int × Int × ByteArray × (List Int) × Unit)) × Unit)) (a2 : List (ByteArray × Int × Int × (List (Int × Int × Int × Int × Int × ByteArray × (List Int) × Unit)) × Unit)) (x : Bool) (h : laws_eqUnitS k a1 a2 = some x) : LawV Try.prog 35 [.tv (.row (.pair .str (.pair (.int .i64) (.pair (.int .i64) (.pair (.row (.pair (.int .i64) (.pair (.int .i64) (.pair (.int .i64) (.pair (.int .i64) (.pair (.int .i64) (.pair .str (.pair (.row (.int .i64)) .unit)))))))) .unit))))) a1, .tv (.row (.pair .str (.pair (.int .i64) (.pair (.int .i64) (.pair (.row (.pair (.int .i64) (.pair (.int .i64) (.pair (.int .i64) (.pair (.int .i64) (.pair (.int .i64) (.pair .str (.pair (.row (.int .i64)) .unit)))))))) .unit))))) a2] (tvn .bool x) := by
  unfold laws_eqUnitS at h
  exact law1 (t := .bool) (tyTOk _ _) (E_laws_eqUnitS_calls k) mixOk f35_oklaws_eqUnitS (nameOk _ _ f35_oklaws_eqUnitS) (by kernel_rfl) h
/-! laws.eqFrame -/
noncomputable def E_laws_eqFrame (k : Nat) : Env := ⟨ty, fun g => match g with
  | 13 => some (byVal fun ρ l K => match l with
    | [b1, b2] => (b1.as (.row (.int .i64))).bind fun c1 => (b2.as (.row (.int .i64))).bind fun c2 => (laws_eqIntS k c1 c2).bind fun r => K (tvn .bool r)
    | _ => none)
  | _ => none, fun _ _ => none⟩
noncomputable def laws_eqFrame (k : Nat) (a1 : Int × Int × (List Int) × Int × Unit) (a2 : Int × Int × (List Int) × Int × Unit) : Option (Bool) :=
  abody (E_laws_eqFrame k) (arun Try.prog (E_laws_eqFrame k) k) k 152 Try.f152 [.tv (.pair (.int .i64) (.pair (.int .i64) (.pair (.row (.int .i64)) (.pair (.int .i64) .unit)))) a1, .tv (.pair (.int .i64) (.pair (.int .i64) (.pair (.row (.int .i64)) (.pair (.int .i64) .unit)))) a2] [] (fin1 .bool)
theorem laws_eqFrame_e (k : Nat) (a1 : Int × Int × (List Int) × Int × Unit) (a2 : Int × Int × (List Int) × Int × Unit) : laws_eqFrame k a1 a2 =
  iteB (a1.1 != a2.1) (some false) (iteB (a1.2.1 != a2.2.1) (some false) (bindO (laws_eqIntS k a1.2.2.1 a2.2.2.1) fun r1 => (iteB (!r1) (some false) (iteB (a1.2.2.2.1 != a2.2.2.2.1) (some false) (some true))))) := by kernel_rfl
theorem E_laws_eqFrame_calls (k : Nat) : CallsOk Try.prog (E_laws_eqFrame k) (arun Try.prog (E_laws_eqFrame k) k) := by
  refine told_run (tyTOk _ _) ?_ (fun run h => regOk (tyTOk _ _) mixOk h) ?_ nameOk k
  · intro g m hg
    simp only [E_laws_eqFrame] at hg
    split at hg
    · cases hg
      refine con_byVal fun ρ l K x hm => ?_
      split at hm
      · obtain ⟨c1, h1, hm⟩ := Option.bind_eq_some_iff.1 hm
        obtain ⟨c2, h2, hm⟩ := Option.bind_eq_some_iff.1 hm
        obtain ⟨r, hr, hm⟩ := Option.bind_eq_some_iff.1 hm
        exact ⟨_, hm, LawV.reads (.cons (.as h1) (.cons (.as h2) .nil)) (laws_eqIntS_law k c1 c2 r hr)⟩
      · cases hm
    · cases hg
  · intro g _ r; rfl
theorem f152_oklaws_eqFrame : Try.prog.funcs[152]? = some Try.f152 := by kernel_rfl
theorem laws_eqFrame_law (k : Nat) (a1 : Int × Int × (List Int) × Int × Unit) (a2 : Int × Int × (List Int) × Int × Unit) (x : Bool) (h : laws_eqFrame k a1 a2 = some x) : LawV Try.prog 152 [.tv (.pair (.int .i64) (.pair (.int .i64) (.pair (.row (.int .i64)) (.pair (.int .i64) .unit)))) a1, .tv (.pair (.int .i64) (.pair (.int .i64) (.pair (.row (.int .i64)) (.pair (.int .i64) .unit)))) a2] (tvn .bool x) := by
  unfold laws_eqFrame at h
  exact law1 (t := .bool) (tyTOk _ _) (E_laws_eqFrame_calls k) mixOk f152_oklaws_eqFrame (nameOk _ _ f152_oklaws_eqFrame) (by kernel_rfl) h
/-! laws.eqFrameS -/
noncomputable def E_laws_eqFrameS (k : Nat) : Env := ⟨ty, fun g => match g with
  | 152 => some (byVal fun ρ l K => match l with
    | [b1, b2] => (b1.as (.pair (.int .i64) (.pair (.int .i64) (.pair (.row (.int .i64)) (.pair (.int .i64) .unit))))).bind fun c1 => (b2.as (.pair (.int .i64) (.pair (.int .i64) (.pair (.row (.int .i64)) (.pair (.int .i64) .unit))))).bind fun c2 => (laws_eqFrame k c1 c2).bind fun r => K (tvn .bool r)
    | _ => none)
  | 129 => some noCon
  | _ => none, fun f r => match f with | 129 => (match r with | 4 => some [0, 1, 5] | _ => none) | _ => none⟩
noncomputable def laws_eqFrameS (k : Nat) (a1 : List (Int × Int × (List Int) × Int × Unit)) (a2 : List (Int × Int × (List Int) × Int × Unit)) : Option (Bool) :=
  abody (E_laws_eqFrameS k) (arun Try.prog (E_laws_eqFrameS k) k) k 129 Try.f129 [.tv (.row (.pair (.int .i64) (.pair (.int .i64) (.pair (.row (.int .i64)) (.pair (.int .i64) .unit))))) a1, .tv (.row (.pair (.int .i64) (.pair (.int .i64) (.pair (.row (.int .i64)) (.pair (.int .i64) .unit))))) a2] [] (fin1 .bool)
noncomputable def laws_eqFrameS.l4 (k n : Nat) (x0 : List (Int × Int × (List Int) × Int × Unit)) (x1 : List (Int × Int × (List Int) × Int × Unit)) (x5 : Int) : Option (Bool) :=
  resume (E_laws_eqFrameS k) 129 (acall (E_laws_eqFrameS k) (arun Try.prog (E_laws_eqFrameS k) k)) k [true, true, false, true, true] [n] (bodyOf Try.f129) ⟨[.tv (.row (.pair (.int .i64) (.pair (.int .i64) (.pair (.row (.int .i64)) (.pair (.int .i64) .unit))))) x0, .tv (.row (.pair (.int .i64) (.pair (.int .i64) (.pair (.row (.int .i64)) (.pair (.int .i64) .unit))))) x1, .undef, .undef, .undef, .int .i64 x5, .undef, .undef, .undef, .undef, .undef, .undef, .undef, .undef, .undef, .undef, .undef, .undef, .undef, .undef, .undef, .undef, .undef, .undef, .undef, .undef, .undef], []⟩ (leave (E_laws_eqFrameS k) Try.f129 (fin1 .bool))
theorem laws_eqFrameS.l4_0 (k : Nat) (x0 : List (Int × Int × (List Int) × Int × Unit)) (x1 : List (Int × Int × (List Int) × Int × Unit)) (x5 : Int) : laws_eqFrameS.l4 k 0 x0 x1 x5 = none := by kernel_rfl
theorem laws_eqFrameS.l4_s (k n : Nat) (x0 : List (Int × Int × (List Int) × Int × Unit)) (x1 : List (Int × Int × (List Int) × Int × Unit)) (x5 : Int) : laws_eqFrameS.l4 k (n + 1) x0 x1 x5 =
  iteB (decide (x5 < ((List.length x0) : Int))) (iteB (decide (0 ≤ x5)) (iteB (decide (x5 < ((List.length x0) : Int))) (iteB (decide (0 ≤ x5)) (iteB (decide (x5 < ((List.length x1) : Int))) (bindO (laws_eqFrame k (List.getD x0 (Int.toNat x5) (Ty.dflt (.pair (.int .i64) (.pair (.int .i64) (.pair (.row (.int .i64)) (.pair (.int .i64) .unit)))))) (List.getD x1 (Int.toNat x5) (Ty.dflt (.pair (.int .i64) (.pair (.int .i64) (.pair (.row (.int .i64)) (.pair (.int .i64) .unit))))))) fun r1 => (iteB (!r1) (some false) (laws_eqFrameS.l4 k n x0 x1 (IntKind.wrap .i64 (x5 + 1))))) (none)) (none)) (none)) (none)) (some true) := by kernel_rfl
theorem laws_eqFrameS_e (k : Nat) (a1 : List (Int × Int × (List Int) × Int × Unit)) (a2 : List (Int × Int × (List Int) × Int × Unit)) : laws_eqFrameS k a1 a2 =
  iteB (((List.length a1) : Int) != ((List.length a2) : Int)) (some false) (laws_eqFrameS.l4 k k a1 a2 0) := by kernel_rfl
theorem E_laws_eqFrameS_calls (k : Nat) : CallsOk Try.prog (E_laws_eqFrameS k) (arun Try.prog (E_laws_eqFrameS k) k) := by
  refine told_run (tyTOk _ _) ?_ (fun run h => regOk (tyTOk _ _) mixOk h) ?_ nameOk k
  · intro g m hg
    simp only [E_laws_eqFrameS] at hg
    split at hg
    · cases hg
      refine con_byVal fun ρ l K x hm => ?_
      split at hm
      · obtain ⟨c1, h1, hm⟩ := Option.bind_eq_some_iff.1 hm
        obtain ⟨c2, h2, hm⟩ := Option.bind_eq_some_iff.1 hm
        obtain ⟨r, hr, hm⟩ := Option.bind_eq_some_iff.1 hm
        exact ⟨_, hm, LawV.reads (.cons (.as h1) (.cons (.as h2) .nil)) (laws_eqFrame_law k c1 c2 r hr)⟩
      · cases hm
    · cases hg; exact noCon_ok
    · cases hg
  · intro g hg r
    by_cases h : g = 129
    · subst h; simp [E_laws_eqFrameS] at hg
    · simp [E_laws_eqFrameS, h]
theorem f129_oklaws_eqFrameS : Try.prog.funcs[129]? = some Try.f129 := by kernel_rfl
theorem laws_eqFrameS_law (k : Nat) (a1 : List (Int × Int × (List Int) × Int × Unit)) (a2 : List (Int × Int × (List Int) × Int × Unit)) (x : Bool) (h : laws_eqFrameS k a1 a2 = some x) : LawV Try.prog 129 [.tv (.row (.pair (.int .i64) (.pair (.int .i64) (.pair (.row (.int .i64)) (.pair (.int .i64) .unit))))) a1, .tv (.row (.pair (.int .i64) (.pair (.int .i64) (.pair (.row (.int .i64)) (.pair (.int .i64) .unit))))) a2] (tvn .bool x) := by
  unfold laws_eqFrameS at h
  exact law1 (t := .bool) (tyTOk _ _) (E_laws_eqFrameS_calls k) mixOk f129_oklaws_eqFrameS (nameOk _ _ f129_oklaws_eqFrameS) (by kernel_rfl) h
end Go.Proofs.Ytampamlgkfhliaa.XFnExactOpen
