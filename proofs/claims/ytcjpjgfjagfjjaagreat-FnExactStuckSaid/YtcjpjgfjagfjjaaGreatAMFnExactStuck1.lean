/- Functions of the program as runs of the interpreter: equations, and a law for each. -/
import Derived.Test.YtcjpjgfjagfjjaaGreatProg
import Derived.Test.YtcjpjgfjagfjjaaGreatChecked
import Derived.KernelRfl
import Derived.Eval
import Derived.Test.YtcjpjgfjagfjjaaGreatATyOk
import Derived.Test.YtcjpjgfjagfjjaaGreatAS38
import Derived.Test.YtcjpjgfjagfjjaaGreatAMFnExactStuck0
open Go Go.AM Go.AMx Go.Proofs
namespace Go.Proofs.YtcjpjgfjagfjjaaGreat.XFnExactStuck
set_option linter.unusedVariables false
set_option linter.unusedSimpArgs false
/-! laws.toWaitS -/
noncomputable def E_laws_toWaitS (k : Nat) : Env := ⟨ty, fun g => match g with
  | 82 => some (byVal fun ρ l K => match l with
    | [b1] => (b1.as (.pair (.int .i64) (.pair (.int .i64) (.pair (.int .i64) (.pair (.int .i64) .unit))))).bind fun c1 => (laws_toWait k c1).bind fun r => K (tvn (.pair (.int .i64) (.pair (.int .i64) (.pair (.int .i64) (.pair (.int .i64) .unit)))) r)
    | _ => none)
  | 59 => some noCon
  | _ => none, fun f r => match f with | 59 => (match r with | 3 => some [0, 3, 4] | _ => none) | _ => none⟩
noncomputable def laws_toWaitS (k : Nat) (a1 : List (Int × Int × Int × Int × Unit)) : Option (List (Int × Int × Int × Int × Unit)) :=
  abody (E_laws_toWaitS k) (arun Tryz.prog (E_laws_toWaitS k) k) k 59 Tryz.f59 [.tv (.row (.pair (.int .i64) (.pair (.int .i64) (.pair (.int .i64) (.pair (.int .i64) .unit))))) a1] [] (fin1 (.row (.pair (.int .i64) (.pair (.int .i64) (.pair (.int .i64) (.pair (.int .i64) .unit))))))
noncomputable def laws_toWaitS.l3 (k n : Nat) (x0 : List (Int × Int × Int × Int × Unit)) (x4 : Int) (y0 : List (Int × Int × Int × Int × Unit)) : Option (List (Int × Int × Int × Int × Unit)) :=
  resume (E_laws_toWaitS k) 59 (acall (E_laws_toWaitS k) (arun Tryz.prog (E_laws_toWaitS k) k)) k [true, true, false, true, true] [n] (bodyOf Tryz.f59) ⟨[.tv (.row (.pair (.int .i64) (.pair (.int .i64) (.pair (.int .i64) (.pair (.int .i64) .unit))))) x0, .undef, .undef, .sl 0, .int .i64 x4, .undef, .undef, .undef, .undef, .undef, .undef, .undef, .undef, .undef, .undef, .undef, .undef, .undef, .undef, .undef, .undef, .undef, .undef], [some ⟨.typed (.pair (.int .i64) (.pair (.int .i64) (.pair (.int .i64) (.pair (.int .i64) .unit)))) y0, false⟩]⟩ (leave (E_laws_toWaitS k) Tryz.f59 (fin1 (.row (.pair (.int .i64) (.pair (.int .i64) (.pair (.int .i64) (.pair (.int .i64) .unit)))))))
theorem laws_toWaitS.l3_0 (k : Nat) (x0 : List (Int × Int × Int × Int × Unit)) (x4 : Int) (y0 : List (Int × Int × Int × Int × Unit)) : laws_toWaitS.l3 k 0 x0 x4 y0 = none := by kernel_rfl
theorem laws_toWaitS.l3_s (k n : Nat) (x0 : List (Int × Int × Int × Int × Unit)) (x4 : Int) (y0 : List (Int × Int × Int × Int × Unit)) : laws_toWaitS.l3 k (n + 1) x0 x4 y0 =
  iteB (decide (x4 < ((List.length x0) : Int))) (iteB (decide (0 ≤ x4)) (iteB (decide (x4 < ((List.length x0) : Int))) (bindO (laws_toWait k (List.getD x0 (Int.toNat x4) (Ty.dflt (.pair (.int .i64) (.pair (.int .i64) (.pair (.int .i64) (.pair (.int .i64) .unit))))))) fun r1 => (iteB (decide (0 ≤ x4)) (iteB (decide (x4 < ((List.length y0) : Int))) (laws_toWaitS.l3 k n x0 (IntKind.wrap .i64 (x4 + 1)) (List.set y0 (Int.toNat x4) r1)) (none)) (none))) (none)) (none)) (some y0) := by kernel_rfl
theorem laws_toWaitS_e (k : Nat) (a1 : List (Int × Int × Int × Int × Unit)) : laws_toWaitS k a1 =
  iteB (decide (0 ≤ ((List.length a1) : Int))) (iteB (decide (((List.length a1) : Int) ≤ ((List.length a1) : Int))) (iteB (decide (((List.length a1) : Int) * 32 ≤ (lim : Int))) (iteB (decide (((List.length a1) : Int) ≤ (lim : Int)) && true) (laws_toWaitS.l3 k k a1 0 (List.replicate (Int.toNat ((List.length a1) : Int)) (Ty.dflt (.pair (.int .i64) (.pair (.int .i64) (.pair (.int .i64) (.pair (.int .i64) .unit))))))) (none)) (none)) (none)) (none) := by kernel_rfl
theorem E_laws_toWaitS_calls (k : Nat) : CallsOk Tryz.prog (E_laws_toWaitS k) (arun Tryz.prog (E_laws_toWaitS k) k) := by
  refine told_run (tyTOk _ _) ?_ (fun run h => regOk (tyTOk _ _) mixOk h) ?_ nameOk k
  · intro g m hg
    simp only [E_laws_toWaitS] at hg
    split at hg
    · cases hg
      refine con_byVal fun ρ l K x hm => ?_
      split at hm
      · obtain ⟨c1, h1, hm⟩ := Option.bind_eq_some_iff.1 hm
        obtain ⟨r, hr, hm⟩ := Option.bind_eq_some_iff.1 hm
        exact ⟨_, hm, LawV.reads (.cons (.as h1) .nil) (laws_toWait_law k c1 r hr)⟩
      · cases hm
    · cases hg; exact noCon_ok
    · cases hg
  · intro g hg r
    by_cases h : g = 59
    · subst h; simp [E_laws_toWaitS] at hg
    · simp [E_laws_toWaitS, h]
theorem f59_oklaws_toWaitS : Tryz.prog.funcs[59]? = some Tryz.f59 := by kernel_rfl
theorem laws_toWaitS_law (k : Nat) (a1 : List (Int × Int × Int × Int × Unit)) (x : List (Int × Int × Int × Int × Unit)) (h : laws_toWaitS k a1 = some x) : LawV Tryz.prog 59 [.tv (.row (.pair (.int .i64) (.pair (.int .i64) (.pair (.int .i64) (.pair (.int .i64) .unit))))) a1] (tvn (.row (.pair (.int .i64) (.pair (.int .i64) (.pair (.int .i64) (.pair (.int .i64) .unit))))) x) := by
  unfold laws_toWaitS at h
  exact law1 (t := (.row (.pair (.int .i64) (.pair (.int .i64) (.pair (.int .i64) (.pair (.int .i64) .unit)))))) (tyTOk _ _) (E_laws_toWaitS_calls k) mixOk f59_oklaws_toWaitS (nameOk _ _ f59_oklaws_toWaitS) (by kernel_rfl) h
/-! laws.toChan -/
noncomputable def E_laws_toChan (k : Nat) : Env := ⟨ty, fun g => match g with
  | 18 => some (byVal fun ρ l K => match l with
    | [b1] => (b1.as (.row (.int .i64))).bind fun c1 => (laws_toIntS k c1).bind fun r => K (tvn (.row (.int .i64)) r)
    | _ => none)
  | 59 => some (byVal fun ρ l K => match l with
    | [b1] => (b1.as (.row (.pair (.int .i64) (.pair (.int .i64) (.pair (.int .i64) (.pair (.int .i64) .unit)))))).bind fun c1 => (laws_toWaitS k c1).bind fun r => K (tvn (.row (.pair (.int .i64) (.pair (.int .i64) (.pair (.int .i64) (.pair (.int .i64) .unit))))) r)
    | _ => none)
  | _ => none, fun _ _ => none⟩
noncomputable def laws_toChan (k : Nat) (a1 : Int × Bool × (List Int) × (List (Int × Int × Int × Int × Unit)) × (List (Int × Int × Int × Int × Unit)) × Unit) : Option (Int × Bool × (List Int) × (List (Int × Int × Int × Int × Unit)) × (List (Int × Int × Int × Int × Unit)) × Unit) :=
  abody (E_laws_toChan k) (arun Tryz.prog (E_laws_toChan k) k) k 37 Tryz.f37 [.tv (.pair (.int .i64) (.pair .bool (.pair (.row (.int .i64)) (.pair (.row (.pair (.int .i64) (.pair (.int .i64) (.pair (.int .i64) (.pair (.int .i64) .unit))))) (.pair (.row (.pair (.int .i64) (.pair (.int .i64) (.pair (.int .i64) (.pair (.int .i64) .unit))))) .unit))))) a1] [] (fin1 (.pair (.int .i64) (.pair .bool (.pair (.row (.int .i64)) (.pair (.row (.pair (.int .i64) (.pair (.int .i64) (.pair (.int .i64) (.pair (.int .i64) .unit))))) (.pair (.row (.pair (.int .i64) (.pair (.int .i64) (.pair (.int .i64) (.pair (.int .i64) .unit))))) .unit))))))
theorem laws_toChan_e (k : Nat) (a1 : Int × Bool × (List Int) × (List (Int × Int × Int × Int × Unit)) × (List (Int × Int × Int × Int × Unit)) × Unit) : laws_toChan k a1 =
  bindO (laws_toIntS k a1.2.2.1) fun r1 => (bindO (laws_toWaitS k a1.2.2.2.1) fun r2 => (bindO (laws_toWaitS k a1.2.2.2.2.1) fun r3 => (some (a1.1, a1.2.1, r1, r2, r3, ())))) := by kernel_rfl
theorem E_laws_toChan_calls (k : Nat) : CallsOk Tryz.prog (E_laws_toChan k) (arun Tryz.prog (E_laws_toChan k) k) := by
  refine told_run (tyTOk _ _) ?_ (fun run h => regOk (tyTOk _ _) mixOk h) ?_ nameOk k
  · intro g m hg
    simp only [E_laws_toChan] at hg
    split at hg
    · cases hg
      refine con_byVal fun ρ l K x hm => ?_
      split at hm
      · obtain ⟨c1, h1, hm⟩ := Option.bind_eq_some_iff.1 hm
        obtain ⟨r, hr, hm⟩ := Option.bind_eq_some_iff.1 hm
        exact ⟨_, hm, LawV.reads (.cons (.as h1) .nil) (laws_toIntS_law k c1 r hr)⟩
      · cases hm
    · cases hg
      refine con_byVal fun ρ l K x hm => ?_
      split at hm
      · obtain ⟨c1, h1, hm⟩ := Option.bind_eq_some_iff.1 hm
        obtain ⟨r, hr, hm⟩ := Option.bind_eq_some_iff.1 hm
        exact ⟨_, hm, LawV.reads (.cons (.as h1) .nil) (laws_toWaitS_law k c1 r hr)⟩
      · cases hm
    · cases hg
  · intro g _ r; rfl
theorem f37_oklaws_toChan : Tryz.prog.funcs[37]? = some Tryz.f37 := by kernel_rfl
theorem laws_toChan_law (k : Nat) (a1 : Int × Bool × (List Int) × (List (Int × Int × Int × Int × Unit)) × (List (Int × Int × Int × Int × Unit)) × Unit) (x : Int × Bool × (List Int) × (List (Int × Int × Int × Int × Unit)) × (List (Int × Int × Int × Int × Unit)) × Unit) (h : laws_toChan k a1 = some x) : LawV Tryz.prog 37 [.tv (.pair (.int .i64) (.pair .bool (.pair (.row (.int .i64)) (.pair (.row (.pair (.int .i64) (.pair (.int .i64) (.pair (.int .i64) (.pair (.int .i64) .unit))))) (.pair (.row (.pair (.int .i64) (.pair (.int .i64) (.pair (.int .i64) (.pair (.int .i64) .unit))))) .unit))))) a1] (tvn (.pair (.int .i64) (.pair .bool (.pair (.row (.int .i64)) (.pair (.row (.pair (.int .i64) (.pair (.int .i64) (.pair (.int .i64) (.pair (.int .i64) .unit))))) (.pair (.row (.pair (.int .i64) (.pair (.int .i64) (.pair (.int .i64) (.pair (.int .i64) .unit))))) .unit))))) x) := by
  unfold laws_toChan at h
  exact law1 (t := (.pair (.int .i64) (.pair .bool (.pair (.row (.int .i64)) (.pair (.row (.pair (.int .i64) (.pair (.int .i64) (.pair (.int .i64) (.pair (.int .i64) .unit))))) (.pair (.row (.pair (.int .i64) (.pair (.int .i64) (.pair (.int .i64) (.pair (.int .i64) .unit))))) .unit)))))) (tyTOk _ _) (E_laws_toChan_calls k) mixOk f37_oklaws_toChan (nameOk _ _ f37_oklaws_toChan) (by kernel_rfl) h
/-! laws.toChanS -/
noncomputable def E_laws_toChanS (k : Nat) : Env := ⟨ty, fun g => match g with
  | 37 => some (byVal fun ρ l K => match l with
    | [b1] => (b1.as (.pair (.int .i64) (.pair .bool (.pair (.row (.int .i64)) (.pair (.row (.pair (.int .i64) (.pair (.int .i64) (.pair (.int .i64) (.pair (.int .i64) .unit))))) (.pair (.row (.pair (.int .i64) (.pair (.int .i64) (.pair (.int .i64) (.pair (.int .i64) .unit))))) .unit)))))).bind fun c1 => (laws_toChan k c1).bind fun r => K (tvn (.pair (.int .i64) (.pair .bool (.pair (.row (.int .i64)) (.pair (.row (.pair (.int .i64) (.pair (.int .i64) (.pair (.int .i64) (.pair (.int .i64) .unit))))) (.pair (.row (.pair (.int .i64) (.pair (.int .i64) (.pair (.int .i64) (.pair (.int .i64) .unit))))) .unit))))) r)
    | _ => none)
  | 17 => some noCon
  | _ => none, fun f r => match f with | 17 => (match r with | 3 => some [0, 3, 4] | _ => none) | _ => none⟩
noncomputable def laws_toChanS (k : Nat) (a1 : List (Int × Bool × (List Int) × (List (Int × Int × Int × Int × Unit)) × (List (Int × Int × Int × Int × Unit)) × Unit)) : Option (List (Int × Bool × (List Int) × (List (Int × Int × Int × Int × Unit)) × (List (Int × Int × Int × Int × Unit)) × Unit)) :=
  abody (E_laws_toChanS k) (arun Tryz.prog (E_laws_toChanS k) k) k 17 Tryz.f17 [.tv (.row (.pair (.int .i64) (.pair .bool (.pair (.row (.int .i64)) (.pair (.row (.pair (.int .i64) (.pair (.int .i64) (.pair (.int .i64) (.pair (.int .i64) .unit))))) (.pair (.row (.pair (.int .i64) (.pair (.int .i64) (.pair (.int .i64) (.pair (.int .i64) .unit))))) .unit)))))) a1] [] (fin1 (.row (.pair (.int .i64) (.pair .bool (.pair (.row (.int .i64)) (.pair (.row (.pair (.int .i64) (.pair (.int .i64) (.pair (.int .i64) (.pair (.int .i64) .unit))))) (.pair (.row (.pair (.int .i64) (.pair (.int .i64) (.pair (.int .i64) (.pair (.int .i64) .unit))))) .unit)))))))
noncomputable def laws_toChanS.l3 (k n : Nat) (x0 : List (Int × Bool × (List Int) × (List (Int × Int × Int × Int × Unit)) × (List (Int × Int × Int × Int × Unit)) × Unit)) (x4 : Int) (y0 : List (Int × Bool × (List Int) × (List (Int × Int × Int × Int × Unit)) × (List (Int × Int × Int × Int × Unit)) × Unit)) : Option (List (Int × Bool × (List Int) × (List (Int × Int × Int × Int × Unit)) × (List (Int × Int × Int × Int × Unit)) × Unit)) :=
  resume (E_laws_toChanS k) 17 (acall (E_laws_toChanS k) (arun Tryz.prog (E_laws_toChanS k) k)) k [true, true, false, true, true] [n] (bodyOf Tryz.f17) ⟨[.tv (.row (.pair (.int .i64) (.pair .bool (.pair (.row (.int .i64)) (.pair (.row (.pair (.int .i64) (.pair (.int .i64) (.pair (.int .i64) (.pair (.int .i64) .unit))))) (.pair (.row (.pair (.int .i64) (.pair (.int .i64) (.pair (.int .i64) (.pair (.int .i64) .unit))))) .unit)))))) x0, .undef, .undef, .sl 0, .int .i64 x4, .undef, .undef, .undef, .undef, .undef, .undef, .undef, .undef, .undef, .undef, .undef, .undef, .undef, .undef, .undef, .undef, .undef, .undef], [some ⟨.typed (.pair (.int .i64) (.pair .bool (.pair (.row (.int .i64)) (.pair (.row (.pair (.int .i64) (.pair (.int .i64) (.pair (.int .i64) (.pair (.int .i64) .unit))))) (.pair (.row (.pair (.int .i64) (.pair (.int .i64) (.pair (.int .i64) (.pair (.int .i64) .unit))))) .unit))))) y0, false⟩]⟩ (leave (E_laws_toChanS k) Tryz.f17 (fin1 (.row (.pair (.int .i64) (.pair .bool (.pair (.row (.int .i64)) (.pair (.row (.pair (.int .i64) (.pair (.int .i64) (.pair (.int .i64) (.pair (.int .i64) .unit))))) (.pair (.row (.pair (.int .i64) (.pair (.int .i64) (.pair (.int .i64) (.pair (.int .i64) .unit))))) .unit))))))))
theorem laws_toChanS.l3_0 (k : Nat) (x0 : List (Int × Bool × (List Int) × (List (Int × Int × Int × Int × Unit)) × (List (Int × Int × Int × Int × Unit)) × Unit)) (x4 : Int) (y0 : List (Int × Bool × (List Int) × (List (Int × Int × Int × Int × Unit)) × (List (Int × Int × Int × Int × Unit)) × Unit)) : laws_toChanS.l3 k 0 x0 x4 y0 = none := by kernel_rfl
theorem laws_toChanS.l3_s (k n : Nat) (x0 : List (Int × Bool × (List Int) × (List (Int × Int × Int × Int × Unit)) × (List (Int × Int × Int × Int × Unit)) × Unit)) (x4 : Int) (y0 : List (Int × Bool × (List Int) × (List (Int × Int × Int × Int × Unit)) × (List (Int × Int × Int × Int × Unit)) × Unit)) : laws_toChanS.l3 k (n + 1) x0 x4 y0 =
  iteB (decide (x4 < ((List.length x0) : Int))) (iteB (decide (0 ≤ x4)) (iteB (decide (x4 < ((List.length x0) : Int))) (bindO (laws_toChan k (List.getD x0 (Int.toNat x4) (Ty.dflt (.pair (.int .i64) (.pair .bool (.pair (.row (.int .i64)) (.pair (.row (.pair (.int .i64) (.pair (.int .i64) (.pair (.int .i64) (.pair (.int .i64) .unit))))) (.pair (.row (.pair (.int .i64) (.pair (.int .i64) (.pair (.int .i64) (.pair (.int .i64) .unit))))) .unit)))))))) fun r1 => (iteB (decide (0 ≤ x4)) (iteB (decide (x4 < ((List.length y0) : Int))) (laws_toChanS.l3 k n x0 (IntKind.wrap .i64 (x4 + 1)) (List.set y0 (Int.toNat x4) r1)) (none)) (none))) (none)) (none)) (some y0) := by kernel_rfl
theorem laws_toChanS_e (k : Nat) (a1 : List (Int × Bool × (List Int) × (List (Int × Int × Int × Int × Unit)) × (List (Int × Int × Int × Int × Unit)) × Unit)) : laws_toChanS k a1 =
  iteB (decide (0 ≤ ((List.length a1) : Int))) (iteB (decide (((List.length a1) : Int) ≤ ((List.length a1) : Int))) (iteB (decide (((List.length a1) : Int) * 88 ≤ (lim : Int))) (iteB (decide (((List.length a1) : Int) ≤ (lim : Int)) && true) (laws_toChanS.l3 k k a1 0 (List.replicate (Int.toNat ((List.length a1) : Int)) (Ty.dflt (.pair (.int .i64) (.pair .bool (.pair (.row (.int .i64)) (.pair (.row (.pair (.int .i64) (.pair (.int .i64) (.pair (.int .i64) (.pair (.int .i64) .unit))))) (.pair (.row (.pair (.int .i64) (.pair (.int .i64) (.pair (.int .i64) (.pair (.int .i64) .unit))))) .unit)))))))) (none)) (none)) (none)) (none) := by kernel_rfl
theorem E_laws_toChanS_calls (k : Nat) : CallsOk Tryz.prog (E_laws_toChanS k) (arun Tryz.prog (E_laws_toChanS k) k) := by
  refine told_run (tyTOk _ _) ?_ (fun run h => regOk (tyTOk _ _) mixOk h) ?_ nameOk k
  · intro g m hg
    simp only [E_laws_toChanS] at hg
    split at hg
    · cases hg
      refine con_byVal fun ρ l K x hm => ?_
      split at hm
      · obtain ⟨c1, h1, hm⟩ := Option.bind_eq_some_iff.1 hm
        obtain ⟨r, hr, hm⟩ := Option.bind_eq_some_iff.1 hm
        exact ⟨_, hm, LawV.reads (.cons (.as h1) .nil) (laws_toChan_law k c1 r hr)⟩
      · cases hm
    · cases hg; exact noCon_ok
    · cases hg
  · intro g hg r
    by_cases h : g = 17
    · subst h; simp [E_laws_toChanS] at hg
    · simp [E_laws_toChanS, h]
theorem f17_oklaws_toChanS : Tryz.prog.funcs[17]? = some Tryz.f17 := by kernel_rfl
theorem laws_toChanS_law (k : Nat) (a1 : List (Int × Bool × (List Int) × (List (Int × Int × Int × Int × Unit)) × (List (Int × Int × Int × Int × Unit)) × Unit)) (x : List (Int × Bool × (List Int) × (List (Int × Int × Int × Int × Unit)) × (List (Int × Int × Int × Int × Unit)) × Unit)) (h : laws_toChanS k a1 = some x) : LawV Tryz.prog 17 [.tv (.row (.pair (.int .i64) (.pair .bool (.pair (.row (.int .i64)) (.pair (.row (.pair (.int .i64) (.pair (.int .i64) (.pair (.int .i64) (.pair (.int .i64) .unit))))) (.pair (.row (.pair (.int .i64) (.pair (.int .i64) (.pair (.int .i64) (.pair (.int .i64) .unit))))) .unit)))))) a1] (tvn (.row (.pair (.int .i64) (.pair .bool (.pair (.row (.int .i64)) (.pair (.row (.pair (.int .i64) (.pair (.int .i64) (.pair (.int .i64) (.pair (.int .i64) .unit))))) (.pair (.row (.pair (.int .i64) (.pair (.int .i64) (.pair (.int .i64) (.pair (.int .i64) .unit))))) .unit)))))) x) := by
  unfold laws_toChanS at h
  exact law1 (t := (.row (.pair (.int .i64) (.pair .bool (.pair (.row (.int .i64)) (.pair (.row (.pair (.int .i64) (.pair (.int .i64) (.pair (.int .i64) (.pair (.int .i64) .unit))))) (.pair (.row (.pair (.int .i64) (.pair (.int .i64) (.pair (.int .i64) (.pair (.int .i64) .unit))))) .unit))))))) (tyTOk _ _) (E_laws_toChanS_calls k) mixOk f17_oklaws_toChanS (nameOk _ _ f17_oklaws_toChanS) (by kernel_rfl) h
/-! laws.toWorld -/
noncomputable def E_laws_toWorld (k : Nat) : Env := ⟨ty, fun g => match g with
  | 15 => some (byVal fun ρ l K => match l with
    | [b1] => (b1.as (.row (.pair .str (.pair (.int .i64) (.pair (.int .i64) (.pair (.row (.pair (.int .i64) (.pair (.int .i64) (.pair (.int .i64) (.pair (.int .i64) (.pair (.int .i64) (.pair .str (.pair (.row (.int .i64)) .unit)))))))) .unit)))))).bind fun c1 => (laws_toUnitS k c1).bind fun r => K (tvn (.row (.pair .str (.pair (.int .i64) (.pair (.int .i64) (.pair (.row (.pair (.int .i64) (.pair (.int .i64) (.pair (.int .i64) (.pair (.int .i64) (.pair (.int .i64) (.pair .str (.pair (.row (.int .i64)) .unit)))))))) .unit))))) r)
    | _ => none)
  | 16 => some (byVal fun ρ l K => match l with
    | [b1] => (b1.as (.row (.pair (.row (.pair (.int .i64) (.pair (.int .i64) (.pair (.row (.int .i64)) (.pair (.int .i64) .unit))))) (.pair .bool (.pair .bool (.pair (.int .i64) (.pair (.int .i64) (.pair (.int .i64) (.pair (.int .i64) (.pair (.int .i64) .unit)))))))))).bind fun c1 => (laws_toBodyS k c1).bind fun r => K (tvn (.row (.pair (.row (.pair (.int .i64) (.pair (.int .i64) (.pair (.row (.int .i64)) (.pair (.int .i64) .unit))))) (.pair .bool (.pair .bool (.pair (.int .i64) (.pair (.int .i64) (.pair (.int .i64) (.pair (.int .i64) (.pair (.int .i64) .unit))))))))) r)
    | _ => none)
  | 17 => some (byVal fun ρ l K => match l with
    | [b1] => (b1.as (.row (.pair (.int .i64) (.pair .bool (.pair (.row (.int .i64)) (.pair (.row (.pair (.int .i64) (.pair (.int .i64) (.pair (.int .i64) (.pair (.int .i64) .unit))))) (.pair (.row (.pair (.int .i64) (.pair (.int .i64) (.pair (.int .i64) (.pair (.int .i64) .unit))))) .unit))))))).bind fun c1 => (laws_toChanS k c1).bind fun r => K (tvn (.row (.pair (.int .i64) (.pair .bool (.pair (.row (.int .i64)) (.pair (.row (.pair (.int .i64) (.pair (.int .i64) (.pair (.int .i64) (.pair (.int .i64) .unit))))) (.pair (.row (.pair (.int .i64) (.pair (.int .i64) (.pair (.int .i64) (.pair (.int .i64) .unit))))) .unit)))))) r)
    | _ => none)
  | 18 => some (byVal fun ρ l K => match l with
    | [b1] => (b1.as (.row (.int .i64))).bind fun c1 => (laws_toIntS k c1).bind fun r => K (tvn (.row (.int .i64)) r)
    | _ => none)
  | _ => none, fun _ _ => none⟩
noncomputable def laws_toWorld (k : Nat) (a1 : (List (ByteArray × Int × Int × (List (Int × Int × Int × Int × Int × ByteArray × (List Int) × Unit)) × Unit)) × (List ((List (Int × Int × (List Int) × Int × Unit)) × Bool × Bool × Int × Int × Int × Int × Int × Unit)) × (List (Int × Bool × (List Int) × (List (Int × Int × Int × Int × Unit)) × (List (Int × Int × Int × Int × Unit)) × Unit)) × (List Int) × Bool × Int × Unit) : Option ((List (ByteArray × Int × Int × (List (Int × Int × Int × Int × Int × ByteArray × (List Int) × Unit)) × Unit)) × (List ((List (Int × Int × (List Int) × Int × Unit)) × Bool × Bool × Int × Int × Int × Int × Int × Unit)) × (List (Int × Bool × (List Int) × (List (Int × Int × Int × Int × Unit)) × (List (Int × Int × Int × Int × Unit)) × Unit)) × (List Int) × Bool × Int × Unit) :=
  abody (E_laws_toWorld k) (arun Tryz.prog (E_laws_toWorld k) k) k 6 Tryz.f6 [.tv (.pair (.row (.pair .str (.pair (.int .i64) (.pair (.int .i64) (.pair (.row (.pair (.int .i64) (.pair (.int .i64) (.pair (.int .i64) (.pair (.int .i64) (.pair (.int .i64) (.pair .str (.pair (.row (.int .i64)) .unit)))))))) .unit))))) (.pair (.row (.pair (.row (.pair (.int .i64) (.pair (.int .i64) (.pair (.row (.int .i64)) (.pair (.int .i64) .unit))))) (.pair .bool (.pair .bool (.pair (.int .i64) (.pair (.int .i64) (.pair (.int .i64) (.pair (.int .i64) (.pair (.int .i64) .unit))))))))) (.pair (.row (.pair (.int .i64) (.pair .bool (.pair (.row (.int .i64)) (.pair (.row (.pair (.int .i64) (.pair (.int .i64) (.pair (.int .i64) (.pair (.int .i64) .unit))))) (.pair (.row (.pair (.int .i64) (.pair (.int .i64) (.pair (.int .i64) (.pair (.int .i64) .unit))))) .unit)))))) (.pair (.row (.int .i64)) (.pair .bool (.pair (.int .i64) .unit)))))) a1] [] (fin1 (.pair (.row (.pair .str (.pair (.int .i64) (.pair (.int .i64) (.pair (.row (.pair (.int .i64) (.pair (.int .i64) (.pair (.int .i64) (.pair (.int .i64) (.pair (.int .i64) (.pair .str (.pair (.row (.int .i64)) .unit)))))))) .unit))))) (.pair (.row (.pair (.row (.pair (.int .i64) (.pair (.int .i64) (.pair (.row (.int .i64)) (.pair (.int .i64) .unit))))) (.pair .bool (.pair .bool (.pair (.int .i64) (.pair (.int .i64) (.pair (.int .i64) (.pair (.int .i64) (.pair (.int .i64) .unit))))))))) (.pair (.row (.pair (.int .i64) (.pair .bool (.pair (.row (.int .i64)) (.pair (.row (.pair (.int .i64) (.pair (.int .i64) (.pair (.int .i64) (.pair (.int .i64) .unit))))) (.pair (.row (.pair (.int .i64) (.pair (.int .i64) (.pair (.int .i64) (.pair (.int .i64) .unit))))) .unit)))))) (.pair (.row (.int .i64)) (.pair .bool (.pair (.int .i64) .unit)))))))
theorem laws_toWorld_e (k : Nat) (a1 : (List (ByteArray × Int × Int × (List (Int × Int × Int × Int × Int × ByteArray × (List Int) × Unit)) × Unit)) × (List ((List (Int × Int × (List Int) × Int × Unit)) × Bool × Bool × Int × Int × Int × Int × Int × Unit)) × (List (Int × Bool × (List Int) × (List (Int × Int × Int × Int × Unit)) × (List (Int × Int × Int × Int × Unit)) × Unit)) × (List Int) × Bool × Int × Unit) : laws_toWorld k a1 =
  bindO (laws_toUnitS k a1.1) fun r1 => (bindO (laws_toBodyS k a1.2.1) fun r2 => (bindO (laws_toChanS k a1.2.2.1) fun r3 => (bindO (laws_toIntS k a1.2.2.2.1) fun r4 => (some (r1, r2, r3, r4, a1.2.2.2.2.1, a1.2.2.2.2.2.1, ()))))) := by kernel_rfl
theorem E_laws_toWorld_calls (k : Nat) : CallsOk Tryz.prog (E_laws_toWorld k) (arun Tryz.prog (E_laws_toWorld k) k) := by
  refine told_run (tyTOk _ _) ?_ (fun run h => regOk (tyTOk _ _) mixOk h) ?_ nameOk k
  · intro g m hg
    simp only [E_laws_toWorld] at hg
    split at hg
    · cases hg
      refine con_byVal fun ρ l K x hm => ?_
      split at hm
      · obtain ⟨c1, h1, hm⟩ := Option.bind_eq_some_iff.1 hm
        obtain ⟨r, hr, hm⟩ := Option.bind_eq_some_iff.1 hm
        exact ⟨_, hm, LawV.reads (.cons (.as h1) .nil) (laws_toUnitS_law k c1 r hr)⟩
      · cases hm
    · cases hg
      refine con_byVal fun ρ l K x hm => ?_
      split at hm
      · obtain ⟨c1, h1, hm⟩ := Option.bind_eq_some_iff.1 hm
        obtain ⟨r, hr, hm⟩ := Option.bind_eq_some_iff.1 hm
        exact ⟨_, hm, LawV.reads (.cons (.as h1) .nil) (laws_toBodyS_law k c1 r hr)⟩
      · cases hm
    · cases hg
      refine con_byVal fun ρ l K x hm => ?_
      split at hm
      · obtain ⟨c1, h1, hm⟩ := Option.bind_eq_some_iff.1 hm
        obtain ⟨r, hr, hm⟩ := Option.bind_eq_some_iff.1 hm
        exact ⟨_, hm, LawV.reads (.cons (.as h1) .nil) (laws_toChanS_law k c1 r hr)⟩
      · cases hm
    · cases hg
      refine con_byVal fun ρ l K x hm => ?_
      split at hm
      · obtain ⟨c1, h1, hm⟩ := Option.bind_eq_some_iff.1 hm
        obtain ⟨r, hr, hm⟩ := Option.bind_eq_some_iff.1 hm
        exact ⟨_, hm, LawV.reads (.cons (.as h1) .nil) (laws_toIntS_law k c1 r hr)⟩
      · cases hm
    · cases hg
  · intro g _ r; rfl
theorem f6_oklaws_toWorld : Tryz.prog.funcs[6]? = some Tryz.f6 := by kernel_rfl
theorem laws_toWorld_law (k : Nat) (a1 : (List (ByteArray × Int × Int × (List (Int × Int × Int × Int × Int × ByteArray × (List Int) × Unit)) × Unit)) × (List ((List (Int × Int × (List Int) × Int × Unit)) × Bool × Bool × Int × Int × Int × Int × Int × Unit)) × (List (Int × Bool × (List Int) × (List (Int × Int × Int × Int × Unit)) × (List (Int × Int × Int × Int × Unit)) × Unit)) × (List Int) × Bool × Int × Unit) (x : (List (ByteArray × Int × Int × (List (Int × Int × Int × Int × Int × ByteArray × (List Int) × Unit)) × Unit)) × (List ((List (Int × Int × (List Int) × Int × Unit)) × Bool × Bool × Int × Int × Int × Int × Int × Unit)) × (List (Int × Bool × (List Int) × (List (Int × Int × Int × Int × Unit)) × (List (Int × Int × Int × Int × Unit)) × Unit)) × (List Int) × Bool × Int × Unit) (h : laws_toWorld k a1 = some x) : LawV Tryz.prog 6 [.tv (.pair (.row (.pair .str (.pair (.int .i64) (.pair (.int .i64) (.pair (.row (.pair (.int .i64) (.pair (.int .i64) (.pair (.int .i64) (.pair (.int .i64) (.pair (.int .i64) (.pair .str (.pair (.row (.int .i64)) .unit)))))))) .unit))))) (.pair (.row (.pair (.row (.pair (.int .i64) (.pair (.int .i64) (.pair (.row (.int .i64)) (.pair (.int .i64) .unit))))) (.pair .bool (.pair .bool (.pair (.int .i64) (.pair (.int .i64) (.pair (.int .i64) (.pair (.int .i64) (.pair (.int .i64) .unit))))))))) (.pair (.row (.pair (.int .i64) (.pair .bool (.pair (.row (.int .i64)) (.pair (.row (.pair (.int .i64) (.pair (.int .i64) (.pair (.int .i64) (.pair (.int .i64) .unit))))) (.pair (.row (.pair (.int .i64) (.pair (.int .i64) (.pair (.int .i64) (.pair (.int .i64) .unit))))) .unit)))))) (.pair (.row (.int .i64)) (.pair .bool (.pair (.int .i64) .unit)))))) a1] (tvn (.pair (.row (.pair .str (.pair (.int .i64) (.pair (.int .i64) (.pair (.row (.pair (.int .i64) (.pair (.int .i64) (.pair (.int .i64) (.pair (.int .i64) (.pair (.int .i64) (.pair .str (.pair (.row (.int .i64)) .unit)))))))) .unit))))) (.pair (.row (.pair (.row (.pair (.int .i64) (.pair (.int .i64) (.pair (.row (.int .i64)) (.pair (.int .i64) .unit))))) (.pair .bool (.pair .bool (.pair (.int .i64) (.pair (.int .i64) (.pair (.int .i64) (.pair (.int .i64) (.pair (.int .i64) .unit))))))))) (.pair (.row (.pair (.int .i64) (.pair .bool (.pair (.row (.int .i64)) (.pair (.row (.pair (.int .i64) (.pair (.int .i64) (.pair (.int .i64) (.pair (.int .i64) .unit))))) (.pair (.row (.pair (.int .i64) (.pair (.int .i64) (.pair (.int .i64) (.pair (.int .i64) .unit))))) .unit)))))) (.pair (.row (.int .i64)) (.pair .bool (.pair (.int .i64) .unit)))))) x) := by
  unfold laws_toWorld at h
  exact law1 (t := (.pair (.row (.pair .str (.pair (.int .i64) (.pair (.int .i64) (.pair (.row (.pair (.int .i64) (.pair (.int .i64) (.pair (.int .i64) (.pair (.int .i64) (.pair (.int .i64) (.pair .str (.pair (.row (.int .i64)) .unit)))))))) .unit))))) (.pair (.row (.pair (.row (.pair (.int .i64) (.pair (.int .i64) (.pair (.row (.int .i64)) (.pair (.int .i64) .unit))))) (.pair .bool (.pair .bool (.pair (.int .i64) (.pair (.int .i64) (.pair (.int .i64) (.pair (.int .i64) (.pair (.int .i64) .unit))))))))) (.pair (.row (.pair (.int .i64) (.pair .bool (.pair (.row (.int .i64)) (.pair (.row (.pair (.int .i64) (.pair (.int .i64) (.pair (.int .i64) (.pair (.int .i64) .unit))))) (.pair (.row (.pair (.int .i64) (.pair (.int .i64) (.pair (.int .i64) (.pair (.int .i64) .unit))))) .unit)))))) (.pair (.row (.int .i64)) (.pair .bool (.pair (.int .i64) .unit))))))) (tyTOk _ _) (E_laws_toWorld_calls k) mixOk f6_oklaws_toWorld (nameOk _ _ f6_oklaws_toWorld) (by kernel_rfl) h
/-! spec.l1In -/
noncomputable def E_spec_l1In (k : Nat) : Env := ⟨ty, fun _ => none, fun _ _ => none⟩
noncomputable def spec_l1In (k : Nat) (a1 : Int) (a2 : Int) (a3 : Int) : Option (Bool) :=
  abody (E_spec_l1In k) (arun Tryz.prog (E_spec_l1In k) k) k 29 Tryz.f29 [.int .i64 a1, .int .i64 a2, .int .i64 a3] [] (fin1 .bool)
theorem spec_l1In_e (k : Nat) (a1 : Int) (a2 : Int) (a3 : Int) : spec_l1In k a1 a2 a3 =
  iteB (decide (a1 ≥ a2)) (some (decide (a1 ≤ a3))) (some false) := by kernel_rfl
theorem E_spec_l1In_calls (k : Nat) : CallsOk Tryz.prog (E_spec_l1In k) (arun Tryz.prog (E_spec_l1In k) k) := by
  refine told_run (tyTOk _ _) ?_ (fun run h => regOk (tyTOk _ _) mixOk h) ?_ nameOk k
  · intro g m hg
    cases hg
  · intro g _ r; rfl
theorem f29_okspec_l1In : Tryz.prog.funcs[29]? = some Tryz.f29 := by kernel_rfl
theorem spec_l1In_law (k : Nat) (a1 : Int) (a2 : Int) (a3 : Int) (x : Bool) (h : spec_l1In k a1 a2 a3 = some x) : LawV Tryz.prog 29 [.int .i64 a1, .int .i64 a2, .int .i64 a3] (tvn .bool x) := by
  unfold spec_l1In at h
  exact law1 (t := .bool) (tyTOk _ _) (E_spec_l1In_calls k) mixOk f29_okspec_l1In (nameOk _ _ f29_okspec_l1In) (by kernel_rfl) h
/-! spec.l1Min -/
noncomputable def E_spec_l1Min (k : Nat) : Env := ⟨ty, fun _ => none, fun _ _ => none⟩
noncomputable def spec_l1Min (k : Nat) (a1 : Int) (a2 : Int) : Option (Int) :=
  abody (E_spec_l1Min k) (arun Tryz.prog (E_spec_l1Min k) k) k 77 Tryz.f77 [.int .i64 a1, .int .i64 a2] [] (fin1 (.int .i64))
theorem spec_l1Min_e (k : Nat) (a1 : Int) (a2 : Int) : spec_l1Min k a1 a2 =
  iteB (decide (a1 < a2)) (some a1) (some a2) := by kernel_rfl
theorem E_spec_l1Min_calls (k : Nat) : CallsOk Tryz.prog (E_spec_l1Min k) (arun Tryz.prog (E_spec_l1Min k) k) := by
  refine told_run (tyTOk _ _) ?_ (fun run h => regOk (tyTOk _ _) mixOk h) ?_ nameOk k
  · intro g m hg
    cases hg
  · intro g _ r; rfl
theorem f77_okspec_l1Min : Tryz.prog.funcs[77]? = some Tryz.f77 := by kernel_rfl
theorem spec_l1Min_law (k : Nat) (a1 : Int) (a2 : Int) (x : Int) (h : spec_l1Min k a1 a2 = some x) : LawV Tryz.prog 77 [.int .i64 a1, .int .i64 a2] (tvn (.int .i64) x) := by
  unfold spec_l1Min at h
  exact law1 (t := (.int .i64)) (tyTOk _ _) (E_spec_l1Min_calls k) mixOk f77_okspec_l1Min (nameOk _ _ f77_okspec_l1Min) (by kernel_rfl) h
/-! spec.l10Has -/
noncomputable def E_spec_l10Has (k : Nat) : Env := ⟨ty, fun g => match g with
  | 29 => some (byVal fun ρ l K => match l with
    | [b1, b2, b3] => (b1.as (.int .i64)).bind fun c1 => (b2.as (.int .i64)).bind fun c2 => (b3.as (.int .i64)).bind fun c3 => (spec_l1In k c1 c2 c3).bind fun r => K (tvn .bool r)
    | _ => none)
  | _ => none, fun _ _ => none⟩
noncomputable def spec_l10Has (k : Nat) (a1 : Int) : Option (Int) :=
  abody (E_spec_l10Has k) (arun Tryz.prog (E_spec_l10Has k) k) k 97 Tryz.f97 [.int .i64 a1] [] (fin1 (.int .i64))
theorem spec_l10Has_e (k : Nat) (a1 : Int) : spec_l10Has k a1 =
  bindO (spec_l1In k a1 1 28) fun r1 => (iteB (!r1) (some 0) (iteB (decide (0 ≤ a1)) (iteB (decide (a1 < ((List.length [0, 9, 3, 7, 7, 7, 7, 7, 8, 8, 10, 49, 2, 2, 48, 3, 6, 3, 2, 45, 3, 6, 39, 1, 17, 2, 6, 6, 2]) : Int))) (some (List.getD [0, 9, 3, 7, 7, 7, 7, 7, 8, 8, 10, 49, 2, 2, 48, 3, 6, 3, 2, 45, 3, 6, 39, 1, 17, 2, 6, 6, 2] (Int.toNat a1) 0)) (none)) (none))) := by kernel_rfl
theorem E_spec_l10Has_calls (k : Nat) : CallsOk Tryz.prog (E_spec_l10Has k) (arun Tryz.prog (E_spec_l10Has k) k) := by
  refine told_run (tyTOk _ _) ?_ (fun run h => regOk (tyTOk _ _) mixOk h) ?_ nameOk k
  · intro g m hg
    simp only [E_spec_l10Has] at hg
    split at hg
    · cases hg
      refine con_byVal fun ρ l K x hm => ?_
      split at hm
      · obtain ⟨c1, h1, hm⟩ := Option.bind_eq_some_iff.1 hm
        obtain ⟨c2, h2, hm⟩ := Option.bind_eq_some_iff.1 hm
        obtain ⟨c3, h3, hm⟩ := Option.bind_eq_some_iff.1 hm
        obtain ⟨r, hr, hm⟩ := Option.bind_eq_some_iff.1 hm
        exact ⟨_, hm, LawV.reads (.cons (.as h1) (.cons (.as h2) (.cons (.as h3) .nil))) (spec_l1In_law k c1 c2 c3 r hr)⟩
      · cases hm
    · cases hg
  · intro g _ r; rfl
theorem f97_okspec_l10Has : Tryz.prog.funcs[97]? = some Tryz.f97 := by kernel_rfl
theorem spec_l10Has_law (k : Nat) (a1 : Int) (x : Int) (h : spec_l10Has k a1 = some x) : LawV Tryz.prog 97 [.int .i64 a1] (tvn (.int .i64) x) := by
  unfold spec_l10Has at h
  exact law1 (t := (.int .i64)) (tyTOk _ _) (E_spec_l10Has_calls k) mixOk f97_okspec_l10Has (nameOk _ _ f97_okspec_l10Has) (by kernel_rfl) h
/-! spec.l10Args -/
noncomputable def E_spec_l10Args (k : Nat) : Env := ⟨ty, fun g => match g with
  | 29 => some (byVal fun ρ l K => match l with
    | [b1, b2, b3] => (b1.as (.int .i64)).bind fun c1 => (b2.as (.int .i64)).bind fun c2 => (b3.as (.int .i64)).bind fun c3 => (spec_l1In k c1 c2 c3).bind fun r => K (tvn .bool r)
    | _ => none)
  | 98 => some noCon
  | _ => none, fun f r => match f with | 98 => (match r with | 5 => some [1, 3, 4] | _ => none) | _ => none⟩
noncomputable def spec_l10Args (k : Nat) (a1 : Int × Int × Int × Int × Int × ByteArray × (List Int) × Unit) : Option (Bool) :=
  abody (E_spec_l10Args k) (arun Tryz.prog (E_spec_l10Args k) k) k 98 Tryz.f98 [.tv (.pair (.int .i64) (.pair (.int .i64) (.pair (.int .i64) (.pair (.int .i64) (.pair (.int .i64) (.pair .str (.pair (.row (.int .i64)) .unit))))))) a1] [] (fin1 .bool)
noncomputable def spec_l10Args.l5 (k n : Nat) (x3 : Int) (x4 : Int) (y0_0 : Int × Int × Int × Int × Int × ByteArray × (List Int) × Unit) : Option (Bool) :=
  resume (E_spec_l10Args k) 98 (acall (E_spec_l10Args k) (arun Tryz.prog (E_spec_l10Args k) k)) k [true, true, false, true, true, true, false, false, true, true] [n] (bodyOf Tryz.f98) ⟨[.undef, .ptr 0 0 0, .undef, .int .i64 x3, .int .i64 x4, .undef, .undef, .undef, .undef, .undef, .undef, .undef, .undef, .undef, .undef, .undef, .undef, .undef, .undef, .undef, .undef, .undef, .undef, .undef, .undef, .undef, .undef, .undef, .undef, .undef, .undef, .undef, .undef, .undef, .undef, .undef, .undef, .undef, .undef, .undef, .undef, .undef, .undef, .undef, .undef, .undef, .undef, .undef, .undef, .undef, .undef, .undef, .undef, .undef, .undef, .undef, .undef, .undef, .undef, .undef, .undef, .undef, .undef, .undef, .undef, .undef, .undef, .undef], [some ⟨.raw true 7 (.agg [.int .i64 0, .int .i64 0, .int .i64 0, .int .i64 0, .int .i64 0, .str ByteArray.empty, .nils]) [.tv (.pair (.int .i64) (.pair (.int .i64) (.pair (.int .i64) (.pair (.int .i64) (.pair (.int .i64) (.pair .str (.pair (.row (.int .i64)) .unit))))))) y0_0], true⟩]⟩ (leave (E_spec_l10Args k) Tryz.f98 (fin1 .bool))
theorem spec_l10Args.l5_0 (k : Nat) (x3 : Int) (x4 : Int) (y0_0 : Int × Int × Int × Int × Int × ByteArray × (List Int) × Unit) : spec_l10Args.l5 k 0 x3 x4 y0_0 = none := by kernel_rfl
theorem spec_l10Args.l5_s (k n : Nat) (x3 : Int) (x4 : Int) (y0_0 : Int × Int × Int × Int × Int × ByteArray × (List Int) × Unit) : spec_l10Args.l5 k (n + 1) x3 x4 y0_0 =
  iteB (decide (x4 < x3)) (iteB (decide (0 ≤ x4)) (iteB (decide (x4 < ((List.length y0_0.2.2.2.2.2.2.1) : Int))) (bindO (spec_l1In k (List.getD y0_0.2.2.2.2.2.2.1 (Int.toNat x4) 0) 1 2) fun r1 => (iteB (!(!r1)) (iteB (decide (IntKind.wrap .i64 (x4 + 2) < x3)) (iteB (decide (0 ≤ x4)) (iteB (decide (x4 < ((List.length y0_0.2.2.2.2.2.2.1) : Int))) (iteB ((List.getD y0_0.2.2.2.2.2.2.1 (Int.toNat x4) 0) == 1) (iteB (decide (0 ≤ IntKind.wrap .i64 (x4 + 2))) (iteB (decide (IntKind.wrap .i64 (x4 + 2) < ((List.length y0_0.2.2.2.2.2.2.1) : Int))) (iteB ((List.getD y0_0.2.2.2.2.2.2.1 (Int.toNat (IntKind.wrap .i64 (x4 + 2))) 0) != 0) (some false) (spec_l10Args.l5 k n x3 (IntKind.wrap .i64 (x4 + 3)) y0_0)) (none)) (none)) (spec_l10Args.l5 k n x3 (IntKind.wrap .i64 (x4 + 3)) y0_0)) (none)) (none)) (spec_l10Args.l5 k n x3 (IntKind.wrap .i64 (x4 + 3)) y0_0)) (some false))) (none)) (none)) (iteB (!(x3 == 3)) (iteB (!(x3 == 6)) (some (x3 == 9)) (some true)) (some true)) := by kernel_rfl
theorem spec_l10Args_e (k : Nat) (a1 : Int × Int × Int × Int × Int × ByteArray × (List Int) × Unit) : spec_l10Args k a1 =
  iteB (a1.1 == 19) (spec_l10Args.l5 k k ((List.length a1.2.2.2.2.2.2.1) : Int) 0 a1) (iteB (a1.1 == 22) (some (((List.length a1.2.2.2.2.2.2.1) : Int) == 1)) (iteB (a1.1 == 11) (some (decide (((List.length a1.2.2.2.2.2.2.1) : Int) ≤ 4))) (iteB (a1.1 == 14) (some (decide (((List.length a1.2.2.2.2.2.2.1) : Int) ≤ 4))) (some (((List.length a1.2.2.2.2.2.2.1) : Int) == 0))))) := by kernel_rfl
theorem E_spec_l10Args_calls (k : Nat) : CallsOk Tryz.prog (E_spec_l10Args k) (arun Tryz.prog (E_spec_l10Args k) k) := by
  refine told_run (tyTOk _ _) ?_ (fun run h => regOk (tyTOk _ _) mixOk h) ?_ nameOk k
  · intro g m hg
    simp only [E_spec_l10Args] at hg
    split at hg
    · cases hg
      refine con_byVal fun ρ l K x hm => ?_
      split at hm
      · obtain ⟨c1, h1, hm⟩ := Option.bind_eq_some_iff.1 hm
        obtain ⟨c2, h2, hm⟩ := Option.bind_eq_some_iff.1 hm
        obtain ⟨c3, h3, hm⟩ := Option.bind_eq_some_iff.1 hm
        obtain ⟨r, hr, hm⟩ := Option.bind_eq_some_iff.1 hm
        exact ⟨_, hm, LawV.reads (.cons (.as h1) (.cons (.as h2) (.cons (.as h3) .nil))) (spec_l1In_law k c1 c2 c3 r hr)⟩
      · cases hm
    · cases hg; exact noCon_ok
    · cases hg
  · intro g hg r
    by_cases h : g = 98
    · subst h; simp [E_spec_l10Args] at hg
    · simp [E_spec_l10Args, h]
theorem f98_okspec_l10Args : Tryz.prog.funcs[98]? = some Tryz.f98 := by kernel_rfl
theorem spec_l10Args_law (k : Nat) (a1 : Int × Int × Int × Int × Int × ByteArray × (List Int) × Unit) (x : Bool) (h : spec_l10Args k a1 = some x) : LawV Tryz.prog 98 [.tv (.pair (.int .i64) (.pair (.int .i64) (.pair (.int .i64) (.pair (.int .i64) (.pair (.int .i64) (.pair .str (.pair (.row (.int .i64)) .unit))))))) a1] (tvn .bool x) := by
  unfold spec_l10Args at h
  exact law1 (t := .bool) (tyTOk _ _) (E_spec_l10Args_calls k) mixOk f98_okspec_l10Args (nameOk _ _ f98_okspec_l10Args) (by kernel_rfl) h
/-! spec.Sets -/
noncomputable def E_spec_Sets (k : Nat) : Env := ⟨ty, fun g => match g with
  | 97 => some (byVal fun ρ l K => match l with
    | [b1] => (b1.as (.int .i64)).bind fun c1 => (spec_l10Has k c1).bind fun r => K (tvn (.int .i64) r)
    | _ => none)
  | 108 => some noCon
  | _ => none, fun f r => match f with | 108 => (match r with | 4 => some [1, 3] | _ => none) | _ => none⟩
noncomputable def spec_Sets (k : Nat) (a1 : Int × Int × Int × Int × Int × ByteArray × (List Int) × Unit) : Option (List Int) :=
  abody (E_spec_Sets k) (arun Tryz.prog (E_spec_Sets k) k) k 108 Tryz.f108 [.tv (.pair (.int .i64) (.pair (.int .i64) (.pair (.int .i64) (.pair (.int .i64) (.pair (.int .i64) (.pair .str (.pair (.row (.int .i64)) .unit))))))) a1] [] (finF (.int .i64))
noncomputable def spec_Sets.j4 (k : Nat) (y0_0 : Int × Int × Int × Int × Int × ByteArray × (List Int) × Unit) (y1 : List Int) : Option (List Int) :=
  resume (E_spec_Sets k) 108 (acall (E_spec_Sets k) (arun Tryz.prog (E_spec_Sets k) k)) k [true, true, true] [] (bodyOf Tryz.f108) ⟨[.undef, .ptr 0 0 0, .undef, .sl 1, .undef, .undef, .undef, .undef, .undef, .undef, .undef, .undef, .undef, .undef, .undef, .undef, .undef, .undef, .undef, .undef, .undef, .undef, .undef, .undef], [some ⟨.raw true 7 (.agg [.int .i64 0, .int .i64 0, .int .i64 0, .int .i64 0, .int .i64 0, .str ByteArray.empty, .nils]) [.tv (.pair (.int .i64) (.pair (.int .i64) (.pair (.int .i64) (.pair (.int .i64) (.pair (.int .i64) (.pair .str (.pair (.row (.int .i64)) .unit))))))) y0_0], true⟩, some ⟨.typed (.int .i64) y1, false⟩]⟩ (leave (E_spec_Sets k) Tryz.f108 (finF (.int .i64)))
noncomputable def spec_Sets.j4b (k : Nat) (y0_0 : Int × Int × Int × Int × Int × ByteArray × (List Int) × Unit) : Option (List Int) :=
  resume (E_spec_Sets k) 108 (acall (E_spec_Sets k) (arun Tryz.prog (E_spec_Sets k) k)) k [true, true, true] [] (bodyOf Tryz.f108) ⟨[.undef, .ptr 0 0 0, .undef, .sl 1, .undef, .undef, .undef, .undef, .undef, .undef, .undef, .undef, .undef, .undef, .undef, .undef, .undef, .undef, .undef, .undef, .undef, .undef, .undef, .undef], [some ⟨.raw true 7 (.agg [.int .i64 0, .int .i64 0, .int .i64 0, .int .i64 0, .int .i64 0, .str ByteArray.empty, .nils]) [.tv (.pair (.int .i64) (.pair (.int .i64) (.pair (.int .i64) (.pair (.int .i64) (.pair (.int .i64) (.pair .str (.pair (.row (.int .i64)) .unit))))))) y0_0], true⟩, some ⟨.typed (.int .i64) [], true⟩]⟩ (leave (E_spec_Sets k) Tryz.f108 (finF (.int .i64)))
theorem spec_Sets.j4_e (k : Nat) (y0_0 : Int × Int × Int × Int × Int × ByteArray × (List Int) × Unit) (y1 : List Int) : spec_Sets.j4 k y0_0 y1 =
  iteB (y0_0.1 == 19) (iteB (decide ((List.length (y1 ++ [y0_0.2.2.2.1])) * 8 ≤ lim)) (some (y1 ++ [y0_0.2.2.2.1])) (none)) (some y1) := by kernel_rfl
theorem spec_Sets.j4b_e (k : Nat) (y0_0 : Int × Int × Int × Int × Int × ByteArray × (List Int) × Unit) : spec_Sets.j4b k y0_0 =
  iteB (y0_0.1 == 19) (iteB (decide ((List.length ([] ++ [y0_0.2.2.2.1])) * 8 ≤ lim)) (some ([] ++ [y0_0.2.2.2.1])) (none)) (some []) := by kernel_rfl
theorem spec_Sets_e (k : Nat) (a1 : Int × Int × Int × Int × Int × ByteArray × (List Int) × Unit) : spec_Sets k a1 =
  bindO (spec_l10Has k a1.1) fun r1 => (iteB ((IntKind.wrap .i64 ((BitVec.ofInt (IntKind.bits .i64) r1 &&& BitVec.ofInt (IntKind.bits .i64) 1).toNat : Int)) != 0) (iteB (decide ((List.length ([] ++ [a1.2.1])) * 8 ≤ lim)) (gate k (spec_Sets.j4 k a1 ([] ++ [a1.2.1]))) (none)) (gate k (spec_Sets.j4b k a1))) := by kernel_rfl
theorem E_spec_Sets_calls (k : Nat) : CallsOk Tryz.prog (E_spec_Sets k) (arun Tryz.prog (E_spec_Sets k) k) := by
  refine told_run (tyTOk _ _) ?_ (fun run h => regOk (tyTOk _ _) mixOk h) ?_ nameOk k
  · intro g m hg
    simp only [E_spec_Sets] at hg
    split at hg
    · cases hg
      refine con_byVal fun ρ l K x hm => ?_
      split at hm
      · obtain ⟨c1, h1, hm⟩ := Option.bind_eq_some_iff.1 hm
        obtain ⟨r, hr, hm⟩ := Option.bind_eq_some_iff.1 hm
        exact ⟨_, hm, LawV.reads (.cons (.as h1) .nil) (spec_l10Has_law k c1 r hr)⟩
      · cases hm
    · cases hg; exact noCon_ok
    · cases hg
  · intro g hg r
    by_cases h : g = 108
    · subst h; simp [E_spec_Sets] at hg
    · simp [E_spec_Sets, h]
theorem f108_okspec_Sets : Tryz.prog.funcs[108]? = some Tryz.f108 := by kernel_rfl
theorem spec_Sets_law (k : Nat) (a1 : Int × Int × Int × Int × Int × ByteArray × (List Int) × Unit) (x : List Int) (h : spec_Sets k a1 = some x) : LawF Tryz.prog 108 [.tv (.pair (.int .i64) (.pair (.int .i64) (.pair (.int .i64) (.pair (.int .i64) (.pair (.int .i64) (.pair .str (.pair (.row (.int .i64)) .unit))))))) a1] (.int .i64) x := by
  unfold spec_Sets at h
  exact lawF (e := (.int .i64)) (tyTOk _ _) (E_spec_Sets_calls k) mixOk f108_okspec_Sets (nameOk _ _ f108_okspec_Sets) (by kernel_rfl) h
/-! spec.Uses -/
noncomputable def E_spec_Uses (k : Nat) : Env := ⟨ty, fun g => match g with
  | 97 => some (byVal fun ρ l K => match l with
    | [b1] => (b1.as (.int .i64)).bind fun c1 => (spec_l10Has k c1).bind fun r => K (tvn (.int .i64) r)
    | _ => none)
  | 109 => some noCon
  | _ => none, fun f r => match f with | 109 => (match r with | 5 => some [1, 3, 4] | 7 => some [1, 3, 4] | 8 => some [1, 3, 4, 5] | 10 => some [1, 3, 4, 5] | _ => none) | _ => none⟩
noncomputable def spec_Uses (k : Nat) (a1 : Int × Int × Int × Int × Int × ByteArray × (List Int) × Unit) : Option (List Int) :=
  abody (E_spec_Uses k) (arun Tryz.prog (E_spec_Uses k) k) k 109 Tryz.f109 [.tv (.pair (.int .i64) (.pair (.int .i64) (.pair (.int .i64) (.pair (.int .i64) (.pair (.int .i64) (.pair .str (.pair (.row (.int .i64)) .unit))))))) a1] [] (fin1 (.row (.int .i64)))
noncomputable def spec_Uses.j5 (k : Nat) (x4 : Int) (y0_0 : Int × Int × Int × Int × Int × ByteArray × (List Int) × Unit) (y1 : List Int) : Option (List Int) :=
  resume (E_spec_Uses k) 109 (acall (E_spec_Uses k) (arun Tryz.prog (E_spec_Uses k) k)) k [true, true, true, true] [] (bodyOf Tryz.f109) ⟨[.undef, .ptr 0 0 0, .undef, .sl 1, .int .i64 x4, .undef, .undef, .undef, .undef, .undef, .undef, .undef, .undef, .undef, .undef, .undef, .undef, .undef, .undef, .undef, .undef, .undef, .undef, .undef, .undef, .undef, .undef, .undef, .undef, .undef, .undef, .undef, .undef, .undef, .undef, .undef, .undef, .undef, .undef, .undef, .undef, .undef, .undef, .undef, .undef, .undef, .undef, .undef, .undef, .undef, .undef, .undef, .undef, .undef, .undef, .undef, .undef, .undef, .undef, .undef, .undef, .undef, .undef, .undef, .undef, .undef, .undef, .undef, .undef, .undef, .undef, .undef, .undef, .undef], [some ⟨.raw true 7 (.agg [.int .i64 0, .int .i64 0, .int .i64 0, .int .i64 0, .int .i64 0, .str ByteArray.empty, .nils]) [.tv (.pair (.int .i64) (.pair (.int .i64) (.pair (.int .i64) (.pair (.int .i64) (.pair (.int .i64) (.pair .str (.pair (.row (.int .i64)) .unit))))))) y0_0], true⟩, some ⟨.typed (.int .i64) y1, false⟩]⟩ (leave (E_spec_Uses k) Tryz.f109 (fin1 (.row (.int .i64))))
noncomputable def spec_Uses.j5b (k : Nat) (x4 : Int) (y0_0 : Int × Int × Int × Int × Int × ByteArray × (List Int) × Unit) : Option (List Int) :=
  resume (E_spec_Uses k) 109 (acall (E_spec_Uses k) (arun Tryz.prog (E_spec_Uses k) k)) k [true, true, true, true] [] (bodyOf Tryz.f109) ⟨[.undef, .ptr 0 0 0, .undef, .sl 1, .int .i64 x4, .undef, .undef, .undef, .undef, .undef, .undef, .undef, .undef, .undef, .undef, .undef, .undef, .undef, .undef, .undef, .undef, .undef, .undef, .undef, .undef, .undef, .undef, .undef, .undef, .undef, .undef, .undef, .undef, .undef, .undef, .undef, .undef, .undef, .undef, .undef, .undef, .undef, .undef, .undef, .undef, .undef, .undef, .undef, .undef, .undef, .undef, .undef, .undef, .undef, .undef, .undef, .undef, .undef, .undef, .undef, .undef, .undef, .undef, .undef, .undef, .undef, .undef, .undef, .undef, .undef, .undef, .undef, .undef, .undef], [some ⟨.raw true 7 (.agg [.int .i64 0, .int .i64 0, .int .i64 0, .int .i64 0, .int .i64 0, .str ByteArray.empty, .nils]) [.tv (.pair (.int .i64) (.pair (.int .i64) (.pair (.int .i64) (.pair (.int .i64) (.pair (.int .i64) (.pair .str (.pair (.row (.int .i64)) .unit))))))) y0_0], true⟩, some ⟨.typed (.int .i64) [], true⟩]⟩ (leave (E_spec_Uses k) Tryz.f109 (fin1 (.row (.int .i64))))
noncomputable def spec_Uses.j7 (k : Nat) (x4 : Int) (y0_0 : Int × Int × Int × Int × Int × ByteArray × (List Int) × Unit) (y1 : List Int) : Option (List Int) :=
  resume (E_spec_Uses k) 109 (acall (E_spec_Uses k) (arun Tryz.prog (E_spec_Uses k) k)) k [true, true, true, true, true] [] (bodyOf Tryz.f109) ⟨[.undef, .ptr 0 0 0, .undef, .sl 1, .int .i64 x4, .undef, .undef, .undef, .undef, .undef, .undef, .undef, .undef, .undef, .undef, .undef, .undef, .undef, .undef, .undef, .undef, .undef, .undef, .undef, .undef, .undef, .undef, .undef, .undef, .undef, .undef, .undef, .undef, .undef, .undef, .undef, .undef, .undef, .undef, .undef, .undef, .undef, .undef, .undef, .undef, .undef, .undef, .undef, .undef, .undef, .undef, .undef, .undef, .undef, .undef, .undef, .undef, .undef, .undef, .undef, .undef, .undef, .undef, .undef, .undef, .undef, .undef, .undef, .undef, .undef, .undef, .undef, .undef, .undef], [some ⟨.raw true 7 (.agg [.int .i64 0, .int .i64 0, .int .i64 0, .int .i64 0, .int .i64 0, .str ByteArray.empty, .nils]) [.tv (.pair (.int .i64) (.pair (.int .i64) (.pair (.int .i64) (.pair (.int .i64) (.pair (.int .i64) (.pair .str (.pair (.row (.int .i64)) .unit))))))) y0_0], true⟩, some ⟨.typed (.int .i64) y1, false⟩]⟩ (leave (E_spec_Uses k) Tryz.f109 (fin1 (.row (.int .i64))))
noncomputable def spec_Uses.j7b (k : Nat) (x4 : Int) (y0_0 : Int × Int × Int × Int × Int × ByteArray × (List Int) × Unit) : Option (List Int) :=
  resume (E_spec_Uses k) 109 (acall (E_spec_Uses k) (arun Tryz.prog (E_spec_Uses k) k)) k [true, true, true, true, true] [] (bodyOf Tryz.f109) ⟨[.undef, .ptr 0 0 0, .undef, .sl 1, .int .i64 x4, .undef, .undef, .undef, .undef, .undef, .undef, .undef, .undef, .undef, .undef, .undef, .undef, .undef, .undef, .undef, .undef, .undef, .undef, .undef, .undef, .undef, .undef, .undef, .undef, .undef, .undef, .undef, .undef, .undef, .undef, .undef, .undef, .undef, .undef, .undef, .undef, .undef, .undef, .undef, .undef, .undef, .undef, .undef, .undef, .undef, .undef, .undef, .undef, .undef, .undef, .undef, .undef, .undef, .undef, .undef, .undef, .undef, .undef, .undef, .undef, .undef, .undef, .undef, .undef, .undef, .undef, .undef, .undef, .undef], [some ⟨.raw true 7 (.agg [.int .i64 0, .int .i64 0, .int .i64 0, .int .i64 0, .int .i64 0, .str ByteArray.empty, .nils]) [.tv (.pair (.int .i64) (.pair (.int .i64) (.pair (.int .i64) (.pair (.int .i64) (.pair (.int .i64) (.pair .str (.pair (.row (.int .i64)) .unit))))))) y0_0], true⟩, some ⟨.typed (.int .i64) [], true⟩]⟩ (leave (E_spec_Uses k) Tryz.f109 (fin1 (.row (.int .i64))))
noncomputable def spec_Uses.l8 (k n : Nat) (x4 : Int) (x5 : Int) (y0_0 : Int × Int × Int × Int × Int × ByteArray × (List Int) × Unit) (y1 : List Int) : Option (List Int) :=
  resume (E_spec_Uses k) 109 (acall (E_spec_Uses k) (arun Tryz.prog (E_spec_Uses k) k)) k [true, true, true, true, true, false, true, true] [n] (bodyOf Tryz.f109) ⟨[.undef, .ptr 0 0 0, .undef, .sl 1, .int .i64 x4, .int .i64 x5, .undef, .undef, .undef, .undef, .undef, .undef, .undef, .undef, .undef, .undef, .undef, .undef, .undef, .undef, .undef, .undef, .undef, .undef, .undef, .undef, .undef, .undef, .undef, .undef, .undef, .undef, .undef, .undef, .undef, .undef, .undef, .undef, .undef, .undef, .undef, .undef, .undef, .undef, .undef, .undef, .undef, .undef, .undef, .undef, .undef, .undef, .undef, .undef, .undef, .undef, .undef, .undef, .undef, .undef, .undef, .undef, .undef, .undef, .undef, .undef, .undef, .undef, .undef, .undef, .undef, .undef, .undef, .undef], [some ⟨.raw true 7 (.agg [.int .i64 0, .int .i64 0, .int .i64 0, .int .i64 0, .int .i64 0, .str ByteArray.empty, .nils]) [.tv (.pair (.int .i64) (.pair (.int .i64) (.pair (.int .i64) (.pair (.int .i64) (.pair (.int .i64) (.pair .str (.pair (.row (.int .i64)) .unit))))))) y0_0], true⟩, some ⟨.typed (.int .i64) y1, false⟩]⟩ (leave (E_spec_Uses k) Tryz.f109 (fin1 (.row (.int .i64))))
noncomputable def spec_Uses.l8b (k n : Nat) (x4 : Int) (x5 : Int) (y0_0 : Int × Int × Int × Int × Int × ByteArray × (List Int) × Unit) : Option (List Int) :=
  resume (E_spec_Uses k) 109 (acall (E_spec_Uses k) (arun Tryz.prog (E_spec_Uses k) k)) k [true, true, true, true, true, false, true, true] [n] (bodyOf Tryz.f109) ⟨[.undef, .ptr 0 0 0, .undef, .sl 1, .int .i64 x4, .int .i64 x5, .undef, .undef, .undef, .undef, .undef, .undef, .undef, .undef, .undef, .undef, .undef, .undef, .undef, .undef, .undef, .undef, .undef, .undef, .undef, .undef, .undef, .undef, .undef, .undef, .undef, .undef, .undef, .undef, .undef, .undef, .undef, .undef, .undef, .undef, .undef, .undef, .undef, .undef, .undef, .undef, .undef, .undef, .undef, .undef, .undef, .undef, .undef, .undef, .undef, .undef, .undef, .undef, .undef, .undef, .undef, .undef, .undef, .undef, .undef, .undef, .undef, .undef, .undef, .undef, .undef, .undef, .undef, .undef], [some ⟨.raw true 7 (.agg [.int .i64 0, .int .i64 0, .int .i64 0, .int .i64 0, .int .i64 0, .str ByteArray.empty, .nils]) [.tv (.pair (.int .i64) (.pair (.int .i64) (.pair (.int .i64) (.pair (.int .i64) (.pair (.int .i64) (.pair .str (.pair (.row (.int .i64)) .unit))))))) y0_0], true⟩, some ⟨.typed (.int .i64) [], true⟩]⟩ (leave (E_spec_Uses k) Tryz.f109 (fin1 (.row (.int .i64))))
noncomputable def spec_Uses.j10 (k m8 : Nat) (x4 : Int) (x5 : Int) (y0_0 : Int × Int × Int × Int × Int × ByteArray × (List Int) × Unit) (y1 : List Int) : Option (List Int) :=
  resume (E_spec_Uses k) 109 (acall (E_spec_Uses k) (arun Tryz.prog (E_spec_Uses k) k)) k [true, true, true, true, true, false, true, true, true, true] [m8] (bodyOf Tryz.f109) ⟨[.undef, .ptr 0 0 0, .undef, .sl 1, .int .i64 x4, .int .i64 x5, .undef, .undef, .undef, .undef, .undef, .undef, .undef, .undef, .undef, .undef, .undef, .undef, .undef, .undef, .undef, .undef, .undef, .undef, .undef, .undef, .undef, .undef, .undef, .undef, .undef, .undef, .undef, .undef, .undef, .undef, .undef, .undef, .undef, .undef, .undef, .undef, .undef, .undef, .undef, .undef, .undef, .undef, .undef, .undef, .undef, .undef, .undef, .undef, .undef, .undef, .undef, .undef, .undef, .undef, .undef, .undef, .undef, .undef, .undef, .undef, .undef, .undef, .undef, .undef, .undef, .undef, .undef, .undef], [some ⟨.raw true 7 (.agg [.int .i64 0, .int .i64 0, .int .i64 0, .int .i64 0, .int .i64 0, .str ByteArray.empty, .nils]) [.tv (.pair (.int .i64) (.pair (.int .i64) (.pair (.int .i64) (.pair (.int .i64) (.pair (.int .i64) (.pair .str (.pair (.row (.int .i64)) .unit))))))) y0_0], true⟩, some ⟨.typed (.int .i64) y1, false⟩]⟩ (leave (E_spec_Uses k) Tryz.f109 (fin1 (.row (.int .i64))))
noncomputable def spec_Uses.j10b (k m8 : Nat) (x4 : Int) (x5 : Int) (y0_0 : Int × Int × Int × Int × Int × ByteArray × (List Int) × Unit) : Option (List Int) :=
  resume (E_spec_Uses k) 109 (acall (E_spec_Uses k) (arun Tryz.prog (E_spec_Uses k) k)) k [true, true, true, true, true, false, true, true, true, true] [m8] (bodyOf Tryz.f109) ⟨[.undef, .ptr 0 0 0, .undef, .sl 1, .int .i64 x4, .int .i64 x5, .undef, .undef, .undef, .undef, .undef, .undef, .undef, .undef, .undef, .undef, .undef, .undef, .undef, .undef, .undef, .undef, .undef, .undef, .undef, .undef, .undef, .undef, .undef, .undef, .undef, .undef, .undef, .undef, .undef, .undef, .undef, .undef, .undef, .undef, .undef, .undef, .undef, .undef, .undef, .undef, .undef, .undef, .undef, .undef, .undef, .undef, .undef, .undef, .undef, .undef, .undef, .undef, .undef, .undef, .undef, .undef, .undef, .undef, .undef, .undef, .undef, .undef, .undef, .undef, .undef, .undef, .undef, .undef], [some ⟨.raw true 7 (.agg [.int .i64 0, .int .i64 0, .int .i64 0, .int .i64 0, .int .i64 0, .str ByteArray.empty, .nils]) [.tv (.pair (.int .i64) (.pair (.int .i64) (.pair (.int .i64) (.pair (.int .i64) (.pair (.int .i64) (.pair .str (.pair (.row (.int .i64)) .unit))))))) y0_0], true⟩, some ⟨.typed (.int .i64) [], true⟩]⟩ (leave (E_spec_Uses k) Tryz.f109 (fin1 (.row (.int .i64))))
theorem spec_Uses.j5_e (k : Nat) (x4 : Int) (y0_0 : Int × Int × Int × Int × Int × ByteArray × (List Int) × Unit) (y1 : List Int) : spec_Uses.j5 k x4 y0_0 y1 =
  iteB ((IntKind.wrap .i64 ((BitVec.ofInt (IntKind.bits .i64) x4 &&& BitVec.ofInt (IntKind.bits .i64) 4).toNat : Int)) != 0) (iteB (y0_0.1 != 19) (iteB (decide ((List.length (y1 ++ [y0_0.2.2.2.1])) * 8 ≤ lim)) (gate k (spec_Uses.j7 k x4 y0_0 (y1 ++ [y0_0.2.2.2.1]))) (none)) (gate k (spec_Uses.j7 k x4 y0_0 y1))) (gate k (spec_Uses.j7 k x4 y0_0 y1)) := by kernel_rfl
theorem spec_Uses.j5b_e (k : Nat) (x4 : Int) (y0_0 : Int × Int × Int × Int × Int × ByteArray × (List Int) × Unit) : spec_Uses.j5b k x4 y0_0 =
  iteB ((IntKind.wrap .i64 ((BitVec.ofInt (IntKind.bits .i64) x4 &&& BitVec.ofInt (IntKind.bits .i64) 4).toNat : Int)) != 0) (iteB (y0_0.1 != 19) (iteB (decide ((List.length ([] ++ [y0_0.2.2.2.1])) * 8 ≤ lim)) (gate k (spec_Uses.j7 k x4 y0_0 ([] ++ [y0_0.2.2.2.1]))) (none)) (gate k (spec_Uses.j7b k x4 y0_0))) (gate k (spec_Uses.j7b k x4 y0_0)) := by kernel_rfl
theorem spec_Uses.j7_e (k : Nat) (x4 : Int) (y0_0 : Int × Int × Int × Int × Int × ByteArray × (List Int) × Unit) (y1 : List Int) : spec_Uses.j7 k x4 y0_0 y1 =
  spec_Uses.l8 k k x4 0 y0_0 y1 := by kernel_rfl
theorem spec_Uses.j7b_e (k : Nat) (x4 : Int) (y0_0 : Int × Int × Int × Int × Int × ByteArray × (List Int) × Unit) : spec_Uses.j7b k x4 y0_0 =
  spec_Uses.l8b k k x4 0 y0_0 := by kernel_rfl
theorem spec_Uses.l8_0 (k : Nat) (x4 : Int) (x5 : Int) (y0_0 : Int × Int × Int × Int × Int × ByteArray × (List Int) × Unit) (y1 : List Int) : spec_Uses.l8 k 0 x4 x5 y0_0 y1 = none := by kernel_rfl
theorem spec_Uses.l8_s (k n : Nat) (x4 : Int) (x5 : Int) (y0_0 : Int × Int × Int × Int × Int × ByteArray × (List Int) × Unit) (y1 : List Int) : spec_Uses.l8 k (n + 1) x4 x5 y0_0 y1 =
  iteB (decide (x5 < ((List.length y0_0.2.2.2.2.2.2.1) : Int))) (iteB ((IntKind.wrap .i64 ((BitVec.ofInt (IntKind.bits .i64) x4 &&& BitVec.ofInt (IntKind.bits .i64) 32).toNat : Int)) != 0) (gate k (spec_Uses.j10 k n x4 x5 y0_0 y1)) (some y1)) (some y1) := by kernel_rfl
theorem spec_Uses.l8b_0 (k : Nat) (x4 : Int) (x5 : Int) (y0_0 : Int × Int × Int × Int × Int × ByteArray × (List Int) × Unit) : spec_Uses.l8b k 0 x4 x5 y0_0 = none := by kernel_rfl
theorem spec_Uses.l8b_s (k n : Nat) (x4 : Int) (x5 : Int) (y0_0 : Int × Int × Int × Int × Int × ByteArray × (List Int) × Unit) : spec_Uses.l8b k (n + 1) x4 x5 y0_0 =
  iteB (decide (x5 < ((List.length y0_0.2.2.2.2.2.2.1) : Int))) (iteB ((IntKind.wrap .i64 ((BitVec.ofInt (IntKind.bits .i64) x4 &&& BitVec.ofInt (IntKind.bits .i64) 32).toNat : Int)) != 0) (gate k (spec_Uses.j10b k n x4 x5 y0_0)) (some [])) (some []) := by kernel_rfl
theorem spec_Uses.j10_e (k m8 : Nat) (x4 : Int) (x5 : Int) (y0_0 : Int × Int × Int × Int × Int × ByteArray × (List Int) × Unit) (y1 : List Int) : spec_Uses.j10 k m8 x4 x5 y0_0 y1 =
  iteB (!(y0_0.1 != 19)) (iteB (!((Int.tmod x5 3) == 1)) (iteB ((Int.tmod x5 3) == 2) (iteB (decide (0 ≤ IntKind.wrap .i64 (x5 - 2))) (iteB (decide (IntKind.wrap .i64 (x5 - 2) < ((List.length y0_0.2.2.2.2.2.2.1) : Int))) (iteB ((List.getD y0_0.2.2.2.2.2.2.1 (Int.toNat (IntKind.wrap .i64 (x5 - 2))) 0) == 2) (iteB (decide (0 ≤ x5)) (iteB (decide (x5 < ((List.length y0_0.2.2.2.2.2.2.1) : Int))) (iteB (decide ((List.length (y1 ++ [List.getD y0_0.2.2.2.2.2.2.1 (Int.toNat x5) 0])) * 8 ≤ lim)) (spec_Uses.l8 k m8 x4 (IntKind.wrap .i64 (x5 + 1)) y0_0 (y1 ++ [List.getD y0_0.2.2.2.2.2.2.1 (Int.toNat x5) 0])) (none)) (none)) (none)) (spec_Uses.l8 k m8 x4 (IntKind.wrap .i64 (x5 + 1)) y0_0 y1)) (none)) (none)) (spec_Uses.l8 k m8 x4 (IntKind.wrap .i64 (x5 + 1)) y0_0 y1)) (iteB (decide (0 ≤ x5)) (iteB (decide (x5 < ((List.length y0_0.2.2.2.2.2.2.1) : Int))) (iteB (decide ((List.length (y1 ++ [List.getD y0_0.2.2.2.2.2.2.1 (Int.toNat x5) 0])) * 8 ≤ lim)) (spec_Uses.l8 k m8 x4 (IntKind.wrap .i64 (x5 + 1)) y0_0 (y1 ++ [List.getD y0_0.2.2.2.2.2.2.1 (Int.toNat x5) 0])) (none)) (none)) (none))) (iteB (decide (0 ≤ x5)) (iteB (decide (x5 < ((List.length y0_0.2.2.2.2.2.2.1) : Int))) (iteB (decide ((List.length (y1 ++ [List.getD y0_0.2.2.2.2.2.2.1 (Int.toNat x5) 0])) * 8 ≤ lim)) (spec_Uses.l8 k m8 x4 (IntKind.wrap .i64 (x5 + 1)) y0_0 (y1 ++ [List.getD y0_0.2.2.2.2.2.2.1 (Int.toNat x5) 0])) (none)) (none)) (none)) := by kernel_rfl
theorem spec_Uses.j10b_e (k m8 : Nat) (x4 : Int) (x5 : Int) (y0_0 : Int × Int × Int × Int × Int × ByteArray × (List Int) × Unit) : spec_Uses.j10b k m8 x4 x5 y0_0 =
  iteB (!(y0_0.1 != 19)) (iteB (!((Int.tmod x5 3) == 1)) (iteB ((Int.tmod x5 3) == 2) (iteB (decide (0 ≤ IntKind.wrap .i64 (x5 - 2))) (iteB (decide (IntKind.wrap .i64 (x5 - 2) < ((List.length y0_0.2.2.2.2.2.2.1) : Int))) (iteB ((List.getD y0_0.2.2.2.2.2.2.1 (Int.toNat (IntKind.wrap .i64 (x5 - 2))) 0) == 2) (iteB (decide (0 ≤ x5)) (iteB (decide (x5 < ((List.length y0_0.2.2.2.2.2.2.1) : Int))) (iteB (decide ((List.length ([] ++ [List.getD y0_0.2.2.2.2.2.2.1 (Int.toNat x5) 0])) * 8 ≤ lim)) (spec_Uses.l8 k m8 x4 (IntKind.wrap .i64 (x5 + 1)) y0_0 ([] ++ [List.getD y0_0.2.2.2.2.2.2.1 (Int.toNat x5) 0])) (none)) (none)) (none)) (spec_Uses.l8b k m8 x4 (IntKind.wrap .i64 (x5 + 1)) y0_0)) (none)) (none)) (spec_Uses.l8b k m8 x4 (IntKind.wrap .i64 (x5 + 1)) y0_0)) (iteB (decide (0 ≤ x5)) (iteB (decide (x5 < ((List.length y0_0.2.2.2.2.2.2.1) : Int))) (iteB (decide ((List.length ([] ++ [List.getD y0_0.2.2.2.2.2.2.1 (Int.toNat x5) 0])) * 8 ≤ lim)) (spec_Uses.l8 k m8 x4 (IntKind.wrap .i64 (x5 + 1)) y0_0 ([] ++ [List.getD y0_0.2.2.2.2.2.2.1 (Int.toNat x5) 0])) (none)) (none)) (none))) (iteB (decide (0 ≤ x5)) (iteB (decide (x5 < ((List.length y0_0.2.2.2.2.2.2.1) : Int))) (iteB (decide ((List.length ([] ++ [List.getD y0_0.2.2.2.2.2.2.1 (Int.toNat x5) 0])) * 8 ≤ lim)) (spec_Uses.l8 k m8 x4 (IntKind.wrap .i64 (x5 + 1)) y0_0 ([] ++ [List.getD y0_0.2.2.2.2.2.2.1 (Int.toNat x5) 0])) (none)) (none)) (none)) := by kernel_rfl
theorem spec_Uses_e (k : Nat) (a1 : Int × Int × Int × Int × Int × ByteArray × (List Int) × Unit) : spec_Uses k a1 =
  bindO (spec_l10Has k a1.1) fun r1 => (iteB ((IntKind.wrap .i64 ((BitVec.ofInt (IntKind.bits .i64) r1 &&& BitVec.ofInt (IntKind.bits .i64) 2).toNat : Int)) != 0) (iteB (decide ((List.length ([] ++ [a1.2.2.1])) * 8 ≤ lim)) (gate k (spec_Uses.j5 k r1 a1 ([] ++ [a1.2.2.1]))) (none)) (gate k (spec_Uses.j5b k r1 a1))) := by kernel_rfl
theorem E_spec_Uses_calls (k : Nat) : CallsOk Tryz.prog (E_spec_Uses k) (arun Tryz.prog (E_spec_Uses k) k) := by
  refine told_run (tyTOk _ _) ?_ (fun run h => regOk (tyTOk _ _) mixOk h) ?_ nameOk k
  · intro g m hg
    simp only [E_spec_Uses] at hg
    split at hg
    · cases hg
      refine con_byVal fun ρ l K x hm => ?_
      split at hm
      · obtain ⟨c1, h1, hm⟩ := Option.bind_eq_some_iff.1 hm
        obtain ⟨r, hr, hm⟩ := Option.bind_eq_some_iff.1 hm
        exact ⟨_, hm, LawV.reads (.cons (.as h1) .nil) (spec_l10Has_law k c1 r hr)⟩
      · cases hm
    · cases hg; exact noCon_ok
    · cases hg
  · intro g hg r
    by_cases h : g = 109
    · subst h; simp [E_spec_Uses] at hg
    · simp [E_spec_Uses, h]
theorem f109_okspec_Uses : Tryz.prog.funcs[109]? = some Tryz.f109 := by kernel_rfl
theorem spec_Uses_law (k : Nat) (a1 : Int × Int × Int × Int × Int × ByteArray × (List Int) × Unit) (x : List Int) (h : spec_Uses k a1 = some x) : LawV Tryz.prog 109 [.tv (.pair (.int .i64) (.pair (.int .i64) (.pair (.int .i64) (.pair (.int .i64) (.pair (.int .i64) (.pair .str (.pair (.row (.int .i64)) .unit))))))) a1] (tvn (.row (.int .i64)) x) := by
  unfold spec_Uses at h
  exact law1 (t := (.row (.int .i64))) (tyTOk _ _) (E_spec_Uses_calls k) mixOk f109_okspec_Uses (nameOk _ _ f109_okspec_Uses) (by kernel_rfl) h
/-! spec.l10Regs -/
noncomputable def E_spec_l10Regs (k : Nat) : Env := ⟨ty, fun g => match g with
  | 108 => some (byFresh (.int .i64) fun ρ l K => match l with
    | [b1] => (b1.as (.pair (.int .i64) (.pair (.int .i64) (.pair (.int .i64) (.pair (.int .i64) (.pair (.int .i64) (.pair .str (.pair (.row (.int .i64)) .unit)))))))).bind fun c1 => (spec_Sets k c1).bind fun r => K r
    | _ => none)
  | 109 => some (byVal fun ρ l K => match l with
    | [b1] => (b1.as (.pair (.int .i64) (.pair (.int .i64) (.pair (.int .i64) (.pair (.int .i64) (.pair (.int .i64) (.pair .str (.pair (.row (.int .i64)) .unit)))))))).bind fun c1 => (spec_Uses k c1).bind fun r => K (tvn (.row (.int .i64)) r)
    | _ => none)
  | 29 => some (byVal fun ρ l K => match l with
    | [b1, b2, b3] => (b1.as (.int .i64)).bind fun c1 => (b2.as (.int .i64)).bind fun c2 => (b3.as (.int .i64)).bind fun c3 => (spec_l1In k c1 c2 c3).bind fun r => K (tvn .bool r)
    | _ => none)
  | 99 => some noCon
  | _ => none, fun f r => match f with | 99 => (match r with | 3 => some [1, 5, 6] | _ => none) | _ => none⟩
noncomputable def spec_l10Regs (k : Nat) (a1 : Int × Int × Int × Int × Int × ByteArray × (List Int) × Unit) (a2 : Int) : Option (Bool) :=
  abody (E_spec_l10Regs k) (arun Tryz.prog (E_spec_l10Regs k) k) k 99 Tryz.f99 [.tv (.pair (.int .i64) (.pair (.int .i64) (.pair (.int .i64) (.pair (.int .i64) (.pair (.int .i64) (.pair .str (.pair (.row (.int .i64)) .unit))))))) a1, .int .i64 a2] [] (fin1 .bool)
noncomputable def spec_l10Regs.l3 (k n : Nat) (x1 : Int) (x6 : Int) (y0 : List Int) : Option (Bool) :=
  resume (E_spec_l10Regs k) 99 (acall (E_spec_l10Regs k) (arun Tryz.prog (E_spec_l10Regs k) k)) k [true, true, false, true, true] [n] (bodyOf Tryz.f99) ⟨[.undef, .int .i64 x1, .undef, .undef, .undef, .sl 0, .int .i64 x6, .undef, .undef, .undef, .undef, .undef, .undef, .undef, .undef, .undef, .undef, .undef, .undef, .undef, .undef, .undef, .undef, .undef, .undef, .undef], [some ⟨.typed (.int .i64) y0, false⟩]⟩ (leave (E_spec_l10Regs k) Tryz.f99 (fin1 .bool))
theorem spec_l10Regs.l3_0 (k : Nat) (x1 : Int) (x6 : Int) (y0 : List Int) : spec_l10Regs.l3 k 0 x1 x6 y0 = none := by kernel_rfl
theorem spec_l10Regs.l3_s (k n : Nat) (x1 : Int) (x6 : Int) (y0 : List Int) : spec_l10Regs.l3 k (n + 1) x1 x6 y0 =
  iteB (decide (x6 < ((List.length y0) : Int))) (iteB (decide (0 ≤ x6)) (iteB (decide (x6 < ((List.length y0) : Int))) (bindO (spec_l1In k (List.getD y0 (Int.toNat x6) 0) 0 (IntKind.wrap .i64 (x1 - 1))) fun r3 => (iteB (!r3) (some false) (spec_l10Regs.l3 k n x1 (IntKind.wrap .i64 (x6 + 1)) y0))) (none)) (none)) (some true) := by kernel_rfl
theorem spec_l10Regs_e (k : Nat) (a1 : Int × Int × Int × Int × Int × ByteArray × (List Int) × Unit) (a2 : Int) : spec_l10Regs k a1 a2 =
  bindO (spec_Sets k a1) fun r1 => (bindO (spec_Uses k a1) fun r2 => (iteB (decide ((List.length (r1 ++ r2)) * 8 ≤ lim)) (spec_l10Regs.l3 k k a2 0 (r1 ++ r2)) (none))) := by kernel_rfl
theorem E_spec_l10Regs_calls (k : Nat) : CallsOk Tryz.prog (E_spec_l10Regs k) (arun Tryz.prog (E_spec_l10Regs k) k) := by
  refine told_run (tyTOk _ _) ?_ (fun run h => regOk (tyTOk _ _) mixOk h) ?_ nameOk k
  · intro g m hg
    simp only [E_spec_l10Regs] at hg
    split at hg
    · cases hg
      refine con_byFresh fun ρ l K x hm => ?_
      split at hm
      · obtain ⟨c1, h1, hm⟩ := Option.bind_eq_some_iff.1 hm
        obtain ⟨r, hr, hm⟩ := Option.bind_eq_some_iff.1 hm
        exact ⟨_, hm, LawF.reads (.cons (.as h1) .nil) (spec_Sets_law k c1 r hr)⟩
      · cases hm
    · cases hg
      refine con_byVal fun ρ l K x hm => ?_
      split at hm
      · obtain ⟨c1, h1, hm⟩ := Option.bind_eq_some_iff.1 hm
        obtain ⟨r, hr, hm⟩ := Option.bind_eq_some_iff.1 hm
        exact ⟨_, hm, LawV.reads (.cons (.as h1) .nil) (spec_Uses_law k c1 r hr)⟩
      · cases hm
    · cases hg
      refine con_byVal fun ρ l K x hm => ?_
      split at hm
      · obtain ⟨c1, h1, hm⟩ := Option.bind_eq_some_iff.1 hm
        obtain ⟨c2, h2, hm⟩ := Option.bind_eq_some_iff.1 hm
        obtain ⟨c3, h3, hm⟩ := Option.bind_eq_some_iff.1 hm
        obtain ⟨r, hr, hm⟩ := Option.bind_eq_some_iff.1 hm
        exact ⟨_, hm, LawV.reads (.cons (.as h1) (.cons (.as h2) (.cons (.as h3) .nil))) (spec_l1In_law k c1 c2 c3 r hr)⟩
      · cases hm
    · cases hg; exact noCon_ok
    · cases hg
  · intro g hg r
    by_cases h : g = 99
    · subst h; simp [E_spec_l10Regs] at hg
    · simp [E_spec_l10Regs, h]
theorem f99_okspec_l10Regs : Tryz.prog.funcs[99]? = some Tryz.f99 := by kernel_rfl
theorem spec_l10Regs_law (k : Nat) (a1 : Int × Int × Int × Int × Int × ByteArray × (List Int) × Unit) (a2 : Int) (x : Bool) (h : spec_l10Regs k a1 a2 = some x) : LawV Tryz.prog 99 [.tv (.pair (.int .i64) (.pair (.int .i64) (.pair (.int .i64) (.pair (.int .i64) (.pair (.int .i64) (.pair .str (.pair (.row (.int .i64)) .unit))))))) a1, .int .i64 a2] (tvn .bool x) := by
  unfold spec_l10Regs at h
  exact law1 (t := .bool) (tyTOk _ _) (E_spec_l10Regs_calls k) mixOk f99_okspec_l10Regs (nameOk _ _ f99_okspec_l10Regs) (by kernel_rfl) h
/-! spec.WordOk -/
noncomputable def E_spec_WordOk (k : Nat) : Env := ⟨ty, fun g => match g with
  | 29 => some (byVal fun ρ l K => match l with
    | [b1, b2, b3] => (b1.as (.int .i64)).bind fun c1 => (b2.as (.int .i64)).bind fun c2 => (b3.as (.int .i64)).bind fun c3 => (spec_l1In k c1 c2 c3).bind fun r => K (tvn .bool r)
    | _ => none)
  | _ => none, fun _ _ => none⟩
noncomputable def spec_WordOk (k : Nat) (a1 : Int) : Option (Bool) :=
  abody (E_spec_WordOk k) (arun Tryz.prog (E_spec_WordOk k) k) k 31 Tryz.f31 [.int .i64 a1] [] (fin1 .bool)
theorem spec_WordOk_e (k : Nat) (a1 : Int) : spec_WordOk k a1 =
  bindO (spec_l1In k a1 (-2147483648) 2147483647) fun r1 => (some r1) := by kernel_rfl
theorem E_spec_WordOk_calls (k : Nat) : CallsOk Tryz.prog (E_spec_WordOk k) (arun Tryz.prog (E_spec_WordOk k) k) := by
  refine told_run (tyTOk _ _) ?_ (fun run h => regOk (tyTOk _ _) mixOk h) ?_ nameOk k
  · intro g m hg
    simp only [E_spec_WordOk] at hg
    split at hg
    · cases hg
      refine con_byVal fun ρ l K x hm => ?_
      split at hm
      · obtain ⟨c1, h1, hm⟩ := Option.bind_eq_some_iff.1 hm
        obtain ⟨c2, h2, hm⟩ := Option.bind_eq_some_iff.1 hm
        obtain ⟨c3, h3, hm⟩ := Option.bind_eq_some_iff.1 hm
        obtain ⟨r, hr, hm⟩ := Option.bind_eq_some_iff.1 hm
        exact ⟨_, hm, LawV.reads (.cons (.as h1) (.cons (.as h2) (.cons (.as h3) .nil))) (spec_l1In_law k c1 c2 c3 r hr)⟩
      · cases hm
    · cases hg
  · intro g _ r; rfl
theorem f31_okspec_WordOk : Tryz.prog.funcs[31]? = some Tryz.f31 := by kernel_rfl
theorem spec_WordOk_law (k : Nat) (a1 : Int) (x : Bool) (h : spec_WordOk k a1 = some x) : LawV Tryz.prog 31 [.int .i64 a1] (tvn .bool x) := by
  unfold spec_WordOk at h
  exact law1 (t := .bool) (tyTOk _ _) (E_spec_WordOk_calls k) mixOk f31_okspec_WordOk (nameOk _ _ f31_okspec_WordOk) (by kernel_rfl) h
/-! spec.l10Place -/
noncomputable def E_spec_l10Place (k : Nat) : Env := ⟨ty, fun g => match g with
  | 97 => some (byVal fun ρ l K => match l with
    | [b1] => (b1.as (.int .i64)).bind fun c1 => (spec_l10Has k c1).bind fun r => K (tvn (.int .i64) r)
    | _ => none)
  | 29 => some (byVal fun ρ l K => match l with
    | [b1, b2, b3] => (b1.as (.int .i64)).bind fun c1 => (b2.as (.int .i64)).bind fun c2 => (b3.as (.int .i64)).bind fun c3 => (spec_l1In k c1 c2 c3).bind fun r => K (tvn .bool r)
    | _ => none)
  | 98 => some (byVal fun ρ l K => match l with
    | [b1] => (b1.as (.pair (.int .i64) (.pair (.int .i64) (.pair (.int .i64) (.pair (.int .i64) (.pair (.int .i64) (.pair .str (.pair (.row (.int .i64)) .unit)))))))).bind fun c1 => (spec_l10Args k c1).bind fun r => K (tvn .bool r)
    | _ => none)
  | 99 => some (byVal fun ρ l K => match l with
    | [b1, b2] => (b1.as (.pair (.int .i64) (.pair (.int .i64) (.pair (.int .i64) (.pair (.int .i64) (.pair (.int .i64) (.pair .str (.pair (.row (.int .i64)) .unit)))))))).bind fun c1 => (b2.as (.int .i64)).bind fun c2 => (spec_l10Regs k c1 c2).bind fun r => K (tvn .bool r)
    | _ => none)
  | 31 => some (byVal fun ρ l K => match l with
    | [b1] => (b1.as (.int .i64)).bind fun c1 => (spec_WordOk k c1).bind fun r => K (tvn .bool r)
    | _ => none)
  | 78 => some noCon
  | _ => none, fun f r => match f with | 78 => (match r with | 4 => some [2, 5] | 6 => some [2, 5] | _ => none) | _ => none⟩
noncomputable def spec_l10Place (k : Nat) (a1 : Int × Int × Int × Int × Int × ByteArray × (List Int) × Unit) (a2 : Int) : Option (Bool) :=
  abody (E_spec_l10Place k) (arun Tryz.prog (E_spec_l10Place k) k) k 78 Tryz.f78 [.tv (.pair (.int .i64) (.pair (.int .i64) (.pair (.int .i64) (.pair (.int .i64) (.pair (.int .i64) (.pair .str (.pair (.row (.int .i64)) .unit))))))) a1, .int .i64 a2] [] (fin1 .bool)
noncomputable def spec_l10Place.j4 (k : Nat) (x5 : Int) (y0_0 : Int × Int × Int × Int × Int × ByteArray × (List Int) × Unit) : Option (Bool) :=
  resume (E_spec_l10Place k) 78 (acall (E_spec_l10Place k) (arun Tryz.prog (E_spec_l10Place k) k)) k [true, true, true] [] (bodyOf Tryz.f78) ⟨[.undef, .undef, .ptr 0 0 0, .undef, .undef, .int .i64 x5, .undef, .undef, .undef, .undef, .undef, .undef, .undef, .undef, .undef, .undef, .undef, .undef, .undef, .undef, .undef, .undef, .undef, .undef, .undef, .undef, .undef, .undef, .undef, .undef, .undef, .undef, .undef, .undef, .undef, .undef, .undef, .undef, .undef, .undef, .undef, .undef, .undef, .undef, .undef, .undef, .undef, .undef, .undef, .undef, .undef, .undef, .undef, .undef, .undef, .undef, .undef, .undef, .undef, .undef, .undef, .undef, .undef, .undef, .undef, .undef, .undef, .undef, .undef, .undef, .undef, .undef, .undef, .undef, .undef, .undef, .undef, .undef, .undef, .undef, .undef, .undef, .undef, .undef, .undef, .undef, .undef], [some ⟨.raw true 7 (.agg [.int .i64 0, .int .i64 0, .int .i64 0, .int .i64 0, .int .i64 0, .str ByteArray.empty, .nils]) [.tv (.pair (.int .i64) (.pair (.int .i64) (.pair (.int .i64) (.pair (.int .i64) (.pair (.int .i64) (.pair .str (.pair (.row (.int .i64)) .unit))))))) y0_0], true⟩]⟩ (leave (E_spec_l10Place k) Tryz.f78 (fin1 .bool))
noncomputable def spec_l10Place.j6 (k : Nat) (x5 : Int) (y0_0 : Int × Int × Int × Int × Int × ByteArray × (List Int) × Unit) : Option (Bool) :=
  resume (E_spec_l10Place k) 78 (acall (E_spec_l10Place k) (arun Tryz.prog (E_spec_l10Place k) k)) k [true, true, true, true] [] (bodyOf Tryz.f78) ⟨[.undef, .undef, .ptr 0 0 0, .undef, .undef, .int .i64 x5, .undef, .undef, .undef, .undef, .undef, .undef, .undef, .undef, .undef, .undef, .undef, .undef, .undef, .undef, .undef, .undef, .undef, .undef, .undef, .undef, .undef, .undef, .undef, .undef, .undef, .undef, .undef, .undef, .undef, .undef, .undef, .undef, .undef, .undef, .undef, .undef, .undef, .undef, .undef, .undef, .undef, .undef, .undef, .undef, .undef, .undef, .undef, .undef, .undef, .undef, .undef, .undef, .undef, .undef, .undef, .undef, .undef, .undef, .undef, .undef, .undef, .undef, .undef, .undef, .undef, .undef, .undef, .undef, .undef, .undef, .undef, .undef, .undef, .undef, .undef, .undef, .undef, .undef, .undef, .undef, .undef], [some ⟨.raw true 7 (.agg [.int .i64 0, .int .i64 0, .int .i64 0, .int .i64 0, .int .i64 0, .str ByteArray.empty, .nils]) [.tv (.pair (.int .i64) (.pair (.int .i64) (.pair (.int .i64) (.pair (.int .i64) (.pair (.int .i64) (.pair .str (.pair (.row (.int .i64)) .unit))))))) y0_0], true⟩]⟩ (leave (E_spec_l10Place k) Tryz.f78 (fin1 .bool))
theorem spec_l10Place.j4_e (k : Nat) (x5 : Int) (y0_0 : Int × Int × Int × Int × Int × ByteArray × (List Int) × Unit) : spec_l10Place.j4 k x5 y0_0 =
  iteB (y0_0.1 == 19) (bindO (spec_l1In k y0_0.2.2.2.2.1 0 1) fun r5 => (iteB (!(!r5)) (bindO (spec_WordOk k y0_0.2.2.2.2.1) fun r6 => (iteB (!r6) (some false) (gate k (spec_l10Place.j6 k x5 y0_0)))) (some false))) (bindO (spec_WordOk k y0_0.2.2.2.2.1) fun r7 => (iteB (!r7) (some false) (gate k (spec_l10Place.j6 k x5 y0_0)))) := by kernel_rfl
theorem spec_l10Place.j6_e (k : Nat) (x5 : Int) (y0_0 : Int × Int × Int × Int × Int × ByteArray × (List Int) × Unit) : spec_l10Place.j6 k x5 y0_0 =
  iteB (!((IntKind.wrap .i64 ((BitVec.ofInt (IntKind.bits .i64) x5 &&& BitVec.ofInt (IntKind.bits .i64) 1).toNat : Int)) != 0)) (iteB (y0_0.2.1 == 0) (iteB (!((IntKind.wrap .i64 ((BitVec.ofInt (IntKind.bits .i64) x5 &&& BitVec.ofInt (IntKind.bits .i64) 2).toNat : Int)) != 0)) (iteB (y0_0.2.2.1 == 0) (iteB (!((IntKind.wrap .i64 ((BitVec.ofInt (IntKind.bits .i64) x5 &&& BitVec.ofInt (IntKind.bits .i64) 4).toNat : Int)) != 0)) (iteB (y0_0.2.2.2.1 == 0) (iteB (!((IntKind.wrap .i64 ((BitVec.ofInt (IntKind.bits .i64) x5 &&& BitVec.ofInt (IntKind.bits .i64) 8).toNat : Int)) != 0)) (iteB (y0_0.2.2.2.2.1 == 0) (iteB (!((IntKind.wrap .i64 ((BitVec.ofInt (IntKind.bits .i64) x5 &&& BitVec.ofInt (IntKind.bits .i64) 16).toNat : Int)) != 0)) (some (ByteArray.toList y0_0.2.2.2.2.2.1 == ByteArray.toList (⟨#[]⟩ : ByteArray))) (some true)) (some false)) (iteB (!((IntKind.wrap .i64 ((BitVec.ofInt (IntKind.bits .i64) x5 &&& BitVec.ofInt (IntKind.bits .i64) 16).toNat : Int)) != 0)) (some (ByteArray.toList y0_0.2.2.2.2.2.1 == ByteArray.toList (⟨#[]⟩ : ByteArray))) (some true))) (some false)) (iteB (!((IntKind.wrap .i64 ((BitVec.ofInt (IntKind.bits .i64) x5 &&& BitVec.ofInt (IntKind.bits .i64) 8).toNat : Int)) != 0)) (iteB (y0_0.2.2.2.2.1 == 0) (iteB (!((IntKind.wrap .i64 ((BitVec.ofInt (IntKind.bits .i64) x5 &&& BitVec.ofInt (IntKind.bits .i64) 16).toNat : Int)) != 0)) (some (ByteArray.toList y0_0.2.2.2.2.2.1 == ByteArray.toList (⟨#[]⟩ : ByteArray))) (some true)) (some false)) (iteB (!((IntKind.wrap .i64 ((BitVec.ofInt (IntKind.bits .i64) x5 &&& BitVec.ofInt (IntKind.bits .i64) 16).toNat : Int)) != 0)) (some (ByteArray.toList y0_0.2.2.2.2.2.1 == ByteArray.toList (⟨#[]⟩ : ByteArray))) (some true)))) (some false)) (iteB (!((IntKind.wrap .i64 ((BitVec.ofInt (IntKind.bits .i64) x5 &&& BitVec.ofInt (IntKind.bits .i64) 4).toNat : Int)) != 0)) (iteB (y0_0.2.2.2.1 == 0) (iteB (!((IntKind.wrap .i64 ((BitVec.ofInt (IntKind.bits .i64) x5 &&& BitVec.ofInt (IntKind.bits .i64) 8).toNat : Int)) != 0)) (iteB (y0_0.2.2.2.2.1 == 0) (iteB (!((IntKind.wrap .i64 ((BitVec.ofInt (IntKind.bits .i64) x5 &&& BitVec.ofInt (IntKind.bits .i64) 16).toNat : Int)) != 0)) (some (ByteArray.toList y0_0.2.2.2.2.2.1 == ByteArray.toList (⟨#[]⟩ : ByteArray))) (some true)) (some false)) (iteB (!((IntKind.wrap .i64 ((BitVec.ofInt (IntKind.bits .i64) x5 &&& BitVec.ofInt (IntKind.bits .i64) 16).toNat : Int)) != 0)) (some (ByteArray.toList y0_0.2.2.2.2.2.1 == ByteArray.toList (⟨#[]⟩ : ByteArray))) (some true))) (some false)) (iteB (!((IntKind.wrap .i64 ((BitVec.ofInt (IntKind.bits .i64) x5 &&& BitVec.ofInt (IntKind.bits .i64) 8).toNat : Int)) != 0)) (iteB (y0_0.2.2.2.2.1 == 0) (iteB (!((IntKind.wrap .i64 ((BitVec.ofInt (IntKind.bits .i64) x5 &&& BitVec.ofInt (IntKind.bits .i64) 16).toNat : Int)) != 0)) (some (ByteArray.toList y0_0.2.2.2.2.2.1 == ByteArray.toList (⟨#[]⟩ : ByteArray))) (some true)) (some false)) (iteB (!((IntKind.wrap .i64 ((BitVec.ofInt (IntKind.bits .i64) x5 &&& BitVec.ofInt (IntKind.bits .i64) 16).toNat : Int)) != 0)) (some (ByteArray.toList y0_0.2.2.2.2.2.1 == ByteArray.toList (⟨#[]⟩ : ByteArray))) (some true))))) (some false)) (iteB (!((IntKind.wrap .i64 ((BitVec.ofInt (IntKind.bits .i64) x5 &&& BitVec.ofInt (IntKind.bits .i64) 2).toNat : Int)) != 0)) (iteB (y0_0.2.2.1 == 0) (iteB (!((IntKind.wrap .i64 ((BitVec.ofInt (IntKind.bits .i64) x5 &&& BitVec.ofInt (IntKind.bits .i64) 4).toNat : Int)) != 0)) (iteB (y0_0.2.2.2.1 == 0) (iteB (!((IntKind.wrap .i64 ((BitVec.ofInt (IntKind.bits .i64) x5 &&& BitVec.ofInt (IntKind.bits .i64) 8).toNat : Int)) != 0)) (iteB (y0_0.2.2.2.2.1 == 0) (iteB (!((IntKind.wrap .i64 ((BitVec.ofInt (IntKind.bits .i64) x5 &&& BitVec.ofInt (IntKind.bits .i64) 16).toNat : Int)) != 0)) (some (ByteArray.toList y0_0.2.2.2.2.2.1 == ByteArray.toList (⟨#[]⟩ : ByteArray))) (some true)) (some false)) (iteB (!((IntKind.wrap .i64 ((BitVec.ofInt (IntKind.bits .i64) x5 &&& BitVec.ofInt (IntKind.bits .i64) 16).toNat : Int)) != 0)) (some (ByteArray.toList y0_0.2.2.2.2.2.1 == ByteArray.toList (⟨#[]⟩ : ByteArray))) (some true))) (some false)) (iteB (!((IntKind.wrap .i64 ((BitVec.ofInt (IntKind.bits .i64) x5 &&& BitVec.ofInt (IntKind.bits .i64) 8).toNat : Int)) != 0)) (iteB (y0_0.2.2.2.2.1 == 0) (iteB (!((IntKind.wrap .i64 ((BitVec.ofInt (IntKind.bits .i64) x5 &&& BitVec.ofInt (IntKind.bits .i64) 16).toNat : Int)) != 0)) (some (ByteArray.toList y0_0.2.2.2.2.2.1 == ByteArray.toList (⟨#[]⟩ : ByteArray))) (some true)) (some false)) (iteB (!((IntKind.wrap .i64 ((BitVec.ofInt (IntKind.bits .i64) x5 &&& BitVec.ofInt (IntKind.bits .i64) 16).toNat : Int)) != 0)) (some (ByteArray.toList y0_0.2.2.2.2.2.1 == ByteArray.toList (⟨#[]⟩ : ByteArray))) (some true)))) (some false)) (iteB (!((IntKind.wrap .i64 ((BitVec.ofInt (IntKind.bits .i64) x5 &&& BitVec.ofInt (IntKind.bits .i64) 4).toNat : Int)) != 0)) (iteB (y0_0.2.2.2.1 == 0) (iteB (!((IntKind.wrap .i64 ((BitVec.ofInt (IntKind.bits .i64) x5 &&& BitVec.ofInt (IntKind.bits .i64) 8).toNat : Int)) != 0)) (iteB (y0_0.2.2.2.2.1 == 0) (iteB (!((IntKind.wrap .i64 ((BitVec.ofInt (IntKind.bits .i64) x5 &&& BitVec.ofInt (IntKind.bits .i64) 16).toNat : Int)) != 0)) (some (ByteArray.toList y0_0.2.2.2.2.2.1 == ByteArray.toList (⟨#[]⟩ : ByteArray))) (some true)) (some false)) (iteB (!((IntKind.wrap .i64 ((BitVec.ofInt (IntKind.bits .i64) x5 &&& BitVec.ofInt (IntKind.bits .i64) 16).toNat : Int)) != 0)) (some (ByteArray.toList y0_0.2.2.2.2.2.1 == ByteArray.toList (⟨#[]⟩ : ByteArray))) (some true))) (some false)) (iteB (!((IntKind.wrap .i64 ((BitVec.ofInt (IntKind.bits .i64) x5 &&& BitVec.ofInt (IntKind.bits .i64) 8).toNat : Int)) != 0)) (iteB (y0_0.2.2.2.2.1 == 0) (iteB (!((IntKind.wrap .i64 ((BitVec.ofInt (IntKind.bits .i64) x5 &&& BitVec.ofInt (IntKind.bits .i64) 16).toNat : Int)) != 0)) (some (ByteArray.toList y0_0.2.2.2.2.2.1 == ByteArray.toList (⟨#[]⟩ : ByteArray))) (some true)) (some false)) (iteB (!((IntKind.wrap .i64 ((BitVec.ofInt (IntKind.bits .i64) x5 &&& BitVec.ofInt (IntKind.bits .i64) 16).toNat : Int)) != 0)) (some (ByteArray.toList y0_0.2.2.2.2.2.1 == ByteArray.toList (⟨#[]⟩ : ByteArray))) (some true))))) := by kernel_rfl
theorem spec_l10Place_e (k : Nat) (a1 : Int × Int × Int × Int × Int × ByteArray × (List Int) × Unit) (a2 : Int) : spec_l10Place k a1 a2 =
  bindO (spec_l10Has k a1.1) fun r1 => (bindO (spec_l1In k a1.1 1 28) fun r2 => (iteB (!(!r2)) (bindO (spec_l10Args k a1) fun r3 => (iteB (!(!r3)) (bindO (spec_l10Regs k a1 a2) fun r4 => (iteB (!r4) (some false) (gate k (spec_l10Place.j4 k r1 a1)))) (some false))) (some false))) := by kernel_rfl
theorem E_spec_l10Place_calls (k : Nat) : CallsOk Tryz.prog (E_spec_l10Place k) (arun Tryz.prog (E_spec_l10Place k) k) := by
  refine told_run (tyTOk _ _) ?_ (fun run h => regOk (tyTOk _ _) mixOk h) ?_ nameOk k
  · intro g m hg
    simp only [E_spec_l10Place] at hg
    split at hg
    · cases hg
      refine con_byVal fun ρ l K x hm => ?_
      split at hm
      · obtain ⟨c1, h1, hm⟩ := Option.bind_eq_some_iff.1 hm
        obtain ⟨r, hr, hm⟩ := Option.bind_eq_some_iff.1 hm
        exact ⟨_, hm, LawV.reads (.cons (.as h1) .nil) (spec_l10Has_law k c1 r hr)⟩
      · cases hm
    · cases hg
      refine con_byVal fun ρ l K x hm => ?_
      split at hm
      · obtain ⟨c1, h1, hm⟩ := Option.bind_eq_some_iff.1 hm
        obtain ⟨c2, h2, hm⟩ := Option.bind_eq_some_iff.1 hm
        obtain ⟨c3, h3, hm⟩ := Option.bind_eq_some_iff.1 hm
        obtain ⟨r, hr, hm⟩ := Option.bind_eq_some_iff.1 hm
        exact ⟨_, hm, LawV.reads (.cons (.as h1) (.cons (.as h2) (.cons (.as h3) .nil))) (spec_l1In_law k c1 c2 c3 r hr)⟩
      · cases hm
    · cases hg
      refine con_byVal fun ρ l K x hm => ?_
      split at hm
      · obtain ⟨c1, h1, hm⟩ := Option.bind_eq_some_iff.1 hm
        obtain ⟨r, hr, hm⟩ := Option.bind_eq_some_iff.1 hm
        exact ⟨_, hm, LawV.reads (.cons (.as h1) .nil) (spec_l10Args_law k c1 r hr)⟩
      · cases hm
    · cases hg
      refine con_byVal fun ρ l K x hm => ?_
      split at hm
      · obtain ⟨c1, h1, hm⟩ := Option.bind_eq_some_iff.1 hm
        obtain ⟨c2, h2, hm⟩ := Option.bind_eq_some_iff.1 hm
        obtain ⟨r, hr, hm⟩ := Option.bind_eq_some_iff.1 hm
        exact ⟨_, hm, LawV.reads (.cons (.as h1) (.cons (.as h2) .nil)) (spec_l10Regs_law k c1 c2 r hr)⟩
      · cases hm
    · cases hg
      refine con_byVal fun ρ l K x hm => ?_
      split at hm
      · obtain ⟨c1, h1, hm⟩ := Option.bind_eq_some_iff.1 hm
        obtain ⟨r, hr, hm⟩ := Option.bind_eq_some_iff.1 hm
        exact ⟨_, hm, LawV.reads (.cons (.as h1) .nil) (spec_WordOk_law k c1 r hr)⟩
      · cases hm
    · cases hg; exact noCon_ok
    · cases hg
  · intro g hg r
    by_cases h : g = 78
    · subst h; simp [E_spec_l10Place] at hg
    · simp [E_spec_l10Place, h]
theorem f78_okspec_l10Place : Tryz.prog.funcs[78]? = some Tryz.f78 := by kernel_rfl
theorem spec_l10Place_law (k : Nat) (a1 : Int × Int × Int × Int × Int × ByteArray × (List Int) × Unit) (a2 : Int) (x : Bool) (h : spec_l10Place k a1 a2 = some x) : LawV Tryz.prog 78 [.tv (.pair (.int .i64) (.pair (.int .i64) (.pair (.int .i64) (.pair (.int .i64) (.pair (.int .i64) (.pair .str (.pair (.row (.int .i64)) .unit))))))) a1, .int .i64 a2] (tvn .bool x) := by
  unfold spec_l10Place at h
  exact law1 (t := .bool) (tyTOk _ _) (E_spec_l10Place_calls k) mixOk f78_okspec_l10Place (nameOk _ _ f78_okspec_l10Place) (by kernel_rfl) h
/-! spec.l10Label -/
noncomputable def E_spec_l10Label (k : Nat) : Env := ⟨ty, fun g => match g with
  | 79 => some noCon
  | _ => none, fun f r => match f with | 79 => (match r with | 2 => some [0, 1, 5] | _ => none) | _ => none⟩
noncomputable def spec_l10Label (k : Nat) (a1 : List (Int × Int × Int × Int × Int × ByteArray × (List Int) × Unit)) (a2 : Int) : Option (Int) :=
  abody (E_spec_l10Label k) (arun Tryz.prog (E_spec_l10Label k) k) k 79 Tryz.f79 [.tv (.row (.pair (.int .i64) (.pair (.int .i64) (.pair (.int .i64) (.pair (.int .i64) (.pair (.int .i64) (.pair .str (.pair (.row (.int .i64)) .unit)))))))) a1, .int .i64 a2] [] (fin1 (.int .i64))
noncomputable def spec_l10Label.l2 (k n : Nat) (x0 : List (Int × Int × Int × Int × Int × ByteArray × (List Int) × Unit)) (x1 : Int) (x5 : Int) : Option (Int) :=
  resume (E_spec_l10Label k) 79 (acall (E_spec_l10Label k) (arun Tryz.prog (E_spec_l10Label k) k)) k [true, false, true, true] [n] (bodyOf Tryz.f79) ⟨[.tv (.row (.pair (.int .i64) (.pair (.int .i64) (.pair (.int .i64) (.pair (.int .i64) (.pair (.int .i64) (.pair .str (.pair (.row (.int .i64)) .unit)))))))) x0, .int .i64 x1, .undef, .undef, .undef, .int .i64 x5, .undef, .undef, .undef, .undef, .undef, .undef, .undef, .undef, .undef, .undef, .undef, .undef, .undef, .undef, .undef, .undef, .undef, .undef, .undef, .undef, .undef, .undef], []⟩ (leave (E_spec_l10Label k) Tryz.f79 (fin1 (.int .i64)))
theorem spec_l10Label.l2_0 (k : Nat) (x0 : List (Int × Int × Int × Int × Int × ByteArray × (List Int) × Unit)) (x1 : Int) (x5 : Int) : spec_l10Label.l2 k 0 x0 x1 x5 = none := by kernel_rfl
theorem spec_l10Label.l2_s (k n : Nat) (x0 : List (Int × Int × Int × Int × Int × ByteArray × (List Int) × Unit)) (x1 : Int) (x5 : Int) : spec_l10Label.l2 k (n + 1) x0 x1 x5 =
  iteB (decide (x5 < ((List.length x0) : Int))) (iteB (decide (0 ≤ x5)) (iteB (decide (x5 < ((List.length x0) : Int))) (iteB (((List.getD x0 (Int.toNat x5) (Ty.dflt (.pair (.int .i64) (.pair (.int .i64) (.pair (.int .i64) (.pair (.int .i64) (.pair (.int .i64) (.pair .str (.pair (.row (.int .i64)) .unit))))))))).1) == 8) (iteB (decide (0 ≤ x5)) (iteB (decide (x5 < ((List.length x0) : Int))) (iteB (((((((List.getD x0 (Int.toNat x5) (Ty.dflt (.pair (.int .i64) (.pair (.int .i64) (.pair (.int .i64) (.pair (.int .i64) (.pair (.int .i64) (.pair .str (.pair (.row (.int .i64)) .unit))))))))).2).2).2).2).1) == x1) (some x5) (spec_l10Label.l2 k n x0 x1 (IntKind.wrap .i64 (x5 + 1)))) (none)) (none)) (spec_l10Label.l2 k n x0 x1 (IntKind.wrap .i64 (x5 + 1)))) (none)) (none)) (some (-1)) := by kernel_rfl
theorem spec_l10Label_e (k : Nat) (a1 : List (Int × Int × Int × Int × Int × ByteArray × (List Int) × Unit)) (a2 : Int) : spec_l10Label k a1 a2 =
  spec_l10Label.l2 k k a1 a2 0 := by kernel_rfl
theorem E_spec_l10Label_calls (k : Nat) : CallsOk Tryz.prog (E_spec_l10Label k) (arun Tryz.prog (E_spec_l10Label k) k) := by
  refine told_run (tyTOk _ _) ?_ (fun run h => regOk (tyTOk _ _) mixOk h) ?_ nameOk k
  · intro g m hg
    simp only [E_spec_l10Label] at hg
    split at hg
    · cases hg; exact noCon_ok
    · cases hg
  · intro g hg r
    by_cases h : g = 79
    · subst h; simp [E_spec_l10Label] at hg
    · simp [E_spec_l10Label, h]
theorem f79_okspec_l10Label : Tryz.prog.funcs[79]? = some Tryz.f79 := by kernel_rfl
theorem spec_l10Label_law (k : Nat) (a1 : List (Int × Int × Int × Int × Int × ByteArray × (List Int) × Unit)) (a2 : Int) (x : Int) (h : spec_l10Label k a1 a2 = some x) : LawV Tryz.prog 79 [.tv (.row (.pair (.int .i64) (.pair (.int .i64) (.pair (.int .i64) (.pair (.int .i64) (.pair (.int .i64) (.pair .str (.pair (.row (.int .i64)) .unit)))))))) a1, .int .i64 a2] (tvn (.int .i64) x) := by
  unfold spec_l10Label at h
  exact law1 (t := (.int .i64)) (tyTOk _ _) (E_spec_l10Label_calls k) mixOk f79_okspec_l10Label (nameOk _ _ f79_okspec_l10Label) (by kernel_rfl) h
end Go.Proofs.YtcjpjgfjagfjjaaGreat.XFnExactStuck
