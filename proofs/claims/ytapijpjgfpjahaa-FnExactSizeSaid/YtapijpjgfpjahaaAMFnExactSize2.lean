/- Functions of the program as runs of the interpreter: equations, and a law for each. -/
import Derived.Test.YtapijpjgfpjahaaProg
import Derived.Test.YtapijpjgfpjahaaChecked
import Derived.KernelRfl
import Derived.Eval
import Derived.Test.YtapijpjgfpjahaaATyOk
import Derived.Test.YtapijpjgfpjahaaAS32
import Derived.Test.YtapijpjgfpjahaaAMFnExactSize0
import Derived.Test.YtapijpjgfpjahaaAMFnExactSize1
open Go Go.AM Go.AMx Go.Proofs
namespace Go.Proofs.Ytapijpjgfpjahaa.XFnExactSize
set_option linter.unusedVariables false
set_option linter.unusedSimpArgs false
/-! laws.eqFuncS -/
noncomputable def E_laws_eqFuncS (k : Nat) : Env := ⟨ty, fun g => match g with
  | 126 => some (byVal fun ρ l K => match l with
    | [b1, b2] => (b1.as (.pair .str (.pair (.row (.pair .str (.pair .bool .unit))) (.pair .node .unit)))).bind fun c1 => (b2.as (.pair .str (.pair (.row (.pair .str (.pair .bool .unit))) (.pair .node .unit)))).bind fun c2 => (laws_eqFunc k c1 c2).bind fun r => K (tvn .bool r)
    | _ => none)
  | 49 => some noCon
  | _ => none, fun f r => match f with | 49 => (match r with | 4 => some [0, 1, 5] | _ => none) | _ => none⟩
noncomputable def laws_eqFuncS (k : Nat) (a1 : List (ByteArray × (List (ByteArray × Bool × Unit)) × AM.Node × Unit)) (a2 : List (ByteArray × (List (ByteArray × Bool × Unit)) × AM.Node × Unit)) : Option (Bool) :=
  abody (E_laws_eqFuncS k) (arun Try.prog (E_laws_eqFuncS k) k) k 49 Try.f49 [.tv (.row (.pair .str (.pair (.row (.pair .str (.pair .bool .unit))) (.pair .node .unit)))) a1, .tv (.row (.pair .str (.pair (.row (.pair .str (.pair .bool .unit))) (.pair .node .unit)))) a2] [] (fin1 .bool)
noncomputable def laws_eqFuncS.l4 (k n : Nat) (x0 : List (ByteArray × (List (ByteArray × Bool × Unit)) × AM.Node × Unit)) (x1 : List (ByteArray × (List (ByteArray × Bool × Unit)) × AM.Node × Unit)) (x5 : Int) : Option (Bool) :=
  resume (E_laws_eqFuncS k) 49 (acall (E_laws_eqFuncS k) (arun Try.prog (E_laws_eqFuncS k) k)) k [true, true, false, true, true] [n] (bodyOf Try.f49) ⟨[.tv (.row (.pair .str (.pair (.row (.pair .str (.pair .bool .unit))) (.pair .node .unit)))) x0, .tv (.row (.pair .str (.pair (.row (.pair .str (.pair .bool .unit))) (.pair .node .unit)))) x1, .undef, .undef, .undef, .int .i64 x5, .undef, .undef, .undef, .undef, .undef, .undef, .undef, .undef, .undef, .undef, .undef, .undef, .undef, .undef, .undef, .undef, .undef, .undef, .undef, .undef, .undef], []⟩ (leave (E_laws_eqFuncS k) Try.f49 (fin1 .bool))
theorem laws_eqFuncS.l4_0 (k : Nat) (x0 : List (ByteArray × (List (ByteArray × Bool × Unit)) × AM.Node × Unit)) (x1 : List (ByteArray × (List (ByteArray × Bool × Unit)) × AM.Node × Unit)) (x5 : Int) : laws_eqFuncS.l4 k 0 x0 x1 x5 = none := by kernel_rfl
theorem laws_eqFuncS.l4_s (k n : Nat) (x0 : List (ByteArray × (List (ByteArray × Bool × Unit)) × AM.Node × Unit)) (x1 : List (ByteArray × (List (ByteArray × Bool × Unit)) × AM.Node × Unit)) (x5 : Int) : laws_eqFuncS.l4 k (n + 1) x0 x1 x5 =
  iteB (decide (x5 < ((List.length x0) : Int))) (iteB (decide (0 ≤ x5)) (iteB (decide (x5 < ((List.length x0) : Int))) (iteB (decide (0 ≤ x5)) (iteB (decide (x5 < ((List.length x1) : Int))) (bindO (laws_eqFunc k (List.getD x0 (Int.toNat x5) (Ty.dflt (.pair .str (.pair (.row (.pair .str (.pair .bool .unit))) (.pair .node .unit))))) (List.getD x1 (Int.toNat x5) (Ty.dflt (.pair .str (.pair (.row (.pair .str (.pair .bool .unit))) (.pair .node .unit)))))) fun r1 => (iteB (!r1) (some false) (laws_eqFuncS.l4 k n x0 x1 (IntKind.wrap .i64 (x5 + 1))))) (none)) (none)) (none)) (none)) (some true) := by kernel_rfl
theorem laws_eqFuncS_e (k : Nat) (a1 : List (ByteArray × (List (ByteArray × Bool × Unit)) × AM.Node × Unit)) (a2 : List (ByteArray × (List (ByteArray × Bool × Unit)) × AM.Node × Unit)) : laws_eqFuncS k a1 a2 =
  iteB (((List.length a1) : Int) != ((List.length a2) : Int)) (some false) (laws_eqFuncS.l4 k k a1 a2 0) := by kernel_rfl
theorem E_laws_eqFuncS_calls (k : Nat) : CallsOk Try.prog (E_laws_eqFuncS k) (arun Try.prog (E_laws_eqFuncS k) k) := by
  refine told_run (tyTOk _ _) ?_ (fun run h => regOk (tyTOk _ _) mixOk h) ?_ nameOk k
  · intro g m hg
    simp only [E_laws_eqFuncS] at hg
    split at hg
    · cases hg
      refine con_byVal fun ρ l K x hm => ?_
      split at hm
      · obtain ⟨c1, h1, hm⟩ := Option.bind_eq_some_iff.1 hm
        obtain ⟨c2, h2, hm⟩ := Option.bind_eq_some_iff.1 hm
        obtain ⟨r, hr, hm⟩ := Option.bind_eq_some_iff.1 hm
        exact ⟨_, hm, LawV.reads (.cons (.as h1) (.cons (.as h2) .nil)) (laws_eqFunc_law k c1 c2 r hr)⟩
      · cases hm
    · cases hg; exact noCon_ok
    · cases hg
  · intro g hg r
    by_cases h : g = 49
    · subst h; simp [E_laws_eqFuncS] at hg
    · simp [E_laws_eqFuncS, h]
theorem f49_oklaws_eqFuncS : Try.prog.funcs[49]? = some Try.f49 := by kernel_rfl
theorem laws_eqFuncS_law (k : Nat) (a1 : List (ByteArray × (List (ByteArray × Bool × Unit)) × AM.Node × Unit)) (a2 : List (ByteArray × (List (ByteArray × Bool × Unit)) × AM.Node × Unit)) (x : Bool) (h : laws_eqFuncS k a1 a2 = some x) : LawV Try.prog 49 [.tv (.row (.pair .str (.pair (.row (.pair .str (.pair .bool .unit))) (.pair .node .unit)))) a1, .tv (.row (.pair .str (.pair (.row (.pair .str (.pair .bool .unit))) (.pair .node .unit)))) a2] (tvn .bool x) := by
  unfold laws_eqFuncS at h
  exact law1 (t := .bool) (tyTOk _ _) (E_laws_eqFuncS_calls k) mixOk f49_oklaws_eqFuncS (nameOk _ _ f49_oklaws_eqFuncS) (by kernel_rfl) h
/-! laws.FnExactSize -/
noncomputable def E_laws_FnExactSize (k : Nat) : Env := ⟨ty, fun g => match g with
  | 45 => some (byVal fun ρ l K => match l with
    | [b1, b2] => (b1.as (.row (.pair .str (.pair (.row (.pair .str (.pair .bool .unit))) (.pair .node .unit))))).bind fun c1 => (b2.as (.int .i64)).bind fun c2 => (laws_szFuncS k c1 c2).bind fun r => K (tvn (.int .i64) r)
    | _ => none)
  | 47 => some (byVal fun ρ l K => match l with
    | [b1] => (b1.as (.row (.pair .str (.pair (.row (.pair .str (.pair .bool .unit))) (.pair .node .unit))))).bind fun c1 => (laws_toFuncS k c1).bind fun r => K (tvn (.row (.pair .str (.pair (.row (.pair .str (.pair .bool .unit))) (.pair .node .unit)))) r)
    | _ => none)
  | 46 => some (byVal fun ρ l K => match l with
    | [b1] => (b1.as (.row (.pair .str (.pair (.row (.pair .str (.pair .bool .unit))) (.pair .node .unit))))).bind fun c1 => (spec_Size k c1).bind fun r => K (tvn (.int .i64) r)
    | _ => none)
  | 48 => some (byVal fun ρ l K => match l with
    | [b1] => (b1.as (.row (.pair .str (.pair (.row (.pair .str (.pair .bool .unit))) (.pair .node .unit))))).bind fun c1 => (impl_Size k c1).bind fun r => K (tvn (.int .i64) r)
    | _ => none)
  | 49 => some (byVal fun ρ l K => match l with
    | [b1, b2] => (b1.as (.row (.pair .str (.pair (.row (.pair .str (.pair .bool .unit))) (.pair .node .unit))))).bind fun c1 => (b2.as (.row (.pair .str (.pair (.row (.pair .str (.pair .bool .unit))) (.pair .node .unit))))).bind fun c2 => (laws_eqFuncS k c1 c2).bind fun r => K (tvn .bool r)
    | _ => none)
  | _ => none, fun _ _ => none⟩
noncomputable def laws_FnExactSize (k : Nat) (a1 : List (ByteArray × (List (ByteArray × Bool × Unit)) × AM.Node × Unit)) : Option (Bool) :=
  abody (E_laws_FnExactSize k) (arun Try.prog (E_laws_FnExactSize k) k) k 9 Try.f9 [.tv (.row (.pair .str (.pair (.row (.pair .str (.pair .bool .unit))) (.pair .node .unit)))) a1] [] (fin1 .bool)
theorem laws_FnExactSize_e (k : Nat) (a1 : List (ByteArray × (List (ByteArray × Bool × Unit)) × AM.Node × Unit)) : laws_FnExactSize k a1 =
  bindO (laws_szFuncS k a1 1048576) fun r1 => (iteB (decide (r1 < 0)) (some true) (bindO (laws_toFuncS k a1) fun r2 => (bindO (spec_Size k r2) fun r3 => (bindO (laws_toFuncS k a1) fun r4 => (bindO (impl_Size k r4) fun r5 => (iteB (r5 != r3) (some false) (bindO (laws_toFuncS k a1) fun r6 => (bindO (laws_eqFuncS k r4 r6) fun r7 => (iteB (!r7) (some false) (some true)))))))))) := by kernel_rfl
theorem E_laws_FnExactSize_calls (k : Nat) : CallsOk Try.prog (E_laws_FnExactSize k) (arun Try.prog (E_laws_FnExactSize k) k) := by
  refine told_run (tyTOk _ _) ?_ (fun run h => regOk (tyTOk _ _) mixOk h) ?_ nameOk k
  · intro g m hg
    simp only [E_laws_FnExactSize] at hg
    split at hg
    · cases hg
      refine con_byVal fun ρ l K x hm => ?_
      split at hm
      · obtain ⟨c1, h1, hm⟩ := Option.bind_eq_some_iff.1 hm
        obtain ⟨c2, h2, hm⟩ := Option.bind_eq_some_iff.1 hm
        obtain ⟨r, hr, hm⟩ := Option.bind_eq_some_iff.1 hm
        exact ⟨_, hm, LawV.reads (.cons (.as h1) (.cons (.as h2) .nil)) (laws_szFuncS_law k c1 c2 r hr)⟩
      · cases hm
    · cases hg
      refine con_byVal fun ρ l K x hm => ?_
      split at hm
      · obtain ⟨c1, h1, hm⟩ := Option.bind_eq_some_iff.1 hm
        obtain ⟨r, hr, hm⟩ := Option.bind_eq_some_iff.1 hm
        exact ⟨_, hm, LawV.reads (.cons (.as h1) .nil) (laws_toFuncS_law k c1 r hr)⟩
      · cases hm
    · cases hg
      refine con_byVal fun ρ l K x hm => ?_
      split at hm
      · obtain ⟨c1, h1, hm⟩ := Option.bind_eq_some_iff.1 hm
        obtain ⟨r, hr, hm⟩ := Option.bind_eq_some_iff.1 hm
        exact ⟨_, hm, LawV.reads (.cons (.as h1) .nil) (spec_Size_law k c1 r hr)⟩
      · cases hm
    · cases hg
      refine con_byVal fun ρ l K x hm => ?_
      split at hm
      · obtain ⟨c1, h1, hm⟩ := Option.bind_eq_some_iff.1 hm
        obtain ⟨r, hr, hm⟩ := Option.bind_eq_some_iff.1 hm
        exact ⟨_, hm, LawV.reads (.cons (.as h1) .nil) (impl_Size_law k c1 r hr)⟩
      · cases hm
    · cases hg
      refine con_byVal fun ρ l K x hm => ?_
      split at hm
      · obtain ⟨c1, h1, hm⟩ := Option.bind_eq_some_iff.1 hm
        obtain ⟨c2, h2, hm⟩ := Option.bind_eq_some_iff.1 hm
        obtain ⟨r, hr, hm⟩ := Option.bind_eq_some_iff.1 hm
        exact ⟨_, hm, LawV.reads (.cons (.as h1) (.cons (.as h2) .nil)) (laws_eqFuncS_law k c1 c2 r hr)⟩
      · cases hm
    · cases hg
  · intro g _ r; rfl
theorem f9_oklaws_FnExactSize : Try.prog.funcs[9]? = some Try.f9 := by kernel_rfl
theorem laws_FnExactSize_law (k : Nat) (a1 : List (ByteArray × (List (ByteArray × Bool × Unit)) × AM.Node × Unit)) (x : Bool) (h : laws_FnExactSize k a1 = some x) : LawV Try.prog 9 [.tv (.row (.pair .str (.pair (.row (.pair .str (.pair .bool .unit))) (.pair .node .unit)))) a1] (tvn .bool x) := by
  unfold laws_FnExactSize at h
  exact law1 (t := .bool) (tyTOk _ _) (E_laws_FnExactSize_calls k) mixOk f9_oklaws_FnExactSize (nameOk _ _ f9_oklaws_FnExactSize) (by kernel_rfl) h
end Go.Proofs.Ytapijpjgfpjahaa.XFnExactSize
