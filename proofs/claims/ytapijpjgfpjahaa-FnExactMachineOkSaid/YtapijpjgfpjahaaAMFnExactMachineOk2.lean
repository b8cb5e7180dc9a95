/- Functions of the program as runs of the interpreter: equations, and a law for each. -/
import Derived.Test.YtapijpjgfpjahaaProg
import Derived.Test.YtapijpjgfpjahaaChecked
import Derived.KernelRfl
import Derived.Eval
import Derived.Test.YtapijpjgfpjahaaATyOk
import Derived.Test.YtapijpjgfpjahaaAS32
import Derived.Test.YtapijpjgfpjahaaAMFnExactMachineOk1
open Go Go.AM Go.AMx Go.Proofs
namespace Go.Proofs.Ytapijpjgfpjahaa.XFnExactMachineOk
set_option linter.unusedVariables false
set_option linter.unusedSimpArgs false
/-! spec.MachineOk -/
noncomputable def E_spec_MachineOk (k : Nat) : Env := ⟨ty, fun g => match g with
  | 69 => some (byVal fun ρ l K => match l with
    | [b1, b2, b3] => (b1.as (.int .i64)).bind fun c1 => (b2.as (.int .i64)).bind fun c2 => (b3.as (.int .i64)).bind fun c3 => (spec_l1In k c1 c2 c3).bind fun r => K (tvn .bool r)
    | _ => none)
  | 70 => some (byVal fun ρ l K => match l with
    | [b1] => (b1.as (.row (.int .i64))).bind fun c1 => (spec_l3Words k c1).bind fun r => K (tvn .bool r)
    | _ => none)
  | 71 => some (byVal fun ρ l K => match l with
    | [b1] => (b1.as (.int .i64)).bind fun c1 => (spec_WordOk k c1).bind fun r => K (tvn .bool r)
    | _ => none)
  | 72 => some (byVal fun ρ l K => match l with
    | [b1] => (b1.as (.pair (.int .i64) (.pair (.int .i64) (.pair (.int .i64) (.pair (.int .i64) (.pair (.int .i64) (.pair (.int .i64) .unit))))))).bind fun c1 => (spec_InsOk k c1).bind fun r => K (tvn .bool r)
    | _ => none)
  | 73 => some (byVal fun ρ l K => match l with
    | [b1] => (b1.as (.pair (.int .i64) (.pair (.int .i64) (.pair (.row (.int .i64)) .unit)))).bind fun c1 => (spec_CoreOk k c1).bind fun r => K (tvn .bool r)
    | _ => none)
  | 13 => some noCon
  | _ => none, fun f r => match f with | 13 => (match r with | 3 => some [1] | 4 => some [1, 3] | 9 => some [1, 4] | 14 => some [1, 5] | _ => none) | _ => none⟩
noncomputable def spec_MachineOk (k : Nat) (a1 : (List (Int × Int × Int × Int × Int × Int × Unit)) × (List Int) × (List (Int × Int × (List Int) × Unit)) × (List Int) × (List (Int × Int × Unit)) × Bool × Int × Unit) : Option (Bool) :=
  abody (E_spec_MachineOk k) (arun Try.prog (E_spec_MachineOk k) k) k 13 Try.f13 [.tv (.pair (.row (.pair (.int .i64) (.pair (.int .i64) (.pair (.int .i64) (.pair (.int .i64) (.pair (.int .i64) (.pair (.int .i64) .unit))))))) (.pair (.row (.int .i64)) (.pair (.row (.pair (.int .i64) (.pair (.int .i64) (.pair (.row (.int .i64)) .unit)))) (.pair (.row (.int .i64)) (.pair (.row (.pair (.int .i64) (.pair (.int .i64) .unit))) (.pair .bool (.pair (.int .i64) .unit))))))) a1] [] (fin1 .bool)
noncomputable def spec_MachineOk.j3 (k : Nat) (y0_0 : (List (Int × Int × Int × Int × Int × Int × Unit)) × (List Int) × (List (Int × Int × (List Int) × Unit)) × (List Int) × (List (Int × Int × Unit)) × Bool × Int × Unit) : Option (Bool) :=
  resume (E_spec_MachineOk k) 13 (acall (E_spec_MachineOk k) (arun Try.prog (E_spec_MachineOk k) k)) k [true, true] [] (bodyOf Try.f13) ⟨[.undef, .ptr 0 0 0, .undef, .undef, .undef, .undef, .undef, .undef, .undef, .undef, .undef, .undef, .undef, .undef, .undef, .undef, .undef, .undef, .undef, .undef, .undef, .undef, .undef, .undef, .undef, .undef, .undef, .undef, .undef, .undef, .undef, .undef, .undef, .undef, .undef, .undef, .undef, .undef, .undef, .undef, .undef, .undef, .undef, .undef, .undef, .undef, .undef, .undef, .undef, .undef, .undef, .undef, .undef, .undef, .undef, .undef, .undef, .undef, .undef, .undef, .undef, .undef, .undef, .undef, .undef, .undef, .undef, .undef, .undef, .undef, .undef, .undef, .undef, .undef, .undef, .undef, .undef, .undef, .undef, .undef, .undef, .undef, .undef, .undef, .undef, .undef, .undef, .undef, .undef, .undef, .undef, .undef, .undef, .undef, .undef, .undef, .undef, .undef, .undef, .undef, .undef, .undef, .undef, .undef, .undef, .undef, .undef], [some ⟨.raw true 7 (.agg [.nils, .nils, .nils, .nils, .nils, .bool false, .int .i64 0]) [.tv (.pair (.row (.pair (.int .i64) (.pair (.int .i64) (.pair (.int .i64) (.pair (.int .i64) (.pair (.int .i64) (.pair (.int .i64) .unit))))))) (.pair (.row (.int .i64)) (.pair (.row (.pair (.int .i64) (.pair (.int .i64) (.pair (.row (.int .i64)) .unit)))) (.pair (.row (.int .i64)) (.pair (.row (.pair (.int .i64) (.pair (.int .i64) .unit))) (.pair .bool (.pair (.int .i64) .unit))))))) y0_0], true⟩]⟩ (leave (E_spec_MachineOk k) Try.f13 (fin1 .bool))
noncomputable def spec_MachineOk.l4 (k n : Nat) (x3 : Int) (y0_0 : (List (Int × Int × Int × Int × Int × Int × Unit)) × (List Int) × (List (Int × Int × (List Int) × Unit)) × (List Int) × (List (Int × Int × Unit)) × Bool × Int × Unit) : Option (Bool) :=
  resume (E_spec_MachineOk k) 13 (acall (E_spec_MachineOk k) (arun Try.prog (E_spec_MachineOk k) k)) k [true, true, false, true, true] [n] (bodyOf Try.f13) ⟨[.undef, .ptr 0 0 0, .undef, .int .i64 x3, .undef, .undef, .undef, .undef, .undef, .undef, .undef, .undef, .undef, .undef, .undef, .undef, .undef, .undef, .undef, .undef, .undef, .undef, .undef, .undef, .undef, .undef, .undef, .undef, .undef, .undef, .undef, .undef, .undef, .undef, .undef, .undef, .undef, .undef, .undef, .undef, .undef, .undef, .undef, .undef, .undef, .undef, .undef, .undef, .undef, .undef, .undef, .undef, .undef, .undef, .undef, .undef, .undef, .undef, .undef, .undef, .undef, .undef, .undef, .undef, .undef, .undef, .undef, .undef, .undef, .undef, .undef, .undef, .undef, .undef, .undef, .undef, .undef, .undef, .undef, .undef, .undef, .undef, .undef, .undef, .undef, .undef, .undef, .undef, .undef, .undef, .undef, .undef, .undef, .undef, .undef, .undef, .undef, .undef, .undef, .undef, .undef, .undef, .undef, .undef, .undef, .undef, .undef], [some ⟨.raw true 7 (.agg [.nils, .nils, .nils, .nils, .nils, .bool false, .int .i64 0]) [.tv (.pair (.row (.pair (.int .i64) (.pair (.int .i64) (.pair (.int .i64) (.pair (.int .i64) (.pair (.int .i64) (.pair (.int .i64) .unit))))))) (.pair (.row (.int .i64)) (.pair (.row (.pair (.int .i64) (.pair (.int .i64) (.pair (.row (.int .i64)) .unit)))) (.pair (.row (.int .i64)) (.pair (.row (.pair (.int .i64) (.pair (.int .i64) .unit))) (.pair .bool (.pair (.int .i64) .unit))))))) y0_0], true⟩]⟩ (leave (E_spec_MachineOk k) Try.f13 (fin1 .bool))
noncomputable def spec_MachineOk.l9 (k n : Nat) (x4 : Int) (y0_0 : (List (Int × Int × Int × Int × Int × Int × Unit)) × (List Int) × (List (Int × Int × (List Int) × Unit)) × (List Int) × (List (Int × Int × Unit)) × Bool × Int × Unit) : Option (Bool) :=
  resume (E_spec_MachineOk k) 13 (acall (E_spec_MachineOk k) (arun Try.prog (E_spec_MachineOk k) k)) k [true, true, true, false, true, true] [n] (bodyOf Try.f13) ⟨[.undef, .ptr 0 0 0, .undef, .undef, .int .i64 x4, .undef, .undef, .undef, .undef, .undef, .undef, .undef, .undef, .undef, .undef, .undef, .undef, .undef, .undef, .undef, .undef, .undef, .undef, .undef, .undef, .undef, .undef, .undef, .undef, .undef, .undef, .undef, .undef, .undef, .undef, .undef, .undef, .undef, .undef, .undef, .undef, .undef, .undef, .undef, .undef, .undef, .undef, .undef, .undef, .undef, .undef, .undef, .undef, .undef, .undef, .undef, .undef, .undef, .undef, .undef, .undef, .undef, .undef, .undef, .undef, .undef, .undef, .undef, .undef, .undef, .undef, .undef, .undef, .undef, .undef, .undef, .undef, .undef, .undef, .undef, .undef, .undef, .undef, .undef, .undef, .undef, .undef, .undef, .undef, .undef, .undef, .undef, .undef, .undef, .undef, .undef, .undef, .undef, .undef, .undef, .undef, .undef, .undef, .undef, .undef, .undef, .undef], [some ⟨.raw true 7 (.agg [.nils, .nils, .nils, .nils, .nils, .bool false, .int .i64 0]) [.tv (.pair (.row (.pair (.int .i64) (.pair (.int .i64) (.pair (.int .i64) (.pair (.int .i64) (.pair (.int .i64) (.pair (.int .i64) .unit))))))) (.pair (.row (.int .i64)) (.pair (.row (.pair (.int .i64) (.pair (.int .i64) (.pair (.row (.int .i64)) .unit)))) (.pair (.row (.int .i64)) (.pair (.row (.pair (.int .i64) (.pair (.int .i64) .unit))) (.pair .bool (.pair (.int .i64) .unit))))))) y0_0], true⟩]⟩ (leave (E_spec_MachineOk k) Try.f13 (fin1 .bool))
noncomputable def spec_MachineOk.l14 (k n : Nat) (x5 : Int) (y0_0 : (List (Int × Int × Int × Int × Int × Int × Unit)) × (List Int) × (List (Int × Int × (List Int) × Unit)) × (List Int) × (List (Int × Int × Unit)) × Bool × Int × Unit) : Option (Bool) :=
  resume (E_spec_MachineOk k) 13 (acall (E_spec_MachineOk k) (arun Try.prog (E_spec_MachineOk k) k)) k [true, true, true, true, false, true, true] [n] (bodyOf Try.f13) ⟨[.undef, .ptr 0 0 0, .undef, .undef, .undef, .int .i64 x5, .undef, .undef, .undef, .undef, .undef, .undef, .undef, .undef, .undef, .undef, .undef, .undef, .undef, .undef, .undef, .undef, .undef, .undef, .undef, .undef, .undef, .undef, .undef, .undef, .undef, .undef, .undef, .undef, .undef, .undef, .undef, .undef, .undef, .undef, .undef, .undef, .undef, .undef, .undef, .undef, .undef, .undef, .undef, .undef, .undef, .undef, .undef, .undef, .undef, .undef, .undef, .undef, .undef, .undef, .undef, .undef, .undef, .undef, .undef, .undef, .undef, .undef, .undef, .undef, .undef, .undef, .undef, .undef, .undef, .undef, .undef, .undef, .undef, .undef, .undef, .undef, .undef, .undef, .undef, .undef, .undef, .undef, .undef, .undef, .undef, .undef, .undef, .undef, .undef, .undef, .undef, .undef, .undef, .undef, .undef, .undef, .undef, .undef, .undef, .undef, .undef], [some ⟨.raw true 7 (.agg [.nils, .nils, .nils, .nils, .nils, .bool false, .int .i64 0]) [.tv (.pair (.row (.pair (.int .i64) (.pair (.int .i64) (.pair (.int .i64) (.pair (.int .i64) (.pair (.int .i64) (.pair (.int .i64) .unit))))))) (.pair (.row (.int .i64)) (.pair (.row (.pair (.int .i64) (.pair (.int .i64) (.pair (.row (.int .i64)) .unit)))) (.pair (.row (.int .i64)) (.pair (.row (.pair (.int .i64) (.pair (.int .i64) .unit))) (.pair .bool (.pair (.int .i64) .unit))))))) y0_0], true⟩]⟩ (leave (E_spec_MachineOk k) Try.f13 (fin1 .bool))
theorem spec_MachineOk.j3_e (k : Nat) (y0_0 : (List (Int × Int × Int × Int × Int × Int × Unit)) × (List Int) × (List (Int × Int × (List Int) × Unit)) × (List Int) × (List (Int × Int × Unit)) × Bool × Int × Unit) : spec_MachineOk.j3 k y0_0 =
  spec_MachineOk.l4 k k 0 y0_0 := by kernel_rfl
theorem spec_MachineOk.l4_0 (k : Nat) (x3 : Int) (y0_0 : (List (Int × Int × Int × Int × Int × Int × Unit)) × (List Int) × (List (Int × Int × (List Int) × Unit)) × (List Int) × (List (Int × Int × Unit)) × Bool × Int × Unit) : spec_MachineOk.l4 k 0 x3 y0_0 = none := by kernel_rfl
theorem spec_MachineOk.l4_s (k n : Nat) (x3 : Int) (y0_0 : (List (Int × Int × Int × Int × Int × Int × Unit)) × (List Int) × (List (Int × Int × (List Int) × Unit)) × (List Int) × (List (Int × Int × Unit)) × Bool × Int × Unit) : spec_MachineOk.l4 k (n + 1) x3 y0_0 =
  iteB (decide (x3 < ((List.length y0_0.1) : Int))) (iteB (decide (0 ≤ x3)) (iteB (decide (x3 < ((List.length y0_0.1) : Int))) (bindO (spec_InsOk k (List.getD y0_0.1 (Int.toNat x3) (Ty.dflt (.pair (.int .i64) (.pair (.int .i64) (.pair (.int .i64) (.pair (.int .i64) (.pair (.int .i64) (.pair (.int .i64) .unit))))))))) fun r6 => (iteB (!r6) (some false) (spec_MachineOk.l4 k n (IntKind.wrap .i64 (x3 + 1)) y0_0))) (none)) (none)) (spec_MachineOk.l9 k k 0 y0_0) := by kernel_rfl
theorem spec_MachineOk.l9_0 (k : Nat) (x4 : Int) (y0_0 : (List (Int × Int × Int × Int × Int × Int × Unit)) × (List Int) × (List (Int × Int × (List Int) × Unit)) × (List Int) × (List (Int × Int × Unit)) × Bool × Int × Unit) : spec_MachineOk.l9 k 0 x4 y0_0 = none := by kernel_rfl
theorem spec_MachineOk.l9_s (k n : Nat) (x4 : Int) (y0_0 : (List (Int × Int × Int × Int × Int × Int × Unit)) × (List Int) × (List (Int × Int × (List Int) × Unit)) × (List Int) × (List (Int × Int × Unit)) × Bool × Int × Unit) : spec_MachineOk.l9 k (n + 1) x4 y0_0 =
  iteB (decide (x4 < ((List.length y0_0.2.2.1) : Int))) (iteB (decide (0 ≤ x4)) (iteB (decide (x4 < ((List.length y0_0.2.2.1) : Int))) (bindO (spec_CoreOk k (List.getD y0_0.2.2.1 (Int.toNat x4) (Ty.dflt (.pair (.int .i64) (.pair (.int .i64) (.pair (.row (.int .i64)) .unit)))))) fun r7 => (iteB (!r7) (some false) (spec_MachineOk.l9 k n (IntKind.wrap .i64 (x4 + 1)) y0_0))) (none)) (none)) (spec_MachineOk.l14 k k 0 y0_0) := by kernel_rfl
theorem spec_MachineOk.l14_0 (k : Nat) (x5 : Int) (y0_0 : (List (Int × Int × Int × Int × Int × Int × Unit)) × (List Int) × (List (Int × Int × (List Int) × Unit)) × (List Int) × (List (Int × Int × Unit)) × Bool × Int × Unit) : spec_MachineOk.l14 k 0 x5 y0_0 = none := by kernel_rfl
theorem spec_MachineOk.l14_s (k n : Nat) (x5 : Int) (y0_0 : (List (Int × Int × Int × Int × Int × Int × Unit)) × (List Int) × (List (Int × Int × (List Int) × Unit)) × (List Int) × (List (Int × Int × Unit)) × Bool × Int × Unit) : spec_MachineOk.l14 k (n + 1) x5 y0_0 =
  iteB (decide (x5 < ((List.length y0_0.2.2.2.2.1) : Int))) (iteB (decide (0 ≤ x5)) (iteB (decide (x5 < ((List.length y0_0.2.2.2.2.1) : Int))) (bindO (spec_WordOk k ((List.getD y0_0.2.2.2.2.1 (Int.toNat x5) (Ty.dflt (.pair (.int .i64) (.pair (.int .i64) .unit)))).1)) fun r8 => (iteB (!(!r8)) (iteB (decide (0 ≤ x5)) (iteB (decide (x5 < ((List.length y0_0.2.2.2.2.1) : Int))) (bindO (spec_WordOk k (((List.getD y0_0.2.2.2.2.1 (Int.toNat x5) (Ty.dflt (.pair (.int .i64) (.pair (.int .i64) .unit)))).2).1)) fun r9 => (iteB (!r9) (some false) (spec_MachineOk.l14 k n (IntKind.wrap .i64 (x5 + 1)) y0_0))) (none)) (none)) (some false))) (none)) (none)) (some true) := by kernel_rfl
theorem spec_MachineOk_e (k : Nat) (a1 : (List (Int × Int × Int × Int × Int × Int × Unit)) × (List Int) × (List (Int × Int × (List Int) × Unit)) × (List Int) × (List (Int × Int × Unit)) × Bool × Int × Unit) : spec_MachineOk k a1 =
  bindO (spec_l1In k ((List.length a1.1) : Int) 1 3000) fun r1 => (iteB (!(!r1)) (iteB (!(decide (((List.length a1.2.1) : Int) > 4000))) (bindO (spec_l1In k ((List.length a1.2.2.1) : Int) 1 8) fun r2 => (iteB (!(!r2)) (iteB (!(decide (((List.length a1.2.2.2.1) : Int) > 3000))) (iteB (!(decide (((List.length a1.2.2.2.2.1) : Int) > 3000))) (bindO (spec_l3Words k a1.2.1) fun r3 => (iteB (!(!r3)) (bindO (spec_l3Words k a1.2.2.2.1) fun r4 => (iteB (!(!r4)) (bindO (spec_WordOk k a1.2.2.2.2.2.2.1) fun r5 => (iteB (!r5) (some false) (gate k (spec_MachineOk.j3 k a1)))) (some false))) (some false))) (some false)) (some false)) (some false))) (some false)) (some false)) := by kernel_rfl
theorem E_spec_MachineOk_calls (k : Nat) : CallsOk Try.prog (E_spec_MachineOk k) (arun Try.prog (E_spec_MachineOk k) k) := by
  refine told_run (tyTOk _ _) ?_ (fun run h => regOk (tyTOk _ _) mixOk h) ?_ nameOk k
  · intro g m hg
    simp only [E_spec_MachineOk] at hg
    split at hg
    · cases hg
      refine con_byVal fun ρ l K x hm => ?_
      split at hm
      · obtain ⟨c1, h1, hm⟩ := Option.bind_eq_some_iff.1 hm
        obtain ⟨c2, h2, hm⟩ := Option.bind_eq_some_iff.1 hm
        obtain ⟨c3, h3, hm⟩ := Option.bind_eq_some_iff.1 hm
        obtain ⟨r, hr, hm⟩ := Option.bind_eq_some_iff.1 hm
        exact ⟨_, hm, LawV.reads (.cons (.as h1) (.cons (.as h2) (.cons (.as h3) .nil))) (spec_l1In_law k c1 c2 c3 r hr)⟩
      · cases hm
    · cases hg
      refine con_byVal fun ρ l K x hm => ?_
      split at hm
      · obtain ⟨c1, h1, hm⟩ := Option.bind_eq_some_iff.1 hm
        obtain ⟨r, hr, hm⟩ := Option.bind_eq_some_iff.1 hm
        exact ⟨_, hm, LawV.reads (.cons (.as h1) .nil) (spec_l3Words_law k c1 r hr)⟩
      · cases hm
    · cases hg
      refine con_byVal fun ρ l K x hm => ?_
      split at hm
      · obtain ⟨c1, h1, hm⟩ := Option.bind_eq_some_iff.1 hm
        obtain ⟨r, hr, hm⟩ := Option.bind_eq_some_iff.1 hm
        exact ⟨_, hm, LawV.reads (.cons (.as h1) .nil) (spec_WordOk_law k c1 r hr)⟩
      · cases hm
    · cases hg
      refine con_byVal fun ρ l K x hm => ?_
      split at hm
      · obtain ⟨c1, h1, hm⟩ := Option.bind_eq_some_iff.1 hm
        obtain ⟨r, hr, hm⟩ := Option.bind_eq_some_iff.1 hm
        exact ⟨_, hm, LawV.reads (.cons (.as h1) .nil) (spec_InsOk_law k c1 r hr)⟩
      · cases hm
    · cases hg
      refine con_byVal fun ρ l K x hm => ?_
      split at hm
      · obtain ⟨c1, h1, hm⟩ := Option.bind_eq_some_iff.1 hm
        obtain ⟨r, hr, hm⟩ := Option.bind_eq_some_iff.1 hm
        exact ⟨_, hm, LawV.reads (.cons (.as h1) .nil) (spec_CoreOk_law k c1 r hr)⟩
      · cases hm
    · cases hg; exact noCon_ok
    · cases hg
  · intro g hg r
    by_cases h : g = 13
    · subst h; simp [E_spec_MachineOk] at hg
    · simp [E_spec_MachineOk, h]
theorem f13_okspec_MachineOk : Try.prog.funcs[13]? = some Try.f13 := by kernel_rfl
theorem spec_MachineOk_law (k : Nat) (a1 : (List (Int × Int × Int × Int × Int × Int × Unit)) × (List Int) × (List (Int × Int × (List Int) × Unit)) × (List Int) × (List (Int × Int × Unit)) × Bool × Int × Unit) (x : Bool) (h : spec_MachineOk k a1 = some x) : LawV Try.prog 13 [.tv (.pair (.row (.pair (.int .i64) (.pair (.int .i64) (.pair (.int .i64) (.pair (.int .i64) (.pair (.int .i64) (.pair (.int .i64) .unit))))))) (.pair (.row (.int .i64)) (.pair (.row (.pair (.int .i64) (.pair (.int .i64) (.pair (.row (.int .i64)) .unit)))) (.pair (.row (.int .i64)) (.pair (.row (.pair (.int .i64) (.pair (.int .i64) .unit))) (.pair .bool (.pair (.int .i64) .unit))))))) a1] (tvn .bool x) := by
  unfold spec_MachineOk at h
  exact law1 (t := .bool) (tyTOk _ _) (E_spec_MachineOk_calls k) mixOk f13_okspec_MachineOk (nameOk _ _ f13_okspec_MachineOk) (by kernel_rfl) h
/-! impl.within -/
noncomputable def E_impl_within (k : Nat) : Env := ⟨ty, fun _ => none, fun _ _ => none⟩
noncomputable def impl_within (k : Nat) (a1 : Int) (a2 : Int) (a3 : Int) : Option (Bool) :=
  abody (E_impl_within k) (arun Try.prog (E_impl_within k) k) k 78 Try.f78 [.int .i64 a1, .int .i64 a2, .int .i64 a3] [] (fin1 .bool)
theorem impl_within_e (k : Nat) (a1 : Int) (a2 : Int) (a3 : Int) : impl_within k a1 a2 a3 =
  iteB (decide (a1 ≥ a2)) (some (decide (a1 ≤ a3))) (some false) := by kernel_rfl
theorem E_impl_within_calls (k : Nat) : CallsOk Try.prog (E_impl_within k) (arun Try.prog (E_impl_within k) k) := by
  refine told_run (tyTOk _ _) ?_ (fun run h => regOk (tyTOk _ _) mixOk h) ?_ nameOk k
  · intro g m hg
    cases hg
  · intro g _ r; rfl
theorem f78_okimpl_within : Try.prog.funcs[78]? = some Try.f78 := by kernel_rfl
theorem impl_within_law (k : Nat) (a1 : Int) (a2 : Int) (a3 : Int) (x : Bool) (h : impl_within k a1 a2 a3 = some x) : LawV Try.prog 78 [.int .i64 a1, .int .i64 a2, .int .i64 a3] (tvn .bool x) := by
  unfold impl_within at h
  exact law1 (t := .bool) (tyTOk _ _) (E_impl_within_calls k) mixOk f78_okimpl_within (nameOk _ _ f78_okimpl_within) (by kernel_rfl) h
/-! impl.has -/
noncomputable def E_impl_has (k : Nat) : Env := ⟨ty, fun _ => none, fun _ _ => none⟩
noncomputable def impl_has (k : Nat) (a1 : Int) : Option (ByteArray) :=
  abody (E_impl_has k) (arun Try.prog (E_impl_has k) k) k 114 Try.f114 [.int .i64 a1] [] (fin1 .str)
theorem impl_has_e (k : Nat) (a1 : Int) : impl_has k a1 =
  iteB (a1 == 1) (some (⟨#[82, 78]⟩ : ByteArray)) (iteB (a1 == 2) (some (⟨#[82, 65]⟩ : ByteArray)) (iteB (a1 == 3) (some (⟨#[82, 65, 66]⟩ : ByteArray)) (iteB (a1 == 4) (some (⟨#[82, 65, 66]⟩ : ByteArray)) (iteB (a1 == 5) (some (⟨#[82, 65, 66]⟩ : ByteArray)) (iteB (a1 == 6) (some (⟨#[82, 65, 66]⟩ : ByteArray)) (iteB (a1 == 7) (some (⟨#[82, 65, 66]⟩ : ByteArray)) (iteB (a1 == 10) (some (⟨#[82, 65, 66]⟩ : ByteArray)) (iteB (a1 == 8) (some (⟨#[82, 65, 78]⟩ : ByteArray)) (iteB (a1 == 9) (some (⟨#[65, 66, 78]⟩ : ByteArray)) (iteB (a1 == 11) (some (⟨#[78]⟩ : ByteArray)) (iteB (a1 == 12) (some (⟨#[65, 78]⟩ : ByteArray)) (iteB (a1 == 13) (some (⟨#[78, 77]⟩ : ByteArray)) (iteB (a1 == 14) (some (⟨#[45]⟩ : ByteArray)) (iteB (a1 == 15) (some (⟨#[65]⟩ : ByteArray)) (iteB (a1 == 19) (some (⟨#[65]⟩ : ByteArray)) (iteB (a1 == 16) (some (⟨#[65, 66]⟩ : ByteArray)) (iteB (a1 == 17) (some (⟨#[65, 66]⟩ : ByteArray)) (iteB (a1 == 18) (some (⟨#[82]⟩ : ByteArray)) (some (⟨#[]⟩ : ByteArray)))))))))))))))))))) := by kernel_rfl
theorem E_impl_has_calls (k : Nat) : CallsOk Try.prog (E_impl_has k) (arun Try.prog (E_impl_has k) k) := by
  refine told_run (tyTOk _ _) ?_ (fun run h => regOk (tyTOk _ _) mixOk h) ?_ nameOk k
  · intro g m hg
    cases hg
  · intro g _ r; rfl
theorem f114_okimpl_has : Try.prog.funcs[114]? = some Try.f114 := by kernel_rfl
theorem impl_has_law (k : Nat) (a1 : Int) (x : ByteArray) (h : impl_has k a1 = some x) : LawV Try.prog 114 [.int .i64 a1] (tvn .str x) := by
  unfold impl_has at h
  exact law1 (t := .str) (tyTOk _ _) (E_impl_has_calls k) mixOk f114_okimpl_has (nameOk _ _ f114_okimpl_has) (by kernel_rfl) h
/-! impl.isReg -/
noncomputable def E_impl_isReg (k : Nat) : Env := ⟨ty, fun g => match g with
  | 78 => some (byVal fun ρ l K => match l with
    | [b1, b2, b3] => (b1.as (.int .i64)).bind fun c1 => (b2.as (.int .i64)).bind fun c2 => (b3.as (.int .i64)).bind fun c3 => (impl_within k c1 c2 c3).bind fun r => K (tvn .bool r)
    | _ => none)
  | _ => none, fun _ _ => none⟩
noncomputable def impl_isReg (k : Nat) (a1 : Int) : Option (Bool) :=
  abody (E_impl_isReg k) (arun Try.prog (E_impl_isReg k) k) k 115 Try.f115 [.int .i64 a1] [] (fin1 .bool)
theorem impl_isReg_e (k : Nat) (a1 : Int) : impl_isReg k a1 =
  bindO (impl_within k a1 0 5) fun r1 => (some r1) := by kernel_rfl
theorem E_impl_isReg_calls (k : Nat) : CallsOk Try.prog (E_impl_isReg k) (arun Try.prog (E_impl_isReg k) k) := by
  refine told_run (tyTOk _ _) ?_ (fun run h => regOk (tyTOk _ _) mixOk h) ?_ nameOk k
  · intro g m hg
    simp only [E_impl_isReg] at hg
    split at hg
    · cases hg
      refine con_byVal fun ρ l K x hm => ?_
      split at hm
      · obtain ⟨c1, h1, hm⟩ := Option.bind_eq_some_iff.1 hm
        obtain ⟨c2, h2, hm⟩ := Option.bind_eq_some_iff.1 hm
        obtain ⟨c3, h3, hm⟩ := Option.bind_eq_some_iff.1 hm
        obtain ⟨r, hr, hm⟩ := Option.bind_eq_some_iff.1 hm
        exact ⟨_, hm, LawV.reads (.cons (.as h1) (.cons (.as h2) (.cons (.as h3) .nil))) (impl_within_law k c1 c2 c3 r hr)⟩
      · cases hm
    · cases hg
  · intro g _ r; rfl
theorem f115_okimpl_isReg : Try.prog.funcs[115]? = some Try.f115 := by kernel_rfl
theorem impl_isReg_law (k : Nat) (a1 : Int) (x : Bool) (h : impl_isReg k a1 = some x) : LawV Try.prog 115 [.int .i64 a1] (tvn .bool x) := by
  unfold impl_isReg at h
  exact law1 (t := .bool) (tyTOk _ _) (E_impl_isReg_calls k) mixOk f115_okimpl_isReg (nameOk _ _ f115_okimpl_isReg) (by kernel_rfl) h
/-! impl.WordOk -/
noncomputable def E_impl_WordOk (k : Nat) : Env := ⟨ty, fun g => match g with
  | 78 => some (byVal fun ρ l K => match l with
    | [b1, b2, b3] => (b1.as (.int .i64)).bind fun c1 => (b2.as (.int .i64)).bind fun c2 => (b3.as (.int .i64)).bind fun c3 => (impl_within k c1 c2 c3).bind fun r => K (tvn .bool r)
    | _ => none)
  | _ => none, fun _ _ => none⟩
noncomputable def impl_WordOk (k : Nat) (a1 : Int) : Option (Bool) :=
  abody (E_impl_WordOk k) (arun Try.prog (E_impl_WordOk k) k) k 88 Try.f88 [.int .i64 a1] [] (fin1 .bool)
theorem impl_WordOk_e (k : Nat) (a1 : Int) : impl_WordOk k a1 =
  bindO (impl_within k a1 (-2147483648) 2147483647) fun r1 => (some r1) := by kernel_rfl
theorem E_impl_WordOk_calls (k : Nat) : CallsOk Try.prog (E_impl_WordOk k) (arun Try.prog (E_impl_WordOk k) k) := by
  refine told_run (tyTOk _ _) ?_ (fun run h => regOk (tyTOk _ _) mixOk h) ?_ nameOk k
  · intro g m hg
    simp only [E_impl_WordOk] at hg
    split at hg
    · cases hg
      refine con_byVal fun ρ l K x hm => ?_
      split at hm
      · obtain ⟨c1, h1, hm⟩ := Option.bind_eq_some_iff.1 hm
        obtain ⟨c2, h2, hm⟩ := Option.bind_eq_some_iff.1 hm
        obtain ⟨c3, h3, hm⟩ := Option.bind_eq_some_iff.1 hm
        obtain ⟨r, hr, hm⟩ := Option.bind_eq_some_iff.1 hm
        exact ⟨_, hm, LawV.reads (.cons (.as h1) (.cons (.as h2) (.cons (.as h3) .nil))) (impl_within_law k c1 c2 c3 r hr)⟩
      · cases hm
    · cases hg
  · intro g _ r; rfl
theorem f88_okimpl_WordOk : Try.prog.funcs[88]? = some Try.f88 := by kernel_rfl
theorem impl_WordOk_law (k : Nat) (a1 : Int) (x : Bool) (h : impl_WordOk k a1 = some x) : LawV Try.prog 88 [.int .i64 a1] (tvn .bool x) := by
  unfold impl_WordOk at h
  exact law1 (t := .bool) (tyTOk _ _) (E_impl_WordOk_calls k) mixOk f88_okimpl_WordOk (nameOk _ _ f88_okimpl_WordOk) (by kernel_rfl) h
/-! impl.InsOk -/
noncomputable def E_impl_InsOk (k : Nat) : Env := ⟨ty, fun g => match g with
  | 114 => some (byVal fun ρ l K => match l with
    | [b1] => (b1.as (.int .i64)).bind fun c1 => (impl_has k c1).bind fun r => K (tvn .str r)
    | _ => none)
  | 115 => some (byVal fun ρ l K => match l with
    | [b1] => (b1.as (.int .i64)).bind fun c1 => (impl_isReg k c1).bind fun r => K (tvn .bool r)
    | _ => none)
  | 88 => some (byVal fun ρ l K => match l with
    | [b1] => (b1.as (.int .i64)).bind fun c1 => (impl_WordOk k c1).bind fun r => K (tvn .bool r)
    | _ => none)
  | 78 => some (byVal fun ρ l K => match l with
    | [b1, b2, b3] => (b1.as (.int .i64)).bind fun c1 => (b2.as (.int .i64)).bind fun c2 => (b3.as (.int .i64)).bind fun c3 => (impl_within k c1 c2 c3).bind fun r => K (tvn .bool r)
    | _ => none)
  | 81 => some noCon
  | _ => none, fun f r => match f with | 81 => (match r with | 6 => some [1, 3, 4, 5, 15, 16] | _ => none) | _ => none⟩
noncomputable def impl_InsOk (k : Nat) (a1 : Int × Int × Int × Int × Int × Int × Unit) : Option (Bool) :=
  abody (E_impl_InsOk k) (arun Try.prog (E_impl_InsOk k) k) k 81 Try.f81 [.tv (.pair (.int .i64) (.pair (.int .i64) (.pair (.int .i64) (.pair (.int .i64) (.pair (.int .i64) (.pair (.int .i64) .unit)))))) a1] [] (fin1 .bool)
noncomputable def impl_InsOk.l6 (k n : Nat) (x3 : ByteArray) (x5 : Bool) (x15 : Int) (x16 : Int) (y0_0 : Int × Int × Int × Int × Int × Int × Unit) (y1_0_0 : Int) (y1_0_1 : Int) (y1_0_2 : Int) (y1_0_3 : Int) (y1_0_4 : Int) (y1_0_5 : Int) : Option (Bool) :=
  resume (E_impl_InsOk k) 81 (acall (E_impl_InsOk k) (arun Try.prog (E_impl_InsOk k) k)) k [true, true, true, true, true, false, true, true] [n] (bodyOf Try.f81) ⟨[.undef, .ptr 0 0 0, .undef, .str x3, .ptr 1 0 0, .bool x5, .undef, .undef, .undef, .undef, .undef, .undef, .undef, .undef, .undef, .int .i64 x15, .int .i64 x16, .undef, .undef, .undef, .undef, .undef, .undef, .undef, .undef, .undef, .undef, .undef, .undef, .undef, .undef, .undef, .undef, .undef, .undef, .undef, .undef, .undef, .undef, .undef, .undef, .undef, .undef, .undef, .undef, .undef, .undef, .undef, .undef, .undef, .undef, .undef, .undef, .undef, .undef, .undef, .undef, .undef, .undef, .undef, .undef, .undef, .undef, .undef, .undef, .undef, .undef, .undef, .undef, .undef, .undef, .undef, .undef, .undef, .undef, .undef, .undef, .undef, .undef, .undef, .undef, .undef, .undef, .undef, .undef, .undef, .undef, .undef, .undef], [some ⟨.raw true 6 (.agg [.int .i64 0, .int .i64 0, .int .i64 0, .int .i64 0, .int .i64 0, .int .i64 0]) [.tv (.pair (.int .i64) (.pair (.int .i64) (.pair (.int .i64) (.pair (.int .i64) (.pair (.int .i64) (.pair (.int .i64) .unit)))))) y0_0], true⟩, some ⟨.raw true 6 (.agg [.int .i64 0, .int .i64 0, .int .i64 0, .int .i64 0, .int .i64 0, .int .i64 0]) [.agg [.int .i64 y1_0_0, .int .i64 y1_0_1, .int .i64 y1_0_2, .int .i64 y1_0_3, .int .i64 y1_0_4, .int .i64 y1_0_5]], true⟩]⟩ (leave (E_impl_InsOk k) Try.f81 (fin1 .bool))
theorem impl_InsOk.l6_0 (k : Nat) (x3 : ByteArray) (x5 : Bool) (x15 : Int) (x16 : Int) (y0_0 : Int × Int × Int × Int × Int × Int × Unit) (y1_0_0 : Int) (y1_0_1 : Int) (y1_0_2 : Int) (y1_0_3 : Int) (y1_0_4 : Int) (y1_0_5 : Int) : impl_InsOk.l6 k 0 x3 x5 x15 x16 y0_0 y1_0_0 y1_0_1 y1_0_2 y1_0_3 y1_0_4 y1_0_5 = none := by kernel_rfl
theorem impl_InsOk.l6_s (k n : Nat) (x3 : ByteArray) (x5 : Bool) (x15 : Int) (x16 : Int) (y0_0 : Int × Int × Int × Int × Int × Int × Unit) (y1_0_0 : Int) (y1_0_1 : Int) (y1_0_2 : Int) (y1_0_3 : Int) (y1_0_4 : Int) (y1_0_5 : Int) : impl_InsOk.l6 k (n + 1) x3 x5 x15 x16 y0_0 y1_0_0 y1_0_1 y1_0_2 y1_0_3 y1_0_4 y1_0_5 =
  iteB (decide (x16 < x15)) (iteB (decide (0 ≤ x16)) (iteB (decide (x16 < (ByteArray.size x3 : Int))) (iteB ((byteAt x3 (Int.toNat x16)) == 82) (iteB x5 (bindO (impl_isReg k y0_0.2.1) fun r2 => (impl_InsOk.l6 k n x3 r2 x15 (IntKind.wrap .i64 (x16 + 1)) y0_0 y1_0_0 0 y1_0_2 y1_0_3 y1_0_4 y1_0_5)) (impl_InsOk.l6 k n x3 false x15 (IntKind.wrap .i64 (x16 + 1)) y0_0 y1_0_0 0 y1_0_2 y1_0_3 y1_0_4 y1_0_5)) (iteB ((byteAt x3 (Int.toNat x16)) == 65) (iteB x5 (bindO (impl_isReg k y0_0.2.2.1) fun r3 => (iteB (!r3) (iteB (y0_0.2.2.1 == 6) (iteB (!(y0_0.1 == 8)) (impl_InsOk.l6 k n x3 (y0_0.1 == 9) x15 (IntKind.wrap .i64 (x16 + 1)) y0_0 y1_0_0 y1_0_1 0 y1_0_3 y1_0_4 y1_0_5) (impl_InsOk.l6 k n x3 true x15 (IntKind.wrap .i64 (x16 + 1)) y0_0 y1_0_0 y1_0_1 0 y1_0_3 y1_0_4 y1_0_5)) (impl_InsOk.l6 k n x3 false x15 (IntKind.wrap .i64 (x16 + 1)) y0_0 y1_0_0 y1_0_1 0 y1_0_3 y1_0_4 y1_0_5)) (impl_InsOk.l6 k n x3 true x15 (IntKind.wrap .i64 (x16 + 1)) y0_0 y1_0_0 y1_0_1 0 y1_0_3 y1_0_4 y1_0_5))) (impl_InsOk.l6 k n x3 false x15 (IntKind.wrap .i64 (x16 + 1)) y0_0 y1_0_0 y1_0_1 0 y1_0_3 y1_0_4 y1_0_5)) (iteB ((byteAt x3 (Int.toNat x16)) == 66) (iteB x5 (bindO (impl_isReg k y0_0.2.2.2.1) fun r4 => (impl_InsOk.l6 k n x3 r4 x15 (IntKind.wrap .i64 (x16 + 1)) y0_0 y1_0_0 y1_0_1 y1_0_2 0 y1_0_4 y1_0_5)) (impl_InsOk.l6 k n x3 false x15 (IntKind.wrap .i64 (x16 + 1)) y0_0 y1_0_0 y1_0_1 y1_0_2 0 y1_0_4 y1_0_5)) (iteB ((byteAt x3 (Int.toNat x16)) == 78) (iteB x5 (bindO (impl_WordOk k y0_0.2.2.2.2.1) fun r5 => (impl_InsOk.l6 k n x3 r5 x15 (IntKind.wrap .i64 (x16 + 1)) y0_0 y1_0_0 y1_0_1 y1_0_2 y1_0_3 0 y1_0_5)) (impl_InsOk.l6 k n x3 false x15 (IntKind.wrap .i64 (x16 + 1)) y0_0 y1_0_0 y1_0_1 y1_0_2 y1_0_3 0 y1_0_5)) (iteB ((byteAt x3 (Int.toNat x16)) == 77) (iteB x5 (bindO (impl_within k y0_0.2.2.2.2.2.1 0 60) fun r6 => (impl_InsOk.l6 k n x3 r6 x15 (IntKind.wrap .i64 (x16 + 1)) y0_0 y1_0_0 y1_0_1 y1_0_2 y1_0_3 y1_0_4 0)) (impl_InsOk.l6 k n x3 false x15 (IntKind.wrap .i64 (x16 + 1)) y0_0 y1_0_0 y1_0_1 y1_0_2 y1_0_3 y1_0_4 0)) (impl_InsOk.l6 k n x3 x5 x15 (IntKind.wrap .i64 (x16 + 1)) y0_0 y1_0_0 y1_0_1 y1_0_2 y1_0_3 y1_0_4 y1_0_5)))))) (none)) (none)) (iteB x5 (some ((y1_0_0 == 0) && ((y1_0_1 == 0) && ((y1_0_2 == 0) && ((y1_0_3 == 0) && ((y1_0_4 == 0) && ((y1_0_5 == 0) && true))))))) (some false)) := by kernel_rfl
theorem impl_InsOk_e (k : Nat) (a1 : Int × Int × Int × Int × Int × Int × Unit) : impl_InsOk k a1 =
  bindO (impl_has k a1.1) fun r1 => (impl_InsOk.l6 k k r1 (!(ByteArray.toList r1 == ByteArray.toList (⟨#[]⟩ : ByteArray))) (ByteArray.size r1 : Int) 0 a1 0 a1.2.1 a1.2.2.1 a1.2.2.2.1 a1.2.2.2.2.1 a1.2.2.2.2.2.1) := by kernel_rfl
theorem E_impl_InsOk_calls (k : Nat) : CallsOk Try.prog (E_impl_InsOk k) (arun Try.prog (E_impl_InsOk k) k) := by
  refine told_run (tyTOk _ _) ?_ (fun run h => regOk (tyTOk _ _) mixOk h) ?_ nameOk k
  · intro g m hg
    simp only [E_impl_InsOk] at hg
    split at hg
    · cases hg
      refine con_byVal fun ρ l K x hm => ?_
      split at hm
      · obtain ⟨c1, h1, hm⟩ := Option.bind_eq_some_iff.1 hm
        obtain ⟨r, hr, hm⟩ := Option.bind_eq_some_iff.1 hm
        exact ⟨_, hm, LawV.reads (.cons (.as h1) .nil) (impl_has_law k c1 r hr)⟩
      · cases hm
    · cases hg
      refine con_byVal fun ρ l K x hm => ?_
      split at hm
      · obtain ⟨c1, h1, hm⟩ := Option.bind_eq_some_iff.1 hm
        obtain ⟨r, hr, hm⟩ := Option.bind_eq_some_iff.1 hm
        exact ⟨_, hm, LawV.reads (.cons (.as h1) .nil) (impl_isReg_law k c1 r hr)⟩
      · cases hm
    · cases hg
      refine con_byVal fun ρ l K x hm => ?_
      split at hm
      · obtain ⟨c1, h1, hm⟩ := Option.bind_eq_some_iff.1 hm
        obtain ⟨r, hr, hm⟩ := Option.bind_eq_some_iff.1 hm
        exact ⟨_, hm, LawV.reads (.cons (.as h1) .nil) (impl_WordOk_law k c1 r hr)⟩
      · cases hm
    · cases hg
      refine con_byVal fun ρ l K x hm => ?_
      split at hm
      · obtain ⟨c1, h1, hm⟩ := Option.bind_eq_some_iff.1 hm
        obtain ⟨c2, h2, hm⟩ := Option.bind_eq_some_iff.1 hm
        obtain ⟨c3, h3, hm⟩ := Option.bind_eq_some_iff.1 hm
        obtain ⟨r, hr, hm⟩ := Option.bind_eq_some_iff.1 hm
        exact ⟨_, hm, LawV.reads (.cons (.as h1) (.cons (.as h2) (.cons (.as h3) .nil))) (impl_within_law k c1 c2 c3 r hr)⟩
      · cases hm
    · cases hg; exact noCon_ok
    · cases hg
  · intro g hg r
    by_cases h : g = 81
    · subst h; simp [E_impl_InsOk] at hg
    · simp [E_impl_InsOk, h]
theorem f81_okimpl_InsOk : Try.prog.funcs[81]? = some Try.f81 := by kernel_rfl
theorem impl_InsOk_law (k : Nat) (a1 : Int × Int × Int × Int × Int × Int × Unit) (x : Bool) (h : impl_InsOk k a1 = some x) : LawV Try.prog 81 [.tv (.pair (.int .i64) (.pair (.int .i64) (.pair (.int .i64) (.pair (.int .i64) (.pair (.int .i64) (.pair (.int .i64) .unit)))))) a1] (tvn .bool x) := by
  unfold impl_InsOk at h
  exact law1 (t := .bool) (tyTOk _ _) (E_impl_InsOk_calls k) mixOk f81_okimpl_InsOk (nameOk _ _ f81_okimpl_InsOk) (by kernel_rfl) h
/-! impl.MachineOk$1 -/
noncomputable def E_impl_MachineOk_1 (k : Nat) : Env := ⟨ty, fun g => match g with
  | 81 => some (byVal fun ρ l K => match l with
    | [b1] => (b1.as (.pair (.int .i64) (.pair (.int .i64) (.pair (.int .i64) (.pair (.int .i64) (.pair (.int .i64) (.pair (.int .i64) .unit))))))).bind fun c1 => (impl_InsOk k c1).bind fun r => K (tvn .bool r)
    | _ => none)
  | _ => none, fun _ _ => none⟩
noncomputable def impl_MachineOk_1 (k : Nat) (a1 : Int × Int × Int × Int × Int × Int × Unit) : Option (Bool) :=
  abody (E_impl_MachineOk_1 k) (arun Try.prog (E_impl_MachineOk_1 k) k) k 80 Try.f80 [.tv (.pair (.int .i64) (.pair (.int .i64) (.pair (.int .i64) (.pair (.int .i64) (.pair (.int .i64) (.pair (.int .i64) .unit)))))) a1] [] (fin1 .bool)
theorem impl_MachineOk_1_e (k : Nat) (a1 : Int × Int × Int × Int × Int × Int × Unit) : impl_MachineOk_1 k a1 =
  bindO (impl_InsOk k a1) fun r1 => (some (!r1)) := by kernel_rfl
theorem E_impl_MachineOk_1_calls (k : Nat) : CallsOk Try.prog (E_impl_MachineOk_1 k) (arun Try.prog (E_impl_MachineOk_1 k) k) := by
  refine told_run (tyTOk _ _) ?_ (fun run h => regOk (tyTOk _ _) mixOk h) ?_ nameOk k
  · intro g m hg
    simp only [E_impl_MachineOk_1] at hg
    split at hg
    · cases hg
      refine con_byVal fun ρ l K x hm => ?_
      split at hm
      · obtain ⟨c1, h1, hm⟩ := Option.bind_eq_some_iff.1 hm
        obtain ⟨r, hr, hm⟩ := Option.bind_eq_some_iff.1 hm
        exact ⟨_, hm, LawV.reads (.cons (.as h1) .nil) (impl_InsOk_law k c1 r hr)⟩
      · cases hm
    · cases hg
  · intro g _ r; rfl
theorem f80_okimpl_MachineOk_1 : Try.prog.funcs[80]? = some Try.f80 := by kernel_rfl
theorem impl_MachineOk_1_law (k : Nat) (a1 : Int × Int × Int × Int × Int × Int × Unit) (x : Bool) (h : impl_MachineOk_1 k a1 = some x) : LawV Try.prog 80 [.tv (.pair (.int .i64) (.pair (.int .i64) (.pair (.int .i64) (.pair (.int .i64) (.pair (.int .i64) (.pair (.int .i64) .unit)))))) a1] (tvn .bool x) := by
  unfold impl_MachineOk_1 at h
  exact law1 (t := .bool) (tyTOk _ _) (E_impl_MachineOk_1_calls k) mixOk f80_okimpl_MachineOk_1 (nameOk _ _ f80_okimpl_MachineOk_1) (by kernel_rfl) h
/-! slices.IndexFunc[[]impl.Ins,impl.Ins] -/
noncomputable def E_slices_IndexFunc_impl_Ins__impl_MachineOk_1 (k : Nat) : Env := ⟨ty, fun g => match g with
  | 80 => some (byVal fun ρ l K => match l with
    | [b1] => (b1.as (.pair (.int .i64) (.pair (.int .i64) (.pair (.int .i64) (.pair (.int .i64) (.pair (.int .i64) (.pair (.int .i64) .unit))))))).bind fun c1 => (impl_MachineOk_1 k c1).bind fun r => K (tvn .bool r)
    | _ => none)
  | 146 => some noCon
  | _ => none, fun f r => match f with | 146 => (match r with | 2 => some [0, 1, 7, 8] | _ => none) | _ => none⟩
noncomputable def slices_IndexFunc_impl_Ins__impl_MachineOk_1 (k : Nat) (a1 : List (Int × Int × Int × Int × Int × Int × Unit)) : Option (Int) :=
  abody (E_slices_IndexFunc_impl_Ins__impl_MachineOk_1 k) (arun Try.prog (E_slices_IndexFunc_impl_Ins__impl_MachineOk_1 k) k) k 146 Try.f146 [.tv (.row (.pair (.int .i64) (.pair (.int .i64) (.pair (.int .i64) (.pair (.int .i64) (.pair (.int .i64) (.pair (.int .i64) .unit))))))) a1, .fn 80 []] [] (fin1 (.int .i64))
noncomputable def slices_IndexFunc_impl_Ins__impl_MachineOk_1.l2 (k n : Nat) (x0 : List (Int × Int × Int × Int × Int × Int × Unit)) (x7 : Int) (x8 : Int) : Option (Int) :=
  resume (E_slices_IndexFunc_impl_Ins__impl_MachineOk_1 k) 146 (acall (E_slices_IndexFunc_impl_Ins__impl_MachineOk_1 k) (arun Try.prog (E_slices_IndexFunc_impl_Ins__impl_MachineOk_1 k) k)) k [true, false, true, true] [n] (bodyOf Try.f146) ⟨[.tv (.row (.pair (.int .i64) (.pair (.int .i64) (.pair (.int .i64) (.pair (.int .i64) (.pair (.int .i64) (.pair (.int .i64) .unit))))))) x0, .fn 80 [], .undef, .undef, .undef, .undef, .undef, .int .i64 x7, .int .i64 x8, .undef, .undef, .undef, .undef, .undef, .undef, .undef, .undef, .undef, .undef], []⟩ (leave (E_slices_IndexFunc_impl_Ins__impl_MachineOk_1 k) Try.f146 (fin1 (.int .i64)))
theorem slices_IndexFunc_impl_Ins__impl_MachineOk_1.l2_0 (k : Nat) (x0 : List (Int × Int × Int × Int × Int × Int × Unit)) (x7 : Int) (x8 : Int) : slices_IndexFunc_impl_Ins__impl_MachineOk_1.l2 k 0 x0 x7 x8 = none := by kernel_rfl
theorem slices_IndexFunc_impl_Ins__impl_MachineOk_1.l2_s (k n : Nat) (x0 : List (Int × Int × Int × Int × Int × Int × Unit)) (x7 : Int) (x8 : Int) : slices_IndexFunc_impl_Ins__impl_MachineOk_1.l2 k (n + 1) x0 x7 x8 =
  iteB (decide (x8 < x7)) (iteB (decide (0 ≤ x8)) (iteB (decide (x8 < ((List.length x0) : Int))) (bindO (impl_MachineOk_1 k (List.getD x0 (Int.toNat x8) (Ty.dflt (.pair (.int .i64) (.pair (.int .i64) (.pair (.int .i64) (.pair (.int .i64) (.pair (.int .i64) (.pair (.int .i64) .unit))))))))) fun r1 => (iteB r1 (some x8) (slices_IndexFunc_impl_Ins__impl_MachineOk_1.l2 k n x0 x7 (IntKind.wrap .i64 (x8 + 1))))) (none)) (none)) (some (-1)) := by kernel_rfl
theorem slices_IndexFunc_impl_Ins__impl_MachineOk_1_e (k : Nat) (a1 : List (Int × Int × Int × Int × Int × Int × Unit)) : slices_IndexFunc_impl_Ins__impl_MachineOk_1 k a1 =
  slices_IndexFunc_impl_Ins__impl_MachineOk_1.l2 k k a1 ((List.length a1) : Int) 0 := by kernel_rfl
theorem E_slices_IndexFunc_impl_Ins__impl_MachineOk_1_calls (k : Nat) : CallsOk Try.prog (E_slices_IndexFunc_impl_Ins__impl_MachineOk_1 k) (arun Try.prog (E_slices_IndexFunc_impl_Ins__impl_MachineOk_1 k) k) := by
  refine told_run (tyTOk _ _) ?_ (fun run h => regOk (tyTOk _ _) mixOk h) ?_ nameOk k
  · intro g m hg
    simp only [E_slices_IndexFunc_impl_Ins__impl_MachineOk_1] at hg
    split at hg
    · cases hg
      refine con_byVal fun ρ l K x hm => ?_
      split at hm
      · obtain ⟨c1, h1, hm⟩ := Option.bind_eq_some_iff.1 hm
        obtain ⟨r, hr, hm⟩ := Option.bind_eq_some_iff.1 hm
        exact ⟨_, hm, LawV.reads (.cons (.as h1) .nil) (impl_MachineOk_1_law k c1 r hr)⟩
      · cases hm
    · cases hg; exact noCon_ok
    · cases hg
  · intro g hg r
    by_cases h : g = 146
    · subst h; simp [E_slices_IndexFunc_impl_Ins__impl_MachineOk_1] at hg
    · simp [E_slices_IndexFunc_impl_Ins__impl_MachineOk_1, h]
theorem f146_okslices_IndexFunc_impl_Ins__impl_MachineOk_1 : Try.prog.funcs[146]? = some Try.f146 := by kernel_rfl
theorem slices_IndexFunc_impl_Ins__impl_MachineOk_1_law (k : Nat) (a1 : List (Int × Int × Int × Int × Int × Int × Unit)) (x : Int) (h : slices_IndexFunc_impl_Ins__impl_MachineOk_1 k a1 = some x) : LawV Try.prog 146 [.tv (.row (.pair (.int .i64) (.pair (.int .i64) (.pair (.int .i64) (.pair (.int .i64) (.pair (.int .i64) (.pair (.int .i64) .unit))))))) a1, .fn 80 []] (tvn (.int .i64) x) := by
  unfold slices_IndexFunc_impl_Ins__impl_MachineOk_1 at h
  exact law1 (t := (.int .i64)) (tyTOk _ _) (E_slices_IndexFunc_impl_Ins__impl_MachineOk_1_calls k) mixOk f146_okslices_IndexFunc_impl_Ins__impl_MachineOk_1 (nameOk _ _ f146_okslices_IndexFunc_impl_Ins__impl_MachineOk_1) (by kernel_rfl) h
end Go.Proofs.Ytapijpjgfpjahaa.XFnExactMachineOk
