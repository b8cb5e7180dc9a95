/- Functions of the program as runs of the interpreter: equations, and a law for each. -/
import Derived.Test.YtapijpjgfpjahaaProg
import Derived.Test.YtapijpjgfpjahaaChecked
import Derived.KernelRfl
import Derived.Eval
import Derived.Test.YtapijpjgfpjahaaATyOk
import Derived.Test.YtapijpjgfpjahaaAS33
import Derived.Test.YtapijpjgfpjahaaAMFnExactUnitsOk0
open Go Go.AM Go.AMx Go.Proofs
namespace Go.Proofs.Ytapijpjgfpjahaa.XFnExactUnitsOk
set_option linter.unusedVariables false
set_option linter.unusedSimpArgs false
/-! spec.l1Min -/
noncomputable def E_spec_l1Min (k : Nat) : Env := ⟨ty, fun _ => none, fun _ _ => none⟩
noncomputable def spec_l1Min (k : Nat) (a1 : Int) (a2 : Int) : Option (Int) :=
  abody (E_spec_l1Min k) (arun Try.prog (E_spec_l1Min k) k) k 93 Try.f93 [.int .i64 a1, .int .i64 a2] [] (fin1 (.int .i64))
theorem spec_l1Min_e (k : Nat) (a1 : Int) (a2 : Int) : spec_l1Min k a1 a2 =
  iteB (decide (a1 < a2)) (some a1) (some a2) := by kernel_rfl
theorem E_spec_l1Min_calls (k : Nat) : CallsOk Try.prog (E_spec_l1Min k) (arun Try.prog (E_spec_l1Min k) k) := by
  refine told_run (tyTOk _ _) ?_ (fun run h => regOk (tyTOk _ _) mixOk h) ?_ nameOk k
  · intro g m hg
    cases hg
  · intro g _ r; rfl
theorem f93_okspec_l1Min : Try.prog.funcs[93]? = some Try.f93 := by kernel_rfl
theorem spec_l1Min_law (k : Nat) (a1 : Int) (a2 : Int) (x : Int) (h : spec_l1Min k a1 a2 = some x) : LawV Try.prog 93 [.int .i64 a1, .int .i64 a2] (tvn (.int .i64) x) := by
  unfold spec_l1Min at h
  exact law1 (t := (.int .i64)) (tyTOk _ _) (E_spec_l1Min_calls k) mixOk f93_okspec_l1Min (nameOk _ _ f93_okspec_l1Min) (by kernel_rfl) h
/-! spec.l10Has -/
noncomputable def E_spec_l10Has (k : Nat) : Env := ⟨ty, fun g => match g with
  | 69 => some (byVal fun ρ l K => match l with
    | [b1, b2, b3] => (b1.as (.int .i64)).bind fun c1 => (b2.as (.int .i64)).bind fun c2 => (b3.as (.int .i64)).bind fun c3 => (spec_l1In k c1 c2 c3).bind fun r => K (tvn .bool r)
    | _ => none)
  | _ => none, fun _ _ => none⟩
noncomputable def spec_l10Has (k : Nat) (a1 : Int) : Option (Int) :=
  abody (E_spec_l10Has k) (arun Try.prog (E_spec_l10Has k) k) k 156 Try.f156 [.int .i64 a1] [] (fin1 (.int .i64))
theorem spec_l10Has_e (k : Nat) (a1 : Int) : spec_l10Has k a1 =
  bindO (spec_l1In k a1 1 28) fun r1 => (iteB (!r1) (some 0) (iteB (decide (0 ≤ a1)) (iteB (decide (a1 < ((List.length [0, 9, 3, 7, 7, 7, 7, 7, 8, 8, 10, 49, 2, 2, 48, 3, 6, 3, 2, 45, 3, 6, 39, 1, 17, 2, 6, 6, 2]) : Int))) (some (List.getD [0, 9, 3, 7, 7, 7, 7, 7, 8, 8, 10, 49, 2, 2, 48, 3, 6, 3, 2, 45, 3, 6, 39, 1, 17, 2, 6, 6, 2] (Int.toNat a1) 0)) (none)) (none))) := by kernel_rfl
theorem E_spec_l10Has_calls (k : Nat) : CallsOk Try.prog (E_spec_l10Has k) (arun Try.prog (E_spec_l10Has k) k) := by
  refine told_run (tyTOk _ _) ?_ (fun run h => regOk (tyTOk _ _) mixOk h) ?_ nameOk k
  · intro g m hg
    simp only [E_spec_l10Has] at hg
    split at hg
    · cases hg
      refine con_byVal fun ρ l K x hm => ?_
      split at hm
      · obtain ⟨c1, h1, hm⟩ := Option.bind_eq_some_iff.1 hm
        obtain ⟨c2, h2, hm⟩ := Option.bind_eq_some_iff.1 hm
        obtain ⟨c3, h3, hm⟩ := Option.bind_eq_some_iff.1 hm
        obtain ⟨r, hr, hm⟩ := Option.bind_eq_some_iff.1 hm
        exact ⟨_, hm, LawV.reads (.cons (.as h1) (.cons (.as h2) (.cons (.as h3) .nil))) (spec_l1In_law k c1 c2 c3 r hr)⟩
      · cases hm
    · cases hg
  · intro g _ r; rfl
theorem f156_okspec_l10Has : Try.prog.funcs[156]? = some Try.f156 := by kernel_rfl
theorem spec_l10Has_law (k : Nat) (a1 : Int) (x : Int) (h : spec_l10Has k a1 = some x) : LawV Try.prog 156 [.int .i64 a1] (tvn (.int .i64) x) := by
  unfold spec_l10Has at h
  exact law1 (t := (.int .i64)) (tyTOk _ _) (E_spec_l10Has_calls k) mixOk f156_okspec_l10Has (nameOk _ _ f156_okspec_l10Has) (by kernel_rfl) h
/-! spec.l10Args -/
noncomputable def E_spec_l10Args (k : Nat) : Env := ⟨ty, fun g => match g with
  | 69 => some (byVal fun ρ l K => match l with
    | [b1, b2, b3] => (b1.as (.int .i64)).bind fun c1 => (b2.as (.int .i64)).bind fun c2 => (b3.as (.int .i64)).bind fun c3 => (spec_l1In k c1 c2 c3).bind fun r => K (tvn .bool r)
    | _ => none)
  | 157 => some noCon
  | _ => none, fun f r => match f with | 157 => (match r with | 5 => some [1, 3, 4] | _ => none) | _ => none⟩
noncomputable def spec_l10Args (k : Nat) (a1 : Int × Int × Int × Int × Int × ByteArray × (List Int) × Unit) : Option (Bool) :=
  abody (E_spec_l10Args k) (arun Try.prog (E_spec_l10Args k) k) k 157 Try.f157 [.tv (.pair (.int .i64) (.pair (.int .i64) (.pair (.int .i64) (.pair (.int .i64) (.pair (.int .i64) (.pair .str (.pair (.row (.int .i64)) .unit))))))) a1] [] (fin1 .bool)
noncomputable def spec_l10Args.l5 (k n : Nat) (x3 : Int) (x4 : Int) (y0_0 : Int × Int × Int × Int × Int × ByteArray × (List Int) × Unit) : Option (Bool) :=
  resume (E_spec_l10Args k) 157 (acall (E_spec_l10Args k) (arun Try.prog (E_spec_l10Args k) k)) k [true, true, false, true, true, true, false, false, true, true] [n] (bodyOf Try.f157) ⟨[.undef, .ptr 0 0 0, .undef, .int .i64 x3, .int .i64 x4, .undef, .undef, .undef, .undef, .undef, .undef, .undef, .undef, .undef, .undef, .undef, .undef, .undef, .undef, .undef, .undef, .undef, .undef, .undef, .undef, .undef, .undef, .undef, .undef, .undef, .undef, .undef, .undef, .undef, .undef, .undef, .undef, .undef, .undef, .undef, .undef, .undef, .undef, .undef, .undef, .undef, .undef, .undef, .undef, .undef, .undef, .undef, .undef, .undef, .undef, .undef, .undef, .undef, .undef, .undef, .undef, .undef, .undef, .undef, .undef, .undef, .undef, .undef], [some ⟨.raw true 7 (.agg [.int .i64 0, .int .i64 0, .int .i64 0, .int .i64 0, .int .i64 0, .str ByteArray.empty, .nils]) [.tv (.pair (.int .i64) (.pair (.int .i64) (.pair (.int .i64) (.pair (.int .i64) (.pair (.int .i64) (.pair .str (.pair (.row (.int .i64)) .unit))))))) y0_0], true⟩]⟩ (leave (E_spec_l10Args k) Try.f157 (fin1 .bool))
theorem spec_l10Args.l5_0 (k : Nat) (x3 : Int) (x4 : Int) (y0_0 : Int × Int × Int × Int × Int × ByteArray × (List Int) × Unit) : spec_l10Args.l5 k 0 x3 x4 y0_0 = none := by kernel_rfl
theorem spec_l10Args.l5_s (k n : Nat) (x3 : Int) (x4 : Int) (y0_0 : Int × Int × Int × Int × Int × ByteArray × (List Int) × Unit) : spec_l10Args.l5 k (n + 1) x3 x4 y0_0 =
  iteB (decide (x4 < x3)) (iteB (decide (0 ≤ x4)) (iteB (decide (x4 < ((List.length y0_0.2.2.2.2.2.2.1) : Int))) (bindO (spec_l1In k (List.getD y0_0.2.2.2.2.2.2.1 (Int.toNat x4) 0) 1 2) fun r1 => (iteB (!(!r1)) (iteB (decide (IntKind.wrap .i64 (x4 + 2) < x3)) (iteB (decide (0 ≤ x4)) (iteB (decide (x4 < ((List.length y0_0.2.2.2.2.2.2.1) : Int))) (iteB ((List.getD y0_0.2.2.2.2.2.2.1 (Int.toNat x4) 0) == 1) (iteB (decide (0 ≤ IntKind.wrap .i64 (x4 + 2))) (iteB (decide (IntKind.wrap .i64 (x4 + 2) < ((List.length y0_0.2.2.2.2.2.2.1) : Int))) (iteB ((List.getD y0_0.2.2.2.2.2.2.1 (Int.toNat (IntKind.wrap .i64 (x4 + 2))) 0) != 0) (some false) (spec_l10Args.l5 k n x3 (IntKind.wrap .i64 (x4 + 3)) y0_0)) (none)) (none)) (spec_l10Args.l5 k n x3 (IntKind.wrap .i64 (x4 + 3)) y0_0)) (none)) (none)) (spec_l10Args.l5 k n x3 (IntKind.wrap .i64 (x4 + 3)) y0_0)) (some false))) (none)) (none)) (iteB (!(x3 == 3)) (iteB (!(x3 == 6)) (some (x3 == 9)) (some true)) (some true)) := by kernel_rfl
theorem spec_l10Args_e (k : Nat) (a1 : Int × Int × Int × Int × Int × ByteArray × (List Int) × Unit) : spec_l10Args k a1 =
  iteB (a1.1 == 19) (spec_l10Args.l5 k k ((List.length a1.2.2.2.2.2.2.1) : Int) 0 a1) (iteB (a1.1 == 22) (some (((List.length a1.2.2.2.2.2.2.1) : Int) == 1)) (iteB (a1.1 == 11) (some (decide (((List.length a1.2.2.2.2.2.2.1) : Int) ≤ 4))) (iteB (a1.1 == 14) (some (decide (((List.length a1.2.2.2.2.2.2.1) : Int) ≤ 4))) (some (((List.length a1.2.2.2.2.2.2.1) : Int) == 0))))) := by kernel_rfl
theorem E_spec_l10Args_calls (k : Nat) : CallsOk Try.prog (E_spec_l10Args k) (arun Try.prog (E_spec_l10Args k) k) := by
  refine told_run (tyTOk _ _) ?_ (fun run h => regOk (tyTOk _ _) mixOk h) ?_ nameOk k
  · intro g m hg
    simp only [E_spec_l10Args] at hg
    split at hg
    · cases hg
      refine con_byVal fun ρ l K x hm => ?_
      split at hm
      · obtain ⟨c1, h1, hm⟩ := Option.bind_eq_some_iff.1 hm
        obtain ⟨c2, h2, hm⟩ := Option.bind_eq_some_iff.1 hm
        obtain ⟨c3, h3, hm⟩ := Option.bind_eq_some_iff.1 hm
        obtain ⟨r, hr, hm⟩ := Option.bind_eq_some_iff.1 hm
        exact ⟨_, hm, LawV.reads (.cons (.as h1) (.cons (.as h2) (.cons (.as h3) .nil))) (spec_l1In_law k c1 c2 c3 r hr)⟩
      · cases hm
    · cases hg; exact noCon_ok
    · cases hg
  · intro g hg r
    by_cases h : g = 157
    · subst h; simp [E_spec_l10Args] at hg
    · simp [E_spec_l10Args, h]
theorem f157_okspec_l10Args : Try.prog.funcs[157]? = some Try.f157 := by kernel_rfl
theorem spec_l10Args_law (k : Nat) (a1 : Int × Int × Int × Int × Int × ByteArray × (List Int) × Unit) (x : Bool) (h : spec_l10Args k a1 = some x) : LawV Try.prog 157 [.tv (.pair (.int .i64) (.pair (.int .i64) (.pair (.int .i64) (.pair (.int .i64) (.pair (.int .i64) (.pair .str (.pair (.row (.int .i64)) .unit))))))) a1] (tvn .bool x) := by
  unfold spec_l10Args at h
  exact law1 (t := .bool) (tyTOk _ _) (E_spec_l10Args_calls k) mixOk f157_okspec_l10Args (nameOk _ _ f157_okspec_l10Args) (by kernel_rfl) h
/-! spec.Sets -/
noncomputable def E_spec_Sets (k : Nat) : Env := ⟨ty, fun g => match g with
  | 156 => some (byVal fun ρ l K => match l with
    | [b1] => (b1.as (.int .i64)).bind fun c1 => (spec_l10Has k c1).bind fun r => K (tvn (.int .i64) r)
    | _ => none)
  | 192 => some noCon
  | _ => none, fun f r => match f with | 192 => (match r with | 4 => some [1, 3] | _ => none) | _ => none⟩
noncomputable def spec_Sets (k : Nat) (a1 : Int × Int × Int × Int × Int × ByteArray × (List Int) × Unit) : Option (List Int) :=
  abody (E_spec_Sets k) (arun Try.prog (E_spec_Sets k) k) k 192 Try.f192 [.tv (.pair (.int .i64) (.pair (.int .i64) (.pair (.int .i64) (.pair (.int .i64) (.pair (.int .i64) (.pair .str (.pair (.row (.int .i64)) .unit))))))) a1] [] (finF (.int .i64))
noncomputable def spec_Sets.j4 (k : Nat) (y0_0 : Int × Int × Int × Int × Int × ByteArray × (List Int) × Unit) (y1 : List Int) : Option (List Int) :=
  resume (E_spec_Sets k) 192 (acall (E_spec_Sets k) (arun Try.prog (E_spec_Sets k) k)) k [true, true, true] [] (bodyOf Try.f192) ⟨[.undef, .ptr 0 0 0, .undef, .sl 1, .undef, .undef, .undef, .undef, .undef, .undef, .undef, .undef, .undef, .undef, .undef, .undef, .undef, .undef, .undef, .undef, .undef, .undef, .undef, .undef], [some ⟨.raw true 7 (.agg [.int .i64 0, .int .i64 0, .int .i64 0, .int .i64 0, .int .i64 0, .str ByteArray.empty, .nils]) [.tv (.pair (.int .i64) (.pair (.int .i64) (.pair (.int .i64) (.pair (.int .i64) (.pair (.int .i64) (.pair .str (.pair (.row (.int .i64)) .unit))))))) y0_0], true⟩, some ⟨.typed (.int .i64) y1, false⟩]⟩ (leave (E_spec_Sets k) Try.f192 (finF (.int .i64)))
noncomputable def spec_Sets.j4b (k : Nat) (y0_0 : Int × Int × Int × Int × Int × ByteArray × (List Int) × Unit) : Option (List Int) :=
  resume (E_spec_Sets k) 192 (acall (E_spec_Sets k) (arun Try.prog (E_spec_Sets k) k)) k [true, true, true] [] (bodyOf Try.f192) ⟨[.undef, .ptr 0 0 0, .undef, .sl 1, .undef, .undef, .undef, .undef, .undef, .undef, .undef, .undef, .undef, .undef, .undef, .undef, .undef, .undef, .undef, .undef, .undef, .undef, .undef, .undef], [some ⟨.raw true 7 (.agg [.int .i64 0, .int .i64 0, .int .i64 0, .int .i64 0, .int .i64 0, .str ByteArray.empty, .nils]) [.tv (.pair (.int .i64) (.pair (.int .i64) (.pair (.int .i64) (.pair (.int .i64) (.pair (.int .i64) (.pair .str (.pair (.row (.int .i64)) .unit))))))) y0_0], true⟩, some ⟨.typed (.int .i64) [], true⟩]⟩ (leave (E_spec_Sets k) Try.f192 (finF (.int .i64)))
theorem spec_Sets.j4_e (k : Nat) (y0_0 : Int × Int × Int × Int × Int × ByteArray × (List Int) × Unit) (y1 : List Int) : spec_Sets.j4 k y0_0 y1 =
  iteB (y0_0.1 == 19) (iteB (decide ((List.length (y1 ++ [y0_0.2.2.2.1])) * 8 ≤ lim)) (some (y1 ++ [y0_0.2.2.2.1])) (none)) (some y1) := by kernel_rfl
theorem spec_Sets.j4b_e (k : Nat) (y0_0 : Int × Int × Int × Int × Int × ByteArray × (List Int) × Unit) : spec_Sets.j4b k y0_0 =
  iteB (y0_0.1 == 19) (iteB (decide ((List.length ([] ++ [y0_0.2.2.2.1])) * 8 ≤ lim)) (some ([] ++ [y0_0.2.2.2.1])) (none)) (some []) := by kernel_rfl
theorem spec_Sets_e (k : Nat) (a1 : Int × Int × Int × Int × Int × ByteArray × (List Int) × Unit) : spec_Sets k a1 =
  bindO (spec_l10Has k a1.1) fun r1 => (iteB ((IntKind.wrap .i64 ((BitVec.ofInt (IntKind.bits .i64) r1 &&& BitVec.ofInt (IntKind.bits .i64) 1).toNat : Int)) != 0) (iteB (decide ((List.length ([] ++ [a1.2.1])) * 8 ≤ lim)) (gate k (spec_Sets.j4 k a1 ([] ++ [a1.2.1]))) (none)) (gate k (spec_Sets.j4b k a1))) := by kernel_rfl
theorem E_spec_Sets_calls (k : Nat) : CallsOk Try.prog (E_spec_Sets k) (arun Try.prog (E_spec_Sets k) k) := by
  refine told_run (tyTOk _ _) ?_ (fun run h => regOk (tyTOk _ _) mixOk h) ?_ nameOk k
  · intro g m hg
    simp only [E_spec_Sets] at hg
    split at hg
    · cases hg
      refine con_byVal fun ρ l K x hm => ?_
      split at hm
      · obtain ⟨c1, h1, hm⟩ := Option.bind_eq_some_iff.1 hm
        obtain ⟨r, hr, hm⟩ := Option.bind_eq_some_iff.1 hm
        exact ⟨_, hm, LawV.reads (.cons (.as h1) .nil) (spec_l10Has_law k c1 r hr)⟩
      · cases hm
    · cases hg; exact noCon_ok
    · cases hg
  · intro g hg r
    by_cases h : g = 192
    · subst h; simp [E_spec_Sets] at hg
    · simp [E_spec_Sets, h]
theorem f192_okspec_Sets : Try.prog.funcs[192]? = some Try.f192 := by kernel_rfl
theorem spec_Sets_law (k : Nat) (a1 : Int × Int × Int × Int × Int × ByteArray × (List Int) × Unit) (x : List Int) (h : spec_Sets k a1 = some x) : LawF Try.prog 192 [.tv (.pair (.int .i64) (.pair (.int .i64) (.pair (.int .i64) (.pair (.int .i64) (.pair (.int .i64) (.pair .str (.pair (.row (.int .i64)) .unit))))))) a1] (.int .i64) x := by
  unfold spec_Sets at h
  exact lawF (e := (.int .i64)) (tyTOk _ _) (E_spec_Sets_calls k) mixOk f192_okspec_Sets (nameOk _ _ f192_okspec_Sets) (by kernel_rfl) h
/-! spec.Uses -/
noncomputable def E_spec_Uses (k : Nat) : Env := ⟨ty, fun g => match g with
  | 156 => some (byVal fun ρ l K => match l with
    | [b1] => (b1.as (.int .i64)).bind fun c1 => (spec_l10Has k c1).bind fun r => K (tvn (.int .i64) r)
    | _ => none)
  | 193 => some noCon
  | _ => none, fun f r => match f with | 193 => (match r with | 5 => some [1, 3, 4] | 7 => some [1, 3, 4] | 8 => some [1, 3, 4, 5] | 10 => some [1, 3, 4, 5] | _ => none) | _ => none⟩
noncomputable def spec_Uses (k : Nat) (a1 : Int × Int × Int × Int × Int × ByteArray × (List Int) × Unit) : Option (List Int) :=
  abody (E_spec_Uses k) (arun Try.prog (E_spec_Uses k) k) k 193 Try.f193 [.tv (.pair (.int .i64) (.pair (.int .i64) (.pair (.int .i64) (.pair (.int .i64) (.pair (.int .i64) (.pair .str (.pair (.row (.int .i64)) .unit))))))) a1] [] (fin1 (.row (.int .i64)))
noncomputable def spec_Uses.j5 (k : Nat) (x4 : Int) (y0_0 : Int × Int × Int × Int × Int × ByteArray × (List Int) × Unit) (y1 : List Int) : Option (List Int) :=
  resume (E_spec_Uses k) 193 (acall (E_spec_Uses k) (arun Try.prog (E_spec_Uses k) k)) k [true, true, true, true] [] (bodyOf Try.f193) ⟨[.undef, .ptr 0 0 0, .undef, .sl 1, .int .i64 x4, .undef, .undef, .undef, .undef, .undef, .undef, .undef, .undef, .undef, .undef, .undef, .undef, .undef, .undef, .undef, .undef, .undef, .undef, .undef, .undef, .undef, .undef, .undef, .undef, .undef, .undef, .undef, .undef, .undef, .undef, .undef, .undef, .undef, .undef, .undef, .undef, .undef, .undef, .undef, .undef, .undef, .undef, .undef, .undef, .undef, .undef, .undef, .undef, .undef, .undef, .undef, .undef, .undef, .undef, .undef, .undef, .undef, .undef, .undef, .undef, .undef, .undef, .undef, .undef, .undef, .undef, .undef, .undef, .undef], [some ⟨.raw true 7 (.agg [.int .i64 0, .int .i64 0, .int .i64 0, .int .i64 0, .int .i64 0, .str ByteArray.empty, .nils]) [.tv (.pair (.int .i64) (.pair (.int .i64) (.pair (.int .i64) (.pair (.int .i64) (.pair (.int .i64) (.pair .str (.pair (.row (.int .i64)) .unit))))))) y0_0], true⟩, some ⟨.typed (.int .i64) y1, false⟩]⟩ (leave (E_spec_Uses k) Try.f193 (fin1 (.row (.int .i64))))
noncomputable def spec_Uses.j5b (k : Nat) (x4 : Int) (y0_0 : Int × Int × Int × Int × Int × ByteArray × (List Int) × Unit) : Option (List Int) :=
  resume (E_spec_Uses k) 193 (acall (E_spec_Uses k) (arun Try.prog (E_spec_Uses k) k)) k [true, true, true, true] [] (bodyOf Try.f193) ⟨[.undef, .ptr 0 0 0, .undef, .sl 1, .int .i64 x4, .undef, .undef, .undef, .undef, .undef, .undef, .undef, .undef, .undef, .undef, .undef, .undef, .undef, .undef, .undef, .undef, .undef, .undef, .undef, .undef, .undef, .undef, .undef, .undef, .undef, .undef, .undef, .undef, .undef, .undef, .undef, .undef, .undef, .undef, .undef, .undef, .undef, .undef, .undef, .undef, .undef, .undef, .undef, .undef, .undef, .undef, .undef, .undef, .undef, .undef, .undef, .undef, .undef, .undef, .undef, .undef, .undef, .undef, .undef, .undef, .undef, .undef, .undef, .undef, .undef, .undef, .undef, .undef, .undef], [some ⟨.raw true 7 (.agg [.int .i64 0, .int .i64 0, .int .i64 0, .int .i64 0, .int .i64 0, .str ByteArray.empty, .nils]) [.tv (.pair (.int .i64) (.pair (.int .i64) (.pair (.int .i64) (.pair (.int .i64) (.pair (.int .i64) (.pair .str (.pair (.row (.int .i64)) .unit))))))) y0_0], true⟩, some ⟨.typed (.int .i64) [], true⟩]⟩ (leave (E_spec_Uses k) Try.f193 (fin1 (.row (.int .i64))))
noncomputable def spec_Uses.j7 (k : Nat) (x4 : Int) (y0_0 : Int × Int × Int × Int × Int × ByteArray × (List Int) × Unit) (y1 : List Int) : Option (List Int) :=
  resume (E_spec_Uses k) 193 (acall (E_spec_Uses k) (arun Try.prog (E_spec_Uses k) k)) k [true, true, true, true, true] [] (bodyOf Try.f193) ⟨[.undef, .ptr 0 0 0, .undef, .sl 1, .int .i64 x4, .undef, .undef, .undef, .undef, .undef, .undef, .undef, .undef, .undef, .undef, .undef, .undef, .undef, .undef, .undef, .undef, .undef, .undef, .undef, .undef, .undef, .undef, .undef, .undef, .undef, .undef, .undef, .undef, .undef, .undef, .undef, .undef, .undef, .undef, .undef, .undef, .undef, .undef, .undef, .undef, .undef, .undef, .undef, .undef, .undef, .undef, .undef, .undef, .undef, .undef, .undef, .undef, .undef, .undef, .undef, .undef, .undef, .undef, .undef, .undef, .undef, .undef, .undef, .undef, .undef, .undef, .undef, .undef, .undef], [some ⟨.raw true 7 (.agg [.int .i64 0, .int .i64 0, .int .i64 0, .int .i64 0, .int .i64 0, .str ByteArray.empty, .nils]) [.tv (.pair (.int .i64) (.pair (.int .i64) (.pair (.int .i64) (.pair (.int .i64) (.pair (.int .i64) (.pair .str (.pair (.row (.int .i64)) .unit))))))) y0_0], true⟩, some ⟨.typed (.int .i64) y1, false⟩]⟩ (leave (E_spec_Uses k) Try.f193 (fin1 (.row (.int .i64))))
noncomputable def spec_Uses.j7b (k : Nat) (x4 : Int) (y0_0 : Int × Int × Int × Int × Int × ByteArray × (List Int) × Unit) : Option (List Int) :=
  resume (E_spec_Uses k) 193 (acall (E_spec_Uses k) (arun Try.prog (E_spec_Uses k) k)) k [true, true, true, true, true] [] (bodyOf Try.f193) ⟨[.undef, .ptr 0 0 0, .undef, .sl 1, .int .i64 x4, .undef, .undef, .undef, .undef, .undef, .undef, .undef, .undef, .undef, .undef, .undef, .undef, .undef, .undef, .undef, .undef, .undef, .undef, .undef, .undef, .undef, .undef, .undef, .undef, .undef, .undef, .undef, .undef, .undef, .undef, .undef, .undef, .undef, .undef, .undef, .undef, .undef, .undef, .undef, .undef, .undef, .undef, .undef, .undef, .undef, .undef, .undef, .undef, .undef, .undef, .undef, .undef, .undef, .undef, .undef, .undef, .undef, .undef, .undef, .undef, .undef, .undef, .undef, .undef, .undef, .undef, .undef, .undef, .undef], [some ⟨.raw true 7 (.agg [.int .i64 0, .int .i64 0, .int .i64 0, .int .i64 0, .int .i64 0, .str ByteArray.empty, .nils]) [.tv (.pair (.int .i64) (.pair (.int .i64) (.pair (.int .i64) (.pair (.int .i64) (.pair (.int .i64) (.pair .str (.pair (.row (.int .i64)) .unit))))))) y0_0], true⟩, some ⟨.typed (.int .i64) [], true⟩]⟩ (leave (E_spec_Uses k) Try.f193 (fin1 (.row (.int .i64))))
noncomputable def spec_Uses.l8 (k n : Nat) (x4 : Int) (x5 : Int) (y0_0 : Int × Int × Int × Int × Int × ByteArray × (List Int) × Unit) (y1 : List Int) : Option (List Int) :=
  resume (E_spec_Uses k) 193 (acall (E_spec_Uses k) (arun Try.prog (E_spec_Uses k) k)) k [true, true, true, true, true, false, true, true] [n] (bodyOf Try.f193) ⟨[.undef, .ptr 0 0 0, .undef, .sl 1, .int .i64 x4, .int .i64 x5, .undef, .undef, .undef, .undef, .undef, .undef, .undef, .undef, .undef, .undef, .undef, .undef, .undef, .undef, .undef, .undef, .undef, .undef, .undef, .undef, .undef, .undef, .undef, .undef, .undef, .undef, .undef, .undef, .undef, .undef, .undef, .undef, .undef, .undef, .undef, .undef, .undef, .undef, .undef, .undef, .undef, .undef, .undef, .undef, .undef, .undef, .undef, .undef, .undef, .undef, .undef, .undef, .undef, .undef, .undef, .undef, .undef, .undef, .undef, .undef, .undef, .undef, .undef, .undef, .undef, .undef, .undef, .undef], [some ⟨.raw true 7 (.agg [.int .i64 0, .int .i64 0, .int .i64 0, .int .i64 0, .int .i64 0, .str ByteArray.empty, .nils]) [.tv (.pair (.int .i64) (.pair (.int .i64) (.pair (.int .i64) (.pair (.int .i64) (.pair (.int .i64) (.pair .str (.pair (.row (.int .i64)) .unit))))))) y0_0], true⟩, some ⟨.typed (.int .i64) y1, false⟩]⟩ (leave (E_spec_Uses k) Try.f193 (fin1 (.row (.int .i64))))
noncomputable def spec_Uses.l8b (k n : Nat) (x4 : Int) (x5 : Int) (y0_0 : Int × Int × Int × Int × Int × ByteArray × (List Int) × Unit) : Option (List Int) :=
  resume (E_spec_Uses k) 193 (acall (E_spec_Uses k) (arun Try.prog (E_spec_Uses k) k)) k [true, true, true, true, true, false, true, true] [n] (bodyOf Try.f193) ⟨[.undef, .ptr 0 0 0, .undef, .sl 1, .int .i64 x4, .int .i64 x5, .undef, .undef, .undef, .undef, .undef, .undef, .undef, .undef, .undef, .undef, .undef, .undef, .undef, .undef, .undef, .undef, .undef, .undef, .undef, .undef, .undef, .undef, .undef, .undef, .undef, .undef, .undef, .undef, .undef, .undef, .undef, .undef, .undef, .undef, .undef, .undef, .undef, .undef, .undef, .undef, .undef, .undef, .undef, .undef, .undef, .undef, .undef, .undef, .undef, .undef, .undef, .undef, .undef, .undef, .undef, .undef, .undef, .undef, .undef, .undef, .undef, .undef, .undef, .undef, .undef, .undef, .undef, .undef], [some ⟨.raw true 7 (.agg [.int .i64 0, .int .i64 0, .int .i64 0, .int .i64 0, .int .i64 0, .str ByteArray.empty, .nils]) [.tv (.pair (.int .i64) (.pair (.int .i64) (.pair (.int .i64) (.pair (.int .i64) (.pair (.int .i64) (.pair .str (.pair (.row (.int .i64)) .unit))))))) y0_0], true⟩, some ⟨.typed (.int .i64) [], true⟩]⟩ (leave (E_spec_Uses k) Try.f193 (fin1 (.row (.int .i64))))
noncomputable def spec_Uses.j10 (k m8 : Nat) (x4 : Int) (x5 : Int) (y0_0 : Int × Int × Int × Int × Int × ByteArray × (List Int) × Unit) (y1 : List Int) : Option (List Int) :=
  resume (E_spec_Uses k) 193 (acall (E_spec_Uses k) (arun Try.prog (E_spec_Uses k) k)) k [true, true, true, true, true, false, true, true, true, true] [m8] (bodyOf Try.f193) ⟨[.undef, .ptr 0 0 0, .undef, .sl 1, .int .i64 x4, .int .i64 x5, .undef, .undef, .undef, .undef, .undef, .undef, .undef, .undef, .undef, .undef, .undef, .undef, .undef, .undef, .undef, .undef, .undef, .undef, .undef, .undef, .undef, .undef, .undef, .undef, .undef, .undef, .undef, .undef, .undef, .undef, .undef, .undef, .undef, .undef, .undef, .undef, .undef, .undef, .undef, .undef, .undef, .undef, .undef, .undef, .undef, .undef, .undef, .undef, .undef, .undef, .undef, .undef, .undef, .undef, .undef, .undef, .undef, .undef, .undef, .undef, .undef, .undef, .undef, .undef, .undef, .undef, .undef, .undef], [some ⟨.raw true 7 (.agg [.int .i64 0, .int .i64 0, .int .i64 0, .int .i64 0, .int .i64 0, .str ByteArray.empty, .nils]) [.tv (.pair (.int .i64) (.pair (.int .i64) (.pair (.int .i64) (.pair (.int .i64) (.pair (.int .i64) (.pair .str (.pair (.row (.int .i64)) .unit))))))) y0_0], true⟩, some ⟨.typed (.int .i64) y1, false⟩]⟩ (leave (E_spec_Uses k) Try.f193 (fin1 (.row (.int .i64))))
noncomputable def spec_Uses.j10b (k m8 : Nat) (x4 : Int) (x5 : Int) (y0_0 : Int × Int × Int × Int × Int × ByteArray × (List Int) × Unit) : Option (List Int) :=
  resume (E_spec_Uses k) 193 (acall (E_spec_Uses k) (arun Try.prog (E_spec_Uses k) k)) k [true, true, true, true, true, false, true, true, true, true] [m8] (bodyOf Try.f193) ⟨[.undef, .ptr 0 0 0, .undef, .sl 1, .int .i64 x4, .int .i64 x5, .undef, .undef, .undef, .undef, .undef, .undef, .undef, .undef, .undef, .undef, .undef, .undef, .undef, .undef, .undef, .undef, .undef, .undef, .undef, .undef, .undef, .undef, .undef, .undef, .undef, .undef, .undef, .undef, .undef, .undef, .undef, .undef, .undef, .undef, .undef, .undef, .undef, .undef, .undef, .undef, .undef, .undef, .undef, .undef, .undef, .undef, .undef, .undef, .undef, .undef, .undef, .undef, .undef, .undef, .undef, .undef, .undef, .undef, .undef, .undef, .undef, .undef, .undef, .undef, .undef, .undef, .undef, .undef], [some ⟨.raw true 7 (.agg [.int .i64 0, .int .i64 0, .int .i64 0, .int .i64 0, .int .i64 0, .str ByteArray.empty, .nils]) [.tv (.pair (.int .i64) (.pair (.int .i64) (.pair (.int .i64) (.pair (.int .i64) (.pair (.int .i64) (.pair .str (.pair (.row (.int .i64)) .unit))))))) y0_0], true⟩, some ⟨.typed (.int .i64) [], true⟩]⟩ (leave (E_spec_Uses k) Try.f193 (fin1 (.row (.int .i64))))
theorem spec_Uses.j5_e (k : Nat) (x4 : Int) (y0_0 : Int × Int × Int × Int × Int × ByteArray × (List Int) × Unit) (y1 : List Int) : spec_Uses.j5 k x4 y0_0 y1 =
  iteB ((IntKind.wrap .i64 ((BitVec.ofInt (IntKind.bits .i64) x4 &&& BitVec.ofInt (IntKind.bits .i64) 4).toNat : Int)) != 0) (iteB (y0_0.1 != 19) (iteB (decide ((List.length (y1 ++ [y0_0.2.2.2.1])) * 8 ≤ lim)) (gate k (spec_Uses.j7 k x4 y0_0 (y1 ++ [y0_0.2.2.2.1]))) (none)) (gate k (spec_Uses.j7 k x4 y0_0 y1))) (gate k (spec_Uses.j7 k x4 y0_0 y1)) := by kernel_rfl
theorem spec_Uses.j5b_e (k : Nat) (x4 : Int) (y0_0 : Int × Int × Int × Int × Int × ByteArray × (List Int) × Unit) : spec_Uses.j5b k x4 y0_0 =
  iteB ((IntKind.wrap .i64 ((BitVec.ofInt (IntKind.bits .i64) x4 &&& BitVec.ofInt (IntKind.bits .i64) 4).toNat : Int)) != 0) (iteB (y0_0.1 != 19) (iteB (decide ((List.length ([] ++ [y0_0.2.2.2.1])) * 8 ≤ lim)) (gate k (spec_Uses.j7 k x4 y0_0 ([] ++ [y0_0.2.2.2.1]))) (none)) (gate k (spec_Uses.j7b k x4 y0_0))) (gate k (spec_Uses.j7b k x4 y0_0)) := by kernel_rfl
theorem spec_Uses.j7_e (k : Nat) (x4 : Int) (y0_0 : Int × Int × Int × Int × Int × ByteArray × (List Int) × Unit) (y1 : List Int) : spec_Uses.j7 k x4 y0_0 y1 =
  spec_Uses.l8 k k x4 0 y0_0 y1 := by kernel_rfl
theorem spec_Uses.j7b_e (k : Nat) (x4 : Int) (y0_0 : Int × Int × Int × Int × Int × ByteArray × (List Int) × Unit) : spec_Uses.j7b k x4 y0_0 =
  spec_Uses.l8b k k x4 0 y0_0 := by kernel_rfl
theorem spec_Uses.l8_0 (k : Nat) (x4 : Int) (x5 : Int) (y0_0 : Int × Int × Int × Int × Int × ByteArray × (List Int) × Unit) (y1 : List Int) : spec_Uses.l8 k 0 x4 x5 y0_0 y1 = none := by kernel_rfl
theorem spec_Uses.l8_s (k n : Nat) (x4 : Int) (x5 : Int) (y0_0 : Int × Int × Int × Int × Int × ByteArray × (List Int) × Unit) (y1 : List Int) : spec_Uses.l8 k (n + 1) x4 x5 y0_0 y1 =
  iteB (decide (x5 < ((List.length y0_0.2.2.2.2.2.2.1) : Int))) (iteB ((IntKind.wrap .i64 ((BitVec.ofInt (IntKind.bits .i64) x4 &&& BitVec.ofInt (IntKind.bits .i64) 32).toNat : Int)) != 0) (gate k (spec_Uses.j10 k n x4 x5 y0_0 y1)) (some y1)) (some y1) := by kernel_rfl
theorem spec_Uses.l8b_0 (k : Nat) (x4 : Int) (x5 : Int) (y0_0 : Int × Int × Int × Int × Int × ByteArray × (List Int) × Unit) : spec_Uses.l8b k 0 x4 x5 y0_0 = none := by kernel_rfl
theorem spec_Uses.l8b_s (k n : Nat) (x4 : Int) (x5 : Int) (y0_0 : Int × Int × Int × Int × Int × ByteArray × (List Int) × Unit) : spec_Uses.l8b k (n + 1) x4 x5 y0_0 =
  iteB (decide (x5 < ((List.length y0_0.2.2.2.2.2.2.1) : Int))) (iteB ((IntKind.wrap .i64 ((BitVec.ofInt (IntKind.bits .i64) x4 &&& BitVec.ofInt (IntKind.bits .i64) 32).toNat : Int)) != 0) (gate k (spec_Uses.j10b k n x4 x5 y0_0)) (some [])) (some []) := by kernel_rfl
theorem spec_Uses.j10_e (k m8 : Nat) (x4 : Int) (x5 : Int) (y0_0 : Int × Int × Int × Int × Int × ByteArray × (List Int) × Unit) (y1 : List Int) : spec_Uses.j10 k m8 x4 x5 y0_0 y1 =
  iteB (!(y0_0.1 != 19)) (iteB (!((Int.tmod x5 3) == 1)) (iteB ((Int.tmod x5 3) == 2) (iteB (decide (0 ≤ IntKind.wrap .i64 (x5 - 2))) (iteB (decide (IntKind.wrap .i64 (x5 - 2) < ((List.length y0_0.2.2.2.2.2.2.1) : Int))) (iteB ((List.getD y0_0.2.2.2.2.2.2.1 (Int.toNat (IntKind.wrap .i64 (x5 - 2))) 0) == 2) (iteB (decide (0 ≤ x5)) (iteB (decide (x5 < ((List.length y0_0.2.2.2.2.2.2.1) : Int))) (iteB (decide ((List.length (y1 ++ [List.getD y0_0.2.2.2.2.2.2.1 (Int.toNat x5) 0])) * 8 ≤ lim)) (spec_Uses.l8 k m8 x4 (IntKind.wrap .i64 (x5 + 1)) y0_0 (y1 ++ [List.getD y0_0.2.2.2.2.2.2.1 (Int.toNat x5) 0])) (none)) (none)) (none)) (spec_Uses.l8 k m8 x4 (IntKind.wrap .i64 (x5 + 1)) y0_0 y1)) (none)) (none)) (spec_Uses.l8 k m8 x4 (IntKind.wrap .i64 (x5 + 1)) y0_0 y1)) (iteB (decide (0 ≤ x5)) (iteB (decide (x5 < ((List.length y0_0.2.2.2.2.2.2.1) : Int))) (iteB (decide ((List.length (y1 ++ [List.getD y0_0.2.2.2.2.2.2.1 (Int.toNat x5) 0])) * 8 ≤ lim)) (spec_Uses.l8 k m8 x4 (IntKind.wrap .i64 (x5 + 1)) y0_0 (y1 ++ [List.getD y0_0.2.2.2.2.2.2.1 (Int.toNat x5) 0])) (none)) (none)) (none))) (iteB (decide (0 ≤ x5)) (iteB (decide (x5 < ((List.length y0_0.2.2.2.2.2.2.1) : Int))) (iteB (decide ((List.length (y1 ++ [List.getD y0_0.2.2.2.2.2.2.1 (Int.toNat x5) 0])) * 8 ≤ lim)) (spec_Uses.l8 k m8 x4 (IntKind.wrap .i64 (x5 + 1)) y0_0 (y1 ++ [List.getD y0_0.2.2.2.2.2.2.1 (Int.toNat x5) 0])) (none)) (none)) (none)) := by kernel_rfl
theorem spec_Uses.j10b_e (k m8 : Nat) (x4 : Int) (x5 : Int) (y0_0 : Int × Int × Int × Int × Int × ByteArray × (List Int) × Unit) : spec_Uses.j10b k m8 x4 x5 y0_0 =
  iteB (!(y0_0.1 != 19)) (iteB (!((Int.tmod x5 3) == 1)) (iteB ((Int.tmod x5 3) == 2) (iteB (decide (0 ≤ IntKind.wrap .i64 (x5 - 2))) (iteB (decide (IntKind.wrap .i64 (x5 - 2) < ((List.length y0_0.2.2.2.2.2.2.1) : Int))) (iteB ((List.getD y0_0.2.2.2.2.2.2.1 (Int.toNat (IntKind.wrap .i64 (x5 - 2))) 0) == 2) (iteB (decide (0 ≤ x5)) (iteB (decide (x5 < ((List.length y0_0.2.2.2.2.2.2.1) : Int))) (iteB (decide ((List.length ([] ++ [List.getD y0_0.2.2.2.2.2.2.1 (Int.toNat x5) 0])) * 8 ≤ lim)) (spec_Uses.l8 k m8 x4 (IntKind.wrap .i64 (x5 + 1)) y0_0 ([] ++ [List.getD y0_0.2.2.2.2.2.2.1 (Int.toNat x5) 0])) (none)) (none)) (none)) (spec_Uses.l8b k m8 x4 (IntKind.wrap .i64 (x5 + 1)) y0_0)) (none)) (none)) (spec_Uses.l8b k m8 x4 (IntKind.wrap .i64 (x5 + 1)) y0_0)) (iteB (decide (0 ≤ x5)) (iteB (decide (x5 < ((List.length y0_0.2.2.2.2.2.2.1) : Int))) (iteB (decide ((List.length ([] ++ [List.getD y0_0.2.2.2.2.2.2.1 (Int.toNat x5) 0])) * 8 ≤ lim)) (spec_Uses.l8 k m8 x4 (IntKind.wrap .i64 (x5 + 1)) y0_0 ([] ++ [List.getD y0_0.2.2.2.2.2.2.1 (Int.toNat x5) 0])) (none)) (none)) (none))) (iteB (decide (0 ≤ x5)) (iteB (decide (x5 < ((List.length y0_0.2.2.2.2.2.2.1) : Int))) (iteB (decide ((List.length ([] ++ [List.getD y0_0.2.2.2.2.2.2.1 (Int.toNat x5) 0])) * 8 ≤ lim)) (spec_Uses.l8 k m8 x4 (IntKind.wrap .i64 (x5 + 1)) y0_0 ([] ++ [List.getD y0_0.2.2.2.2.2.2.1 (Int.toNat x5) 0])) (none)) (none)) (none)) := by kernel_rfl
theorem spec_Uses_e (k : Nat) (a1 : Int × Int × Int × Int × Int × ByteArray × (List Int) × Unit) : spec_Uses k a1 =
  bindO (spec_l10Has k a1.1) fun r1 => (iteB ((IntKind.wrap .i64 ((BitVec.ofInt (IntKind.bits .i64) r1 &&& BitVec.ofInt (IntKind.bits .i64) 2).toNat : Int)) != 0) (iteB (decide ((List.length ([] ++ [a1.2.2.1])) * 8 ≤ lim)) (gate k (spec_Uses.j5 k r1 a1 ([] ++ [a1.2.2.1]))) (none)) (gate k (spec_Uses.j5b k r1 a1))) := by kernel_rfl
theorem E_spec_Uses_calls (k : Nat) : CallsOk Try.prog (E_spec_Uses k) (arun Try.prog (E_spec_Uses k) k) := by
  refine told_run (tyTOk _ _) ?_ (fun run h => regOk (tyTOk _ _) mixOk h) ?_ nameOk k
  · intro g m hg
    simp only [E_spec_Uses] at hg
    split at hg
    · cases hg
      refine con_byVal fun ρ l K x hm => ?_
      split at hm
      · obtain ⟨c1, h1, hm⟩ := Option.bind_eq_some_iff.1 hm
        obtain ⟨r, hr, hm⟩ := Option.bind_eq_some_iff.1 hm
        exact ⟨_, hm, LawV.reads (.cons (.as h1) .nil) (spec_l10Has_law k c1 r hr)⟩
      · cases hm
    · cases hg; exact noCon_ok
    · cases hg
  · intro g hg r
    by_cases h : g = 193
    · subst h; simp [E_spec_Uses] at hg
    · simp [E_spec_Uses, h]
theorem f193_okspec_Uses : Try.prog.funcs[193]? = some Try.f193 := by kernel_rfl
theorem spec_Uses_law (k : Nat) (a1 : Int × Int × Int × Int × Int × ByteArray × (List Int) × Unit) (x : List Int) (h : spec_Uses k a1 = some x) : LawV Try.prog 193 [.tv (.pair (.int .i64) (.pair (.int .i64) (.pair (.int .i64) (.pair (.int .i64) (.pair (.int .i64) (.pair .str (.pair (.row (.int .i64)) .unit))))))) a1] (tvn (.row (.int .i64)) x) := by
  unfold spec_Uses at h
  exact law1 (t := (.row (.int .i64))) (tyTOk _ _) (E_spec_Uses_calls k) mixOk f193_okspec_Uses (nameOk _ _ f193_okspec_Uses) (by kernel_rfl) h
/-! spec.l10Regs -/
noncomputable def E_spec_l10Regs (k : Nat) : Env := ⟨ty, fun g => match g with
  | 192 => some (byFresh (.int .i64) fun ρ l K => match l with
    | [b1] => (b1.as (.pair (.int .i64) (.pair (.int .i64) (.pair (.int .i64) (.pair (.int .i64) (.pair (.int .i64) (.pair .str (.pair (.row (.int .i64)) .unit)))))))).bind fun c1 => (spec_Sets k c1).bind fun r => K r
    | _ => none)
  | 193 => some (byVal fun ρ l K => match l with
    | [b1] => (b1.as (.pair (.int .i64) (.pair (.int .i64) (.pair (.int .i64) (.pair (.int .i64) (.pair (.int .i64) (.pair .str (.pair (.row (.int .i64)) .unit)))))))).bind fun c1 => (spec_Uses k c1).bind fun r => K (tvn (.row (.int .i64)) r)
    | _ => none)
  | 69 => some (byVal fun ρ l K => match l with
    | [b1, b2, b3] => (b1.as (.int .i64)).bind fun c1 => (b2.as (.int .i64)).bind fun c2 => (b3.as (.int .i64)).bind fun c3 => (spec_l1In k c1 c2 c3).bind fun r => K (tvn .bool r)
    | _ => none)
  | 158 => some noCon
  | _ => none, fun f r => match f with | 158 => (match r with | 3 => some [1, 5, 6] | _ => none) | _ => none⟩
noncomputable def spec_l10Regs (k : Nat) (a1 : Int × Int × Int × Int × Int × ByteArray × (List Int) × Unit) (a2 : Int) : Option (Bool) :=
  abody (E_spec_l10Regs k) (arun Try.prog (E_spec_l10Regs k) k) k 158 Try.f158 [.tv (.pair (.int .i64) (.pair (.int .i64) (.pair (.int .i64) (.pair (.int .i64) (.pair (.int .i64) (.pair .str (.pair (.row (.int .i64)) .unit))))))) a1, .int .i64 a2] [] (fin1 .bool)
noncomputable def spec_l10Regs.l3 (k n : Nat) (x1 : Int) (x6 : Int) (y0 : List Int) : Option (Bool) :=
  resume (E_spec_l10Regs k) 158 (acall (E_spec_l10Regs k) (arun Try.prog (E_spec_l10Regs k) k)) k [true, true, false, true, true] [n] (bodyOf Try.f158) ⟨[.undef, .int .i64 x1, .undef, .undef, .undef, .sl 0, .int .i64 x6, .undef, .undef, .undef, .undef, .undef, .undef, .undef, .undef, .undef, .undef, .undef, .undef, .undef, .undef, .undef, .undef, .undef, .undef, .undef], [some ⟨.typed (.int .i64) y0, false⟩]⟩ (leave (E_spec_l10Regs k) Try.f158 (fin1 .bool))
theorem spec_l10Regs.l3_0 (k : Nat) (x1 : Int) (x6 : Int) (y0 : List Int) : spec_l10Regs.l3 k 0 x1 x6 y0 = none := by kernel_rfl
theorem spec_l10Regs.l3_s (k n : Nat) (x1 : Int) (x6 : Int) (y0 : List Int) : spec_l10Regs.l3 k (n + 1) x1 x6 y0 =
  iteB (decide (x6 < ((List.length y0) : Int))) (iteB (decide (0 ≤ x6)) (iteB (decide (x6 < ((List.length y0) : Int))) (bindO (spec_l1In k (List.getD y0 (Int.toNat x6) 0) 0 (IntKind.wrap .i64 (x1 - 1))) fun r3 => (iteB (!r3) (some false) (spec_l10Regs.l3 k n x1 (IntKind.wrap .i64 (x6 + 1)) y0))) (none)) (none)) (some true) := by kernel_rfl
theorem spec_l10Regs_e (k : Nat) (a1 : Int × Int × Int × Int × Int × ByteArray × (List Int) × Unit) (a2 : Int) : spec_l10Regs k a1 a2 =
  bindO (spec_Sets k a1) fun r1 => (bindO (spec_Uses k a1) fun r2 => (iteB (decide ((List.length (r1 ++ r2)) * 8 ≤ lim)) (spec_l10Regs.l3 k k a2 0 (r1 ++ r2)) (none))) := by kernel_rfl
theorem E_spec_l10Regs_calls (k : Nat) : CallsOk Try.prog (E_spec_l10Regs k) (arun Try.prog (E_spec_l10Regs k) k) := by
  refine told_run (tyTOk _ _) ?_ (fun run h => regOk (tyTOk _ _) mixOk h) ?_ nameOk k
  · intro g m hg
    simp only [E_spec_l10Regs] at hg
    split at hg
    · cases hg
      refine con_byFresh fun ρ l K x hm => ?_
      split at hm
      · obtain ⟨c1, h1, hm⟩ := Option.bind_eq_some_iff.1 hm
        obtain ⟨r, hr, hm⟩ := Option.bind_eq_some_iff.1 hm
        exact ⟨_, hm, LawF.reads (.cons (.as h1) .nil) (spec_Sets_law k c1 r hr)⟩
      · cases hm
    · cases hg
      refine con_byVal fun ρ l K x hm => ?_
      split at hm
      · obtain ⟨c1, h1, hm⟩ := Option.bind_eq_some_iff.1 hm
        obtain ⟨r, hr, hm⟩ := Option.bind_eq_some_iff.1 hm
        exact ⟨_, hm, LawV.reads (.cons (.as h1) .nil) (spec_Uses_law k c1 r hr)⟩
      · cases hm
    · cases hg
      refine con_byVal fun ρ l K x hm => ?_
      split at hm
      · obtain ⟨c1, h1, hm⟩ := Option.bind_eq_some_iff.1 hm
        obtain ⟨c2, h2, hm⟩ := Option.bind_eq_some_iff.1 hm
        obtain ⟨c3, h3, hm⟩ := Option.bind_eq_some_iff.1 hm
        obtain ⟨r, hr, hm⟩ := Option.bind_eq_some_iff.1 hm
        exact ⟨_, hm, LawV.reads (.cons (.as h1) (.cons (.as h2) (.cons (.as h3) .nil))) (spec_l1In_law k c1 c2 c3 r hr)⟩
      · cases hm
    · cases hg; exact noCon_ok
    · cases hg
  · intro g hg r
    by_cases h : g = 158
    · subst h; simp [E_spec_l10Regs] at hg
    · simp [E_spec_l10Regs, h]
theorem f158_okspec_l10Regs : Try.prog.funcs[158]? = some Try.f158 := by kernel_rfl
theorem spec_l10Regs_law (k : Nat) (a1 : Int × Int × Int × Int × Int × ByteArray × (List Int) × Unit) (a2 : Int) (x : Bool) (h : spec_l10Regs k a1 a2 = some x) : LawV Try.prog 158 [.tv (.pair (.int .i64) (.pair (.int .i64) (.pair (.int .i64) (.pair (.int .i64) (.pair (.int .i64) (.pair .str (.pair (.row (.int .i64)) .unit))))))) a1, .int .i64 a2] (tvn .bool x) := by
  unfold spec_l10Regs at h
  exact law1 (t := .bool) (tyTOk _ _) (E_spec_l10Regs_calls k) mixOk f158_okspec_l10Regs (nameOk _ _ f158_okspec_l10Regs) (by kernel_rfl) h
/-! spec.WordOk -/
noncomputable def E_spec_WordOk (k : Nat) : Env := ⟨ty, fun g => match g with
  | 69 => some (byVal fun ρ l K => match l with
    | [b1, b2, b3] => (b1.as (.int .i64)).bind fun c1 => (b2.as (.int .i64)).bind fun c2 => (b3.as (.int .i64)).bind fun c3 => (spec_l1In k c1 c2 c3).bind fun r => K (tvn .bool r)
    | _ => none)
  | _ => none, fun _ _ => none⟩
noncomputable def spec_WordOk (k : Nat) (a1 : Int) : Option (Bool) :=
  abody (E_spec_WordOk k) (arun Try.prog (E_spec_WordOk k) k) k 71 Try.f71 [.int .i64 a1] [] (fin1 .bool)
theorem spec_WordOk_e (k : Nat) (a1 : Int) : spec_WordOk k a1 =
  bindO (spec_l1In k a1 (-2147483648) 2147483647) fun r1 => (some r1) := by kernel_rfl
theorem E_spec_WordOk_calls (k : Nat) : CallsOk Try.prog (E_spec_WordOk k) (arun Try.prog (E_spec_WordOk k) k) := by
  refine told_run (tyTOk _ _) ?_ (fun run h => regOk (tyTOk _ _) mixOk h) ?_ nameOk k
  · intro g m hg
    simp only [E_spec_WordOk] at hg
    split at hg
    · cases hg
      refine con_byVal fun ρ l K x hm => ?_
      split at hm
      · obtain ⟨c1, h1, hm⟩ := Option.bind_eq_some_iff.1 hm
        obtain ⟨c2, h2, hm⟩ := Option.bind_eq_some_iff.1 hm
        obtain ⟨c3, h3, hm⟩ := Option.bind_eq_some_iff.1 hm
        obtain ⟨r, hr, hm⟩ := Option.bind_eq_some_iff.1 hm
        exact ⟨_, hm, LawV.reads (.cons (.as h1) (.cons (.as h2) (.cons (.as h3) .nil))) (spec_l1In_law k c1 c2 c3 r hr)⟩
      · cases hm
    · cases hg
  · intro g _ r; rfl
theorem f71_okspec_WordOk : Try.prog.funcs[71]? = some Try.f71 := by kernel_rfl
theorem spec_WordOk_law (k : Nat) (a1 : Int) (x : Bool) (h : spec_WordOk k a1 = some x) : LawV Try.prog 71 [.int .i64 a1] (tvn .bool x) := by
  unfold spec_WordOk at h
  exact law1 (t := .bool) (tyTOk _ _) (E_spec_WordOk_calls k) mixOk f71_okspec_WordOk (nameOk _ _ f71_okspec_WordOk) (by kernel_rfl) h
end Go.Proofs.Ytapijpjgfpjahaa.XFnExactUnitsOk
