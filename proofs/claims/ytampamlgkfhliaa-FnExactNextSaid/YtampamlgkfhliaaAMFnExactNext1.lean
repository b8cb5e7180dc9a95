/- Functions of the program as runs of the interpreter: equations, and a law for each. -/
import Derived.Test.YtampamlgkfhliaaProg
import Derived.Test.YtampamlgkfhliaaChecked
import Derived.KernelRfl
import Derived.Eval
import Derived.Test.YtampamlgkfhliaaATyOk
import Derived.Test.YtampamlgkfhliaaAS40
import Derived.Test.YtampamlgkfhliaaAMFnExactNext0
open Go Go.AM Go.AMx Go.Proofs
namespace Go.Proofs.Ytampamlgkfhliaa.XFnExactNext
set_option linter.unusedVariables false
set_option linter.unusedSimpArgs false
/-! spec.UnitOk -/
noncomputable def E_spec_UnitOk (k : Nat) : Env := ⟨ty, fun g => match g with
  | 51 => some (byVal fun ρ l K => match l with
    | [b1, b2, b3] => (b1.as (.int .i64)).bind fun c1 => (b2.as (.int .i64)).bind fun c2 => (b3.as (.int .i64)).bind fun c3 => (spec_l1In k c1 c2 c3).bind fun r => K (tvn .bool r)
    | _ => none)
  | 99 => some (byVal fun ρ l K => match l with
    | [b1, b2] => (b1.as (.int .i64)).bind fun c1 => (b2.as (.int .i64)).bind fun c2 => (spec_l1Min k c1 c2).bind fun r => K (tvn (.int .i64) r)
    | _ => none)
  | 100 => some (byVal fun ρ l K => match l with
    | [b1, b2] => (b1.as (.pair (.int .i64) (.pair (.int .i64) (.pair (.int .i64) (.pair (.int .i64) (.pair (.int .i64) (.pair .str (.pair (.row (.int .i64)) .unit)))))))).bind fun c1 => (b2.as (.int .i64)).bind fun c2 => (spec_l10Place k c1 c2).bind fun r => K (tvn .bool r)
    | _ => none)
  | 101 => some (byVal fun ρ l K => match l with
    | [b1, b2] => (b1.as (.row (.pair (.int .i64) (.pair (.int .i64) (.pair (.int .i64) (.pair (.int .i64) (.pair (.int .i64) (.pair .str (.pair (.row (.int .i64)) .unit))))))))).bind fun c1 => (b2.as (.int .i64)).bind fun c2 => (spec_l10Label k c1 c2).bind fun r => K (tvn (.int .i64) r)
    | _ => none)
  | 50 => some noCon
  | _ => none, fun f r => match f with | 50 => (match r with | 4 => some [1, 3] | 5 => some [1, 3, 4] | _ => none) | _ => none⟩
noncomputable def spec_UnitOk (k : Nat) (a1 : ByteArray × Int × Int × (List (Int × Int × Int × Int × Int × ByteArray × (List Int) × Unit)) × Unit) : Option (Bool) :=
  abody (E_spec_UnitOk k) (arun Try.prog (E_spec_UnitOk k) k) k 50 Try.f50 [.tv (.pair .str (.pair (.int .i64) (.pair (.int .i64) (.pair (.row (.pair (.int .i64) (.pair (.int .i64) (.pair (.int .i64) (.pair (.int .i64) (.pair (.int .i64) (.pair .str (.pair (.row (.int .i64)) .unit)))))))) .unit)))) a1] [] (fin1 .bool)
noncomputable def spec_UnitOk.j4 (k : Nat) (x3 : Int) (y0_0 : ByteArray × Int × Int × (List (Int × Int × Int × Int × Int × ByteArray × (List Int) × Unit)) × Unit) : Option (Bool) :=
  resume (E_spec_UnitOk k) 50 (acall (E_spec_UnitOk k) (arun Try.prog (E_spec_UnitOk k) k)) k [true, true, true] [] (bodyOf Try.f50) ⟨[.undef, .ptr 0 0 0, .undef, .int .i64 x3, .undef, .undef, .undef, .undef, .undef, .undef, .undef, .undef, .undef, .undef, .undef, .undef, .undef, .undef, .undef, .undef, .undef, .undef, .undef, .undef, .undef, .undef, .undef, .undef, .undef, .undef, .undef, .undef, .undef, .undef, .undef, .undef, .undef, .undef, .undef, .undef, .undef, .undef, .undef, .undef, .undef, .undef, .undef, .undef, .undef, .undef, .undef, .undef, .undef, .undef, .undef, .undef, .undef, .undef, .undef, .undef, .undef, .undef, .undef, .undef, .undef, .undef, .undef, .undef, .undef, .undef, .undef, .undef, .undef, .undef, .undef, .undef, .undef, .undef, .undef, .undef, .undef, .undef, .undef, .undef, .undef, .undef, .undef, .undef, .undef, .undef, .undef, .undef, .undef, .undef], [some ⟨.raw true 4 (.agg [.str ByteArray.empty, .int .i64 0, .int .i64 0, .nils]) [.tv (.pair .str (.pair (.int .i64) (.pair (.int .i64) (.pair (.row (.pair (.int .i64) (.pair (.int .i64) (.pair (.int .i64) (.pair (.int .i64) (.pair (.int .i64) (.pair .str (.pair (.row (.int .i64)) .unit)))))))) .unit)))) y0_0], true⟩]⟩ (leave (E_spec_UnitOk k) Try.f50 (fin1 .bool))
noncomputable def spec_UnitOk.l5 (k n : Nat) (x3 : Int) (x4 : Int) (y0_0 : ByteArray × Int × Int × (List (Int × Int × Int × Int × Int × ByteArray × (List Int) × Unit)) × Unit) : Option (Bool) :=
  resume (E_spec_UnitOk k) 50 (acall (E_spec_UnitOk k) (arun Try.prog (E_spec_UnitOk k) k)) k [true, true, true, false, true, true] [n] (bodyOf Try.f50) ⟨[.undef, .ptr 0 0 0, .undef, .int .i64 x3, .int .i64 x4, .undef, .undef, .undef, .undef, .undef, .undef, .undef, .undef, .undef, .undef, .undef, .undef, .undef, .undef, .undef, .undef, .undef, .undef, .undef, .undef, .undef, .undef, .undef, .undef, .undef, .undef, .undef, .undef, .undef, .undef, .undef, .undef, .undef, .undef, .undef, .undef, .undef, .undef, .undef, .undef, .undef, .undef, .undef, .undef, .undef, .undef, .undef, .undef, .undef, .undef, .undef, .undef, .undef, .undef, .undef, .undef, .undef, .undef, .undef, .undef, .undef, .undef, .undef, .undef, .undef, .undef, .undef, .undef, .undef, .undef, .undef, .undef, .undef, .undef, .undef, .undef, .undef, .undef, .undef, .undef, .undef, .undef, .undef, .undef, .undef, .undef, .undef, .undef, .undef], [some ⟨.raw true 4 (.agg [.str ByteArray.empty, .int .i64 0, .int .i64 0, .nils]) [.tv (.pair .str (.pair (.int .i64) (.pair (.int .i64) (.pair (.row (.pair (.int .i64) (.pair (.int .i64) (.pair (.int .i64) (.pair (.int .i64) (.pair (.int .i64) (.pair .str (.pair (.row (.int .i64)) .unit)))))))) .unit)))) y0_0], true⟩]⟩ (leave (E_spec_UnitOk k) Try.f50 (fin1 .bool))
theorem spec_UnitOk.j4_e (k : Nat) (x3 : Int) (y0_0 : ByteArray × Int × Int × (List (Int × Int × Int × Int × Int × ByteArray × (List Int) × Unit)) × Unit) : spec_UnitOk.j4 k x3 y0_0 =
  spec_UnitOk.l5 k k x3 0 y0_0 := by kernel_rfl
theorem spec_UnitOk.l5_0 (k : Nat) (x3 : Int) (x4 : Int) (y0_0 : ByteArray × Int × Int × (List (Int × Int × Int × Int × Int × ByteArray × (List Int) × Unit)) × Unit) : spec_UnitOk.l5 k 0 x3 x4 y0_0 = none := by kernel_rfl
theorem spec_UnitOk.l5_s (k n : Nat) (x3 : Int) (x4 : Int) (y0_0 : ByteArray × Int × Int × (List (Int × Int × Int × Int × Int × ByteArray × (List Int) × Unit)) × Unit) : spec_UnitOk.l5 k (n + 1) x3 x4 y0_0 =
  iteB (decide (x4 < x3)) (iteB (decide (0 ≤ x4)) (iteB (decide (x4 < ((List.length y0_0.2.2.2.1) : Int))) (bindO (spec_l10Place k (List.getD y0_0.2.2.2.1 (Int.toNat x4) (Ty.dflt (.pair (.int .i64) (.pair (.int .i64) (.pair (.int .i64) (.pair (.int .i64) (.pair (.int .i64) (.pair .str (.pair (.row (.int .i64)) .unit))))))))) y0_0.2.2.1) fun r5 => (iteB (!r5) (some false) (bindO (spec_l10Label k y0_0.2.2.2.1 ((((((List.getD y0_0.2.2.2.1 (Int.toNat x4) (Ty.dflt (.pair (.int .i64) (.pair (.int .i64) (.pair (.int .i64) (.pair (.int .i64) (.pair (.int .i64) (.pair .str (.pair (.row (.int .i64)) .unit))))))))).2).2).2).2).1)) fun r6 => (iteB (((List.getD y0_0.2.2.2.1 (Int.toNat x4) (Ty.dflt (.pair (.int .i64) (.pair (.int .i64) (.pair (.int .i64) (.pair (.int .i64) (.pair (.int .i64) (.pair .str (.pair (.row (.int .i64)) .unit))))))))).1) == 8) (iteB (!(r6 != x4)) (bindO (spec_l1In k ((((((List.getD y0_0.2.2.2.1 (Int.toNat x4) (Ty.dflt (.pair (.int .i64) (.pair (.int .i64) (.pair (.int .i64) (.pair (.int .i64) (.pair (.int .i64) (.pair .str (.pair (.row (.int .i64)) .unit))))))))).2).2).2).2).1) 0 900) fun r7 => (iteB (!(!r7)) (iteB (!(((List.getD y0_0.2.2.2.1 (Int.toNat x4) (Ty.dflt (.pair (.int .i64) (.pair (.int .i64) (.pair (.int .i64) (.pair (.int .i64) (.pair (.int .i64) (.pair .str (.pair (.row (.int .i64)) .unit))))))))).1) == 9)) (iteB (((List.getD y0_0.2.2.2.1 (Int.toNat x4) (Ty.dflt (.pair (.int .i64) (.pair (.int .i64) (.pair (.int .i64) (.pair (.int .i64) (.pair (.int .i64) (.pair .str (.pair (.row (.int .i64)) .unit))))))))).1) == 10) (iteB (decide (r6 < 0)) (some false) (spec_UnitOk.l5 k n x3 (IntKind.wrap .i64 (x4 + 1)) y0_0)) (spec_UnitOk.l5 k n x3 (IntKind.wrap .i64 (x4 + 1)) y0_0)) (iteB (decide (r6 < 0)) (some false) (spec_UnitOk.l5 k n x3 (IntKind.wrap .i64 (x4 + 1)) y0_0))) (some false))) (some false)) (iteB (!(((List.getD y0_0.2.2.2.1 (Int.toNat x4) (Ty.dflt (.pair (.int .i64) (.pair (.int .i64) (.pair (.int .i64) (.pair (.int .i64) (.pair (.int .i64) (.pair .str (.pair (.row (.int .i64)) .unit))))))))).1) == 9)) (iteB (((List.getD y0_0.2.2.2.1 (Int.toNat x4) (Ty.dflt (.pair (.int .i64) (.pair (.int .i64) (.pair (.int .i64) (.pair (.int .i64) (.pair (.int .i64) (.pair .str (.pair (.row (.int .i64)) .unit))))))))).1) == 10) (iteB (decide (r6 < 0)) (some false) (spec_UnitOk.l5 k n x3 (IntKind.wrap .i64 (x4 + 1)) y0_0)) (spec_UnitOk.l5 k n x3 (IntKind.wrap .i64 (x4 + 1)) y0_0)) (iteB (decide (r6 < 0)) (some false) (spec_UnitOk.l5 k n x3 (IntKind.wrap .i64 (x4 + 1)) y0_0))))))) (none)) (none)) (iteB (decide (0 ≤ IntKind.wrap .i64 (x3 - 1))) (iteB (decide (IntKind.wrap .i64 (x3 - 1) < ((List.length y0_0.2.2.2.1) : Int))) (iteB (!(((List.getD y0_0.2.2.2.1 (Int.toNat (IntKind.wrap .i64 (x3 - 1))) (Ty.dflt (.pair (.int .i64) (.pair (.int .i64) (.pair (.int .i64) (.pair (.int .i64) (.pair (.int .i64) (.pair .str (.pair (.row (.int .i64)) .unit))))))))).1) == 12)) (iteB (!(((List.getD y0_0.2.2.2.1 (Int.toNat (IntKind.wrap .i64 (x3 - 1))) (Ty.dflt (.pair (.int .i64) (.pair (.int .i64) (.pair (.int .i64) (.pair (.int .i64) (.pair (.int .i64) (.pair .str (.pair (.row (.int .i64)) .unit))))))))).1) == 9)) (some (((List.getD y0_0.2.2.2.1 (Int.toNat (IntKind.wrap .i64 (x3 - 1))) (Ty.dflt (.pair (.int .i64) (.pair (.int .i64) (.pair (.int .i64) (.pair (.int .i64) (.pair (.int .i64) (.pair .str (.pair (.row (.int .i64)) .unit))))))))).1) == 28)) (some true)) (some true)) (none)) (none)) := by kernel_rfl
theorem spec_UnitOk_e (k : Nat) (a1 : ByteArray × Int × Int × (List (Int × Int × Int × Int × Int × ByteArray × (List Int) × Unit)) × Unit) : spec_UnitOk k a1 =
  bindO (spec_l1In k a1.2.2.1 0 250) fun r1 => (iteB (!(!r1)) (bindO (spec_l1Min k 4 a1.2.2.1) fun r2 => (bindO (spec_l1In k a1.2.1 0 r2) fun r3 => (iteB (!(!r3)) (bindO (spec_l1In k ((List.length a1.2.2.2.1) : Int) 1 900) fun r4 => (iteB (!r4) (some false) (gate k (spec_UnitOk.j4 k ((List.length a1.2.2.2.1) : Int) a1)))) (some false)))) (some false)) := by kernel_rfl
theorem E_spec_UnitOk_calls (k : Nat) : CallsOk Try.prog (E_spec_UnitOk k) (arun Try.prog (E_spec_UnitOk k) k) := by
  refine told_run (tyTOk _ _) ?_ (fun run h => regOk (tyTOk _ _) mixOk h) ?_ nameOk k
  · intro g m hg
    simp only [E_spec_UnitOk] at hg
    split at hg
    · cases hg
      refine con_byVal fun ρ l K x hm => ?_
      split at hm
      · obtain ⟨c1, h1, hm⟩ := Option.bind_eq_some_iff.1 hm
        obtain ⟨c2, h2, hm⟩ := Option.bind_eq_some_iff.1 hm
        obtain ⟨c3, h3, hm⟩ := Option.bind_eq_some_iff.1 hm
        obtain ⟨r, hr, hm⟩ := Option.bind_eq_some_iff.1 hm
        exact ⟨_, hm, LawV.reads (.cons (.as h1) (.cons (.as h2) (.cons (.as h3) .nil))) (spec_l1In_law k c1 c2 c3 r hr)⟩
      · cases hm
    · cases hg
      refine con_byVal fun ρ l K x hm => ?_
      split at hm
      · obtain ⟨c1, h1, hm⟩ := Option.bind_eq_some_iff.1 hm
        obtain ⟨c2, h2, hm⟩ := Option.bind_eq_some_iff.1 hm
        obtain ⟨r, hr, hm⟩ := Option.bind_eq_some_iff.1 hm
        exact ⟨_, hm, LawV.reads (.cons (.as h1) (.cons (.as h2) .nil)) (spec_l1Min_law k c1 c2 r hr)⟩
      · cases hm
    · cases hg
      refine con_byVal fun ρ l K x hm => ?_
      split at hm
      · obtain ⟨c1, h1, hm⟩ := Option.bind_eq_some_iff.1 hm
        obtain ⟨c2, h2, hm⟩ := Option.bind_eq_some_iff.1 hm
        obtain ⟨r, hr, hm⟩ := Option.bind_eq_some_iff.1 hm
        exact ⟨_, hm, LawV.reads (.cons (.as h1) (.cons (.as h2) .nil)) (spec_l10Place_law k c1 c2 r hr)⟩
      · cases hm
    · cases hg
      refine con_byVal fun ρ l K x hm => ?_
      split at hm
      · obtain ⟨c1, h1, hm⟩ := Option.bind_eq_some_iff.1 hm
        obtain ⟨c2, h2, hm⟩ := Option.bind_eq_some_iff.1 hm
        obtain ⟨r, hr, hm⟩ := Option.bind_eq_some_iff.1 hm
        exact ⟨_, hm, LawV.reads (.cons (.as h1) (.cons (.as h2) .nil)) (spec_l10Label_law k c1 c2 r hr)⟩
      · cases hm
    · cases hg; exact noCon_ok
    · cases hg
  · intro g hg r
    by_cases h : g = 50
    · subst h; simp [E_spec_UnitOk] at hg
    · simp [E_spec_UnitOk, h]
theorem f50_okspec_UnitOk : Try.prog.funcs[50]? = some Try.f50 := by kernel_rfl
theorem spec_UnitOk_law (k : Nat) (a1 : ByteArray × Int × Int × (List (Int × Int × Int × Int × Int × ByteArray × (List Int) × Unit)) × Unit) (x : Bool) (h : spec_UnitOk k a1 = some x) : LawV Try.prog 50 [.tv (.pair .str (.pair (.int .i64) (.pair (.int .i64) (.pair (.row (.pair (.int .i64) (.pair (.int .i64) (.pair (.int .i64) (.pair (.int .i64) (.pair (.int .i64) (.pair .str (.pair (.row (.int .i64)) .unit)))))))) .unit)))) a1] (tvn .bool x) := by
  unfold spec_UnitOk at h
  exact law1 (t := .bool) (tyTOk _ _) (E_spec_UnitOk_calls k) mixOk f50_okspec_UnitOk (nameOk _ _ f50_okspec_UnitOk) (by kernel_rfl) h
/-! spec.l16Next -/
noncomputable def E_spec_l16Next (k : Nat) : Env := ⟨ty, fun g => match g with
  | 101 => some (byVal fun ρ l K => match l with
    | [b1, b2] => (b1.as (.row (.pair (.int .i64) (.pair (.int .i64) (.pair (.int .i64) (.pair (.int .i64) (.pair (.int .i64) (.pair .str (.pair (.row (.int .i64)) .unit))))))))).bind fun c1 => (b2.as (.int .i64)).bind fun c2 => (spec_l10Label k c1 c2).bind fun r => K (tvn (.int .i64) r)
    | _ => none)
  | _ => none, fun _ _ => none⟩
noncomputable def spec_l16Next (k : Nat) (a1 : ByteArray × Int × Int × (List (Int × Int × Int × Int × Int × ByteArray × (List Int) × Unit)) × Unit) (a2 : Int) : Option (List Int) :=
  abody (E_spec_l16Next k) (arun Try.prog (E_spec_l16Next k) k) k 52 Try.f52 [.tv (.pair .str (.pair (.int .i64) (.pair (.int .i64) (.pair (.row (.pair (.int .i64) (.pair (.int .i64) (.pair (.int .i64) (.pair (.int .i64) (.pair (.int .i64) (.pair .str (.pair (.row (.int .i64)) .unit)))))))) .unit)))) a1, .int .i64 a2] [] (finF (.int .i64))
theorem spec_l16Next_e (k : Nat) (a1 : ByteArray × Int × Int × (List (Int × Int × Int × Int × Int × ByteArray × (List Int) × Unit)) × Unit) (a2 : Int) : spec_l16Next k a1 a2 =
  iteB (decide (0 ≤ a2)) (iteB (decide (a2 < ((List.length a1.2.2.2.1) : Int))) (bindO (spec_l10Label k a1.2.2.2.1 ((((((List.getD a1.2.2.2.1 (Int.toNat a2) (Ty.dflt (.pair (.int .i64) (.pair (.int .i64) (.pair (.int .i64) (.pair (.int .i64) (.pair (.int .i64) (.pair .str (.pair (.row (.int .i64)) .unit))))))))).2).2).2).2).1)) fun r1 => (iteB (((List.getD a1.2.2.2.1 (Int.toNat a2) (Ty.dflt (.pair (.int .i64) (.pair (.int .i64) (.pair (.int .i64) (.pair (.int .i64) (.pair (.int .i64) (.pair .str (.pair (.row (.int .i64)) .unit))))))))).1) == 12) (some []) (iteB (((List.getD a1.2.2.2.1 (Int.toNat a2) (Ty.dflt (.pair (.int .i64) (.pair (.int .i64) (.pair (.int .i64) (.pair (.int .i64) (.pair (.int .i64) (.pair .str (.pair (.row (.int .i64)) .unit))))))))).1) == 28) (some []) (iteB (((List.getD a1.2.2.2.1 (Int.toNat a2) (Ty.dflt (.pair (.int .i64) (.pair (.int .i64) (.pair (.int .i64) (.pair (.int .i64) (.pair (.int .i64) (.pair .str (.pair (.row (.int .i64)) .unit))))))))).1) == 9) (some [r1]) (iteB (((List.getD a1.2.2.2.1 (Int.toNat a2) (Ty.dflt (.pair (.int .i64) (.pair (.int .i64) (.pair (.int .i64) (.pair (.int .i64) (.pair (.int .i64) (.pair .str (.pair (.row (.int .i64)) .unit))))))))).1) == 10) (iteB (decide (r1 < IntKind.wrap .i64 (a2 + 1))) (some [r1, IntKind.wrap .i64 (a2 + 1)]) (iteB (decide (r1 > IntKind.wrap .i64 (a2 + 1))) (some [IntKind.wrap .i64 (a2 + 1), r1]) (some [IntKind.wrap .i64 (a2 + 1)]))) (some [IntKind.wrap .i64 (a2 + 1)])))))) (none)) (none) := by kernel_rfl
theorem E_spec_l16Next_calls (k : Nat) : CallsOk Try.prog (E_spec_l16Next k) (arun Try.prog (E_spec_l16Next k) k) := by
  refine told_run (tyTOk _ _) ?_ (fun run h => regOk (tyTOk _ _) mixOk h) ?_ nameOk k
  · intro g m hg
    simp only [E_spec_l16Next] at hg
    split at hg
    · cases hg
      refine con_byVal fun ρ l K x hm => ?_
      split at hm
      · obtain ⟨c1, h1, hm⟩ := Option.bind_eq_some_iff.1 hm
        obtain ⟨c2, h2, hm⟩ := Option.bind_eq_some_iff.1 hm
        obtain ⟨r, hr, hm⟩ := Option.bind_eq_some_iff.1 hm
        exact ⟨_, hm, LawV.reads (.cons (.as h1) (.cons (.as h2) .nil)) (spec_l10Label_law k c1 c2 r hr)⟩
      · cases hm
    · cases hg
  · intro g _ r; rfl
theorem f52_okspec_l16Next : Try.prog.funcs[52]? = some Try.f52 := by kernel_rfl
theorem spec_l16Next_law (k : Nat) (a1 : ByteArray × Int × Int × (List (Int × Int × Int × Int × Int × ByteArray × (List Int) × Unit)) × Unit) (a2 : Int) (x : List Int) (h : spec_l16Next k a1 a2 = some x) : LawF Try.prog 52 [.tv (.pair .str (.pair (.int .i64) (.pair (.int .i64) (.pair (.row (.pair (.int .i64) (.pair (.int .i64) (.pair (.int .i64) (.pair (.int .i64) (.pair (.int .i64) (.pair .str (.pair (.row (.int .i64)) .unit)))))))) .unit)))) a1, .int .i64 a2] (.int .i64) x := by
  unfold spec_l16Next at h
  exact lawF (e := (.int .i64)) (tyTOk _ _) (E_spec_l16Next_calls k) mixOk f52_okspec_l16Next (nameOk _ _ f52_okspec_l16Next) (by kernel_rfl) h
/-! spec.Next -/
noncomputable def E_spec_Next (k : Nat) : Env := ⟨ty, fun g => match g with
  | 50 => some (byVal fun ρ l K => match l with
    | [b1] => (b1.as (.pair .str (.pair (.int .i64) (.pair (.int .i64) (.pair (.row (.pair (.int .i64) (.pair (.int .i64) (.pair (.int .i64) (.pair (.int .i64) (.pair (.int .i64) (.pair .str (.pair (.row (.int .i64)) .unit)))))))) .unit))))).bind fun c1 => (spec_UnitOk k c1).bind fun r => K (tvn .bool r)
    | _ => none)
  | 51 => some (byVal fun ρ l K => match l with
    | [b1, b2, b3] => (b1.as (.int .i64)).bind fun c1 => (b2.as (.int .i64)).bind fun c2 => (b3.as (.int .i64)).bind fun c3 => (spec_l1In k c1 c2 c3).bind fun r => K (tvn .bool r)
    | _ => none)
  | 52 => some (byFresh (.int .i64) fun ρ l K => match l with
    | [b1, b2] => (b1.as (.pair .str (.pair (.int .i64) (.pair (.int .i64) (.pair (.row (.pair (.int .i64) (.pair (.int .i64) (.pair (.int .i64) (.pair (.int .i64) (.pair (.int .i64) (.pair .str (.pair (.row (.int .i64)) .unit)))))))) .unit))))).bind fun c1 => (b2.as (.int .i64)).bind fun c2 => (spec_l16Next k c1 c2).bind fun r => K r
    | _ => none)
  | _ => none, fun _ _ => none⟩
noncomputable def spec_Next (k : Nat) (a1 : ByteArray × Int × Int × (List (Int × Int × Int × Int × Int × ByteArray × (List Int) × Unit)) × Unit) (a2 : Int) : Option (List Int) :=
  abody (E_spec_Next k) (arun Try.prog (E_spec_Next k) k) k 19 Try.f19 [.tv (.pair .str (.pair (.int .i64) (.pair (.int .i64) (.pair (.row (.pair (.int .i64) (.pair (.int .i64) (.pair (.int .i64) (.pair (.int .i64) (.pair (.int .i64) (.pair .str (.pair (.row (.int .i64)) .unit)))))))) .unit)))) a1, .int .i64 a2] [] (finF (.int .i64))
theorem spec_Next_e (k : Nat) (a1 : ByteArray × Int × Int × (List (Int × Int × Int × Int × Int × ByteArray × (List Int) × Unit)) × Unit) (a2 : Int) : spec_Next k a1 a2 =
  bindO (spec_UnitOk k a1) fun r1 => (iteB (!(!r1)) (bindO (spec_l1In k a2 0 (IntKind.wrap .i64 (((List.length a1.2.2.2.1) : Int) - 1))) fun r2 => (iteB (!r2) (some []) (bindO (spec_l16Next k a1 a2) fun r3 => (some r3)))) (some [])) := by kernel_rfl
theorem E_spec_Next_calls (k : Nat) : CallsOk Try.prog (E_spec_Next k) (arun Try.prog (E_spec_Next k) k) := by
  refine told_run (tyTOk _ _) ?_ (fun run h => regOk (tyTOk _ _) mixOk h) ?_ nameOk k
  · intro g m hg
    simp only [E_spec_Next] at hg
    split at hg
    · cases hg
      refine con_byVal fun ρ l K x hm => ?_
      split at hm
      · obtain ⟨c1, h1, hm⟩ := Option.bind_eq_some_iff.1 hm
        obtain ⟨r, hr, hm⟩ := Option.bind_eq_some_iff.1 hm
        exact ⟨_, hm, LawV.reads (.cons (.as h1) .nil) (spec_UnitOk_law k c1 r hr)⟩
      · cases hm
    · cases hg
      refine con_byVal fun ρ l K x hm => ?_
      split at hm
      · obtain ⟨c1, h1, hm⟩ := Option.bind_eq_some_iff.1 hm
        obtain ⟨c2, h2, hm⟩ := Option.bind_eq_some_iff.1 hm
        obtain ⟨c3, h3, hm⟩ := Option.bind_eq_some_iff.1 hm
        obtain ⟨r, hr, hm⟩ := Option.bind_eq_some_iff.1 hm
        exact ⟨_, hm, LawV.reads (.cons (.as h1) (.cons (.as h2) (.cons (.as h3) .nil))) (spec_l1In_law k c1 c2 c3 r hr)⟩
      · cases hm
    · cases hg
      refine con_byFresh fun ρ l K x hm => ?_
      split at hm
      · obtain ⟨c1, h1, hm⟩ := Option.bind_eq_some_iff.1 hm
        obtain ⟨c2, h2, hm⟩ := Option.bind_eq_some_iff.1 hm
        obtain ⟨r, hr, hm⟩ := Option.bind_eq_some_iff.1 hm
        exact ⟨_, hm, LawF.reads (.cons (.as h1) (.cons (.as h2) .nil)) (spec_l16Next_law k c1 c2 r hr)⟩
      · cases hm
    · cases hg
  · intro g _ r; rfl
theorem f19_okspec_Next : Try.prog.funcs[19]? = some Try.f19 := by kernel_rfl
theorem spec_Next_law (k : Nat) (a1 : ByteArray × Int × Int × (List (Int × Int × Int × Int × Int × ByteArray × (List Int) × Unit)) × Unit) (a2 : Int) (x : List Int) (h : spec_Next k a1 a2 = some x) : LawF Try.prog 19 [.tv (.pair .str (.pair (.int .i64) (.pair (.int .i64) (.pair (.row (.pair (.int .i64) (.pair (.int .i64) (.pair (.int .i64) (.pair (.int .i64) (.pair (.int .i64) (.pair .str (.pair (.row (.int .i64)) .unit)))))))) .unit)))) a1, .int .i64 a2] (.int .i64) x := by
  unfold spec_Next at h
  exact lawF (e := (.int .i64)) (tyTOk _ _) (E_spec_Next_calls k) mixOk f19_okspec_Next (nameOk _ _ f19_okspec_Next) (by kernel_rfl) h
/-! impl.within -/
noncomputable def E_impl_within (k : Nat) : Env := ⟨ty, fun _ => none, fun _ _ => none⟩
noncomputable def impl_within (k : Nat) (a1 : Int) (a2 : Int) (a3 : Int) : Option (Bool) :=
  abody (E_impl_within k) (arun Try.prog (E_impl_within k) k) k 55 Try.f55 [.int .i64 a1, .int .i64 a2, .int .i64 a3] [] (fin1 .bool)
theorem impl_within_e (k : Nat) (a1 : Int) (a2 : Int) (a3 : Int) : impl_within k a1 a2 a3 =
  iteB (decide (a1 ≥ a2)) (some (decide (a1 ≤ a3))) (some false) := by kernel_rfl
theorem E_impl_within_calls (k : Nat) : CallsOk Try.prog (E_impl_within k) (arun Try.prog (E_impl_within k) k) := by
  refine told_run (tyTOk _ _) ?_ (fun run h => regOk (tyTOk _ _) mixOk h) ?_ nameOk k
  · intro g m hg
    cases hg
  · intro g _ r; rfl
theorem f55_okimpl_within : Try.prog.funcs[55]? = some Try.f55 := by kernel_rfl
theorem impl_within_law (k : Nat) (a1 : Int) (a2 : Int) (a3 : Int) (x : Bool) (h : impl_within k a1 a2 a3 = some x) : LawV Try.prog 55 [.int .i64 a1, .int .i64 a2, .int .i64 a3] (tvn .bool x) := by
  unfold impl_within at h
  exact law1 (t := .bool) (tyTOk _ _) (E_impl_within_calls k) mixOk f55_okimpl_within (nameOk _ _ f55_okimpl_within) (by kernel_rfl) h
/-! impl.owns -/
noncomputable def E_impl_owns (k : Nat) : Env := ⟨ty, fun _ => none, fun _ _ => none⟩
noncomputable def impl_owns (k : Nat) (a1 : Int) : Option (ByteArray) :=
  abody (E_impl_owns k) (arun Try.prog (E_impl_owns k) k) k 134 Try.f134 [.int .i64 a1] [] (fin1 .str)
theorem impl_owns_e (k : Nat) (a1 : Int) : impl_owns k a1 =
  iteB (a1 == 1) (some (⟨#[68, 78]⟩ : ByteArray)) (iteB (a1 == 2) (some (⟨#[68, 65]⟩ : ByteArray)) (iteB (a1 == 15) (some (⟨#[68, 65]⟩ : ByteArray)) (iteB (a1 == 17) (some (⟨#[68, 65]⟩ : ByteArray)) (iteB (a1 == 20) (some (⟨#[68, 65]⟩ : ByteArray)) (iteB (a1 == 3) (some (⟨#[68, 65, 66]⟩ : ByteArray)) (iteB (a1 == 4) (some (⟨#[68, 65, 66]⟩ : ByteArray)) (iteB (a1 == 5) (some (⟨#[68, 65, 66]⟩ : ByteArray)) (iteB (a1 == 6) (some (⟨#[68, 65, 66]⟩ : ByteArray)) (iteB (a1 == 7) (some (⟨#[68, 65, 66]⟩ : ByteArray)) (iteB (a1 == 8) (some (⟨#[78]⟩ : ByteArray)) (iteB (a1 == 9) (some (⟨#[78]⟩ : ByteArray)) (iteB (a1 == 10) (some (⟨#[65, 78]⟩ : ByteArray)) (iteB (a1 == 11) (some (⟨#[68, 83, 88]⟩ : ByteArray)) (iteB (a1 == 12) (some (⟨#[65]⟩ : ByteArray)) (iteB (a1 == 13) (some (⟨#[65]⟩ : ByteArray)) (iteB (a1 == 18) (some (⟨#[65]⟩ : ByteArray)) (iteB (a1 == 25) (some (⟨#[65]⟩ : ByteArray)) (iteB (a1 == 28) (some (⟨#[65]⟩ : ByteArray)) (iteB (a1 == 14) (some (⟨#[83, 88]⟩ : ByteArray)) (iteB (a1 == 16) (some (⟨#[65, 66]⟩ : ByteArray)) (iteB (a1 == 21) (some (⟨#[65, 66]⟩ : ByteArray)) (iteB (a1 == 26) (some (⟨#[65, 66]⟩ : ByteArray)) (iteB (a1 == 27) (some (⟨#[65, 66]⟩ : ByteArray)) (iteB (a1 == 19) (some (⟨#[68, 66, 78, 88]⟩ : ByteArray)) (iteB (a1 == 22) (some (⟨#[68, 65, 66, 88]⟩ : ByteArray)) (iteB (a1 == 23) (some (⟨#[68]⟩ : ByteArray)) (iteB (a1 == 24) (some (⟨#[68, 83]⟩ : ByteArray)) (some (⟨#[]⟩ : ByteArray))))))))))))))))))))))))))))) := by kernel_rfl
theorem E_impl_owns_calls (k : Nat) : CallsOk Try.prog (E_impl_owns k) (arun Try.prog (E_impl_owns k) k) := by
  refine told_run (tyTOk _ _) ?_ (fun run h => regOk (tyTOk _ _) mixOk h) ?_ nameOk k
  · intro g m hg
    cases hg
  · intro g _ r; rfl
theorem f134_okimpl_owns : Try.prog.funcs[134]? = some Try.f134 := by kernel_rfl
theorem impl_owns_law (k : Nat) (a1 : Int) (x : ByteArray) (h : impl_owns k a1 = some x) : LawV Try.prog 134 [.int .i64 a1] (tvn .str x) := by
  unfold impl_owns at h
  exact law1 (t := .str) (tyTOk _ _) (E_impl_owns_calls k) mixOk f134_okimpl_owns (nameOk _ _ f134_okimpl_owns) (by kernel_rfl) h
/-! impl.WordOk -/
noncomputable def E_impl_WordOk (k : Nat) : Env := ⟨ty, fun g => match g with
  | 55 => some (byVal fun ρ l K => match l with
    | [b1, b2, b3] => (b1.as (.int .i64)).bind fun c1 => (b2.as (.int .i64)).bind fun c2 => (b3.as (.int .i64)).bind fun c3 => (impl_within k c1 c2 c3).bind fun r => K (tvn .bool r)
    | _ => none)
  | _ => none, fun _ _ => none⟩
noncomputable def impl_WordOk (k : Nat) (a1 : Int) : Option (Bool) :=
  abody (E_impl_WordOk k) (arun Try.prog (E_impl_WordOk k) k) k 135 Try.f135 [.int .i64 a1] [] (fin1 .bool)
theorem impl_WordOk_e (k : Nat) (a1 : Int) : impl_WordOk k a1 =
  bindO (impl_within k a1 (-2147483648) 2147483647) fun r1 => (some r1) := by kernel_rfl
theorem E_impl_WordOk_calls (k : Nat) : CallsOk Try.prog (E_impl_WordOk k) (arun Try.prog (E_impl_WordOk k) k) := by
  refine told_run (tyTOk _ _) ?_ (fun run h => regOk (tyTOk _ _) mixOk h) ?_ nameOk k
  · intro g m hg
    simp only [E_impl_WordOk] at hg
    split at hg
    · cases hg
      refine con_byVal fun ρ l K x hm => ?_
      split at hm
      · obtain ⟨c1, h1, hm⟩ := Option.bind_eq_some_iff.1 hm
        obtain ⟨c2, h2, hm⟩ := Option.bind_eq_some_iff.1 hm
        obtain ⟨c3, h3, hm⟩ := Option.bind_eq_some_iff.1 hm
        obtain ⟨r, hr, hm⟩ := Option.bind_eq_some_iff.1 hm
        exact ⟨_, hm, LawV.reads (.cons (.as h1) (.cons (.as h2) (.cons (.as h3) .nil))) (impl_within_law k c1 c2 c3 r hr)⟩
      · cases hm
    · cases hg
  · intro g _ r; rfl
theorem f135_okimpl_WordOk : Try.prog.funcs[135]? = some Try.f135 := by kernel_rfl
theorem impl_WordOk_law (k : Nat) (a1 : Int) (x : Bool) (h : impl_WordOk k a1 = some x) : LawV Try.prog 135 [.int .i64 a1] (tvn .bool x) := by
  unfold impl_WordOk at h
  exact law1 (t := .bool) (tyTOk _ _) (E_impl_WordOk_calls k) mixOk f135_okimpl_WordOk (nameOk _ _ f135_okimpl_WordOk) (by kernel_rfl) h
/-! slices.Index[[]byte,byte] -/
noncomputable def E_slices_Index_byte (k : Nat) : Env := ⟨ty, fun g => match g with
  | 167 => some noCon
  | _ => none, fun f r => match f with | 167 => (match r with | 2 => some [0, 1, 7, 8] | _ => none) | _ => none⟩
noncomputable def slices_Index_byte (k : Nat) (a1 : List Int) (a2 : Int) : Option (Int) :=
  abody (E_slices_Index_byte k) (arun Try.prog (E_slices_Index_byte k) k) k 167 Try.f167 [.tv (.row (.int .u8)) a1, .int .u8 a2] [] (fin1 (.int .i64))
noncomputable def slices_Index_byte.l2 (k n : Nat) (x0 : List Int) (x1 : Int) (x7 : Int) (x8 : Int) : Option (Int) :=
  resume (E_slices_Index_byte k) 167 (acall (E_slices_Index_byte k) (arun Try.prog (E_slices_Index_byte k) k)) k [true, false, true, true] [n] (bodyOf Try.f167) ⟨[.tv (.row (.int .u8)) x0, .int .u8 x1, .undef, .undef, .undef, .undef, .undef, .int .i64 x7, .int .i64 x8, .undef, .undef, .undef, .undef, .undef, .undef, .undef, .undef, .undef, .undef], []⟩ (leave (E_slices_Index_byte k) Try.f167 (fin1 (.int .i64)))
theorem slices_Index_byte.l2_0 (k : Nat) (x0 : List Int) (x1 : Int) (x7 : Int) (x8 : Int) : slices_Index_byte.l2 k 0 x0 x1 x7 x8 = none := by kernel_rfl
theorem slices_Index_byte.l2_s (k n : Nat) (x0 : List Int) (x1 : Int) (x7 : Int) (x8 : Int) : slices_Index_byte.l2 k (n + 1) x0 x1 x7 x8 =
  iteB (decide (x8 < x7)) (iteB (decide (0 ≤ x8)) (iteB (decide (x8 < ((List.length x0) : Int))) (iteB (x1 == (List.getD x0 (Int.toNat x8) 0)) (some x8) (slices_Index_byte.l2 k n x0 x1 x7 (IntKind.wrap .i64 (x8 + 1)))) (none)) (none)) (some (-1)) := by kernel_rfl
theorem slices_Index_byte_e (k : Nat) (a1 : List Int) (a2 : Int) : slices_Index_byte k a1 a2 =
  slices_Index_byte.l2 k k a1 a2 ((List.length a1) : Int) 0 := by kernel_rfl
theorem E_slices_Index_byte_calls (k : Nat) : CallsOk Try.prog (E_slices_Index_byte k) (arun Try.prog (E_slices_Index_byte k) k) := by
  refine told_run (tyTOk _ _) ?_ (fun run h => regOk (tyTOk _ _) mixOk h) ?_ nameOk k
  · intro g m hg
    simp only [E_slices_Index_byte] at hg
    split at hg
    · cases hg; exact noCon_ok
    · cases hg
  · intro g hg r
    by_cases h : g = 167
    · subst h; simp [E_slices_Index_byte] at hg
    · simp [E_slices_Index_byte, h]
theorem f167_okslices_Index_byte : Try.prog.funcs[167]? = some Try.f167 := by kernel_rfl
theorem slices_Index_byte_law (k : Nat) (a1 : List Int) (a2 : Int) (x : Int) (h : slices_Index_byte k a1 a2 = some x) : LawV Try.prog 167 [.tv (.row (.int .u8)) a1, .int .u8 a2] (tvn (.int .i64) x) := by
  unfold slices_Index_byte at h
  exact law1 (t := (.int .i64)) (tyTOk _ _) (E_slices_Index_byte_calls k) mixOk f167_okslices_Index_byte (nameOk _ _ f167_okslices_Index_byte) (by kernel_rfl) h
/-! slices.Contains[[]byte,byte] -/
noncomputable def E_slices_Contains_byte (k : Nat) : Env := ⟨ty, fun g => match g with
  | 167 => some (byVal fun ρ l K => match l with
    | [b1, b2] => (b1.as (.row (.int .u8))).bind fun c1 => (b2.as (.int .u8)).bind fun c2 => (slices_Index_byte k c1 c2).bind fun r => K (tvn (.int .i64) r)
    | _ => none)
  | _ => none, fun _ _ => none⟩
noncomputable def slices_Contains_byte (k : Nat) (a1 : List Int) (a2 : Int) : Option (Bool) :=
  abody (E_slices_Contains_byte k) (arun Try.prog (E_slices_Contains_byte k) k) k 145 Try.f145 [.tv (.row (.int .u8)) a1, .int .u8 a2] [] (fin1 .bool)
theorem slices_Contains_byte_e (k : Nat) (a1 : List Int) (a2 : Int) : slices_Contains_byte k a1 a2 =
  bindO (slices_Index_byte k a1 a2) fun r1 => (some (decide (r1 ≥ 0))) := by kernel_rfl
theorem E_slices_Contains_byte_calls (k : Nat) : CallsOk Try.prog (E_slices_Contains_byte k) (arun Try.prog (E_slices_Contains_byte k) k) := by
  refine told_run (tyTOk _ _) ?_ (fun run h => regOk (tyTOk _ _) mixOk h) ?_ nameOk k
  · intro g m hg
    simp only [E_slices_Contains_byte] at hg
    split at hg
    · cases hg
      refine con_byVal fun ρ l K x hm => ?_
      split at hm
      · obtain ⟨c1, h1, hm⟩ := Option.bind_eq_some_iff.1 hm
        obtain ⟨c2, h2, hm⟩ := Option.bind_eq_some_iff.1 hm
        obtain ⟨r, hr, hm⟩ := Option.bind_eq_some_iff.1 hm
        exact ⟨_, hm, LawV.reads (.cons (.as h1) (.cons (.as h2) .nil)) (slices_Index_byte_law k c1 c2 r hr)⟩
      · cases hm
    · cases hg
  · intro g _ r; rfl
theorem f145_okslices_Contains_byte : Try.prog.funcs[145]? = some Try.f145 := by kernel_rfl
theorem slices_Contains_byte_law (k : Nat) (a1 : List Int) (a2 : Int) (x : Bool) (h : slices_Contains_byte k a1 a2 = some x) : LawV Try.prog 145 [.tv (.row (.int .u8)) a1, .int .u8 a2] (tvn .bool x) := by
  unfold slices_Contains_byte at h
  exact law1 (t := .bool) (tyTOk _ _) (E_slices_Contains_byte_calls k) mixOk f145_okslices_Contains_byte (nameOk _ _ f145_okslices_Contains_byte) (by kernel_rfl) h
/-! impl.owned -/
noncomputable def E_impl_owned (k : Nat) : Env := ⟨ty, fun g => match g with
  | 134 => some (byVal fun ρ l K => match l with
    | [b1] => (b1.as (.int .i64)).bind fun c1 => (impl_owns k c1).bind fun r => K (tvn .str r)
    | _ => none)
  | 145 => some (byVal fun ρ l K => match l with
    | [b1, b2] => (b1.as (.row (.int .u8))).bind fun c1 => (b2.as (.int .u8)).bind fun c2 => (slices_Contains_byte k c1 c2).bind fun r => K (tvn .bool r)
    | _ => none)
  | _ => none, fun _ _ => none⟩
noncomputable def impl_owned (k : Nat) (a1 : Int) (a2 : Int) : Option (Bool) :=
  abody (E_impl_owned k) (arun Try.prog (E_impl_owned k) k) k 112 Try.f112 [.int .i64 a1, .int .u8 a2] [] (fin1 .bool)
theorem impl_owned_e (k : Nat) (a1 : Int) (a2 : Int) : impl_owned k a1 a2 =
  bindO (impl_owns k a1) fun r1 => (bindO (slices_Contains_byte k (valBytes r1) a2) fun r2 => (some r2)) := by kernel_rfl
theorem E_impl_owned_calls (k : Nat) : CallsOk Try.prog (E_impl_owned k) (arun Try.prog (E_impl_owned k) k) := by
  refine told_run (tyTOk _ _) ?_ (fun run h => regOk (tyTOk _ _) mixOk h) ?_ nameOk k
  · intro g m hg
    simp only [E_impl_owned] at hg
    split at hg
    · cases hg
      refine con_byVal fun ρ l K x hm => ?_
      split at hm
      · obtain ⟨c1, h1, hm⟩ := Option.bind_eq_some_iff.1 hm
        obtain ⟨r, hr, hm⟩ := Option.bind_eq_some_iff.1 hm
        exact ⟨_, hm, LawV.reads (.cons (.as h1) .nil) (impl_owns_law k c1 r hr)⟩
      · cases hm
    · cases hg
      refine con_byVal fun ρ l K x hm => ?_
      split at hm
      · obtain ⟨c1, h1, hm⟩ := Option.bind_eq_some_iff.1 hm
        obtain ⟨c2, h2, hm⟩ := Option.bind_eq_some_iff.1 hm
        obtain ⟨r, hr, hm⟩ := Option.bind_eq_some_iff.1 hm
        exact ⟨_, hm, LawV.reads (.cons (.as h1) (.cons (.as h2) .nil)) (slices_Contains_byte_law k c1 c2 r hr)⟩
      · cases hm
    · cases hg
  · intro g _ r; rfl
theorem f112_okimpl_owned : Try.prog.funcs[112]? = some Try.f112 := by kernel_rfl
theorem impl_owned_law (k : Nat) (a1 : Int) (a2 : Int) (x : Bool) (h : impl_owned k a1 a2 = some x) : LawV Try.prog 112 [.int .i64 a1, .int .u8 a2] (tvn .bool x) := by
  unfold impl_owned at h
  exact law1 (t := .bool) (tyTOk _ _) (E_impl_owned_calls k) mixOk f112_okimpl_owned (nameOk _ _ f112_okimpl_owned) (by kernel_rfl) h
/-! impl.argsOk -/
noncomputable def E_impl_argsOk (k : Nat) : Env := ⟨ty, fun g => match g with
  | 112 => some (byVal fun ρ l K => match l with
    | [b1, b2] => (b1.as (.int .i64)).bind fun c1 => (b2.as (.int .u8)).bind fun c2 => (impl_owned k c1 c2).bind fun r => K (tvn .bool r)
    | _ => none)
  | 55 => some (byVal fun ρ l K => match l with
    | [b1, b2, b3] => (b1.as (.int .i64)).bind fun c1 => (b2.as (.int .i64)).bind fun c2 => (b3.as (.int .i64)).bind fun c3 => (impl_within k c1 c2 c3).bind fun r => K (tvn .bool r)
    | _ => none)
  | 136 => some noCon
  | _ => none, fun f r => match f with | 136 => (match r with | 3 => some [2, 5] | _ => none) | _ => none⟩
noncomputable def impl_argsOk (k : Nat) (a1 : Int × Int × Int × Int × Int × ByteArray × (List Int) × Unit) (a2 : Int) : Option (Bool) :=
  abody (E_impl_argsOk k) (arun Try.prog (E_impl_argsOk k) k) k 136 Try.f136 [.tv (.pair (.int .i64) (.pair (.int .i64) (.pair (.int .i64) (.pair (.int .i64) (.pair (.int .i64) (.pair .str (.pair (.row (.int .i64)) .unit))))))) a1, .int .i64 a2] [] (fin1 .bool)
noncomputable def impl_argsOk.l3 (k n : Nat) (x5 : Int) (y0_0 : Int × Int × Int × Int × Int × ByteArray × (List Int) × Unit) : Option (Bool) :=
  resume (E_impl_argsOk k) 136 (acall (E_impl_argsOk k) (arun Try.prog (E_impl_argsOk k) k)) k [true, false, true, true, false, false, true, true] [n] (bodyOf Try.f136) ⟨[.undef, .undef, .ptr 0 0 0, .undef, .undef, .int .i64 x5, .undef, .undef, .undef, .undef, .undef, .undef, .undef, .undef, .undef, .undef, .undef, .undef, .undef, .undef, .undef, .undef, .undef, .undef, .undef, .undef, .undef, .undef, .undef, .undef, .undef, .undef, .undef, .undef, .undef, .undef, .undef, .undef, .undef, .undef, .undef, .undef, .undef, .undef, .undef, .undef, .undef, .undef, .undef, .undef, .undef, .undef, .undef, .undef, .undef, .undef, .undef, .undef, .undef, .undef, .undef, .undef, .undef, .undef, .undef, .undef, .undef, .undef, .undef, .undef, .undef, .undef, .undef, .undef, .undef, .undef, .undef, .undef, .undef], [some ⟨.raw true 7 (.agg [.int .i64 0, .int .i64 0, .int .i64 0, .int .i64 0, .int .i64 0, .str ByteArray.empty, .nils]) [.tv (.pair (.int .i64) (.pair (.int .i64) (.pair (.int .i64) (.pair (.int .i64) (.pair (.int .i64) (.pair .str (.pair (.row (.int .i64)) .unit))))))) y0_0], true⟩]⟩ (leave (E_impl_argsOk k) Try.f136 (fin1 .bool))
theorem impl_argsOk.l3_0 (k : Nat) (x5 : Int) (y0_0 : Int × Int × Int × Int × Int × ByteArray × (List Int) × Unit) : impl_argsOk.l3 k 0 x5 y0_0 = none := by kernel_rfl
theorem impl_argsOk.l3_s (k n : Nat) (x5 : Int) (y0_0 : Int × Int × Int × Int × Int × ByteArray × (List Int) × Unit) : impl_argsOk.l3 k (n + 1) x5 y0_0 =
  iteB (decide (IntKind.wrap .i64 (x5 + 2) < ((List.length y0_0.2.2.2.2.2.2.1) : Int))) (iteB (decide (0 ≤ x5)) (iteB (decide (x5 < ((List.length y0_0.2.2.2.2.2.2.1) : Int))) (bindO (impl_within k (List.getD y0_0.2.2.2.2.2.2.1 (Int.toNat x5) 0) 1 2) fun r2 => (iteB (!(!r2)) (iteB (decide (0 ≤ x5)) (iteB (decide (x5 < ((List.length y0_0.2.2.2.2.2.2.1) : Int))) (iteB ((List.getD y0_0.2.2.2.2.2.2.1 (Int.toNat x5) 0) == 1) (iteB (decide (0 ≤ IntKind.wrap .i64 (x5 + 2))) (iteB (decide (IntKind.wrap .i64 (x5 + 2) < ((List.length y0_0.2.2.2.2.2.2.1) : Int))) (iteB ((List.getD y0_0.2.2.2.2.2.2.1 (Int.toNat (IntKind.wrap .i64 (x5 + 2))) 0) != 0) (some false) (impl_argsOk.l3 k n (IntKind.wrap .i64 (x5 + 3)) y0_0)) (none)) (none)) (impl_argsOk.l3 k n (IntKind.wrap .i64 (x5 + 3)) y0_0)) (none)) (none)) (some false))) (none)) (none)) (iteB ((Int.tmod ((List.length y0_0.2.2.2.2.2.2.1) : Int) 3) == 0) (bindO (impl_within k ((List.length y0_0.2.2.2.2.2.2.1) : Int) 3 9) fun r3 => (iteB r3 (bindO (impl_within k y0_0.2.2.2.2.1 0 1) fun r4 => (some r4)) (some false))) (some false)) := by kernel_rfl
theorem impl_argsOk_e (k : Nat) (a1 : Int × Int × Int × Int × Int × ByteArray × (List Int) × Unit) (a2 : Int) : impl_argsOk k a1 a2 =
  iteB (a1.1 == 19) (impl_argsOk.l3 k k 0 a1) (iteB (a1.1 == 22) (some (((List.length a1.2.2.2.2.2.2.1) : Int) == 1)) (bindO (impl_owned k a1.1 88) fun r1 => (iteB (!r1) (some (((List.length a1.2.2.2.2.2.2.1) : Int) == 0)) (some (decide (((List.length a1.2.2.2.2.2.2.1) : Int) ≤ 4)))))) := by kernel_rfl
theorem E_impl_argsOk_calls (k : Nat) : CallsOk Try.prog (E_impl_argsOk k) (arun Try.prog (E_impl_argsOk k) k) := by
  refine told_run (tyTOk _ _) ?_ (fun run h => regOk (tyTOk _ _) mixOk h) ?_ nameOk k
  · intro g m hg
    simp only [E_impl_argsOk] at hg
    split at hg
    · cases hg
      refine con_byVal fun ρ l K x hm => ?_
      split at hm
      · obtain ⟨c1, h1, hm⟩ := Option.bind_eq_some_iff.1 hm
        obtain ⟨c2, h2, hm⟩ := Option.bind_eq_some_iff.1 hm
        obtain ⟨r, hr, hm⟩ := Option.bind_eq_some_iff.1 hm
        exact ⟨_, hm, LawV.reads (.cons (.as h1) (.cons (.as h2) .nil)) (impl_owned_law k c1 c2 r hr)⟩
      · cases hm
    · cases hg
      refine con_byVal fun ρ l K x hm => ?_
      split at hm
      · obtain ⟨c1, h1, hm⟩ := Option.bind_eq_some_iff.1 hm
        obtain ⟨c2, h2, hm⟩ := Option.bind_eq_some_iff.1 hm
        obtain ⟨c3, h3, hm⟩ := Option.bind_eq_some_iff.1 hm
        obtain ⟨r, hr, hm⟩ := Option.bind_eq_some_iff.1 hm
        exact ⟨_, hm, LawV.reads (.cons (.as h1) (.cons (.as h2) (.cons (.as h3) .nil))) (impl_within_law k c1 c2 c3 r hr)⟩
      · cases hm
    · cases hg; exact noCon_ok
    · cases hg
  · intro g hg r
    by_cases h : g = 136
    · subst h; simp [E_impl_argsOk] at hg
    · simp [E_impl_argsOk, h]
theorem f136_okimpl_argsOk : Try.prog.funcs[136]? = some Try.f136 := by kernel_rfl
theorem impl_argsOk_law (k : Nat) (a1 : Int × Int × Int × Int × Int × ByteArray × (List Int) × Unit) (a2 : Int) (x : Bool) (h : impl_argsOk k a1 a2 = some x) : LawV Try.prog 136 [.tv (.pair (.int .i64) (.pair (.int .i64) (.pair (.int .i64) (.pair (.int .i64) (.pair (.int .i64) (.pair .str (.pair (.row (.int .i64)) .unit))))))) a1, .int .i64 a2] (tvn .bool x) := by
  unfold impl_argsOk at h
  exact law1 (t := .bool) (tyTOk _ _) (E_impl_argsOk_calls k) mixOk f136_okimpl_argsOk (nameOk _ _ f136_okimpl_argsOk) (by kernel_rfl) h
/-! impl.Sets -/
noncomputable def E_impl_Sets (k : Nat) : Env := ⟨ty, fun g => match g with
  | 112 => some (byVal fun ρ l K => match l with
    | [b1, b2] => (b1.as (.int .i64)).bind fun c1 => (b2.as (.int .u8)).bind fun c2 => (impl_owned k c1 c2).bind fun r => K (tvn .bool r)
    | _ => none)
  | _ => none, fun _ _ => none⟩
noncomputable def impl_Sets (k : Nat) (a1 : Int × Int × Int × Int × Int × ByteArray × (List Int) × Unit) : Option (List Int) :=
  abody (E_impl_Sets k) (arun Try.prog (E_impl_Sets k) k) k 66 Try.f66 [.tv (.pair (.int .i64) (.pair (.int .i64) (.pair (.int .i64) (.pair (.int .i64) (.pair (.int .i64) (.pair .str (.pair (.row (.int .i64)) .unit))))))) a1] [] (finF (.int .i64))
theorem impl_Sets_e (k : Nat) (a1 : Int × Int × Int × Int × Int × ByteArray × (List Int) × Unit) : impl_Sets k a1 =
  iteB (a1.1 == 19) (some [a1.2.1, a1.2.2.2.1]) (bindO (impl_owned k a1.1 68) fun r1 => (iteB r1 (some [a1.2.1]) (some []))) := by kernel_rfl
theorem E_impl_Sets_calls (k : Nat) : CallsOk Try.prog (E_impl_Sets k) (arun Try.prog (E_impl_Sets k) k) := by
  refine told_run (tyTOk _ _) ?_ (fun run h => regOk (tyTOk _ _) mixOk h) ?_ nameOk k
  · intro g m hg
    simp only [E_impl_Sets] at hg
    split at hg
    · cases hg
      refine con_byVal fun ρ l K x hm => ?_
      split at hm
      · obtain ⟨c1, h1, hm⟩ := Option.bind_eq_some_iff.1 hm
        obtain ⟨c2, h2, hm⟩ := Option.bind_eq_some_iff.1 hm
        obtain ⟨r, hr, hm⟩ := Option.bind_eq_some_iff.1 hm
        exact ⟨_, hm, LawV.reads (.cons (.as h1) (.cons (.as h2) .nil)) (impl_owned_law k c1 c2 r hr)⟩
      · cases hm
    · cases hg
  · intro g _ r; rfl
theorem f66_okimpl_Sets : Try.prog.funcs[66]? = some Try.f66 := by kernel_rfl
theorem impl_Sets_law (k : Nat) (a1 : Int × Int × Int × Int × Int × ByteArray × (List Int) × Unit) (x : List Int) (h : impl_Sets k a1 = some x) : LawF Try.prog 66 [.tv (.pair (.int .i64) (.pair (.int .i64) (.pair (.int .i64) (.pair (.int .i64) (.pair (.int .i64) (.pair .str (.pair (.row (.int .i64)) .unit))))))) a1] (.int .i64) x := by
  unfold impl_Sets at h
  exact lawF (e := (.int .i64)) (tyTOk _ _) (E_impl_Sets_calls k) mixOk f66_okimpl_Sets (nameOk _ _ f66_okimpl_Sets) (by kernel_rfl) h
/-! impl.Uses -/
noncomputable def E_impl_Uses (k : Nat) : Env := ⟨ty, fun g => match g with
  | 112 => some (byVal fun ρ l K => match l with
    | [b1, b2] => (b1.as (.int .i64)).bind fun c1 => (b2.as (.int .u8)).bind fun c2 => (impl_owned k c1 c2).bind fun r => K (tvn .bool r)
    | _ => none)
  | 138 => some noCon
  | _ => none, fun f r => match f with | 138 => (match r with | 4 => some [1, 3, 11, 12, 13] | 12 => some [1, 3] | 14 => some [1, 3] | _ => none) | _ => none⟩
noncomputable def impl_Uses (k : Nat) (a1 : Int × Int × Int × Int × Int × ByteArray × (List Int) × Unit) : Option (List Int) :=
  abody (E_impl_Uses k) (arun Try.prog (E_impl_Uses k) k) k 138 Try.f138 [.tv (.pair (.int .i64) (.pair (.int .i64) (.pair (.int .i64) (.pair (.int .i64) (.pair (.int .i64) (.pair .str (.pair (.row (.int .i64)) .unit))))))) a1] [] (fin1 (.row (.int .i64)))
noncomputable def impl_Uses.l4 (k n : Nat) (x11 : List Int) (x12 : Int) (x13 : Int) (y0_0 : Int × Int × Int × Int × Int × ByteArray × (List Int) × Unit) : Option (List Int) :=
  resume (E_impl_Uses k) 138 (acall (E_impl_Uses k) (arun Try.prog (E_impl_Uses k) k)) k [true, true, false, true, false, false, true, true] [n] (bodyOf Try.f138) ⟨[.undef, .ptr 0 0 0, .undef, .sl 1, .undef, .undef, .undef, .undef, .undef, .undef, .undef, .tv (.row (.int .i64)) x11, .int .i64 x12, .int .i64 x13, .undef, .undef, .undef, .undef, .undef, .undef, .undef, .undef, .undef, .undef, .undef, .undef, .undef, .undef, .undef, .undef, .undef, .undef, .undef, .undef, .undef, .undef, .undef, .undef, .undef, .undef, .undef, .undef, .undef, .undef, .undef, .undef, .undef, .undef, .undef, .undef, .undef, .undef, .undef, .undef, .undef, .undef, .undef, .undef, .undef, .undef, .undef, .undef, .undef, .undef, .undef], [some ⟨.raw true 7 (.agg [.int .i64 0, .int .i64 0, .int .i64 0, .int .i64 0, .int .i64 0, .str ByteArray.empty, .nils]) [.tv (.pair (.int .i64) (.pair (.int .i64) (.pair (.int .i64) (.pair (.int .i64) (.pair (.int .i64) (.pair .str (.pair (.row (.int .i64)) .unit))))))) y0_0], true⟩, some ⟨.typed (.int .i64) [], true⟩]⟩ (leave (E_impl_Uses k) Try.f138 (fin1 (.row (.int .i64))))
noncomputable def impl_Uses.j12 (k : Nat) (y0_0 : Int × Int × Int × Int × Int × ByteArray × (List Int) × Unit) (y1 : List Int) : Option (List Int) :=
  resume (E_impl_Uses k) 138 (acall (E_impl_Uses k) (arun Try.prog (E_impl_Uses k) k)) k [true, true, true, true] [] (bodyOf Try.f138) ⟨[.undef, .ptr 0 0 0, .undef, .sl 1, .undef, .undef, .undef, .undef, .undef, .undef, .undef, .undef, .undef, .undef, .undef, .undef, .undef, .undef, .undef, .undef, .undef, .undef, .undef, .undef, .undef, .undef, .undef, .undef, .undef, .undef, .undef, .undef, .undef, .undef, .undef, .undef, .undef, .undef, .undef, .undef, .undef, .undef, .undef, .undef, .undef, .undef, .undef, .undef, .undef, .undef, .undef, .undef, .undef, .undef, .undef, .undef, .undef, .undef, .undef, .undef, .undef, .undef, .undef, .undef, .undef], [some ⟨.raw true 7 (.agg [.int .i64 0, .int .i64 0, .int .i64 0, .int .i64 0, .int .i64 0, .str ByteArray.empty, .nils]) [.tv (.pair (.int .i64) (.pair (.int .i64) (.pair (.int .i64) (.pair (.int .i64) (.pair (.int .i64) (.pair .str (.pair (.row (.int .i64)) .unit))))))) y0_0], true⟩, some ⟨.typed (.int .i64) y1, false⟩]⟩ (leave (E_impl_Uses k) Try.f138 (fin1 (.row (.int .i64))))
noncomputable def impl_Uses.j12b (k : Nat) (y0_0 : Int × Int × Int × Int × Int × ByteArray × (List Int) × Unit) : Option (List Int) :=
  resume (E_impl_Uses k) 138 (acall (E_impl_Uses k) (arun Try.prog (E_impl_Uses k) k)) k [true, true, true, true] [] (bodyOf Try.f138) ⟨[.undef, .ptr 0 0 0, .undef, .sl 1, .undef, .undef, .undef, .undef, .undef, .undef, .undef, .undef, .undef, .undef, .undef, .undef, .undef, .undef, .undef, .undef, .undef, .undef, .undef, .undef, .undef, .undef, .undef, .undef, .undef, .undef, .undef, .undef, .undef, .undef, .undef, .undef, .undef, .undef, .undef, .undef, .undef, .undef, .undef, .undef, .undef, .undef, .undef, .undef, .undef, .undef, .undef, .undef, .undef, .undef, .undef, .undef, .undef, .undef, .undef, .undef, .undef, .undef, .undef, .undef, .undef], [some ⟨.raw true 7 (.agg [.int .i64 0, .int .i64 0, .int .i64 0, .int .i64 0, .int .i64 0, .str ByteArray.empty, .nils]) [.tv (.pair (.int .i64) (.pair (.int .i64) (.pair (.int .i64) (.pair (.int .i64) (.pair (.int .i64) (.pair .str (.pair (.row (.int .i64)) .unit))))))) y0_0], true⟩, some ⟨.typed (.int .i64) [], true⟩]⟩ (leave (E_impl_Uses k) Try.f138 (fin1 (.row (.int .i64))))
noncomputable def impl_Uses.l4b (k n : Nat) (x11 : List Int) (x12 : Int) (x13 : Int) (y0_0 : Int × Int × Int × Int × Int × ByteArray × (List Int) × Unit) (y1 : List Int) : Option (List Int) :=
  resume (E_impl_Uses k) 138 (acall (E_impl_Uses k) (arun Try.prog (E_impl_Uses k) k)) k [true, true, false, true, false, false, true, true] [n] (bodyOf Try.f138) ⟨[.undef, .ptr 0 0 0, .undef, .sl 1, .undef, .undef, .undef, .undef, .undef, .undef, .undef, .tv (.row (.int .i64)) x11, .int .i64 x12, .int .i64 x13, .undef, .undef, .undef, .undef, .undef, .undef, .undef, .undef, .undef, .undef, .undef, .undef, .undef, .undef, .undef, .undef, .undef, .undef, .undef, .undef, .undef, .undef, .undef, .undef, .undef, .undef, .undef, .undef, .undef, .undef, .undef, .undef, .undef, .undef, .undef, .undef, .undef, .undef, .undef, .undef, .undef, .undef, .undef, .undef, .undef, .undef, .undef, .undef, .undef, .undef, .undef], [some ⟨.raw true 7 (.agg [.int .i64 0, .int .i64 0, .int .i64 0, .int .i64 0, .int .i64 0, .str ByteArray.empty, .nils]) [.tv (.pair (.int .i64) (.pair (.int .i64) (.pair (.int .i64) (.pair (.int .i64) (.pair (.int .i64) (.pair .str (.pair (.row (.int .i64)) .unit))))))) y0_0], true⟩, some ⟨.typed (.int .i64) y1, false⟩]⟩ (leave (E_impl_Uses k) Try.f138 (fin1 (.row (.int .i64))))
noncomputable def impl_Uses.j14 (k : Nat) (y0_0 : Int × Int × Int × Int × Int × ByteArray × (List Int) × Unit) (y1 : List Int) : Option (List Int) :=
  resume (E_impl_Uses k) 138 (acall (E_impl_Uses k) (arun Try.prog (E_impl_Uses k) k)) k [true, true, true, true, true] [] (bodyOf Try.f138) ⟨[.undef, .ptr 0 0 0, .undef, .sl 1, .undef, .undef, .undef, .undef, .undef, .undef, .undef, .undef, .undef, .undef, .undef, .undef, .undef, .undef, .undef, .undef, .undef, .undef, .undef, .undef, .undef, .undef, .undef, .undef, .undef, .undef, .undef, .undef, .undef, .undef, .undef, .undef, .undef, .undef, .undef, .undef, .undef, .undef, .undef, .undef, .undef, .undef, .undef, .undef, .undef, .undef, .undef, .undef, .undef, .undef, .undef, .undef, .undef, .undef, .undef, .undef, .undef, .undef, .undef, .undef, .undef], [some ⟨.raw true 7 (.agg [.int .i64 0, .int .i64 0, .int .i64 0, .int .i64 0, .int .i64 0, .str ByteArray.empty, .nils]) [.tv (.pair (.int .i64) (.pair (.int .i64) (.pair (.int .i64) (.pair (.int .i64) (.pair (.int .i64) (.pair .str (.pair (.row (.int .i64)) .unit))))))) y0_0], true⟩, some ⟨.typed (.int .i64) y1, false⟩]⟩ (leave (E_impl_Uses k) Try.f138 (fin1 (.row (.int .i64))))
noncomputable def impl_Uses.j14b (k : Nat) (y0_0 : Int × Int × Int × Int × Int × ByteArray × (List Int) × Unit) : Option (List Int) :=
  resume (E_impl_Uses k) 138 (acall (E_impl_Uses k) (arun Try.prog (E_impl_Uses k) k)) k [true, true, true, true, true] [] (bodyOf Try.f138) ⟨[.undef, .ptr 0 0 0, .undef, .sl 1, .undef, .undef, .undef, .undef, .undef, .undef, .undef, .undef, .undef, .undef, .undef, .undef, .undef, .undef, .undef, .undef, .undef, .undef, .undef, .undef, .undef, .undef, .undef, .undef, .undef, .undef, .undef, .undef, .undef, .undef, .undef, .undef, .undef, .undef, .undef, .undef, .undef, .undef, .undef, .undef, .undef, .undef, .undef, .undef, .undef, .undef, .undef, .undef, .undef, .undef, .undef, .undef, .undef, .undef, .undef, .undef, .undef, .undef, .undef, .undef, .undef], [some ⟨.raw true 7 (.agg [.int .i64 0, .int .i64 0, .int .i64 0, .int .i64 0, .int .i64 0, .str ByteArray.empty, .nils]) [.tv (.pair (.int .i64) (.pair (.int .i64) (.pair (.int .i64) (.pair (.int .i64) (.pair (.int .i64) (.pair .str (.pair (.row (.int .i64)) .unit))))))) y0_0], true⟩, some ⟨.typed (.int .i64) [], true⟩]⟩ (leave (E_impl_Uses k) Try.f138 (fin1 (.row (.int .i64))))
theorem impl_Uses.l4_0 (k : Nat) (x11 : List Int) (x12 : Int) (x13 : Int) (y0_0 : Int × Int × Int × Int × Int × ByteArray × (List Int) × Unit) : impl_Uses.l4 k 0 x11 x12 x13 y0_0 = none := by kernel_rfl
theorem impl_Uses.l4_s (k n : Nat) (x11 : List Int) (x12 : Int) (x13 : Int) (y0_0 : Int × Int × Int × Int × Int × ByteArray × (List Int) × Unit) : impl_Uses.l4 k (n + 1) x11 x12 x13 y0_0 =
  iteB (decide (x13 < x12)) (iteB (decide (0 ≤ x13)) (iteB (decide (x13 < ((List.length x11) : Int))) (iteB (!((Int.tmod x13 3) == 1)) (iteB ((Int.tmod x13 3) == 2) (iteB (decide (0 ≤ IntKind.wrap .i64 (x13 - 2))) (iteB (decide (IntKind.wrap .i64 (x13 - 2) < ((List.length y0_0.2.2.2.2.2.2.1) : Int))) (iteB ((List.getD y0_0.2.2.2.2.2.2.1 (Int.toNat (IntKind.wrap .i64 (x13 - 2))) 0) == 2) (iteB (decide ((List.length ([] ++ [List.getD x11 (Int.toNat x13) 0])) * 8 ≤ lim)) (impl_Uses.l4b k n x11 x12 (IntKind.wrap .i64 (x13 + 1)) y0_0 ([] ++ [List.getD x11 (Int.toNat x13) 0])) (none)) (impl_Uses.l4 k n x11 x12 (IntKind.wrap .i64 (x13 + 1)) y0_0)) (none)) (none)) (impl_Uses.l4 k n x11 x12 (IntKind.wrap .i64 (x13 + 1)) y0_0)) (iteB (decide ((List.length ([] ++ [List.getD x11 (Int.toNat x13) 0])) * 8 ≤ lim)) (impl_Uses.l4b k n x11 x12 (IntKind.wrap .i64 (x13 + 1)) y0_0 ([] ++ [List.getD x11 (Int.toNat x13) 0])) (none))) (none)) (none)) (some []) := by kernel_rfl
theorem impl_Uses.j12_e (k : Nat) (y0_0 : Int × Int × Int × Int × Int × ByteArray × (List Int) × Unit) (y1 : List Int) : impl_Uses.j12 k y0_0 y1 =
  bindO (impl_owned k y0_0.1 66) fun r2 => (iteB r2 (iteB (decide ((List.length (y1 ++ [y0_0.2.2.2.1])) * 8 ≤ lim)) (gate k (impl_Uses.j14 k y0_0 (y1 ++ [y0_0.2.2.2.1]))) (none)) (gate k (impl_Uses.j14 k y0_0 y1))) := by kernel_rfl
theorem impl_Uses.j12b_e (k : Nat) (y0_0 : Int × Int × Int × Int × Int × ByteArray × (List Int) × Unit) : impl_Uses.j12b k y0_0 =
  bindO (impl_owned k y0_0.1 66) fun r3 => (iteB r3 (iteB (decide ((List.length ([] ++ [y0_0.2.2.2.1])) * 8 ≤ lim)) (gate k (impl_Uses.j14 k y0_0 ([] ++ [y0_0.2.2.2.1]))) (none)) (gate k (impl_Uses.j14b k y0_0))) := by kernel_rfl
theorem impl_Uses.l4b_0 (k : Nat) (x11 : List Int) (x12 : Int) (x13 : Int) (y0_0 : Int × Int × Int × Int × Int × ByteArray × (List Int) × Unit) (y1 : List Int) : impl_Uses.l4b k 0 x11 x12 x13 y0_0 y1 = none := by kernel_rfl
theorem impl_Uses.l4b_s (k n : Nat) (x11 : List Int) (x12 : Int) (x13 : Int) (y0_0 : Int × Int × Int × Int × Int × ByteArray × (List Int) × Unit) (y1 : List Int) : impl_Uses.l4b k (n + 1) x11 x12 x13 y0_0 y1 =
  iteB (decide (x13 < x12)) (iteB (decide (0 ≤ x13)) (iteB (decide (x13 < ((List.length x11) : Int))) (iteB (!((Int.tmod x13 3) == 1)) (iteB ((Int.tmod x13 3) == 2) (iteB (decide (0 ≤ IntKind.wrap .i64 (x13 - 2))) (iteB (decide (IntKind.wrap .i64 (x13 - 2) < ((List.length y0_0.2.2.2.2.2.2.1) : Int))) (iteB ((List.getD y0_0.2.2.2.2.2.2.1 (Int.toNat (IntKind.wrap .i64 (x13 - 2))) 0) == 2) (iteB (decide ((List.length (y1 ++ [List.getD x11 (Int.toNat x13) 0])) * 8 ≤ lim)) (impl_Uses.l4b k n x11 x12 (IntKind.wrap .i64 (x13 + 1)) y0_0 (y1 ++ [List.getD x11 (Int.toNat x13) 0])) (none)) (impl_Uses.l4b k n x11 x12 (IntKind.wrap .i64 (x13 + 1)) y0_0 y1)) (none)) (none)) (impl_Uses.l4b k n x11 x12 (IntKind.wrap .i64 (x13 + 1)) y0_0 y1)) (iteB (decide ((List.length (y1 ++ [List.getD x11 (Int.toNat x13) 0])) * 8 ≤ lim)) (impl_Uses.l4b k n x11 x12 (IntKind.wrap .i64 (x13 + 1)) y0_0 (y1 ++ [List.getD x11 (Int.toNat x13) 0])) (none))) (none)) (none)) (some y1) := by kernel_rfl
theorem impl_Uses.j14_e (k : Nat) (y0_0 : Int × Int × Int × Int × Int × ByteArray × (List Int) × Unit) (y1 : List Int) : impl_Uses.j14 k y0_0 y1 =
  bindO (impl_owned k y0_0.1 88) fun r4 => (iteB r4 (iteB (decide ((List.length (y1 ++ y0_0.2.2.2.2.2.2.1)) * 8 ≤ lim)) (some (y1 ++ y0_0.2.2.2.2.2.2.1)) (none)) (some y1)) := by kernel_rfl
theorem impl_Uses.j14b_e (k : Nat) (y0_0 : Int × Int × Int × Int × Int × ByteArray × (List Int) × Unit) : impl_Uses.j14b k y0_0 =
  bindO (impl_owned k y0_0.1 88) fun r5 => (iteB r5 (iteB (decide ((List.length ([] ++ y0_0.2.2.2.2.2.2.1)) * 8 ≤ lim)) (some ([] ++ y0_0.2.2.2.2.2.2.1)) (none)) (some [])) := by kernel_rfl
theorem impl_Uses_e (k : Nat) (a1 : Int × Int × Int × Int × Int × ByteArray × (List Int) × Unit) : impl_Uses k a1 =
  iteB (a1.1 == 19) (impl_Uses.l4 k k a1.2.2.2.2.2.2.1 ((List.length a1.2.2.2.2.2.2.1) : Int) 0 a1) (bindO (impl_owned k a1.1 65) fun r1 => (iteB r1 (iteB (decide ((List.length ([] ++ [a1.2.2.1])) * 8 ≤ lim)) (gate k (impl_Uses.j12 k a1 ([] ++ [a1.2.2.1]))) (none)) (gate k (impl_Uses.j12b k a1)))) := by kernel_rfl
theorem E_impl_Uses_calls (k : Nat) : CallsOk Try.prog (E_impl_Uses k) (arun Try.prog (E_impl_Uses k) k) := by
  refine told_run (tyTOk _ _) ?_ (fun run h => regOk (tyTOk _ _) mixOk h) ?_ nameOk k
  · intro g m hg
    simp only [E_impl_Uses] at hg
    split at hg
    · cases hg
      refine con_byVal fun ρ l K x hm => ?_
      split at hm
      · obtain ⟨c1, h1, hm⟩ := Option.bind_eq_some_iff.1 hm
        obtain ⟨c2, h2, hm⟩ := Option.bind_eq_some_iff.1 hm
        obtain ⟨r, hr, hm⟩ := Option.bind_eq_some_iff.1 hm
        exact ⟨_, hm, LawV.reads (.cons (.as h1) (.cons (.as h2) .nil)) (impl_owned_law k c1 c2 r hr)⟩
      · cases hm
    · cases hg; exact noCon_ok
    · cases hg
  · intro g hg r
    by_cases h : g = 138
    · subst h; simp [E_impl_Uses] at hg
    · simp [E_impl_Uses, h]
theorem f138_okimpl_Uses : Try.prog.funcs[138]? = some Try.f138 := by kernel_rfl
theorem impl_Uses_law (k : Nat) (a1 : Int × Int × Int × Int × Int × ByteArray × (List Int) × Unit) (x : List Int) (h : impl_Uses k a1 = some x) : LawV Try.prog 138 [.tv (.pair (.int .i64) (.pair (.int .i64) (.pair (.int .i64) (.pair (.int .i64) (.pair (.int .i64) (.pair .str (.pair (.row (.int .i64)) .unit))))))) a1] (tvn (.row (.int .i64)) x) := by
  unfold impl_Uses at h
  exact law1 (t := (.row (.int .i64))) (tyTOk _ _) (E_impl_Uses_calls k) mixOk f138_okimpl_Uses (nameOk _ _ f138_okimpl_Uses) (by kernel_rfl) h
/-! impl.tacOk$1 -/
noncomputable def E_impl_tacOk_1_vbp (k : Nat) : Env := ⟨ty, fun g => match g with
  | 55 => some (byVal fun ρ l K => match l with
    | [b1, b2, b3] => (b1.as (.int .i64)).bind fun c1 => (b2.as (.int .i64)).bind fun c2 => (b3.as (.int .i64)).bind fun c3 => (impl_within k c1 c2 c3).bind fun r => K (tvn .bool r)
    | _ => none)
  | _ => none, fun _ _ => none⟩
noncomputable def impl_tacOk_1_vbp (k : Nat) (a1 : Int) (a2 : Int) : Option (Bool) :=
  abody (E_impl_tacOk_1_vbp k) (arun Try.prog (E_impl_tacOk_1_vbp k) k) k 139 Try.f139 [.int .i64 a1, .bp [.int .i64 a2] 0] [] (fin1 .bool)
theorem impl_tacOk_1_vbp_e (k : Nat) (a1 : Int) (a2 : Int) : impl_tacOk_1_vbp k a1 a2 =
  bindO (impl_within k a1 0 (IntKind.wrap .i64 (a2 - 1))) fun r1 => (some (!r1)) := by kernel_rfl
theorem E_impl_tacOk_1_vbp_calls (k : Nat) : CallsOk Try.prog (E_impl_tacOk_1_vbp k) (arun Try.prog (E_impl_tacOk_1_vbp k) k) := by
  refine told_run (tyTOk _ _) ?_ (fun run h => regOk (tyTOk _ _) mixOk h) ?_ nameOk k
  · intro g m hg
    simp only [E_impl_tacOk_1_vbp] at hg
    split at hg
    · cases hg
      refine con_byVal fun ρ l K x hm => ?_
      split at hm
      · obtain ⟨c1, h1, hm⟩ := Option.bind_eq_some_iff.1 hm
        obtain ⟨c2, h2, hm⟩ := Option.bind_eq_some_iff.1 hm
        obtain ⟨c3, h3, hm⟩ := Option.bind_eq_some_iff.1 hm
        obtain ⟨r, hr, hm⟩ := Option.bind_eq_some_iff.1 hm
        exact ⟨_, hm, LawV.reads (.cons (.as h1) (.cons (.as h2) (.cons (.as h3) .nil))) (impl_within_law k c1 c2 c3 r hr)⟩
      · cases hm
    · cases hg
  · intro g _ r; rfl
theorem f139_okimpl_tacOk_1_vbp : Try.prog.funcs[139]? = some Try.f139 := by kernel_rfl
theorem impl_tacOk_1_vbp_law (k : Nat) (a1 : Int) (a2 : Int) (x : Bool) (h : impl_tacOk_1_vbp k a1 a2 = some x) : LawV Try.prog 139 [.int .i64 a1, .bp [.int .i64 a2] 0] (tvn .bool x) := by
  unfold impl_tacOk_1_vbp at h
  exact law1 (t := .bool) (tyTOk _ _) (E_impl_tacOk_1_vbp_calls k) mixOk f139_okimpl_tacOk_1_vbp (nameOk _ _ f139_okimpl_tacOk_1_vbp) (by kernel_rfl) h
/-! slices.IndexFunc[[]int,int] -/
noncomputable def E_slices_IndexFunc_int__impl_tacOk_1 (k : Nat) : Env := ⟨ty, fun g => match g with
  | 139 => some (byVal fun ρ l K => match l with
    | [b1, .bp [b2] 0] => (b1.as (.int .i64)).bind fun c1 => (b2.as (.int .i64)).bind fun c2 => (impl_tacOk_1_vbp k c1 c2).bind fun r => K (tvn .bool r)
    | _ => none)
  | 155 => some noCon
  | _ => none, fun f r => match f with | 155 => (match r with | 2 => some [0, 1, 7, 8] | _ => none) | _ => none⟩
noncomputable def slices_IndexFunc_int__impl_tacOk_1 (k : Nat) (a1 : List Int) (a2 : Int) : Option (Int) :=
  abody (E_slices_IndexFunc_int__impl_tacOk_1 k) (arun Try.prog (E_slices_IndexFunc_int__impl_tacOk_1 k) k) k 155 Try.f155 [.tv (.row (.int .i64)) a1, .fn 139 [.bp [.int .i64 a2] 0]] [] (fin1 (.int .i64))
noncomputable def slices_IndexFunc_int__impl_tacOk_1.l2 (k n : Nat) (x0 : List Int) (x1_0_0 : Int) (x7 : Int) (x8 : Int) : Option (Int) :=
  resume (E_slices_IndexFunc_int__impl_tacOk_1 k) 155 (acall (E_slices_IndexFunc_int__impl_tacOk_1 k) (arun Try.prog (E_slices_IndexFunc_int__impl_tacOk_1 k) k)) k [true, false, true, true] [n] (bodyOf Try.f155) ⟨[.tv (.row (.int .i64)) x0, .fn 139 [.bp [.int .i64 x1_0_0] 0], .undef, .undef, .undef, .undef, .undef, .int .i64 x7, .int .i64 x8, .undef, .undef, .undef, .undef, .undef, .undef, .undef, .undef, .undef, .undef], []⟩ (leave (E_slices_IndexFunc_int__impl_tacOk_1 k) Try.f155 (fin1 (.int .i64)))
theorem slices_IndexFunc_int__impl_tacOk_1.l2_0 (k : Nat) (x0 : List Int) (x1_0_0 : Int) (x7 : Int) (x8 : Int) : slices_IndexFunc_int__impl_tacOk_1.l2 k 0 x0 x1_0_0 x7 x8 = none := by kernel_rfl
theorem slices_IndexFunc_int__impl_tacOk_1.l2_s (k n : Nat) (x0 : List Int) (x1_0_0 : Int) (x7 : Int) (x8 : Int) : slices_IndexFunc_int__impl_tacOk_1.l2 k (n + 1) x0 x1_0_0 x7 x8 =
  iteB (decide (x8 < x7)) (iteB (decide (0 ≤ x8)) (iteB (decide (x8 < ((List.length x0) : Int))) (bindO (impl_tacOk_1_vbp k (List.getD x0 (Int.toNat x8) 0) x1_0_0) fun r1 => (iteB r1 (some x8) (slices_IndexFunc_int__impl_tacOk_1.l2 k n x0 x1_0_0 x7 (IntKind.wrap .i64 (x8 + 1))))) (none)) (none)) (some (-1)) := by kernel_rfl
theorem slices_IndexFunc_int__impl_tacOk_1_e (k : Nat) (a1 : List Int) (a2 : Int) : slices_IndexFunc_int__impl_tacOk_1 k a1 a2 =
  slices_IndexFunc_int__impl_tacOk_1.l2 k k a1 a2 ((List.length a1) : Int) 0 := by kernel_rfl
theorem E_slices_IndexFunc_int__impl_tacOk_1_calls (k : Nat) : CallsOk Try.prog (E_slices_IndexFunc_int__impl_tacOk_1 k) (arun Try.prog (E_slices_IndexFunc_int__impl_tacOk_1 k) k) := by
  refine told_run (tyTOk _ _) ?_ (fun run h => regOk (tyTOk _ _) mixOk h) ?_ nameOk k
  · intro g m hg
    simp only [E_slices_IndexFunc_int__impl_tacOk_1] at hg
    split at hg
    · cases hg
      refine con_byVal fun ρ l K x hm => ?_
      split at hm
      · obtain ⟨c1, h1, hm⟩ := Option.bind_eq_some_iff.1 hm
        obtain ⟨c2, h2, hm⟩ := Option.bind_eq_some_iff.1 hm
        obtain ⟨r, hr, hm⟩ := Option.bind_eq_some_iff.1 hm
        exact ⟨_, hm, LawV.reads (.cons (.as h1) (.cons (.bp (.cons (.as h2) .nil)) .nil)) (impl_tacOk_1_vbp_law k c1 c2 r hr)⟩
      · cases hm
    · cases hg; exact noCon_ok
    · cases hg
  · intro g hg r
    by_cases h : g = 155
    · subst h; simp [E_slices_IndexFunc_int__impl_tacOk_1] at hg
    · simp [E_slices_IndexFunc_int__impl_tacOk_1, h]
theorem f155_okslices_IndexFunc_int__impl_tacOk_1 : Try.prog.funcs[155]? = some Try.f155 := by kernel_rfl
theorem slices_IndexFunc_int__impl_tacOk_1_law (k : Nat) (a1 : List Int) (a2 : Int) (x : Int) (h : slices_IndexFunc_int__impl_tacOk_1 k a1 a2 = some x) : LawV Try.prog 155 [.tv (.row (.int .i64)) a1, .fn 139 [.bp [.int .i64 a2] 0]] (tvn (.int .i64) x) := by
  unfold slices_IndexFunc_int__impl_tacOk_1 at h
  exact law1 (t := (.int .i64)) (tyTOk _ _) (E_slices_IndexFunc_int__impl_tacOk_1_calls k) mixOk f155_okslices_IndexFunc_int__impl_tacOk_1 (nameOk _ _ f155_okslices_IndexFunc_int__impl_tacOk_1) (by kernel_rfl) h
/-! slices.ContainsFunc[[]int,int] -/
noncomputable def E_slices_ContainsFunc_int__impl_tacOk_1 (k : Nat) : Env := ⟨ty, fun g => match g with
  | 155 => some (byVal fun ρ l K => match l with
    | [b1, .fn 139 [.bp [b2] 0]] => (b1.as (.row (.int .i64))).bind fun c1 => (b2.as (.int .i64)).bind fun c2 => (slices_IndexFunc_int__impl_tacOk_1 k c1 c2).bind fun r => K (tvn (.int .i64) r)
    | _ => none)
  | _ => none, fun _ _ => none⟩
noncomputable def slices_ContainsFunc_int__impl_tacOk_1 (k : Nat) (a1 : List Int) (a2 : Int) : Option (Bool) :=
  abody (E_slices_ContainsFunc_int__impl_tacOk_1 k) (arun Try.prog (E_slices_ContainsFunc_int__impl_tacOk_1 k) k) k 137 Try.f137 [.tv (.row (.int .i64)) a1, .fn 139 [.bp [.int .i64 a2] 0]] [] (fin1 .bool)
theorem slices_ContainsFunc_int__impl_tacOk_1_e (k : Nat) (a1 : List Int) (a2 : Int) : slices_ContainsFunc_int__impl_tacOk_1 k a1 a2 =
  bindO (slices_IndexFunc_int__impl_tacOk_1 k a1 a2) fun r1 => (some (decide (r1 ≥ 0))) := by kernel_rfl
theorem E_slices_ContainsFunc_int__impl_tacOk_1_calls (k : Nat) : CallsOk Try.prog (E_slices_ContainsFunc_int__impl_tacOk_1 k) (arun Try.prog (E_slices_ContainsFunc_int__impl_tacOk_1 k) k) := by
  refine told_run (tyTOk _ _) ?_ (fun run h => regOk (tyTOk _ _) mixOk h) ?_ nameOk k
  · intro g m hg
    simp only [E_slices_ContainsFunc_int__impl_tacOk_1] at hg
    split at hg
    · cases hg
      refine con_byVal fun ρ l K x hm => ?_
      split at hm
      · obtain ⟨c1, h1, hm⟩ := Option.bind_eq_some_iff.1 hm
        obtain ⟨c2, h2, hm⟩ := Option.bind_eq_some_iff.1 hm
        obtain ⟨r, hr, hm⟩ := Option.bind_eq_some_iff.1 hm
        exact ⟨_, hm, LawV.reads (.cons (.as h1) (.cons (.fn (.cons (.bp (.cons (.as h2) .nil)) .nil)) .nil)) (slices_IndexFunc_int__impl_tacOk_1_law k c1 c2 r hr)⟩
      · cases hm
    · cases hg
  · intro g _ r; rfl
theorem f137_okslices_ContainsFunc_int__impl_tacOk_1 : Try.prog.funcs[137]? = some Try.f137 := by kernel_rfl
theorem slices_ContainsFunc_int__impl_tacOk_1_law (k : Nat) (a1 : List Int) (a2 : Int) (x : Bool) (h : slices_ContainsFunc_int__impl_tacOk_1 k a1 a2 = some x) : LawV Try.prog 137 [.tv (.row (.int .i64)) a1, .fn 139 [.bp [.int .i64 a2] 0]] (tvn .bool x) := by
  unfold slices_ContainsFunc_int__impl_tacOk_1 at h
  exact law1 (t := .bool) (tyTOk _ _) (E_slices_ContainsFunc_int__impl_tacOk_1_calls k) mixOk f137_okslices_ContainsFunc_int__impl_tacOk_1 (nameOk _ _ f137_okslices_ContainsFunc_int__impl_tacOk_1) (by kernel_rfl) h
/-! impl.tacOk -/
noncomputable def E_impl_tacOk (k : Nat) : Env := ⟨ty, fun g => match g with
  | 134 => some (byVal fun ρ l K => match l with
    | [b1] => (b1.as (.int .i64)).bind fun c1 => (impl_owns k c1).bind fun r => K (tvn .str r)
    | _ => none)
  | 135 => some (byVal fun ρ l K => match l with
    | [b1] => (b1.as (.int .i64)).bind fun c1 => (impl_WordOk k c1).bind fun r => K (tvn .bool r)
    | _ => none)
  | 136 => some (byVal fun ρ l K => match l with
    | [b1, b2] => (b1.as (.pair (.int .i64) (.pair (.int .i64) (.pair (.int .i64) (.pair (.int .i64) (.pair (.int .i64) (.pair .str (.pair (.row (.int .i64)) .unit)))))))).bind fun c1 => (b2.as (.int .i64)).bind fun c2 => (impl_argsOk k c1 c2).bind fun r => K (tvn .bool r)
    | _ => none)
  | 112 => some (byVal fun ρ l K => match l with
    | [b1, b2] => (b1.as (.int .i64)).bind fun c1 => (b2.as (.int .u8)).bind fun c2 => (impl_owned k c1 c2).bind fun r => K (tvn .bool r)
    | _ => none)
  | 66 => some (byFresh (.int .i64) fun ρ l K => match l with
    | [b1] => (b1.as (.pair (.int .i64) (.pair (.int .i64) (.pair (.int .i64) (.pair (.int .i64) (.pair (.int .i64) (.pair .str (.pair (.row (.int .i64)) .unit)))))))).bind fun c1 => (impl_Sets k c1).bind fun r => K r
    | _ => none)
  | 138 => some (byVal fun ρ l K => match l with
    | [b1] => (b1.as (.pair (.int .i64) (.pair (.int .i64) (.pair (.int .i64) (.pair (.int .i64) (.pair (.int .i64) (.pair .str (.pair (.row (.int .i64)) .unit)))))))).bind fun c1 => (impl_Uses k c1).bind fun r => K (tvn (.row (.int .i64)) r)
    | _ => none)
  | 137 => some (byVal fun ρ l K => match l with
    | [b1, .fn 139 [.bp [b2] 0]] => (b1.as (.row (.int .i64))).bind fun c1 => (b2.as (.int .i64)).bind fun c2 => (slices_ContainsFunc_int__impl_tacOk_1 k c1 c2).bind fun r => K (tvn .bool r)
    | _ => none)
  | 103 => some noCon
  | _ => none, fun f r => match f with | 103 => (match r with | 3 => some [2, 3] | 5 => some [2, 3] | _ => none) | _ => none⟩
noncomputable def impl_tacOk (k : Nat) (a1 : Int × Int × Int × Int × Int × ByteArray × (List Int) × Unit) (a2 : Int) : Option (Bool) :=
  abody (E_impl_tacOk k) (arun Try.prog (E_impl_tacOk k) k) k 103 Try.f103 [.tv (.pair (.int .i64) (.pair (.int .i64) (.pair (.int .i64) (.pair (.int .i64) (.pair (.int .i64) (.pair .str (.pair (.row (.int .i64)) .unit))))))) a1, .int .i64 a2] [] (fin1 .bool)
noncomputable def impl_tacOk.j3 (k : Nat) (y0_0 : Int × Int × Int × Int × Int × ByteArray × (List Int) × Unit) (y1_0 : Int) : Option (Bool) :=
  resume (E_impl_tacOk k) 103 (acall (E_impl_tacOk k) (arun Try.prog (E_impl_tacOk k) k)) k [true, true] [] (bodyOf Try.f103) ⟨[.undef, .undef, .ptr 0 0 0, .ptr 1 0 0, .undef, .undef, .undef, .undef, .undef, .undef, .undef, .undef, .undef, .undef, .undef, .undef, .undef, .undef, .undef, .undef, .undef, .undef, .undef, .undef, .undef, .undef, .undef, .undef, .undef, .undef, .undef, .undef, .undef, .undef, .undef, .undef, .undef, .undef, .undef, .undef, .undef, .undef, .undef, .undef, .undef, .undef, .undef, .undef, .undef, .undef, .undef, .undef, .undef, .undef, .undef, .undef, .undef, .undef, .undef, .undef, .undef, .undef, .undef, .undef, .undef, .undef, .undef, .undef, .undef, .undef, .undef, .undef, .undef, .undef, .undef, .undef, .undef, .undef, .undef, .undef, .undef, .undef], [some ⟨.raw true 7 (.agg [.int .i64 0, .int .i64 0, .int .i64 0, .int .i64 0, .int .i64 0, .str ByteArray.empty, .nils]) [.tv (.pair (.int .i64) (.pair (.int .i64) (.pair (.int .i64) (.pair (.int .i64) (.pair (.int .i64) (.pair .str (.pair (.row (.int .i64)) .unit))))))) y0_0], true⟩, some ⟨.raw false 1 (.int .i64 0) [.int .i64 y1_0], true⟩]⟩ (leave (E_impl_tacOk k) Try.f103 (fin1 .bool))
noncomputable def impl_tacOk.j5 (k : Nat) (y0_0 : Int × Int × Int × Int × Int × ByteArray × (List Int) × Unit) (y1_0 : Int) : Option (Bool) :=
  resume (E_impl_tacOk k) 103 (acall (E_impl_tacOk k) (arun Try.prog (E_impl_tacOk k) k)) k [true, true, true] [] (bodyOf Try.f103) ⟨[.undef, .undef, .ptr 0 0 0, .ptr 1 0 0, .undef, .undef, .undef, .undef, .undef, .undef, .undef, .undef, .undef, .undef, .undef, .undef, .undef, .undef, .undef, .undef, .undef, .undef, .undef, .undef, .undef, .undef, .undef, .undef, .undef, .undef, .undef, .undef, .undef, .undef, .undef, .undef, .undef, .undef, .undef, .undef, .undef, .undef, .undef, .undef, .undef, .undef, .undef, .undef, .undef, .undef, .undef, .undef, .undef, .undef, .undef, .undef, .undef, .undef, .undef, .undef, .undef, .undef, .undef, .undef, .undef, .undef, .undef, .undef, .undef, .undef, .undef, .undef, .undef, .undef, .undef, .undef, .undef, .undef, .undef, .undef, .undef, .undef], [some ⟨.raw true 7 (.agg [.int .i64 0, .int .i64 0, .int .i64 0, .int .i64 0, .int .i64 0, .str ByteArray.empty, .nils]) [.tv (.pair (.int .i64) (.pair (.int .i64) (.pair (.int .i64) (.pair (.int .i64) (.pair (.int .i64) (.pair .str (.pair (.row (.int .i64)) .unit))))))) y0_0], true⟩, some ⟨.raw false 1 (.int .i64 0) [.int .i64 y1_0], true⟩]⟩ (leave (E_impl_tacOk k) Try.f103 (fin1 .bool))
theorem impl_tacOk.j3_e (k : Nat) (y0_0 : Int × Int × Int × Int × Int × ByteArray × (List Int) × Unit) (y1_0 : Int) : impl_tacOk.j3 k y0_0 y1_0 =
  bindO (impl_owned k y0_0.1 68) fun r4 => (iteB (!r4) (iteB (!(y0_0.2.1 != 0)) (bindO (impl_owned k y0_0.1 65) fun r5 => (iteB (!r5) (iteB (!(y0_0.2.2.1 != 0)) (bindO (impl_owned k y0_0.1 66) fun r6 => (iteB (!r6) (iteB (!(y0_0.2.2.2.1 != 0)) (bindO (impl_owned k y0_0.1 78) fun r7 => (iteB (!r7) (iteB (!(y0_0.2.2.2.2.1 != 0)) (bindO (impl_owned k y0_0.1 83) fun r8 => (iteB (!r8) (iteB (!(ByteArray.toList y0_0.2.2.2.2.2.1 == ByteArray.toList (⟨#[]⟩ : ByteArray))) (some false) (gate k (impl_tacOk.j5 k y0_0 y1_0))) (gate k (impl_tacOk.j5 k y0_0 y1_0)))) (some false)) (bindO (impl_owned k y0_0.1 83) fun r9 => (iteB (!r9) (iteB (!(ByteArray.toList y0_0.2.2.2.2.2.1 == ByteArray.toList (⟨#[]⟩ : ByteArray))) (some false) (gate k (impl_tacOk.j5 k y0_0 y1_0))) (gate k (impl_tacOk.j5 k y0_0 y1_0)))))) (some false)) (bindO (impl_owned k y0_0.1 78) fun r10 => (iteB (!r10) (iteB (!(y0_0.2.2.2.2.1 != 0)) (bindO (impl_owned k y0_0.1 83) fun r11 => (iteB (!r11) (iteB (!(ByteArray.toList y0_0.2.2.2.2.2.1 == ByteArray.toList (⟨#[]⟩ : ByteArray))) (some false) (gate k (impl_tacOk.j5 k y0_0 y1_0))) (gate k (impl_tacOk.j5 k y0_0 y1_0)))) (some false)) (bindO (impl_owned k y0_0.1 83) fun r12 => (iteB (!r12) (iteB (!(ByteArray.toList y0_0.2.2.2.2.2.1 == ByteArray.toList (⟨#[]⟩ : ByteArray))) (some false) (gate k (impl_tacOk.j5 k y0_0 y1_0))) (gate k (impl_tacOk.j5 k y0_0 y1_0)))))))) (some false)) (bindO (impl_owned k y0_0.1 66) fun r13 => (iteB (!r13) (iteB (!(y0_0.2.2.2.1 != 0)) (bindO (impl_owned k y0_0.1 78) fun r14 => (iteB (!r14) (iteB (!(y0_0.2.2.2.2.1 != 0)) (bindO (impl_owned k y0_0.1 83) fun r15 => (iteB (!r15) (iteB (!(ByteArray.toList y0_0.2.2.2.2.2.1 == ByteArray.toList (⟨#[]⟩ : ByteArray))) (some false) (gate k (impl_tacOk.j5 k y0_0 y1_0))) (gate k (impl_tacOk.j5 k y0_0 y1_0)))) (some false)) (bindO (impl_owned k y0_0.1 83) fun r16 => (iteB (!r16) (iteB (!(ByteArray.toList y0_0.2.2.2.2.2.1 == ByteArray.toList (⟨#[]⟩ : ByteArray))) (some false) (gate k (impl_tacOk.j5 k y0_0 y1_0))) (gate k (impl_tacOk.j5 k y0_0 y1_0)))))) (some false)) (bindO (impl_owned k y0_0.1 78) fun r17 => (iteB (!r17) (iteB (!(y0_0.2.2.2.2.1 != 0)) (bindO (impl_owned k y0_0.1 83) fun r18 => (iteB (!r18) (iteB (!(ByteArray.toList y0_0.2.2.2.2.2.1 == ByteArray.toList (⟨#[]⟩ : ByteArray))) (some false) (gate k (impl_tacOk.j5 k y0_0 y1_0))) (gate k (impl_tacOk.j5 k y0_0 y1_0)))) (some false)) (bindO (impl_owned k y0_0.1 83) fun r19 => (iteB (!r19) (iteB (!(ByteArray.toList y0_0.2.2.2.2.2.1 == ByteArray.toList (⟨#[]⟩ : ByteArray))) (some false) (gate k (impl_tacOk.j5 k y0_0 y1_0))) (gate k (impl_tacOk.j5 k y0_0 y1_0)))))))))) (some false)) (bindO (impl_owned k y0_0.1 65) fun r20 => (iteB (!r20) (iteB (!(y0_0.2.2.1 != 0)) (bindO (impl_owned k y0_0.1 66) fun r21 => (iteB (!r21) (iteB (!(y0_0.2.2.2.1 != 0)) (bindO (impl_owned k y0_0.1 78) fun r22 => (iteB (!r22) (iteB (!(y0_0.2.2.2.2.1 != 0)) (bindO (impl_owned k y0_0.1 83) fun r23 => (iteB (!r23) (iteB (!(ByteArray.toList y0_0.2.2.2.2.2.1 == ByteArray.toList (⟨#[]⟩ : ByteArray))) (some false) (gate k (impl_tacOk.j5 k y0_0 y1_0))) (gate k (impl_tacOk.j5 k y0_0 y1_0)))) (some false)) (bindO (impl_owned k y0_0.1 83) fun r24 => (iteB (!r24) (iteB (!(ByteArray.toList y0_0.2.2.2.2.2.1 == ByteArray.toList (⟨#[]⟩ : ByteArray))) (some false) (gate k (impl_tacOk.j5 k y0_0 y1_0))) (gate k (impl_tacOk.j5 k y0_0 y1_0)))))) (some false)) (bindO (impl_owned k y0_0.1 78) fun r25 => (iteB (!r25) (iteB (!(y0_0.2.2.2.2.1 != 0)) (bindO (impl_owned k y0_0.1 83) fun r26 => (iteB (!r26) (iteB (!(ByteArray.toList y0_0.2.2.2.2.2.1 == ByteArray.toList (⟨#[]⟩ : ByteArray))) (some false) (gate k (impl_tacOk.j5 k y0_0 y1_0))) (gate k (impl_tacOk.j5 k y0_0 y1_0)))) (some false)) (bindO (impl_owned k y0_0.1 83) fun r27 => (iteB (!r27) (iteB (!(ByteArray.toList y0_0.2.2.2.2.2.1 == ByteArray.toList (⟨#[]⟩ : ByteArray))) (some false) (gate k (impl_tacOk.j5 k y0_0 y1_0))) (gate k (impl_tacOk.j5 k y0_0 y1_0)))))))) (some false)) (bindO (impl_owned k y0_0.1 66) fun r28 => (iteB (!r28) (iteB (!(y0_0.2.2.2.1 != 0)) (bindO (impl_owned k y0_0.1 78) fun r29 => (iteB (!r29) (iteB (!(y0_0.2.2.2.2.1 != 0)) (bindO (impl_owned k y0_0.1 83) fun r30 => (iteB (!r30) (iteB (!(ByteArray.toList y0_0.2.2.2.2.2.1 == ByteArray.toList (⟨#[]⟩ : ByteArray))) (some false) (gate k (impl_tacOk.j5 k y0_0 y1_0))) (gate k (impl_tacOk.j5 k y0_0 y1_0)))) (some false)) (bindO (impl_owned k y0_0.1 83) fun r31 => (iteB (!r31) (iteB (!(ByteArray.toList y0_0.2.2.2.2.2.1 == ByteArray.toList (⟨#[]⟩ : ByteArray))) (some false) (gate k (impl_tacOk.j5 k y0_0 y1_0))) (gate k (impl_tacOk.j5 k y0_0 y1_0)))))) (some false)) (bindO (impl_owned k y0_0.1 78) fun r32 => (iteB (!r32) (iteB (!(y0_0.2.2.2.2.1 != 0)) (bindO (impl_owned k y0_0.1 83) fun r33 => (iteB (!r33) (iteB (!(ByteArray.toList y0_0.2.2.2.2.2.1 == ByteArray.toList (⟨#[]⟩ : ByteArray))) (some false) (gate k (impl_tacOk.j5 k y0_0 y1_0))) (gate k (impl_tacOk.j5 k y0_0 y1_0)))) (some false)) (bindO (impl_owned k y0_0.1 83) fun r34 => (iteB (!r34) (iteB (!(ByteArray.toList y0_0.2.2.2.2.2.1 == ByteArray.toList (⟨#[]⟩ : ByteArray))) (some false) (gate k (impl_tacOk.j5 k y0_0 y1_0))) (gate k (impl_tacOk.j5 k y0_0 y1_0))))))))))) := by kernel_rfl
theorem impl_tacOk.j5_e (k : Nat) (y0_0 : Int × Int × Int × Int × Int × ByteArray × (List Int) × Unit) (y1_0 : Int) : impl_tacOk.j5 k y0_0 y1_0 =
  bindO (impl_Sets k y0_0) fun r35 => (bindO (impl_Uses k y0_0) fun r36 => (iteB (decide ((List.length (r35 ++ r36)) * 8 ≤ lim)) (bindO (slices_ContainsFunc_int__impl_tacOk_1 k (r35 ++ r36) y1_0) fun r37 => (some (!r37))) (none))) := by kernel_rfl
theorem impl_tacOk_e (k : Nat) (a1 : Int × Int × Int × Int × Int × ByteArray × (List Int) × Unit) (a2 : Int) : impl_tacOk k a1 a2 =
  bindO (impl_owns k a1.1) fun r1 => (iteB (!(ByteArray.toList r1 == ByteArray.toList (⟨#[]⟩ : ByteArray))) (bindO (impl_WordOk k a1.2.2.2.2.1) fun r2 => (iteB (!(!r2)) (bindO (impl_argsOk k a1 a2) fun r3 => (iteB (!r3) (some false) (gate k (impl_tacOk.j3 k a1 a2)))) (some false))) (some false)) := by kernel_rfl
theorem E_impl_tacOk_calls (k : Nat) : CallsOk Try.prog (E_impl_tacOk k) (arun Try.prog (E_impl_tacOk k) k) := by
  refine told_run (tyTOk _ _) ?_ (fun run h => regOk (tyTOk _ _) mixOk h) ?_ nameOk k
  · intro g m hg
    simp only [E_impl_tacOk] at hg
    split at hg
    · cases hg
      refine con_byVal fun ρ l K x hm => ?_
      split at hm
      · obtain ⟨c1, h1, hm⟩ := Option.bind_eq_some_iff.1 hm
        obtain ⟨r, hr, hm⟩ := Option.bind_eq_some_iff.1 hm
        exact ⟨_, hm, LawV.reads (.cons (.as h1) .nil) (impl_owns_law k c1 r hr)⟩
      · cases hm
    · cases hg
      refine con_byVal fun ρ l K x hm => ?_
      split at hm
      · obtain ⟨c1, h1, hm⟩ := Option.bind_eq_some_iff.1 hm
        obtain ⟨r, hr, hm⟩ := Option.bind_eq_some_iff.1 hm
        exact ⟨_, hm, LawV.reads (.cons (.as h1) .nil) (impl_WordOk_law k c1 r hr)⟩
      · cases hm
    · cases hg
      refine con_byVal fun ρ l K x hm => ?_
      split at hm
      · obtain ⟨c1, h1, hm⟩ := Option.bind_eq_some_iff.1 hm
        obtain ⟨c2, h2, hm⟩ := Option.bind_eq_some_iff.1 hm
        obtain ⟨r, hr, hm⟩ := Option.bind_eq_some_iff.1 hm
        exact ⟨_, hm, LawV.reads (.cons (.as h1) (.cons (.as h2) .nil)) (impl_argsOk_law k c1 c2 r hr)⟩
      · cases hm
    · cases hg
      refine con_byVal fun ρ l K x hm => ?_
      split at hm
      · obtain ⟨c1, h1, hm⟩ := Option.bind_eq_some_iff.1 hm
        obtain ⟨c2, h2, hm⟩ := Option.bind_eq_some_iff.1 hm
        obtain ⟨r, hr, hm⟩ := Option.bind_eq_some_iff.1 hm
        exact ⟨_, hm, LawV.reads (.cons (.as h1) (.cons (.as h2) .nil)) (impl_owned_law k c1 c2 r hr)⟩
      · cases hm
    · cases hg
      refine con_byFresh fun ρ l K x hm => ?_
      split at hm
      · obtain ⟨c1, h1, hm⟩ := Option.bind_eq_some_iff.1 hm
        obtain ⟨r, hr, hm⟩ := Option.bind_eq_some_iff.1 hm
        exact ⟨_, hm, LawF.reads (.cons (.as h1) .nil) (impl_Sets_law k c1 r hr)⟩
      · cases hm
    · cases hg
      refine con_byVal fun ρ l K x hm => ?_
      split at hm
      · obtain ⟨c1, h1, hm⟩ := Option.bind_eq_some_iff.1 hm
        obtain ⟨r, hr, hm⟩ := Option.bind_eq_some_iff.1 hm
        exact ⟨_, hm, LawV.reads (.cons (.as h1) .nil) (impl_Uses_law k c1 r hr)⟩
      · cases hm
    · cases hg
      refine con_byVal fun ρ l K x hm => ?_
      split at hm
      · obtain ⟨c1, h1, hm⟩ := Option.bind_eq_some_iff.1 hm
        obtain ⟨c2, h2, hm⟩ := Option.bind_eq_some_iff.1 hm
        obtain ⟨r, hr, hm⟩ := Option.bind_eq_some_iff.1 hm
        exact ⟨_, hm, LawV.reads (.cons (.as h1) (.cons (.fn (.cons (.bp (.cons (.as h2) .nil)) .nil)) .nil)) (slices_ContainsFunc_int__impl_tacOk_1_law k c1 c2 r hr)⟩
      · cases hm
    · cases hg; exact noCon_ok
    · cases hg
  · intro g hg r
    by_cases h : g = 103
    · subst h; simp [E_impl_tacOk] at hg
    · simp [E_impl_tacOk, h]
theorem f103_okimpl_tacOk : Try.prog.funcs[103]? = some Try.f103 := by kernel_rfl
theorem impl_tacOk_law (k : Nat) (a1 : Int × Int × Int × Int × Int × ByteArray × (List Int) × Unit) (a2 : Int) (x : Bool) (h : impl_tacOk k a1 a2 = some x) : LawV Try.prog 103 [.tv (.pair (.int .i64) (.pair (.int .i64) (.pair (.int .i64) (.pair (.int .i64) (.pair (.int .i64) (.pair .str (.pair (.row (.int .i64)) .unit))))))) a1, .int .i64 a2] (tvn .bool x) := by
  unfold impl_tacOk at h
  exact law1 (t := .bool) (tyTOk _ _) (E_impl_tacOk_calls k) mixOk f103_okimpl_tacOk (nameOk _ _ f103_okimpl_tacOk) (by kernel_rfl) h
/-! impl.labelAt$1 -/
noncomputable def E_impl_labelAt_1_vbp (k : Nat) : Env := ⟨ty, fun _ => none, fun _ _ => none⟩
noncomputable def impl_labelAt_1_vbp (k : Nat) (a1 : Int × Int × Int × Int × Int × ByteArray × (List Int) × Unit) (a2 : Int) : Option (Bool) :=
  abody (E_impl_labelAt_1_vbp k) (arun Try.prog (E_impl_labelAt_1_vbp k) k) k 141 Try.f141 [.tv (.pair (.int .i64) (.pair (.int .i64) (.pair (.int .i64) (.pair (.int .i64) (.pair (.int .i64) (.pair .str (.pair (.row (.int .i64)) .unit))))))) a1, .bp [.int .i64 a2] 0] [] (fin1 .bool)
theorem impl_labelAt_1_vbp_e (k : Nat) (a1 : Int × Int × Int × Int × Int × ByteArray × (List Int) × Unit) (a2 : Int) : impl_labelAt_1_vbp k a1 a2 =
  iteB (a1.1 == 8) (some (a1.2.2.2.2.1 == a2)) (some false) := by kernel_rfl
theorem E_impl_labelAt_1_vbp_calls (k : Nat) : CallsOk Try.prog (E_impl_labelAt_1_vbp k) (arun Try.prog (E_impl_labelAt_1_vbp k) k) := by
  refine told_run (tyTOk _ _) ?_ (fun run h => regOk (tyTOk _ _) mixOk h) ?_ nameOk k
  · intro g m hg
    cases hg
  · intro g _ r; rfl
theorem f141_okimpl_labelAt_1_vbp : Try.prog.funcs[141]? = some Try.f141 := by kernel_rfl
theorem impl_labelAt_1_vbp_law (k : Nat) (a1 : Int × Int × Int × Int × Int × ByteArray × (List Int) × Unit) (a2 : Int) (x : Bool) (h : impl_labelAt_1_vbp k a1 a2 = some x) : LawV Try.prog 141 [.tv (.pair (.int .i64) (.pair (.int .i64) (.pair (.int .i64) (.pair (.int .i64) (.pair (.int .i64) (.pair .str (.pair (.row (.int .i64)) .unit))))))) a1, .bp [.int .i64 a2] 0] (tvn .bool x) := by
  unfold impl_labelAt_1_vbp at h
  exact law1 (t := .bool) (tyTOk _ _) (E_impl_labelAt_1_vbp_calls k) mixOk f141_okimpl_labelAt_1_vbp (nameOk _ _ f141_okimpl_labelAt_1_vbp) (by kernel_rfl) h
/-! slices.IndexFunc[[]impl.Tac,impl.Tac] -/
noncomputable def E_slices_IndexFunc_impl_Tac__impl_labelAt_1 (k : Nat) : Env := ⟨ty, fun g => match g with
  | 141 => some (byVal fun ρ l K => match l with
    | [b1, .bp [b2] 0] => (b1.as (.pair (.int .i64) (.pair (.int .i64) (.pair (.int .i64) (.pair (.int .i64) (.pair (.int .i64) (.pair .str (.pair (.row (.int .i64)) .unit)))))))).bind fun c1 => (b2.as (.int .i64)).bind fun c2 => (impl_labelAt_1_vbp k c1 c2).bind fun r => K (tvn .bool r)
    | _ => none)
  | 140 => some noCon
  | _ => none, fun f r => match f with | 140 => (match r with | 2 => some [0, 1, 7, 8] | _ => none) | _ => none⟩
noncomputable def slices_IndexFunc_impl_Tac__impl_labelAt_1 (k : Nat) (a1 : List (Int × Int × Int × Int × Int × ByteArray × (List Int) × Unit)) (a2 : Int) : Option (Int) :=
  abody (E_slices_IndexFunc_impl_Tac__impl_labelAt_1 k) (arun Try.prog (E_slices_IndexFunc_impl_Tac__impl_labelAt_1 k) k) k 140 Try.f140 [.tv (.row (.pair (.int .i64) (.pair (.int .i64) (.pair (.int .i64) (.pair (.int .i64) (.pair (.int .i64) (.pair .str (.pair (.row (.int .i64)) .unit)))))))) a1, .fn 141 [.bp [.int .i64 a2] 0]] [] (fin1 (.int .i64))
noncomputable def slices_IndexFunc_impl_Tac__impl_labelAt_1.l2 (k n : Nat) (x0 : List (Int × Int × Int × Int × Int × ByteArray × (List Int) × Unit)) (x1_0_0 : Int) (x7 : Int) (x8 : Int) : Option (Int) :=
  resume (E_slices_IndexFunc_impl_Tac__impl_labelAt_1 k) 140 (acall (E_slices_IndexFunc_impl_Tac__impl_labelAt_1 k) (arun Try.prog (E_slices_IndexFunc_impl_Tac__impl_labelAt_1 k) k)) k [true, false, true, true] [n] (bodyOf Try.f140) ⟨[.tv (.row (.pair (.int .i64) (.pair (.int .i64) (.pair (.int .i64) (.pair (.int .i64) (.pair (.int .i64) (.pair .str (.pair (.row (.int .i64)) .unit)))))))) x0, .fn 141 [.bp [.int .i64 x1_0_0] 0], .undef, .undef, .undef, .undef, .undef, .int .i64 x7, .int .i64 x8, .undef, .undef, .undef, .undef, .undef, .undef, .undef, .undef, .undef, .undef], []⟩ (leave (E_slices_IndexFunc_impl_Tac__impl_labelAt_1 k) Try.f140 (fin1 (.int .i64)))
theorem slices_IndexFunc_impl_Tac__impl_labelAt_1.l2_0 (k : Nat) (x0 : List (Int × Int × Int × Int × Int × ByteArray × (List Int) × Unit)) (x1_0_0 : Int) (x7 : Int) (x8 : Int) : slices_IndexFunc_impl_Tac__impl_labelAt_1.l2 k 0 x0 x1_0_0 x7 x8 = none := by kernel_rfl
theorem slices_IndexFunc_impl_Tac__impl_labelAt_1.l2_s (k n : Nat) (x0 : List (Int × Int × Int × Int × Int × ByteArray × (List Int) × Unit)) (x1_0_0 : Int) (x7 : Int) (x8 : Int) : slices_IndexFunc_impl_Tac__impl_labelAt_1.l2 k (n + 1) x0 x1_0_0 x7 x8 =
  iteB (decide (x8 < x7)) (iteB (decide (0 ≤ x8)) (iteB (decide (x8 < ((List.length x0) : Int))) (bindO (impl_labelAt_1_vbp k (List.getD x0 (Int.toNat x8) (Ty.dflt (.pair (.int .i64) (.pair (.int .i64) (.pair (.int .i64) (.pair (.int .i64) (.pair (.int .i64) (.pair .str (.pair (.row (.int .i64)) .unit))))))))) x1_0_0) fun r1 => (iteB r1 (some x8) (slices_IndexFunc_impl_Tac__impl_labelAt_1.l2 k n x0 x1_0_0 x7 (IntKind.wrap .i64 (x8 + 1))))) (none)) (none)) (some (-1)) := by kernel_rfl
theorem slices_IndexFunc_impl_Tac__impl_labelAt_1_e (k : Nat) (a1 : List (Int × Int × Int × Int × Int × ByteArray × (List Int) × Unit)) (a2 : Int) : slices_IndexFunc_impl_Tac__impl_labelAt_1 k a1 a2 =
  slices_IndexFunc_impl_Tac__impl_labelAt_1.l2 k k a1 a2 ((List.length a1) : Int) 0 := by kernel_rfl
theorem E_slices_IndexFunc_impl_Tac__impl_labelAt_1_calls (k : Nat) : CallsOk Try.prog (E_slices_IndexFunc_impl_Tac__impl_labelAt_1 k) (arun Try.prog (E_slices_IndexFunc_impl_Tac__impl_labelAt_1 k) k) := by
  refine told_run (tyTOk _ _) ?_ (fun run h => regOk (tyTOk _ _) mixOk h) ?_ nameOk k
  · intro g m hg
    simp only [E_slices_IndexFunc_impl_Tac__impl_labelAt_1] at hg
    split at hg
    · cases hg
      refine con_byVal fun ρ l K x hm => ?_
      split at hm
      · obtain ⟨c1, h1, hm⟩ := Option.bind_eq_some_iff.1 hm
        obtain ⟨c2, h2, hm⟩ := Option.bind_eq_some_iff.1 hm
        obtain ⟨r, hr, hm⟩ := Option.bind_eq_some_iff.1 hm
        exact ⟨_, hm, LawV.reads (.cons (.as h1) (.cons (.bp (.cons (.as h2) .nil)) .nil)) (impl_labelAt_1_vbp_law k c1 c2 r hr)⟩
      · cases hm
    · cases hg; exact noCon_ok
    · cases hg
  · intro g hg r
    by_cases h : g = 140
    · subst h; simp [E_slices_IndexFunc_impl_Tac__impl_labelAt_1] at hg
    · simp [E_slices_IndexFunc_impl_Tac__impl_labelAt_1, h]
theorem f140_okslices_IndexFunc_impl_Tac__impl_labelAt_1 : Try.prog.funcs[140]? = some Try.f140 := by kernel_rfl
theorem slices_IndexFunc_impl_Tac__impl_labelAt_1_law (k : Nat) (a1 : List (Int × Int × Int × Int × Int × ByteArray × (List Int) × Unit)) (a2 : Int) (x : Int) (h : slices_IndexFunc_impl_Tac__impl_labelAt_1 k a1 a2 = some x) : LawV Try.prog 140 [.tv (.row (.pair (.int .i64) (.pair (.int .i64) (.pair (.int .i64) (.pair (.int .i64) (.pair (.int .i64) (.pair .str (.pair (.row (.int .i64)) .unit)))))))) a1, .fn 141 [.bp [.int .i64 a2] 0]] (tvn (.int .i64) x) := by
  unfold slices_IndexFunc_impl_Tac__impl_labelAt_1 at h
  exact law1 (t := (.int .i64)) (tyTOk _ _) (E_slices_IndexFunc_impl_Tac__impl_labelAt_1_calls k) mixOk f140_okslices_IndexFunc_impl_Tac__impl_labelAt_1 (nameOk _ _ f140_okslices_IndexFunc_impl_Tac__impl_labelAt_1) (by kernel_rfl) h
/-! impl.labelAt -/
noncomputable def E_impl_labelAt (k : Nat) : Env := ⟨ty, fun g => match g with
  | 140 => some (byVal fun ρ l K => match l with
    | [b1, .fn 141 [.bp [b2] 0]] => (b1.as (.row (.pair (.int .i64) (.pair (.int .i64) (.pair (.int .i64) (.pair (.int .i64) (.pair (.int .i64) (.pair .str (.pair (.row (.int .i64)) .unit))))))))).bind fun c1 => (b2.as (.int .i64)).bind fun c2 => (slices_IndexFunc_impl_Tac__impl_labelAt_1 k c1 c2).bind fun r => K (tvn (.int .i64) r)
    | _ => none)
  | _ => none, fun _ _ => none⟩
noncomputable def impl_labelAt (k : Nat) (a1 : List (Int × Int × Int × Int × Int × ByteArray × (List Int) × Unit)) (a2 : Int) : Option (Int) :=
  abody (E_impl_labelAt k) (arun Try.prog (E_impl_labelAt k) k) k 104 Try.f104 [.tv (.row (.pair (.int .i64) (.pair (.int .i64) (.pair (.int .i64) (.pair (.int .i64) (.pair (.int .i64) (.pair .str (.pair (.row (.int .i64)) .unit)))))))) a1, .int .i64 a2] [] (fin1 (.int .i64))
theorem impl_labelAt_e (k : Nat) (a1 : List (Int × Int × Int × Int × Int × ByteArray × (List Int) × Unit)) (a2 : Int) : impl_labelAt k a1 a2 =
  bindO (slices_IndexFunc_impl_Tac__impl_labelAt_1 k a1 a2) fun r1 => (some r1) := by kernel_rfl
theorem E_impl_labelAt_calls (k : Nat) : CallsOk Try.prog (E_impl_labelAt k) (arun Try.prog (E_impl_labelAt k) k) := by
  refine told_run (tyTOk _ _) ?_ (fun run h => regOk (tyTOk _ _) mixOk h) ?_ nameOk k
  · intro g m hg
    simp only [E_impl_labelAt] at hg
    split at hg
    · cases hg
      refine con_byVal fun ρ l K x hm => ?_
      split at hm
      · obtain ⟨c1, h1, hm⟩ := Option.bind_eq_some_iff.1 hm
        obtain ⟨c2, h2, hm⟩ := Option.bind_eq_some_iff.1 hm
        obtain ⟨r, hr, hm⟩ := Option.bind_eq_some_iff.1 hm
        exact ⟨_, hm, LawV.reads (.cons (.as h1) (.cons (.fn (.cons (.bp (.cons (.as h2) .nil)) .nil)) .nil)) (slices_IndexFunc_impl_Tac__impl_labelAt_1_law k c1 c2 r hr)⟩
      · cases hm
    · cases hg
  · intro g _ r; rfl
theorem f104_okimpl_labelAt : Try.prog.funcs[104]? = some Try.f104 := by kernel_rfl
theorem impl_labelAt_law (k : Nat) (a1 : List (Int × Int × Int × Int × Int × ByteArray × (List Int) × Unit)) (a2 : Int) (x : Int) (h : impl_labelAt k a1 a2 = some x) : LawV Try.prog 104 [.tv (.row (.pair (.int .i64) (.pair (.int .i64) (.pair (.int .i64) (.pair (.int .i64) (.pair (.int .i64) (.pair .str (.pair (.row (.int .i64)) .unit)))))))) a1, .int .i64 a2] (tvn (.int .i64) x) := by
  unfold impl_labelAt at h
  exact law1 (t := (.int .i64)) (tyTOk _ _) (E_impl_labelAt_calls k) mixOk f104_okimpl_labelAt (nameOk _ _ f104_okimpl_labelAt) (by kernel_rfl) h
/-! impl.ends -/
noncomputable def E_impl_ends (k : Nat) : Env := ⟨ty, fun _ => none, fun _ _ => none⟩
noncomputable def impl_ends (k : Nat) (a1 : Int) : Option (Bool) :=
  abody (E_impl_ends k) (arun Try.prog (E_impl_ends k) k) k 74 Try.f74 [.int .i64 a1] [] (fin1 .bool)
theorem impl_ends_e (k : Nat) (a1 : Int) : impl_ends k a1 =
  iteB (!(a1 == 12)) (iteB (!(a1 == 9)) (some (a1 == 28)) (some true)) (some true) := by kernel_rfl
theorem E_impl_ends_calls (k : Nat) : CallsOk Try.prog (E_impl_ends k) (arun Try.prog (E_impl_ends k) k) := by
  refine told_run (tyTOk _ _) ?_ (fun run h => regOk (tyTOk _ _) mixOk h) ?_ nameOk k
  · intro g m hg
    cases hg
  · intro g _ r; rfl
theorem f74_okimpl_ends : Try.prog.funcs[74]? = some Try.f74 := by kernel_rfl
theorem impl_ends_law (k : Nat) (a1 : Int) (x : Bool) (h : impl_ends k a1 = some x) : LawV Try.prog 74 [.int .i64 a1] (tvn .bool x) := by
  unfold impl_ends at h
  exact law1 (t := .bool) (tyTOk _ _) (E_impl_ends_calls k) mixOk f74_okimpl_ends (nameOk _ _ f74_okimpl_ends) (by kernel_rfl) h
end Go.Proofs.Ytampamlgkfhliaa.XFnExactNext
