/- Functions of the program as runs of the interpreter: equations, and a law for each. -/
import Derived.Test.YtapijpjgfpjahaaProg
import Derived.Test.YtapijpjgfpjahaaChecked
import Derived.KernelRfl
import Derived.Eval
import Derived.Test.YtapijpjgfpjahaaATyOk
import Derived.Test.YtapijpjgfpjahaaAS33
import Derived.Test.YtapijpjgfpjahaaAMFnExactUnitsOk0
import Derived.Test.YtapijpjgfpjahaaAMFnExactUnitsOk1
open Go Go.AM Go.AMx Go.Proofs
namespace Go.Proofs.Ytapijpjgfpjahaa.XFnExactUnitsOk
set_option linter.unusedVariables false
set_option linter.unusedSimpArgs false
/-! spec.l10Place -/
noncomputable def E_spec_l10Place (k : Nat) : Env := ⟨ty, fun g => match g with
  | 156 => some (byVal fun ρ l K => match l with
    | [b1] => (b1.as (.int .i64)).bind fun c1 => (spec_l10Has k c1).bind fun r => K (tvn (.int .i64) r)
    | _ => none)
  | 69 => some (byVal fun ρ l K => match l with
    | [b1, b2, b3] => (b1.as (.int .i64)).bind fun c1 => (b2.as (.int .i64)).bind fun c2 => (b3.as (.int .i64)).bind fun c3 => (spec_l1In k c1 c2 c3).bind fun r => K (tvn .bool r)
    | _ => none)
  | 157 => some (byVal fun ρ l K => match l with
    | [b1] => (b1.as (.pair (.int .i64) (.pair (.int .i64) (.pair (.int .i64) (.pair (.int .i64) (.pair (.int .i64) (.pair .str (.pair (.row (.int .i64)) .unit)))))))).bind fun c1 => (spec_l10Args k c1).bind fun r => K (tvn .bool r)
    | _ => none)
  | 158 => some (byVal fun ρ l K => match l with
    | [b1, b2] => (b1.as (.pair (.int .i64) (.pair (.int .i64) (.pair (.int .i64) (.pair (.int .i64) (.pair (.int .i64) (.pair .str (.pair (.row (.int .i64)) .unit)))))))).bind fun c1 => (b2.as (.int .i64)).bind fun c2 => (spec_l10Regs k c1 c2).bind fun r => K (tvn .bool r)
    | _ => none)
  | 71 => some (byVal fun ρ l K => match l with
    | [b1] => (b1.as (.int .i64)).bind fun c1 => (spec_WordOk k c1).bind fun r => K (tvn .bool r)
    | _ => none)
  | 94 => some noCon
  | _ => none, fun f r => match f with | 94 => (match r with | 4 => some [2, 5] | 6 => some [2, 5] | _ => none) | _ => none⟩
noncomputable def spec_l10Place (k : Nat) (a1 : Int × Int × Int × Int × Int × ByteArray × (List Int) × Unit) (a2 : Int) : Option (Bool) :=
  abody (E_spec_l10Place k) (arun Try.prog (E_spec_l10Place k) k) k 94 Try.f94 [.tv (.pair (.int .i64) (.pair (.int .i64) (.pair (.int .i64) (.pair (.int .i64) (.pair (.int .i64) (.pair .str (.pair (.row (.int .i64)) .unit))))))) a1, .int .i64 a2] [] (fin1 .bool)
noncomputable def spec_l10Place.j4 (k : Nat) (x5 : Int) (y0_0 : Int × Int × Int × Int × Int × ByteArray × (List Int) × Unit) : Option (Bool) :=
  resume (E_spec_l10Place k) 94 (acall (E_spec_l10Place k) (arun Try.prog (E_spec_l10Place k) k)) k [true, true, true] [] (bodyOf Try.f94) ⟨[.undef, .undef, .ptr 0 0 0, .undef, .undef, .int .i64 x5, .undef, .undef, .undef, .undef, .undef, .undef, .undef, .undef, .undef, .undef, .undef, .undef, .undef, .undef, .undef, .undef, .undef, .undef, .undef, .undef, .undef, .undef, .undef, .undef, .undef, .undef, .undef, .undef, .undef, .undef, .undef, .undef, .undef, .undef, .undef, .undef, .undef, .undef, .undef, .undef, .undef, .undef, .undef, .undef, .undef, .undef, .undef, .undef, .undef, .undef, .undef, .undef, .undef, .undef, .undef, .undef, .undef, .undef, .undef, .undef, .undef, .undef, .undef, .undef, .undef, .undef, .undef, .undef, .undef, .undef, .undef, .undef, .undef, .undef, .undef, .undef, .undef, .undef, .undef, .undef, .undef], [some ⟨.raw true 7 (.agg [.int .i64 0, .int .i64 0, .int .i64 0, .int .i64 0, .int .i64 0, .str ByteArray.empty, .nils]) [.tv (.pair (.int .i64) (.pair (.int .i64) (.pair (.int .i64) (.pair (.int .i64) (.pair (.int .i64) (.pair .str (.pair (.row (.int .i64)) .unit))))))) y0_0], true⟩]⟩ (leave (E_spec_l10Place k) Try.f94 (fin1 .bool))
noncomputable def spec_l10Place.j6 (k : Nat) (x5 : Int) (y0_0 : Int × Int × Int × Int × Int × ByteArray × (List Int) × Unit) : Option (Bool) :=
  resume (E_spec_l10Place k) 94 (acall (E_spec_l10Place k) (arun Try.prog (E_spec_l10Place k) k)) k [true, true, true, true] [] (bodyOf Try.f94) ⟨[.undef, .undef, .ptr 0 0 0, .undef, .undef, .int .i64 x5, .undef, .undef, .undef, .undef, .undef, .undef, .undef, .undef, .undef, .undef, .undef, .undef, .undef, .undef, .undef, .undef, .undef, .undef, .undef, .undef, .undef, .undef, .undef, .undef, .undef, .undef, .undef, .undef, .undef, .undef, .undef, .undef, .undef, .undef, .undef, .undef, .undef, .undef, .undef, .undef, .undef, .undef, .undef, .undef, .undef, .undef, .undef, .undef, .undef, .undef, .undef, .undef, .undef, .undef, .undef, .undef, .undef, .undef, .undef, .undef, .undef, .undef, .undef, .undef, .undef, .undef, .undef, .undef, .undef, .undef, .undef, .undef, .undef, .undef, .undef, .undef, .undef, .undef, .undef, .undef, .undef], [some ⟨.raw true 7 (.agg [.int .i64 0, .int .i64 0, .int .i64 0, .int .i64 0, .int .i64 0, .str ByteArray.empty, .nils]) [.tv (.pair (.int .i64) (.pair (.int .i64) (.pair (.int .i64) (.pair (.int .i64) (.pair (.int .i64) (.pair .str (.pair (.row (.int .i64)) .unit))))))) y0_0], true⟩]⟩ (leave (E_spec_l10Place k) Try.f94 (fin1 .bool))
theorem spec_l10Place.j4_e (k : Nat) (x5 : Int) (y0_0 : Int × Int × Int × Int × Int × ByteArray × (List Int) × Unit) : spec_l10Place.j4 k x5 y0_0 =
  iteB (y0_0.1 == 19) (bindO (spec_l1In k y0_0.2.2.2.2.1 0 1) fun r5 => (iteB (!(!r5)) (bindO (spec_WordOk k y0_0.2.2.2.2.1) fun r6 => (iteB (!r6) (some false) (gate k (spec_l10Place.j6 k x5 y0_0)))) (some false))) (bindO (spec_WordOk k y0_0.2.2.2.2.1) fun r7 => (iteB (!r7) (some false) (gate k (spec_l10Place.j6 k x5 y0_0)))) := by kernel_rfl
theorem spec_l10Place.j6_e (k : Nat) (x5 : Int) (y0_0 : Int × Int × Int × Int × Int × ByteArray × (List Int) × Unit) : spec_l10Place.j6 k x5 y0_0 =
  iteB (!((IntKind.wrap .i64 ((BitVec.ofInt (IntKind.bits .i64) x5 &&& BitVec.ofInt (IntKind.bits .i64) 1).toNat : Int)) != 0)) (iteB (y0_0.2.1 == 0) (iteB (!((IntKind.wrap .i64 ((BitVec.ofInt (IntKind.bits .i64) x5 &&& BitVec.ofInt (IntKind.bits .i64) 2).toNat : Int)) != 0)) (iteB (y0_0.2.2.1 == 0) (iteB (!((IntKind.wrap .i64 ((BitVec.ofInt (IntKind.bits .i64) x5 &&& BitVec.ofInt (IntKind.bits .i64) 4).toNat : Int)) != 0)) (iteB (y0_0.2.2.2.1 == 0) (iteB (!((IntKind.wrap .i64 ((BitVec.ofInt (IntKind.bits .i64) x5 &&& BitVec.ofInt (IntKind.bits .i64) 8).toNat : Int)) != 0)) (iteB (y0_0.2.2.2.2.1 == 0) (iteB (!((IntKind.wrap .i64 ((BitVec.ofInt (IntKind.bits .i64) x5 &&& BitVec.ofInt (IntKind.bits .i64) 16).toNat : Int)) != 0)) (some (ByteArray.toList y0_0.2.2.2.2.2.1 == ByteArray.toList (⟨#[]⟩ : ByteArray))) (some true)) (some false)) (iteB (!((IntKind.wrap .i64 ((BitVec.ofInt (IntKind.bits .i64) x5 &&& BitVec.ofInt (IntKind.bits .i64) 16).toNat : Int)) != 0)) (some (ByteArray.toList y0_0.2.2.2.2.2.1 == ByteArray.toList (⟨#[]⟩ : ByteArray))) (some true))) (some false)) (iteB (!((IntKind.wrap .i64 ((BitVec.ofInt (IntKind.bits .i64) x5 &&& BitVec.ofInt (IntKind.bits .i64) 8).toNat : Int)) != 0)) (iteB (y0_0.2.2.2.2.1 == 0) (iteB (!((IntKind.wrap .i64 ((BitVec.ofInt (IntKind.bits .i64) x5 &&& BitVec.ofInt (IntKind.bits .i64) 16).toNat : Int)) != 0)) (some (ByteArray.toList y0_0.2.2.2.2.2.1 == ByteArray.toList (⟨#[]⟩ : ByteArray))) (some true)) (some false)) (iteB (!((IntKind.wrap .i64 ((BitVec.ofInt (IntKind.bits .i64) x5 &&& BitVec.ofInt (IntKind.bits .i64) 16).toNat : Int)) != 0)) (some (ByteArray.toList y0_0.2.2.2.2.2.1 == ByteArray.toList (⟨#[]⟩ : ByteArray))) (some true)))) (some false)) (iteB (!((IntKind.wrap .i64 ((BitVec.ofInt (IntKind.bits .i64) x5 &&& BitVec.ofInt (IntKind.bits .i64) 4).toNat : Int)) != 0)) (iteB (y0_0.2.2.2.1 == 0) (iteB (!((IntKind.wrap .i64 ((BitVec.ofInt (IntKind.bits .i64) x5 &&& BitVec.ofInt (IntKind.bits .i64) 8).toNat : Int)) != 0)) (iteB (y0_0.2.2.2.2.1 == 0) (iteB (!((IntKind.wrap .i64 ((BitVec.ofInt (IntKind.bits .i64) x5 &&& BitVec.ofInt (IntKind.bits .i64) 16).toNat : Int)) != 0)) (some (ByteArray.toList y0_0.2.2.2.2.2.1 == ByteArray.toList (⟨#[]⟩ : ByteArray))) (some true)) (some false)) (iteB (!((IntKind.wrap .i64 ((BitVec.ofInt (IntKind.bits .i64) x5 &&& BitVec.ofInt (IntKind.bits .i64) 16).toNat : Int)) != 0)) (some (ByteArray.toList y0_0.2.2.2.2.2.1 == ByteArray.toList (⟨#[]⟩ : ByteArray))) (some true))) (some false)) (iteB (!((IntKind.wrap .i64 ((BitVec.ofInt (IntKind.bits .i64) x5 &&& BitVec.ofInt (IntKind.bits .i64) 8).toNat : Int)) != 0)) (iteB (y0_0.2.2.2.2.1 == 0) (iteB (!((IntKind.wrap .i64 ((BitVec.ofInt (IntKind.bits .i64) x5 &&& BitVec.ofInt (IntKind.bits .i64) 16).toNat : Int)) != 0)) (some (ByteArray.toList y0_0.2.2.2.2.2.1 == ByteArray.toList (⟨#[]⟩ : ByteArray))) (some true)) (some false)) (iteB (!((IntKind.wrap .i64 ((BitVec.ofInt (IntKind.bits .i64) x5 &&& BitVec.ofInt (IntKind.bits .i64) 16).toNat : Int)) != 0)) (some (ByteArray.toList y0_0.2.2.2.2.2.1 == ByteArray.toList (⟨#[]⟩ : ByteArray))) (some true))))) (some false)) (iteB (!((IntKind.wrap .i64 ((BitVec.ofInt (IntKind.bits .i64) x5 &&& BitVec.ofInt (IntKind.bits .i64) 2).toNat : Int)) != 0)) (iteB (y0_0.2.2.1 == 0) (iteB (!((IntKind.wrap .i64 ((BitVec.ofInt (IntKind.bits .i64) x5 &&& BitVec.ofInt (IntKind.bits .i64) 4).toNat : Int)) != 0)) (iteB (y0_0.2.2.2.1 == 0) (iteB (!((IntKind.wrap .i64 ((BitVec.ofInt (IntKind.bits .i64) x5 &&& BitVec.ofInt (IntKind.bits .i64) 8).toNat : Int)) != 0)) (iteB (y0_0.2.2.2.2.1 == 0) (iteB (!((IntKind.wrap .i64 ((BitVec.ofInt (IntKind.bits .i64) x5 &&& BitVec.ofInt (IntKind.bits .i64) 16).toNat : Int)) != 0)) (some (ByteArray.toList y0_0.2.2.2.2.2.1 == ByteArray.toList (⟨#[]⟩ : ByteArray))) (some true)) (some false)) (iteB (!((IntKind.wrap .i64 ((BitVec.ofInt (IntKind.bits .i64) x5 &&& BitVec.ofInt (IntKind.bits .i64) 16).toNat : Int)) != 0)) (some (ByteArray.toList y0_0.2.2.2.2.2.1 == ByteArray.toList (⟨#[]⟩ : ByteArray))) (some true))) (some false)) (iteB (!((IntKind.wrap .i64 ((BitVec.ofInt (IntKind.bits .i64) x5 &&& BitVec.ofInt (IntKind.bits .i64) 8).toNat : Int)) != 0)) (iteB (y0_0.2.2.2.2.1 == 0) (iteB (!((IntKind.wrap .i64 ((BitVec.ofInt (IntKind.bits .i64) x5 &&& BitVec.ofInt (IntKind.bits .i64) 16).toNat : Int)) != 0)) (some (ByteArray.toList y0_0.2.2.2.2.2.1 == ByteArray.toList (⟨#[]⟩ : ByteArray))) (some true)) (some false)) (iteB (!((IntKind.wrap .i64 ((BitVec.ofInt (IntKind.bits .i64) x5 &&& BitVec.ofInt (IntKind.bits .i64) 16).toNat : Int)) != 0)) (some (ByteArray.toList y0_0.2.2.2.2.2.1 == ByteArray.toList (⟨#[]⟩ : ByteArray))) (some true)))) (some false)) (iteB (!((IntKind.wrap .i64 ((BitVec.ofInt (IntKind.bits .i64) x5 &&& BitVec.ofInt (IntKind.bits .i64) 4).toNat : Int)) != 0)) (iteB (y0_0.2.2.2.1 == 0) (iteB (!((IntKind.wrap .i64 ((BitVec.ofInt (IntKind.bits .i64) x5 &&& BitVec.ofInt (IntKind.bits .i64) 8).toNat : Int)) != 0)) (iteB (y0_0.2.2.2.2.1 == 0) (iteB (!((IntKind.wrap .i64 ((BitVec.ofInt (IntKind.bits .i64) x5 &&& BitVec.ofInt (IntKind.bits .i64) 16).toNat : Int)) != 0)) (some (ByteArray.toList y0_0.2.2.2.2.2.1 == ByteArray.toList (⟨#[]⟩ : ByteArray))) (some true)) (some false)) (iteB (!((IntKind.wrap .i64 ((BitVec.ofInt (IntKind.bits .i64) x5 &&& BitVec.ofInt (IntKind.bits .i64) 16).toNat : Int)) != 0)) (some (ByteArray.toList y0_0.2.2.2.2.2.1 == ByteArray.toList (⟨#[]⟩ : ByteArray))) (some true))) (some false)) (iteB (!((IntKind.wrap .i64 ((BitVec.ofInt (IntKind.bits .i64) x5 &&& BitVec.ofInt (IntKind.bits .i64) 8).toNat : Int)) != 0)) (iteB (y0_0.2.2.2.2.1 == 0) (iteB (!((IntKind.wrap .i64 ((BitVec.ofInt (IntKind.bits .i64) x5 &&& BitVec.ofInt (IntKind.bits .i64) 16).toNat : Int)) != 0)) (some (ByteArray.toList y0_0.2.2.2.2.2.1 == ByteArray.toList (⟨#[]⟩ : ByteArray))) (some true)) (some false)) (iteB (!((IntKind.wrap .i64 ((BitVec.ofInt (IntKind.bits .i64) x5 &&& BitVec.ofInt (IntKind.bits .i64) 16).toNat : Int)) != 0)) (some (ByteArray.toList y0_0.2.2.2.2.2.1 == ByteArray.toList (⟨#[]⟩ : ByteArray))) (some true))))) := by kernel_rfl
theorem spec_l10Place_e (k : Nat) (a1 : Int × Int × Int × Int × Int × ByteArray × (List Int) × Unit) (a2 : Int) : spec_l10Place k a1 a2 =
  bindO (spec_l10Has k a1.1) fun r1 => (bindO (spec_l1In k a1.1 1 28) fun r2 => (iteB (!(!r2)) (bindO (spec_l10Args k a1) fun r3 => (iteB (!(!r3)) (bindO (spec_l10Regs k a1 a2) fun r4 => (iteB (!r4) (some false) (gate k (spec_l10Place.j4 k r1 a1)))) (some false))) (some false))) := by kernel_rfl
theorem E_spec_l10Place_calls (k : Nat) : CallsOk Try.prog (E_spec_l10Place k) (arun Try.prog (E_spec_l10Place k) k) := by
  refine told_run (tyTOk _ _) ?_ (fun run h => regOk (tyTOk _ _) mixOk h) ?_ nameOk k
  · intro g m hg
    simp only [E_spec_l10Place] at hg
    split at hg
    · cases hg
      refine con_byVal fun ρ l K x hm => ?_
      split at hm
      · obtain ⟨c1, h1, hm⟩ := Option.bind_eq_some_iff.1 hm
        obtain ⟨r, hr, hm⟩ := Option.bind_eq_some_iff.1 hm
        exact ⟨_, hm, LawV.reads (.cons (.as h1) .nil) (spec_l10Has_law k c1 r hr)⟩
      · cases hm
    · cases hg
      refine con_byVal fun ρ l K x hm => ?_
      split at hm
      · obtain ⟨c1, h1, hm⟩ := Option.bind_eq_some_iff.1 hm
        obtain ⟨c2, h2, hm⟩ := Option.bind_eq_some_iff.1 hm
        obtain ⟨c3, h3, hm⟩ := Option.bind_eq_some_iff.1 hm
        obtain ⟨r, hr, hm⟩ := Option.bind_eq_some_iff.1 hm
        exact ⟨_, hm, LawV.reads (.cons (.as h1) (.cons (.as h2) (.cons (.as h3) .nil))) (spec_l1In_law k c1 c2 c3 r hr)⟩
      · cases hm
    · cases hg
      refine con_byVal fun ρ l K x hm => ?_
      split at hm
      · obtain ⟨c1, h1, hm⟩ := Option.bind_eq_some_iff.1 hm
        obtain ⟨r, hr, hm⟩ := Option.bind_eq_some_iff.1 hm
        exact ⟨_, hm, LawV.reads (.cons (.as h1) .nil) (spec_l10Args_law k c1 r hr)⟩
      · cases hm
    · cases hg
      refine con_byVal fun ρ l K x hm => ?_
      split at hm
      · obtain ⟨c1, h1, hm⟩ := Option.bind_eq_some_iff.1 hm
        obtain ⟨c2, h2, hm⟩ := Option.bind_eq_some_iff.1 hm
        obtain ⟨r, hr, hm⟩ := Option.bind_eq_some_iff.1 hm
        exact ⟨_, hm, LawV.reads (.cons (.as h1) (.cons (.as h2) .nil)) (spec_l10Regs_law k c1 c2 r hr)⟩
      · cases hm
    · cases hg
      refine con_byVal fun ρ l K x hm => ?_
      split at hm
      · obtain ⟨c1, h1, hm⟩ := Option.bind_eq_some_iff.1 hm
        obtain ⟨r, hr, hm⟩ := Option.bind_eq_some_iff.1 hm
        exact ⟨_, hm, LawV.reads (.cons (.as h1) .nil) (spec_WordOk_law k c1 r hr)⟩
      · cases hm
    · cases hg; exact noCon_ok
    · cases hg
  · intro g hg r
    by_cases h : g = 94
    · subst h; simp [E_spec_l10Place] at hg
    · simp [E_spec_l10Place, h]
theorem f94_okspec_l10Place : Try.prog.funcs[94]? = some Try.f94 := by kernel_rfl
theorem spec_l10Place_law (k : Nat) (a1 : Int × Int × Int × Int × Int × ByteArray × (List Int) × Unit) (a2 : Int) (x : Bool) (h : spec_l10Place k a1 a2 = some x) : LawV Try.prog 94 [.tv (.pair (.int .i64) (.pair (.int .i64) (.pair (.int .i64) (.pair (.int .i64) (.pair (.int .i64) (.pair .str (.pair (.row (.int .i64)) .unit))))))) a1, .int .i64 a2] (tvn .bool x) := by
  unfold spec_l10Place at h
  exact law1 (t := .bool) (tyTOk _ _) (E_spec_l10Place_calls k) mixOk f94_okspec_l10Place (nameOk _ _ f94_okspec_l10Place) (by kernel_rfl) h
/-! spec.l10Label -/
noncomputable def E_spec_l10Label (k : Nat) : Env := ⟨ty, fun g => match g with
  | 95 => some noCon
  | _ => none, fun f r => match f with | 95 => (match r with | 2 => some [0, 1, 5] | _ => none) | _ => none⟩
noncomputable def spec_l10Label (k : Nat) (a1 : List (Int × Int × Int × Int × Int × ByteArray × (List Int) × Unit)) (a2 : Int) : Option (Int) :=
  abody (E_spec_l10Label k) (arun Try.prog (E_spec_l10Label k) k) k 95 Try.f95 [.tv (.row (.pair (.int .i64) (.pair (.int .i64) (.pair (.int .i64) (.pair (.int .i64) (.pair (.int .i64) (.pair .str (.pair (.row (.int .i64)) .unit)))))))) a1, .int .i64 a2] [] (fin1 (.int .i64))
noncomputable def spec_l10Label.l2 (k n : Nat) (x0 : List (Int × Int × Int × Int × Int × ByteArray × (List Int) × Unit)) (x1 : Int) (x5 : Int) : Option (Int) :=
  resume (E_spec_l10Label k) 95 (acall (E_spec_l10Label k) (arun Try.prog (E_spec_l10Label k) k)) k [true, false, true, true] [n] (bodyOf Try.f95) ⟨[.tv (.row (.pair (.int .i64) (.pair (.int .i64) (.pair (.int .i64) (.pair (.int .i64) (.pair (.int .i64) (.pair .str (.pair (.row (.int .i64)) .unit)))))))) x0, .int .i64 x1, .undef, .undef, .undef, .int .i64 x5, .undef, .undef, .undef, .undef, .undef, .undef, .undef, .undef, .undef, .undef, .undef, .undef, .undef, .undef, .undef, .undef, .undef, .undef, .undef, .undef, .undef, .undef], []⟩ (leave (E_spec_l10Label k) Try.f95 (fin1 (.int .i64)))
theorem spec_l10Label.l2_0 (k : Nat) (x0 : List (Int × Int × Int × Int × Int × ByteArray × (List Int) × Unit)) (x1 : Int) (x5 : Int) : spec_l10Label.l2 k 0 x0 x1 x5 = none := by kernel_rfl
theorem spec_l10Label.l2_s (k n : Nat) (x0 : List (Int × Int × Int × Int × Int × ByteArray × (List Int) × Unit)) (x1 : Int) (x5 : Int) : spec_l10Label.l2 k (n + 1) x0 x1 x5 =
  iteB (decide (x5 < ((List.length x0) : Int))) (iteB (decide (0 ≤ x5)) (iteB (decide (x5 < ((List.length x0) : Int))) (iteB (((List.getD x0 (Int.toNat x5) (Ty.dflt (.pair (.int .i64) (.pair (.int .i64) (.pair (.int .i64) (.pair (.int .i64) (.pair (.int .i64) (.pair .str (.pair (.row (.int .i64)) .unit))))))))).1) == 8) (iteB (decide (0 ≤ x5)) (iteB (decide (x5 < ((List.length x0) : Int))) (iteB (((((((List.getD x0 (Int.toNat x5) (Ty.dflt (.pair (.int .i64) (.pair (.int .i64) (.pair (.int .i64) (.pair (.int .i64) (.pair (.int .i64) (.pair .str (.pair (.row (.int .i64)) .unit))))))))).2).2).2).2).1) == x1) (some x5) (spec_l10Label.l2 k n x0 x1 (IntKind.wrap .i64 (x5 + 1)))) (none)) (none)) (spec_l10Label.l2 k n x0 x1 (IntKind.wrap .i64 (x5 + 1)))) (none)) (none)) (some (-1)) := by kernel_rfl
theorem spec_l10Label_e (k : Nat) (a1 : List (Int × Int × Int × Int × Int × ByteArray × (List Int) × Unit)) (a2 : Int) : spec_l10Label k a1 a2 =
  spec_l10Label.l2 k k a1 a2 0 := by kernel_rfl
theorem E_spec_l10Label_calls (k : Nat) : CallsOk Try.prog (E_spec_l10Label k) (arun Try.prog (E_spec_l10Label k) k) := by
  refine told_run (tyTOk _ _) ?_ (fun run h => regOk (tyTOk _ _) mixOk h) ?_ nameOk k
  · intro g m hg
    simp only [E_spec_l10Label] at hg
    split at hg
    · cases hg; exact noCon_ok
    · cases hg
  · intro g hg r
    by_cases h : g = 95
    · subst h; simp [E_spec_l10Label] at hg
    · simp [E_spec_l10Label, h]
theorem f95_okspec_l10Label : Try.prog.funcs[95]? = some Try.f95 := by kernel_rfl
theorem spec_l10Label_law (k : Nat) (a1 : List (Int × Int × Int × Int × Int × ByteArray × (List Int) × Unit)) (a2 : Int) (x : Int) (h : spec_l10Label k a1 a2 = some x) : LawV Try.prog 95 [.tv (.row (.pair (.int .i64) (.pair (.int .i64) (.pair (.int .i64) (.pair (.int .i64) (.pair (.int .i64) (.pair .str (.pair (.row (.int .i64)) .unit)))))))) a1, .int .i64 a2] (tvn (.int .i64) x) := by
  unfold spec_l10Label at h
  exact law1 (t := (.int .i64)) (tyTOk _ _) (E_spec_l10Label_calls k) mixOk f95_okspec_l10Label (nameOk _ _ f95_okspec_l10Label) (by kernel_rfl) h
/-! spec.UnitOk -/
noncomputable def E_spec_UnitOk (k : Nat) : Env := ⟨ty, fun g => match g with
  | 69 => some (byVal fun ρ l K => match l with
    | [b1, b2, b3] => (b1.as (.int .i64)).bind fun c1 => (b2.as (.int .i64)).bind fun c2 => (b3.as (.int .i64)).bind fun c3 => (spec_l1In k c1 c2 c3).bind fun r => K (tvn .bool r)
    | _ => none)
  | 93 => some (byVal fun ρ l K => match l with
    | [b1, b2] => (b1.as (.int .i64)).bind fun c1 => (b2.as (.int .i64)).bind fun c2 => (spec_l1Min k c1 c2).bind fun r => K (tvn (.int .i64) r)
    | _ => none)
  | 94 => some (byVal fun ρ l K => match l with
    | [b1, b2] => (b1.as (.pair (.int .i64) (.pair (.int .i64) (.pair (.int .i64) (.pair (.int .i64) (.pair (.int .i64) (.pair .str (.pair (.row (.int .i64)) .unit)))))))).bind fun c1 => (b2.as (.int .i64)).bind fun c2 => (spec_l10Place k c1 c2).bind fun r => K (tvn .bool r)
    | _ => none)
  | 95 => some (byVal fun ρ l K => match l with
    | [b1, b2] => (b1.as (.row (.pair (.int .i64) (.pair (.int .i64) (.pair (.int .i64) (.pair (.int .i64) (.pair (.int .i64) (.pair .str (.pair (.row (.int .i64)) .unit))))))))).bind fun c1 => (b2.as (.int .i64)).bind fun c2 => (spec_l10Label k c1 c2).bind fun r => K (tvn (.int .i64) r)
    | _ => none)
  | 18 => some noCon
  | _ => none, fun f r => match f with | 18 => (match r with | 4 => some [1, 3] | 5 => some [1, 3, 4] | _ => none) | _ => none⟩
noncomputable def spec_UnitOk (k : Nat) (a1 : ByteArray × Int × Int × (List (Int × Int × Int × Int × Int × ByteArray × (List Int) × Unit)) × Unit) : Option (Bool) :=
  abody (E_spec_UnitOk k) (arun Try.prog (E_spec_UnitOk k) k) k 18 Try.f18 [.tv (.pair .str (.pair (.int .i64) (.pair (.int .i64) (.pair (.row (.pair (.int .i64) (.pair (.int .i64) (.pair (.int .i64) (.pair (.int .i64) (.pair (.int .i64) (.pair .str (.pair (.row (.int .i64)) .unit)))))))) .unit)))) a1] [] (fin1 .bool)
noncomputable def spec_UnitOk.j4 (k : Nat) (x3 : Int) (y0_0 : ByteArray × Int × Int × (List (Int × Int × Int × Int × Int × ByteArray × (List Int) × Unit)) × Unit) : Option (Bool) :=
  resume (E_spec_UnitOk k) 18 (acall (E_spec_UnitOk k) (arun Try.prog (E_spec_UnitOk k) k)) k [true, true, true] [] (bodyOf Try.f18) ⟨[.undef, .ptr 0 0 0, .undef, .int .i64 x3, .undef, .undef, .undef, .undef, .undef, .undef, .undef, .undef, .undef, .undef, .undef, .undef, .undef, .undef, .undef, .undef, .undef, .undef, .undef, .undef, .undef, .undef, .undef, .undef, .undef, .undef, .undef, .undef, .undef, .undef, .undef, .undef, .undef, .undef, .undef, .undef, .undef, .undef, .undef, .undef, .undef, .undef, .undef, .undef, .undef, .undef, .undef, .undef, .undef, .undef, .undef, .undef, .undef, .undef, .undef, .undef, .undef, .undef, .undef, .undef, .undef, .undef, .undef, .undef, .undef, .undef, .undef, .undef, .undef, .undef, .undef, .undef, .undef, .undef, .undef, .undef, .undef, .undef, .undef, .undef, .undef, .undef, .undef, .undef, .undef, .undef, .undef, .undef, .undef, .undef], [some ⟨.raw true 4 (.agg [.str ByteArray.empty, .int .i64 0, .int .i64 0, .nils]) [.tv (.pair .str (.pair (.int .i64) (.pair (.int .i64) (.pair (.row (.pair (.int .i64) (.pair (.int .i64) (.pair (.int .i64) (.pair (.int .i64) (.pair (.int .i64) (.pair .str (.pair (.row (.int .i64)) .unit)))))))) .unit)))) y0_0], true⟩]⟩ (leave (E_spec_UnitOk k) Try.f18 (fin1 .bool))
noncomputable def spec_UnitOk.l5 (k n : Nat) (x3 : Int) (x4 : Int) (y0_0 : ByteArray × Int × Int × (List (Int × Int × Int × Int × Int × ByteArray × (List Int) × Unit)) × Unit) : Option (Bool) :=
  resume (E_spec_UnitOk k) 18 (acall (E_spec_UnitOk k) (arun Try.prog (E_spec_UnitOk k) k)) k [true, true, true, false, true, true] [n] (bodyOf Try.f18) ⟨[.undef, .ptr 0 0 0, .undef, .int .i64 x3, .int .i64 x4, .undef, .undef, .undef, .undef, .undef, .undef, .undef, .undef, .undef, .undef, .undef, .undef, .undef, .undef, .undef, .undef, .undef, .undef, .undef, .undef, .undef, .undef, .undef, .undef, .undef, .undef, .undef, .undef, .undef, .undef, .undef, .undef, .undef, .undef, .undef, .undef, .undef, .undef, .undef, .undef, .undef, .undef, .undef, .undef, .undef, .undef, .undef, .undef, .undef, .undef, .undef, .undef, .undef, .undef, .undef, .undef, .undef, .undef, .undef, .undef, .undef, .undef, .undef, .undef, .undef, .undef, .undef, .undef, .undef, .undef, .undef, .undef, .undef, .undef, .undef, .undef, .undef, .undef, .undef, .undef, .undef, .undef, .undef, .undef, .undef, .undef, .undef, .undef, .undef], [some ⟨.raw true 4 (.agg [.str ByteArray.empty, .int .i64 0, .int .i64 0, .nils]) [.tv (.pair .str (.pair (.int .i64) (.pair (.int .i64) (.pair (.row (.pair (.int .i64) (.pair (.int .i64) (.pair (.int .i64) (.pair (.int .i64) (.pair (.int .i64) (.pair .str (.pair (.row (.int .i64)) .unit)))))))) .unit)))) y0_0], true⟩]⟩ (leave (E_spec_UnitOk k) Try.f18 (fin1 .bool))
theorem spec_UnitOk.j4_e (k : Nat) (x3 : Int) (y0_0 : ByteArray × Int × Int × (List (Int × Int × Int × Int × Int × ByteArray × (List Int) × Unit)) × Unit) : spec_UnitOk.j4 k x3 y0_0 =
  spec_UnitOk.l5 k k x3 0 y0_0 := by kernel_rfl
theorem spec_UnitOk.l5_0 (k : Nat) (x3 : Int) (x4 : Int) (y0_0 : ByteArray × Int × Int × (List (Int × Int × Int × Int × Int × ByteArray × (List Int) × Unit)) × Unit) : spec_UnitOk.l5 k 0 x3 x4 y0_0 = none := by kernel_rfl
theorem spec_UnitOk.l5_s (k n : Nat) (x3 : Int) (x4 : Int) (y0_0 : ByteArray × Int × Int × (List (Int × Int × Int × Int × Int × ByteArray × (List Int) × Unit)) × Unit) : spec_UnitOk.l5 k (n + 1) x3 x4 y0_0 =
  iteB (decide (x4 < x3)) (iteB (decide (0 ≤ x4)) (iteB (decide (x4 < ((List.length y0_0.2.2.2.1) : Int))) (bindO (spec_l10Place k (List.getD y0_0.2.2.2.1 (Int.toNat x4) (Ty.dflt (.pair (.int .i64) (.pair (.int .i64) (.pair (.int .i64) (.pair (.int .i64) (.pair (.int .i64) (.pair .str (.pair (.row (.int .i64)) .unit))))))))) y0_0.2.2.1) fun r5 => (iteB (!r5) (some false) (bindO (spec_l10Label k y0_0.2.2.2.1 ((((((List.getD y0_0.2.2.2.1 (Int.toNat x4) (Ty.dflt (.pair (.int .i64) (.pair (.int .i64) (.pair (.int .i64) (.pair (.int .i64) (.pair (.int .i64) (.pair .str (.pair (.row (.int .i64)) .unit))))))))).2).2).2).2).1)) fun r6 => (iteB (((List.getD y0_0.2.2.2.1 (Int.toNat x4) (Ty.dflt (.pair (.int .i64) (.pair (.int .i64) (.pair (.int .i64) (.pair (.int .i64) (.pair (.int .i64) (.pair .str (.pair (.row (.int .i64)) .unit))))))))).1) == 8) (iteB (!(r6 != x4)) (bindO (spec_l1In k ((((((List.getD y0_0.2.2.2.1 (Int.toNat x4) (Ty.dflt (.pair (.int .i64) (.pair (.int .i64) (.pair (.int .i64) (.pair (.int .i64) (.pair (.int .i64) (.pair .str (.pair (.row (.int .i64)) .unit))))))))).2).2).2).2).1) 0 900) fun r7 => (iteB (!(!r7)) (iteB (!(((List.getD y0_0.2.2.2.1 (Int.toNat x4) (Ty.dflt (.pair (.int .i64) (.pair (.int .i64) (.pair (.int .i64) (.pair (.int .i64) (.pair (.int .i64) (.pair .str (.pair (.row (.int .i64)) .unit))))))))).1) == 9)) (iteB (((List.getD y0_0.2.2.2.1 (Int.toNat x4) (Ty.dflt (.pair (.int .i64) (.pair (.int .i64) (.pair (.int .i64) (.pair (.int .i64) (.pair (.int .i64) (.pair .str (.pair (.row (.int .i64)) .unit))))))))).1) == 10) (iteB (decide (r6 < 0)) (some false) (spec_UnitOk.l5 k n x3 (IntKind.wrap .i64 (x4 + 1)) y0_0)) (spec_UnitOk.l5 k n x3 (IntKind.wrap .i64 (x4 + 1)) y0_0)) (iteB (decide (r6 < 0)) (some false) (spec_UnitOk.l5 k n x3 (IntKind.wrap .i64 (x4 + 1)) y0_0))) (some false))) (some false)) (iteB (!(((List.getD y0_0.2.2.2.1 (Int.toNat x4) (Ty.dflt (.pair (.int .i64) (.pair (.int .i64) (.pair (.int .i64) (.pair (.int .i64) (.pair (.int .i64) (.pair .str (.pair (.row (.int .i64)) .unit))))))))).1) == 9)) (iteB (((List.getD y0_0.2.2.2.1 (Int.toNat x4) (Ty.dflt (.pair (.int .i64) (.pair (.int .i64) (.pair (.int .i64) (.pair (.int .i64) (.pair (.int .i64) (.pair .str (.pair (.row (.int .i64)) .unit))))))))).1) == 10) (iteB (decide (r6 < 0)) (some false) (spec_UnitOk.l5 k n x3 (IntKind.wrap .i64 (x4 + 1)) y0_0)) (spec_UnitOk.l5 k n x3 (IntKind.wrap .i64 (x4 + 1)) y0_0)) (iteB (decide (r6 < 0)) (some false) (spec_UnitOk.l5 k n x3 (IntKind.wrap .i64 (x4 + 1)) y0_0))))))) (none)) (none)) (iteB (decide (0 ≤ IntKind.wrap .i64 (x3 - 1))) (iteB (decide (IntKind.wrap .i64 (x3 - 1) < ((List.length y0_0.2.2.2.1) : Int))) (iteB (!(((List.getD y0_0.2.2.2.1 (Int.toNat (IntKind.wrap .i64 (x3 - 1))) (Ty.dflt (.pair (.int .i64) (.pair (.int .i64) (.pair (.int .i64) (.pair (.int .i64) (.pair (.int .i64) (.pair .str (.pair (.row (.int .i64)) .unit))))))))).1) == 12)) (iteB (!(((List.getD y0_0.2.2.2.1 (Int.toNat (IntKind.wrap .i64 (x3 - 1))) (Ty.dflt (.pair (.int .i64) (.pair (.int .i64) (.pair (.int .i64) (.pair (.int .i64) (.pair (.int .i64) (.pair .str (.pair (.row (.int .i64)) .unit))))))))).1) == 9)) (some (((List.getD y0_0.2.2.2.1 (Int.toNat (IntKind.wrap .i64 (x3 - 1))) (Ty.dflt (.pair (.int .i64) (.pair (.int .i64) (.pair (.int .i64) (.pair (.int .i64) (.pair (.int .i64) (.pair .str (.pair (.row (.int .i64)) .unit))))))))).1) == 28)) (some true)) (some true)) (none)) (none)) := by kernel_rfl
theorem spec_UnitOk_e (k : Nat) (a1 : ByteArray × Int × Int × (List (Int × Int × Int × Int × Int × ByteArray × (List Int) × Unit)) × Unit) : spec_UnitOk k a1 =
  bindO (spec_l1In k a1.2.2.1 0 250) fun r1 => (iteB (!(!r1)) (bindO (spec_l1Min k 4 a1.2.2.1) fun r2 => (bindO (spec_l1In k a1.2.1 0 r2) fun r3 => (iteB (!(!r3)) (bindO (spec_l1In k ((List.length a1.2.2.2.1) : Int) 1 900) fun r4 => (iteB (!r4) (some false) (gate k (spec_UnitOk.j4 k ((List.length a1.2.2.2.1) : Int) a1)))) (some false)))) (some false)) := by kernel_rfl
theorem E_spec_UnitOk_calls (k : Nat) : CallsOk Try.prog (E_spec_UnitOk k) (arun Try.prog (E_spec_UnitOk k) k) := by
  refine told_run (tyTOk _ _) ?_ (fun run h => regOk (tyTOk _ _) mixOk h) ?_ nameOk k
  · intro g m hg
    simp only [E_spec_UnitOk] at hg
    split at hg
    · cases hg
      refine con_byVal fun ρ l K x hm => ?_
      split at hm
      · obtain ⟨c1, h1, hm⟩ := Option.bind_eq_some_iff.1 hm
        obtain ⟨c2, h2, hm⟩ := Option.bind_eq_some_iff.1 hm
        obtain ⟨c3, h3, hm⟩ := Option.bind_eq_some_iff.1 hm
        obtain ⟨r, hr, hm⟩ := Option.bind_eq_some_iff.1 hm
        exact ⟨_, hm, LawV.reads (.cons (.as h1) (.cons (.as h2) (.cons (.as h3) .nil))) (spec_l1In_law k c1 c2 c3 r hr)⟩
      · cases hm
    · cases hg
      refine con_byVal fun ρ l K x hm => ?_
      split at hm
      · obtain ⟨c1, h1, hm⟩ := Option.bind_eq_some_iff.1 hm
        obtain ⟨c2, h2, hm⟩ := Option.bind_eq_some_iff.1 hm
        obtain ⟨r, hr, hm⟩ := Option.bind_eq_some_iff.1 hm
        exact ⟨_, hm, LawV.reads (.cons (.as h1) (.cons (.as h2) .nil)) (spec_l1Min_law k c1 c2 r hr)⟩
      · cases hm
    · cases hg
      refine con_byVal fun ρ l K x hm => ?_
      split at hm
      · obtain ⟨c1, h1, hm⟩ := Option.bind_eq_some_iff.1 hm
        obtain ⟨c2, h2, hm⟩ := Option.bind_eq_some_iff.1 hm
        obtain ⟨r, hr, hm⟩ := Option.bind_eq_some_iff.1 hm
        exact ⟨_, hm, LawV.reads (.cons (.as h1) (.cons (.as h2) .nil)) (spec_l10Place_law k c1 c2 r hr)⟩
      · cases hm
    · cases hg
      refine con_byVal fun ρ l K x hm => ?_
      split at hm
      · obtain ⟨c1, h1, hm⟩ := Option.bind_eq_some_iff.1 hm
        obtain ⟨c2, h2, hm⟩ := Option.bind_eq_some_iff.1 hm
        obtain ⟨r, hr, hm⟩ := Option.bind_eq_some_iff.1 hm
        exact ⟨_, hm, LawV.reads (.cons (.as h1) (.cons (.as h2) .nil)) (spec_l10Label_law k c1 c2 r hr)⟩
      · cases hm
    · cases hg; exact noCon_ok
    · cases hg
  · intro g hg r
    by_cases h : g = 18
    · subst h; simp [E_spec_UnitOk] at hg
    · simp [E_spec_UnitOk, h]
theorem f18_okspec_UnitOk : Try.prog.funcs[18]? = some Try.f18 := by kernel_rfl
theorem spec_UnitOk_law (k : Nat) (a1 : ByteArray × Int × Int × (List (Int × Int × Int × Int × Int × ByteArray × (List Int) × Unit)) × Unit) (x : Bool) (h : spec_UnitOk k a1 = some x) : LawV Try.prog 18 [.tv (.pair .str (.pair (.int .i64) (.pair (.int .i64) (.pair (.row (.pair (.int .i64) (.pair (.int .i64) (.pair (.int .i64) (.pair (.int .i64) (.pair (.int .i64) (.pair .str (.pair (.row (.int .i64)) .unit)))))))) .unit)))) a1] (tvn .bool x) := by
  unfold spec_UnitOk at h
  exact law1 (t := .bool) (tyTOk _ _) (E_spec_UnitOk_calls k) mixOk f18_okspec_UnitOk (nameOk _ _ f18_okspec_UnitOk) (by kernel_rfl) h
/-! spec.l10Unit -/
noncomputable def E_spec_l10Unit (k : Nat) : Env := ⟨ty, fun g => match g with
  | 101 => some noCon
  | _ => none, fun f r => match f with | 101 => (match r with | 2 => some [0, 1, 5] | _ => none) | _ => none⟩
noncomputable def spec_l10Unit (k : Nat) (a1 : List (ByteArray × Int × Int × (List (Int × Int × Int × Int × Int × ByteArray × (List Int) × Unit)) × Unit)) (a2 : ByteArray) : Option (Int) :=
  abody (E_spec_l10Unit k) (arun Try.prog (E_spec_l10Unit k) k) k 101 Try.f101 [.tv (.row (.pair .str (.pair (.int .i64) (.pair (.int .i64) (.pair (.row (.pair (.int .i64) (.pair (.int .i64) (.pair (.int .i64) (.pair (.int .i64) (.pair (.int .i64) (.pair .str (.pair (.row (.int .i64)) .unit)))))))) .unit))))) a1, .str a2] [] (fin1 (.int .i64))
noncomputable def spec_l10Unit.l2 (k n : Nat) (x0 : List (ByteArray × Int × Int × (List (Int × Int × Int × Int × Int × ByteArray × (List Int) × Unit)) × Unit)) (x1 : ByteArray) (x5 : Int) : Option (Int) :=
  resume (E_spec_l10Unit k) 101 (acall (E_spec_l10Unit k) (arun Try.prog (E_spec_l10Unit k) k)) k [true, false, true, true] [n] (bodyOf Try.f101) ⟨[.tv (.row (.pair .str (.pair (.int .i64) (.pair (.int .i64) (.pair (.row (.pair (.int .i64) (.pair (.int .i64) (.pair (.int .i64) (.pair (.int .i64) (.pair (.int .i64) (.pair .str (.pair (.row (.int .i64)) .unit)))))))) .unit))))) x0, .str x1, .undef, .undef, .undef, .int .i64 x5, .undef, .undef, .undef, .undef, .undef, .undef, .undef, .undef, .undef, .undef, .undef, .undef, .undef, .undef], []⟩ (leave (E_spec_l10Unit k) Try.f101 (fin1 (.int .i64)))
theorem spec_l10Unit.l2_0 (k : Nat) (x0 : List (ByteArray × Int × Int × (List (Int × Int × Int × Int × Int × ByteArray × (List Int) × Unit)) × Unit)) (x1 : ByteArray) (x5 : Int) : spec_l10Unit.l2 k 0 x0 x1 x5 = none := by kernel_rfl
theorem spec_l10Unit.l2_s (k n : Nat) (x0 : List (ByteArray × Int × Int × (List (Int × Int × Int × Int × Int × ByteArray × (List Int) × Unit)) × Unit)) (x1 : ByteArray) (x5 : Int) : spec_l10Unit.l2 k (n + 1) x0 x1 x5 =
  iteB (decide (x5 < ((List.length x0) : Int))) (iteB (decide (0 ≤ x5)) (iteB (decide (x5 < ((List.length x0) : Int))) (iteB (ByteArray.toList ((List.getD x0 (Int.toNat x5) (Ty.dflt (.pair .str (.pair (.int .i64) (.pair (.int .i64) (.pair (.row (.pair (.int .i64) (.pair (.int .i64) (.pair (.int .i64) (.pair (.int .i64) (.pair (.int .i64) (.pair .str (.pair (.row (.int .i64)) .unit)))))))) .unit)))))).1) == ByteArray.toList x1) (some x5) (spec_l10Unit.l2 k n x0 x1 (IntKind.wrap .i64 (x5 + 1)))) (none)) (none)) (some (-1)) := by kernel_rfl
theorem spec_l10Unit_e (k : Nat) (a1 : List (ByteArray × Int × Int × (List (Int × Int × Int × Int × Int × ByteArray × (List Int) × Unit)) × Unit)) (a2 : ByteArray) : spec_l10Unit k a1 a2 =
  spec_l10Unit.l2 k k a1 a2 0 := by kernel_rfl
theorem E_spec_l10Unit_calls (k : Nat) : CallsOk Try.prog (E_spec_l10Unit k) (arun Try.prog (E_spec_l10Unit k) k) := by
  refine told_run (tyTOk _ _) ?_ (fun run h => regOk (tyTOk _ _) mixOk h) ?_ nameOk k
  · intro g m hg
    simp only [E_spec_l10Unit] at hg
    split at hg
    · cases hg; exact noCon_ok
    · cases hg
  · intro g hg r
    by_cases h : g = 101
    · subst h; simp [E_spec_l10Unit] at hg
    · simp [E_spec_l10Unit, h]
theorem f101_okspec_l10Unit : Try.prog.funcs[101]? = some Try.f101 := by kernel_rfl
theorem spec_l10Unit_law (k : Nat) (a1 : List (ByteArray × Int × Int × (List (Int × Int × Int × Int × Int × ByteArray × (List Int) × Unit)) × Unit)) (a2 : ByteArray) (x : Int) (h : spec_l10Unit k a1 a2 = some x) : LawV Try.prog 101 [.tv (.row (.pair .str (.pair (.int .i64) (.pair (.int .i64) (.pair (.row (.pair (.int .i64) (.pair (.int .i64) (.pair (.int .i64) (.pair (.int .i64) (.pair (.int .i64) (.pair .str (.pair (.row (.int .i64)) .unit)))))))) .unit))))) a1, .str a2] (tvn (.int .i64) x) := by
  unfold spec_l10Unit at h
  exact law1 (t := (.int .i64)) (tyTOk _ _) (E_spec_l10Unit_calls k) mixOk f101_okspec_l10Unit (nameOk _ _ f101_okspec_l10Unit) (by kernel_rfl) h
end Go.Proofs.Ytapijpjgfpjahaa.XFnExactUnitsOk
