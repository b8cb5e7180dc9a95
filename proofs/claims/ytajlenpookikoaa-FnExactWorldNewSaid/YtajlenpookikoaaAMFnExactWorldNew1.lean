/- Functions of the program as runs of the interpreter: equations, and a law for each. -/
import Derived.Test.YtajlenpookikoaaProg
import Derived.Test.YtajlenpookikoaaChecked
import Derived.KernelRfl
import Derived.Eval
import Derived.Test.YtajlenpookikoaaATyOk
import Derived.Test.YtajlenpookikoaaAS38
import Derived.Test.YtajlenpookikoaaAMFnExactWorldNew0
open Go Go.AM Go.AMx Go.Proofs
namespace Go.Proofs.Ytajlenpookikoaa.XFnExactWorldNew
set_option linter.unusedVariables false
set_option linter.unusedSimpArgs false
/-! spec.l10Place -/
noncomputable def E_spec_l10Place (k : Nat) : Env := ⟨ty, fun g => match g with
  | 71 => some (byVal fun ρ l K => match l with
    | [b1] => (b1.as (.int .i64)).bind fun c1 => (spec_l10Has k c1).bind fun r => K (tvn (.int .i64) r)
    | _ => none)
  | 54 => some (byVal fun ρ l K => match l with
    | [b1, b2, b3] => (b1.as (.int .i64)).bind fun c1 => (b2.as (.int .i64)).bind fun c2 => (b3.as (.int .i64)).bind fun c3 => (spec_l1In k c1 c2 c3).bind fun r => K (tvn .bool r)
    | _ => none)
  | 72 => some (byVal fun ρ l K => match l with
    | [b1] => (b1.as tA4).bind fun c1 => (spec_l10Args k c1).bind fun r => K (tvn .bool r)
    | _ => none)
  | 73 => some (byVal fun ρ l K => match l with
    | [b1, b2] => (b1.as tA4).bind fun c1 => (b2.as (.int .i64)).bind fun c2 => (spec_l10Regs k c1 c2).bind fun r => K (tvn .bool r)
    | _ => none)
  | 74 => some (byVal fun ρ l K => match l with
    | [b1] => (b1.as (.int .i64)).bind fun c1 => (spec_WordOk k c1).bind fun r => K (tvn .bool r)
    | _ => none)
  | 56 => some noCon
  | _ => none, fun f r => match f with | 56 => (match r with | 4 => some [2, 5] | 6 => some [2, 5] | _ => none) | _ => none⟩
noncomputable def spec_l10Place (k : Nat) (a1 : Int × Int × Int × Int × Int × ByteArray × (List Int) × Unit) (a2 : Int) : Option (Bool) :=
  abody (E_spec_l10Place k) (arun Try.prog (E_spec_l10Place k) k) k 56 Try.f56 [.tv tA4 a1, .int .i64 a2] [] (fin1 .bool)
noncomputable def spec_l10Place.j4 (k : Nat) (x5 : Int) (y0_0 : Int × Int × Int × Int × Int × ByteArray × (List Int) × Unit) : Option (Bool) :=
  resume (E_spec_l10Place k) 56 (acall (E_spec_l10Place k) (arun Try.prog (E_spec_l10Place k) k)) k [true, true, true] [] (bodyOf Try.f56) ⟨[.undef, .undef, .ptr 0 0 0, .undef, .undef, .int .i64 x5, .undef, .undef, .undef, .undef, .undef, .undef, .undef, .undef, .undef, .undef, .undef, .undef, .undef, .undef, .undef, .undef, .undef, .undef, .undef, .undef, .undef, .undef, .undef, .undef, .undef, .undef, .undef, .undef, .undef, .undef, .undef, .undef, .undef, .undef, .undef, .undef, .undef, .undef, .undef, .undef, .undef, .undef, .undef, .undef, .undef, .undef, .undef, .undef, .undef, .undef, .undef, .undef, .undef, .undef, .undef, .undef, .undef, .undef, .undef, .undef, .undef, .undef, .undef, .undef, .undef, .undef, .undef, .undef, .undef, .undef, .undef, .undef, .undef, .undef, .undef, .undef, .undef, .undef, .undef, .undef, .undef], [some ⟨.raw true 7 (.agg [.int .i64 0, .int .i64 0, .int .i64 0, .int .i64 0, .int .i64 0, .str ByteArray.empty, .nils]) [.tv tA4 y0_0], true⟩]⟩ (leave (E_spec_l10Place k) Try.f56 (fin1 .bool))
noncomputable def spec_l10Place.j6 (k : Nat) (x5 : Int) (y0_0 : Int × Int × Int × Int × Int × ByteArray × (List Int) × Unit) : Option (Bool) :=
  resume (E_spec_l10Place k) 56 (acall (E_spec_l10Place k) (arun Try.prog (E_spec_l10Place k) k)) k [true, true, true, true] [] (bodyOf Try.f56) ⟨[.undef, .undef, .ptr 0 0 0, .undef, .undef, .int .i64 x5, .undef, .undef, .undef, .undef, .undef, .undef, .undef, .undef, .undef, .undef, .undef, .undef, .undef, .undef, .undef, .undef, .undef, .undef, .undef, .undef, .undef, .undef, .undef, .undef, .undef, .undef, .undef, .undef, .undef, .undef, .undef, .undef, .undef, .undef, .undef, .undef, .undef, .undef, .undef, .undef, .undef, .undef, .undef, .undef, .undef, .undef, .undef, .undef, .undef, .undef, .undef, .undef, .undef, .undef, .undef, .undef, .undef, .undef, .undef, .undef, .undef, .undef, .undef, .undef, .undef, .undef, .undef, .undef, .undef, .undef, .undef, .undef, .undef, .undef, .undef, .undef, .undef, .undef, .undef, .undef, .undef], [some ⟨.raw true 7 (.agg [.int .i64 0, .int .i64 0, .int .i64 0, .int .i64 0, .int .i64 0, .str ByteArray.empty, .nils]) [.tv tA4 y0_0], true⟩]⟩ (leave (E_spec_l10Place k) Try.f56 (fin1 .bool))
theorem spec_l10Place.j4_e (k : Nat) (x5 : Int) (y0_0 : Int × Int × Int × Int × Int × ByteArray × (List Int) × Unit) : spec_l10Place.j4 k x5 y0_0 =
  iteB (y0_0.1 == 19) (bindO (spec_l1In k y0_0.2.2.2.2.1 0 1) fun r5 => (iteB (!(!r5)) (bindO (spec_WordOk k y0_0.2.2.2.2.1) fun r6 => (iteB (!r6) (some false) (gate k (spec_l10Place.j6 k x5 y0_0)))) (some false))) (bindO (spec_WordOk k y0_0.2.2.2.2.1) fun r7 => (iteB (!r7) (some false) (gate k (spec_l10Place.j6 k x5 y0_0)))) := by kernel_rfl
theorem spec_l10Place.j6_e (k : Nat) (x5 : Int) (y0_0 : Int × Int × Int × Int × Int × ByteArray × (List Int) × Unit) : spec_l10Place.j6 k x5 y0_0 =
  iteB (!((IntKind.wrap .i64 ((BitVec.ofInt (IntKind.bits .i64) x5 &&& BitVec.ofInt (IntKind.bits .i64) 1).toNat : Int)) != 0)) (iteB (y0_0.2.1 == 0) (iteB (!((IntKind.wrap .i64 ((BitVec.ofInt (IntKind.bits .i64) x5 &&& BitVec.ofInt (IntKind.bits .i64) 2).toNat : Int)) != 0)) (iteB (y0_0.2.2.1 == 0) (iteB (!((IntKind.wrap .i64 ((BitVec.ofInt (IntKind.bits .i64) x5 &&& BitVec.ofInt (IntKind.bits .i64) 4).toNat : Int)) != 0)) (iteB (y0_0.2.2.2.1 == 0) (iteB (!((IntKind.wrap .i64 ((BitVec.ofInt (IntKind.bits .i64) x5 &&& BitVec.ofInt (IntKind.bits .i64) 8).toNat : Int)) != 0)) (iteB (y0_0.2.2.2.2.1 == 0) (iteB (!((IntKind.wrap .i64 ((BitVec.ofInt (IntKind.bits .i64) x5 &&& BitVec.ofInt (IntKind.bits .i64) 16).toNat : Int)) != 0)) (some (ByteArray.toList y0_0.2.2.2.2.2.1 == ByteArray.toList (⟨#[]⟩ : ByteArray))) (some true)) (some false)) (iteB (!((IntKind.wrap .i64 ((BitVec.ofInt (IntKind.bits .i64) x5 &&& BitVec.ofInt (IntKind.bits .i64) 16).toNat : Int)) != 0)) (some (ByteArray.toList y0_0.2.2.2.2.2.1 == ByteArray.toList (⟨#[]⟩ : ByteArray))) (some true))) (some false)) (iteB (!((IntKind.wrap .i64 ((BitVec.ofInt (IntKind.bits .i64) x5 &&& BitVec.ofInt (IntKind.bits .i64) 8).toNat : Int)) != 0)) (iteB (y0_0.2.2.2.2.1 == 0) (iteB (!((IntKind.wrap .i64 ((BitVec.ofInt (IntKind.bits .i64) x5 &&& BitVec.ofInt (IntKind.bits .i64) 16).toNat : Int)) != 0)) (some (ByteArray.toList y0_0.2.2.2.2.2.1 == ByteArray.toList (⟨#[]⟩ : ByteArray))) (some true)) (some false)) (iteB (!((IntKind.wrap .i64 ((BitVec.ofInt (IntKind.bits .i64) x5 &&& BitVec.ofInt (IntKind.bits .i64) 16).toNat : Int)) != 0)) (some (ByteArray.toList y0_0.2.2.2.2.2.1 == ByteArray.toList (⟨#[]⟩ : ByteArray))) (some true)))) (some false)) (iteB (!((IntKind.wrap .i64 ((BitVec.ofInt (IntKind.bits .i64) x5 &&& BitVec.ofInt (IntKind.bits .i64) 4).toNat : Int)) != 0)) (iteB (y0_0.2.2.2.1 == 0) (iteB (!((IntKind.wrap .i64 ((BitVec.ofInt (IntKind.bits .i64) x5 &&& BitVec.ofInt (IntKind.bits .i64) 8).toNat : Int)) != 0)) (iteB (y0_0.2.2.2.2.1 == 0) (iteB (!((IntKind.wrap .i64 ((BitVec.ofInt (IntKind.bits .i64) x5 &&& BitVec.ofInt (IntKind.bits .i64) 16).toNat : Int)) != 0)) (some (ByteArray.toList y0_0.2.2.2.2.2.1 == ByteArray.toList (⟨#[]⟩ : ByteArray))) (some true)) (some false)) (iteB (!((IntKind.wrap .i64 ((BitVec.ofInt (IntKind.bits .i64) x5 &&& BitVec.ofInt (IntKind.bits .i64) 16).toNat : Int)) != 0)) (some (ByteArray.toList y0_0.2.2.2.2.2.1 == ByteArray.toList (⟨#[]⟩ : ByteArray))) (some true))) (some false)) (iteB (!((IntKind.wrap .i64 ((BitVec.ofInt (IntKind.bits .i64) x5 &&& BitVec.ofInt (IntKind.bits .i64) 8).toNat : Int)) != 0)) (iteB (y0_0.2.2.2.2.1 == 0) (iteB (!((IntKind.wrap .i64 ((BitVec.ofInt (IntKind.bits .i64) x5 &&& BitVec.ofInt (IntKind.bits .i64) 16).toNat : Int)) != 0)) (some (ByteArray.toList y0_0.2.2.2.2.2.1 == ByteArray.toList (⟨#[]⟩ : ByteArray))) (some true)) (some false)) (iteB (!((IntKind.wrap .i64 ((BitVec.ofInt (IntKind.bits .i64) x5 &&& BitVec.ofInt (IntKind.bits .i64) 16).toNat : Int)) != 0)) (some (ByteArray.toList y0_0.2.2.2.2.2.1 == ByteArray.toList (⟨#[]⟩ : ByteArray))) (some true))))) (some false)) (iteB (!((IntKind.wrap .i64 ((BitVec.ofInt (IntKind.bits .i64) x5 &&& BitVec.ofInt (IntKind.bits .i64) 2).toNat : Int)) != 0)) (iteB (y0_0.2.2.1 == 0) (iteB (!((IntKind.wrap .i64 ((BitVec.ofInt (IntKind.bits .i64) x5 &&& BitVec.ofInt (IntKind.bits .i64) 4).toNat : Int)) != 0)) (iteB (y0_0.2.2.2.1 == 0) (iteB (!((IntKind.wrap .i64 ((BitVec.ofInt (IntKind.bits .i64) x5 &&& BitVec.ofInt (IntKind.bits .i64) 8).toNat : Int)) != 0)) (iteB (y0_0.2.2.2.2.1 == 0) (iteB (!((IntKind.wrap .i64 ((BitVec.ofInt (IntKind.bits .i64) x5 &&& BitVec.ofInt (IntKind.bits .i64) 16).toNat : Int)) != 0)) (some (ByteArray.toList y0_0.2.2.2.2.2.1 == ByteArray.toList (⟨#[]⟩ : ByteArray))) (some true)) (some false)) (iteB (!((IntKind.wrap .i64 ((BitVec.ofInt (IntKind.bits .i64) x5 &&& BitVec.ofInt (IntKind.bits .i64) 16).toNat : Int)) != 0)) (some (ByteArray.toList y0_0.2.2.2.2.2.1 == ByteArray.toList (⟨#[]⟩ : ByteArray))) (some true))) (some false)) (iteB (!((IntKind.wrap .i64 ((BitVec.ofInt (IntKind.bits .i64) x5 &&& BitVec.ofInt (IntKind.bits .i64) 8).toNat : Int)) != 0)) (iteB (y0_0.2.2.2.2.1 == 0) (iteB (!((IntKind.wrap .i64 ((BitVec.ofInt (IntKind.bits .i64) x5 &&& BitVec.ofInt (IntKind.bits .i64) 16).toNat : Int)) != 0)) (some (ByteArray.toList y0_0.2.2.2.2.2.1 == ByteArray.toList (⟨#[]⟩ : ByteArray))) (some true)) (some false)) (iteB (!((IntKind.wrap .i64 ((BitVec.ofInt (IntKind.bits .i64) x5 &&& BitVec.ofInt (IntKind.bits .i64) 16).toNat : Int)) != 0)) (some (ByteArray.toList y0_0.2.2.2.2.2.1 == ByteArray.toList (⟨#[]⟩ : ByteArray))) (some true)))) (some false)) (iteB (!((IntKind.wrap .i64 ((BitVec.ofInt (IntKind.bits .i64) x5 &&& BitVec.ofInt (IntKind.bits .i64) 4).toNat : Int)) != 0)) (iteB (y0_0.2.2.2.1 == 0) (iteB (!((IntKind.wrap .i64 ((BitVec.ofInt (IntKind.bits .i64) x5 &&& BitVec.ofInt (IntKind.bits .i64) 8).toNat : Int)) != 0)) (iteB (y0_0.2.2.2.2.1 == 0) (iteB (!((IntKind.wrap .i64 ((BitVec.ofInt (IntKind.bits .i64) x5 &&& BitVec.ofInt (IntKind.bits .i64) 16).toNat : Int)) != 0)) (some (ByteArray.toList y0_0.2.2.2.2.2.1 == ByteArray.toList (⟨#[]⟩ : ByteArray))) (some true)) (some false)) (iteB (!((IntKind.wrap .i64 ((BitVec.ofInt (IntKind.bits .i64) x5 &&& BitVec.ofInt (IntKind.bits .i64) 16).toNat : Int)) != 0)) (some (ByteArray.toList y0_0.2.2.2.2.2.1 == ByteArray.toList (⟨#[]⟩ : ByteArray))) (some true))) (some false)) (iteB (!((IntKind.wrap .i64 ((BitVec.ofInt (IntKind.bits .i64) x5 &&& BitVec.ofInt (IntKind.bits .i64) 8).toNat : Int)) != 0)) (iteB (y0_0.2.2.2.2.1 == 0) (iteB (!((IntKind.wrap .i64 ((BitVec.ofInt (IntKind.bits .i64) x5 &&& BitVec.ofInt (IntKind.bits .i64) 16).toNat : Int)) != 0)) (some (ByteArray.toList y0_0.2.2.2.2.2.1 == ByteArray.toList (⟨#[]⟩ : ByteArray))) (some true)) (some false)) (iteB (!((IntKind.wrap .i64 ((BitVec.ofInt (IntKind.bits .i64) x5 &&& BitVec.ofInt (IntKind.bits .i64) 16).toNat : Int)) != 0)) (some (ByteArray.toList y0_0.2.2.2.2.2.1 == ByteArray.toList (⟨#[]⟩ : ByteArray))) (some true))))) := by kernel_rfl
theorem spec_l10Place_e (k : Nat) (a1 : Int × Int × Int × Int × Int × ByteArray × (List Int) × Unit) (a2 : Int) : spec_l10Place k a1 a2 =
  bindO (spec_l10Has k a1.1) fun r1 => (bindO (spec_l1In k a1.1 1 28) fun r2 => (iteB (!(!r2)) (bindO (spec_l10Args k a1) fun r3 => (iteB (!(!r3)) (bindO (spec_l10Regs k a1 a2) fun r4 => (iteB (!r4) (some false) (gate k (spec_l10Place.j4 k r1 a1)))) (some false))) (some false))) := by kernel_rfl
theorem E_spec_l10Place_calls (k : Nat) : CallsOk Try.prog (E_spec_l10Place k) (arun Try.prog (E_spec_l10Place k) k) := by
  refine told_run (tyTOk _ _) ?_ (fun run h => regOk (tyTOk _ _) mixOk h) ?_ nameOk k
  · intro g m hg
    simp only [E_spec_l10Place] at hg
    split at hg
    · cases hg
      refine con_byVal fun ρ l K x hm => ?_
      split at hm
      · obtain ⟨c1, h1, hm⟩ := Option.bind_eq_some_iff.1 hm
        obtain ⟨r, hr, hm⟩ := Option.bind_eq_some_iff.1 hm
        exact ⟨_, hm, LawV.reads (.cons (.as h1) .nil) (spec_l10Has_law k c1 r hr)⟩
      · cases hm
    · cases hg
      refine con_byVal fun ρ l K x hm => ?_
      split at hm
      · obtain ⟨c1, h1, hm⟩ := Option.bind_eq_some_iff.1 hm
        obtain ⟨c2, h2, hm⟩ := Option.bind_eq_some_iff.1 hm
        obtain ⟨c3, h3, hm⟩ := Option.bind_eq_some_iff.1 hm
        obtain ⟨r, hr, hm⟩ := Option.bind_eq_some_iff.1 hm
        exact ⟨_, hm, LawV.reads (.cons (.as h1) (.cons (.as h2) (.cons (.as h3) .nil))) (spec_l1In_law k c1 c2 c3 r hr)⟩
      · cases hm
    · cases hg
      refine con_byVal fun ρ l K x hm => ?_
      split at hm
      · obtain ⟨c1, h1, hm⟩ := Option.bind_eq_some_iff.1 hm
        obtain ⟨r, hr, hm⟩ := Option.bind_eq_some_iff.1 hm
        exact ⟨_, hm, LawV.reads (.cons (.as h1) .nil) (spec_l10Args_law k c1 r hr)⟩
      · cases hm
    · cases hg
      refine con_byVal fun ρ l K x hm => ?_
      split at hm
      · obtain ⟨c1, h1, hm⟩ := Option.bind_eq_some_iff.1 hm
        obtain ⟨c2, h2, hm⟩ := Option.bind_eq_some_iff.1 hm
        obtain ⟨r, hr, hm⟩ := Option.bind_eq_some_iff.1 hm
        exact ⟨_, hm, LawV.reads (.cons (.as h1) (.cons (.as h2) .nil)) (spec_l10Regs_law k c1 c2 r hr)⟩
      · cases hm
    · cases hg
      refine con_byVal fun ρ l K x hm => ?_
      split at hm
      · obtain ⟨c1, h1, hm⟩ := Option.bind_eq_some_iff.1 hm
        obtain ⟨r, hr, hm⟩ := Option.bind_eq_some_iff.1 hm
        exact ⟨_, hm, LawV.reads (.cons (.as h1) .nil) (spec_WordOk_law k c1 r hr)⟩
      · cases hm
    · cases hg; exact noCon_ok
    · cases hg
  · intro g hg r
    by_cases h : g = 56
    · subst h; simp [E_spec_l10Place] at hg
    · simp [E_spec_l10Place, h]
theorem f56_okspec_l10Place : Try.prog.funcs[56]? = some Try.f56 := by kernel_rfl
theorem spec_l10Place_law (k : Nat) (a1 : Int × Int × Int × Int × Int × ByteArray × (List Int) × Unit) (a2 : Int) (x : Bool) (h : spec_l10Place k a1 a2 = some x) : LawV Try.prog 56 [.tv tA4 a1, .int .i64 a2] (tvn .bool x) := by
  unfold spec_l10Place at h
  exact law1 (t := .bool) (tyTOk _ _) (E_spec_l10Place_calls k) mixOk f56_okspec_l10Place (nameOk _ _ f56_okspec_l10Place) (by kernel_rfl) h
/-! spec.l10Label -/
noncomputable def E_spec_l10Label (k : Nat) : Env := ⟨ty, fun g => match g with
  | 57 => some noCon
  | _ => none, fun f r => match f with | 57 => (match r with | 2 => some [0, 1, 5] | _ => none) | _ => none⟩
noncomputable def spec_l10Label (k : Nat) (a1 : List (Int × Int × Int × Int × Int × ByteArray × (List Int) × Unit)) (a2 : Int) : Option (Int) :=
  abody (E_spec_l10Label k) (arun Try.prog (E_spec_l10Label k) k) k 57 Try.f57 [.tv (.row tA4) a1, .int .i64 a2] [] (fin1 (.int .i64))
noncomputable def spec_l10Label.l2 (k n : Nat) (x0 : List (Int × Int × Int × Int × Int × ByteArray × (List Int) × Unit)) (x1 : Int) (x5 : Int) : Option (Int) :=
  resume (E_spec_l10Label k) 57 (acall (E_spec_l10Label k) (arun Try.prog (E_spec_l10Label k) k)) k [true, false, true, true] [n] (bodyOf Try.f57) ⟨[.tv (.row tA4) x0, .int .i64 x1, .undef, .undef, .undef, .int .i64 x5, .undef, .undef, .undef, .undef, .undef, .undef, .undef, .undef, .undef, .undef, .undef, .undef, .undef, .undef, .undef, .undef, .undef, .undef, .undef, .undef, .undef, .undef], []⟩ (leave (E_spec_l10Label k) Try.f57 (fin1 (.int .i64)))
theorem spec_l10Label.l2_0 (k : Nat) (x0 : List (Int × Int × Int × Int × Int × ByteArray × (List Int) × Unit)) (x1 : Int) (x5 : Int) : spec_l10Label.l2 k 0 x0 x1 x5 = none := by kernel_rfl
theorem spec_l10Label.l2_s (k n : Nat) (x0 : List (Int × Int × Int × Int × Int × ByteArray × (List Int) × Unit)) (x1 : Int) (x5 : Int) : spec_l10Label.l2 k (n + 1) x0 x1 x5 =
  iteB (decide (x5 < ((List.length x0) : Int))) (iteB (decide (0 ≤ x5)) (iteB (decide (x5 < ((List.length x0) : Int))) (iteB (((List.getD x0 (Int.toNat x5) (Ty.dflt tA4)).1) == 8) (iteB (decide (0 ≤ x5)) (iteB (decide (x5 < ((List.length x0) : Int))) (iteB (((((((List.getD x0 (Int.toNat x5) (Ty.dflt tA4)).2).2).2).2).1) == x1) (some x5) (spec_l10Label.l2 k n x0 x1 (IntKind.wrap .i64 (x5 + 1)))) (none)) (none)) (spec_l10Label.l2 k n x0 x1 (IntKind.wrap .i64 (x5 + 1)))) (none)) (none)) (some (-1)) := by kernel_rfl
theorem spec_l10Label_e (k : Nat) (a1 : List (Int × Int × Int × Int × Int × ByteArray × (List Int) × Unit)) (a2 : Int) : spec_l10Label k a1 a2 =
  spec_l10Label.l2 k k a1 a2 0 := by kernel_rfl
theorem E_spec_l10Label_calls (k : Nat) : CallsOk Try.prog (E_spec_l10Label k) (arun Try.prog (E_spec_l10Label k) k) := by
  refine told_run (tyTOk _ _) ?_ (fun run h => regOk (tyTOk _ _) mixOk h) ?_ nameOk k
  · intro g m hg
    simp only [E_spec_l10Label] at hg
    split at hg
    · cases hg; exact noCon_ok
    · cases hg
  · intro g hg r
    by_cases h : g = 57
    · subst h; simp [E_spec_l10Label] at hg
    · simp [E_spec_l10Label, h]
theorem f57_okspec_l10Label : Try.prog.funcs[57]? = some Try.f57 := by kernel_rfl
theorem spec_l10Label_law (k : Nat) (a1 : List (Int × Int × Int × Int × Int × ByteArray × (List Int) × Unit)) (a2 : Int) (x : Int) (h : spec_l10Label k a1 a2 = some x) : LawV Try.prog 57 [.tv (.row tA4) a1, .int .i64 a2] (tvn (.int .i64) x) := by
  unfold spec_l10Label at h
  exact law1 (t := (.int .i64)) (tyTOk _ _) (E_spec_l10Label_calls k) mixOk f57_okspec_l10Label (nameOk _ _ f57_okspec_l10Label) (by kernel_rfl) h
/-! spec.UnitOk -/
noncomputable def E_spec_UnitOk (k : Nat) : Env := ⟨ty, fun g => match g with
  | 54 => some (byVal fun ρ l K => match l with
    | [b1, b2, b3] => (b1.as (.int .i64)).bind fun c1 => (b2.as (.int .i64)).bind fun c2 => (b3.as (.int .i64)).bind fun c3 => (spec_l1In k c1 c2 c3).bind fun r => K (tvn .bool r)
    | _ => none)
  | 55 => some (byVal fun ρ l K => match l with
    | [b1, b2] => (b1.as (.int .i64)).bind fun c1 => (b2.as (.int .i64)).bind fun c2 => (spec_l1Min k c1 c2).bind fun r => K (tvn (.int .i64) r)
    | _ => none)
  | 56 => some (byVal fun ρ l K => match l with
    | [b1, b2] => (b1.as tA4).bind fun c1 => (b2.as (.int .i64)).bind fun c2 => (spec_l10Place k c1 c2).bind fun r => K (tvn .bool r)
    | _ => none)
  | 57 => some (byVal fun ρ l K => match l with
    | [b1, b2] => (b1.as (.row tA4)).bind fun c1 => (b2.as (.int .i64)).bind fun c2 => (spec_l10Label k c1 c2).bind fun r => K (tvn (.int .i64) r)
    | _ => none)
  | 37 => some noCon
  | _ => none, fun f r => match f with | 37 => (match r with | 4 => some [1, 3] | 5 => some [1, 3, 4] | _ => none) | _ => none⟩
noncomputable def spec_UnitOk (k : Nat) (a1 : ByteArray × Int × Int × (List (Int × Int × Int × Int × Int × ByteArray × (List Int) × Unit)) × Unit) : Option (Bool) :=
  abody (E_spec_UnitOk k) (arun Try.prog (E_spec_UnitOk k) k) k 37 Try.f37 [.tv tA5 a1] [] (fin1 .bool)
noncomputable def spec_UnitOk.j4 (k : Nat) (x3 : Int) (y0_0 : ByteArray × Int × Int × (List (Int × Int × Int × Int × Int × ByteArray × (List Int) × Unit)) × Unit) : Option (Bool) :=
  resume (E_spec_UnitOk k) 37 (acall (E_spec_UnitOk k) (arun Try.prog (E_spec_UnitOk k) k)) k [true, true, true] [] (bodyOf Try.f37) ⟨[.undef, .ptr 0 0 0, .undef, .int .i64 x3, .undef, .undef, .undef, .undef, .undef, .undef, .undef, .undef, .undef, .undef, .undef, .undef, .undef, .undef, .undef, .undef, .undef, .undef, .undef, .undef, .undef, .undef, .undef, .undef, .undef, .undef, .undef, .undef, .undef, .undef, .undef, .undef, .undef, .undef, .undef, .undef, .undef, .undef, .undef, .undef, .undef, .undef, .undef, .undef, .undef, .undef, .undef, .undef, .undef, .undef, .undef, .undef, .undef, .undef, .undef, .undef, .undef, .undef, .undef, .undef, .undef, .undef, .undef, .undef, .undef, .undef, .undef, .undef, .undef, .undef, .undef, .undef, .undef, .undef, .undef, .undef, .undef, .undef, .undef, .undef, .undef, .undef, .undef, .undef, .undef, .undef, .undef, .undef, .undef, .undef], [some ⟨.raw true 4 (.agg [.str ByteArray.empty, .int .i64 0, .int .i64 0, .nils]) [.tv tA5 y0_0], true⟩]⟩ (leave (E_spec_UnitOk k) Try.f37 (fin1 .bool))
noncomputable def spec_UnitOk.l5 (k n : Nat) (x3 : Int) (x4 : Int) (y0_0 : ByteArray × Int × Int × (List (Int × Int × Int × Int × Int × ByteArray × (List Int) × Unit)) × Unit) : Option (Bool) :=
  resume (E_spec_UnitOk k) 37 (acall (E_spec_UnitOk k) (arun Try.prog (E_spec_UnitOk k) k)) k [true, true, true, false, true, true] [n] (bodyOf Try.f37) ⟨[.undef, .ptr 0 0 0, .undef, .int .i64 x3, .int .i64 x4, .undef, .undef, .undef, .undef, .undef, .undef, .undef, .undef, .undef, .undef, .undef, .undef, .undef, .undef, .undef, .undef, .undef, .undef, .undef, .undef, .undef, .undef, .undef, .undef, .undef, .undef, .undef, .undef, .undef, .undef, .undef, .undef, .undef, .undef, .undef, .undef, .undef, .undef, .undef, .undef, .undef, .undef, .undef, .undef, .undef, .undef, .undef, .undef, .undef, .undef, .undef, .undef, .undef, .undef, .undef, .undef, .undef, .undef, .undef, .undef, .undef, .undef, .undef, .undef, .undef, .undef, .undef, .undef, .undef, .undef, .undef, .undef, .undef, .undef, .undef, .undef, .undef, .undef, .undef, .undef, .undef, .undef, .undef, .undef, .undef, .undef, .undef, .undef, .undef], [some ⟨.raw true 4 (.agg [.str ByteArray.empty, .int .i64 0, .int .i64 0, .nils]) [.tv tA5 y0_0], true⟩]⟩ (leave (E_spec_UnitOk k) Try.f37 (fin1 .bool))
theorem spec_UnitOk.j4_e (k : Nat) (x3 : Int) (y0_0 : ByteArray × Int × Int × (List (Int × Int × Int × Int × Int × ByteArray × (List Int) × Unit)) × Unit) : spec_UnitOk.j4 k x3 y0_0 =
  spec_UnitOk.l5 k k x3 0 y0_0 := by kernel_rfl
theorem spec_UnitOk.l5_0 (k : Nat) (x3 : Int) (x4 : Int) (y0_0 : ByteArray × Int × Int × (List (Int × Int × Int × Int × Int × ByteArray × (List Int) × Unit)) × Unit) : spec_UnitOk.l5 k 0 x3 x4 y0_0 = none := by kernel_rfl
theorem spec_UnitOk.l5_s (k n : Nat) (x3 : Int) (x4 : Int) (y0_0 : ByteArray × Int × Int × (List (Int × Int × Int × Int × Int × ByteArray × (List Int) × Unit)) × Unit) : spec_UnitOk.l5 k (n + 1) x3 x4 y0_0 =
  iteB (decide (x4 < x3)) (iteB (decide (0 ≤ x4)) (iteB (decide (x4 < ((List.length y0_0.2.2.2.1) : Int))) (bindO (spec_l10Place k (List.getD y0_0.2.2.2.1 (Int.toNat x4) (Ty.dflt tA4)) y0_0.2.2.1) fun r5 => (iteB (!r5) (some false) (bindO (spec_l10Label k y0_0.2.2.2.1 ((((((List.getD y0_0.2.2.2.1 (Int.toNat x4) (Ty.dflt tA4)).2).2).2).2).1)) fun r6 => (iteB (((List.getD y0_0.2.2.2.1 (Int.toNat x4) (Ty.dflt tA4)).1) == 8) (iteB (!(r6 != x4)) (bindO (spec_l1In k ((((((List.getD y0_0.2.2.2.1 (Int.toNat x4) (Ty.dflt tA4)).2).2).2).2).1) 0 900) fun r7 => (iteB (!(!r7)) (iteB (!(((List.getD y0_0.2.2.2.1 (Int.toNat x4) (Ty.dflt tA4)).1) == 9)) (iteB (((List.getD y0_0.2.2.2.1 (Int.toNat x4) (Ty.dflt tA4)).1) == 10) (iteB (decide (r6 < 0)) (some false) (spec_UnitOk.l5 k n x3 (IntKind.wrap .i64 (x4 + 1)) y0_0)) (spec_UnitOk.l5 k n x3 (IntKind.wrap .i64 (x4 + 1)) y0_0)) (iteB (decide (r6 < 0)) (some false) (spec_UnitOk.l5 k n x3 (IntKind.wrap .i64 (x4 + 1)) y0_0))) (some false))) (some false)) (iteB (!(((List.getD y0_0.2.2.2.1 (Int.toNat x4) (Ty.dflt tA4)).1) == 9)) (iteB (((List.getD y0_0.2.2.2.1 (Int.toNat x4) (Ty.dflt tA4)).1) == 10) (iteB (decide (r6 < 0)) (some false) (spec_UnitOk.l5 k n x3 (IntKind.wrap .i64 (x4 + 1)) y0_0)) (spec_UnitOk.l5 k n x3 (IntKind.wrap .i64 (x4 + 1)) y0_0)) (iteB (decide (r6 < 0)) (some false) (spec_UnitOk.l5 k n x3 (IntKind.wrap .i64 (x4 + 1)) y0_0))))))) (none)) (none)) (iteB (decide (0 ≤ IntKind.wrap .i64 (x3 - 1))) (iteB (decide (IntKind.wrap .i64 (x3 - 1) < ((List.length y0_0.2.2.2.1) : Int))) (iteB (!(((List.getD y0_0.2.2.2.1 (Int.toNat (IntKind.wrap .i64 (x3 - 1))) (Ty.dflt tA4)).1) == 12)) (iteB (!(((List.getD y0_0.2.2.2.1 (Int.toNat (IntKind.wrap .i64 (x3 - 1))) (Ty.dflt tA4)).1) == 9)) (some (((List.getD y0_0.2.2.2.1 (Int.toNat (IntKind.wrap .i64 (x3 - 1))) (Ty.dflt tA4)).1) == 28)) (some true)) (some true)) (none)) (none)) := by kernel_rfl
theorem spec_UnitOk_e (k : Nat) (a1 : ByteArray × Int × Int × (List (Int × Int × Int × Int × Int × ByteArray × (List Int) × Unit)) × Unit) : spec_UnitOk k a1 =
  bindO (spec_l1In k a1.2.2.1 0 250) fun r1 => (iteB (!(!r1)) (bindO (spec_l1Min k 4 a1.2.2.1) fun r2 => (bindO (spec_l1In k a1.2.1 0 r2) fun r3 => (iteB (!(!r3)) (bindO (spec_l1In k ((List.length a1.2.2.2.1) : Int) 1 900) fun r4 => (iteB (!r4) (some false) (gate k (spec_UnitOk.j4 k ((List.length a1.2.2.2.1) : Int) a1)))) (some false)))) (some false)) := by kernel_rfl
theorem E_spec_UnitOk_calls (k : Nat) : CallsOk Try.prog (E_spec_UnitOk k) (arun Try.prog (E_spec_UnitOk k) k) := by
  refine told_run (tyTOk _ _) ?_ (fun run h => regOk (tyTOk _ _) mixOk h) ?_ nameOk k
  · intro g m hg
    simp only [E_spec_UnitOk] at hg
    split at hg
    · cases hg
      refine con_byVal fun ρ l K x hm => ?_
      split at hm
      · obtain ⟨c1, h1, hm⟩ := Option.bind_eq_some_iff.1 hm
        obtain ⟨c2, h2, hm⟩ := Option.bind_eq_some_iff.1 hm
        obtain ⟨c3, h3, hm⟩ := Option.bind_eq_some_iff.1 hm
        obtain ⟨r, hr, hm⟩ := Option.bind_eq_some_iff.1 hm
        exact ⟨_, hm, LawV.reads (.cons (.as h1) (.cons (.as h2) (.cons (.as h3) .nil))) (spec_l1In_law k c1 c2 c3 r hr)⟩
      · cases hm
    · cases hg
      refine con_byVal fun ρ l K x hm => ?_
      split at hm
      · obtain ⟨c1, h1, hm⟩ := Option.bind_eq_some_iff.1 hm
        obtain ⟨c2, h2, hm⟩ := Option.bind_eq_some_iff.1 hm
        obtain ⟨r, hr, hm⟩ := Option.bind_eq_some_iff.1 hm
        exact ⟨_, hm, LawV.reads (.cons (.as h1) (.cons (.as h2) .nil)) (spec_l1Min_law k c1 c2 r hr)⟩
      · cases hm
    · cases hg
      refine con_byVal fun ρ l K x hm => ?_
      split at hm
      · obtain ⟨c1, h1, hm⟩ := Option.bind_eq_some_iff.1 hm
        obtain ⟨c2, h2, hm⟩ := Option.bind_eq_some_iff.1 hm
        obtain ⟨r, hr, hm⟩ := Option.bind_eq_some_iff.1 hm
        exact ⟨_, hm, LawV.reads (.cons (.as h1) (.cons (.as h2) .nil)) (spec_l10Place_law k c1 c2 r hr)⟩
      · cases hm
    · cases hg
      refine con_byVal fun ρ l K x hm => ?_
      split at hm
      · obtain ⟨c1, h1, hm⟩ := Option.bind_eq_some_iff.1 hm
        obtain ⟨c2, h2, hm⟩ := Option.bind_eq_some_iff.1 hm
        obtain ⟨r, hr, hm⟩ := Option.bind_eq_some_iff.1 hm
        exact ⟨_, hm, LawV.reads (.cons (.as h1) (.cons (.as h2) .nil)) (spec_l10Label_law k c1 c2 r hr)⟩
      · cases hm
    · cases hg; exact noCon_ok
    · cases hg
  · intro g hg r
    by_cases h : g = 37
    · subst h; simp [E_spec_UnitOk] at hg
    · simp [E_spec_UnitOk, h]
theorem f37_okspec_UnitOk : Try.prog.funcs[37]? = some Try.f37 := by kernel_rfl
theorem spec_UnitOk_law (k : Nat) (a1 : ByteArray × Int × Int × (List (Int × Int × Int × Int × Int × ByteArray × (List Int) × Unit)) × Unit) (x : Bool) (h : spec_UnitOk k a1 = some x) : LawV Try.prog 37 [.tv tA5 a1] (tvn .bool x) := by
  unfold spec_UnitOk at h
  exact law1 (t := .bool) (tyTOk _ _) (E_spec_UnitOk_calls k) mixOk f37_okspec_UnitOk (nameOk _ _ f37_okspec_UnitOk) (by kernel_rfl) h
/-! spec.UnitsOk -/
noncomputable def E_spec_UnitsOk (k : Nat) : Env := ⟨ty, fun g => match g with
  | 37 => some (byVal fun ρ l K => match l with
    | [b1] => (b1.as tA5).bind fun c1 => (spec_UnitOk k c1).bind fun r => K (tvn .bool r)
    | _ => none)
  | 14 => some (byVal fun ρ l K => match l with
    | [b1, b2] => (b1.as (.row tA5)).bind fun c1 => (b2.as .str).bind fun c2 => (spec_l10Unit k c1 c2).bind fun r => K (tvn (.int .i64) r)
    | _ => none)
  | 15 => some noCon
  | _ => none, fun f r => match f with | 15 => (match r with | 2 => some [0, 3] | 7 => some [0, 3, 4] | 8 => some [0, 3, 4, 5] | 12 => some [0, 3, 4, 5, 6] | _ => none) | _ => none⟩
noncomputable def spec_UnitsOk (k : Nat) (a1 : List (ByteArray × Int × Int × (List (Int × Int × Int × Int × Int × ByteArray × (List Int) × Unit)) × Unit)) : Option (Bool) :=
  abody (E_spec_UnitsOk k) (arun Try.prog (E_spec_UnitsOk k) k) k 15 Try.f15 [.tv (.row tA5) a1] [] (fin1 .bool)
noncomputable def spec_UnitsOk.l2 (k n : Nat) (x0 : List (ByteArray × Int × Int × (List (Int × Int × Int × Int × Int × ByteArray × (List Int) × Unit)) × Unit)) (x3 : Int) : Option (Bool) :=
  resume (E_spec_UnitsOk k) 15 (acall (E_spec_UnitsOk k) (arun Try.prog (E_spec_UnitsOk k) k)) k [true, false, true, true] [n] (bodyOf Try.f15) ⟨[.tv (.row tA5) x0, .undef, .undef, .int .i64 x3, .undef, .undef, .undef, .undef, .undef, .undef, .undef, .undef, .undef, .undef, .undef, .undef, .undef, .undef, .undef, .undef, .undef, .undef, .undef, .undef, .undef, .undef, .undef, .undef, .undef, .undef, .undef, .undef, .undef, .undef, .undef, .undef, .undef, .undef, .undef, .undef, .undef, .undef, .undef, .undef, .undef, .undef, .undef, .undef, .undef, .undef, .undef, .undef, .undef, .undef, .undef, .undef, .undef, .undef, .undef, .undef, .undef, .undef, .undef, .undef, .undef, .undef, .undef, .undef, .undef, .undef, .undef, .undef, .undef, .undef, .undef, .undef, .undef, .undef, .undef], []⟩ (leave (E_spec_UnitsOk k) Try.f15 (fin1 .bool))
noncomputable def spec_UnitsOk.j7 (k m2 : Nat) (x0 : List (ByteArray × Int × Int × (List (Int × Int × Int × Int × Int × ByteArray × (List Int) × Unit)) × Unit)) (x3 : Int) (y0_0 : ByteArray × Int × Int × (List (Int × Int × Int × Int × Int × ByteArray × (List Int) × Unit)) × Unit) : Option (Bool) :=
  resume (E_spec_UnitsOk k) 15 (acall (E_spec_UnitsOk k) (arun Try.prog (E_spec_UnitsOk k) k)) k [true, false, true, true, true, true, false, true, true, true] [m2] (bodyOf Try.f15) ⟨[.tv (.row tA5) x0, .undef, .undef, .int .i64 x3, .ptr 0 0 0, .undef, .undef, .undef, .undef, .undef, .undef, .undef, .undef, .undef, .undef, .undef, .undef, .undef, .undef, .undef, .undef, .undef, .undef, .undef, .undef, .undef, .undef, .undef, .undef, .undef, .undef, .undef, .undef, .undef, .undef, .undef, .undef, .undef, .undef, .undef, .undef, .undef, .undef, .undef, .undef, .undef, .undef, .undef, .undef, .undef, .undef, .undef, .undef, .undef, .undef, .undef, .undef, .undef, .undef, .undef, .undef, .undef, .undef, .undef, .undef, .undef, .undef, .undef, .undef, .undef, .undef, .undef, .undef, .undef, .undef, .undef, .undef, .undef, .undef], [some ⟨.raw true 4 (.agg [.str ByteArray.empty, .int .i64 0, .int .i64 0, .nils]) [.tv tA5 y0_0], true⟩]⟩ (leave (E_spec_UnitsOk k) Try.f15 (fin1 .bool))
noncomputable def spec_UnitsOk.l8 (k m2 n : Nat) (x0 : List (ByteArray × Int × Int × (List (Int × Int × Int × Int × Int × ByteArray × (List Int) × Unit)) × Unit)) (x3 : Int) (x5 : Int) (y0_0 : ByteArray × Int × Int × (List (Int × Int × Int × Int × Int × ByteArray × (List Int) × Unit)) × Unit) : Option (Bool) :=
  resume (E_spec_UnitsOk k) 15 (acall (E_spec_UnitsOk k) (arun Try.prog (E_spec_UnitsOk k) k)) k [true, false, true, true, true, true, false, true, true, true, true, true] [m2, n] (bodyOf Try.f15) ⟨[.tv (.row tA5) x0, .undef, .undef, .int .i64 x3, .ptr 0 0 0, .int .i64 x5, .undef, .undef, .undef, .undef, .undef, .undef, .undef, .undef, .undef, .undef, .undef, .undef, .undef, .undef, .undef, .undef, .undef, .undef, .undef, .undef, .undef, .undef, .undef, .undef, .undef, .undef, .undef, .undef, .undef, .undef, .undef, .undef, .undef, .undef, .undef, .undef, .undef, .undef, .undef, .undef, .undef, .undef, .undef, .undef, .undef, .undef, .undef, .undef, .undef, .undef, .undef, .undef, .undef, .undef, .undef, .undef, .undef, .undef, .undef, .undef, .undef, .undef, .undef, .undef, .undef, .undef, .undef, .undef, .undef, .undef, .undef, .undef, .undef], [some ⟨.raw true 4 (.agg [.str ByteArray.empty, .int .i64 0, .int .i64 0, .nils]) [.tv tA5 y0_0], true⟩]⟩ (leave (E_spec_UnitsOk k) Try.f15 (fin1 .bool))
noncomputable def spec_UnitsOk.j12 (k m2 m8 : Nat) (x0 : List (ByteArray × Int × Int × (List (Int × Int × Int × Int × Int × ByteArray × (List Int) × Unit)) × Unit)) (x3 : Int) (x5 : Int) (y0_0 : ByteArray × Int × Int × (List (Int × Int × Int × Int × Int × ByteArray × (List Int) × Unit)) × Unit) (y1_0 : Int × Int × Int × Int × Int × ByteArray × (List Int) × Unit) : Option (Bool) :=
  resume (E_spec_UnitsOk k) 15 (acall (E_spec_UnitsOk k) (arun Try.prog (E_spec_UnitsOk k) k)) k [true, false, true, true, true, true, false, true, true, true, true, true, true, true, false, true, true, true] [m2, m8] (bodyOf Try.f15) ⟨[.tv (.row tA5) x0, .undef, .undef, .int .i64 x3, .ptr 0 0 0, .int .i64 x5, .ptr 1 0 0, .undef, .undef, .undef, .undef, .undef, .undef, .undef, .undef, .undef, .undef, .undef, .undef, .undef, .undef, .undef, .undef, .undef, .undef, .undef, .undef, .undef, .undef, .undef, .undef, .undef, .undef, .undef, .undef, .undef, .undef, .undef, .undef, .undef, .undef, .undef, .undef, .undef, .undef, .undef, .undef, .undef, .undef, .undef, .undef, .undef, .undef, .undef, .undef, .undef, .undef, .undef, .undef, .undef, .undef, .undef, .undef, .undef, .undef, .undef, .undef, .undef, .undef, .undef, .undef, .undef, .undef, .undef, .undef, .undef, .undef, .undef, .undef], [some ⟨.raw true 4 (.agg [.str ByteArray.empty, .int .i64 0, .int .i64 0, .nils]) [.tv tA5 y0_0], true⟩, some ⟨.raw true 7 (.agg [.int .i64 0, .int .i64 0, .int .i64 0, .int .i64 0, .int .i64 0, .str ByteArray.empty, .nils]) [.tv tA4 y1_0], true⟩]⟩ (leave (E_spec_UnitsOk k) Try.f15 (fin1 .bool))
theorem spec_UnitsOk.l2_0 (k : Nat) (x0 : List (ByteArray × Int × Int × (List (Int × Int × Int × Int × Int × ByteArray × (List Int) × Unit)) × Unit)) (x3 : Int) : spec_UnitsOk.l2 k 0 x0 x3 = none := by kernel_rfl
theorem spec_UnitsOk.l2_s (k n : Nat) (x0 : List (ByteArray × Int × Int × (List (Int × Int × Int × Int × Int × ByteArray × (List Int) × Unit)) × Unit)) (x3 : Int) : spec_UnitsOk.l2 k (n + 1) x0 x3 =
  iteB (decide (x3 < ((List.length x0) : Int))) (iteB (decide (0 ≤ x3)) (iteB (decide (x3 < ((List.length x0) : Int))) (bindO (spec_UnitOk k (List.getD x0 (Int.toNat x3) (Ty.dflt tA5))) fun r1 => (iteB (!(!r1)) (bindO (spec_l10Unit k x0 ((List.getD x0 (Int.toNat x3) (Ty.dflt tA5)).1)) fun r2 => (iteB (r2 != x3) (some false) (gate k (spec_UnitsOk.j7 k n x0 x3 (List.getD x0 (Int.toNat x3) (Ty.dflt tA5)))))) (some false))) (none)) (none)) (some (decide (((List.length x0) : Int) ≤ 80))) := by kernel_rfl
theorem spec_UnitsOk.j7_e (k m2 : Nat) (x0 : List (ByteArray × Int × Int × (List (Int × Int × Int × Int × Int × ByteArray × (List Int) × Unit)) × Unit)) (x3 : Int) (y0_0 : ByteArray × Int × Int × (List (Int × Int × Int × Int × Int × ByteArray × (List Int) × Unit)) × Unit) : spec_UnitsOk.j7 k m2 x0 x3 y0_0 =
  spec_UnitsOk.l8 k m2 k x0 x3 0 y0_0 := by kernel_rfl
theorem spec_UnitsOk.l8_0 (k m2 : Nat) (x0 : List (ByteArray × Int × Int × (List (Int × Int × Int × Int × Int × ByteArray × (List Int) × Unit)) × Unit)) (x3 : Int) (x5 : Int) (y0_0 : ByteArray × Int × Int × (List (Int × Int × Int × Int × Int × ByteArray × (List Int) × Unit)) × Unit) : spec_UnitsOk.l8 k m2 0 x0 x3 x5 y0_0 = none := by kernel_rfl
theorem spec_UnitsOk.l8_s (k m2 n : Nat) (x0 : List (ByteArray × Int × Int × (List (Int × Int × Int × Int × Int × ByteArray × (List Int) × Unit)) × Unit)) (x3 : Int) (x5 : Int) (y0_0 : ByteArray × Int × Int × (List (Int × Int × Int × Int × Int × ByteArray × (List Int) × Unit)) × Unit) : spec_UnitsOk.l8 k m2 (n + 1) x0 x3 x5 y0_0 =
  iteB (decide (x5 < ((List.length y0_0.2.2.2.1) : Int))) (iteB (decide (0 ≤ x5)) (iteB (decide (x5 < ((List.length y0_0.2.2.2.1) : Int))) (iteB (((List.getD y0_0.2.2.2.1 (Int.toNat x5) (Ty.dflt tA4)).1) != 11) (iteB (((List.getD y0_0.2.2.2.1 (Int.toNat x5) (Ty.dflt tA4)).1) != 14) (iteB (((List.getD y0_0.2.2.2.1 (Int.toNat x5) (Ty.dflt tA4)).1) != 24) (spec_UnitsOk.l8 k m2 n x0 x3 (IntKind.wrap .i64 (x5 + 1)) y0_0) (gate k (spec_UnitsOk.j12 k m2 n x0 x3 x5 y0_0 (List.getD y0_0.2.2.2.1 (Int.toNat x5) (Ty.dflt tA4))))) (gate k (spec_UnitsOk.j12 k m2 n x0 x3 x5 y0_0 (List.getD y0_0.2.2.2.1 (Int.toNat x5) (Ty.dflt tA4))))) (gate k (spec_UnitsOk.j12 k m2 n x0 x3 x5 y0_0 (List.getD y0_0.2.2.2.1 (Int.toNat x5) (Ty.dflt tA4))))) (none)) (none)) (spec_UnitsOk.l2 k m2 x0 (IntKind.wrap .i64 (x3 + 1))) := by kernel_rfl
theorem spec_UnitsOk.j12_e (k m2 m8 : Nat) (x0 : List (ByteArray × Int × Int × (List (Int × Int × Int × Int × Int × ByteArray × (List Int) × Unit)) × Unit)) (x3 : Int) (x5 : Int) (y0_0 : ByteArray × Int × Int × (List (Int × Int × Int × Int × Int × ByteArray × (List Int) × Unit)) × Unit) (y1_0 : Int × Int × Int × Int × Int × ByteArray × (List Int) × Unit) : spec_UnitsOk.j12 k m2 m8 x0 x3 x5 y0_0 y1_0 =
  bindO (spec_l10Unit k x0 y1_0.2.2.2.2.2.1) fun r3 => (iteB (!(decide (r3 < 0))) (iteB (y1_0.1 != 24) (iteB (decide (0 ≤ r3)) (iteB (decide (r3 < ((List.length x0) : Int))) (iteB ((((List.getD x0 (Int.toNat r3) (Ty.dflt tA5)).2).1) != ((List.length y1_0.2.2.2.2.2.2.1) : Int)) (some false) (spec_UnitsOk.l8 k m2 m8 x0 x3 (IntKind.wrap .i64 (x5 + 1)) y0_0)) (none)) (none)) (spec_UnitsOk.l8 k m2 m8 x0 x3 (IntKind.wrap .i64 (x5 + 1)) y0_0)) (some false)) := by kernel_rfl
theorem spec_UnitsOk_e (k : Nat) (a1 : List (ByteArray × Int × Int × (List (Int × Int × Int × Int × Int × ByteArray × (List Int) × Unit)) × Unit)) : spec_UnitsOk k a1 =
  spec_UnitsOk.l2 k k a1 0 := by kernel_rfl
theorem E_spec_UnitsOk_calls (k : Nat) : CallsOk Try.prog (E_spec_UnitsOk k) (arun Try.prog (E_spec_UnitsOk k) k) := by
  refine told_run (tyTOk _ _) ?_ (fun run h => regOk (tyTOk _ _) mixOk h) ?_ nameOk k
  · intro g m hg
    simp only [E_spec_UnitsOk] at hg
    split at hg
    · cases hg
      refine con_byVal fun ρ l K x hm => ?_
      split at hm
      · obtain ⟨c1, h1, hm⟩ := Option.bind_eq_some_iff.1 hm
        obtain ⟨r, hr, hm⟩ := Option.bind_eq_some_iff.1 hm
        exact ⟨_, hm, LawV.reads (.cons (.as h1) .nil) (spec_UnitOk_law k c1 r hr)⟩
      · cases hm
    · cases hg
      refine con_byVal fun ρ l K x hm => ?_
      split at hm
      · obtain ⟨c1, h1, hm⟩ := Option.bind_eq_some_iff.1 hm
        obtain ⟨c2, h2, hm⟩ := Option.bind_eq_some_iff.1 hm
        obtain ⟨r, hr, hm⟩ := Option.bind_eq_some_iff.1 hm
        exact ⟨_, hm, LawV.reads (.cons (.as h1) (.cons (.as h2) .nil)) (spec_l10Unit_law k c1 c2 r hr)⟩
      · cases hm
    · cases hg; exact noCon_ok
    · cases hg
  · intro g hg r
    by_cases h : g = 15
    · subst h; simp [E_spec_UnitsOk] at hg
    · simp [E_spec_UnitsOk, h]
theorem f15_okspec_UnitsOk : Try.prog.funcs[15]? = some Try.f15 := by kernel_rfl
theorem spec_UnitsOk_law (k : Nat) (a1 : List (ByteArray × Int × Int × (List (Int × Int × Int × Int × Int × ByteArray × (List Int) × Unit)) × Unit)) (x : Bool) (h : spec_UnitsOk k a1 = some x) : LawV Try.prog 15 [.tv (.row tA5) a1] (tvn .bool x) := by
  unfold spec_UnitsOk at h
  exact law1 (t := .bool) (tyTOk _ _) (E_spec_UnitsOk_calls k) mixOk f15_okspec_UnitsOk (nameOk _ _ f15_okspec_UnitsOk) (by kernel_rfl) h
/-! spec.l10Tac -/
noncomputable def E_spec_l10Tac (k : Nat) : Env := ⟨tyD, fun _ => none, fun _ _ => none⟩
noncomputable def spec_l10Tac (k : Nat) (a1 : Int × Int × Int × Int × Int × ByteArray × (List Int) × Unit) : Option (Int × Int × Int × Int × Int × ByteArray × (List Int) × Unit) :=
  abody (E_spec_l10Tac k) (arun Try.prog (E_spec_l10Tac k) k) k 75 Try.f75 [.tv tA4 a1] [] (finD tA4)
theorem spec_l10Tac_e (k : Nat) (a1 : Int × Int × Int × Int × Int × ByteArray × (List Int) × Unit) : spec_l10Tac k a1 =
  iteB (decide ((List.length ([] ++ a1.2.2.2.2.2.2.1)) * 8 ≤ lim)) (some (a1.1, a1.2.1, a1.2.2.1, a1.2.2.2.1, a1.2.2.2.2.1, a1.2.2.2.2.2.1, [] ++ a1.2.2.2.2.2.2.1, ())) (none) := by kernel_rfl
theorem E_spec_l10Tac_calls (k : Nat) : CallsOk Try.prog (E_spec_l10Tac k) (arun Try.prog (E_spec_l10Tac k) k) := by
  refine told_run (tyDTOk _ _) ?_ (fun run h => regOk (tyDTOk _ _) mixOk h) ?_ nameOk k
  · intro g m hg
    cases hg
  · intro g _ r; rfl
theorem f75_okspec_l10Tac : Try.prog.funcs[75]? = some Try.f75 := by kernel_rfl
theorem spec_l10Tac_law (k : Nat) (a1 : Int × Int × Int × Int × Int × ByteArray × (List Int) × Unit) (x : Int × Int × Int × Int × Int × ByteArray × (List Int) × Unit) (h : spec_l10Tac k a1 = some x) : LawD Try.prog 75 [.tv tA4 a1] tA4 x := by
  unfold spec_l10Tac at h
  exact lawD (t := tA4) (tyDTOk _ _) (E_spec_l10Tac_calls k) mixOk f75_okspec_l10Tac (nameOk _ _ f75_okspec_l10Tac) (by kernel_rfl) h
/-! spec.l10Code -/
noncomputable def E_spec_l10Code (k : Nat) : Env := ⟨tyD, fun g => match g with
  | 75 => some (byNew tA4 fun ρ l K => match l with
    | [b1] => (b1.as tA4).bind fun c1 => (spec_l10Tac k c1).bind fun r => K r
    | _ => none)
  | 58 => some noCon
  | _ => none, fun f r => match f with | 58 => (match r with | 3 => some [0, 3, 4] | _ => none) | _ => none⟩
noncomputable def spec_l10Code (k : Nat) (a1 : List (Int × Int × Int × Int × Int × ByteArray × (List Int) × Unit)) : Option (List (Int × Int × Int × Int × Int × ByteArray × (List Int) × Unit)) :=
  abody (E_spec_l10Code k) (arun Try.prog (E_spec_l10Code k) k) k 58 Try.f58 [.tv (.row tA4) a1] [] (finD (.row tA4))
noncomputable def spec_l10Code.l3 (k n : Nat) (x0 : List (Int × Int × Int × Int × Int × ByteArray × (List Int) × Unit)) (x4 : Int) : Option (List (Int × Int × Int × Int × Int × ByteArray × (List Int) × Unit)) :=
  resume (E_spec_l10Code k) 58 (acall (E_spec_l10Code k) (arun Try.prog (E_spec_l10Code k) k)) k [true, true, false, true, true] [n] (bodyOf Try.f58) ⟨[.tv (.row tA4) x0, .undef, .undef, .sl 0, .int .i64 x4, .undef, .undef, .undef, .undef, .undef, .undef, .undef, .undef, .undef, .undef, .undef, .undef, .undef, .undef, .undef, .undef], [some ⟨.typed tA4 [], true⟩]⟩ (leave (E_spec_l10Code k) Try.f58 (finD (.row tA4)))
noncomputable def spec_l10Code.l3b (k n : Nat) (x0 : List (Int × Int × Int × Int × Int × ByteArray × (List Int) × Unit)) (x4 : Int) (y0 : List (Int × Int × Int × Int × Int × ByteArray × (List Int) × Unit)) : Option (List (Int × Int × Int × Int × Int × ByteArray × (List Int) × Unit)) :=
  resume (E_spec_l10Code k) 58 (acall (E_spec_l10Code k) (arun Try.prog (E_spec_l10Code k) k)) k [true, true, false, true, true] [n] (bodyOf Try.f58) ⟨[.tv (.row tA4) x0, .undef, .undef, .sl 0, .int .i64 x4, .undef, .undef, .undef, .undef, .undef, .undef, .undef, .undef, .undef, .undef, .undef, .undef, .undef, .undef, .undef, .undef], [some ⟨.deep false tA4 y0, false⟩]⟩ (leave (E_spec_l10Code k) Try.f58 (finD (.row tA4)))
theorem spec_l10Code.l3_0 (k : Nat) (x0 : List (Int × Int × Int × Int × Int × ByteArray × (List Int) × Unit)) (x4 : Int) : spec_l10Code.l3 k 0 x0 x4 = none := by kernel_rfl
theorem spec_l10Code.l3_s (k n : Nat) (x0 : List (Int × Int × Int × Int × Int × ByteArray × (List Int) × Unit)) (x4 : Int) : spec_l10Code.l3 k (n + 1) x0 x4 =
  iteB (decide (x4 < ((List.length x0) : Int))) (iteB (decide (0 ≤ x4)) (iteB (decide (x4 < ((List.length x0) : Int))) (bindO (spec_l10Tac k (List.getD x0 (Int.toNat x4) (Ty.dflt tA4))) fun r1 => (iteB (decide ((List.length ([] ++ [(r1.1, r1.2.1, r1.2.2.1, r1.2.2.2.1, r1.2.2.2.2.1, r1.2.2.2.2.2.1, r1.2.2.2.2.2.2.1, ())])) * 80 ≤ lim)) (spec_l10Code.l3b k n x0 (IntKind.wrap .i64 (x4 + 1)) ([] ++ [(r1.1, r1.2.1, r1.2.2.1, r1.2.2.2.1, r1.2.2.2.2.1, r1.2.2.2.2.2.1, r1.2.2.2.2.2.2.1, ())])) (none))) (none)) (none)) (some []) := by kernel_rfl
theorem spec_l10Code.l3b_0 (k : Nat) (x0 : List (Int × Int × Int × Int × Int × ByteArray × (List Int) × Unit)) (x4 : Int) (y0 : List (Int × Int × Int × Int × Int × ByteArray × (List Int) × Unit)) : spec_l10Code.l3b k 0 x0 x4 y0 = none := by kernel_rfl
theorem spec_l10Code.l3b_s (k n : Nat) (x0 : List (Int × Int × Int × Int × Int × ByteArray × (List Int) × Unit)) (x4 : Int) (y0 : List (Int × Int × Int × Int × Int × ByteArray × (List Int) × Unit)) : spec_l10Code.l3b k (n + 1) x0 x4 y0 =
  iteB (decide (x4 < ((List.length x0) : Int))) (iteB (decide (0 ≤ x4)) (iteB (decide (x4 < ((List.length x0) : Int))) (bindO (spec_l10Tac k (List.getD x0 (Int.toNat x4) (Ty.dflt tA4))) fun r2 => (iteB (decide ((List.length (y0 ++ [(r2.1, r2.2.1, r2.2.2.1, r2.2.2.2.1, r2.2.2.2.2.1, r2.2.2.2.2.2.1, r2.2.2.2.2.2.2.1, ())])) * 80 ≤ lim)) (spec_l10Code.l3b k n x0 (IntKind.wrap .i64 (x4 + 1)) (y0 ++ [(r2.1, r2.2.1, r2.2.2.1, r2.2.2.2.1, r2.2.2.2.2.1, r2.2.2.2.2.2.1, r2.2.2.2.2.2.2.1, ())])) (none))) (none)) (none)) (some y0) := by kernel_rfl
theorem spec_l10Code_e (k : Nat) (a1 : List (Int × Int × Int × Int × Int × ByteArray × (List Int) × Unit)) : spec_l10Code k a1 =
  spec_l10Code.l3 k k a1 0 := by kernel_rfl
theorem E_spec_l10Code_calls (k : Nat) : CallsOk Try.prog (E_spec_l10Code k) (arun Try.prog (E_spec_l10Code k) k) := by
  refine told_run (tyDTOk _ _) ?_ (fun run h => regOk (tyDTOk _ _) mixOk h) ?_ nameOk k
  · intro g m hg
    simp only [E_spec_l10Code] at hg
    split at hg
    · cases hg
      refine con_byNew fun ρ l K x hm => ?_
      split at hm
      · obtain ⟨c1, h1, hm⟩ := Option.bind_eq_some_iff.1 hm
        obtain ⟨r, hr, hm⟩ := Option.bind_eq_some_iff.1 hm
        exact ⟨_, hm, LawD.reads (.cons (.as h1) .nil) (spec_l10Tac_law k c1 r hr)⟩
      · cases hm
    · cases hg; exact noCon_ok
    · cases hg
  · intro g hg r
    by_cases h : g = 58
    · subst h; simp [E_spec_l10Code] at hg
    · simp [E_spec_l10Code, h]
theorem f58_okspec_l10Code : Try.prog.funcs[58]? = some Try.f58 := by kernel_rfl
theorem spec_l10Code_law (k : Nat) (a1 : List (Int × Int × Int × Int × Int × ByteArray × (List Int) × Unit)) (x : List (Int × Int × Int × Int × Int × ByteArray × (List Int) × Unit)) (h : spec_l10Code k a1 = some x) : LawD Try.prog 58 [.tv (.row tA4) a1] (.row tA4) x := by
  unfold spec_l10Code at h
  exact lawD (t := (.row tA4)) (tyDTOk _ _) (E_spec_l10Code_calls k) mixOk f58_okspec_l10Code (nameOk _ _ f58_okspec_l10Code) (by kernel_rfl) h
/-! spec.l10Copy -/
noncomputable def E_spec_l10Copy (k : Nat) : Env := ⟨tyD, fun g => match g with
  | 58 => some (byNew (.row tA4) fun ρ l K => match l with
    | [b1] => (b1.as (.row tA4)).bind fun c1 => (spec_l10Code k c1).bind fun r => K r
    | _ => none)
  | _ => none, fun _ _ => none⟩
noncomputable def spec_l10Copy (k : Nat) (a1 : ByteArray × Int × Int × (List (Int × Int × Int × Int × Int × ByteArray × (List Int) × Unit)) × Unit) : Option (ByteArray × Int × Int × (List (Int × Int × Int × Int × Int × ByteArray × (List Int) × Unit)) × Unit) :=
  abody (E_spec_l10Copy k) (arun Try.prog (E_spec_l10Copy k) k) k 38 Try.f38 [.tv tA5 a1] [] (finD tA5)
theorem spec_l10Copy_e (k : Nat) (a1 : ByteArray × Int × Int × (List (Int × Int × Int × Int × Int × ByteArray × (List Int) × Unit)) × Unit) : spec_l10Copy k a1 =
  bindO (spec_l10Code k a1.2.2.2.1) fun r1 => (some (a1.1, a1.2.1, a1.2.2.1, r1, ())) := by kernel_rfl
theorem E_spec_l10Copy_calls (k : Nat) : CallsOk Try.prog (E_spec_l10Copy k) (arun Try.prog (E_spec_l10Copy k) k) := by
  refine told_run (tyDTOk _ _) ?_ (fun run h => regOk (tyDTOk _ _) mixOk h) ?_ nameOk k
  · intro g m hg
    simp only [E_spec_l10Copy] at hg
    split at hg
    · cases hg
      refine con_byNew fun ρ l K x hm => ?_
      split at hm
      · obtain ⟨c1, h1, hm⟩ := Option.bind_eq_some_iff.1 hm
        obtain ⟨r, hr, hm⟩ := Option.bind_eq_some_iff.1 hm
        exact ⟨_, hm, LawD.reads (.cons (.as h1) .nil) (spec_l10Code_law k c1 r hr)⟩
      · cases hm
    · cases hg
  · intro g _ r; rfl
theorem f38_okspec_l10Copy : Try.prog.funcs[38]? = some Try.f38 := by kernel_rfl
theorem spec_l10Copy_law (k : Nat) (a1 : ByteArray × Int × Int × (List (Int × Int × Int × Int × Int × ByteArray × (List Int) × Unit)) × Unit) (x : ByteArray × Int × Int × (List (Int × Int × Int × Int × Int × ByteArray × (List Int) × Unit)) × Unit) (h : spec_l10Copy k a1 = some x) : LawD Try.prog 38 [.tv tA5 a1] tA5 x := by
  unfold spec_l10Copy at h
  exact lawD (t := tA5) (tyDTOk _ _) (E_spec_l10Copy_calls k) mixOk f38_okspec_l10Copy (nameOk _ _ f38_okspec_l10Copy) (by kernel_rfl) h
/-! spec.l10Units -/
noncomputable def E_spec_l10Units (k : Nat) : Env := ⟨tyD, fun g => match g with
  | 38 => some (byNew tA5 fun ρ l K => match l with
    | [b1] => (b1.as tA5).bind fun c1 => (spec_l10Copy k c1).bind fun r => K r
    | _ => none)
  | 16 => some noCon
  | _ => none, fun f r => match f with | 16 => (match r with | 3 => some [0, 3, 4] | _ => none) | _ => none⟩
noncomputable def spec_l10Units (k : Nat) (a1 : List (ByteArray × Int × Int × (List (Int × Int × Int × Int × Int × ByteArray × (List Int) × Unit)) × Unit)) : Option (List (ByteArray × Int × Int × (List (Int × Int × Int × Int × Int × ByteArray × (List Int) × Unit)) × Unit)) :=
  abody (E_spec_l10Units k) (arun Try.prog (E_spec_l10Units k) k) k 16 Try.f16 [.tv (.row tA5) a1] [] (finD (.row tA5))
noncomputable def spec_l10Units.l3 (k n : Nat) (x0 : List (ByteArray × Int × Int × (List (Int × Int × Int × Int × Int × ByteArray × (List Int) × Unit)) × Unit)) (x4 : Int) : Option (List (ByteArray × Int × Int × (List (Int × Int × Int × Int × Int × ByteArray × (List Int) × Unit)) × Unit)) :=
  resume (E_spec_l10Units k) 16 (acall (E_spec_l10Units k) (arun Try.prog (E_spec_l10Units k) k)) k [true, true, false, true, true] [n] (bodyOf Try.f16) ⟨[.tv (.row tA5) x0, .undef, .undef, .sl 0, .int .i64 x4, .undef, .undef, .undef, .undef, .undef, .undef, .undef, .undef, .undef, .undef, .undef, .undef, .undef, .undef, .undef, .undef], [some ⟨.typed tA5 [], true⟩]⟩ (leave (E_spec_l10Units k) Try.f16 (finD (.row tA5)))
noncomputable def spec_l10Units.l3b (k n : Nat) (x0 : List (ByteArray × Int × Int × (List (Int × Int × Int × Int × Int × ByteArray × (List Int) × Unit)) × Unit)) (x4 : Int) (y0 : List (ByteArray × Int × Int × (List (Int × Int × Int × Int × Int × ByteArray × (List Int) × Unit)) × Unit)) : Option (List (ByteArray × Int × Int × (List (Int × Int × Int × Int × Int × ByteArray × (List Int) × Unit)) × Unit)) :=
  resume (E_spec_l10Units k) 16 (acall (E_spec_l10Units k) (arun Try.prog (E_spec_l10Units k) k)) k [true, true, false, true, true] [n] (bodyOf Try.f16) ⟨[.tv (.row tA5) x0, .undef, .undef, .sl 0, .int .i64 x4, .undef, .undef, .undef, .undef, .undef, .undef, .undef, .undef, .undef, .undef, .undef, .undef, .undef, .undef, .undef, .undef], [some ⟨.deep false tA5 y0, false⟩]⟩ (leave (E_spec_l10Units k) Try.f16 (finD (.row tA5)))
theorem spec_l10Units.l3_0 (k : Nat) (x0 : List (ByteArray × Int × Int × (List (Int × Int × Int × Int × Int × ByteArray × (List Int) × Unit)) × Unit)) (x4 : Int) : spec_l10Units.l3 k 0 x0 x4 = none := by kernel_rfl
theorem spec_l10Units.l3_s (k n : Nat) (x0 : List (ByteArray × Int × Int × (List (Int × Int × Int × Int × Int × ByteArray × (List Int) × Unit)) × Unit)) (x4 : Int) : spec_l10Units.l3 k (n + 1) x0 x4 =
  iteB (decide (x4 < ((List.length x0) : Int))) (iteB (decide (0 ≤ x4)) (iteB (decide (x4 < ((List.length x0) : Int))) (bindO (spec_l10Copy k (List.getD x0 (Int.toNat x4) (Ty.dflt tA5))) fun r1 => (iteB (decide ((List.length ([] ++ [(r1.1, r1.2.1, r1.2.2.1, r1.2.2.2.1, ())])) * 56 ≤ lim)) (spec_l10Units.l3b k n x0 (IntKind.wrap .i64 (x4 + 1)) ([] ++ [(r1.1, r1.2.1, r1.2.2.1, r1.2.2.2.1, ())])) (none))) (none)) (none)) (some []) := by kernel_rfl
theorem spec_l10Units.l3b_0 (k : Nat) (x0 : List (ByteArray × Int × Int × (List (Int × Int × Int × Int × Int × ByteArray × (List Int) × Unit)) × Unit)) (x4 : Int) (y0 : List (ByteArray × Int × Int × (List (Int × Int × Int × Int × Int × ByteArray × (List Int) × Unit)) × Unit)) : spec_l10Units.l3b k 0 x0 x4 y0 = none := by kernel_rfl
theorem spec_l10Units.l3b_s (k n : Nat) (x0 : List (ByteArray × Int × Int × (List (Int × Int × Int × Int × Int × ByteArray × (List Int) × Unit)) × Unit)) (x4 : Int) (y0 : List (ByteArray × Int × Int × (List (Int × Int × Int × Int × Int × ByteArray × (List Int) × Unit)) × Unit)) : spec_l10Units.l3b k (n + 1) x0 x4 y0 =
  iteB (decide (x4 < ((List.length x0) : Int))) (iteB (decide (0 ≤ x4)) (iteB (decide (x4 < ((List.length x0) : Int))) (bindO (spec_l10Copy k (List.getD x0 (Int.toNat x4) (Ty.dflt tA5))) fun r2 => (iteB (decide ((List.length (y0 ++ [(r2.1, r2.2.1, r2.2.2.1, r2.2.2.2.1, ())])) * 56 ≤ lim)) (spec_l10Units.l3b k n x0 (IntKind.wrap .i64 (x4 + 1)) (y0 ++ [(r2.1, r2.2.1, r2.2.2.1, r2.2.2.2.1, ())])) (none))) (none)) (none)) (some y0) := by kernel_rfl
theorem spec_l10Units_e (k : Nat) (a1 : List (ByteArray × Int × Int × (List (Int × Int × Int × Int × Int × ByteArray × (List Int) × Unit)) × Unit)) : spec_l10Units k a1 =
  spec_l10Units.l3 k k a1 0 := by kernel_rfl
theorem E_spec_l10Units_calls (k : Nat) : CallsOk Try.prog (E_spec_l10Units k) (arun Try.prog (E_spec_l10Units k) k) := by
  refine told_run (tyDTOk _ _) ?_ (fun run h => regOk (tyDTOk _ _) mixOk h) ?_ nameOk k
  · intro g m hg
    simp only [E_spec_l10Units] at hg
    split at hg
    · cases hg
      refine con_byNew fun ρ l K x hm => ?_
      split at hm
      · obtain ⟨c1, h1, hm⟩ := Option.bind_eq_some_iff.1 hm
        obtain ⟨r, hr, hm⟩ := Option.bind_eq_some_iff.1 hm
        exact ⟨_, hm, LawD.reads (.cons (.as h1) .nil) (spec_l10Copy_law k c1 r hr)⟩
      · cases hm
    · cases hg; exact noCon_ok
    · cases hg
  · intro g hg r
    by_cases h : g = 16
    · subst h; simp [E_spec_l10Units] at hg
    · simp [E_spec_l10Units, h]
theorem f16_okspec_l10Units : Try.prog.funcs[16]? = some Try.f16 := by kernel_rfl
theorem spec_l10Units_law (k : Nat) (a1 : List (ByteArray × Int × Int × (List (Int × Int × Int × Int × Int × ByteArray × (List Int) × Unit)) × Unit)) (x : List (ByteArray × Int × Int × (List (Int × Int × Int × Int × Int × ByteArray × (List Int) × Unit)) × Unit)) (h : spec_l10Units k a1 = some x) : LawD Try.prog 16 [.tv (.row tA5) a1] (.row tA5) x := by
  unfold spec_l10Units at h
  exact lawD (t := (.row tA5)) (tyDTOk _ _) (E_spec_l10Units_calls k) mixOk f16_okspec_l10Units (nameOk _ _ f16_okspec_l10Units) (by kernel_rfl) h
/-! spec.l13New -/
noncomputable def E_spec_l13New (k : Nat) : Env := ⟨tyD, fun g => match g with
  | 17 => some noCon
  | _ => none, fun f r => match f with | 17 => (match r with | 2 => some [1, 3, 6, 7] | _ => none) | _ => none⟩
noncomputable def spec_l13New (k : Nat) (a1 : (List (ByteArray × Int × Int × (List (Int × Int × Int × Int × Int × ByteArray × (List Int) × Unit)) × Unit)) × (List ((List (Int × Int × (List Int) × Int × Unit)) × Bool × Bool × Int × Int × Int × Int × Int × Unit)) × (List (Int × Bool × (List Int) × (List (Int × Int × Int × Int × Unit)) × (List (Int × Int × Int × Int × Unit)) × Unit)) × (List Int) × Bool × Int × Unit) (a2 : Int) (a3 : List Int) : Option ((List (Int × Int × (List Int) × Int × Unit)) × Bool × Bool × Int × Int × Int × Int × Int × Unit) :=
  abody (E_spec_l13New k) (arun Try.prog (E_spec_l13New k) k) k 17 Try.f17 [.tv (.pair (.row tA5) (.pair (.row tA2) (.pair (.row tA3) (.pair (.row (.int .i64)) (.pair .bool (.pair (.int .i64) .unit)))))) a1, .int .i64 a2, .tv (.row (.int .i64)) a3] [] (finD tA2)
noncomputable def spec_l13New.l2 (k n : Nat) (x1 : Int) (y0_0 : (List (ByteArray × Int × Int × (List (Int × Int × Int × Int × Int × ByteArray × (List Int) × Unit)) × Unit)) × (List ((List (Int × Int × (List Int) × Int × Unit)) × Bool × Bool × Int × Int × Int × Int × Int × Unit)) × (List (Int × Bool × (List Int) × (List (Int × Int × Int × Int × Unit)) × (List (Int × Int × Int × Int × Unit)) × Unit)) × (List Int) × Bool × Int × Unit) (y1_0_1 : Bool) (y1_0_2 : Bool) (y1_0_3 : Int) (y1_0_4 : Int) (y1_0_5 : Int) (y1_0_6 : Int) (y1_0_7 : Int) (y2 : List Int) : Option ((List (Int × Int × (List Int) × Int × Unit)) × Bool × Bool × Int × Int × Int × Int × Int × Unit) :=
  resume (E_spec_l13New k) 17 (acall (E_spec_l13New k) (arun Try.prog (E_spec_l13New k) k)) k [true, true, false, true] [n] (bodyOf Try.f17) ⟨[.undef, .int .i64 x1, .undef, .ptr 0 0 0, .undef, .undef, .ptr 1 0 0, .sl 2, .undef, .undef, .undef, .undef, .undef, .undef, .undef, .undef, .undef, .undef, .undef, .undef, .undef, .undef, .undef, .undef, .undef, .undef, .undef, .undef], [some ⟨.raw true 6 (.agg [.nils, .nils, .nils, .nils, .bool false, .int .i64 0]) [.tv (.pair (.row tA5) (.pair (.row tA2) (.pair (.row tA3) (.pair (.row (.int .i64)) (.pair .bool (.pair (.int .i64) .unit)))))) y0_0], true⟩, some ⟨.raw true 8 (.agg [.nils, .bool false, .bool false, .int .i64 0, .int .i64 0, .int .i64 0, .int .i64 0, .int .i64 0]) [.agg [.nils, .bool y1_0_1, .bool y1_0_2, .int .i64 y1_0_3, .int .i64 y1_0_4, .int .i64 y1_0_5, .int .i64 y1_0_6, .int .i64 y1_0_7]], true⟩, some ⟨.typed (.int .i64) y2, false⟩]⟩ (leave (E_spec_l13New k) Try.f17 (finD tA2))
theorem spec_l13New.l2_0 (k : Nat) (x1 : Int) (y0_0 : (List (ByteArray × Int × Int × (List (Int × Int × Int × Int × Int × ByteArray × (List Int) × Unit)) × Unit)) × (List ((List (Int × Int × (List Int) × Int × Unit)) × Bool × Bool × Int × Int × Int × Int × Int × Unit)) × (List (Int × Bool × (List Int) × (List (Int × Int × Int × Int × Unit)) × (List (Int × Int × Int × Int × Unit)) × Unit)) × (List Int) × Bool × Int × Unit) (y1_0_1 : Bool) (y1_0_2 : Bool) (y1_0_3 : Int) (y1_0_4 : Int) (y1_0_5 : Int) (y1_0_6 : Int) (y1_0_7 : Int) (y2 : List Int) : spec_l13New.l2 k 0 x1 y0_0 y1_0_1 y1_0_2 y1_0_3 y1_0_4 y1_0_5 y1_0_6 y1_0_7 y2 = none := by kernel_rfl
theorem spec_l13New.l2_s (k n : Nat) (x1 : Int) (y0_0 : (List (ByteArray × Int × Int × (List (Int × Int × Int × Int × Int × ByteArray × (List Int) × Unit)) × Unit)) × (List ((List (Int × Int × (List Int) × Int × Unit)) × Bool × Bool × Int × Int × Int × Int × Int × Unit)) × (List (Int × Bool × (List Int) × (List (Int × Int × Int × Int × Unit)) × (List (Int × Int × Int × Int × Unit)) × Unit)) × (List Int) × Bool × Int × Unit) (y1_0_1 : Bool) (y1_0_2 : Bool) (y1_0_3 : Int) (y1_0_4 : Int) (y1_0_5 : Int) (y1_0_6 : Int) (y1_0_7 : Int) (y2 : List Int) : spec_l13New.l2 k (n + 1) x1 y0_0 y1_0_1 y1_0_2 y1_0_3 y1_0_4 y1_0_5 y1_0_6 y1_0_7 y2 =
  iteB (decide (0 ≤ x1)) (iteB (decide (x1 < ((List.length y0_0.1) : Int))) (iteB (decide (((List.length y2) : Int) < (((List.getD y0_0.1 (Int.toNat x1) (Ty.dflt tA5)).2).2).1)) (iteB (decide ((List.length (y2 ++ [0])) * 8 ≤ lim)) (spec_l13New.l2 k n x1 y0_0 y1_0_1 y1_0_2 y1_0_3 y1_0_4 y1_0_5 y1_0_6 y1_0_7 (y2 ++ [0])) (none)) (some ([(x1, 0, y2, (-1), ())], false, false, 1, 0, 0, (-1), (-1), ()))) (none)) (none) := by kernel_rfl
theorem spec_l13New_e (k : Nat) (a1 : (List (ByteArray × Int × Int × (List (Int × Int × Int × Int × Int × ByteArray × (List Int) × Unit)) × Unit)) × (List ((List (Int × Int × (List Int) × Int × Unit)) × Bool × Bool × Int × Int × Int × Int × Int × Unit)) × (List (Int × Bool × (List Int) × (List (Int × Int × Int × Int × Unit)) × (List (Int × Int × Int × Int × Unit)) × Unit)) × (List Int) × Bool × Int × Unit) (a2 : Int) (a3 : List Int) : spec_l13New k a1 a2 a3 =
  iteB (decide ((List.length ([] ++ a3)) * 8 ≤ lim)) (spec_l13New.l2 k k a2 a1 false false 0 0 0 0 0 ([] ++ a3)) (none) := by kernel_rfl
theorem E_spec_l13New_calls (k : Nat) : CallsOk Try.prog (E_spec_l13New k) (arun Try.prog (E_spec_l13New k) k) := by
  refine told_run (tyDTOk _ _) ?_ (fun run h => regOk (tyDTOk _ _) mixOk h) ?_ nameOk k
  · intro g m hg
    simp only [E_spec_l13New] at hg
    split at hg
    · cases hg; exact noCon_ok
    · cases hg
  · intro g hg r
    by_cases h : g = 17
    · subst h; simp [E_spec_l13New] at hg
    · simp [E_spec_l13New, h]
theorem f17_okspec_l13New : Try.prog.funcs[17]? = some Try.f17 := by kernel_rfl
theorem spec_l13New_law (k : Nat) (a1 : (List (ByteArray × Int × Int × (List (Int × Int × Int × Int × Int × ByteArray × (List Int) × Unit)) × Unit)) × (List ((List (Int × Int × (List Int) × Int × Unit)) × Bool × Bool × Int × Int × Int × Int × Int × Unit)) × (List (Int × Bool × (List Int) × (List (Int × Int × Int × Int × Unit)) × (List (Int × Int × Int × Int × Unit)) × Unit)) × (List Int) × Bool × Int × Unit) (a2 : Int) (a3 : List Int) (x : (List (Int × Int × (List Int) × Int × Unit)) × Bool × Bool × Int × Int × Int × Int × Int × Unit) (h : spec_l13New k a1 a2 a3 = some x) : LawD Try.prog 17 [.tv (.pair (.row tA5) (.pair (.row tA2) (.pair (.row tA3) (.pair (.row (.int .i64)) (.pair .bool (.pair (.int .i64) .unit)))))) a1, .int .i64 a2, .tv (.row (.int .i64)) a3] tA2 x := by
  unfold spec_l13New at h
  exact lawD (t := tA2) (tyDTOk _ _) (E_spec_l13New_calls k) mixOk f17_okspec_l13New (nameOk _ _ f17_okspec_l13New) (by kernel_rfl) h
end Go.Proofs.Ytajlenpookikoaa.XFnExactWorldNew
