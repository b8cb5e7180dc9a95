/- Functions of the program as runs of the interpreter: equations, and a law for each. -/
import Derived.Test.YtapijpjgfpjahaaProg
import Derived.Test.YtapijpjgfpjahaaChecked
import Derived.KernelRfl
import Derived.Eval
import Derived.Test.YtapijpjgfpjahaaATyOk
import Derived.Test.YtapijpjgfpjahaaAS32
import Derived.Test.YtapijpjgfpjahaaAMFnExactMachineOk0
open Go Go.AM Go.AMx Go.Proofs
namespace Go.Proofs.Ytapijpjgfpjahaa.XFnExactMachineOk
set_option linter.unusedVariables false
set_option linter.unusedSimpArgs false
/-! laws.toMachine -/
noncomputable def E_laws_toMachine (k : Nat) : Env := ⟨ty, fun g => match g with
  | 74 => some (byVal fun ρ l K => match l with
    | [b1] => (b1.as (.row (.pair (.int .i64) (.pair (.int .i64) (.pair (.int .i64) (.pair (.int .i64) (.pair (.int .i64) (.pair (.int .i64) .unit)))))))).bind fun c1 => (laws_toInsS k c1).bind fun r => K (tvn (.row (.pair (.int .i64) (.pair (.int .i64) (.pair (.int .i64) (.pair (.int .i64) (.pair (.int .i64) (.pair (.int .i64) .unit))))))) r)
    | _ => none)
  | 75 => some (byVal fun ρ l K => match l with
    | [b1] => (b1.as (.row (.int .i64))).bind fun c1 => (laws_toIntS k c1).bind fun r => K (tvn (.row (.int .i64)) r)
    | _ => none)
  | 76 => some (byVal fun ρ l K => match l with
    | [b1] => (b1.as (.row (.pair (.int .i64) (.pair (.int .i64) (.pair (.row (.int .i64)) .unit))))).bind fun c1 => (laws_toCoreS k c1).bind fun r => K (tvn (.row (.pair (.int .i64) (.pair (.int .i64) (.pair (.row (.int .i64)) .unit)))) r)
    | _ => none)
  | 77 => some (byVal fun ρ l K => match l with
    | [b1] => (b1.as (.row (.pair (.int .i64) (.pair (.int .i64) .unit)))).bind fun c1 => (laws_toNoteS k c1).bind fun r => K (tvn (.row (.pair (.int .i64) (.pair (.int .i64) .unit))) r)
    | _ => none)
  | _ => none, fun _ _ => none⟩
noncomputable def laws_toMachine (k : Nat) (a1 : (List (Int × Int × Int × Int × Int × Int × Unit)) × (List Int) × (List (Int × Int × (List Int) × Unit)) × (List Int) × (List (Int × Int × Unit)) × Bool × Int × Unit) : Option ((List (Int × Int × Int × Int × Int × Int × Unit)) × (List Int) × (List (Int × Int × (List Int) × Unit)) × (List Int) × (List (Int × Int × Unit)) × Bool × Int × Unit) :=
  abody (E_laws_toMachine k) (arun Try.prog (E_laws_toMachine k) k) k 14 Try.f14 [.tv (.pair (.row (.pair (.int .i64) (.pair (.int .i64) (.pair (.int .i64) (.pair (.int .i64) (.pair (.int .i64) (.pair (.int .i64) .unit))))))) (.pair (.row (.int .i64)) (.pair (.row (.pair (.int .i64) (.pair (.int .i64) (.pair (.row (.int .i64)) .unit)))) (.pair (.row (.int .i64)) (.pair (.row (.pair (.int .i64) (.pair (.int .i64) .unit))) (.pair .bool (.pair (.int .i64) .unit))))))) a1] [] (fin1 (.pair (.row (.pair (.int .i64) (.pair (.int .i64) (.pair (.int .i64) (.pair (.int .i64) (.pair (.int .i64) (.pair (.int .i64) .unit))))))) (.pair (.row (.int .i64)) (.pair (.row (.pair (.int .i64) (.pair (.int .i64) (.pair (.row (.int .i64)) .unit)))) (.pair (.row (.int .i64)) (.pair (.row (.pair (.int .i64) (.pair (.int .i64) .unit))) (.pair .bool (.pair (.int .i64) .unit))))))))
theorem laws_toMachine_e (k : Nat) (a1 : (List (Int × Int × Int × Int × Int × Int × Unit)) × (List Int) × (List (Int × Int × (List Int) × Unit)) × (List Int) × (List (Int × Int × Unit)) × Bool × Int × Unit) : laws_toMachine k a1 =
  bindO (laws_toInsS k a1.1) fun r1 => (bindO (laws_toIntS k a1.2.1) fun r2 => (bindO (laws_toCoreS k a1.2.2.1) fun r3 => (bindO (laws_toIntS k a1.2.2.2.1) fun r4 => (bindO (laws_toNoteS k a1.2.2.2.2.1) fun r5 => (some (r1, r2, r3, r4, r5, a1.2.2.2.2.2.1, a1.2.2.2.2.2.2.1, ())))))) := by kernel_rfl
theorem E_laws_toMachine_calls (k : Nat) : CallsOk Try.prog (E_laws_toMachine k) (arun Try.prog (E_laws_toMachine k) k) := by
  refine told_run (tyTOk _ _) ?_ (fun run h => regOk (tyTOk _ _) mixOk h) ?_ nameOk k
  · intro g m hg
    simp only [E_laws_toMachine] at hg
    split at hg
    · cases hg
      refine con_byVal fun ρ l K x hm => ?_
      split at hm
      · obtain ⟨c1, h1, hm⟩ := Option.bind_eq_some_iff.1 hm
        obtain ⟨r, hr, hm⟩ := Option.bind_eq_some_iff.1 hm
        exact ⟨_, hm, LawV.reads (.cons (.as h1) .nil) (laws_toInsS_law k c1 r hr)⟩
      · cases hm
    · cases hg
      refine con_byVal fun ρ l K x hm => ?_
      split at hm
      · obtain ⟨c1, h1, hm⟩ := Option.bind_eq_some_iff.1 hm
        obtain ⟨r, hr, hm⟩ := Option.bind_eq_some_iff.1 hm
        exact ⟨_, hm, LawV.reads (.cons (.as h1) .nil) (laws_toIntS_law k c1 r hr)⟩
      · cases hm
    · cases hg
      refine con_byVal fun ρ l K x hm => ?_
      split at hm
      · obtain ⟨c1, h1, hm⟩ := Option.bind_eq_some_iff.1 hm
        obtain ⟨r, hr, hm⟩ := Option.bind_eq_some_iff.1 hm
        exact ⟨_, hm, LawV.reads (.cons (.as h1) .nil) (laws_toCoreS_law k c1 r hr)⟩
      · cases hm
    · cases hg
      refine con_byVal fun ρ l K x hm => ?_
      split at hm
      · obtain ⟨c1, h1, hm⟩ := Option.bind_eq_some_iff.1 hm
        obtain ⟨r, hr, hm⟩ := Option.bind_eq_some_iff.1 hm
        exact ⟨_, hm, LawV.reads (.cons (.as h1) .nil) (laws_toNoteS_law k c1 r hr)⟩
      · cases hm
    · cases hg
  · intro g _ r; rfl
theorem f14_oklaws_toMachine : Try.prog.funcs[14]? = some Try.f14 := by kernel_rfl
theorem laws_toMachine_law (k : Nat) (a1 : (List (Int × Int × Int × Int × Int × Int × Unit)) × (List Int) × (List (Int × Int × (List Int) × Unit)) × (List Int) × (List (Int × Int × Unit)) × Bool × Int × Unit) (x : (List (Int × Int × Int × Int × Int × Int × Unit)) × (List Int) × (List (Int × Int × (List Int) × Unit)) × (List Int) × (List (Int × Int × Unit)) × Bool × Int × Unit) (h : laws_toMachine k a1 = some x) : LawV Try.prog 14 [.tv (.pair (.row (.pair (.int .i64) (.pair (.int .i64) (.pair (.int .i64) (.pair (.int .i64) (.pair (.int .i64) (.pair (.int .i64) .unit))))))) (.pair (.row (.int .i64)) (.pair (.row (.pair (.int .i64) (.pair (.int .i64) (.pair (.row (.int .i64)) .unit)))) (.pair (.row (.int .i64)) (.pair (.row (.pair (.int .i64) (.pair (.int .i64) .unit))) (.pair .bool (.pair (.int .i64) .unit))))))) a1] (tvn (.pair (.row (.pair (.int .i64) (.pair (.int .i64) (.pair (.int .i64) (.pair (.int .i64) (.pair (.int .i64) (.pair (.int .i64) .unit))))))) (.pair (.row (.int .i64)) (.pair (.row (.pair (.int .i64) (.pair (.int .i64) (.pair (.row (.int .i64)) .unit)))) (.pair (.row (.int .i64)) (.pair (.row (.pair (.int .i64) (.pair (.int .i64) .unit))) (.pair .bool (.pair (.int .i64) .unit))))))) x) := by
  unfold laws_toMachine at h
  exact law1 (t := (.pair (.row (.pair (.int .i64) (.pair (.int .i64) (.pair (.int .i64) (.pair (.int .i64) (.pair (.int .i64) (.pair (.int .i64) .unit))))))) (.pair (.row (.int .i64)) (.pair (.row (.pair (.int .i64) (.pair (.int .i64) (.pair (.row (.int .i64)) .unit)))) (.pair (.row (.int .i64)) (.pair (.row (.pair (.int .i64) (.pair (.int .i64) .unit))) (.pair .bool (.pair (.int .i64) .unit)))))))) (tyTOk _ _) (E_laws_toMachine_calls k) mixOk f14_oklaws_toMachine (nameOk _ _ f14_oklaws_toMachine) (by kernel_rfl) h
/-! spec.l1In -/
noncomputable def E_spec_l1In (k : Nat) : Env := ⟨ty, fun _ => none, fun _ _ => none⟩
noncomputable def spec_l1In (k : Nat) (a1 : Int) (a2 : Int) (a3 : Int) : Option (Bool) :=
  abody (E_spec_l1In k) (arun Try.prog (E_spec_l1In k) k) k 69 Try.f69 [.int .i64 a1, .int .i64 a2, .int .i64 a3] [] (fin1 .bool)
theorem spec_l1In_e (k : Nat) (a1 : Int) (a2 : Int) (a3 : Int) : spec_l1In k a1 a2 a3 =
  iteB (decide (a1 ≥ a2)) (some (decide (a1 ≤ a3))) (some false) := by kernel_rfl
theorem E_spec_l1In_calls (k : Nat) : CallsOk Try.prog (E_spec_l1In k) (arun Try.prog (E_spec_l1In k) k) := by
  refine told_run (tyTOk _ _) ?_ (fun run h => regOk (tyTOk _ _) mixOk h) ?_ nameOk k
  · intro g m hg
    cases hg
  · intro g _ r; rfl
theorem f69_okspec_l1In : Try.prog.funcs[69]? = some Try.f69 := by kernel_rfl
theorem spec_l1In_law (k : Nat) (a1 : Int) (a2 : Int) (a3 : Int) (x : Bool) (h : spec_l1In k a1 a2 a3 = some x) : LawV Try.prog 69 [.int .i64 a1, .int .i64 a2, .int .i64 a3] (tvn .bool x) := by
  unfold spec_l1In at h
  exact law1 (t := .bool) (tyTOk _ _) (E_spec_l1In_calls k) mixOk f69_okspec_l1In (nameOk _ _ f69_okspec_l1In) (by kernel_rfl) h
/-! spec.WordOk -/
noncomputable def E_spec_WordOk (k : Nat) : Env := ⟨ty, fun g => match g with
  | 69 => some (byVal fun ρ l K => match l with
    | [b1, b2, b3] => (b1.as (.int .i64)).bind fun c1 => (b2.as (.int .i64)).bind fun c2 => (b3.as (.int .i64)).bind fun c3 => (spec_l1In k c1 c2 c3).bind fun r => K (tvn .bool r)
    | _ => none)
  | _ => none, fun _ _ => none⟩
noncomputable def spec_WordOk (k : Nat) (a1 : Int) : Option (Bool) :=
  abody (E_spec_WordOk k) (arun Try.prog (E_spec_WordOk k) k) k 71 Try.f71 [.int .i64 a1] [] (fin1 .bool)
theorem spec_WordOk_e (k : Nat) (a1 : Int) : spec_WordOk k a1 =
  bindO (spec_l1In k a1 (-2147483648) 2147483647) fun r1 => (some r1) := by kernel_rfl
theorem E_spec_WordOk_calls (k : Nat) : CallsOk Try.prog (E_spec_WordOk k) (arun Try.prog (E_spec_WordOk k) k) := by
  refine told_run (tyTOk _ _) ?_ (fun run h => regOk (tyTOk _ _) mixOk h) ?_ nameOk k
  · intro g m hg
    simp only [E_spec_WordOk] at hg
    split at hg
    · cases hg
      refine con_byVal fun ρ l K x hm => ?_
      split at hm
      · obtain ⟨c1, h1, hm⟩ := Option.bind_eq_some_iff.1 hm
        obtain ⟨c2, h2, hm⟩ := Option.bind_eq_some_iff.1 hm
        obtain ⟨c3, h3, hm⟩ := Option.bind_eq_some_iff.1 hm
        obtain ⟨r, hr, hm⟩ := Option.bind_eq_some_iff.1 hm
        exact ⟨_, hm, LawV.reads (.cons (.as h1) (.cons (.as h2) (.cons (.as h3) .nil))) (spec_l1In_law k c1 c2 c3 r hr)⟩
      · cases hm
    · cases hg
  · intro g _ r; rfl
theorem f71_okspec_WordOk : Try.prog.funcs[71]? = some Try.f71 := by kernel_rfl
theorem spec_WordOk_law (k : Nat) (a1 : Int) (x : Bool) (h : spec_WordOk k a1 = some x) : LawV Try.prog 71 [.int .i64 a1] (tvn .bool x) := by
  unfold spec_WordOk at h
  exact law1 (t := .bool) (tyTOk _ _) (E_spec_WordOk_calls k) mixOk f71_okspec_WordOk (nameOk _ _ f71_okspec_WordOk) (by kernel_rfl) h
/-! spec.l3Words -/
noncomputable def E_spec_l3Words (k : Nat) : Env := ⟨ty, fun g => match g with
  | 71 => some (byVal fun ρ l K => match l with
    | [b1] => (b1.as (.int .i64)).bind fun c1 => (spec_WordOk k c1).bind fun r => K (tvn .bool r)
    | _ => none)
  | 70 => some noCon
  | _ => none, fun f r => match f with | 70 => (match r with | 2 => some [0, 3] | _ => none) | _ => none⟩
noncomputable def spec_l3Words (k : Nat) (a1 : List Int) : Option (Bool) :=
  abody (E_spec_l3Words k) (arun Try.prog (E_spec_l3Words k) k) k 70 Try.f70 [.tv (.row (.int .i64)) a1] [] (fin1 .bool)
noncomputable def spec_l3Words.l2 (k n : Nat) (x0 : List Int) (x3 : Int) : Option (Bool) :=
  resume (E_spec_l3Words k) 70 (acall (E_spec_l3Words k) (arun Try.prog (E_spec_l3Words k) k)) k [true, false, true, true] [n] (bodyOf Try.f70) ⟨[.tv (.row (.int .i64)) x0, .undef, .undef, .int .i64 x3, .undef, .undef, .undef, .undef, .undef, .undef, .undef, .undef, .undef, .undef, .undef, .undef], []⟩ (leave (E_spec_l3Words k) Try.f70 (fin1 .bool))
theorem spec_l3Words.l2_0 (k : Nat) (x0 : List Int) (x3 : Int) : spec_l3Words.l2 k 0 x0 x3 = none := by kernel_rfl
theorem spec_l3Words.l2_s (k n : Nat) (x0 : List Int) (x3 : Int) : spec_l3Words.l2 k (n + 1) x0 x3 =
  iteB (decide (x3 < ((List.length x0) : Int))) (iteB (decide (0 ≤ x3)) (iteB (decide (x3 < ((List.length x0) : Int))) (bindO (spec_WordOk k (List.getD x0 (Int.toNat x3) 0)) fun r1 => (iteB (!r1) (some false) (spec_l3Words.l2 k n x0 (IntKind.wrap .i64 (x3 + 1))))) (none)) (none)) (some true) := by kernel_rfl
theorem spec_l3Words_e (k : Nat) (a1 : List Int) : spec_l3Words k a1 =
  spec_l3Words.l2 k k a1 0 := by kernel_rfl
theorem E_spec_l3Words_calls (k : Nat) : CallsOk Try.prog (E_spec_l3Words k) (arun Try.prog (E_spec_l3Words k) k) := by
  refine told_run (tyTOk _ _) ?_ (fun run h => regOk (tyTOk _ _) mixOk h) ?_ nameOk k
  · intro g m hg
    simp only [E_spec_l3Words] at hg
    split at hg
    · cases hg
      refine con_byVal fun ρ l K x hm => ?_
      split at hm
      · obtain ⟨c1, h1, hm⟩ := Option.bind_eq_some_iff.1 hm
        obtain ⟨r, hr, hm⟩ := Option.bind_eq_some_iff.1 hm
        exact ⟨_, hm, LawV.reads (.cons (.as h1) .nil) (spec_WordOk_law k c1 r hr)⟩
      · cases hm
    · cases hg; exact noCon_ok
    · cases hg
  · intro g hg r
    by_cases h : g = 70
    · subst h; simp [E_spec_l3Words] at hg
    · simp [E_spec_l3Words, h]
theorem f70_okspec_l3Words : Try.prog.funcs[70]? = some Try.f70 := by kernel_rfl
theorem spec_l3Words_law (k : Nat) (a1 : List Int) (x : Bool) (h : spec_l3Words k a1 = some x) : LawV Try.prog 70 [.tv (.row (.int .i64)) a1] (tvn .bool x) := by
  unfold spec_l3Words at h
  exact law1 (t := .bool) (tyTOk _ _) (E_spec_l3Words_calls k) mixOk f70_okspec_l3Words (nameOk _ _ f70_okspec_l3Words) (by kernel_rfl) h
/-! spec.l2Has -/
noncomputable def E_spec_l2Has (k : Nat) : Env := ⟨ty, fun g => match g with
  | 69 => some (byVal fun ρ l K => match l with
    | [b1, b2, b3] => (b1.as (.int .i64)).bind fun c1 => (b2.as (.int .i64)).bind fun c2 => (b3.as (.int .i64)).bind fun c3 => (spec_l1In k c1 c2 c3).bind fun r => K (tvn .bool r)
    | _ => none)
  | _ => none, fun _ _ => none⟩
noncomputable def spec_l2Has (k : Nat) (a1 : Int) : Option (Int) :=
  abody (E_spec_l2Has k) (arun Try.prog (E_spec_l2Has k) k) k 113 Try.f113 [.int .i64 a1] [] (fin1 (.int .i64))
theorem spec_l2Has_e (k : Nat) (a1 : Int) : spec_l2Has k a1 =
  bindO (spec_l1In k a1 1 19) fun r1 => (iteB (!r1) (some 0) (iteB (decide (0 ≤ a1)) (iteB (decide (a1 < ((List.length [0, 9, 3, 7, 7, 7, 7, 7, 11, 14, 7, 8, 10, 24, 0, 2, 6, 6, 1, 2]) : Int))) (some (List.getD [0, 9, 3, 7, 7, 7, 7, 7, 11, 14, 7, 8, 10, 24, 0, 2, 6, 6, 1, 2] (Int.toNat a1) 0)) (none)) (none))) := by kernel_rfl
theorem E_spec_l2Has_calls (k : Nat) : CallsOk Try.prog (E_spec_l2Has k) (arun Try.prog (E_spec_l2Has k) k) := by
  refine told_run (tyTOk _ _) ?_ (fun run h => regOk (tyTOk _ _) mixOk h) ?_ nameOk k
  · intro g m hg
    simp only [E_spec_l2Has] at hg
    split at hg
    · cases hg
      refine con_byVal fun ρ l K x hm => ?_
      split at hm
      · obtain ⟨c1, h1, hm⟩ := Option.bind_eq_some_iff.1 hm
        obtain ⟨c2, h2, hm⟩ := Option.bind_eq_some_iff.1 hm
        obtain ⟨c3, h3, hm⟩ := Option.bind_eq_some_iff.1 hm
        obtain ⟨r, hr, hm⟩ := Option.bind_eq_some_iff.1 hm
        exact ⟨_, hm, LawV.reads (.cons (.as h1) (.cons (.as h2) (.cons (.as h3) .nil))) (spec_l1In_law k c1 c2 c3 r hr)⟩
      · cases hm
    · cases hg
  · intro g _ r; rfl
theorem f113_okspec_l2Has : Try.prog.funcs[113]? = some Try.f113 := by kernel_rfl
theorem spec_l2Has_law (k : Nat) (a1 : Int) (x : Int) (h : spec_l2Has k a1 = some x) : LawV Try.prog 113 [.int .i64 a1] (tvn (.int .i64) x) := by
  unfold spec_l2Has at h
  exact law1 (t := (.int .i64)) (tyTOk _ _) (E_spec_l2Has_calls k) mixOk f113_okspec_l2Has (nameOk _ _ f113_okspec_l2Has) (by kernel_rfl) h
/-! spec.l2Field -/
noncomputable def E_spec_l2Field (k : Nat) : Env := ⟨ty, fun g => match g with
  | 69 => some (byVal fun ρ l K => match l with
    | [b1, b2, b3] => (b1.as (.int .i64)).bind fun c1 => (b2.as (.int .i64)).bind fun c2 => (b3.as (.int .i64)).bind fun c3 => (spec_l1In k c1 c2 c3).bind fun r => K (tvn .bool r)
    | _ => none)
  | _ => none, fun _ _ => none⟩
noncomputable def spec_l2Field (k : Nat) (a1 : Int) (a2 : Int) (a3 : Bool) : Option (Bool) :=
  abody (E_spec_l2Field k) (arun Try.prog (E_spec_l2Field k) k) k 143 Try.f143 [.int .i64 a1, .int .i64 a2, .bool a3] [] (fin1 .bool)
theorem spec_l2Field_e (k : Nat) (a1 : Int) (a2 : Int) (a3 : Bool) : spec_l2Field k a1 a2 a3 =
  bindO (spec_l1In k a1 0 a2) fun r1 => (iteB r1 (iteB (!a3) (some (a1 == 0)) (some true)) (some false)) := by kernel_rfl
theorem E_spec_l2Field_calls (k : Nat) : CallsOk Try.prog (E_spec_l2Field k) (arun Try.prog (E_spec_l2Field k) k) := by
  refine told_run (tyTOk _ _) ?_ (fun run h => regOk (tyTOk _ _) mixOk h) ?_ nameOk k
  · intro g m hg
    simp only [E_spec_l2Field] at hg
    split at hg
    · cases hg
      refine con_byVal fun ρ l K x hm => ?_
      split at hm
      · obtain ⟨c1, h1, hm⟩ := Option.bind_eq_some_iff.1 hm
        obtain ⟨c2, h2, hm⟩ := Option.bind_eq_some_iff.1 hm
        obtain ⟨c3, h3, hm⟩ := Option.bind_eq_some_iff.1 hm
        obtain ⟨r, hr, hm⟩ := Option.bind_eq_some_iff.1 hm
        exact ⟨_, hm, LawV.reads (.cons (.as h1) (.cons (.as h2) (.cons (.as h3) .nil))) (spec_l1In_law k c1 c2 c3 r hr)⟩
      · cases hm
    · cases hg
  · intro g _ r; rfl
theorem f143_okspec_l2Field : Try.prog.funcs[143]? = some Try.f143 := by kernel_rfl
theorem spec_l2Field_law (k : Nat) (a1 : Int) (a2 : Int) (a3 : Bool) (x : Bool) (h : spec_l2Field k a1 a2 a3 = some x) : LawV Try.prog 143 [.int .i64 a1, .int .i64 a2, .bool a3] (tvn .bool x) := by
  unfold spec_l2Field at h
  exact law1 (t := .bool) (tyTOk _ _) (E_spec_l2Field_calls k) mixOk f143_okspec_l2Field (nameOk _ _ f143_okspec_l2Field) (by kernel_rfl) h
/-! spec.InsOk -/
noncomputable def E_spec_InsOk (k : Nat) : Env := ⟨ty, fun g => match g with
  | 113 => some (byVal fun ρ l K => match l with
    | [b1] => (b1.as (.int .i64)).bind fun c1 => (spec_l2Has k c1).bind fun r => K (tvn (.int .i64) r)
    | _ => none)
  | 69 => some (byVal fun ρ l K => match l with
    | [b1, b2, b3] => (b1.as (.int .i64)).bind fun c1 => (b2.as (.int .i64)).bind fun c2 => (b3.as (.int .i64)).bind fun c3 => (spec_l1In k c1 c2 c3).bind fun r => K (tvn .bool r)
    | _ => none)
  | 143 => some (byVal fun ρ l K => match l with
    | [b1, b2, b3] => (b1.as (.int .i64)).bind fun c1 => (b2.as (.int .i64)).bind fun c2 => (b3.as .bool).bind fun c3 => (spec_l2Field k c1 c2 c3).bind fun r => K (tvn .bool r)
    | _ => none)
  | 71 => some (byVal fun ρ l K => match l with
    | [b1] => (b1.as (.int .i64)).bind fun c1 => (spec_WordOk k c1).bind fun r => K (tvn .bool r)
    | _ => none)
  | 72 => some noCon
  | _ => none, fun f r => match f with | 72 => (match r with | 5 => some [1, 3, 4] | _ => none) | _ => none⟩
noncomputable def spec_InsOk (k : Nat) (a1 : Int × Int × Int × Int × Int × Int × Unit) : Option (Bool) :=
  abody (E_spec_InsOk k) (arun Try.prog (E_spec_InsOk k) k) k 72 Try.f72 [.tv (.pair (.int .i64) (.pair (.int .i64) (.pair (.int .i64) (.pair (.int .i64) (.pair (.int .i64) (.pair (.int .i64) .unit)))))) a1] [] (fin1 .bool)
noncomputable def spec_InsOk.j5 (k : Nat) (x3 : Int) (x4 : Int) (y0_0 : Int × Int × Int × Int × Int × Int × Unit) : Option (Bool) :=
  resume (E_spec_InsOk k) 72 (acall (E_spec_InsOk k) (arun Try.prog (E_spec_InsOk k) k)) k [true, true, true, true] [] (bodyOf Try.f72) ⟨[.undef, .ptr 0 0 0, .undef, .int .i64 x3, .int .i64 x4, .undef, .undef, .undef, .undef, .undef, .undef, .undef, .undef, .undef, .undef, .undef, .undef, .undef, .undef, .undef, .undef, .undef, .undef, .undef, .undef, .undef, .undef, .undef, .undef, .undef, .undef, .undef, .undef, .undef, .undef, .undef, .undef, .undef, .undef, .undef, .undef, .undef, .undef, .undef, .undef, .undef, .undef, .undef, .undef, .undef, .undef, .undef, .undef, .undef, .undef, .undef, .undef, .undef, .undef, .undef, .undef, .undef, .undef, .undef, .undef, .undef, .undef], [some ⟨.raw true 6 (.agg [.int .i64 0, .int .i64 0, .int .i64 0, .int .i64 0, .int .i64 0, .int .i64 0]) [.tv (.pair (.int .i64) (.pair (.int .i64) (.pair (.int .i64) (.pair (.int .i64) (.pair (.int .i64) (.pair (.int .i64) .unit)))))) y0_0], true⟩]⟩ (leave (E_spec_InsOk k) Try.f72 (fin1 .bool))
theorem spec_InsOk.j5_e (k : Nat) (x3 : Int) (x4 : Int) (y0_0 : Int × Int × Int × Int × Int × Int × Unit) : spec_InsOk.j5 k x3 x4 y0_0 =
  bindO (spec_l1In k y0_0.1 1 19) fun r2 => (iteB r2 (bindO (spec_l2Field k y0_0.2.1 5 ((IntKind.wrap .i64 ((BitVec.ofInt (IntKind.bits .i64) x3 &&& BitVec.ofInt (IntKind.bits .i64) 1).toNat : Int)) != 0)) fun r3 => (iteB r3 (bindO (spec_l2Field k y0_0.2.2.1 x4 ((IntKind.wrap .i64 ((BitVec.ofInt (IntKind.bits .i64) x3 &&& BitVec.ofInt (IntKind.bits .i64) 2).toNat : Int)) != 0)) fun r4 => (iteB r4 (bindO (spec_l2Field k y0_0.2.2.2.1 5 ((IntKind.wrap .i64 ((BitVec.ofInt (IntKind.bits .i64) x3 &&& BitVec.ofInt (IntKind.bits .i64) 4).toNat : Int)) != 0)) fun r5 => (iteB r5 (bindO (spec_WordOk k y0_0.2.2.2.2.1) fun r6 => (iteB r6 (iteB (!((IntKind.wrap .i64 ((BitVec.ofInt (IntKind.bits .i64) x3 &&& BitVec.ofInt (IntKind.bits .i64) 8).toNat : Int)) != 0)) (iteB (y0_0.2.2.2.2.1 == 0) (bindO (spec_l2Field k y0_0.2.2.2.2.2.1 60 ((IntKind.wrap .i64 ((BitVec.ofInt (IntKind.bits .i64) x3 &&& BitVec.ofInt (IntKind.bits .i64) 16).toNat : Int)) != 0)) fun r7 => (some r7)) (some false)) (bindO (spec_l2Field k y0_0.2.2.2.2.2.1 60 ((IntKind.wrap .i64 ((BitVec.ofInt (IntKind.bits .i64) x3 &&& BitVec.ofInt (IntKind.bits .i64) 16).toNat : Int)) != 0)) fun r8 => (some r8))) (some false))) (some false))) (some false))) (some false))) (some false)) := by kernel_rfl
theorem spec_InsOk_e (k : Nat) (a1 : Int × Int × Int × Int × Int × Int × Unit) : spec_InsOk k a1 =
  bindO (spec_l2Has k a1.1) fun r1 => (iteB (!(a1.1 == 8)) (iteB (a1.1 == 9) (gate k (spec_InsOk.j5 k r1 6 a1)) (gate k (spec_InsOk.j5 k r1 5 a1))) (gate k (spec_InsOk.j5 k r1 6 a1))) := by kernel_rfl
theorem E_spec_InsOk_calls (k : Nat) : CallsOk Try.prog (E_spec_InsOk k) (arun Try.prog (E_spec_InsOk k) k) := by
  refine told_run (tyTOk _ _) ?_ (fun run h => regOk (tyTOk _ _) mixOk h) ?_ nameOk k
  · intro g m hg
    simp only [E_spec_InsOk] at hg
    split at hg
    · cases hg
      refine con_byVal fun ρ l K x hm => ?_
      split at hm
      · obtain ⟨c1, h1, hm⟩ := Option.bind_eq_some_iff.1 hm
        obtain ⟨r, hr, hm⟩ := Option.bind_eq_some_iff.1 hm
        exact ⟨_, hm, LawV.reads (.cons (.as h1) .nil) (spec_l2Has_law k c1 r hr)⟩
      · cases hm
    · cases hg
      refine con_byVal fun ρ l K x hm => ?_
      split at hm
      · obtain ⟨c1, h1, hm⟩ := Option.bind_eq_some_iff.1 hm
        obtain ⟨c2, h2, hm⟩ := Option.bind_eq_some_iff.1 hm
        obtain ⟨c3, h3, hm⟩ := Option.bind_eq_some_iff.1 hm
        obtain ⟨r, hr, hm⟩ := Option.bind_eq_some_iff.1 hm
        exact ⟨_, hm, LawV.reads (.cons (.as h1) (.cons (.as h2) (.cons (.as h3) .nil))) (spec_l1In_law k c1 c2 c3 r hr)⟩
      · cases hm
    · cases hg
      refine con_byVal fun ρ l K x hm => ?_
      split at hm
      · obtain ⟨c1, h1, hm⟩ := Option.bind_eq_some_iff.1 hm
        obtain ⟨c2, h2, hm⟩ := Option.bind_eq_some_iff.1 hm
        obtain ⟨c3, h3, hm⟩ := Option.bind_eq_some_iff.1 hm
        obtain ⟨r, hr, hm⟩ := Option.bind_eq_some_iff.1 hm
        exact ⟨_, hm, LawV.reads (.cons (.as h1) (.cons (.as h2) (.cons (.as h3) .nil))) (spec_l2Field_law k c1 c2 c3 r hr)⟩
      · cases hm
    · cases hg
      refine con_byVal fun ρ l K x hm => ?_
      split at hm
      · obtain ⟨c1, h1, hm⟩ := Option.bind_eq_some_iff.1 hm
        obtain ⟨r, hr, hm⟩ := Option.bind_eq_some_iff.1 hm
        exact ⟨_, hm, LawV.reads (.cons (.as h1) .nil) (spec_WordOk_law k c1 r hr)⟩
      · cases hm
    · cases hg; exact noCon_ok
    · cases hg
  · intro g hg r
    by_cases h : g = 72
    · subst h; simp [E_spec_InsOk] at hg
    · simp [E_spec_InsOk, h]
theorem f72_okspec_InsOk : Try.prog.funcs[72]? = some Try.f72 := by kernel_rfl
theorem spec_InsOk_law (k : Nat) (a1 : Int × Int × Int × Int × Int × Int × Unit) (x : Bool) (h : spec_InsOk k a1 = some x) : LawV Try.prog 72 [.tv (.pair (.int .i64) (.pair (.int .i64) (.pair (.int .i64) (.pair (.int .i64) (.pair (.int .i64) (.pair (.int .i64) .unit)))))) a1] (tvn .bool x) := by
  unfold spec_InsOk at h
  exact law1 (t := .bool) (tyTOk _ _) (E_spec_InsOk_calls k) mixOk f72_okspec_InsOk (nameOk _ _ f72_okspec_InsOk) (by kernel_rfl) h
/-! spec.CoreOk -/
noncomputable def E_spec_CoreOk (k : Nat) : Env := ⟨ty, fun g => match g with
  | 71 => some (byVal fun ρ l K => match l with
    | [b1] => (b1.as (.int .i64)).bind fun c1 => (spec_WordOk k c1).bind fun r => K (tvn .bool r)
    | _ => none)
  | 70 => some (byVal fun ρ l K => match l with
    | [b1] => (b1.as (.row (.int .i64))).bind fun c1 => (spec_l3Words k c1).bind fun r => K (tvn .bool r)
    | _ => none)
  | _ => none, fun _ _ => none⟩
noncomputable def spec_CoreOk (k : Nat) (a1 : Int × Int × (List Int) × Unit) : Option (Bool) :=
  abody (E_spec_CoreOk k) (arun Try.prog (E_spec_CoreOk k) k) k 73 Try.f73 [.tv (.pair (.int .i64) (.pair (.int .i64) (.pair (.row (.int .i64)) .unit))) a1] [] (fin1 .bool)
theorem spec_CoreOk_e (k : Nat) (a1 : Int × Int × (List Int) × Unit) : spec_CoreOk k a1 =
  bindO (spec_WordOk k a1.1) fun r1 => (iteB r1 (bindO (spec_WordOk k a1.2.1) fun r2 => (iteB r2 (iteB (((List.length a1.2.2.1) : Int) == 6) (bindO (spec_l3Words k a1.2.2.1) fun r3 => (some r3)) (some false)) (some false))) (some false)) := by kernel_rfl
theorem E_spec_CoreOk_calls (k : Nat) : CallsOk Try.prog (E_spec_CoreOk k) (arun Try.prog (E_spec_CoreOk k) k) := by
  refine told_run (tyTOk _ _) ?_ (fun run h => regOk (tyTOk _ _) mixOk h) ?_ nameOk k
  · intro g m hg
    simp only [E_spec_CoreOk] at hg
    split at hg
    · cases hg
      refine con_byVal fun ρ l K x hm => ?_
      split at hm
      · obtain ⟨c1, h1, hm⟩ := Option.bind_eq_some_iff.1 hm
        obtain ⟨r, hr, hm⟩ := Option.bind_eq_some_iff.1 hm
        exact ⟨_, hm, LawV.reads (.cons (.as h1) .nil) (spec_WordOk_law k c1 r hr)⟩
      · cases hm
    · cases hg
      refine con_byVal fun ρ l K x hm => ?_
      split at hm
      · obtain ⟨c1, h1, hm⟩ := Option.bind_eq_some_iff.1 hm
        obtain ⟨r, hr, hm⟩ := Option.bind_eq_some_iff.1 hm
        exact ⟨_, hm, LawV.reads (.cons (.as h1) .nil) (spec_l3Words_law k c1 r hr)⟩
      · cases hm
    · cases hg
  · intro g _ r; rfl
theorem f73_okspec_CoreOk : Try.prog.funcs[73]? = some Try.f73 := by kernel_rfl
theorem spec_CoreOk_law (k : Nat) (a1 : Int × Int × (List Int) × Unit) (x : Bool) (h : spec_CoreOk k a1 = some x) : LawV Try.prog 73 [.tv (.pair (.int .i64) (.pair (.int .i64) (.pair (.row (.int .i64)) .unit))) a1] (tvn .bool x) := by
  unfold spec_CoreOk at h
  exact law1 (t := .bool) (tyTOk _ _) (E_spec_CoreOk_calls k) mixOk f73_okspec_CoreOk (nameOk _ _ f73_okspec_CoreOk) (by kernel_rfl) h
end Go.Proofs.Ytapijpjgfpjahaa.XFnExactMachineOk
