/- Functions of the program as runs of the interpreter: equations, and a law for each. -/
import Derived.Test.YteojdaobpjhddaaProg
import Derived.Test.YteojdaobpjhddaaChecked
import Derived.KernelRfl
import Derived.Eval
import Derived.Test.YteojdaobpjhddaaATyOk
import Derived.Test.YteojdaobpjhddaaAS40
open Go Go.AM Go.AMx Go.Proofs
namespace Go.Proofs.Yteojdaobpjhddaa.XFnWaits
set_option linter.unusedVariables false
set_option linter.unusedSimpArgs false
/-! laws.big -/
noncomputable def E_laws_big (k : Nat) : Env := ⟨ty, fun _ => none, fun _ _ => none⟩
noncomputable def laws_big (k : Nat) (a1 : List Int) : Option (Bool) :=
  abody (E_laws_big k) (arun Try.prog (E_laws_big k) k) k 6 Try.f6 [.tv (.row (.int .u8)) a1] [] (fin1 .bool)
theorem laws_big_e (k : Nat) (a1 : List Int) : laws_big k a1 =
  some (decide (((List.length a1) : Int) > 1048576)) := by kernel_rfl
theorem E_laws_big_calls (k : Nat) : CallsOk Try.prog (E_laws_big k) (arun Try.prog (E_laws_big k) k) := by
  refine told_run (tyTOk _ _) ?_ (fun run h => regOk (tyTOk _ _) mixOk h) ?_ nameOk k
  · intro g m hg
    cases hg
  · intro g _ r; rfl
theorem f6_oklaws_big : Try.prog.funcs[6]? = some Try.f6 := by kernel_rfl
theorem laws_big_law (k : Nat) (a1 : List Int) (x : Bool) (h : laws_big k a1 = some x) : LawV Try.prog 6 [.tv (.row (.int .u8)) a1] (tvn .bool x) := by
  unfold laws_big at h
  exact law1 (t := .bool) (tyTOk _ _) (E_laws_big_calls k) mixOk f6_oklaws_big (nameOk _ _ f6_oklaws_big) (by kernel_rfl) h
/-! spec.l1New -/
noncomputable def E_spec_l1New (k : Nat) : Env := ⟨ty, fun g => match g with
  | 32 => some noCon
  | _ => none, fun f r => match f with | 32 => (match r with | 3 => some [0, 3, 4] | 5 => some [0, 3, 4] | _ => none) | _ => none⟩
noncomputable def spec_l1New (k : Nat) (a1 : List Int) : Option ((List Int) × Int × Int × Unit) :=
  abody (E_spec_l1New k) (arun Try.prog (E_spec_l1New k) k) k 32 Try.f32 [.tv (.row (.int .u8)) a1] [] (finFo (.pair (.row (.int .u8)) (.pair (.int .i64) (.pair (.int .i64) .unit))))
noncomputable def spec_l1New.l3 (k n : Nat) (x0 : List Int) (x3 : Int) (x4 : Int) : Option ((List Int) × Int × Int × Unit) :=
  resume (E_spec_l1New k) 32 (acall (E_spec_l1New k) (arun Try.prog (E_spec_l1New k) k)) k [true, true, false, true, true] [n] (bodyOf Try.f32) ⟨[.tv (.row (.int .u8)) x0, .undef, .undef, .int .i64 x3, .int .i64 x4, .undef, .undef, .undef, .undef, .undef, .undef, .undef, .undef, .undef, .undef, .undef, .undef, .undef, .undef, .undef, .undef, .undef, .undef, .undef, .undef, .undef, .undef, .undef, .undef, .undef, .undef, .undef], []⟩ (leave (E_spec_l1New k) Try.f32 (finFo (.pair (.row (.int .u8)) (.pair (.int .i64) (.pair (.int .i64) .unit)))))
noncomputable def spec_l1New.j5 (k m3 : Nat) (x0 : List Int) (x3 : Int) (x4 : Int) : Option ((List Int) × Int × Int × Unit) :=
  resume (E_spec_l1New k) 32 (acall (E_spec_l1New k) (arun Try.prog (E_spec_l1New k) k)) k [true, true, false, true, true, true, true] [m3] (bodyOf Try.f32) ⟨[.tv (.row (.int .u8)) x0, .undef, .undef, .int .i64 x3, .int .i64 x4, .undef, .undef, .undef, .undef, .undef, .undef, .undef, .undef, .undef, .undef, .undef, .undef, .undef, .undef, .undef, .undef, .undef, .undef, .undef, .undef, .undef, .undef, .undef, .undef, .undef, .undef, .undef], []⟩ (leave (E_spec_l1New k) Try.f32 (finFo (.pair (.row (.int .u8)) (.pair (.int .i64) (.pair (.int .i64) .unit)))))
theorem spec_l1New.l3_0 (k : Nat) (x0 : List Int) (x3 : Int) (x4 : Int) : spec_l1New.l3 k 0 x0 x3 x4 = none := by kernel_rfl
theorem spec_l1New.l3_s (k n : Nat) (x0 : List Int) (x3 : Int) (x4 : Int) : spec_l1New.l3 k (n + 1) x0 x3 x4 =
  iteB (decide (x4 < ((List.length x0) : Int))) (iteB (decide (x4 < 4000)) (gate k (spec_l1New.j5 k n x0 x3 x4)) (some (x0, 0, x3, ()))) (some (x0, 0, x3, ())) := by kernel_rfl
theorem spec_l1New.j5_e (k m3 : Nat) (x0 : List Int) (x3 : Int) (x4 : Int) : spec_l1New.j5 k m3 x0 x3 x4 =
  iteB (decide (0 ≤ x4)) (iteB (decide (x4 < ((List.length x0) : Int))) (spec_l1New.l3 k m3 x0 (IntKind.wrap .i64 ((BitVec.ofInt (IntKind.bits .i64) (IntKind.wrap .i64 ((IntKind.wrap .i64 ((IntKind.wrap .i64 (x3 * 131)) + (IntKind.wrap .i64 (List.getD x0 (Int.toNat x4) 0)))) + 7)) &&& BitVec.ofInt (IntKind.bits .i64) 1073741823).toNat : Int)) (IntKind.wrap .i64 (x4 + 1))) (none)) (none) := by kernel_rfl
theorem spec_l1New_e (k : Nat) (a1 : List Int) : spec_l1New k a1 =
  spec_l1New.l3 k k a1 (IntKind.wrap .i64 (20589 + ((List.length a1) : Int))) 0 := by kernel_rfl
theorem E_spec_l1New_calls (k : Nat) : CallsOk Try.prog (E_spec_l1New k) (arun Try.prog (E_spec_l1New k) k) := by
  refine told_run (tyTOk _ _) ?_ (fun run h => regOk (tyTOk _ _) mixOk h) ?_ nameOk k
  · intro g m hg
    simp only [E_spec_l1New] at hg
    split at hg
    · cases hg; exact noCon_ok
    · cases hg
  · intro g hg r
    by_cases h : g = 32
    · subst h; simp [E_spec_l1New] at hg
    · simp [E_spec_l1New, h]
theorem f32_okspec_l1New : Try.prog.funcs[32]? = some Try.f32 := by kernel_rfl
theorem spec_l1New_law (k : Nat) (a1 : List Int) (x : (List Int) × Int × Int × Unit) (h : spec_l1New k a1 = some x) : LawFo Try.prog 32 [.tv (.row (.int .u8)) a1] (.pair (.row (.int .u8)) (.pair (.int .i64) (.pair (.int .i64) .unit))) x := by
  unfold spec_l1New at h
  exact lawFo (T := (.pair (.row (.int .u8)) (.pair (.int .i64) (.pair (.int .i64) .unit)))) (tyTOk _ _) (E_spec_l1New_calls k) mixOk f32_okspec_l1New (nameOk _ _ f32_okspec_l1New) (by kernel_rfl) h
/-! spec.l1Byte -/
noncomputable def E_spec_l1Byte (k : Nat) : Env := ⟨ty, fun g => match g with
  | 72 => some noCon
  | _ => none, fun f r => match f with | 72 => (match r with | 999999 => some [1] | _ => none) | _ => none⟩
noncomputable def spec_l1Byte (k : Nat) (a1 : (List Int) × Int × Int × Unit) : Option (Int × ((List Int) × Int × Int × Unit)) :=
  abody (E_spec_l1Byte k) (arun Try.prog (E_spec_l1Byte k) k) k 72 Try.f72 [.ptr 0 0 0] [some ⟨.raw true 3 (.tv (.pair (.row (.int .u8)) (.pair (.int .i64) (.pair (.int .i64) .unit))) (Ty.dflt (.pair (.row (.int .u8)) (.pair (.int .i64) (.pair (.int .i64) .unit))))) [.tv (.pair (.row (.int .u8)) (.pair (.int .i64) (.pair (.int .i64) .unit))) a1], false⟩] (finMo (.int .i64) (.pair (.row (.int .u8)) (.pair (.int .i64) (.pair (.int .i64) .unit))))
theorem spec_l1Byte_e (k : Nat) (a1 : (List Int) × Int × Int × Unit) : spec_l1Byte k a1 =
  iteB (decide (a1.2.1 < ((List.length a1.1) : Int))) (iteB (decide (0 ≤ a1.2.1)) (iteB (decide (a1.2.1 < ((List.length a1.1) : Int))) (some (IntKind.wrap .i64 ((BitVec.ofInt (IntKind.bits .i64) (IntKind.wrap .i64 ((IntKind.wrap .i64 ((BitVec.ofInt (IntKind.bits .i64) (IntKind.wrap .i64 ((BitVec.ofInt (IntKind.bits .i64) (Int.fdiv (IntKind.wrap .i64 ((IntKind.wrap .i64 (a1.2.2.1 * 6364136223846793005)) + 1442695040888963407)) (2 ^ (min (Int.toNat 33) (IntKind.bits .i64)))) ^^^ BitVec.ofInt (IntKind.bits .i64) (Int.fdiv (IntKind.wrap .i64 ((IntKind.wrap .i64 (a1.2.2.1 * 6364136223846793005)) + 1442695040888963407)) (2 ^ (min (Int.toNat 45) (IntKind.bits .i64))))).toNat : Int)) &&& BitVec.ofInt (IntKind.bits .i64) 255).toNat : Int)) + (IntKind.wrap .i64 (List.getD a1.1 (Int.toNat a1.2.1) 0)))) &&& BitVec.ofInt (IntKind.bits .i64) 255).toNat : Int), (a1.1, IntKind.wrap .i64 (a1.2.1 + 1), IntKind.wrap .i64 ((IntKind.wrap .i64 (a1.2.2.1 * 6364136223846793005)) + 1442695040888963407), ()))) (none)) (none)) (some (IntKind.wrap .i64 ((BitVec.ofInt (IntKind.bits .i64) (IntKind.wrap .i64 ((BitVec.ofInt (IntKind.bits .i64) (Int.fdiv (IntKind.wrap .i64 ((IntKind.wrap .i64 (a1.2.2.1 * 6364136223846793005)) + 1442695040888963407)) (2 ^ (min (Int.toNat 33) (IntKind.bits .i64)))) ^^^ BitVec.ofInt (IntKind.bits .i64) (Int.fdiv (IntKind.wrap .i64 ((IntKind.wrap .i64 (a1.2.2.1 * 6364136223846793005)) + 1442695040888963407)) (2 ^ (min (Int.toNat 45) (IntKind.bits .i64))))).toNat : Int)) &&& BitVec.ofInt (IntKind.bits .i64) 255).toNat : Int), (a1.1, a1.2.1, IntKind.wrap .i64 ((IntKind.wrap .i64 (a1.2.2.1 * 6364136223846793005)) + 1442695040888963407), ()))) := by kernel_rfl
theorem E_spec_l1Byte_calls (k : Nat) : CallsOk Try.prog (E_spec_l1Byte k) (arun Try.prog (E_spec_l1Byte k) k) := by
  refine told_run (tyTOk _ _) ?_ (fun run h => regOk (tyTOk _ _) mixOk h) ?_ nameOk k
  · intro g m hg
    simp only [E_spec_l1Byte] at hg
    split at hg
    · cases hg; exact noCon_ok
    · cases hg
  · intro g hg r
    by_cases h : g = 72
    · subst h; simp [E_spec_l1Byte] at hg
    · simp [E_spec_l1Byte, h]
theorem f72_okspec_l1Byte : Try.prog.funcs[72]? = some Try.f72 := by kernel_rfl
theorem spec_l1Byte_law (k : Nat) (a1 : (List Int) × Int × Int × Unit) (x : (Int) × ((List Int) × Int × Int × Unit)) (h : spec_l1Byte k a1 = some x) : LawMo Try.prog 72 [] (.pair (.row (.int .u8)) (.pair (.int .i64) (.pair (.int .i64) .unit))) a1 (tvM (.int .i64) x.1) x.2 := by
  unfold spec_l1Byte at h
  exact lawMo (t := (.int .i64)) (T := (.pair (.row (.int .u8)) (.pair (.int .i64) (.pair (.int .i64) .unit)))) (tyTOk _ _) (E_spec_l1Byte_calls k) mixOk f72_okspec_l1Byte (nameOk _ _ f72_okspec_l1Byte) (by kernel_rfl) (Nat.lt_of_lt_of_eq Nat.zero_lt_one (by kernel_rfl : 1 = pinsOf (E_spec_l1Byte k) 72)) h
/-! spec.l1Below -/
noncomputable def E_spec_l1Below (k : Nat) : Env := ⟨ty, fun g => match g with
  | 72 => some (byMutO (.pair (.row (.int .u8)) (.pair (.int .i64) (.pair (.int .i64) .unit))) fun ρ l xs K => match l with
    | [] => (spec_l1Byte k xs ).bind fun r => K (tvM (.int .i64) r.1) r.2
    | _ => none)
  | 36 => some noCon
  | _ => none, fun f r => match f with | 36 => (match r with | 999999 => some [1] | _ => none) | _ => none⟩
noncomputable def spec_l1Below (k : Nat) (a1 : (List Int) × Int × Int × Unit) (a2 : Int) : Option (Int × ((List Int) × Int × Int × Unit)) :=
  abody (E_spec_l1Below k) (arun Try.prog (E_spec_l1Below k) k) k 36 Try.f36 [.ptr 0 0 0, .int .i64 a2] [some ⟨.raw true 3 (.tv (.pair (.row (.int .u8)) (.pair (.int .i64) (.pair (.int .i64) .unit))) (Ty.dflt (.pair (.row (.int .u8)) (.pair (.int .i64) (.pair (.int .i64) .unit))))) [.tv (.pair (.row (.int .u8)) (.pair (.int .i64) (.pair (.int .i64) .unit))) a1], false⟩] (finMo (.int .i64) (.pair (.row (.int .u8)) (.pair (.int .i64) (.pair (.int .i64) .unit))))
theorem spec_l1Below_e (k : Nat) (a1 : (List Int) × Int × Int × Unit) (a2 : Int) : spec_l1Below k a1 a2 =
  iteB (decide (a2 ≤ 0)) (some (0, a1)) (iteB (decide (a2 ≤ 256)) (bindO (spec_l1Byte k a1) fun r1 => (iteB (a2 == 0) (none) (some (Int.tmod r1.1 a2, r1.2)))) (bindO (spec_l1Byte k a1) fun r2 => (bindO (spec_l1Byte k r2.2) fun r3 => (bindO (spec_l1Byte k r3.2) fun r4 => (bindO (spec_l1Byte k r4.2) fun r5 => (iteB (a2 == 0) (none) (some (Int.tmod (IntKind.wrap .i64 ((IntKind.wrap .i64 ((IntKind.wrap .i64 ((IntKind.wrap .i64 (r2.1 * 16777216)) + (IntKind.wrap .i64 (r3.1 * 65536)))) + (IntKind.wrap .i64 (r4.1 * 256)))) + r5.1)) a2, r5.2)))))))) := by kernel_rfl
theorem E_spec_l1Below_calls (k : Nat) : CallsOk Try.prog (E_spec_l1Below k) (arun Try.prog (E_spec_l1Below k) k) := by
  refine told_run (tyTOk _ _) ?_ (fun run h => regOk (tyTOk _ _) mixOk h) ?_ nameOk k
  · intro g m hg
    simp only [E_spec_l1Below] at hg
    split at hg
    · cases hg
      refine con_byMutO fun ρ l xs K x hm => ?_
      split at hm
      · obtain ⟨r, hr, hm⟩ := Option.bind_eq_some_iff.1 hm
        exact ⟨_, _, hm, LawMo.reads .nil (spec_l1Byte_law k xs  r hr)⟩
      · cases hm
    · cases hg; exact noCon_ok
    · cases hg
  · intro g hg r
    by_cases h : g = 36
    · subst h; simp [E_spec_l1Below] at hg
    · simp [E_spec_l1Below, h]
theorem f36_okspec_l1Below : Try.prog.funcs[36]? = some Try.f36 := by kernel_rfl
theorem spec_l1Below_law (k : Nat) (a1 : (List Int) × Int × Int × Unit) (a2 : Int) (x : (Int) × ((List Int) × Int × Int × Unit)) (h : spec_l1Below k a1 a2 = some x) : LawMo Try.prog 36 [.int .i64 a2] (.pair (.row (.int .u8)) (.pair (.int .i64) (.pair (.int .i64) .unit))) a1 (tvM (.int .i64) x.1) x.2 := by
  unfold spec_l1Below at h
  exact lawMo (t := (.int .i64)) (T := (.pair (.row (.int .u8)) (.pair (.int .i64) (.pair (.int .i64) .unit)))) (tyTOk _ _) (E_spec_l1Below_calls k) mixOk f36_okspec_l1Below (nameOk _ _ f36_okspec_l1Below) (by kernel_rfl) (Nat.lt_of_lt_of_eq Nat.zero_lt_one (by kernel_rfl : 1 = pinsOf (E_spec_l1Below k) 36)) h
/-! spec.l1PickInt -/
noncomputable def E_spec_l1PickInt (k : Nat) : Env := ⟨ty, fun g => match g with
  | 36 => some (byMutO (.pair (.row (.int .u8)) (.pair (.int .i64) (.pair (.int .i64) .unit))) fun ρ l xs K => match l with
    | [b1] => (b1.as (.int .i64)).bind fun c1 => (spec_l1Below k xs c1).bind fun r => K (tvM (.int .i64) r.1) r.2
    | _ => none)
  | 44 => some noCon
  | _ => none, fun f r => match f with | 44 => (match r with | 999999 => some [2] | _ => none) | _ => none⟩
noncomputable def spec_l1PickInt (k : Nat) (a1 : (List Int) × Int × Int × Unit) (a2 : List Int) : Option (Int × ((List Int) × Int × Int × Unit) × (List Int)) :=
  abody (E_spec_l1PickInt k) (arun Try.prog (E_spec_l1PickInt k) k) k 44 Try.f44 [.ptr 0 0 0, .sl 1] [some ⟨.raw true 3 (.tv (.pair (.row (.int .u8)) (.pair (.int .i64) (.pair (.int .i64) .unit))) (Ty.dflt (.pair (.row (.int .u8)) (.pair (.int .i64) (.pair (.int .i64) .unit))))) [.tv (.pair (.row (.int .u8)) (.pair (.int .i64) (.pair (.int .i64) .unit))) a1], false⟩, some ⟨.typed (.int .i64) a2, false⟩] (finMr (.int .i64) (.pair (.row (.int .u8)) (.pair (.int .i64) (.pair (.int .i64) .unit))) (.int .i64))
theorem spec_l1PickInt_e (k : Nat) (a1 : (List Int) × Int × Int × Unit) (a2 : List Int) : spec_l1PickInt k a1 a2 =
  bindO (spec_l1Below k a1 ((List.length a2) : Int)) fun r1 => (iteB (decide (0 ≤ r1.1)) (iteB (decide (r1.1 < ((List.length a2) : Int))) (some (List.getD a2 (Int.toNat r1.1) 0, r1.2, a2)) (none)) (none)) := by kernel_rfl
theorem E_spec_l1PickInt_calls (k : Nat) : CallsOk Try.prog (E_spec_l1PickInt k) (arun Try.prog (E_spec_l1PickInt k) k) := by
  refine told_run (tyTOk _ _) ?_ (fun run h => regOk (tyTOk _ _) mixOk h) ?_ nameOk k
  · intro g m hg
    simp only [E_spec_l1PickInt] at hg
    split at hg
    · cases hg
      refine con_byMutO fun ρ l xs K x hm => ?_
      split at hm
      · obtain ⟨c1, h1, hm⟩ := Option.bind_eq_some_iff.1 hm
        obtain ⟨r, hr, hm⟩ := Option.bind_eq_some_iff.1 hm
        exact ⟨_, _, hm, LawMo.reads (.cons (.as h1) .nil) (spec_l1Below_law k xs c1 r hr)⟩
      · cases hm
    · cases hg; exact noCon_ok
    · cases hg
  · intro g hg r
    by_cases h : g = 44
    · subst h; simp [E_spec_l1PickInt] at hg
    · simp [E_spec_l1PickInt, h]
theorem f44_okspec_l1PickInt : Try.prog.funcs[44]? = some Try.f44 := by kernel_rfl
theorem spec_l1PickInt_law (k : Nat) (a1 : (List Int) × Int × Int × Unit) (a2 : List Int) (x : (Int) × ((List Int) × Int × Int × Unit) × (List (Int))) (h : spec_l1PickInt k a1 a2 = some x) : LawMr Try.prog 44 [] (.pair (.row (.int .u8)) (.pair (.int .i64) (.pair (.int .i64) .unit))) a1 (.int .i64) a2 (tvM (.int .i64) x.1) x.2.1 x.2.2 := by
  unfold spec_l1PickInt at h
  exact lawMr (t := (.int .i64)) (T := (.pair (.row (.int .u8)) (.pair (.int .i64) (.pair (.int .i64) .unit)))) (e := (.int .i64)) (tyTOk _ _) (E_spec_l1PickInt_calls k) mixOk f44_okspec_l1PickInt (nameOk _ _ f44_okspec_l1PickInt) (by kernel_rfl) (Nat.lt_of_lt_of_eq Nat.one_lt_two (by kernel_rfl : 2 = pinsOf (E_spec_l1PickInt k) 44)) (fun _ => rfl) h
/-! spec.l1DrawWord -/
noncomputable def E_spec_l1DrawWord (k : Nat) : Env := ⟨ty, fun g => match g with
  | 44 => some (byMutR (.pair (.row (.int .u8)) (.pair (.int .i64) (.pair (.int .i64) .unit))) (.int .i64) fun ρ l xs ys K => match l with
    | [] => (spec_l1PickInt k xs ys ).bind fun r => K (tvM (.int .i64) r.1) r.2.1 r.2.2
    | _ => none)
  | 64 => some noCon
  | _ => none, fun f r => match f with | 64 => (match r with | 999999 => some [1] | _ => none) | _ => none⟩
noncomputable def spec_l1DrawWord (k : Nat) (a1 : (List Int) × Int × Int × Unit) : Option (Int × ((List Int) × Int × Int × Unit)) :=
  abody (E_spec_l1DrawWord k) (arun Try.prog (E_spec_l1DrawWord k) k) k 64 Try.f64 [.ptr 0 0 0] [some ⟨.raw true 3 (.tv (.pair (.row (.int .u8)) (.pair (.int .i64) (.pair (.int .i64) .unit))) (Ty.dflt (.pair (.row (.int .u8)) (.pair (.int .i64) (.pair (.int .i64) .unit))))) [.tv (.pair (.row (.int .u8)) (.pair (.int .i64) (.pair (.int .i64) .unit))) a1], false⟩] (finMo (.int .i64) (.pair (.row (.int .u8)) (.pair (.int .i64) (.pair (.int .i64) .unit))))
theorem spec_l1DrawWord_e (k : Nat) (a1 : (List Int) × Int × Int × Unit) : spec_l1DrawWord k a1 =
  bindO (spec_l1PickInt k a1 [0, 1, (-1), 2, 5, 7, 100, 2147483647, (-2147483648)]) fun r1 => (some (r1.1, r1.2.1)) := by kernel_rfl
theorem E_spec_l1DrawWord_calls (k : Nat) : CallsOk Try.prog (E_spec_l1DrawWord k) (arun Try.prog (E_spec_l1DrawWord k) k) := by
  refine told_run (tyTOk _ _) ?_ (fun run h => regOk (tyTOk _ _) mixOk h) ?_ nameOk k
  · intro g m hg
    simp only [E_spec_l1DrawWord] at hg
    split at hg
    · cases hg
      refine con_byMutR fun ρ l xs ys K x hm => ?_
      split at hm
      · obtain ⟨r, hr, hm⟩ := Option.bind_eq_some_iff.1 hm
        exact ⟨_, _, _, hm, LawMr.reads .nil (spec_l1PickInt_law k xs ys  r hr)⟩
      · cases hm
    · cases hg; exact noCon_ok
    · cases hg
  · intro g hg r
    by_cases h : g = 64
    · subst h; simp [E_spec_l1DrawWord] at hg
    · simp [E_spec_l1DrawWord, h]
theorem f64_okspec_l1DrawWord : Try.prog.funcs[64]? = some Try.f64 := by kernel_rfl
theorem spec_l1DrawWord_law (k : Nat) (a1 : (List Int) × Int × Int × Unit) (x : (Int) × ((List Int) × Int × Int × Unit)) (h : spec_l1DrawWord k a1 = some x) : LawMo Try.prog 64 [] (.pair (.row (.int .u8)) (.pair (.int .i64) (.pair (.int .i64) .unit))) a1 (tvM (.int .i64) x.1) x.2 := by
  unfold spec_l1DrawWord at h
  exact lawMo (t := (.int .i64)) (T := (.pair (.row (.int .u8)) (.pair (.int .i64) (.pair (.int .i64) .unit)))) (tyTOk _ _) (E_spec_l1DrawWord_calls k) mixOk f64_okspec_l1DrawWord (nameOk _ _ f64_okspec_l1DrawWord) (by kernel_rfl) (Nat.lt_of_lt_of_eq Nat.zero_lt_one (by kernel_rfl : 1 = pinsOf (E_spec_l1DrawWord k) 64)) h
/-! spec.l12DrawWait -/
noncomputable def E_spec_l12DrawWait (k : Nat) : Env := ⟨ty, fun g => match g with
  | 36 => some (byMutO (.pair (.row (.int .u8)) (.pair (.int .i64) (.pair (.int .i64) .unit))) fun ρ l xs K => match l with
    | [b1] => (b1.as (.int .i64)).bind fun c1 => (spec_l1Below k xs c1).bind fun r => K (tvM (.int .i64) r.1) r.2
    | _ => none)
  | 64 => some (byMutO (.pair (.row (.int .u8)) (.pair (.int .i64) (.pair (.int .i64) .unit))) fun ρ l xs K => match l with
    | [] => (spec_l1DrawWord k xs ).bind fun r => K (tvM (.int .i64) r.1) r.2
    | _ => none)
  | 58 => some noCon
  | _ => none, fun f r => match f with | 58 => (match r with | 999999 => some [1] | _ => none) | _ => none⟩
noncomputable def spec_l12DrawWait (k : Nat) (a1 : (List Int) × Int × Int × Unit) : Option ((Int × Int × Int × Int × Unit) × ((List Int) × Int × Int × Unit)) :=
  abody (E_spec_l12DrawWait k) (arun Try.prog (E_spec_l12DrawWait k) k) k 58 Try.f58 [.ptr 0 0 0] [some ⟨.raw true 3 (.tv (.pair (.row (.int .u8)) (.pair (.int .i64) (.pair (.int .i64) .unit))) (Ty.dflt (.pair (.row (.int .u8)) (.pair (.int .i64) (.pair (.int .i64) .unit))))) [.tv (.pair (.row (.int .u8)) (.pair (.int .i64) (.pair (.int .i64) .unit))) a1], false⟩] (finMo (.pair (.int .i64) (.pair (.int .i64) (.pair (.int .i64) (.pair (.int .i64) .unit)))) (.pair (.row (.int .u8)) (.pair (.int .i64) (.pair (.int .i64) .unit))))
theorem spec_l12DrawWait_e (k : Nat) (a1 : (List Int) × Int × Int × Unit) : spec_l12DrawWait k a1 =
  bindO (spec_l1Below k a1 4) fun r1 => (bindO (spec_l1Below k r1.2 3) fun r2 => (bindO (spec_l1DrawWord k r2.2) fun r3 => (bindO (spec_l1Below k r3.2 3) fun r4 => (some ((r1.1, IntKind.wrap .i64 (1 + r2.1), r3.1, r4.1, ()), r4.2))))) := by kernel_rfl
theorem E_spec_l12DrawWait_calls (k : Nat) : CallsOk Try.prog (E_spec_l12DrawWait k) (arun Try.prog (E_spec_l12DrawWait k) k) := by
  refine told_run (tyTOk _ _) ?_ (fun run h => regOk (tyTOk _ _) mixOk h) ?_ nameOk k
  · intro g m hg
    simp only [E_spec_l12DrawWait] at hg
    split at hg
    · cases hg
      refine con_byMutO fun ρ l xs K x hm => ?_
      split at hm
      · obtain ⟨c1, h1, hm⟩ := Option.bind_eq_some_iff.1 hm
        obtain ⟨r, hr, hm⟩ := Option.bind_eq_some_iff.1 hm
        exact ⟨_, _, hm, LawMo.reads (.cons (.as h1) .nil) (spec_l1Below_law k xs c1 r hr)⟩
      · cases hm
    · cases hg
      refine con_byMutO fun ρ l xs K x hm => ?_
      split at hm
      · obtain ⟨r, hr, hm⟩ := Option.bind_eq_some_iff.1 hm
        exact ⟨_, _, hm, LawMo.reads .nil (spec_l1DrawWord_law k xs  r hr)⟩
      · cases hm
    · cases hg; exact noCon_ok
    · cases hg
  · intro g hg r
    by_cases h : g = 58
    · subst h; simp [E_spec_l12DrawWait] at hg
    · simp [E_spec_l12DrawWait, h]
theorem f58_okspec_l12DrawWait : Try.prog.funcs[58]? = some Try.f58 := by kernel_rfl
theorem spec_l12DrawWait_law (k : Nat) (a1 : (List Int) × Int × Int × Unit) (x : (Int × Int × Int × Int × Unit) × ((List Int) × Int × Int × Unit)) (h : spec_l12DrawWait k a1 = some x) : LawMo Try.prog 58 [] (.pair (.row (.int .u8)) (.pair (.int .i64) (.pair (.int .i64) .unit))) a1 (tvM (.pair (.int .i64) (.pair (.int .i64) (.pair (.int .i64) (.pair (.int .i64) .unit)))) x.1) x.2 := by
  unfold spec_l12DrawWait at h
  exact lawMo (t := (.pair (.int .i64) (.pair (.int .i64) (.pair (.int .i64) (.pair (.int .i64) .unit))))) (T := (.pair (.row (.int .u8)) (.pair (.int .i64) (.pair (.int .i64) .unit)))) (tyTOk _ _) (E_spec_l12DrawWait_calls k) mixOk f58_okspec_l12DrawWait (nameOk _ _ f58_okspec_l12DrawWait) (by kernel_rfl) (Nat.lt_of_lt_of_eq Nat.zero_lt_one (by kernel_rfl : 1 = pinsOf (E_spec_l12DrawWait k) 58)) h
/-! spec.AddWait -/
noncomputable def E_spec_AddWait (k : Nat) : Env := ⟨ty, fun g => match g with
  | 23 => some noCon
  | _ => none, fun f r => match f with | 23 => (match r with | 3 => some [0, 3, 5, 6] | 7 => some [0, 3, 5, 6] | _ => none) | _ => none⟩
noncomputable def spec_AddWait (k : Nat) (a1 : List (Int × Int × Int × Int × Unit)) (a2 : Int × Int × Int × Int × Unit) : Option (List (Int × Int × Int × Int × Unit)) :=
  abody (E_spec_AddWait k) (arun Try.prog (E_spec_AddWait k) k) k 23 Try.f23 [.tv (.row (.pair (.int .i64) (.pair (.int .i64) (.pair (.int .i64) (.pair (.int .i64) .unit))))) a1, .tv (.pair (.int .i64) (.pair (.int .i64) (.pair (.int .i64) (.pair (.int .i64) .unit)))) a2] [] (finF (.pair (.int .i64) (.pair (.int .i64) (.pair (.int .i64) (.pair (.int .i64) .unit)))))
noncomputable def spec_AddWait.l3 (k n : Nat) (x0 : List (Int × Int × Int × Int × Unit)) (x6 : Int) (y0_0 : Int × Int × Int × Int × Unit) : Option (List (Int × Int × Int × Int × Unit)) :=
  resume (E_spec_AddWait k) 23 (acall (E_spec_AddWait k) (arun Try.prog (E_spec_AddWait k) k)) k [true, true, false, true, true] [n] (bodyOf Try.f23) ⟨[.tv (.row (.pair (.int .i64) (.pair (.int .i64) (.pair (.int .i64) (.pair (.int .i64) .unit))))) x0, .undef, .undef, .ptr 0 0 0, .undef, .sl 1, .int .i64 x6, .undef, .undef, .undef, .undef, .undef, .undef, .undef, .undef, .undef, .undef, .undef, .undef, .undef, .undef, .undef, .undef, .undef, .undef, .undef, .undef, .undef, .undef, .undef, .undef, .undef, .undef, .undef, .undef, .undef, .undef, .undef, .undef, .undef, .undef, .undef, .undef, .undef, .undef, .undef, .undef, .undef, .undef, .undef, .undef, .undef, .undef, .undef], [some ⟨.raw true 4 (.agg [.int .i64 0, .int .i64 0, .int .i64 0, .int .i64 0]) [.tv (.pair (.int .i64) (.pair (.int .i64) (.pair (.int .i64) (.pair (.int .i64) .unit)))) y0_0], true⟩, some ⟨.typed (.pair (.int .i64) (.pair (.int .i64) (.pair (.int .i64) (.pair (.int .i64) .unit)))) [], true⟩]⟩ (leave (E_spec_AddWait k) Try.f23 (finF (.pair (.int .i64) (.pair (.int .i64) (.pair (.int .i64) (.pair (.int .i64) .unit))))))
noncomputable def spec_AddWait.j7 (k m3 : Nat) (x0 : List (Int × Int × Int × Int × Unit)) (x6 : Int) (y0_0 : Int × Int × Int × Int × Unit) : Option (List (Int × Int × Int × Int × Unit)) :=
  resume (E_spec_AddWait k) 23 (acall (E_spec_AddWait k) (arun Try.prog (E_spec_AddWait k) k)) k [true, true, false, true, true, true, true, false, true, true] [m3] (bodyOf Try.f23) ⟨[.tv (.row (.pair (.int .i64) (.pair (.int .i64) (.pair (.int .i64) (.pair (.int .i64) .unit))))) x0, .undef, .undef, .ptr 0 0 0, .undef, .sl 1, .int .i64 x6, .undef, .undef, .undef, .undef, .undef, .undef, .undef, .undef, .undef, .undef, .undef, .undef, .undef, .undef, .undef, .undef, .undef, .undef, .undef, .undef, .undef, .undef, .undef, .undef, .undef, .undef, .undef, .undef, .undef, .undef, .undef, .undef, .undef, .undef, .undef, .undef, .undef, .undef, .undef, .undef, .undef, .undef, .undef, .undef, .undef, .undef, .undef], [some ⟨.raw true 4 (.agg [.int .i64 0, .int .i64 0, .int .i64 0, .int .i64 0]) [.tv (.pair (.int .i64) (.pair (.int .i64) (.pair (.int .i64) (.pair (.int .i64) .unit)))) y0_0], true⟩, some ⟨.typed (.pair (.int .i64) (.pair (.int .i64) (.pair (.int .i64) (.pair (.int .i64) .unit)))) [], true⟩]⟩ (leave (E_spec_AddWait k) Try.f23 (finF (.pair (.int .i64) (.pair (.int .i64) (.pair (.int .i64) (.pair (.int .i64) .unit))))))
noncomputable def spec_AddWait.l3b (k n : Nat) (x0 : List (Int × Int × Int × Int × Unit)) (x6 : Int) (y0_0 : Int × Int × Int × Int × Unit) (y1 : List (Int × Int × Int × Int × Unit)) : Option (List (Int × Int × Int × Int × Unit)) :=
  resume (E_spec_AddWait k) 23 (acall (E_spec_AddWait k) (arun Try.prog (E_spec_AddWait k) k)) k [true, true, false, true, true] [n] (bodyOf Try.f23) ⟨[.tv (.row (.pair (.int .i64) (.pair (.int .i64) (.pair (.int .i64) (.pair (.int .i64) .unit))))) x0, .undef, .undef, .ptr 0 0 0, .undef, .sl 1, .int .i64 x6, .undef, .undef, .undef, .undef, .undef, .undef, .undef, .undef, .undef, .undef, .undef, .undef, .undef, .undef, .undef, .undef, .undef, .undef, .undef, .undef, .undef, .undef, .undef, .undef, .undef, .undef, .undef, .undef, .undef, .undef, .undef, .undef, .undef, .undef, .undef, .undef, .undef, .undef, .undef, .undef, .undef, .undef, .undef, .undef, .undef, .undef, .undef], [some ⟨.raw true 4 (.agg [.int .i64 0, .int .i64 0, .int .i64 0, .int .i64 0]) [.tv (.pair (.int .i64) (.pair (.int .i64) (.pair (.int .i64) (.pair (.int .i64) .unit)))) y0_0], true⟩, some ⟨.typed (.pair (.int .i64) (.pair (.int .i64) (.pair (.int .i64) (.pair (.int .i64) .unit)))) y1, false⟩]⟩ (leave (E_spec_AddWait k) Try.f23 (finF (.pair (.int .i64) (.pair (.int .i64) (.pair (.int .i64) (.pair (.int .i64) .unit))))))
noncomputable def spec_AddWait.j7b (k m3 : Nat) (x0 : List (Int × Int × Int × Int × Unit)) (x6 : Int) (y0_0 : Int × Int × Int × Int × Unit) (y1 : List (Int × Int × Int × Int × Unit)) : Option (List (Int × Int × Int × Int × Unit)) :=
  resume (E_spec_AddWait k) 23 (acall (E_spec_AddWait k) (arun Try.prog (E_spec_AddWait k) k)) k [true, true, false, true, true, true, true, false, true, true] [m3] (bodyOf Try.f23) ⟨[.tv (.row (.pair (.int .i64) (.pair (.int .i64) (.pair (.int .i64) (.pair (.int .i64) .unit))))) x0, .undef, .undef, .ptr 0 0 0, .undef, .sl 1, .int .i64 x6, .undef, .undef, .undef, .undef, .undef, .undef, .undef, .undef, .undef, .undef, .undef, .undef, .undef, .undef, .undef, .undef, .undef, .undef, .undef, .undef, .undef, .undef, .undef, .undef, .undef, .undef, .undef, .undef, .undef, .undef, .undef, .undef, .undef, .undef, .undef, .undef, .undef, .undef, .undef, .undef, .undef, .undef, .undef, .undef, .undef, .undef, .undef], [some ⟨.raw true 4 (.agg [.int .i64 0, .int .i64 0, .int .i64 0, .int .i64 0]) [.tv (.pair (.int .i64) (.pair (.int .i64) (.pair (.int .i64) (.pair (.int .i64) .unit)))) y0_0], true⟩, some ⟨.typed (.pair (.int .i64) (.pair (.int .i64) (.pair (.int .i64) (.pair (.int .i64) .unit)))) y1, false⟩]⟩ (leave (E_spec_AddWait k) Try.f23 (finF (.pair (.int .i64) (.pair (.int .i64) (.pair (.int .i64) (.pair (.int .i64) .unit))))))
theorem spec_AddWait.l3_0 (k : Nat) (x0 : List (Int × Int × Int × Int × Unit)) (x6 : Int) (y0_0 : Int × Int × Int × Int × Unit) : spec_AddWait.l3 k 0 x0 x6 y0_0 = none := by kernel_rfl
theorem spec_AddWait.l3_s (k n : Nat) (x0 : List (Int × Int × Int × Int × Unit)) (x6 : Int) (y0_0 : Int × Int × Int × Int × Unit) : spec_AddWait.l3 k (n + 1) x0 x6 y0_0 =
  iteB (decide (x6 < ((List.length x0) : Int))) (iteB (decide (0 ≤ x6)) (iteB (decide (x6 < ((List.length x0) : Int))) (iteB (((List.getD x0 (Int.toNat x6) (Ty.dflt (.pair (.int .i64) (.pair (.int .i64) (.pair (.int .i64) (.pair (.int .i64) .unit)))))).1) == y0_0.1) (iteB (decide (0 ≤ x6)) (iteB (decide (x6 < ((List.length x0) : Int))) (iteB ((((List.getD x0 (Int.toNat x6) (Ty.dflt (.pair (.int .i64) (.pair (.int .i64) (.pair (.int .i64) (.pair (.int .i64) .unit)))))).2).1) == y0_0.2.1) (iteB (decide ((List.length ([] ++ x0)) * 32 ≤ lim)) (some ([] ++ x0)) (none)) (gate k (spec_AddWait.j7 k n x0 x6 y0_0))) (none)) (none)) (gate k (spec_AddWait.j7 k n x0 x6 y0_0))) (none)) (none)) (iteB (decide ((List.length ([] ++ [y0_0])) * 32 ≤ lim)) (some ([] ++ [y0_0])) (none)) := by kernel_rfl
theorem spec_AddWait.j7_e (k m3 : Nat) (x0 : List (Int × Int × Int × Int × Unit)) (x6 : Int) (y0_0 : Int × Int × Int × Int × Unit) : spec_AddWait.j7 k m3 x0 x6 y0_0 =
  iteB (decide (0 ≤ x6)) (iteB (decide (x6 < ((List.length x0) : Int))) (iteB (((List.getD x0 (Int.toNat x6) (Ty.dflt (.pair (.int .i64) (.pair (.int .i64) (.pair (.int .i64) (.pair (.int .i64) .unit)))))).1) != y0_0.1) (iteB (decide (0 ≤ x6)) (iteB (decide (x6 < ((List.length x0) : Int))) (iteB (decide ((List.length ([] ++ [List.getD x0 (Int.toNat x6) (Ty.dflt (.pair (.int .i64) (.pair (.int .i64) (.pair (.int .i64) (.pair (.int .i64) .unit)))))])) * 32 ≤ lim)) (spec_AddWait.l3b k m3 x0 (IntKind.wrap .i64 (x6 + 1)) y0_0 ([] ++ [List.getD x0 (Int.toNat x6) (Ty.dflt (.pair (.int .i64) (.pair (.int .i64) (.pair (.int .i64) (.pair (.int .i64) .unit)))))])) (none)) (none)) (none)) (spec_AddWait.l3 k m3 x0 (IntKind.wrap .i64 (x6 + 1)) y0_0)) (none)) (none) := by kernel_rfl
theorem spec_AddWait.l3b_0 (k : Nat) (x0 : List (Int × Int × Int × Int × Unit)) (x6 : Int) (y0_0 : Int × Int × Int × Int × Unit) (y1 : List (Int × Int × Int × Int × Unit)) : spec_AddWait.l3b k 0 x0 x6 y0_0 y1 = none := by kernel_rfl
theorem spec_AddWait.l3b_s (k n : Nat) (x0 : List (Int × Int × Int × Int × Unit)) (x6 : Int) (y0_0 : Int × Int × Int × Int × Unit) (y1 : List (Int × Int × Int × Int × Unit)) : spec_AddWait.l3b k (n + 1) x0 x6 y0_0 y1 =
  iteB (decide (x6 < ((List.length x0) : Int))) (iteB (decide (0 ≤ x6)) (iteB (decide (x6 < ((List.length x0) : Int))) (iteB (((List.getD x0 (Int.toNat x6) (Ty.dflt (.pair (.int .i64) (.pair (.int .i64) (.pair (.int .i64) (.pair (.int .i64) .unit)))))).1) == y0_0.1) (iteB (decide (0 ≤ x6)) (iteB (decide (x6 < ((List.length x0) : Int))) (iteB ((((List.getD x0 (Int.toNat x6) (Ty.dflt (.pair (.int .i64) (.pair (.int .i64) (.pair (.int .i64) (.pair (.int .i64) .unit)))))).2).1) == y0_0.2.1) (iteB (decide ((List.length ([] ++ x0)) * 32 ≤ lim)) (some ([] ++ x0)) (none)) (gate k (spec_AddWait.j7b k n x0 x6 y0_0 y1))) (none)) (none)) (gate k (spec_AddWait.j7b k n x0 x6 y0_0 y1))) (none)) (none)) (iteB (decide ((List.length (y1 ++ [y0_0])) * 32 ≤ lim)) (some (y1 ++ [y0_0])) (none)) := by kernel_rfl
theorem spec_AddWait.j7b_e (k m3 : Nat) (x0 : List (Int × Int × Int × Int × Unit)) (x6 : Int) (y0_0 : Int × Int × Int × Int × Unit) (y1 : List (Int × Int × Int × Int × Unit)) : spec_AddWait.j7b k m3 x0 x6 y0_0 y1 =
  iteB (decide (0 ≤ x6)) (iteB (decide (x6 < ((List.length x0) : Int))) (iteB (((List.getD x0 (Int.toNat x6) (Ty.dflt (.pair (.int .i64) (.pair (.int .i64) (.pair (.int .i64) (.pair (.int .i64) .unit)))))).1) != y0_0.1) (iteB (decide (0 ≤ x6)) (iteB (decide (x6 < ((List.length x0) : Int))) (iteB (decide ((List.length (y1 ++ [List.getD x0 (Int.toNat x6) (Ty.dflt (.pair (.int .i64) (.pair (.int .i64) (.pair (.int .i64) (.pair (.int .i64) .unit)))))])) * 32 ≤ lim)) (spec_AddWait.l3b k m3 x0 (IntKind.wrap .i64 (x6 + 1)) y0_0 (y1 ++ [List.getD x0 (Int.toNat x6) (Ty.dflt (.pair (.int .i64) (.pair (.int .i64) (.pair (.int .i64) (.pair (.int .i64) .unit)))))])) (none)) (none)) (none)) (spec_AddWait.l3b k m3 x0 (IntKind.wrap .i64 (x6 + 1)) y0_0 y1)) (none)) (none) := by kernel_rfl
theorem spec_AddWait_e (k : Nat) (a1 : List (Int × Int × Int × Int × Unit)) (a2 : Int × Int × Int × Int × Unit) : spec_AddWait k a1 a2 =
  spec_AddWait.l3 k k a1 0 a2 := by kernel_rfl
theorem E_spec_AddWait_calls (k : Nat) : CallsOk Try.prog (E_spec_AddWait k) (arun Try.prog (E_spec_AddWait k) k) := by
  refine told_run (tyTOk _ _) ?_ (fun run h => regOk (tyTOk _ _) mixOk h) ?_ nameOk k
  · intro g m hg
    simp only [E_spec_AddWait] at hg
    split at hg
    · cases hg; exact noCon_ok
    · cases hg
  · intro g hg r
    by_cases h : g = 23
    · subst h; simp [E_spec_AddWait] at hg
    · simp [E_spec_AddWait, h]
theorem f23_okspec_AddWait : Try.prog.funcs[23]? = some Try.f23 := by kernel_rfl
theorem spec_AddWait_law (k : Nat) (a1 : List (Int × Int × Int × Int × Unit)) (a2 : Int × Int × Int × Int × Unit) (x : List (Int × Int × Int × Int × Unit)) (h : spec_AddWait k a1 a2 = some x) : LawF Try.prog 23 [.tv (.row (.pair (.int .i64) (.pair (.int .i64) (.pair (.int .i64) (.pair (.int .i64) .unit))))) a1, .tv (.pair (.int .i64) (.pair (.int .i64) (.pair (.int .i64) (.pair (.int .i64) .unit)))) a2] (.pair (.int .i64) (.pair (.int .i64) (.pair (.int .i64) (.pair (.int .i64) .unit)))) x := by
  unfold spec_AddWait at h
  exact lawF (e := (.pair (.int .i64) (.pair (.int .i64) (.pair (.int .i64) (.pair (.int .i64) .unit))))) (tyTOk _ _) (E_spec_AddWait_calls k) mixOk f23_okspec_AddWait (nameOk _ _ f23_okspec_AddWait) (by kernel_rfl) h
/-! spec.l12DrawList -/
noncomputable def E_spec_l12DrawList (k : Nat) : Env := ⟨ty, fun g => match g with
  | 36 => some (byMutO (.pair (.row (.int .u8)) (.pair (.int .i64) (.pair (.int .i64) .unit))) fun ρ l xs K => match l with
    | [b1] => (b1.as (.int .i64)).bind fun c1 => (spec_l1Below k xs c1).bind fun r => K (tvM (.int .i64) r.1) r.2
    | _ => none)
  | 58 => some (byMutO (.pair (.row (.int .u8)) (.pair (.int .i64) (.pair (.int .i64) .unit))) fun ρ l xs K => match l with
    | [] => (spec_l12DrawWait k xs ).bind fun r => K (tvM (.pair (.int .i64) (.pair (.int .i64) (.pair (.int .i64) (.pair (.int .i64) .unit)))) r.1) r.2
    | _ => none)
  | 23 => some (byFresh (.pair (.int .i64) (.pair (.int .i64) (.pair (.int .i64) (.pair (.int .i64) .unit)))) fun ρ l K => match l with
    | [b1, b2] => (b1.as (.row (.pair (.int .i64) (.pair (.int .i64) (.pair (.int .i64) (.pair (.int .i64) .unit)))))).bind fun c1 => (b2.as (.pair (.int .i64) (.pair (.int .i64) (.pair (.int .i64) (.pair (.int .i64) .unit))))).bind fun c2 => (spec_AddWait k c1 c2).bind fun r => K r
    | _ => none)
  | 57 => some noCon
  | _ => none, fun f r => match f with | 57 => (match r with | 3 => some [0, 3, 4] | 999999 => some [1] | _ => none) | _ => none⟩
noncomputable def spec_l12DrawList (k : Nat) (a1 : (List Int) × Int × Int × Unit) : Option ((List (Int × Int × Int × Int × Unit)) × ((List Int) × Int × Int × Unit)) :=
  abody (E_spec_l12DrawList k) (arun Try.prog (E_spec_l12DrawList k) k) k 57 Try.f57 [.ptr 0 0 0] [some ⟨.raw true 3 (.tv (.pair (.row (.int .u8)) (.pair (.int .i64) (.pair (.int .i64) .unit))) (Ty.dflt (.pair (.row (.int .u8)) (.pair (.int .i64) (.pair (.int .i64) .unit))))) [.tv (.pair (.row (.int .u8)) (.pair (.int .i64) (.pair (.int .i64) .unit))) a1], false⟩] (finMof (.pair (.row (.int .u8)) (.pair (.int .i64) (.pair (.int .i64) .unit))) (.pair (.int .i64) (.pair (.int .i64) (.pair (.int .i64) (.pair (.int .i64) .unit)))))
noncomputable def spec_l12DrawList.l3 (k n : Nat) (x4 : Int) (y0_0 : (List Int) × Int × Int × Unit) : Option ((List (Int × Int × Int × Int × Unit)) × ((List Int) × Int × Int × Unit)) :=
  resume (E_spec_l12DrawList k) 57 (acall (E_spec_l12DrawList k) (arun Try.prog (E_spec_l12DrawList k) k)) k [true, true, false, true, true] [n] (bodyOf Try.f57) ⟨[.ptr 0 0 0, .undef, .undef, .sl 1, .int .i64 x4, .undef, .undef, .undef, .undef, .undef, .undef, .undef, .undef, .undef, .undef, .undef, .undef], [some ⟨.raw true 3 (.tv (.pair (.row (.int .u8)) (.pair (.int .i64) (.pair (.int .i64) .unit))) (Ty.dflt (.pair (.row (.int .u8)) (.pair (.int .i64) (.pair (.int .i64) .unit))))) [.tv (.pair (.row (.int .u8)) (.pair (.int .i64) (.pair (.int .i64) .unit))) y0_0], false⟩, some ⟨.typed (.pair (.int .i64) (.pair (.int .i64) (.pair (.int .i64) (.pair (.int .i64) .unit)))) [], true⟩]⟩ (leave (E_spec_l12DrawList k) Try.f57 (finMof (.pair (.row (.int .u8)) (.pair (.int .i64) (.pair (.int .i64) .unit))) (.pair (.int .i64) (.pair (.int .i64) (.pair (.int .i64) (.pair (.int .i64) .unit))))))
noncomputable def spec_l12DrawList.l3b (k n : Nat) (x4 : Int) (y0_0 : (List Int) × Int × Int × Unit) (y1 : List (Int × Int × Int × Int × Unit)) : Option ((List (Int × Int × Int × Int × Unit)) × ((List Int) × Int × Int × Unit)) :=
  resume (E_spec_l12DrawList k) 57 (acall (E_spec_l12DrawList k) (arun Try.prog (E_spec_l12DrawList k) k)) k [true, true, false, true, true] [n] (bodyOf Try.f57) ⟨[.ptr 0 0 0, .undef, .undef, .sl 1, .int .i64 x4, .undef, .undef, .undef, .undef, .undef, .undef, .undef, .undef, .undef, .undef, .undef, .undef], [some ⟨.raw true 3 (.tv (.pair (.row (.int .u8)) (.pair (.int .i64) (.pair (.int .i64) .unit))) (Ty.dflt (.pair (.row (.int .u8)) (.pair (.int .i64) (.pair (.int .i64) .unit))))) [.tv (.pair (.row (.int .u8)) (.pair (.int .i64) (.pair (.int .i64) .unit))) y0_0], false⟩, some ⟨.typed (.pair (.int .i64) (.pair (.int .i64) (.pair (.int .i64) (.pair (.int .i64) .unit)))) y1, false⟩]⟩ (leave (E_spec_l12DrawList k) Try.f57 (finMof (.pair (.row (.int .u8)) (.pair (.int .i64) (.pair (.int .i64) .unit))) (.pair (.int .i64) (.pair (.int .i64) (.pair (.int .i64) (.pair (.int .i64) .unit))))))
theorem spec_l12DrawList.l3_0 (k : Nat) (x4 : Int) (y0_0 : (List Int) × Int × Int × Unit) : spec_l12DrawList.l3 k 0 x4 y0_0 = none := by kernel_rfl
theorem spec_l12DrawList.l3_s (k n : Nat) (x4 : Int) (y0_0 : (List Int) × Int × Int × Unit) : spec_l12DrawList.l3 k (n + 1) x4 y0_0 =
  bindO (spec_l1Below k y0_0 5) fun r1 => (iteB (decide (x4 < r1.1)) (bindO (spec_l12DrawWait k r1.2) fun r2 => (bindO (spec_AddWait k [] r2.1) fun r3 => (spec_l12DrawList.l3b k n (IntKind.wrap .i64 (x4 + 1)) r2.2 r3))) (some ([], r1.2))) := by kernel_rfl
theorem spec_l12DrawList.l3b_0 (k : Nat) (x4 : Int) (y0_0 : (List Int) × Int × Int × Unit) (y1 : List (Int × Int × Int × Int × Unit)) : spec_l12DrawList.l3b k 0 x4 y0_0 y1 = none := by kernel_rfl
theorem spec_l12DrawList.l3b_s (k n : Nat) (x4 : Int) (y0_0 : (List Int) × Int × Int × Unit) (y1 : List (Int × Int × Int × Int × Unit)) : spec_l12DrawList.l3b k (n + 1) x4 y0_0 y1 =
  bindO (spec_l1Below k y0_0 5) fun r4 => (iteB (decide (x4 < r4.1)) (bindO (spec_l12DrawWait k r4.2) fun r5 => (bindO (spec_AddWait k y1 r5.1) fun r6 => (spec_l12DrawList.l3b k n (IntKind.wrap .i64 (x4 + 1)) r5.2 r6))) (some (y1, r4.2))) := by kernel_rfl
theorem spec_l12DrawList_e (k : Nat) (a1 : (List Int) × Int × Int × Unit) : spec_l12DrawList k a1 =
  spec_l12DrawList.l3 k k 0 a1 := by kernel_rfl
theorem E_spec_l12DrawList_calls (k : Nat) : CallsOk Try.prog (E_spec_l12DrawList k) (arun Try.prog (E_spec_l12DrawList k) k) := by
  refine told_run (tyTOk _ _) ?_ (fun run h => regOk (tyTOk _ _) mixOk h) ?_ nameOk k
  · intro g m hg
    simp only [E_spec_l12DrawList] at hg
    split at hg
    · cases hg
      refine con_byMutO fun ρ l xs K x hm => ?_
      split at hm
      · obtain ⟨c1, h1, hm⟩ := Option.bind_eq_some_iff.1 hm
        obtain ⟨r, hr, hm⟩ := Option.bind_eq_some_iff.1 hm
        exact ⟨_, _, hm, LawMo.reads (.cons (.as h1) .nil) (spec_l1Below_law k xs c1 r hr)⟩
      · cases hm
    · cases hg
      refine con_byMutO fun ρ l xs K x hm => ?_
      split at hm
      · obtain ⟨r, hr, hm⟩ := Option.bind_eq_some_iff.1 hm
        exact ⟨_, _, hm, LawMo.reads .nil (spec_l12DrawWait_law k xs  r hr)⟩
      · cases hm
    · cases hg
      refine con_byFresh fun ρ l K x hm => ?_
      split at hm
      · obtain ⟨c1, h1, hm⟩ := Option.bind_eq_some_iff.1 hm
        obtain ⟨c2, h2, hm⟩ := Option.bind_eq_some_iff.1 hm
        obtain ⟨r, hr, hm⟩ := Option.bind_eq_some_iff.1 hm
        exact ⟨_, hm, LawF.reads (.cons (.as h1) (.cons (.as h2) .nil)) (spec_AddWait_law k c1 c2 r hr)⟩
      · cases hm
    · cases hg; exact noCon_ok
    · cases hg
  · intro g hg r
    by_cases h : g = 57
    · subst h; simp [E_spec_l12DrawList] at hg
    · simp [E_spec_l12DrawList, h]
theorem f57_okspec_l12DrawList : Try.prog.funcs[57]? = some Try.f57 := by kernel_rfl
theorem spec_l12DrawList_law (k : Nat) (a1 : (List Int) × Int × Int × Unit) (x : (List (Int × Int × Int × Int × Unit)) × ((List Int) × Int × Int × Unit)) (h : spec_l12DrawList k a1 = some x) : LawMof Try.prog 57 [] (.pair (.row (.int .u8)) (.pair (.int .i64) (.pair (.int .i64) .unit))) a1 (.pair (.int .i64) (.pair (.int .i64) (.pair (.int .i64) (.pair (.int .i64) .unit)))) x.1 x.2 := by
  unfold spec_l12DrawList at h
  exact lawMof (e := (.pair (.int .i64) (.pair (.int .i64) (.pair (.int .i64) (.pair (.int .i64) .unit))))) (T := (.pair (.row (.int .u8)) (.pair (.int .i64) (.pair (.int .i64) .unit)))) (tyTOk _ _) (E_spec_l12DrawList_calls k) mixOk f57_okspec_l12DrawList (nameOk _ _ f57_okspec_l12DrawList) (by kernel_rfl) (Nat.lt_of_lt_of_eq Nat.zero_lt_one (by kernel_rfl : 1 = pinsOf (E_spec_l12DrawList k) 57)) h
/-! spec.DrawAddWait -/
noncomputable def E_spec_DrawAddWait (k : Nat) : Env := ⟨ty, fun g => match g with
  | 32 => some (byFreshO (.pair (.row (.int .u8)) (.pair (.int .i64) (.pair (.int .i64) .unit))) fun ρ l K => match l with
    | [b1] => (b1.as (.row (.int .u8))).bind fun c1 => (spec_l1New k c1).bind fun r => K r
    | _ => none)
  | 57 => some (byMutOF (.pair (.row (.int .u8)) (.pair (.int .i64) (.pair (.int .i64) .unit))) (.pair (.int .i64) (.pair (.int .i64) (.pair (.int .i64) (.pair (.int .i64) .unit)))) fun ρ l xs K => match l with
    | [] => (spec_l12DrawList k xs ).bind fun r => K r.1 r.2
    | _ => none)
  | 58 => some (byMutO (.pair (.row (.int .u8)) (.pair (.int .i64) (.pair (.int .i64) .unit))) fun ρ l xs K => match l with
    | [] => (spec_l12DrawWait k xs ).bind fun r => K (tvM (.pair (.int .i64) (.pair (.int .i64) (.pair (.int .i64) (.pair (.int .i64) .unit)))) r.1) r.2
    | _ => none)
  | _ => none, fun _ _ => none⟩
noncomputable def spec_DrawAddWait (k : Nat) (a1 : List Int) : Option ((List (Int × Int × Int × Int × Unit)) × (Int × Int × Int × Int × Unit) × Unit) :=
  abody (E_spec_DrawAddWait k) (arun Try.prog (E_spec_DrawAddWait k) k) k 20 Try.f20 [.tv (.row (.int .u8)) a1] [] (finN (.pair (.row (.pair (.int .i64) (.pair (.int .i64) (.pair (.int .i64) (.pair (.int .i64) .unit))))) (.pair (.pair (.int .i64) (.pair (.int .i64) (.pair (.int .i64) (.pair (.int .i64) .unit)))) .unit)))
theorem spec_DrawAddWait_e (k : Nat) (a1 : List Int) : spec_DrawAddWait k a1 =
  bindO (spec_l1New k a1) fun r1 => (bindO (spec_l12DrawList k r1) fun r2 => (bindO (spec_l12DrawWait k r2.2) fun r3 => (some (r2.1, r3.1, ())))) := by kernel_rfl
theorem E_spec_DrawAddWait_calls (k : Nat) : CallsOk Try.prog (E_spec_DrawAddWait k) (arun Try.prog (E_spec_DrawAddWait k) k) := by
  refine told_run (tyTOk _ _) ?_ (fun run h => regOk (tyTOk _ _) mixOk h) ?_ nameOk k
  · intro g m hg
    simp only [E_spec_DrawAddWait] at hg
    split at hg
    · cases hg
      refine con_byFreshO fun ρ l K x hm => ?_
      split at hm
      · obtain ⟨c1, h1, hm⟩ := Option.bind_eq_some_iff.1 hm
        obtain ⟨r, hr, hm⟩ := Option.bind_eq_some_iff.1 hm
        exact ⟨_, hm, LawFo.reads (.cons (.as h1) .nil) (spec_l1New_law k c1 r hr)⟩
      · cases hm
    · cases hg
      refine con_byMutOF fun ρ l xs K x hm => ?_
      split at hm
      · obtain ⟨r, hr, hm⟩ := Option.bind_eq_some_iff.1 hm
        exact ⟨_, _, hm, LawMof.reads .nil (spec_l12DrawList_law k xs  r hr)⟩
      · cases hm
    · cases hg
      refine con_byMutO fun ρ l xs K x hm => ?_
      split at hm
      · obtain ⟨r, hr, hm⟩ := Option.bind_eq_some_iff.1 hm
        exact ⟨_, _, hm, LawMo.reads .nil (spec_l12DrawWait_law k xs  r hr)⟩
      · cases hm
    · cases hg
  · intro g _ r; rfl
theorem f20_okspec_DrawAddWait : Try.prog.funcs[20]? = some Try.f20 := by kernel_rfl
theorem spec_DrawAddWait_law (k : Nat) (a1 : List Int) (x : (List (Int × Int × Int × Int × Unit)) × (Int × Int × Int × Int × Unit) × Unit) (h : spec_DrawAddWait k a1 = some x) : LawV Try.prog 20 [.tv (.row (.int .u8)) a1] (.tup (outs (.pair (.row (.pair (.int .i64) (.pair (.int .i64) (.pair (.int .i64) (.pair (.int .i64) .unit))))) (.pair (.pair (.int .i64) (.pair (.int .i64) (.pair (.int .i64) (.pair (.int .i64) .unit)))) .unit)) x)) := by
  unfold spec_DrawAddWait at h
  exact lawN (t := (.pair (.row (.pair (.int .i64) (.pair (.int .i64) (.pair (.int .i64) (.pair (.int .i64) .unit))))) (.pair (.pair (.int .i64) (.pair (.int .i64) (.pair (.int .i64) (.pair (.int .i64) .unit)))) .unit))) (tyTOk _ _) (E_spec_DrawAddWait_calls k) mixOk f20_okspec_DrawAddWait (nameOk _ _ f20_okspec_DrawAddWait) (by kernel_rfl) h
/-! slices.Clone[[]impl.Wait,impl.Wait] -/
noncomputable def E_slices_Clone_impl_Wait (k : Nat) : Env := ⟨ty, fun _ => none, fun _ _ => none⟩
noncomputable def slices_Clone_impl_Wait (k : Nat) (a1 : List (Int × Int × Int × Int × Unit)) : Option (List (Int × Int × Int × Int × Unit)) := bif decide (List.length a1 * 32 ≤ lim) then some a1 else none
theorem slices_Clone_impl_Wait_e (k : Nat) (a1 : List (Int × Int × Int × Int × Unit)) : slices_Clone_impl_Wait k a1 = iteB (decide (List.length a1 * 32 ≤ lim)) (some a1) none := by unfold slices_Clone_impl_Wait; cases decide (List.length a1 * 32 ≤ lim) <;> rfl
theorem E_slices_Clone_impl_Wait_calls (k : Nat) : CallsOk Try.prog (E_slices_Clone_impl_Wait k) (arun Try.prog (E_slices_Clone_impl_Wait k) k) := by
  refine told_run (tyTOk _ _) ?_ (fun run h => regOk (tyTOk _ _) mixOk h) ?_ nameOk k
  · intro g m hg; cases hg
  · intro g _ r; rfl
theorem f59_okslices_Clone_impl_Wait : Try.prog.funcs[59]? = some Try.f59 := by kernel_rfl
theorem slices_Clone_impl_Wait_run (k : Nat) (a1 : List (Int × Int × Int × Int × Unit)) (b : Bool) : aexec (E_slices_Clone_impl_Wait k) 59 (acall (E_slices_Clone_impl_Wait k) (arun Try.prog (E_slices_Clone_impl_Wait k) k)) k (Code.seq (cndOf Try.f59) (rstOf Try.f59)) ⟨(List.set (List.set [.tv (.row (.pair (.int .i64) (.pair (.int .i64) (.pair (.int .i64) (.pair (.int .i64) .unit))))) a1, .undef, .nils, .undef, .undef, .undef, .undef, .undef] 3 (.tv (.row (.pair (.int .i64) (.pair (.int .i64) (.pair (.int .i64) (.pair (.int .i64) .unit))))) a1)) 4 (.bool b)), []⟩ (leave (E_slices_Clone_impl_Wait k) Try.f59 (finF (.pair (.int .i64) (.pair (.int .i64) (.pair (.int .i64) (.pair (.int .i64) .unit)))))) = (bif b then some [] else bif decide (List.length a1 * 32 ≤ lim) then some a1 else none) := by cases b <;> kernel_rfl
theorem slices_Clone_impl_Wait_law (k : Nat) (a1 : List (Int × Int × Int × Int × Unit)) (x : List (Int × Int × Int × Int × Unit)) (h : slices_Clone_impl_Wait k a1 = some x) : LawF Try.prog 59 [.tv (.row (.pair (.int .i64) (.pair (.int .i64) (.pair (.int .i64) (.pair (.int .i64) .unit))))) a1] (.pair (.int .i64) (.pair (.int .i64) (.pair (.int .i64) (.pair (.int .i64) .unit)))) x := by
  unfold slices_Clone_impl_Wait at h
  cases hb : decide (List.length a1 * 32 ≤ lim) with
  | false => rw [hb] at h; cases h
  | true =>
    rw [hb] at h
    cases h
    refine lawClone (tyTOk _ _) (E_slices_Clone_impl_Wait_calls k) mixOk f59_okslices_Clone_impl_Wait (nameOk _ _ f59_okslices_Clone_impl_Wait) (k := k) (i := 0) (d := 3) (g := 4) (cnd := cndOf Try.f59) (rest := rstOf Try.f59) (st0 := ⟨[.tv (.row (.pair (.int .i64) (.pair (.int .i64) (.pair (.int .i64) (.pair (.int .i64) .unit))))) a1, .undef, .nils, .undef, .undef, .undef, .undef, .undef], []⟩) rfl rfl rfl rfl rfl rfl rfl rfl (by kernel_rfl) rfl (by simp) fun b => ?_
    refine (slices_Clone_impl_Wait_run k a1 b).trans ?_
    cases b
    · show (bif decide (List.length a1 * 32 ≤ lim) then some a1 else none) = some a1; rw [hb]; rfl
    · rfl
/-! impl.AddWait -/
noncomputable def E_impl_AddWait (k : Nat) : Env := ⟨ty, fun g => match g with
  | 59 => some (byFresh (.pair (.int .i64) (.pair (.int .i64) (.pair (.int .i64) (.pair (.int .i64) .unit)))) fun ρ l K => match l with
    | [b1] => (b1.as (.row (.pair (.int .i64) (.pair (.int .i64) (.pair (.int .i64) (.pair (.int .i64) .unit)))))).bind fun c1 => (slices_Clone_impl_Wait k c1).bind fun r => K r
    | _ => none)
  | 21 => some noCon
  | _ => none, fun f r => match f with | 21 => (match r with | 3 => some [0, 3, 5, 9, 10, 11] | 7 => some [0, 3, 5, 7, 9, 10, 11] | _ => none) | _ => none⟩
noncomputable def impl_AddWait (k : Nat) (a1 : List (Int × Int × Int × Int × Unit)) (a2 : Int × Int × Int × Int × Unit) : Option (List (Int × Int × Int × Int × Unit)) :=
  abody (E_impl_AddWait k) (arun Try.prog (E_impl_AddWait k) k) k 21 Try.f21 [.tv (.row (.pair (.int .i64) (.pair (.int .i64) (.pair (.int .i64) (.pair (.int .i64) .unit))))) a1, .tv (.pair (.int .i64) (.pair (.int .i64) (.pair (.int .i64) (.pair (.int .i64) .unit)))) a2] [] (finF (.pair (.int .i64) (.pair (.int .i64) (.pair (.int .i64) (.pair (.int .i64) .unit)))))
noncomputable def impl_AddWait.l3 (k n : Nat) (x0 : List (Int × Int × Int × Int × Unit)) (x9 : List (Int × Int × Int × Int × Unit)) (x10 : Int) (x11 : Int) (y0_0 : Int × Int × Int × Int × Unit) : Option (List (Int × Int × Int × Int × Unit)) :=
  resume (E_impl_AddWait k) 21 (acall (E_impl_AddWait k) (arun Try.prog (E_impl_AddWait k) k)) k [true, true, false, true, true] [n] (bodyOf Try.f21) ⟨[.tv (.row (.pair (.int .i64) (.pair (.int .i64) (.pair (.int .i64) (.pair (.int .i64) .unit))))) x0, .undef, .undef, .ptr 0 0 0, .undef, .sl 1, .undef, .undef, .undef, .tv (.row (.pair (.int .i64) (.pair (.int .i64) (.pair (.int .i64) (.pair (.int .i64) .unit))))) x9, .int .i64 x10, .int .i64 x11, .undef, .undef, .undef, .undef, .undef, .undef, .undef, .undef, .undef, .undef, .undef, .undef, .undef, .undef, .undef, .undef, .undef, .undef, .undef, .undef, .undef, .undef, .undef, .undef, .undef, .undef, .undef, .undef, .undef, .undef, .undef], [some ⟨.raw true 4 (.agg [.int .i64 0, .int .i64 0, .int .i64 0, .int .i64 0]) [.tv (.pair (.int .i64) (.pair (.int .i64) (.pair (.int .i64) (.pair (.int .i64) .unit)))) y0_0], true⟩, some ⟨.typed (.pair (.int .i64) (.pair (.int .i64) (.pair (.int .i64) (.pair (.int .i64) .unit)))) [], true⟩]⟩ (leave (E_impl_AddWait k) Try.f21 (finF (.pair (.int .i64) (.pair (.int .i64) (.pair (.int .i64) (.pair (.int .i64) .unit))))))
noncomputable def impl_AddWait.j7 (k m3 : Nat) (x0 : List (Int × Int × Int × Int × Unit)) (x9 : List (Int × Int × Int × Int × Unit)) (x10 : Int) (x11 : Int) (y0_0 : Int × Int × Int × Int × Unit) (y2_0 : Int × Int × Int × Int × Unit) : Option (List (Int × Int × Int × Int × Unit)) :=
  resume (E_impl_AddWait k) 21 (acall (E_impl_AddWait k) (arun Try.prog (E_impl_AddWait k) k)) k [true, true, false, true, true, true, true, true, false, true, true, true] [m3] (bodyOf Try.f21) ⟨[.tv (.row (.pair (.int .i64) (.pair (.int .i64) (.pair (.int .i64) (.pair (.int .i64) .unit))))) x0, .undef, .undef, .ptr 0 0 0, .undef, .sl 1, .undef, .ptr 2 0 0, .undef, .tv (.row (.pair (.int .i64) (.pair (.int .i64) (.pair (.int .i64) (.pair (.int .i64) .unit))))) x9, .int .i64 x10, .int .i64 x11, .undef, .undef, .undef, .undef, .undef, .undef, .undef, .undef, .undef, .undef, .undef, .undef, .undef, .undef, .undef, .undef, .undef, .undef, .undef, .undef, .undef, .undef, .undef, .undef, .undef, .undef, .undef, .undef, .undef, .undef, .undef], [some ⟨.raw true 4 (.agg [.int .i64 0, .int .i64 0, .int .i64 0, .int .i64 0]) [.tv (.pair (.int .i64) (.pair (.int .i64) (.pair (.int .i64) (.pair (.int .i64) .unit)))) y0_0], true⟩, some ⟨.typed (.pair (.int .i64) (.pair (.int .i64) (.pair (.int .i64) (.pair (.int .i64) .unit)))) [], true⟩, some ⟨.raw true 4 (.agg [.int .i64 0, .int .i64 0, .int .i64 0, .int .i64 0]) [.tv (.pair (.int .i64) (.pair (.int .i64) (.pair (.int .i64) (.pair (.int .i64) .unit)))) y2_0], true⟩]⟩ (leave (E_impl_AddWait k) Try.f21 (finF (.pair (.int .i64) (.pair (.int .i64) (.pair (.int .i64) (.pair (.int .i64) .unit))))))
noncomputable def impl_AddWait.l3b (k n : Nat) (x0 : List (Int × Int × Int × Int × Unit)) (x9 : List (Int × Int × Int × Int × Unit)) (x10 : Int) (x11 : Int) (y0_0 : Int × Int × Int × Int × Unit) (y1 : List (Int × Int × Int × Int × Unit)) : Option (List (Int × Int × Int × Int × Unit)) :=
  resume (E_impl_AddWait k) 21 (acall (E_impl_AddWait k) (arun Try.prog (E_impl_AddWait k) k)) k [true, true, false, true, true] [n] (bodyOf Try.f21) ⟨[.tv (.row (.pair (.int .i64) (.pair (.int .i64) (.pair (.int .i64) (.pair (.int .i64) .unit))))) x0, .undef, .undef, .ptr 0 0 0, .undef, .sl 1, .undef, .undef, .undef, .tv (.row (.pair (.int .i64) (.pair (.int .i64) (.pair (.int .i64) (.pair (.int .i64) .unit))))) x9, .int .i64 x10, .int .i64 x11, .undef, .undef, .undef, .undef, .undef, .undef, .undef, .undef, .undef, .undef, .undef, .undef, .undef, .undef, .undef, .undef, .undef, .undef, .undef, .undef, .undef, .undef, .undef, .undef, .undef, .undef, .undef, .undef, .undef, .undef, .undef], [some ⟨.raw true 4 (.agg [.int .i64 0, .int .i64 0, .int .i64 0, .int .i64 0]) [.tv (.pair (.int .i64) (.pair (.int .i64) (.pair (.int .i64) (.pair (.int .i64) .unit)))) y0_0], true⟩, some ⟨.typed (.pair (.int .i64) (.pair (.int .i64) (.pair (.int .i64) (.pair (.int .i64) .unit)))) y1, false⟩]⟩ (leave (E_impl_AddWait k) Try.f21 (finF (.pair (.int .i64) (.pair (.int .i64) (.pair (.int .i64) (.pair (.int .i64) .unit))))))
noncomputable def impl_AddWait.j7b (k m3 : Nat) (x0 : List (Int × Int × Int × Int × Unit)) (x9 : List (Int × Int × Int × Int × Unit)) (x10 : Int) (x11 : Int) (y0_0 : Int × Int × Int × Int × Unit) (y1 : List (Int × Int × Int × Int × Unit)) (y2_0 : Int × Int × Int × Int × Unit) : Option (List (Int × Int × Int × Int × Unit)) :=
  resume (E_impl_AddWait k) 21 (acall (E_impl_AddWait k) (arun Try.prog (E_impl_AddWait k) k)) k [true, true, false, true, true, true, true, true, false, true, true, true] [m3] (bodyOf Try.f21) ⟨[.tv (.row (.pair (.int .i64) (.pair (.int .i64) (.pair (.int .i64) (.pair (.int .i64) .unit))))) x0, .undef, .undef, .ptr 0 0 0, .undef, .sl 1, .undef, .ptr 2 0 0, .undef, .tv (.row (.pair (.int .i64) (.pair (.int .i64) (.pair (.int .i64) (.pair (.int .i64) .unit))))) x9, .int .i64 x10, .int .i64 x11, .undef, .undef, .undef, .undef, .undef, .undef, .undef, .undef, .undef, .undef, .undef, .undef, .undef, .undef, .undef, .undef, .undef, .undef, .undef, .undef, .undef, .undef, .undef, .undef, .undef, .undef, .undef, .undef, .undef, .undef, .undef], [some ⟨.raw true 4 (.agg [.int .i64 0, .int .i64 0, .int .i64 0, .int .i64 0]) [.tv (.pair (.int .i64) (.pair (.int .i64) (.pair (.int .i64) (.pair (.int .i64) .unit)))) y0_0], true⟩, some ⟨.typed (.pair (.int .i64) (.pair (.int .i64) (.pair (.int .i64) (.pair (.int .i64) .unit)))) y1, false⟩, some ⟨.raw true 4 (.agg [.int .i64 0, .int .i64 0, .int .i64 0, .int .i64 0]) [.tv (.pair (.int .i64) (.pair (.int .i64) (.pair (.int .i64) (.pair (.int .i64) .unit)))) y2_0], true⟩]⟩ (leave (E_impl_AddWait k) Try.f21 (finF (.pair (.int .i64) (.pair (.int .i64) (.pair (.int .i64) (.pair (.int .i64) .unit))))))
theorem impl_AddWait.l3_0 (k : Nat) (x0 : List (Int × Int × Int × Int × Unit)) (x9 : List (Int × Int × Int × Int × Unit)) (x10 : Int) (x11 : Int) (y0_0 : Int × Int × Int × Int × Unit) : impl_AddWait.l3 k 0 x0 x9 x10 x11 y0_0 = none := by kernel_rfl
theorem impl_AddWait.l3_s (k n : Nat) (x0 : List (Int × Int × Int × Int × Unit)) (x9 : List (Int × Int × Int × Int × Unit)) (x10 : Int) (x11 : Int) (y0_0 : Int × Int × Int × Int × Unit) : impl_AddWait.l3 k (n + 1) x0 x9 x10 x11 y0_0 =
  iteB (decide (x11 < x10)) (iteB (decide (0 ≤ x11)) (iteB (decide (x11 < ((List.length x9) : Int))) (iteB (((List.getD x9 (Int.toNat x11) (Ty.dflt (.pair (.int .i64) (.pair (.int .i64) (.pair (.int .i64) (.pair (.int .i64) .unit)))))).1) == y0_0.1) (iteB ((((List.getD x9 (Int.toNat x11) (Ty.dflt (.pair (.int .i64) (.pair (.int .i64) (.pair (.int .i64) (.pair (.int .i64) .unit)))))).2).1) == y0_0.2.1) (bindO (slices_Clone_impl_Wait k x0) fun r1 => (some r1)) (gate k (impl_AddWait.j7 k n x0 x9 x10 x11 y0_0 (List.getD x9 (Int.toNat x11) (Ty.dflt (.pair (.int .i64) (.pair (.int .i64) (.pair (.int .i64) (.pair (.int .i64) .unit))))))))) (gate k (impl_AddWait.j7 k n x0 x9 x10 x11 y0_0 (List.getD x9 (Int.toNat x11) (Ty.dflt (.pair (.int .i64) (.pair (.int .i64) (.pair (.int .i64) (.pair (.int .i64) .unit))))))))) (none)) (none)) (iteB (decide ((List.length ([] ++ [y0_0])) * 32 ≤ lim)) (some ([] ++ [y0_0])) (none)) := by kernel_rfl
theorem impl_AddWait.j7_e (k m3 : Nat) (x0 : List (Int × Int × Int × Int × Unit)) (x9 : List (Int × Int × Int × Int × Unit)) (x10 : Int) (x11 : Int) (y0_0 : Int × Int × Int × Int × Unit) (y2_0 : Int × Int × Int × Int × Unit) : impl_AddWait.j7 k m3 x0 x9 x10 x11 y0_0 y2_0 =
  iteB (y2_0.1 != y0_0.1) (iteB (decide ((List.length ([] ++ [y2_0])) * 32 ≤ lim)) (impl_AddWait.l3b k m3 x0 x9 x10 (IntKind.wrap .i64 (x11 + 1)) y0_0 ([] ++ [y2_0])) (none)) (impl_AddWait.l3 k m3 x0 x9 x10 (IntKind.wrap .i64 (x11 + 1)) y0_0) := by kernel_rfl
theorem impl_AddWait.l3b_0 (k : Nat) (x0 : List (Int × Int × Int × Int × Unit)) (x9 : List (Int × Int × Int × Int × Unit)) (x10 : Int) (x11 : Int) (y0_0 : Int × Int × Int × Int × Unit) (y1 : List (Int × Int × Int × Int × Unit)) : impl_AddWait.l3b k 0 x0 x9 x10 x11 y0_0 y1 = none := by kernel_rfl
theorem impl_AddWait.l3b_s (k n : Nat) (x0 : List (Int × Int × Int × Int × Unit)) (x9 : List (Int × Int × Int × Int × Unit)) (x10 : Int) (x11 : Int) (y0_0 : Int × Int × Int × Int × Unit) (y1 : List (Int × Int × Int × Int × Unit)) : impl_AddWait.l3b k (n + 1) x0 x9 x10 x11 y0_0 y1 =
  iteB (decide (x11 < x10)) (iteB (decide (0 ≤ x11)) (iteB (decide (x11 < ((List.length x9) : Int))) (iteB (((List.getD x9 (Int.toNat x11) (Ty.dflt (.pair (.int .i64) (.pair (.int .i64) (.pair (.int .i64) (.pair (.int .i64) .unit)))))).1) == y0_0.1) (iteB ((((List.getD x9 (Int.toNat x11) (Ty.dflt (.pair (.int .i64) (.pair (.int .i64) (.pair (.int .i64) (.pair (.int .i64) .unit)))))).2).1) == y0_0.2.1) (bindO (slices_Clone_impl_Wait k x0) fun r2 => (some r2)) (gate k (impl_AddWait.j7b k n x0 x9 x10 x11 y0_0 y1 (List.getD x9 (Int.toNat x11) (Ty.dflt (.pair (.int .i64) (.pair (.int .i64) (.pair (.int .i64) (.pair (.int .i64) .unit))))))))) (gate k (impl_AddWait.j7b k n x0 x9 x10 x11 y0_0 y1 (List.getD x9 (Int.toNat x11) (Ty.dflt (.pair (.int .i64) (.pair (.int .i64) (.pair (.int .i64) (.pair (.int .i64) .unit))))))))) (none)) (none)) (iteB (decide ((List.length (y1 ++ [y0_0])) * 32 ≤ lim)) (some (y1 ++ [y0_0])) (none)) := by kernel_rfl
theorem impl_AddWait.j7b_e (k m3 : Nat) (x0 : List (Int × Int × Int × Int × Unit)) (x9 : List (Int × Int × Int × Int × Unit)) (x10 : Int) (x11 : Int) (y0_0 : Int × Int × Int × Int × Unit) (y1 : List (Int × Int × Int × Int × Unit)) (y2_0 : Int × Int × Int × Int × Unit) : impl_AddWait.j7b k m3 x0 x9 x10 x11 y0_0 y1 y2_0 =
  iteB (y2_0.1 != y0_0.1) (iteB (decide ((List.length (y1 ++ [y2_0])) * 32 ≤ lim)) (impl_AddWait.l3b k m3 x0 x9 x10 (IntKind.wrap .i64 (x11 + 1)) y0_0 (y1 ++ [y2_0])) (none)) (impl_AddWait.l3b k m3 x0 x9 x10 (IntKind.wrap .i64 (x11 + 1)) y0_0 y1) := by kernel_rfl
theorem impl_AddWait_e (k : Nat) (a1 : List (Int × Int × Int × Int × Unit)) (a2 : Int × Int × Int × Int × Unit) : impl_AddWait k a1 a2 =
  impl_AddWait.l3 k k a1 a1 ((List.length a1) : Int) 0 a2 := by kernel_rfl
theorem E_impl_AddWait_calls (k : Nat) : CallsOk Try.prog (E_impl_AddWait k) (arun Try.prog (E_impl_AddWait k) k) := by
  refine told_run (tyTOk _ _) ?_ (fun run h => regOk (tyTOk _ _) mixOk h) ?_ nameOk k
  · intro g m hg
    simp only [E_impl_AddWait] at hg
    split at hg
    · cases hg
      refine con_byFresh fun ρ l K x hm => ?_
      split at hm
      · obtain ⟨c1, h1, hm⟩ := Option.bind_eq_some_iff.1 hm
        obtain ⟨r, hr, hm⟩ := Option.bind_eq_some_iff.1 hm
        exact ⟨_, hm, LawF.reads (.cons (.as h1) .nil) (slices_Clone_impl_Wait_law k c1 r hr)⟩
      · cases hm
    · cases hg; exact noCon_ok
    · cases hg
  · intro g hg r
    by_cases h : g = 21
    · subst h; simp [E_impl_AddWait] at hg
    · simp [E_impl_AddWait, h]
theorem f21_okimpl_AddWait : Try.prog.funcs[21]? = some Try.f21 := by kernel_rfl
theorem impl_AddWait_law (k : Nat) (a1 : List (Int × Int × Int × Int × Unit)) (a2 : Int × Int × Int × Int × Unit) (x : List (Int × Int × Int × Int × Unit)) (h : impl_AddWait k a1 a2 = some x) : LawF Try.prog 21 [.tv (.row (.pair (.int .i64) (.pair (.int .i64) (.pair (.int .i64) (.pair (.int .i64) .unit))))) a1, .tv (.pair (.int .i64) (.pair (.int .i64) (.pair (.int .i64) (.pair (.int .i64) .unit)))) a2] (.pair (.int .i64) (.pair (.int .i64) (.pair (.int .i64) (.pair (.int .i64) .unit)))) x := by
  unfold impl_AddWait at h
  exact lawF (e := (.pair (.int .i64) (.pair (.int .i64) (.pair (.int .i64) (.pair (.int .i64) .unit))))) (tyTOk _ _) (E_impl_AddWait_calls k) mixOk f21_okimpl_AddWait (nameOk _ _ f21_okimpl_AddWait) (by kernel_rfl) h
/-! laws.sameWaits -/
noncomputable def E_laws_sameWaits (k : Nat) : Env := ⟨ty, fun g => match g with
  | 22 => some noCon
  | _ => none, fun f r => match f with | 22 => (match r with | 4 => some [0, 1, 5] | _ => none) | _ => none⟩
noncomputable def laws_sameWaits (k : Nat) (a1 : List (Int × Int × Int × Int × Unit)) (a2 : List (Int × Int × Int × Int × Unit)) : Option (Bool) :=
  abody (E_laws_sameWaits k) (arun Try.prog (E_laws_sameWaits k) k) k 22 Try.f22 [.tv (.row (.pair (.int .i64) (.pair (.int .i64) (.pair (.int .i64) (.pair (.int .i64) .unit))))) a1, .tv (.row (.pair (.int .i64) (.pair (.int .i64) (.pair (.int .i64) (.pair (.int .i64) .unit))))) a2] [] (fin1 .bool)
noncomputable def laws_sameWaits.l4 (k n : Nat) (x0 : List (Int × Int × Int × Int × Unit)) (x1 : List (Int × Int × Int × Int × Unit)) (x5 : Int) : Option (Bool) :=
  resume (E_laws_sameWaits k) 22 (acall (E_laws_sameWaits k) (arun Try.prog (E_laws_sameWaits k) k)) k [true, true, false, true, true] [n] (bodyOf Try.f22) ⟨[.tv (.row (.pair (.int .i64) (.pair (.int .i64) (.pair (.int .i64) (.pair (.int .i64) .unit))))) x0, .tv (.row (.pair (.int .i64) (.pair (.int .i64) (.pair (.int .i64) (.pair (.int .i64) .unit))))) x1, .undef, .undef, .undef, .int .i64 x5, .undef, .undef, .undef, .undef, .undef, .undef, .undef, .undef, .undef, .undef, .undef, .undef, .undef, .undef, .undef, .undef, .undef, .undef, .undef, .undef], []⟩ (leave (E_laws_sameWaits k) Try.f22 (fin1 .bool))
theorem laws_sameWaits.l4_0 (k : Nat) (x0 : List (Int × Int × Int × Int × Unit)) (x1 : List (Int × Int × Int × Int × Unit)) (x5 : Int) : laws_sameWaits.l4 k 0 x0 x1 x5 = none := by kernel_rfl
theorem laws_sameWaits.l4_s (k n : Nat) (x0 : List (Int × Int × Int × Int × Unit)) (x1 : List (Int × Int × Int × Int × Unit)) (x5 : Int) : laws_sameWaits.l4 k (n + 1) x0 x1 x5 =
  iteB (decide (x5 < ((List.length x0) : Int))) (iteB (decide (0 ≤ x5)) (iteB (decide (x5 < ((List.length x0) : Int))) (iteB (decide (0 ≤ x5)) (iteB (decide (x5 < ((List.length x1) : Int))) (iteB (!((((List.getD x0 (Int.toNat x5) (Ty.dflt (.pair (.int .i64) (.pair (.int .i64) (.pair (.int .i64) (.pair (.int .i64) .unit)))))).1) == ((List.getD x1 (Int.toNat x5) (Ty.dflt (.pair (.int .i64) (.pair (.int .i64) (.pair (.int .i64) (.pair (.int .i64) .unit)))))).1)) && (((((List.getD x0 (Int.toNat x5) (Ty.dflt (.pair (.int .i64) (.pair (.int .i64) (.pair (.int .i64) (.pair (.int .i64) .unit)))))).2).1) == (((List.getD x1 (Int.toNat x5) (Ty.dflt (.pair (.int .i64) (.pair (.int .i64) (.pair (.int .i64) (.pair (.int .i64) .unit)))))).2).1)) && ((((((List.getD x0 (Int.toNat x5) (Ty.dflt (.pair (.int .i64) (.pair (.int .i64) (.pair (.int .i64) (.pair (.int .i64) .unit)))))).2).2).1) == ((((List.getD x1 (Int.toNat x5) (Ty.dflt (.pair (.int .i64) (.pair (.int .i64) (.pair (.int .i64) (.pair (.int .i64) .unit)))))).2).2).1)) && (((((((List.getD x0 (Int.toNat x5) (Ty.dflt (.pair (.int .i64) (.pair (.int .i64) (.pair (.int .i64) (.pair (.int .i64) .unit)))))).2).2).2).1) == (((((List.getD x1 (Int.toNat x5) (Ty.dflt (.pair (.int .i64) (.pair (.int .i64) (.pair (.int .i64) (.pair (.int .i64) .unit)))))).2).2).2).1)) && true))))) (some false) (laws_sameWaits.l4 k n x0 x1 (IntKind.wrap .i64 (x5 + 1)))) (none)) (none)) (none)) (none)) (some true) := by kernel_rfl
theorem laws_sameWaits_e (k : Nat) (a1 : List (Int × Int × Int × Int × Unit)) (a2 : List (Int × Int × Int × Int × Unit)) : laws_sameWaits k a1 a2 =
  iteB (((List.length a1) : Int) != ((List.length a2) : Int)) (some false) (laws_sameWaits.l4 k k a1 a2 0) := by kernel_rfl
theorem E_laws_sameWaits_calls (k : Nat) : CallsOk Try.prog (E_laws_sameWaits k) (arun Try.prog (E_laws_sameWaits k) k) := by
  refine told_run (tyTOk _ _) ?_ (fun run h => regOk (tyTOk _ _) mixOk h) ?_ nameOk k
  · intro g m hg
    simp only [E_laws_sameWaits] at hg
    split at hg
    · cases hg; exact noCon_ok
    · cases hg
  · intro g hg r
    by_cases h : g = 22
    · subst h; simp [E_laws_sameWaits] at hg
    · simp [E_laws_sameWaits, h]
theorem f22_oklaws_sameWaits : Try.prog.funcs[22]? = some Try.f22 := by kernel_rfl
theorem laws_sameWaits_law (k : Nat) (a1 : List (Int × Int × Int × Int × Unit)) (a2 : List (Int × Int × Int × Int × Unit)) (x : Bool) (h : laws_sameWaits k a1 a2 = some x) : LawV Try.prog 22 [.tv (.row (.pair (.int .i64) (.pair (.int .i64) (.pair (.int .i64) (.pair (.int .i64) .unit))))) a1, .tv (.row (.pair (.int .i64) (.pair (.int .i64) (.pair (.int .i64) (.pair (.int .i64) .unit))))) a2] (tvn .bool x) := by
  unfold laws_sameWaits at h
  exact law1 (t := .bool) (tyTOk _ _) (E_laws_sameWaits_calls k) mixOk f22_oklaws_sameWaits (nameOk _ _ f22_oklaws_sameWaits) (by kernel_rfl) h
/-! spec.l12DrawTickets -/
noncomputable def E_spec_l12DrawTickets (k : Nat) : Env := ⟨ty, fun g => match g with
  | 36 => some (byMutO (.pair (.row (.int .u8)) (.pair (.int .i64) (.pair (.int .i64) .unit))) fun ρ l xs K => match l with
    | [b1] => (b1.as (.int .i64)).bind fun c1 => (spec_l1Below k xs c1).bind fun r => K (tvM (.int .i64) r.1) r.2
    | _ => none)
  | 60 => some noCon
  | _ => none, fun f r => match f with | 60 => (match r with | 3 => some [0, 3, 4] | 999999 => some [1] | _ => none) | _ => none⟩
noncomputable def spec_l12DrawTickets (k : Nat) (a1 : (List Int) × Int × Int × Unit) : Option ((List Int) × ((List Int) × Int × Int × Unit)) :=
  abody (E_spec_l12DrawTickets k) (arun Try.prog (E_spec_l12DrawTickets k) k) k 60 Try.f60 [.ptr 0 0 0] [some ⟨.raw true 3 (.tv (.pair (.row (.int .u8)) (.pair (.int .i64) (.pair (.int .i64) .unit))) (Ty.dflt (.pair (.row (.int .u8)) (.pair (.int .i64) (.pair (.int .i64) .unit))))) [.tv (.pair (.row (.int .u8)) (.pair (.int .i64) (.pair (.int .i64) .unit))) a1], false⟩] (finMo (.row (.int .i64)) (.pair (.row (.int .u8)) (.pair (.int .i64) (.pair (.int .i64) .unit))))
noncomputable def spec_l12DrawTickets.l3 (k n : Nat) (x4 : Int) (y0_0 : (List Int) × Int × Int × Unit) : Option ((List Int) × ((List Int) × Int × Int × Unit)) :=
  resume (E_spec_l12DrawTickets k) 60 (acall (E_spec_l12DrawTickets k) (arun Try.prog (E_spec_l12DrawTickets k) k)) k [true, true, false, true, true] [n] (bodyOf Try.f60) ⟨[.ptr 0 0 0, .undef, .undef, .sl 1, .int .i64 x4, .undef, .undef, .undef, .undef, .undef, .undef, .undef, .undef, .undef, .undef, .undef, .undef, .undef, .undef, .undef], [some ⟨.raw true 3 (.tv (.pair (.row (.int .u8)) (.pair (.int .i64) (.pair (.int .i64) .unit))) (Ty.dflt (.pair (.row (.int .u8)) (.pair (.int .i64) (.pair (.int .i64) .unit))))) [.tv (.pair (.row (.int .u8)) (.pair (.int .i64) (.pair (.int .i64) .unit))) y0_0], false⟩, some ⟨.typed (.int .i64) [], true⟩]⟩ (leave (E_spec_l12DrawTickets k) Try.f60 (finMo (.row (.int .i64)) (.pair (.row (.int .u8)) (.pair (.int .i64) (.pair (.int .i64) .unit)))))
noncomputable def spec_l12DrawTickets.l3b (k n : Nat) (x4 : Int) (y0_0 : (List Int) × Int × Int × Unit) (y1 : List Int) : Option ((List Int) × ((List Int) × Int × Int × Unit)) :=
  resume (E_spec_l12DrawTickets k) 60 (acall (E_spec_l12DrawTickets k) (arun Try.prog (E_spec_l12DrawTickets k) k)) k [true, true, false, true, true] [n] (bodyOf Try.f60) ⟨[.ptr 0 0 0, .undef, .undef, .sl 1, .int .i64 x4, .undef, .undef, .undef, .undef, .undef, .undef, .undef, .undef, .undef, .undef, .undef, .undef, .undef, .undef, .undef], [some ⟨.raw true 3 (.tv (.pair (.row (.int .u8)) (.pair (.int .i64) (.pair (.int .i64) .unit))) (Ty.dflt (.pair (.row (.int .u8)) (.pair (.int .i64) (.pair (.int .i64) .unit))))) [.tv (.pair (.row (.int .u8)) (.pair (.int .i64) (.pair (.int .i64) .unit))) y0_0], false⟩, some ⟨.typed (.int .i64) y1, false⟩]⟩ (leave (E_spec_l12DrawTickets k) Try.f60 (finMo (.row (.int .i64)) (.pair (.row (.int .u8)) (.pair (.int .i64) (.pair (.int .i64) .unit)))))
theorem spec_l12DrawTickets.l3_0 (k : Nat) (x4 : Int) (y0_0 : (List Int) × Int × Int × Unit) : spec_l12DrawTickets.l3 k 0 x4 y0_0 = none := by kernel_rfl
theorem spec_l12DrawTickets.l3_s (k n : Nat) (x4 : Int) (y0_0 : (List Int) × Int × Int × Unit) : spec_l12DrawTickets.l3 k (n + 1) x4 y0_0 =
  bindO (spec_l1Below k y0_0 3) fun r1 => (iteB (decide (x4 < IntKind.wrap .i64 (2 + r1.1))) (bindO (spec_l1Below k r1.2 3) fun r2 => (iteB (decide ((List.length ([] ++ [IntKind.wrap .i64 (1 + r2.1)])) * 8 ≤ lim)) (spec_l12DrawTickets.l3b k n (IntKind.wrap .i64 (x4 + 1)) r2.2 ([] ++ [IntKind.wrap .i64 (1 + r2.1)])) (none))) (some ([], r1.2))) := by kernel_rfl
theorem spec_l12DrawTickets.l3b_0 (k : Nat) (x4 : Int) (y0_0 : (List Int) × Int × Int × Unit) (y1 : List Int) : spec_l12DrawTickets.l3b k 0 x4 y0_0 y1 = none := by kernel_rfl
theorem spec_l12DrawTickets.l3b_s (k n : Nat) (x4 : Int) (y0_0 : (List Int) × Int × Int × Unit) (y1 : List Int) : spec_l12DrawTickets.l3b k (n + 1) x4 y0_0 y1 =
  bindO (spec_l1Below k y0_0 3) fun r3 => (iteB (decide (x4 < IntKind.wrap .i64 (2 + r3.1))) (bindO (spec_l1Below k r3.2 3) fun r4 => (iteB (decide ((List.length (y1 ++ [IntKind.wrap .i64 (1 + r4.1)])) * 8 ≤ lim)) (spec_l12DrawTickets.l3b k n (IntKind.wrap .i64 (x4 + 1)) r4.2 (y1 ++ [IntKind.wrap .i64 (1 + r4.1)])) (none))) (some (y1, r3.2))) := by kernel_rfl
theorem spec_l12DrawTickets_e (k : Nat) (a1 : (List Int) × Int × Int × Unit) : spec_l12DrawTickets k a1 =
  spec_l12DrawTickets.l3 k k 0 a1 := by kernel_rfl
theorem E_spec_l12DrawTickets_calls (k : Nat) : CallsOk Try.prog (E_spec_l12DrawTickets k) (arun Try.prog (E_spec_l12DrawTickets k) k) := by
  refine told_run (tyTOk _ _) ?_ (fun run h => regOk (tyTOk _ _) mixOk h) ?_ nameOk k
  · intro g m hg
    simp only [E_spec_l12DrawTickets] at hg
    split at hg
    · cases hg
      refine con_byMutO fun ρ l xs K x hm => ?_
      split at hm
      · obtain ⟨c1, h1, hm⟩ := Option.bind_eq_some_iff.1 hm
        obtain ⟨r, hr, hm⟩ := Option.bind_eq_some_iff.1 hm
        exact ⟨_, _, hm, LawMo.reads (.cons (.as h1) .nil) (spec_l1Below_law k xs c1 r hr)⟩
      · cases hm
    · cases hg; exact noCon_ok
    · cases hg
  · intro g hg r
    by_cases h : g = 60
    · subst h; simp [E_spec_l12DrawTickets] at hg
    · simp [E_spec_l12DrawTickets, h]
theorem f60_okspec_l12DrawTickets : Try.prog.funcs[60]? = some Try.f60 := by kernel_rfl
theorem spec_l12DrawTickets_law (k : Nat) (a1 : (List Int) × Int × Int × Unit) (x : (List Int) × ((List Int) × Int × Int × Unit)) (h : spec_l12DrawTickets k a1 = some x) : LawMo Try.prog 60 [] (.pair (.row (.int .u8)) (.pair (.int .i64) (.pair (.int .i64) .unit))) a1 (tvM (.row (.int .i64)) x.1) x.2 := by
  unfold spec_l12DrawTickets at h
  exact lawMo (t := (.row (.int .i64))) (T := (.pair (.row (.int .u8)) (.pair (.int .i64) (.pair (.int .i64) .unit)))) (tyTOk _ _) (E_spec_l12DrawTickets_calls k) mixOk f60_okspec_l12DrawTickets (nameOk _ _ f60_okspec_l12DrawTickets) (by kernel_rfl) (Nat.lt_of_lt_of_eq Nat.zero_lt_one (by kernel_rfl : 1 = pinsOf (E_spec_l12DrawTickets k) 60)) h
/-! spec.DrawFirstWait -/
noncomputable def E_spec_DrawFirstWait (k : Nat) : Env := ⟨ty, fun g => match g with
  | 32 => some (byFreshO (.pair (.row (.int .u8)) (.pair (.int .i64) (.pair (.int .i64) .unit))) fun ρ l K => match l with
    | [b1] => (b1.as (.row (.int .u8))).bind fun c1 => (spec_l1New k c1).bind fun r => K r
    | _ => none)
  | 57 => some (byMutOF (.pair (.row (.int .u8)) (.pair (.int .i64) (.pair (.int .i64) .unit))) (.pair (.int .i64) (.pair (.int .i64) (.pair (.int .i64) (.pair (.int .i64) .unit)))) fun ρ l xs K => match l with
    | [] => (spec_l12DrawList k xs ).bind fun r => K r.1 r.2
    | _ => none)
  | 60 => some (byMutO (.pair (.row (.int .u8)) (.pair (.int .i64) (.pair (.int .i64) .unit))) fun ρ l xs K => match l with
    | [] => (spec_l12DrawTickets k xs ).bind fun r => K (tvM (.row (.int .i64)) r.1) r.2
    | _ => none)
  | _ => none, fun _ _ => none⟩
noncomputable def spec_DrawFirstWait (k : Nat) (a1 : List Int) : Option ((List (Int × Int × Int × Int × Unit)) × (List Int) × Unit) :=
  abody (E_spec_DrawFirstWait k) (arun Try.prog (E_spec_DrawFirstWait k) k) k 24 Try.f24 [.tv (.row (.int .u8)) a1] [] (finN (.pair (.row (.pair (.int .i64) (.pair (.int .i64) (.pair (.int .i64) (.pair (.int .i64) .unit))))) (.pair (.row (.int .i64)) .unit)))
theorem spec_DrawFirstWait_e (k : Nat) (a1 : List Int) : spec_DrawFirstWait k a1 =
  bindO (spec_l1New k a1) fun r1 => (bindO (spec_l12DrawList k r1) fun r2 => (bindO (spec_l12DrawTickets k r2.2) fun r3 => (some (r2.1, r3.1, ())))) := by kernel_rfl
theorem E_spec_DrawFirstWait_calls (k : Nat) : CallsOk Try.prog (E_spec_DrawFirstWait k) (arun Try.prog (E_spec_DrawFirstWait k) k) := by
  refine told_run (tyTOk _ _) ?_ (fun run h => regOk (tyTOk _ _) mixOk h) ?_ nameOk k
  · intro g m hg
    simp only [E_spec_DrawFirstWait] at hg
    split at hg
    · cases hg
      refine con_byFreshO fun ρ l K x hm => ?_
      split at hm
      · obtain ⟨c1, h1, hm⟩ := Option.bind_eq_some_iff.1 hm
        obtain ⟨r, hr, hm⟩ := Option.bind_eq_some_iff.1 hm
        exact ⟨_, hm, LawFo.reads (.cons (.as h1) .nil) (spec_l1New_law k c1 r hr)⟩
      · cases hm
    · cases hg
      refine con_byMutOF fun ρ l xs K x hm => ?_
      split at hm
      · obtain ⟨r, hr, hm⟩ := Option.bind_eq_some_iff.1 hm
        exact ⟨_, _, hm, LawMof.reads .nil (spec_l12DrawList_law k xs  r hr)⟩
      · cases hm
    · cases hg
      refine con_byMutO fun ρ l xs K x hm => ?_
      split at hm
      · obtain ⟨r, hr, hm⟩ := Option.bind_eq_some_iff.1 hm
        exact ⟨_, _, hm, LawMo.reads .nil (spec_l12DrawTickets_law k xs  r hr)⟩
      · cases hm
    · cases hg
  · intro g _ r; rfl
theorem f24_okspec_DrawFirstWait : Try.prog.funcs[24]? = some Try.f24 := by kernel_rfl
theorem spec_DrawFirstWait_law (k : Nat) (a1 : List Int) (x : (List (Int × Int × Int × Int × Unit)) × (List Int) × Unit) (h : spec_DrawFirstWait k a1 = some x) : LawV Try.prog 24 [.tv (.row (.int .u8)) a1] (.tup (outs (.pair (.row (.pair (.int .i64) (.pair (.int .i64) (.pair (.int .i64) (.pair (.int .i64) .unit))))) (.pair (.row (.int .i64)) .unit)) x)) := by
  unfold spec_DrawFirstWait at h
  exact lawN (t := (.pair (.row (.pair (.int .i64) (.pair (.int .i64) (.pair (.int .i64) (.pair (.int .i64) .unit))))) (.pair (.row (.int .i64)) .unit))) (tyTOk _ _) (E_spec_DrawFirstWait_calls k) mixOk f24_okspec_DrawFirstWait (nameOk _ _ f24_okspec_DrawFirstWait) (by kernel_rfl) h
/-! impl.within -/
noncomputable def E_impl_within (k : Nat) : Env := ⟨ty, fun _ => none, fun _ _ => none⟩
noncomputable def impl_within (k : Nat) (a1 : Int) (a2 : Int) (a3 : Int) : Option (Bool) :=
  abody (E_impl_within k) (arun Try.prog (E_impl_within k) k) k 67 Try.f67 [.int .i64 a1, .int .i64 a2, .int .i64 a3] [] (fin1 .bool)
theorem impl_within_e (k : Nat) (a1 : Int) (a2 : Int) (a3 : Int) : impl_within k a1 a2 a3 =
  iteB (decide (a1 ≥ a2)) (some (decide (a1 ≤ a3))) (some false) := by kernel_rfl
theorem E_impl_within_calls (k : Nat) : CallsOk Try.prog (E_impl_within k) (arun Try.prog (E_impl_within k) k) := by
  refine told_run (tyTOk _ _) ?_ (fun run h => regOk (tyTOk _ _) mixOk h) ?_ nameOk k
  · intro g m hg
    cases hg
  · intro g _ r; rfl
theorem f67_okimpl_within : Try.prog.funcs[67]? = some Try.f67 := by kernel_rfl
theorem impl_within_law (k : Nat) (a1 : Int) (a2 : Int) (a3 : Int) (x : Bool) (h : impl_within k a1 a2 a3 = some x) : LawV Try.prog 67 [.int .i64 a1, .int .i64 a2, .int .i64 a3] (tvn .bool x) := by
  unfold impl_within at h
  exact law1 (t := .bool) (tyTOk _ _) (E_impl_within_calls k) mixOk f67_okimpl_within (nameOk _ _ f67_okimpl_within) (by kernel_rfl) h
/-! impl.isLive -/
noncomputable def E_impl_isLive (k : Nat) : Env := ⟨ty, fun g => match g with
  | 67 => some (byVal fun ρ l K => match l with
    | [b1, b2, b3] => (b1.as (.int .i64)).bind fun c1 => (b2.as (.int .i64)).bind fun c2 => (b3.as (.int .i64)).bind fun c3 => (impl_within k c1 c2 c3).bind fun r => K (tvn .bool r)
    | _ => none)
  | _ => none, fun _ _ => none⟩
noncomputable def impl_isLive (k : Nat) (a1 : Int × Int × Int × Int × Unit) (a2 : List Int) : Option (Bool) :=
  abody (E_impl_isLive k) (arun Try.prog (E_impl_isLive k) k) k 63 Try.f63 [.tv (.pair (.int .i64) (.pair (.int .i64) (.pair (.int .i64) (.pair (.int .i64) .unit)))) a1, .tv (.row (.int .i64)) a2] [] (fin1 .bool)
theorem impl_isLive_e (k : Nat) (a1 : Int × Int × Int × Int × Unit) (a2 : List Int) : impl_isLive k a1 a2 =
  bindO (impl_within k a1.1 0 (IntKind.wrap .i64 (((List.length a2) : Int) - 1))) fun r1 => (iteB r1 (iteB (decide (0 ≤ a1.1)) (iteB (decide (a1.1 < ((List.length a2) : Int))) (some ((List.getD a2 (Int.toNat a1.1) 0) == a1.2.1)) (none)) (none)) (some false)) := by kernel_rfl
theorem E_impl_isLive_calls (k : Nat) : CallsOk Try.prog (E_impl_isLive k) (arun Try.prog (E_impl_isLive k) k) := by
  refine told_run (tyTOk _ _) ?_ (fun run h => regOk (tyTOk _ _) mixOk h) ?_ nameOk k
  · intro g m hg
    simp only [E_impl_isLive] at hg
    split at hg
    · cases hg
      refine con_byVal fun ρ l K x hm => ?_
      split at hm
      · obtain ⟨c1, h1, hm⟩ := Option.bind_eq_some_iff.1 hm
        obtain ⟨c2, h2, hm⟩ := Option.bind_eq_some_iff.1 hm
        obtain ⟨c3, h3, hm⟩ := Option.bind_eq_some_iff.1 hm
        obtain ⟨r, hr, hm⟩ := Option.bind_eq_some_iff.1 hm
        exact ⟨_, hm, LawV.reads (.cons (.as h1) (.cons (.as h2) (.cons (.as h3) .nil))) (impl_within_law k c1 c2 c3 r hr)⟩
      · cases hm
    · cases hg
  · intro g _ r; rfl
theorem f63_okimpl_isLive : Try.prog.funcs[63]? = some Try.f63 := by kernel_rfl
theorem impl_isLive_law (k : Nat) (a1 : Int × Int × Int × Int × Unit) (a2 : List Int) (x : Bool) (h : impl_isLive k a1 a2 = some x) : LawV Try.prog 63 [.tv (.pair (.int .i64) (.pair (.int .i64) (.pair (.int .i64) (.pair (.int .i64) .unit)))) a1, .tv (.row (.int .i64)) a2] (tvn .bool x) := by
  unfold impl_isLive at h
  exact law1 (t := .bool) (tyTOk _ _) (E_impl_isLive_calls k) mixOk f63_okimpl_isLive (nameOk _ _ f63_okimpl_isLive) (by kernel_rfl) h
/-! impl.FirstWait$1 -/
noncomputable def E_impl_FirstWait_1_vbp (k : Nat) : Env := ⟨ty, fun g => match g with
  | 63 => some (byVal fun ρ l K => match l with
    | [b1, b2] => (b1.as (.pair (.int .i64) (.pair (.int .i64) (.pair (.int .i64) (.pair (.int .i64) .unit))))).bind fun c1 => (b2.as (.row (.int .i64))).bind fun c2 => (impl_isLive k c1 c2).bind fun r => K (tvn .bool r)
    | _ => none)
  | _ => none, fun _ _ => none⟩
noncomputable def impl_FirstWait_1_vbp (k : Nat) (a1 : Int × Int × Int × Int × Unit) (a2 : List Int) : Option (Bool) :=
  abody (E_impl_FirstWait_1_vbp k) (arun Try.prog (E_impl_FirstWait_1_vbp k) k) k 62 Try.f62 [.tv (.pair (.int .i64) (.pair (.int .i64) (.pair (.int .i64) (.pair (.int .i64) .unit)))) a1, .bp [.tv (.row (.int .i64)) a2] 0] [] (fin1 .bool)
theorem impl_FirstWait_1_vbp_e (k : Nat) (a1 : Int × Int × Int × Int × Unit) (a2 : List Int) : impl_FirstWait_1_vbp k a1 a2 =
  bindO (impl_isLive k a1 a2) fun r1 => (some r1) := by kernel_rfl
theorem E_impl_FirstWait_1_vbp_calls (k : Nat) : CallsOk Try.prog (E_impl_FirstWait_1_vbp k) (arun Try.prog (E_impl_FirstWait_1_vbp k) k) := by
  refine told_run (tyTOk _ _) ?_ (fun run h => regOk (tyTOk _ _) mixOk h) ?_ nameOk k
  · intro g m hg
    simp only [E_impl_FirstWait_1_vbp] at hg
    split at hg
    · cases hg
      refine con_byVal fun ρ l K x hm => ?_
      split at hm
      · obtain ⟨c1, h1, hm⟩ := Option.bind_eq_some_iff.1 hm
        obtain ⟨c2, h2, hm⟩ := Option.bind_eq_some_iff.1 hm
        obtain ⟨r, hr, hm⟩ := Option.bind_eq_some_iff.1 hm
        exact ⟨_, hm, LawV.reads (.cons (.as h1) (.cons (.as h2) .nil)) (impl_isLive_law k c1 c2 r hr)⟩
      · cases hm
    · cases hg
  · intro g _ r; rfl
theorem f62_okimpl_FirstWait_1_vbp : Try.prog.funcs[62]? = some Try.f62 := by kernel_rfl
theorem impl_FirstWait_1_vbp_law (k : Nat) (a1 : Int × Int × Int × Int × Unit) (a2 : List Int) (x : Bool) (h : impl_FirstWait_1_vbp k a1 a2 = some x) : LawV Try.prog 62 [.tv (.pair (.int .i64) (.pair (.int .i64) (.pair (.int .i64) (.pair (.int .i64) .unit)))) a1, .bp [.tv (.row (.int .i64)) a2] 0] (tvn .bool x) := by
  unfold impl_FirstWait_1_vbp at h
  exact law1 (t := .bool) (tyTOk _ _) (E_impl_FirstWait_1_vbp_calls k) mixOk f62_okimpl_FirstWait_1_vbp (nameOk _ _ f62_okimpl_FirstWait_1_vbp) (by kernel_rfl) h
/-! slices.IndexFunc[[]impl.Wait,impl.Wait] -/
noncomputable def E_slices_IndexFunc_impl_Wait__impl_FirstWait_1 (k : Nat) : Env := ⟨ty, fun g => match g with
  | 62 => some (byVal fun ρ l K => match l with
    | [b1, .bp [b2] 0] => (b1.as (.pair (.int .i64) (.pair (.int .i64) (.pair (.int .i64) (.pair (.int .i64) .unit))))).bind fun c1 => (b2.as (.row (.int .i64))).bind fun c2 => (impl_FirstWait_1_vbp k c1 c2).bind fun r => K (tvn .bool r)
    | _ => none)
  | 61 => some noCon
  | _ => none, fun f r => match f with | 61 => (match r with | 2 => some [0, 1, 7, 8] | _ => none) | _ => none⟩
noncomputable def slices_IndexFunc_impl_Wait__impl_FirstWait_1 (k : Nat) (a1 : List (Int × Int × Int × Int × Unit)) (a2 : List Int) : Option (Int) :=
  abody (E_slices_IndexFunc_impl_Wait__impl_FirstWait_1 k) (arun Try.prog (E_slices_IndexFunc_impl_Wait__impl_FirstWait_1 k) k) k 61 Try.f61 [.tv (.row (.pair (.int .i64) (.pair (.int .i64) (.pair (.int .i64) (.pair (.int .i64) .unit))))) a1, .fn 62 [.bp [.tv (.row (.int .i64)) a2] 0]] [] (fin1 (.int .i64))
noncomputable def slices_IndexFunc_impl_Wait__impl_FirstWait_1.l2 (k n : Nat) (x0 : List (Int × Int × Int × Int × Unit)) (x1_0_0 : List Int) (x7 : Int) (x8 : Int) : Option (Int) :=
  resume (E_slices_IndexFunc_impl_Wait__impl_FirstWait_1 k) 61 (acall (E_slices_IndexFunc_impl_Wait__impl_FirstWait_1 k) (arun Try.prog (E_slices_IndexFunc_impl_Wait__impl_FirstWait_1 k) k)) k [true, false, true, true] [n] (bodyOf Try.f61) ⟨[.tv (.row (.pair (.int .i64) (.pair (.int .i64) (.pair (.int .i64) (.pair (.int .i64) .unit))))) x0, .fn 62 [.bp [.tv (.row (.int .i64)) x1_0_0] 0], .undef, .undef, .undef, .undef, .undef, .int .i64 x7, .int .i64 x8, .undef, .undef, .undef, .undef, .undef, .undef, .undef, .undef, .undef, .undef], []⟩ (leave (E_slices_IndexFunc_impl_Wait__impl_FirstWait_1 k) Try.f61 (fin1 (.int .i64)))
theorem slices_IndexFunc_impl_Wait__impl_FirstWait_1.l2_0 (k : Nat) (x0 : List (Int × Int × Int × Int × Unit)) (x1_0_0 : List Int) (x7 : Int) (x8 : Int) : slices_IndexFunc_impl_Wait__impl_FirstWait_1.l2 k 0 x0 x1_0_0 x7 x8 = none := by kernel_rfl
theorem slices_IndexFunc_impl_Wait__impl_FirstWait_1.l2_s (k n : Nat) (x0 : List (Int × Int × Int × Int × Unit)) (x1_0_0 : List Int) (x7 : Int) (x8 : Int) : slices_IndexFunc_impl_Wait__impl_FirstWait_1.l2 k (n + 1) x0 x1_0_0 x7 x8 =
  iteB (decide (x8 < x7)) (iteB (decide (0 ≤ x8)) (iteB (decide (x8 < ((List.length x0) : Int))) (bindO (impl_FirstWait_1_vbp k (List.getD x0 (Int.toNat x8) (Ty.dflt (.pair (.int .i64) (.pair (.int .i64) (.pair (.int .i64) (.pair (.int .i64) .unit)))))) x1_0_0) fun r1 => (iteB r1 (some x8) (slices_IndexFunc_impl_Wait__impl_FirstWait_1.l2 k n x0 x1_0_0 x7 (IntKind.wrap .i64 (x8 + 1))))) (none)) (none)) (some (-1)) := by kernel_rfl
theorem slices_IndexFunc_impl_Wait__impl_FirstWait_1_e (k : Nat) (a1 : List (Int × Int × Int × Int × Unit)) (a2 : List Int) : slices_IndexFunc_impl_Wait__impl_FirstWait_1 k a1 a2 =
  slices_IndexFunc_impl_Wait__impl_FirstWait_1.l2 k k a1 a2 ((List.length a1) : Int) 0 := by kernel_rfl
theorem E_slices_IndexFunc_impl_Wait__impl_FirstWait_1_calls (k : Nat) : CallsOk Try.prog (E_slices_IndexFunc_impl_Wait__impl_FirstWait_1 k) (arun Try.prog (E_slices_IndexFunc_impl_Wait__impl_FirstWait_1 k) k) := by
  refine told_run (tyTOk _ _) ?_ (fun run h => regOk (tyTOk _ _) mixOk h) ?_ nameOk k
  · intro g m hg
    simp only [E_slices_IndexFunc_impl_Wait__impl_FirstWait_1] at hg
    split at hg
    · cases hg
      refine con_byVal fun ρ l K x hm => ?_
      split at hm
      · obtain ⟨c1, h1, hm⟩ := Option.bind_eq_some_iff.1 hm
        obtain ⟨c2, h2, hm⟩ := Option.bind_eq_some_iff.1 hm
        obtain ⟨r, hr, hm⟩ := Option.bind_eq_some_iff.1 hm
        exact ⟨_, hm, LawV.reads (.cons (.as h1) (.cons (.bp (.cons (.as h2) .nil)) .nil)) (impl_FirstWait_1_vbp_law k c1 c2 r hr)⟩
      · cases hm
    · cases hg; exact noCon_ok
    · cases hg
  · intro g hg r
    by_cases h : g = 61
    · subst h; simp [E_slices_IndexFunc_impl_Wait__impl_FirstWait_1] at hg
    · simp [E_slices_IndexFunc_impl_Wait__impl_FirstWait_1, h]
theorem f61_okslices_IndexFunc_impl_Wait__impl_FirstWait_1 : Try.prog.funcs[61]? = some Try.f61 := by kernel_rfl
theorem slices_IndexFunc_impl_Wait__impl_FirstWait_1_law (k : Nat) (a1 : List (Int × Int × Int × Int × Unit)) (a2 : List Int) (x : Int) (h : slices_IndexFunc_impl_Wait__impl_FirstWait_1 k a1 a2 = some x) : LawV Try.prog 61 [.tv (.row (.pair (.int .i64) (.pair (.int .i64) (.pair (.int .i64) (.pair (.int .i64) .unit))))) a1, .fn 62 [.bp [.tv (.row (.int .i64)) a2] 0]] (tvn (.int .i64) x) := by
  unfold slices_IndexFunc_impl_Wait__impl_FirstWait_1 at h
  exact law1 (t := (.int .i64)) (tyTOk _ _) (E_slices_IndexFunc_impl_Wait__impl_FirstWait_1_calls k) mixOk f61_okslices_IndexFunc_impl_Wait__impl_FirstWait_1 (nameOk _ _ f61_okslices_IndexFunc_impl_Wait__impl_FirstWait_1) (by kernel_rfl) h
/-! impl.FirstWait -/
noncomputable def E_impl_FirstWait (k : Nat) : Env := ⟨ty, fun g => match g with
  | 61 => some (byVal fun ρ l K => match l with
    | [b1, .fn 62 [.bp [b2] 0]] => (b1.as (.row (.pair (.int .i64) (.pair (.int .i64) (.pair (.int .i64) (.pair (.int .i64) .unit)))))).bind fun c1 => (b2.as (.row (.int .i64))).bind fun c2 => (slices_IndexFunc_impl_Wait__impl_FirstWait_1 k c1 c2).bind fun r => K (tvn (.int .i64) r)
    | _ => none)
  | _ => none, fun _ _ => none⟩
noncomputable def impl_FirstWait (k : Nat) (a1 : List (Int × Int × Int × Int × Unit)) (a2 : List Int) : Option (Int) :=
  abody (E_impl_FirstWait k) (arun Try.prog (E_impl_FirstWait k) k) k 25 Try.f25 [.tv (.row (.pair (.int .i64) (.pair (.int .i64) (.pair (.int .i64) (.pair (.int .i64) .unit))))) a1, .tv (.row (.int .i64)) a2] [] (fin1 (.int .i64))
theorem impl_FirstWait_e (k : Nat) (a1 : List (Int × Int × Int × Int × Unit)) (a2 : List Int) : impl_FirstWait k a1 a2 =
  bindO (slices_IndexFunc_impl_Wait__impl_FirstWait_1 k a1 a2) fun r1 => (some r1) := by kernel_rfl
theorem E_impl_FirstWait_calls (k : Nat) : CallsOk Try.prog (E_impl_FirstWait k) (arun Try.prog (E_impl_FirstWait k) k) := by
  refine told_run (tyTOk _ _) ?_ (fun run h => regOk (tyTOk _ _) mixOk h) ?_ nameOk k
  · intro g m hg
    simp only [E_impl_FirstWait] at hg
    split at hg
    · cases hg
      refine con_byVal fun ρ l K x hm => ?_
      split at hm
      · obtain ⟨c1, h1, hm⟩ := Option.bind_eq_some_iff.1 hm
        obtain ⟨c2, h2, hm⟩ := Option.bind_eq_some_iff.1 hm
        obtain ⟨r, hr, hm⟩ := Option.bind_eq_some_iff.1 hm
        exact ⟨_, hm, LawV.reads (.cons (.as h1) (.cons (.fn (.cons (.bp (.cons (.as h2) .nil)) .nil)) .nil)) (slices_IndexFunc_impl_Wait__impl_FirstWait_1_law k c1 c2 r hr)⟩
      · cases hm
    · cases hg
  · intro g _ r; rfl
theorem f25_okimpl_FirstWait : Try.prog.funcs[25]? = some Try.f25 := by kernel_rfl
theorem impl_FirstWait_law (k : Nat) (a1 : List (Int × Int × Int × Int × Unit)) (a2 : List Int) (x : Int) (h : impl_FirstWait k a1 a2 = some x) : LawV Try.prog 25 [.tv (.row (.pair (.int .i64) (.pair (.int .i64) (.pair (.int .i64) (.pair (.int .i64) .unit))))) a1, .tv (.row (.int .i64)) a2] (tvn (.int .i64) x) := by
  unfold impl_FirstWait at h
  exact law1 (t := (.int .i64)) (tyTOk _ _) (E_impl_FirstWait_calls k) mixOk f25_okimpl_FirstWait (nameOk _ _ f25_okimpl_FirstWait) (by kernel_rfl) h
end Go.Proofs.Yteojdaobpjhddaa.XFnWaits
