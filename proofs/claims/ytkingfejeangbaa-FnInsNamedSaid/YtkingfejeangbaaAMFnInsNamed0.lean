/- Functions of the program as runs of the interpreter: equations, and a law for each. -/
import Derived.Test.YtkingfejeangbaaProg
import Derived.Test.YtkingfejeangbaaChecked
import Derived.KernelRfl
import Derived.Eval
import Derived.Test.YtkingfejeangbaaATyOk
import Derived.Test.YtkingfejeangbaaAS40
import Derived.Test.YtkingfejeangbaaAS41
import Derived.Test.YtkingfejeangbaaAShelf
import Derived.Lib.RowBridge
open Go Go.AM Go.AMx Go.Proofs
namespace Go.Proofs.Ytkingfejeangbaa.XFnInsNamed
set_option linter.unusedVariables false
set_option linter.unusedSimpArgs false
/-! laws.big -/
noncomputable def E_laws_big (k : Nat) : Env := ⟨ty, fun _ => none, fun _ _ => none⟩
noncomputable def laws_big (k : Nat) (a1 : List Int) : Option (Bool) :=
  abody (E_laws_big k) (arun Try.prog (E_laws_big k) k) k 12 Try.f12 [.tv (.row (.int .u8)) a1] [] (fin1 .bool)
theorem laws_big_e (k : Nat) (a1 : List Int) : laws_big k a1 =
  some (decide (((List.length a1) : Int) > 1048576)) := by kernel_rfl
theorem E_laws_big_calls (k : Nat) : CallsOk Try.prog (E_laws_big k) (arun Try.prog (E_laws_big k) k) := by
  refine told_run (tyTOk _ _) ?_ (fun run h => regOk (tyTOk _ _) mixOk h) ?_ nameOk k
  · intro g m hg
    cases hg
  · intro g _ r; rfl
theorem f12_oklaws_big : Try.prog.funcs[12]? = some Try.f12 := by kernel_rfl
theorem laws_big_law (k : Nat) (a1 : List Int) (x : Bool) (h : laws_big k a1 = some x) : LawV Try.prog 12 [.tv (.row (.int .u8)) a1] (tvn .bool x) := by
  unfold laws_big at h
  exact law1 (t := .bool) (tyTOk _ _) (E_laws_big_calls k) mixOk f12_oklaws_big (nameOk _ _ f12_oklaws_big) (by kernel_rfl) h
/-! spec.l1New -/
noncomputable def E_spec_l1New (k : Nat) : Env := ⟨ty, fun g => match g with
  | 32 => some noCon
  | _ => none, fun f r => match f with | 32 => (match r with | 3 => some [0, 3, 4] | 5 => some [0, 3, 4] | _ => none) | _ => none⟩
noncomputable def spec_l1New (k : Nat) (a1 : List Int) : Option ((List Int) × Int × Int × Unit) :=
  abody (E_spec_l1New k) (arun Try.prog (E_spec_l1New k) k) k 32 Try.f32 [.tv (.row (.int .u8)) a1] [] (finFo (.pair (.row (.int .u8)) (.pair (.int .i64) (.pair (.int .i64) .unit))))
noncomputable def spec_l1New.l3 (k n : Nat) (x0 : List Int) (x3 : Int) (x4 : Int) : Option ((List Int) × Int × Int × Unit) :=
  resume (E_spec_l1New k) 32 (acall (E_spec_l1New k) (arun Try.prog (E_spec_l1New k) k)) k [true, true, false, true, true] [n] (bodyOf Try.f32) ⟨[.tv (.row (.int .u8)) x0, .undef, .undef, .int .i64 x3, .int .i64 x4, .undef, .undef, .undef, .undef, .undef, .undef, .undef, .undef, .undef, .undef, .undef, .undef, .undef, .undef, .undef, .undef, .undef, .undef, .undef, .undef, .undef, .undef, .undef, .undef, .undef, .undef, .undef], []⟩ (leave (E_spec_l1New k) Try.f32 (finFo (.pair (.row (.int .u8)) (.pair (.int .i64) (.pair (.int .i64) .unit)))))
noncomputable def spec_l1New.j5 (k m3 : Nat) (x0 : List Int) (x3 : Int) (x4 : Int) : Option ((List Int) × Int × Int × Unit) :=
  resume (E_spec_l1New k) 32 (acall (E_spec_l1New k) (arun Try.prog (E_spec_l1New k) k)) k [true, true, false, true, true, true, true] [m3] (bodyOf Try.f32) ⟨[.tv (.row (.int .u8)) x0, .undef, .undef, .int .i64 x3, .int .i64 x4, .undef, .undef, .undef, .undef, .undef, .undef, .undef, .undef, .undef, .undef, .undef, .undef, .undef, .undef, .undef, .undef, .undef, .undef, .undef, .undef, .undef, .undef, .undef, .undef, .undef, .undef, .undef], []⟩ (leave (E_spec_l1New k) Try.f32 (finFo (.pair (.row (.int .u8)) (.pair (.int .i64) (.pair (.int .i64) .unit)))))
theorem spec_l1New.l3_0 (k : Nat) (x0 : List Int) (x3 : Int) (x4 : Int) : spec_l1New.l3 k 0 x0 x3 x4 = none := by kernel_rfl
theorem spec_l1New.l3_s (k n : Nat) (x0 : List Int) (x3 : Int) (x4 : Int) : spec_l1New.l3 k (n + 1) x0 x3 x4 =
  iteB (decide (x4 < ((List.length x0) : Int))) (iteB (decide (x4 < 4000)) (gate k (spec_l1New.j5 k n x0 x3 x4)) (some (x0, 0, x3, ()))) (some (x0, 0, x3, ())) := by kernel_rfl
theorem spec_l1New.j5_e (k m3 : Nat) (x0 : List Int) (x3 : Int) (x4 : Int) : spec_l1New.j5 k m3 x0 x3 x4 =
  iteB (decide (0 ≤ x4)) (iteB (decide (x4 < ((List.length x0) : Int))) (spec_l1New.l3 k m3 x0 (IntKind.wrap .i64 ((BitVec.ofInt (IntKind.bits .i64) (IntKind.wrap .i64 ((IntKind.wrap .i64 ((IntKind.wrap .i64 (x3 * 131)) + (IntKind.wrap .i64 (List.getD x0 (Int.toNat x4) 0)))) + 7)) &&& BitVec.ofInt (IntKind.bits .i64) 1073741823).toNat : Int)) (IntKind.wrap .i64 (x4 + 1))) (none)) (none) := by kernel_rfl
theorem spec_l1New_e (k : Nat) (a1 : List Int) : spec_l1New k a1 =
  spec_l1New.l3 k k a1 (IntKind.wrap .i64 (20589 + ((List.length a1) : Int))) 0 := by kernel_rfl
theorem E_spec_l1New_calls (k : Nat) : CallsOk Try.prog (E_spec_l1New k) (arun Try.prog (E_spec_l1New k) k) := by
  refine told_run (tyTOk _ _) ?_ (fun run h => regOk (tyTOk _ _) mixOk h) ?_ nameOk k
  · intro g m hg
    simp only [E_spec_l1New] at hg
    split at hg
    · cases hg; exact noCon_ok
    · cases hg
  · intro g hg r
    by_cases h : g = 32
    · subst h; simp [E_spec_l1New] at hg
    · simp [E_spec_l1New, h]
theorem f32_okspec_l1New : Try.prog.funcs[32]? = some Try.f32 := by kernel_rfl
theorem spec_l1New_law (k : Nat) (a1 : List Int) (x : (List Int) × Int × Int × Unit) (h : spec_l1New k a1 = some x) : LawFo Try.prog 32 [.tv (.row (.int .u8)) a1] (.pair (.row (.int .u8)) (.pair (.int .i64) (.pair (.int .i64) .unit))) x := by
  unfold spec_l1New at h
  exact lawFo (T := (.pair (.row (.int .u8)) (.pair (.int .i64) (.pair (.int .i64) .unit)))) (tyTOk _ _) (E_spec_l1New_calls k) mixOk f32_okspec_l1New (nameOk _ _ f32_okspec_l1New) (by kernel_rfl) h
/-! spec.l1Byte -/
noncomputable def E_spec_l1Byte (k : Nat) : Env := ⟨ty, fun g => match g with
  | 68 => some noCon
  | _ => none, fun f r => match f with | 68 => (match r with | 999999 => some [1] | _ => none) | _ => none⟩
noncomputable def spec_l1Byte (k : Nat) (a1 : (List Int) × Int × Int × Unit) : Option (Int × ((List Int) × Int × Int × Unit)) :=
  abody (E_spec_l1Byte k) (arun Try.prog (E_spec_l1Byte k) k) k 68 Try.f68 [.ptr 0 0 0] [some ⟨.raw true 3 (.tv (.pair (.row (.int .u8)) (.pair (.int .i64) (.pair (.int .i64) .unit))) (Ty.dflt (.pair (.row (.int .u8)) (.pair (.int .i64) (.pair (.int .i64) .unit))))) [.tv (.pair (.row (.int .u8)) (.pair (.int .i64) (.pair (.int .i64) .unit))) a1], false⟩] (finMo (.int .i64) (.pair (.row (.int .u8)) (.pair (.int .i64) (.pair (.int .i64) .unit))))
theorem spec_l1Byte_e (k : Nat) (a1 : (List Int) × Int × Int × Unit) : spec_l1Byte k a1 =
  iteB (decide (a1.2.1 < ((List.length a1.1) : Int))) (iteB (decide (0 ≤ a1.2.1)) (iteB (decide (a1.2.1 < ((List.length a1.1) : Int))) (some (IntKind.wrap .i64 ((BitVec.ofInt (IntKind.bits .i64) (IntKind.wrap .i64 ((IntKind.wrap .i64 ((BitVec.ofInt (IntKind.bits .i64) (IntKind.wrap .i64 ((BitVec.ofInt (IntKind.bits .i64) (Int.fdiv (IntKind.wrap .i64 ((IntKind.wrap .i64 (a1.2.2.1 * 6364136223846793005)) + 1442695040888963407)) (2 ^ (min (Int.toNat 33) (IntKind.bits .i64)))) ^^^ BitVec.ofInt (IntKind.bits .i64) (Int.fdiv (IntKind.wrap .i64 ((IntKind.wrap .i64 (a1.2.2.1 * 6364136223846793005)) + 1442695040888963407)) (2 ^ (min (Int.toNat 45) (IntKind.bits .i64))))).toNat : Int)) &&& BitVec.ofInt (IntKind.bits .i64) 255).toNat : Int)) + (IntKind.wrap .i64 (List.getD a1.1 (Int.toNat a1.2.1) 0)))) &&& BitVec.ofInt (IntKind.bits .i64) 255).toNat : Int), (a1.1, IntKind.wrap .i64 (a1.2.1 + 1), IntKind.wrap .i64 ((IntKind.wrap .i64 (a1.2.2.1 * 6364136223846793005)) + 1442695040888963407), ()))) (none)) (none)) (some (IntKind.wrap .i64 ((BitVec.ofInt (IntKind.bits .i64) (IntKind.wrap .i64 ((BitVec.ofInt (IntKind.bits .i64) (Int.fdiv (IntKind.wrap .i64 ((IntKind.wrap .i64 (a1.2.2.1 * 6364136223846793005)) + 1442695040888963407)) (2 ^ (min (Int.toNat 33) (IntKind.bits .i64)))) ^^^ BitVec.ofInt (IntKind.bits .i64) (Int.fdiv (IntKind.wrap .i64 ((IntKind.wrap .i64 (a1.2.2.1 * 6364136223846793005)) + 1442695040888963407)) (2 ^ (min (Int.toNat 45) (IntKind.bits .i64))))).toNat : Int)) &&& BitVec.ofInt (IntKind.bits .i64) 255).toNat : Int), (a1.1, a1.2.1, IntKind.wrap .i64 ((IntKind.wrap .i64 (a1.2.2.1 * 6364136223846793005)) + 1442695040888963407), ()))) := by kernel_rfl
theorem E_spec_l1Byte_calls (k : Nat) : CallsOk Try.prog (E_spec_l1Byte k) (arun Try.prog (E_spec_l1Byte k) k) := by
  refine told_run (tyTOk _ _) ?_ (fun run h => regOk (tyTOk _ _) mixOk h) ?_ nameOk k
  · intro g m hg
    simp only [E_spec_l1Byte] at hg
    split at hg
    · cases hg; exact noCon_ok
    · cases hg
  · intro g hg r
    by_cases h : g = 68
    · subst h; simp [E_spec_l1Byte] at hg
    · simp [E_spec_l1Byte, h]
theorem f68_okspec_l1Byte : Try.prog.funcs[68]? = some Try.f68 := by kernel_rfl
theorem spec_l1Byte_law (k : Nat) (a1 : (List Int) × Int × Int × Unit) (x : (Int) × ((List Int) × Int × Int × Unit)) (h : spec_l1Byte k a1 = some x) : LawMo Try.prog 68 [] (.pair (.row (.int .u8)) (.pair (.int .i64) (.pair (.int .i64) .unit))) a1 (tvM (.int .i64) x.1) x.2 := by
  unfold spec_l1Byte at h
  exact lawMo (t := (.int .i64)) (T := (.pair (.row (.int .u8)) (.pair (.int .i64) (.pair (.int .i64) .unit)))) (tyTOk _ _) (E_spec_l1Byte_calls k) mixOk f68_okspec_l1Byte (nameOk _ _ f68_okspec_l1Byte) (by kernel_rfl) (Nat.lt_of_lt_of_eq Nat.zero_lt_one (by kernel_rfl : 1 = pinsOf (E_spec_l1Byte k) 68)) h
/-! spec.l1Below -/
noncomputable def E_spec_l1Below (k : Nat) : Env := ⟨ty, fun g => match g with
  | 68 => some (byMutO (.pair (.row (.int .u8)) (.pair (.int .i64) (.pair (.int .i64) .unit))) fun ρ l xs K => match l with
    | [] => (spec_l1Byte k xs ).bind fun r => K (tvM (.int .i64) r.1) r.2
    | _ => none)
  | 45 => some noCon
  | _ => none, fun f r => match f with | 45 => (match r with | 999999 => some [1] | _ => none) | _ => none⟩
noncomputable def spec_l1Below (k : Nat) (a1 : (List Int) × Int × Int × Unit) (a2 : Int) : Option (Int × ((List Int) × Int × Int × Unit)) :=
  abody (E_spec_l1Below k) (arun Try.prog (E_spec_l1Below k) k) k 45 Try.f45 [.ptr 0 0 0, .int .i64 a2] [some ⟨.raw true 3 (.tv (.pair (.row (.int .u8)) (.pair (.int .i64) (.pair (.int .i64) .unit))) (Ty.dflt (.pair (.row (.int .u8)) (.pair (.int .i64) (.pair (.int .i64) .unit))))) [.tv (.pair (.row (.int .u8)) (.pair (.int .i64) (.pair (.int .i64) .unit))) a1], false⟩] (finMo (.int .i64) (.pair (.row (.int .u8)) (.pair (.int .i64) (.pair (.int .i64) .unit))))
theorem spec_l1Below_e (k : Nat) (a1 : (List Int) × Int × Int × Unit) (a2 : Int) : spec_l1Below k a1 a2 =
  iteB (decide (a2 ≤ 0)) (some (0, a1)) (iteB (decide (a2 ≤ 256)) (bindO (spec_l1Byte k a1) fun r1 => (iteB (a2 == 0) (none) (some (Int.tmod r1.1 a2, r1.2)))) (bindO (spec_l1Byte k a1) fun r2 => (bindO (spec_l1Byte k r2.2) fun r3 => (bindO (spec_l1Byte k r3.2) fun r4 => (bindO (spec_l1Byte k r4.2) fun r5 => (iteB (a2 == 0) (none) (some (Int.tmod (IntKind.wrap .i64 ((IntKind.wrap .i64 ((IntKind.wrap .i64 ((IntKind.wrap .i64 (r2.1 * 16777216)) + (IntKind.wrap .i64 (r3.1 * 65536)))) + (IntKind.wrap .i64 (r4.1 * 256)))) + r5.1)) a2, r5.2)))))))) := by kernel_rfl
theorem E_spec_l1Below_calls (k : Nat) : CallsOk Try.prog (E_spec_l1Below k) (arun Try.prog (E_spec_l1Below k) k) := by
  refine told_run (tyTOk _ _) ?_ (fun run h => regOk (tyTOk _ _) mixOk h) ?_ nameOk k
  · intro g m hg
    simp only [E_spec_l1Below] at hg
    split at hg
    · cases hg
      refine con_byMutO fun ρ l xs K x hm => ?_
      split at hm
      · obtain ⟨r, hr, hm⟩ := Option.bind_eq_some_iff.1 hm
        exact ⟨_, _, hm, LawMo.reads .nil (spec_l1Byte_law k xs  r hr)⟩
      · cases hm
    · cases hg; exact noCon_ok
    · cases hg
  · intro g hg r
    by_cases h : g = 45
    · subst h; simp [E_spec_l1Below] at hg
    · simp [E_spec_l1Below, h]
theorem f45_okspec_l1Below : Try.prog.funcs[45]? = some Try.f45 := by kernel_rfl
theorem spec_l1Below_law (k : Nat) (a1 : (List Int) × Int × Int × Unit) (a2 : Int) (x : (Int) × ((List Int) × Int × Int × Unit)) (h : spec_l1Below k a1 a2 = some x) : LawMo Try.prog 45 [.int .i64 a2] (.pair (.row (.int .u8)) (.pair (.int .i64) (.pair (.int .i64) .unit))) a1 (tvM (.int .i64) x.1) x.2 := by
  unfold spec_l1Below at h
  exact lawMo (t := (.int .i64)) (T := (.pair (.row (.int .u8)) (.pair (.int .i64) (.pair (.int .i64) .unit)))) (tyTOk _ _) (E_spec_l1Below_calls k) mixOk f45_okspec_l1Below (nameOk _ _ f45_okspec_l1Below) (by kernel_rfl) (Nat.lt_of_lt_of_eq Nat.zero_lt_one (by kernel_rfl : 1 = pinsOf (E_spec_l1Below k) 45)) h
/-! spec.l1In -/
noncomputable def E_spec_l1In (k : Nat) : Env := ⟨ty, fun _ => none, fun _ _ => none⟩
noncomputable def spec_l1In (k : Nat) (a1 : Int) (a2 : Int) (a3 : Int) : Option (Bool) :=
  abody (E_spec_l1In k) (arun Try.prog (E_spec_l1In k) k) k 35 Try.f35 [.int .i64 a1, .int .i64 a2, .int .i64 a3] [] (fin1 .bool)
theorem spec_l1In_e (k : Nat) (a1 : Int) (a2 : Int) (a3 : Int) : spec_l1In k a1 a2 a3 =
  iteB (decide (a1 ≥ a2)) (some (decide (a1 ≤ a3))) (some false) := by kernel_rfl
theorem E_spec_l1In_calls (k : Nat) : CallsOk Try.prog (E_spec_l1In k) (arun Try.prog (E_spec_l1In k) k) := by
  refine told_run (tyTOk _ _) ?_ (fun run h => regOk (tyTOk _ _) mixOk h) ?_ nameOk k
  · intro g m hg
    cases hg
  · intro g _ r; rfl
theorem f35_okspec_l1In : Try.prog.funcs[35]? = some Try.f35 := by kernel_rfl
theorem spec_l1In_law (k : Nat) (a1 : Int) (a2 : Int) (a3 : Int) (x : Bool) (h : spec_l1In k a1 a2 a3 = some x) : LawV Try.prog 35 [.int .i64 a1, .int .i64 a2, .int .i64 a3] (tvn .bool x) := by
  unfold spec_l1In at h
  exact law1 (t := .bool) (tyTOk _ _) (E_spec_l1In_calls k) mixOk f35_okspec_l1In (nameOk _ _ f35_okspec_l1In) (by kernel_rfl) h
/-! spec.l2Has -/
noncomputable def E_spec_l2Has (k : Nat) : Env := ⟨ty, fun g => match g with
  | 35 => some (byVal fun ρ l K => match l with
    | [b1, b2, b3] => (b1.as (.int .i64)).bind fun c1 => (b2.as (.int .i64)).bind fun c2 => (b3.as (.int .i64)).bind fun c3 => (spec_l1In k c1 c2 c3).bind fun r => K (tvn .bool r)
    | _ => none)
  | _ => none, fun _ _ => none⟩
noncomputable def spec_l2Has (k : Nat) (a1 : Int) : Option (Int) :=
  abody (E_spec_l2Has k) (arun Try.prog (E_spec_l2Has k) k) k 26 Try.f26 [.int .i64 a1] [] (fin1 (.int .i64))
theorem spec_l2Has_e (k : Nat) (a1 : Int) : spec_l2Has k a1 =
  bindO (spec_l1In k a1 1 19) fun r1 => (iteB (!r1) (some 0) (iteB (decide (0 ≤ a1)) (iteB (decide (a1 < ((List.length [0, 9, 3, 7, 7, 7, 7, 7, 11, 14, 7, 8, 10, 24, 0, 2, 6, 6, 1, 2]) : Int))) (some (List.getD [0, 9, 3, 7, 7, 7, 7, 7, 11, 14, 7, 8, 10, 24, 0, 2, 6, 6, 1, 2] (Int.toNat a1) 0)) (none)) (none))) := by kernel_rfl
theorem E_spec_l2Has_calls (k : Nat) : CallsOk Try.prog (E_spec_l2Has k) (arun Try.prog (E_spec_l2Has k) k) := by
  refine told_run (tyTOk _ _) ?_ (fun run h => regOk (tyTOk _ _) mixOk h) ?_ nameOk k
  · intro g m hg
    simp only [E_spec_l2Has] at hg
    split at hg
    · cases hg
      refine con_byVal fun ρ l K x hm => ?_
      split at hm
      · obtain ⟨c1, h1, hm⟩ := Option.bind_eq_some_iff.1 hm
        obtain ⟨c2, h2, hm⟩ := Option.bind_eq_some_iff.1 hm
        obtain ⟨c3, h3, hm⟩ := Option.bind_eq_some_iff.1 hm
        obtain ⟨r, hr, hm⟩ := Option.bind_eq_some_iff.1 hm
        exact ⟨_, hm, LawV.reads (.cons (.as h1) (.cons (.as h2) (.cons (.as h3) .nil))) (spec_l1In_law k c1 c2 c3 r hr)⟩
      · cases hm
    · cases hg
  · intro g _ r; rfl
theorem f26_okspec_l2Has : Try.prog.funcs[26]? = some Try.f26 := by kernel_rfl
theorem spec_l2Has_law (k : Nat) (a1 : Int) (x : Int) (h : spec_l2Has k a1 = some x) : LawV Try.prog 26 [.int .i64 a1] (tvn (.int .i64) x) := by
  unfold spec_l2Has at h
  exact law1 (t := (.int .i64)) (tyTOk _ _) (E_spec_l2Has_calls k) mixOk f26_okspec_l2Has (nameOk _ _ f26_okspec_l2Has) (by kernel_rfl) h
/-! spec.l1PickInt -/
noncomputable def E_spec_l1PickInt (k : Nat) : Env := ⟨ty, fun g => match g with
  | 45 => some (byMutO (.pair (.row (.int .u8)) (.pair (.int .i64) (.pair (.int .i64) .unit))) fun ρ l xs K => match l with
    | [b1] => (b1.as (.int .i64)).bind fun c1 => (spec_l1Below k xs c1).bind fun r => K (tvM (.int .i64) r.1) r.2
    | _ => none)
  | 46 => some noCon
  | _ => none, fun f r => match f with | 46 => (match r with | 999999 => some [2] | _ => none) | _ => none⟩
noncomputable def spec_l1PickInt (k : Nat) (a1 : (List Int) × Int × Int × Unit) (a2 : List Int) : Option (Int × ((List Int) × Int × Int × Unit) × (List Int)) :=
  abody (E_spec_l1PickInt k) (arun Try.prog (E_spec_l1PickInt k) k) k 46 Try.f46 [.ptr 0 0 0, .sl 1] [some ⟨.raw true 3 (.tv (.pair (.row (.int .u8)) (.pair (.int .i64) (.pair (.int .i64) .unit))) (Ty.dflt (.pair (.row (.int .u8)) (.pair (.int .i64) (.pair (.int .i64) .unit))))) [.tv (.pair (.row (.int .u8)) (.pair (.int .i64) (.pair (.int .i64) .unit))) a1], false⟩, some ⟨.typed (.int .i64) a2, false⟩] (finMr (.int .i64) (.pair (.row (.int .u8)) (.pair (.int .i64) (.pair (.int .i64) .unit))) (.int .i64))
theorem spec_l1PickInt_e (k : Nat) (a1 : (List Int) × Int × Int × Unit) (a2 : List Int) : spec_l1PickInt k a1 a2 =
  bindO (spec_l1Below k a1 ((List.length a2) : Int)) fun r1 => (iteB (decide (0 ≤ r1.1)) (iteB (decide (r1.1 < ((List.length a2) : Int))) (some (List.getD a2 (Int.toNat r1.1) 0, r1.2, a2)) (none)) (none)) := by kernel_rfl
theorem E_spec_l1PickInt_calls (k : Nat) : CallsOk Try.prog (E_spec_l1PickInt k) (arun Try.prog (E_spec_l1PickInt k) k) := by
  refine told_run (tyTOk _ _) ?_ (fun run h => regOk (tyTOk _ _) mixOk h) ?_ nameOk k
  · intro g m hg
    simp only [E_spec_l1PickInt] at hg
    split at hg
    · cases hg
      refine con_byMutO fun ρ l xs K x hm => ?_
      split at hm
      · obtain ⟨c1, h1, hm⟩ := Option.bind_eq_some_iff.1 hm
        obtain ⟨r, hr, hm⟩ := Option.bind_eq_some_iff.1 hm
        exact ⟨_, _, hm, LawMo.reads (.cons (.as h1) .nil) (spec_l1Below_law k xs c1 r hr)⟩
      · cases hm
    · cases hg; exact noCon_ok
    · cases hg
  · intro g hg r
    by_cases h : g = 46
    · subst h; simp [E_spec_l1PickInt] at hg
    · simp [E_spec_l1PickInt, h]
theorem f46_okspec_l1PickInt : Try.prog.funcs[46]? = some Try.f46 := by kernel_rfl
theorem spec_l1PickInt_law (k : Nat) (a1 : (List Int) × Int × Int × Unit) (a2 : List Int) (x : (Int) × ((List Int) × Int × Int × Unit) × (List (Int))) (h : spec_l1PickInt k a1 a2 = some x) : LawMr Try.prog 46 [] (.pair (.row (.int .u8)) (.pair (.int .i64) (.pair (.int .i64) .unit))) a1 (.int .i64) a2 (tvM (.int .i64) x.1) x.2.1 x.2.2 := by
  unfold spec_l1PickInt at h
  exact lawMr (t := (.int .i64)) (T := (.pair (.row (.int .u8)) (.pair (.int .i64) (.pair (.int .i64) .unit)))) (e := (.int .i64)) (tyTOk _ _) (E_spec_l1PickInt_calls k) mixOk f46_okspec_l1PickInt (nameOk _ _ f46_okspec_l1PickInt) (by kernel_rfl) (Nat.lt_of_lt_of_eq Nat.one_lt_two (by kernel_rfl : 2 = pinsOf (E_spec_l1PickInt k) 46)) (fun _ => rfl) h
/-! spec.l2DrawRight -/
noncomputable def E_spec_l2DrawRight (k : Nat) : Env := ⟨ty, fun g => match g with
  | 45 => some (byMutO (.pair (.row (.int .u8)) (.pair (.int .i64) (.pair (.int .i64) .unit))) fun ρ l xs K => match l with
    | [b1] => (b1.as (.int .i64)).bind fun c1 => (spec_l1Below k xs c1).bind fun r => K (tvM (.int .i64) r.1) r.2
    | _ => none)
  | 26 => some (byVal fun ρ l K => match l with
    | [b1] => (b1.as (.int .i64)).bind fun c1 => (spec_l2Has k c1).bind fun r => K (tvn (.int .i64) r)
    | _ => none)
  | 46 => some (byMutR (.pair (.row (.int .u8)) (.pair (.int .i64) (.pair (.int .i64) .unit))) (.int .i64) fun ρ l xs ys K => match l with
    | [] => (spec_l1PickInt k xs ys ).bind fun r => K (tvM (.int .i64) r.1) r.2.1 r.2.2
    | _ => none)
  | 44 => some noCon
  | _ => none, fun f r => match f with | 44 => (match r with | 5 => some [0, 2, 3, 4] | 9 => some [0, 2, 3, 4] | 11 => some [0, 2, 3, 4] | 13 => some [0, 2, 3, 4] | 999999 => some [1] | _ => none) | _ => none⟩
noncomputable def spec_l2DrawRight (k : Nat) (a1 : (List Int) × Int × Int × Unit) : Option ((Int × Int × Int × Int × Int × Int × Unit) × ((List Int) × Int × Int × Unit)) :=
  abody (E_spec_l2DrawRight k) (arun Try.prog (E_spec_l2DrawRight k) k) k 44 Try.f44 [.ptr 0 0 0] [some ⟨.raw true 3 (.tv (.pair (.row (.int .u8)) (.pair (.int .i64) (.pair (.int .i64) .unit))) (Ty.dflt (.pair (.row (.int .u8)) (.pair (.int .i64) (.pair (.int .i64) .unit))))) [.tv (.pair (.row (.int .u8)) (.pair (.int .i64) (.pair (.int .i64) .unit))) a1], false⟩] (finMo (.pair (.int .i64) (.pair (.int .i64) (.pair (.int .i64) (.pair (.int .i64) (.pair (.int .i64) (.pair (.int .i64) .unit)))))) (.pair (.row (.int .u8)) (.pair (.int .i64) (.pair (.int .i64) .unit))))
noncomputable def spec_l2DrawRight.j5 (k : Nat) (x4 : Int) (y0_0 : (List Int) × Int × Int × Unit) (y1_0_0 : Int) (y1_0_1 : Int) (y1_0_2 : Int) (y1_0_3 : Int) (y1_0_4 : Int) (y1_0_5 : Int) (y2_0_0 : Int) (y2_0_1 : Int) (y2_0_2 : Int) (y2_0_3 : Int) (y2_0_4 : Int) (y2_0_5 : Int) : Option ((Int × Int × Int × Int × Int × Int × Unit) × ((List Int) × Int × Int × Unit)) :=
  resume (E_spec_l2DrawRight k) 44 (acall (E_spec_l2DrawRight k) (arun Try.prog (E_spec_l2DrawRight k) k)) k [true, true, true, true] [] (bodyOf Try.f44) ⟨[.ptr 0 0 0, .undef, .ptr 1 0 0, .ptr 2 0 0, .int .i64 x4, .undef, .undef, .undef, .undef, .undef, .undef, .undef, .undef, .undef, .undef, .undef, .undef, .undef, .undef, .undef, .undef, .undef, .undef, .undef, .undef, .undef, .undef, .undef, .undef, .undef, .undef, .undef, .undef, .undef, .undef, .undef, .undef, .undef, .undef, .undef, .undef, .undef, .undef, .undef, .undef, .undef, .undef, .undef, .undef, .undef, .undef, .undef, .undef, .undef, .undef, .undef], [some ⟨.raw true 3 (.tv (.pair (.row (.int .u8)) (.pair (.int .i64) (.pair (.int .i64) .unit))) (Ty.dflt (.pair (.row (.int .u8)) (.pair (.int .i64) (.pair (.int .i64) .unit))))) [.tv (.pair (.row (.int .u8)) (.pair (.int .i64) (.pair (.int .i64) .unit))) y0_0], false⟩, some ⟨.raw true 6 (.agg [.int .i64 0, .int .i64 0, .int .i64 0, .int .i64 0, .int .i64 0, .int .i64 0]) [.agg [.int .i64 y1_0_0, .int .i64 y1_0_1, .int .i64 y1_0_2, .int .i64 y1_0_3, .int .i64 y1_0_4, .int .i64 y1_0_5]], true⟩, some ⟨.raw true 6 (.agg [.int .i64 0, .int .i64 0, .int .i64 0, .int .i64 0, .int .i64 0, .int .i64 0]) [.agg [.int .i64 y2_0_0, .int .i64 y2_0_1, .int .i64 y2_0_2, .int .i64 y2_0_3, .int .i64 y2_0_4, .int .i64 y2_0_5]], true⟩]⟩ (leave (E_spec_l2DrawRight k) Try.f44 (finMo (.pair (.int .i64) (.pair (.int .i64) (.pair (.int .i64) (.pair (.int .i64) (.pair (.int .i64) (.pair (.int .i64) .unit)))))) (.pair (.row (.int .u8)) (.pair (.int .i64) (.pair (.int .i64) .unit)))))
noncomputable def spec_l2DrawRight.j9 (k : Nat) (x4 : Int) (y0_0 : (List Int) × Int × Int × Unit) (y1_0_0 : Int) (y1_0_1 : Int) (y1_0_2 : Int) (y1_0_3 : Int) (y1_0_4 : Int) (y1_0_5 : Int) (y2_0_0 : Int) (y2_0_1 : Int) (y2_0_2 : Int) (y2_0_3 : Int) (y2_0_4 : Int) (y2_0_5 : Int) : Option ((Int × Int × Int × Int × Int × Int × Unit) × ((List Int) × Int × Int × Unit)) :=
  resume (E_spec_l2DrawRight k) 44 (acall (E_spec_l2DrawRight k) (arun Try.prog (E_spec_l2DrawRight k) k)) k [true, true, true, true, true] [] (bodyOf Try.f44) ⟨[.ptr 0 0 0, .undef, .ptr 1 0 0, .ptr 2 0 0, .int .i64 x4, .undef, .undef, .undef, .undef, .undef, .undef, .undef, .undef, .undef, .undef, .undef, .undef, .undef, .undef, .undef, .undef, .undef, .undef, .undef, .undef, .undef, .undef, .undef, .undef, .undef, .undef, .undef, .undef, .undef, .undef, .undef, .undef, .undef, .undef, .undef, .undef, .undef, .undef, .undef, .undef, .undef, .undef, .undef, .undef, .undef, .undef, .undef, .undef, .undef, .undef, .undef], [some ⟨.raw true 3 (.tv (.pair (.row (.int .u8)) (.pair (.int .i64) (.pair (.int .i64) .unit))) (Ty.dflt (.pair (.row (.int .u8)) (.pair (.int .i64) (.pair (.int .i64) .unit))))) [.tv (.pair (.row (.int .u8)) (.pair (.int .i64) (.pair (.int .i64) .unit))) y0_0], false⟩, some ⟨.raw true 6 (.agg [.int .i64 0, .int .i64 0, .int .i64 0, .int .i64 0, .int .i64 0, .int .i64 0]) [.agg [.int .i64 y1_0_0, .int .i64 y1_0_1, .int .i64 y1_0_2, .int .i64 y1_0_3, .int .i64 y1_0_4, .int .i64 y1_0_5]], true⟩, some ⟨.raw true 6 (.agg [.int .i64 0, .int .i64 0, .int .i64 0, .int .i64 0, .int .i64 0, .int .i64 0]) [.agg [.int .i64 y2_0_0, .int .i64 y2_0_1, .int .i64 y2_0_2, .int .i64 y2_0_3, .int .i64 y2_0_4, .int .i64 y2_0_5]], true⟩]⟩ (leave (E_spec_l2DrawRight k) Try.f44 (finMo (.pair (.int .i64) (.pair (.int .i64) (.pair (.int .i64) (.pair (.int .i64) (.pair (.int .i64) (.pair (.int .i64) .unit)))))) (.pair (.row (.int .u8)) (.pair (.int .i64) (.pair (.int .i64) .unit)))))
noncomputable def spec_l2DrawRight.j11 (k : Nat) (x4 : Int) (y0_0 : (List Int) × Int × Int × Unit) (y1_0_0 : Int) (y1_0_1 : Int) (y1_0_2 : Int) (y1_0_3 : Int) (y1_0_4 : Int) (y1_0_5 : Int) (y2_0_0 : Int) (y2_0_1 : Int) (y2_0_2 : Int) (y2_0_3 : Int) (y2_0_4 : Int) (y2_0_5 : Int) : Option ((Int × Int × Int × Int × Int × Int × Unit) × ((List Int) × Int × Int × Unit)) :=
  resume (E_spec_l2DrawRight k) 44 (acall (E_spec_l2DrawRight k) (arun Try.prog (E_spec_l2DrawRight k) k)) k [true, true, true, true, true, true] [] (bodyOf Try.f44) ⟨[.ptr 0 0 0, .undef, .ptr 1 0 0, .ptr 2 0 0, .int .i64 x4, .undef, .undef, .undef, .undef, .undef, .undef, .undef, .undef, .undef, .undef, .undef, .undef, .undef, .undef, .undef, .undef, .undef, .undef, .undef, .undef, .undef, .undef, .undef, .undef, .undef, .undef, .undef, .undef, .undef, .undef, .undef, .undef, .undef, .undef, .undef, .undef, .undef, .undef, .undef, .undef, .undef, .undef, .undef, .undef, .undef, .undef, .undef, .undef, .undef, .undef, .undef], [some ⟨.raw true 3 (.tv (.pair (.row (.int .u8)) (.pair (.int .i64) (.pair (.int .i64) .unit))) (Ty.dflt (.pair (.row (.int .u8)) (.pair (.int .i64) (.pair (.int .i64) .unit))))) [.tv (.pair (.row (.int .u8)) (.pair (.int .i64) (.pair (.int .i64) .unit))) y0_0], false⟩, some ⟨.raw true 6 (.agg [.int .i64 0, .int .i64 0, .int .i64 0, .int .i64 0, .int .i64 0, .int .i64 0]) [.agg [.int .i64 y1_0_0, .int .i64 y1_0_1, .int .i64 y1_0_2, .int .i64 y1_0_3, .int .i64 y1_0_4, .int .i64 y1_0_5]], true⟩, some ⟨.raw true 6 (.agg [.int .i64 0, .int .i64 0, .int .i64 0, .int .i64 0, .int .i64 0, .int .i64 0]) [.agg [.int .i64 y2_0_0, .int .i64 y2_0_1, .int .i64 y2_0_2, .int .i64 y2_0_3, .int .i64 y2_0_4, .int .i64 y2_0_5]], true⟩]⟩ (leave (E_spec_l2DrawRight k) Try.f44 (finMo (.pair (.int .i64) (.pair (.int .i64) (.pair (.int .i64) (.pair (.int .i64) (.pair (.int .i64) (.pair (.int .i64) .unit)))))) (.pair (.row (.int .u8)) (.pair (.int .i64) (.pair (.int .i64) .unit)))))
noncomputable def spec_l2DrawRight.j13 (k : Nat) (x4 : Int) (y0_0 : (List Int) × Int × Int × Unit) (y1_0_0 : Int) (y1_0_1 : Int) (y1_0_2 : Int) (y1_0_3 : Int) (y1_0_4 : Int) (y1_0_5 : Int) (y2_0_0 : Int) (y2_0_1 : Int) (y2_0_2 : Int) (y2_0_3 : Int) (y2_0_4 : Int) (y2_0_5 : Int) : Option ((Int × Int × Int × Int × Int × Int × Unit) × ((List Int) × Int × Int × Unit)) :=
  resume (E_spec_l2DrawRight k) 44 (acall (E_spec_l2DrawRight k) (arun Try.prog (E_spec_l2DrawRight k) k)) k [true, true, true, true, true, true, true] [] (bodyOf Try.f44) ⟨[.ptr 0 0 0, .undef, .ptr 1 0 0, .ptr 2 0 0, .int .i64 x4, .undef, .undef, .undef, .undef, .undef, .undef, .undef, .undef, .undef, .undef, .undef, .undef, .undef, .undef, .undef, .undef, .undef, .undef, .undef, .undef, .undef, .undef, .undef, .undef, .undef, .undef, .undef, .undef, .undef, .undef, .undef, .undef, .undef, .undef, .undef, .undef, .undef, .undef, .undef, .undef, .undef, .undef, .undef, .undef, .undef, .undef, .undef, .undef, .undef, .undef, .undef], [some ⟨.raw true 3 (.tv (.pair (.row (.int .u8)) (.pair (.int .i64) (.pair (.int .i64) .unit))) (Ty.dflt (.pair (.row (.int .u8)) (.pair (.int .i64) (.pair (.int .i64) .unit))))) [.tv (.pair (.row (.int .u8)) (.pair (.int .i64) (.pair (.int .i64) .unit))) y0_0], false⟩, some ⟨.raw true 6 (.agg [.int .i64 0, .int .i64 0, .int .i64 0, .int .i64 0, .int .i64 0, .int .i64 0]) [.agg [.int .i64 y1_0_0, .int .i64 y1_0_1, .int .i64 y1_0_2, .int .i64 y1_0_3, .int .i64 y1_0_4, .int .i64 y1_0_5]], true⟩, some ⟨.raw true 6 (.agg [.int .i64 0, .int .i64 0, .int .i64 0, .int .i64 0, .int .i64 0, .int .i64 0]) [.agg [.int .i64 y2_0_0, .int .i64 y2_0_1, .int .i64 y2_0_2, .int .i64 y2_0_3, .int .i64 y2_0_4, .int .i64 y2_0_5]], true⟩]⟩ (leave (E_spec_l2DrawRight k) Try.f44 (finMo (.pair (.int .i64) (.pair (.int .i64) (.pair (.int .i64) (.pair (.int .i64) (.pair (.int .i64) (.pair (.int .i64) .unit)))))) (.pair (.row (.int .u8)) (.pair (.int .i64) (.pair (.int .i64) .unit)))))
theorem spec_l2DrawRight.j5_e (k : Nat) (x4 : Int) (y0_0 : (List Int) × Int × Int × Unit) (y1_0_0 : Int) (y1_0_1 : Int) (y1_0_2 : Int) (y1_0_3 : Int) (y1_0_4 : Int) (y1_0_5 : Int) (y2_0_0 : Int) (y2_0_1 : Int) (y2_0_2 : Int) (y2_0_3 : Int) (y2_0_4 : Int) (y2_0_5 : Int) : spec_l2DrawRight.j5 k x4 y0_0 y1_0_0 y1_0_1 y1_0_2 y1_0_3 y1_0_4 y1_0_5 y2_0_0 y2_0_1 y2_0_2 y2_0_3 y2_0_4 y2_0_5 =
  iteB ((IntKind.wrap .i64 ((BitVec.ofInt (IntKind.bits .i64) x4 &&& BitVec.ofInt (IntKind.bits .i64) 2).toNat : Int)) != 0) (bindO (spec_l1Below k y0_0 6) fun r4 => (iteB (!(y2_0_0 == 8)) (iteB (y2_0_0 == 9) (bindO (spec_l1Below k r4.2 7) fun r5 => (gate k (spec_l2DrawRight.j9 k x4 r5.2 y1_0_0 y1_0_1 y1_0_2 y1_0_3 y1_0_4 y1_0_5 y2_0_0 y2_0_1 r5.1 y2_0_3 y2_0_4 y2_0_5))) (gate k (spec_l2DrawRight.j9 k x4 r4.2 y1_0_0 y1_0_1 y1_0_2 y1_0_3 y1_0_4 y1_0_5 y2_0_0 y2_0_1 r4.1 y2_0_3 y2_0_4 y2_0_5))) (bindO (spec_l1Below k r4.2 7) fun r6 => (gate k (spec_l2DrawRight.j9 k x4 r6.2 y1_0_0 y1_0_1 y1_0_2 y1_0_3 y1_0_4 y1_0_5 y2_0_0 y2_0_1 r6.1 y2_0_3 y2_0_4 y2_0_5))))) (gate k (spec_l2DrawRight.j9 k x4 y0_0 y1_0_0 y1_0_1 y1_0_2 y1_0_3 y1_0_4 y1_0_5 y2_0_0 y2_0_1 y2_0_2 y2_0_3 y2_0_4 y2_0_5)) := by kernel_rfl
theorem spec_l2DrawRight.j9_e (k : Nat) (x4 : Int) (y0_0 : (List Int) × Int × Int × Unit) (y1_0_0 : Int) (y1_0_1 : Int) (y1_0_2 : Int) (y1_0_3 : Int) (y1_0_4 : Int) (y1_0_5 : Int) (y2_0_0 : Int) (y2_0_1 : Int) (y2_0_2 : Int) (y2_0_3 : Int) (y2_0_4 : Int) (y2_0_5 : Int) : spec_l2DrawRight.j9 k x4 y0_0 y1_0_0 y1_0_1 y1_0_2 y1_0_3 y1_0_4 y1_0_5 y2_0_0 y2_0_1 y2_0_2 y2_0_3 y2_0_4 y2_0_5 =
  iteB ((IntKind.wrap .i64 ((BitVec.ofInt (IntKind.bits .i64) x4 &&& BitVec.ofInt (IntKind.bits .i64) 4).toNat : Int)) != 0) (bindO (spec_l1Below k y0_0 6) fun r7 => (gate k (spec_l2DrawRight.j11 k x4 r7.2 y1_0_0 y1_0_1 y1_0_2 y1_0_3 y1_0_4 y1_0_5 y2_0_0 y2_0_1 y2_0_2 r7.1 y2_0_4 y2_0_5))) (gate k (spec_l2DrawRight.j11 k x4 y0_0 y1_0_0 y1_0_1 y1_0_2 y1_0_3 y1_0_4 y1_0_5 y2_0_0 y2_0_1 y2_0_2 y2_0_3 y2_0_4 y2_0_5)) := by kernel_rfl
theorem spec_l2DrawRight.j11_e (k : Nat) (x4 : Int) (y0_0 : (List Int) × Int × Int × Unit) (y1_0_0 : Int) (y1_0_1 : Int) (y1_0_2 : Int) (y1_0_3 : Int) (y1_0_4 : Int) (y1_0_5 : Int) (y2_0_0 : Int) (y2_0_1 : Int) (y2_0_2 : Int) (y2_0_3 : Int) (y2_0_4 : Int) (y2_0_5 : Int) : spec_l2DrawRight.j11 k x4 y0_0 y1_0_0 y1_0_1 y1_0_2 y1_0_3 y1_0_4 y1_0_5 y2_0_0 y2_0_1 y2_0_2 y2_0_3 y2_0_4 y2_0_5 =
  iteB ((IntKind.wrap .i64 ((BitVec.ofInt (IntKind.bits .i64) x4 &&& BitVec.ofInt (IntKind.bits .i64) 8).toNat : Int)) != 0) (bindO (spec_l1PickInt k y0_0 [0, 1, 2, 3, 5, (-1), 9]) fun r8 => (gate k (spec_l2DrawRight.j13 k x4 r8.2.1 y1_0_0 y1_0_1 y1_0_2 y1_0_3 y1_0_4 y1_0_5 y2_0_0 y2_0_1 y2_0_2 y2_0_3 r8.1 y2_0_5))) (gate k (spec_l2DrawRight.j13 k x4 y0_0 y1_0_0 y1_0_1 y1_0_2 y1_0_3 y1_0_4 y1_0_5 y2_0_0 y2_0_1 y2_0_2 y2_0_3 y2_0_4 y2_0_5)) := by kernel_rfl
theorem spec_l2DrawRight.j13_e (k : Nat) (x4 : Int) (y0_0 : (List Int) × Int × Int × Unit) (y1_0_0 : Int) (y1_0_1 : Int) (y1_0_2 : Int) (y1_0_3 : Int) (y1_0_4 : Int) (y1_0_5 : Int) (y2_0_0 : Int) (y2_0_1 : Int) (y2_0_2 : Int) (y2_0_3 : Int) (y2_0_4 : Int) (y2_0_5 : Int) : spec_l2DrawRight.j13 k x4 y0_0 y1_0_0 y1_0_1 y1_0_2 y1_0_3 y1_0_4 y1_0_5 y2_0_0 y2_0_1 y2_0_2 y2_0_3 y2_0_4 y2_0_5 =
  iteB ((IntKind.wrap .i64 ((BitVec.ofInt (IntKind.bits .i64) x4 &&& BitVec.ofInt (IntKind.bits .i64) 16).toNat : Int)) != 0) (bindO (spec_l1PickInt k y0_0 [2, 3, 8]) fun r9 => (some ((y2_0_0, y2_0_1, y2_0_2, y2_0_3, y2_0_4, r9.1, ()), r9.2.1))) (some ((y2_0_0, y2_0_1, y2_0_2, y2_0_3, y2_0_4, y2_0_5, ()), y0_0)) := by kernel_rfl
theorem spec_l2DrawRight_e (k : Nat) (a1 : (List Int) × Int × Int × Unit) : spec_l2DrawRight k a1 =
  bindO (spec_l1Below k a1 19) fun r1 => (bindO (spec_l2Has k (IntKind.wrap .i64 (1 + r1.1))) fun r2 => (iteB ((IntKind.wrap .i64 ((BitVec.ofInt (IntKind.bits .i64) r2 &&& BitVec.ofInt (IntKind.bits .i64) 1).toNat : Int)) != 0) (bindO (spec_l1Below k r1.2 6) fun r3 => (gate k (spec_l2DrawRight.j5 k r2 r3.2 0 0 0 0 0 0 (IntKind.wrap .i64 (1 + r1.1)) r3.1 0 0 0 0))) (gate k (spec_l2DrawRight.j5 k r2 r1.2 0 0 0 0 0 0 (IntKind.wrap .i64 (1 + r1.1)) 0 0 0 0 0)))) := by kernel_rfl
theorem E_spec_l2DrawRight_calls (k : Nat) : CallsOk Try.prog (E_spec_l2DrawRight k) (arun Try.prog (E_spec_l2DrawRight k) k) := by
  refine told_run (tyTOk _ _) ?_ (fun run h => regOk (tyTOk _ _) mixOk h) ?_ nameOk k
  · intro g m hg
    simp only [E_spec_l2DrawRight] at hg
    split at hg
    · cases hg
      refine con_byMutO fun ρ l xs K x hm => ?_
      split at hm
      · obtain ⟨c1, h1, hm⟩ := Option.bind_eq_some_iff.1 hm
        obtain ⟨r, hr, hm⟩ := Option.bind_eq_some_iff.1 hm
        exact ⟨_, _, hm, LawMo.reads (.cons (.as h1) .nil) (spec_l1Below_law k xs c1 r hr)⟩
      · cases hm
    · cases hg
      refine con_byVal fun ρ l K x hm => ?_
      split at hm
      · obtain ⟨c1, h1, hm⟩ := Option.bind_eq_some_iff.1 hm
        obtain ⟨r, hr, hm⟩ := Option.bind_eq_some_iff.1 hm
        exact ⟨_, hm, LawV.reads (.cons (.as h1) .nil) (spec_l2Has_law k c1 r hr)⟩
      · cases hm
    · cases hg
      refine con_byMutR fun ρ l xs ys K x hm => ?_
      split at hm
      · obtain ⟨r, hr, hm⟩ := Option.bind_eq_some_iff.1 hm
        exact ⟨_, _, _, hm, LawMr.reads .nil (spec_l1PickInt_law k xs ys  r hr)⟩
      · cases hm
    · cases hg; exact noCon_ok
    · cases hg
  · intro g hg r
    by_cases h : g = 44
    · subst h; simp [E_spec_l2DrawRight] at hg
    · simp [E_spec_l2DrawRight, h]
theorem f44_okspec_l2DrawRight : Try.prog.funcs[44]? = some Try.f44 := by kernel_rfl
theorem spec_l2DrawRight_law (k : Nat) (a1 : (List Int) × Int × Int × Unit) (x : (Int × Int × Int × Int × Int × Int × Unit) × ((List Int) × Int × Int × Unit)) (h : spec_l2DrawRight k a1 = some x) : LawMo Try.prog 44 [] (.pair (.row (.int .u8)) (.pair (.int .i64) (.pair (.int .i64) .unit))) a1 (tvM (.pair (.int .i64) (.pair (.int .i64) (.pair (.int .i64) (.pair (.int .i64) (.pair (.int .i64) (.pair (.int .i64) .unit)))))) x.1) x.2 := by
  unfold spec_l2DrawRight at h
  exact lawMo (t := (.pair (.int .i64) (.pair (.int .i64) (.pair (.int .i64) (.pair (.int .i64) (.pair (.int .i64) (.pair (.int .i64) .unit))))))) (T := (.pair (.row (.int .u8)) (.pair (.int .i64) (.pair (.int .i64) .unit)))) (tyTOk _ _) (E_spec_l2DrawRight_calls k) mixOk f44_okspec_l2DrawRight (nameOk _ _ f44_okspec_l2DrawRight) (by kernel_rfl) (Nat.lt_of_lt_of_eq Nat.zero_lt_one (by kernel_rfl : 1 = pinsOf (E_spec_l2DrawRight k) 44)) h
/-! spec.l2Draw -/
noncomputable def E_spec_l2Draw (k : Nat) : Env := ⟨ty, fun g => match g with
  | 44 => some (byMutO (.pair (.row (.int .u8)) (.pair (.int .i64) (.pair (.int .i64) .unit))) fun ρ l xs K => match l with
    | [] => (spec_l2DrawRight k xs ).bind fun r => K (tvM (.pair (.int .i64) (.pair (.int .i64) (.pair (.int .i64) (.pair (.int .i64) (.pair (.int .i64) (.pair (.int .i64) .unit)))))) r.1) r.2
    | _ => none)
  | 45 => some (byMutO (.pair (.row (.int .u8)) (.pair (.int .i64) (.pair (.int .i64) .unit))) fun ρ l xs K => match l with
    | [b1] => (b1.as (.int .i64)).bind fun c1 => (spec_l1Below k xs c1).bind fun r => K (tvM (.int .i64) r.1) r.2
    | _ => none)
  | 46 => some (byMutR (.pair (.row (.int .u8)) (.pair (.int .i64) (.pair (.int .i64) .unit))) (.int .i64) fun ρ l xs ys K => match l with
    | [] => (spec_l1PickInt k xs ys ).bind fun r => K (tvM (.int .i64) r.1) r.2.1 r.2.2
    | _ => none)
  | 31 => some noCon
  | _ => none, fun f r => match f with | 31 => (match r with | 999999 => some [1] | _ => none) | _ => none⟩
noncomputable def spec_l2Draw (k : Nat) (a1 : (List Int) × Int × Int × Unit) : Option ((Int × Int × Int × Int × Int × Int × Unit) × ((List Int) × Int × Int × Unit)) :=
  abody (E_spec_l2Draw k) (arun Try.prog (E_spec_l2Draw k) k) k 31 Try.f31 [.ptr 0 0 0] [some ⟨.raw true 3 (.tv (.pair (.row (.int .u8)) (.pair (.int .i64) (.pair (.int .i64) .unit))) (Ty.dflt (.pair (.row (.int .u8)) (.pair (.int .i64) (.pair (.int .i64) .unit))))) [.tv (.pair (.row (.int .u8)) (.pair (.int .i64) (.pair (.int .i64) .unit))) a1], false⟩] (finMo (.pair (.int .i64) (.pair (.int .i64) (.pair (.int .i64) (.pair (.int .i64) (.pair (.int .i64) (.pair (.int .i64) .unit)))))) (.pair (.row (.int .u8)) (.pair (.int .i64) (.pair (.int .i64) .unit))))
theorem spec_l2Draw_e (k : Nat) (a1 : (List Int) × Int × Int × Unit) : spec_l2Draw k a1 =
  bindO (spec_l2DrawRight k a1) fun r1 => (bindO (spec_l1Below k r1.2 10) fun r2 => (iteB (r2.1 == 0) (bindO (spec_l1Below k r2.2 22) fun r3 => (some ((IntKind.wrap .i64 (r3.1 - 1), r1.1.2.1, r1.1.2.2.1, r1.1.2.2.2.1, r1.1.2.2.2.2.1, r1.1.2.2.2.2.2.1, ()), r3.2))) (iteB (r2.1 == 1) (bindO (spec_l1PickInt k r2.2 [(-1), 5, 6]) fun r4 => (some ((r1.1.1, r4.1, r1.1.2.2.1, r1.1.2.2.2.1, r1.1.2.2.2.2.1, r1.1.2.2.2.2.2.1, ()), r4.2.1))) (iteB (r2.1 == 2) (bindO (spec_l1PickInt k r2.2 [(-1), 6, 7]) fun r5 => (some ((r1.1.1, r1.1.2.1, r5.1, r1.1.2.2.2.1, r1.1.2.2.2.2.1, r1.1.2.2.2.2.2.1, ()), r5.2.1))) (iteB (r2.1 == 3) (bindO (spec_l1PickInt k r2.2 [2147483648, 7]) fun r6 => (some ((r1.1.1, r1.1.2.1, r1.1.2.2.1, r1.1.2.2.2.1, r6.1, r1.1.2.2.2.2.2.1, ()), r6.2.1))) (iteB (r2.1 == 4) (bindO (spec_l1PickInt k r2.2 [(-1), 60, 61]) fun r7 => (some ((r1.1.1, r1.1.2.1, r1.1.2.2.1, r1.1.2.2.2.1, r1.1.2.2.2.2.1, r7.1, ()), r7.2.1))) (some (r1.1, r2.2)))))))) := by kernel_rfl
theorem E_spec_l2Draw_calls (k : Nat) : CallsOk Try.prog (E_spec_l2Draw k) (arun Try.prog (E_spec_l2Draw k) k) := by
  refine told_run (tyTOk _ _) ?_ (fun run h => regOk (tyTOk _ _) mixOk h) ?_ nameOk k
  · intro g m hg
    simp only [E_spec_l2Draw] at hg
    split at hg
    · cases hg
      refine con_byMutO fun ρ l xs K x hm => ?_
      split at hm
      · obtain ⟨r, hr, hm⟩ := Option.bind_eq_some_iff.1 hm
        exact ⟨_, _, hm, LawMo.reads .nil (spec_l2DrawRight_law k xs  r hr)⟩
      · cases hm
    · cases hg
      refine con_byMutO fun ρ l xs K x hm => ?_
      split at hm
      · obtain ⟨c1, h1, hm⟩ := Option.bind_eq_some_iff.1 hm
        obtain ⟨r, hr, hm⟩ := Option.bind_eq_some_iff.1 hm
        exact ⟨_, _, hm, LawMo.reads (.cons (.as h1) .nil) (spec_l1Below_law k xs c1 r hr)⟩
      · cases hm
    · cases hg
      refine con_byMutR fun ρ l xs ys K x hm => ?_
      split at hm
      · obtain ⟨r, hr, hm⟩ := Option.bind_eq_some_iff.1 hm
        exact ⟨_, _, _, hm, LawMr.reads .nil (spec_l1PickInt_law k xs ys  r hr)⟩
      · cases hm
    · cases hg; exact noCon_ok
    · cases hg
  · intro g hg r
    by_cases h : g = 31
    · subst h; simp [E_spec_l2Draw] at hg
    · simp [E_spec_l2Draw, h]
theorem f31_okspec_l2Draw : Try.prog.funcs[31]? = some Try.f31 := by kernel_rfl
theorem spec_l2Draw_law (k : Nat) (a1 : (List Int) × Int × Int × Unit) (x : (Int × Int × Int × Int × Int × Int × Unit) × ((List Int) × Int × Int × Unit)) (h : spec_l2Draw k a1 = some x) : LawMo Try.prog 31 [] (.pair (.row (.int .u8)) (.pair (.int .i64) (.pair (.int .i64) .unit))) a1 (tvM (.pair (.int .i64) (.pair (.int .i64) (.pair (.int .i64) (.pair (.int .i64) (.pair (.int .i64) (.pair (.int .i64) .unit)))))) x.1) x.2 := by
  unfold spec_l2Draw at h
  exact lawMo (t := (.pair (.int .i64) (.pair (.int .i64) (.pair (.int .i64) (.pair (.int .i64) (.pair (.int .i64) (.pair (.int .i64) .unit))))))) (T := (.pair (.row (.int .u8)) (.pair (.int .i64) (.pair (.int .i64) .unit)))) (tyTOk _ _) (E_spec_l2Draw_calls k) mixOk f31_okspec_l2Draw (nameOk _ _ f31_okspec_l2Draw) (by kernel_rfl) (Nat.lt_of_lt_of_eq Nat.zero_lt_one (by kernel_rfl : 1 = pinsOf (E_spec_l2Draw k) 31)) h
/-! spec.DrawReads -/
noncomputable def E_spec_DrawReads (k : Nat) : Env := ⟨ty, fun g => match g with
  | 32 => some (byFreshO (.pair (.row (.int .u8)) (.pair (.int .i64) (.pair (.int .i64) .unit))) fun ρ l K => match l with
    | [b1] => (b1.as (.row (.int .u8))).bind fun c1 => (spec_l1New k c1).bind fun r => K r
    | _ => none)
  | 31 => some (byMutO (.pair (.row (.int .u8)) (.pair (.int .i64) (.pair (.int .i64) .unit))) fun ρ l xs K => match l with
    | [] => (spec_l2Draw k xs ).bind fun r => K (tvM (.pair (.int .i64) (.pair (.int .i64) (.pair (.int .i64) (.pair (.int .i64) (.pair (.int .i64) (.pair (.int .i64) .unit)))))) r.1) r.2
    | _ => none)
  | _ => none, fun _ _ => none⟩
noncomputable def spec_DrawReads (k : Nat) (a1 : List Int) : Option (Int × Int × Int × Int × Int × Int × Unit) :=
  abody (E_spec_DrawReads k) (arun Try.prog (E_spec_DrawReads k) k) k 13 Try.f13 [.tv (.row (.int .u8)) a1] [] (fin1 (.pair (.int .i64) (.pair (.int .i64) (.pair (.int .i64) (.pair (.int .i64) (.pair (.int .i64) (.pair (.int .i64) .unit)))))))
theorem spec_DrawReads_e (k : Nat) (a1 : List Int) : spec_DrawReads k a1 =
  bindO (spec_l1New k a1) fun r1 => (bindO (spec_l2Draw k r1) fun r2 => (some r2.1)) := by kernel_rfl
theorem E_spec_DrawReads_calls (k : Nat) : CallsOk Try.prog (E_spec_DrawReads k) (arun Try.prog (E_spec_DrawReads k) k) := by
  refine told_run (tyTOk _ _) ?_ (fun run h => regOk (tyTOk _ _) mixOk h) ?_ nameOk k
  · intro g m hg
    simp only [E_spec_DrawReads] at hg
    split at hg
    · cases hg
      refine con_byFreshO fun ρ l K x hm => ?_
      split at hm
      · obtain ⟨c1, h1, hm⟩ := Option.bind_eq_some_iff.1 hm
        obtain ⟨r, hr, hm⟩ := Option.bind_eq_some_iff.1 hm
        exact ⟨_, hm, LawFo.reads (.cons (.as h1) .nil) (spec_l1New_law k c1 r hr)⟩
      · cases hm
    · cases hg
      refine con_byMutO fun ρ l xs K x hm => ?_
      split at hm
      · obtain ⟨r, hr, hm⟩ := Option.bind_eq_some_iff.1 hm
        exact ⟨_, _, hm, LawMo.reads .nil (spec_l2Draw_law k xs  r hr)⟩
      · cases hm
    · cases hg
  · intro g _ r; rfl
theorem f13_okspec_DrawReads : Try.prog.funcs[13]? = some Try.f13 := by kernel_rfl
theorem spec_DrawReads_law (k : Nat) (a1 : List Int) (x : Int × Int × Int × Int × Int × Int × Unit) (h : spec_DrawReads k a1 = some x) : LawV Try.prog 13 [.tv (.row (.int .u8)) a1] (tvn (.pair (.int .i64) (.pair (.int .i64) (.pair (.int .i64) (.pair (.int .i64) (.pair (.int .i64) (.pair (.int .i64) .unit)))))) x) := by
  unfold spec_DrawReads at h
  exact law1 (t := (.pair (.int .i64) (.pair (.int .i64) (.pair (.int .i64) (.pair (.int .i64) (.pair (.int .i64) (.pair (.int .i64) .unit))))))) (tyTOk _ _) (E_spec_DrawReads_calls k) mixOk f13_okspec_DrawReads (nameOk _ _ f13_okspec_DrawReads) (by kernel_rfl) h
/-! impl.has -/
noncomputable def E_impl_has (k : Nat) : Env := ⟨ty, fun _ => none, fun _ _ => none⟩
noncomputable def impl_has (k : Nat) (a1 : Int) : Option (ByteArray) :=
  abody (E_impl_has k) (arun Try.prog (E_impl_has k) k) k 27 Try.f27 [.int .i64 a1] [] (fin1 .str)
theorem impl_has_e (k : Nat) (a1 : Int) : impl_has k a1 =
  iteB (a1 == 1) (some (⟨#[82, 78]⟩ : ByteArray)) (iteB (a1 == 2) (some (⟨#[82, 65]⟩ : ByteArray)) (iteB (a1 == 3) (some (⟨#[82, 65, 66]⟩ : ByteArray)) (iteB (a1 == 4) (some (⟨#[82, 65, 66]⟩ : ByteArray)) (iteB (a1 == 5) (some (⟨#[82, 65, 66]⟩ : ByteArray)) (iteB (a1 == 6) (some (⟨#[82, 65, 66]⟩ : ByteArray)) (iteB (a1 == 7) (some (⟨#[82, 65, 66]⟩ : ByteArray)) (iteB (a1 == 10) (some (⟨#[82, 65, 66]⟩ : ByteArray)) (iteB (a1 == 8) (some (⟨#[82, 65, 78]⟩ : ByteArray)) (iteB (a1 == 9) (some (⟨#[65, 66, 78]⟩ : ByteArray)) (iteB (a1 == 11) (some (⟨#[78]⟩ : ByteArray)) (iteB (a1 == 12) (some (⟨#[65, 78]⟩ : ByteArray)) (iteB (a1 == 13) (some (⟨#[78, 77]⟩ : ByteArray)) (iteB (a1 == 14) (some (⟨#[45]⟩ : ByteArray)) (iteB (a1 == 15) (some (⟨#[65]⟩ : ByteArray)) (iteB (a1 == 19) (some (⟨#[65]⟩ : ByteArray)) (iteB (a1 == 16) (some (⟨#[65, 66]⟩ : ByteArray)) (iteB (a1 == 17) (some (⟨#[65, 66]⟩ : ByteArray)) (iteB (a1 == 18) (some (⟨#[82]⟩ : ByteArray)) (some (⟨#[]⟩ : ByteArray)))))))))))))))))))) := by kernel_rfl
theorem E_impl_has_calls (k : Nat) : CallsOk Try.prog (E_impl_has k) (arun Try.prog (E_impl_has k) k) := by
  refine told_run (tyTOk _ _) ?_ (fun run h => regOk (tyTOk _ _) mixOk h) ?_ nameOk k
  · intro g m hg
    cases hg
  · intro g _ r; rfl
theorem f27_okimpl_has : Try.prog.funcs[27]? = some Try.f27 := by kernel_rfl
theorem impl_has_law (k : Nat) (a1 : Int) (x : ByteArray) (h : impl_has k a1 = some x) : LawV Try.prog 27 [.int .i64 a1] (tvn .str x) := by
  unfold impl_has at h
  exact law1 (t := .str) (tyTOk _ _) (E_impl_has_calls k) mixOk f27_okimpl_has (nameOk _ _ f27_okimpl_has) (by kernel_rfl) h
/-! impl.within -/
noncomputable def E_impl_within (k : Nat) : Env := ⟨ty, fun _ => none, fun _ _ => none⟩
noncomputable def impl_within (k : Nat) (a1 : Int) (a2 : Int) (a3 : Int) : Option (Bool) :=
  abody (E_impl_within k) (arun Try.prog (E_impl_within k) k) k 34 Try.f34 [.int .i64 a1, .int .i64 a2, .int .i64 a3] [] (fin1 .bool)
theorem impl_within_e (k : Nat) (a1 : Int) (a2 : Int) (a3 : Int) : impl_within k a1 a2 a3 =
  iteB (decide (a1 ≥ a2)) (some (decide (a1 ≤ a3))) (some false) := by kernel_rfl
theorem E_impl_within_calls (k : Nat) : CallsOk Try.prog (E_impl_within k) (arun Try.prog (E_impl_within k) k) := by
  refine told_run (tyTOk _ _) ?_ (fun run h => regOk (tyTOk _ _) mixOk h) ?_ nameOk k
  · intro g m hg
    cases hg
  · intro g _ r; rfl
theorem f34_okimpl_within : Try.prog.funcs[34]? = some Try.f34 := by kernel_rfl
theorem impl_within_law (k : Nat) (a1 : Int) (a2 : Int) (a3 : Int) (x : Bool) (h : impl_within k a1 a2 a3 = some x) : LawV Try.prog 34 [.int .i64 a1, .int .i64 a2, .int .i64 a3] (tvn .bool x) := by
  unfold impl_within at h
  exact law1 (t := .bool) (tyTOk _ _) (E_impl_within_calls k) mixOk f34_okimpl_within (nameOk _ _ f34_okimpl_within) (by kernel_rfl) h
/-! impl.isReg -/
noncomputable def E_impl_isReg (k : Nat) : Env := ⟨ty, fun g => match g with
  | 34 => some (byVal fun ρ l K => match l with
    | [b1, b2, b3] => (b1.as (.int .i64)).bind fun c1 => (b2.as (.int .i64)).bind fun c2 => (b3.as (.int .i64)).bind fun c3 => (impl_within k c1 c2 c3).bind fun r => K (tvn .bool r)
    | _ => none)
  | _ => none, fun _ _ => none⟩
noncomputable def impl_isReg (k : Nat) (a1 : Int) : Option (Bool) :=
  abody (E_impl_isReg k) (arun Try.prog (E_impl_isReg k) k) k 28 Try.f28 [.int .i64 a1] [] (fin1 .bool)
theorem impl_isReg_e (k : Nat) (a1 : Int) : impl_isReg k a1 =
  bindO (impl_within k a1 0 5) fun r1 => (some r1) := by kernel_rfl
theorem E_impl_isReg_calls (k : Nat) : CallsOk Try.prog (E_impl_isReg k) (arun Try.prog (E_impl_isReg k) k) := by
  refine told_run (tyTOk _ _) ?_ (fun run h => regOk (tyTOk _ _) mixOk h) ?_ nameOk k
  · intro g m hg
    simp only [E_impl_isReg] at hg
    split at hg
    · cases hg
      refine con_byVal fun ρ l K x hm => ?_
      split at hm
      · obtain ⟨c1, h1, hm⟩ := Option.bind_eq_some_iff.1 hm
        obtain ⟨c2, h2, hm⟩ := Option.bind_eq_some_iff.1 hm
        obtain ⟨c3, h3, hm⟩ := Option.bind_eq_some_iff.1 hm
        obtain ⟨r, hr, hm⟩ := Option.bind_eq_some_iff.1 hm
        exact ⟨_, hm, LawV.reads (.cons (.as h1) (.cons (.as h2) (.cons (.as h3) .nil))) (impl_within_law k c1 c2 c3 r hr)⟩
      · cases hm
    · cases hg
  · intro g _ r; rfl
theorem f28_okimpl_isReg : Try.prog.funcs[28]? = some Try.f28 := by kernel_rfl
theorem impl_isReg_law (k : Nat) (a1 : Int) (x : Bool) (h : impl_isReg k a1 = some x) : LawV Try.prog 28 [.int .i64 a1] (tvn .bool x) := by
  unfold impl_isReg at h
  exact law1 (t := .bool) (tyTOk _ _) (E_impl_isReg_calls k) mixOk f28_okimpl_isReg (nameOk _ _ f28_okimpl_isReg) (by kernel_rfl) h
/-! slices.Sort[[]int,int] -/
noncomputable def slices_Sort_int (k : Nat) (a1 : List Int) : Option (Unit × List Int) := bif decide (List.length a1 < 4611686018427387904) then some (((), List.mergeSort a1 fun x y => decide (x ≤ y))) else none
theorem slices_Sort_int_e (k : Nat) (a1 : List Int) : slices_Sort_int k a1 = iteB (decide (List.length a1 < 4611686018427387904)) (some (((), List.mergeSort a1 fun x y => decide (x ≤ y)))) none := by unfold slices_Sort_int; cases decide (List.length a1 < 4611686018427387904) <;> rfl
theorem f29_okslices_Sort_int : Try.prog.funcs[29]? = some Try.f29 := by kernel_rfl
theorem slices_Sort_int_law (k : Nat) (a1 : List Int) (x : Unit × List Int) (h : slices_Sort_int k a1 = some x) : LawM Try.prog 29 [] (.int .i64) a1 (tvM .unit x.1) x.2 := by
  unfold slices_Sort_int at h
  cases hb : decide (List.length a1 < 4611686018427387904) with
  | false => rw [hb] at h; cases h
  | true => rw [hb] at h; cases h; exact law_sort ⟨_, f29_okslices_Sort_int, nameOk _ _ f29_okslices_Sort_int, by kernel_rfl⟩ (fun blk off cap zs w h1 h2 h3 => Try.slices_Sort_int blk off cap zs w h1 h2 h3) (fun p cap w => Try.slices_Sort_int_none p cap w) a1 (of_decide_eq_true hb)
/-! slices.Compact[[]int,int] -/
noncomputable def slices_Compact_int (k : Nat) (a1 : List Int) : Option (Nat × List Int) := bif decide (List.length a1 ≤ 9223372036854775807) then some (((Lib.compact a1).length, Lib.compact a1 ++ List.replicate (List.length a1 - (Lib.compact a1).length) 0)) else none
theorem slices_Compact_int_e (k : Nat) (a1 : List Int) : slices_Compact_int k a1 = iteB (decide (List.length a1 ≤ 9223372036854775807)) (some (((Lib.compact a1).length, Lib.compact a1 ++ List.replicate (List.length a1 - (Lib.compact a1).length) 0))) none := by unfold slices_Compact_int; cases decide (List.length a1 ≤ 9223372036854775807) <;> rfl
theorem f30_okslices_Compact_int : Try.prog.funcs[30]? = some Try.f30 := by kernel_rfl
theorem slices_Compact_int_law (k : Nat) (a1 : List Int) (x : Nat × List Int) (h : slices_Compact_int k a1 = some x) : LawMp Try.prog 30 (.int .i64) a1 x.1 x.2 := by
  unfold slices_Compact_int at h
  cases hb : decide (List.length a1 ≤ 9223372036854775807) with
  | false => rw [hb] at h; cases h
  | true => rw [hb] at h; cases h; exact law_compact (cmp := Lib.compact) ⟨_, f30_okslices_Compact_int, nameOk _ _ f30_okslices_Compact_int, by kernel_rfl⟩ Lib.compact_length_le (fun blk off cap zs w h1 h2 h3 => Try.slices_Compact_int blk off cap zs w h1 h2 h3) (fun p cap w => Try.slices_Compact_int_empty p cap w) a1 (of_decide_eq_true hb)
/-! impl.Reads -/
noncomputable def E_impl_Reads (k : Nat) : Env := ⟨ty, fun g => match g with
  | 27 => some (byVal fun ρ l K => match l with
    | [b1] => (b1.as (.int .i64)).bind fun c1 => (impl_has k c1).bind fun r => K (tvn .str r)
    | _ => none)
  | 28 => some (byVal fun ρ l K => match l with
    | [b1] => (b1.as (.int .i64)).bind fun c1 => (impl_isReg k c1).bind fun r => K (tvn .bool r)
    | _ => none)
  | 29 => some (byMut (.int .i64) fun ρ l xs K => match l with
    | [] => (slices_Sort_int k xs ).bind fun r => K (tvM .unit r.1) r.2
    | _ => none)
  | 30 => some (byMutP (.int .i64) fun ρ xs K => (slices_Compact_int k xs).bind fun r => K r.1 r.2)
  | 8 => some noCon
  | _ => none, fun f r => match f with | 8 => (match r with | 4 => some [1, 3, 4, 11, 12] | _ => none) | _ => none⟩
noncomputable def impl_Reads (k : Nat) (a1 : Int × Int × Int × Int × Int × Int × Unit) : Option (List Int) :=
  abody (E_impl_Reads k) (arun Try.prog (E_impl_Reads k) k) k 8 Try.f8 [.tv (.pair (.int .i64) (.pair (.int .i64) (.pair (.int .i64) (.pair (.int .i64) (.pair (.int .i64) (.pair (.int .i64) .unit)))))) a1] [] (fin1 (.row (.int .i64)))
noncomputable def impl_Reads.l4 (k n : Nat) (x4 : ByteArray) (x11 : Int) (x12 : Int) (y0_0 : Int × Int × Int × Int × Int × Int × Unit) : Option (List Int) :=
  resume (E_impl_Reads k) 8 (acall (E_impl_Reads k) (arun Try.prog (E_impl_Reads k) k)) k [true, true, true, false, true, true] [n] (bodyOf Try.f8) ⟨[.undef, .ptr 0 0 0, .undef, .sl 1, .str x4, .undef, .undef, .undef, .undef, .undef, .undef, .int .i64 x11, .int .i64 x12, .undef, .undef, .undef, .undef, .undef, .undef, .undef, .undef, .undef, .undef, .undef, .undef, .undef, .undef, .undef, .undef, .undef, .undef, .undef, .undef, .undef, .undef, .undef, .undef, .undef, .undef, .undef, .undef, .undef, .undef, .undef, .undef, .undef, .undef, .undef, .undef, .undef, .undef, .undef, .undef, .undef, .undef, .undef, .undef, .undef, .undef, .undef, .undef, .undef, .undef, .undef, .undef, .undef, .undef, .undef, .undef, .undef], [some ⟨.raw true 6 (.agg [.int .i64 0, .int .i64 0, .int .i64 0, .int .i64 0, .int .i64 0, .int .i64 0]) [.tv (.pair (.int .i64) (.pair (.int .i64) (.pair (.int .i64) (.pair (.int .i64) (.pair (.int .i64) (.pair (.int .i64) .unit)))))) y0_0], true⟩, some ⟨.typed (.int .i64) [], true⟩]⟩ (leave (E_impl_Reads k) Try.f8 (fin1 (.row (.int .i64))))
noncomputable def impl_Reads.l4b (k n : Nat) (x4 : ByteArray) (x11 : Int) (x12 : Int) (y0_0 : Int × Int × Int × Int × Int × Int × Unit) (y1 : List Int) : Option (List Int) :=
  resume (E_impl_Reads k) 8 (acall (E_impl_Reads k) (arun Try.prog (E_impl_Reads k) k)) k [true, true, true, false, true, true] [n] (bodyOf Try.f8) ⟨[.undef, .ptr 0 0 0, .undef, .sl 1, .str x4, .undef, .undef, .undef, .undef, .undef, .undef, .int .i64 x11, .int .i64 x12, .undef, .undef, .undef, .undef, .undef, .undef, .undef, .undef, .undef, .undef, .undef, .undef, .undef, .undef, .undef, .undef, .undef, .undef, .undef, .undef, .undef, .undef, .undef, .undef, .undef, .undef, .undef, .undef, .undef, .undef, .undef, .undef, .undef, .undef, .undef, .undef, .undef, .undef, .undef, .undef, .undef, .undef, .undef, .undef, .undef, .undef, .undef, .undef, .undef, .undef, .undef, .undef, .undef, .undef, .undef, .undef, .undef], [some ⟨.raw true 6 (.agg [.int .i64 0, .int .i64 0, .int .i64 0, .int .i64 0, .int .i64 0, .int .i64 0]) [.tv (.pair (.int .i64) (.pair (.int .i64) (.pair (.int .i64) (.pair (.int .i64) (.pair (.int .i64) (.pair (.int .i64) .unit)))))) y0_0], true⟩, some ⟨.typed (.int .i64) y1, false⟩]⟩ (leave (E_impl_Reads k) Try.f8 (fin1 (.row (.int .i64))))
theorem impl_Reads.l4_0 (k : Nat) (x4 : ByteArray) (x11 : Int) (x12 : Int) (y0_0 : Int × Int × Int × Int × Int × Int × Unit) : impl_Reads.l4 k 0 x4 x11 x12 y0_0 = none := by kernel_rfl
theorem impl_Reads.l4_s (k n : Nat) (x4 : ByteArray) (x11 : Int) (x12 : Int) (y0_0 : Int × Int × Int × Int × Int × Int × Unit) : impl_Reads.l4 k (n + 1) x4 x11 x12 y0_0 =
  iteB (decide (x12 < x11)) (iteB (decide (0 ≤ x12)) (iteB (decide (x12 < (ByteArray.size x4 : Int))) (iteB ((byteAt x4 (Int.toNat x12)) == 65) (bindO (impl_isReg k y0_0.2.2.1) fun r2 => (iteB r2 (iteB (decide ((List.length ([] ++ [y0_0.2.2.1])) * 8 ≤ lim)) (impl_Reads.l4b k n x4 x11 (IntKind.wrap .i64 (x12 + 1)) y0_0 ([] ++ [y0_0.2.2.1])) (none)) (iteB (decide (0 ≤ x12)) (iteB (decide (x12 < (ByteArray.size x4 : Int))) (iteB ((byteAt x4 (Int.toNat x12)) == 66) (bindO (impl_isReg k y0_0.2.2.2.1) fun r3 => (iteB r3 (iteB (decide ((List.length ([] ++ [y0_0.2.2.2.1])) * 8 ≤ lim)) (impl_Reads.l4b k n x4 x11 (IntKind.wrap .i64 (x12 + 1)) y0_0 ([] ++ [y0_0.2.2.2.1])) (none)) (iteB (decide (0 ≤ x12)) (iteB (decide (x12 < (ByteArray.size x4 : Int))) (iteB ((byteAt x4 (Int.toNat x12)) == 82) (iteB (y0_0.1 == 10) (bindO (impl_isReg k y0_0.2.1) fun r4 => (iteB r4 (iteB (decide ((List.length ([] ++ [y0_0.2.1])) * 8 ≤ lim)) (impl_Reads.l4b k n x4 x11 (IntKind.wrap .i64 (x12 + 1)) y0_0 ([] ++ [y0_0.2.1])) (none)) (impl_Reads.l4 k n x4 x11 (IntKind.wrap .i64 (x12 + 1)) y0_0))) (impl_Reads.l4 k n x4 x11 (IntKind.wrap .i64 (x12 + 1)) y0_0)) (impl_Reads.l4 k n x4 x11 (IntKind.wrap .i64 (x12 + 1)) y0_0)) (none)) (none)))) (iteB (decide (0 ≤ x12)) (iteB (decide (x12 < (ByteArray.size x4 : Int))) (iteB ((byteAt x4 (Int.toNat x12)) == 82) (iteB (y0_0.1 == 10) (bindO (impl_isReg k y0_0.2.1) fun r5 => (iteB r5 (iteB (decide ((List.length ([] ++ [y0_0.2.1])) * 8 ≤ lim)) (impl_Reads.l4b k n x4 x11 (IntKind.wrap .i64 (x12 + 1)) y0_0 ([] ++ [y0_0.2.1])) (none)) (impl_Reads.l4 k n x4 x11 (IntKind.wrap .i64 (x12 + 1)) y0_0))) (impl_Reads.l4 k n x4 x11 (IntKind.wrap .i64 (x12 + 1)) y0_0)) (impl_Reads.l4 k n x4 x11 (IntKind.wrap .i64 (x12 + 1)) y0_0)) (none)) (none))) (none)) (none)))) (iteB (decide (0 ≤ x12)) (iteB (decide (x12 < (ByteArray.size x4 : Int))) (iteB ((byteAt x4 (Int.toNat x12)) == 66) (bindO (impl_isReg k y0_0.2.2.2.1) fun r6 => (iteB r6 (iteB (decide ((List.length ([] ++ [y0_0.2.2.2.1])) * 8 ≤ lim)) (impl_Reads.l4b k n x4 x11 (IntKind.wrap .i64 (x12 + 1)) y0_0 ([] ++ [y0_0.2.2.2.1])) (none)) (iteB (decide (0 ≤ x12)) (iteB (decide (x12 < (ByteArray.size x4 : Int))) (iteB ((byteAt x4 (Int.toNat x12)) == 82) (iteB (y0_0.1 == 10) (bindO (impl_isReg k y0_0.2.1) fun r7 => (iteB r7 (iteB (decide ((List.length ([] ++ [y0_0.2.1])) * 8 ≤ lim)) (impl_Reads.l4b k n x4 x11 (IntKind.wrap .i64 (x12 + 1)) y0_0 ([] ++ [y0_0.2.1])) (none)) (impl_Reads.l4 k n x4 x11 (IntKind.wrap .i64 (x12 + 1)) y0_0))) (impl_Reads.l4 k n x4 x11 (IntKind.wrap .i64 (x12 + 1)) y0_0)) (impl_Reads.l4 k n x4 x11 (IntKind.wrap .i64 (x12 + 1)) y0_0)) (none)) (none)))) (iteB (decide (0 ≤ x12)) (iteB (decide (x12 < (ByteArray.size x4 : Int))) (iteB ((byteAt x4 (Int.toNat x12)) == 82) (iteB (y0_0.1 == 10) (bindO (impl_isReg k y0_0.2.1) fun r8 => (iteB r8 (iteB (decide ((List.length ([] ++ [y0_0.2.1])) * 8 ≤ lim)) (impl_Reads.l4b k n x4 x11 (IntKind.wrap .i64 (x12 + 1)) y0_0 ([] ++ [y0_0.2.1])) (none)) (impl_Reads.l4 k n x4 x11 (IntKind.wrap .i64 (x12 + 1)) y0_0))) (impl_Reads.l4 k n x4 x11 (IntKind.wrap .i64 (x12 + 1)) y0_0)) (impl_Reads.l4 k n x4 x11 (IntKind.wrap .i64 (x12 + 1)) y0_0)) (none)) (none))) (none)) (none))) (none)) (none)) (bindO (slices_Sort_int k []) fun r9 => (bindO (slices_Compact_int k r9.2) fun r10 => (some (List.take r10.1 (List.drop 0 r10.2))))) := by kernel_rfl
theorem impl_Reads.l4b_0 (k : Nat) (x4 : ByteArray) (x11 : Int) (x12 : Int) (y0_0 : Int × Int × Int × Int × Int × Int × Unit) (y1 : List Int) : impl_Reads.l4b k 0 x4 x11 x12 y0_0 y1 = none := by kernel_rfl
theorem impl_Reads.l4b_s (k n : Nat) (x4 : ByteArray) (x11 : Int) (x12 : Int) (y0_0 : Int × Int × Int × Int × Int × Int × Unit) (y1 : List Int) : impl_Reads.l4b k (n + 1) x4 x11 x12 y0_0 y1 =
  iteB (decide (x12 < x11)) (iteB (decide (0 ≤ x12)) (iteB (decide (x12 < (ByteArray.size x4 : Int))) (iteB ((byteAt x4 (Int.toNat x12)) == 65) (bindO (impl_isReg k y0_0.2.2.1) fun r11 => (iteB r11 (iteB (decide ((List.length (y1 ++ [y0_0.2.2.1])) * 8 ≤ lim)) (impl_Reads.l4b k n x4 x11 (IntKind.wrap .i64 (x12 + 1)) y0_0 (y1 ++ [y0_0.2.2.1])) (none)) (iteB (decide (0 ≤ x12)) (iteB (decide (x12 < (ByteArray.size x4 : Int))) (iteB ((byteAt x4 (Int.toNat x12)) == 66) (bindO (impl_isReg k y0_0.2.2.2.1) fun r12 => (iteB r12 (iteB (decide ((List.length (y1 ++ [y0_0.2.2.2.1])) * 8 ≤ lim)) (impl_Reads.l4b k n x4 x11 (IntKind.wrap .i64 (x12 + 1)) y0_0 (y1 ++ [y0_0.2.2.2.1])) (none)) (iteB (decide (0 ≤ x12)) (iteB (decide (x12 < (ByteArray.size x4 : Int))) (iteB ((byteAt x4 (Int.toNat x12)) == 82) (iteB (y0_0.1 == 10) (bindO (impl_isReg k y0_0.2.1) fun r13 => (iteB r13 (iteB (decide ((List.length (y1 ++ [y0_0.2.1])) * 8 ≤ lim)) (impl_Reads.l4b k n x4 x11 (IntKind.wrap .i64 (x12 + 1)) y0_0 (y1 ++ [y0_0.2.1])) (none)) (impl_Reads.l4b k n x4 x11 (IntKind.wrap .i64 (x12 + 1)) y0_0 y1))) (impl_Reads.l4b k n x4 x11 (IntKind.wrap .i64 (x12 + 1)) y0_0 y1)) (impl_Reads.l4b k n x4 x11 (IntKind.wrap .i64 (x12 + 1)) y0_0 y1)) (none)) (none)))) (iteB (decide (0 ≤ x12)) (iteB (decide (x12 < (ByteArray.size x4 : Int))) (iteB ((byteAt x4 (Int.toNat x12)) == 82) (iteB (y0_0.1 == 10) (bindO (impl_isReg k y0_0.2.1) fun r14 => (iteB r14 (iteB (decide ((List.length (y1 ++ [y0_0.2.1])) * 8 ≤ lim)) (impl_Reads.l4b k n x4 x11 (IntKind.wrap .i64 (x12 + 1)) y0_0 (y1 ++ [y0_0.2.1])) (none)) (impl_Reads.l4b k n x4 x11 (IntKind.wrap .i64 (x12 + 1)) y0_0 y1))) (impl_Reads.l4b k n x4 x11 (IntKind.wrap .i64 (x12 + 1)) y0_0 y1)) (impl_Reads.l4b k n x4 x11 (IntKind.wrap .i64 (x12 + 1)) y0_0 y1)) (none)) (none))) (none)) (none)))) (iteB (decide (0 ≤ x12)) (iteB (decide (x12 < (ByteArray.size x4 : Int))) (iteB ((byteAt x4 (Int.toNat x12)) == 66) (bindO (impl_isReg k y0_0.2.2.2.1) fun r15 => (iteB r15 (iteB (decide ((List.length (y1 ++ [y0_0.2.2.2.1])) * 8 ≤ lim)) (impl_Reads.l4b k n x4 x11 (IntKind.wrap .i64 (x12 + 1)) y0_0 (y1 ++ [y0_0.2.2.2.1])) (none)) (iteB (decide (0 ≤ x12)) (iteB (decide (x12 < (ByteArray.size x4 : Int))) (iteB ((byteAt x4 (Int.toNat x12)) == 82) (iteB (y0_0.1 == 10) (bindO (impl_isReg k y0_0.2.1) fun r16 => (iteB r16 (iteB (decide ((List.length (y1 ++ [y0_0.2.1])) * 8 ≤ lim)) (impl_Reads.l4b k n x4 x11 (IntKind.wrap .i64 (x12 + 1)) y0_0 (y1 ++ [y0_0.2.1])) (none)) (impl_Reads.l4b k n x4 x11 (IntKind.wrap .i64 (x12 + 1)) y0_0 y1))) (impl_Reads.l4b k n x4 x11 (IntKind.wrap .i64 (x12 + 1)) y0_0 y1)) (impl_Reads.l4b k n x4 x11 (IntKind.wrap .i64 (x12 + 1)) y0_0 y1)) (none)) (none)))) (iteB (decide (0 ≤ x12)) (iteB (decide (x12 < (ByteArray.size x4 : Int))) (iteB ((byteAt x4 (Int.toNat x12)) == 82) (iteB (y0_0.1 == 10) (bindO (impl_isReg k y0_0.2.1) fun r17 => (iteB r17 (iteB (decide ((List.length (y1 ++ [y0_0.2.1])) * 8 ≤ lim)) (impl_Reads.l4b k n x4 x11 (IntKind.wrap .i64 (x12 + 1)) y0_0 (y1 ++ [y0_0.2.1])) (none)) (impl_Reads.l4b k n x4 x11 (IntKind.wrap .i64 (x12 + 1)) y0_0 y1))) (impl_Reads.l4b k n x4 x11 (IntKind.wrap .i64 (x12 + 1)) y0_0 y1)) (impl_Reads.l4b k n x4 x11 (IntKind.wrap .i64 (x12 + 1)) y0_0 y1)) (none)) (none))) (none)) (none))) (none)) (none)) (bindO (slices_Sort_int k y1) fun r18 => (bindO (slices_Compact_int k r18.2) fun r19 => (some (List.take r19.1 (List.drop 0 r19.2))))) := by kernel_rfl
theorem impl_Reads_e (k : Nat) (a1 : Int × Int × Int × Int × Int × Int × Unit) : impl_Reads k a1 =
  bindO (impl_has k a1.1) fun r1 => (impl_Reads.l4 k k r1 (ByteArray.size r1 : Int) 0 a1) := by kernel_rfl
theorem E_impl_Reads_calls (k : Nat) : CallsOk Try.prog (E_impl_Reads k) (arun Try.prog (E_impl_Reads k) k) := by
  refine told_run (tyTOk _ _) ?_ (fun run h => regOk (tyTOk _ _) mixOk h) ?_ nameOk k
  · intro g m hg
    simp only [E_impl_Reads] at hg
    split at hg
    · cases hg
      refine con_byVal fun ρ l K x hm => ?_
      split at hm
      · obtain ⟨c1, h1, hm⟩ := Option.bind_eq_some_iff.1 hm
        obtain ⟨r, hr, hm⟩ := Option.bind_eq_some_iff.1 hm
        exact ⟨_, hm, LawV.reads (.cons (.as h1) .nil) (impl_has_law k c1 r hr)⟩
      · cases hm
    · cases hg
      refine con_byVal fun ρ l K x hm => ?_
      split at hm
      · obtain ⟨c1, h1, hm⟩ := Option.bind_eq_some_iff.1 hm
        obtain ⟨r, hr, hm⟩ := Option.bind_eq_some_iff.1 hm
        exact ⟨_, hm, LawV.reads (.cons (.as h1) .nil) (impl_isReg_law k c1 r hr)⟩
      · cases hm
    · cases hg
      refine con_byMut fun ρ l xs K x hm => ?_
      split at hm
      · obtain ⟨r, hr, hm⟩ := Option.bind_eq_some_iff.1 hm
        exact ⟨_, _, hm, LawM.reads .nil (slices_Sort_int_law k xs  r hr)⟩
      · cases hm
    · cases hg
      refine con_byMutP fun ρ xs K x hm => ?_
      obtain ⟨r, hr, hm⟩ := Option.bind_eq_some_iff.1 hm
      exact ⟨_, _, hm, slices_Compact_int_law k xs r hr⟩
    · cases hg; exact noCon_ok
    · cases hg
  · intro g hg r
    by_cases h : g = 8
    · subst h; simp [E_impl_Reads] at hg
    · simp [E_impl_Reads, h]
theorem f8_okimpl_Reads : Try.prog.funcs[8]? = some Try.f8 := by kernel_rfl
theorem impl_Reads_law (k : Nat) (a1 : Int × Int × Int × Int × Int × Int × Unit) (x : List Int) (h : impl_Reads k a1 = some x) : LawV Try.prog 8 [.tv (.pair (.int .i64) (.pair (.int .i64) (.pair (.int .i64) (.pair (.int .i64) (.pair (.int .i64) (.pair (.int .i64) .unit)))))) a1] (tvn (.row (.int .i64)) x) := by
  unfold impl_Reads at h
  exact law1 (t := (.row (.int .i64))) (tyTOk _ _) (E_impl_Reads_calls k) mixOk f8_okimpl_Reads (nameOk _ _ f8_okimpl_Reads) (by kernel_rfl) h
/-! spec.DrawWrites -/
noncomputable def E_spec_DrawWrites (k : Nat) : Env := ⟨ty, fun g => match g with
  | 32 => some (byFreshO (.pair (.row (.int .u8)) (.pair (.int .i64) (.pair (.int .i64) .unit))) fun ρ l K => match l with
    | [b1] => (b1.as (.row (.int .u8))).bind fun c1 => (spec_l1New k c1).bind fun r => K r
    | _ => none)
  | 31 => some (byMutO (.pair (.row (.int .u8)) (.pair (.int .i64) (.pair (.int .i64) .unit))) fun ρ l xs K => match l with
    | [] => (spec_l2Draw k xs ).bind fun r => K (tvM (.pair (.int .i64) (.pair (.int .i64) (.pair (.int .i64) (.pair (.int .i64) (.pair (.int .i64) (.pair (.int .i64) .unit)))))) r.1) r.2
    | _ => none)
  | _ => none, fun _ _ => none⟩
noncomputable def spec_DrawWrites (k : Nat) (a1 : List Int) : Option (Int × Int × Int × Int × Int × Int × Unit) :=
  abody (E_spec_DrawWrites k) (arun Try.prog (E_spec_DrawWrites k) k) k 14 Try.f14 [.tv (.row (.int .u8)) a1] [] (fin1 (.pair (.int .i64) (.pair (.int .i64) (.pair (.int .i64) (.pair (.int .i64) (.pair (.int .i64) (.pair (.int .i64) .unit)))))))
theorem spec_DrawWrites_e (k : Nat) (a1 : List Int) : spec_DrawWrites k a1 =
  bindO (spec_l1New k a1) fun r1 => (bindO (spec_l2Draw k r1) fun r2 => (some r2.1)) := by kernel_rfl
theorem E_spec_DrawWrites_calls (k : Nat) : CallsOk Try.prog (E_spec_DrawWrites k) (arun Try.prog (E_spec_DrawWrites k) k) := by
  refine told_run (tyTOk _ _) ?_ (fun run h => regOk (tyTOk _ _) mixOk h) ?_ nameOk k
  · intro g m hg
    simp only [E_spec_DrawWrites] at hg
    split at hg
    · cases hg
      refine con_byFreshO fun ρ l K x hm => ?_
      split at hm
      · obtain ⟨c1, h1, hm⟩ := Option.bind_eq_some_iff.1 hm
        obtain ⟨r, hr, hm⟩ := Option.bind_eq_some_iff.1 hm
        exact ⟨_, hm, LawFo.reads (.cons (.as h1) .nil) (spec_l1New_law k c1 r hr)⟩
      · cases hm
    · cases hg
      refine con_byMutO fun ρ l xs K x hm => ?_
      split at hm
      · obtain ⟨r, hr, hm⟩ := Option.bind_eq_some_iff.1 hm
        exact ⟨_, _, hm, LawMo.reads .nil (spec_l2Draw_law k xs  r hr)⟩
      · cases hm
    · cases hg
  · intro g _ r; rfl
theorem f14_okspec_DrawWrites : Try.prog.funcs[14]? = some Try.f14 := by kernel_rfl
theorem spec_DrawWrites_law (k : Nat) (a1 : List Int) (x : Int × Int × Int × Int × Int × Int × Unit) (h : spec_DrawWrites k a1 = some x) : LawV Try.prog 14 [.tv (.row (.int .u8)) a1] (tvn (.pair (.int .i64) (.pair (.int .i64) (.pair (.int .i64) (.pair (.int .i64) (.pair (.int .i64) (.pair (.int .i64) .unit)))))) x) := by
  unfold spec_DrawWrites at h
  exact law1 (t := (.pair (.int .i64) (.pair (.int .i64) (.pair (.int .i64) (.pair (.int .i64) (.pair (.int .i64) (.pair (.int .i64) .unit))))))) (tyTOk _ _) (E_spec_DrawWrites_calls k) mixOk f14_okspec_DrawWrites (nameOk _ _ f14_okspec_DrawWrites) (by kernel_rfl) h
/-! impl.Writes -/
noncomputable def E_impl_Writes (k : Nat) : Env := ⟨ty, fun g => match g with
  | 27 => some (byVal fun ρ l K => match l with
    | [b1] => (b1.as (.int .i64)).bind fun c1 => (impl_has k c1).bind fun r => K (tvn .str r)
    | _ => none)
  | _ => none, fun _ _ => none⟩
noncomputable def impl_Writes (k : Nat) (a1 : Int × Int × Int × Int × Int × Int × Unit) : Option (Int) :=
  abody (E_impl_Writes k) (arun Try.prog (E_impl_Writes k) k) k 15 Try.f15 [.tv (.pair (.int .i64) (.pair (.int .i64) (.pair (.int .i64) (.pair (.int .i64) (.pair (.int .i64) (.pair (.int .i64) .unit)))))) a1] [] (fin1 (.int .i64))
theorem impl_Writes_e (k : Nat) (a1 : Int × Int × Int × Int × Int × Int × Unit) : impl_Writes k a1 =
  bindO (impl_has k a1.1) fun r1 => (iteB (!(ByteArray.toList r1 == ByteArray.toList (⟨#[]⟩ : ByteArray))) (iteB (decide (0 < (ByteArray.size r1 : Int))) (iteB ((byteAt r1 0) != 82) (some (-1)) (some a1.2.1)) (none)) (some (-1))) := by kernel_rfl
theorem E_impl_Writes_calls (k : Nat) : CallsOk Try.prog (E_impl_Writes k) (arun Try.prog (E_impl_Writes k) k) := by
  refine told_run (tyTOk _ _) ?_ (fun run h => regOk (tyTOk _ _) mixOk h) ?_ nameOk k
  · intro g m hg
    simp only [E_impl_Writes] at hg
    split at hg
    · cases hg
      refine con_byVal fun ρ l K x hm => ?_
      split at hm
      · obtain ⟨c1, h1, hm⟩ := Option.bind_eq_some_iff.1 hm
        obtain ⟨r, hr, hm⟩ := Option.bind_eq_some_iff.1 hm
        exact ⟨_, hm, LawV.reads (.cons (.as h1) .nil) (impl_has_law k c1 r hr)⟩
      · cases hm
    · cases hg
  · intro g _ r; rfl
theorem f15_okimpl_Writes : Try.prog.funcs[15]? = some Try.f15 := by kernel_rfl
theorem impl_Writes_law (k : Nat) (a1 : Int × Int × Int × Int × Int × Int × Unit) (x : Int) (h : impl_Writes k a1 = some x) : LawV Try.prog 15 [.tv (.pair (.int .i64) (.pair (.int .i64) (.pair (.int .i64) (.pair (.int .i64) (.pair (.int .i64) (.pair (.int .i64) .unit)))))) a1] (tvn (.int .i64) x) := by
  unfold impl_Writes at h
  exact law1 (t := (.int .i64)) (tyTOk _ _) (E_impl_Writes_calls k) mixOk f15_okimpl_Writes (nameOk _ _ f15_okimpl_Writes) (by kernel_rfl) h
/-! spec.DrawInsOk -/
noncomputable def E_spec_DrawInsOk (k : Nat) : Env := ⟨ty, fun g => match g with
  | 32 => some (byFreshO (.pair (.row (.int .u8)) (.pair (.int .i64) (.pair (.int .i64) .unit))) fun ρ l K => match l with
    | [b1] => (b1.as (.row (.int .u8))).bind fun c1 => (spec_l1New k c1).bind fun r => K r
    | _ => none)
  | 31 => some (byMutO (.pair (.row (.int .u8)) (.pair (.int .i64) (.pair (.int .i64) .unit))) fun ρ l xs K => match l with
    | [] => (spec_l2Draw k xs ).bind fun r => K (tvM (.pair (.int .i64) (.pair (.int .i64) (.pair (.int .i64) (.pair (.int .i64) (.pair (.int .i64) (.pair (.int .i64) .unit)))))) r.1) r.2
    | _ => none)
  | _ => none, fun _ _ => none⟩
noncomputable def spec_DrawInsOk (k : Nat) (a1 : List Int) : Option (Int × Int × Int × Int × Int × Int × Unit) :=
  abody (E_spec_DrawInsOk k) (arun Try.prog (E_spec_DrawInsOk k) k) k 16 Try.f16 [.tv (.row (.int .u8)) a1] [] (fin1 (.pair (.int .i64) (.pair (.int .i64) (.pair (.int .i64) (.pair (.int .i64) (.pair (.int .i64) (.pair (.int .i64) .unit)))))))
theorem spec_DrawInsOk_e (k : Nat) (a1 : List Int) : spec_DrawInsOk k a1 =
  bindO (spec_l1New k a1) fun r1 => (bindO (spec_l2Draw k r1) fun r2 => (some r2.1)) := by kernel_rfl
theorem E_spec_DrawInsOk_calls (k : Nat) : CallsOk Try.prog (E_spec_DrawInsOk k) (arun Try.prog (E_spec_DrawInsOk k) k) := by
  refine told_run (tyTOk _ _) ?_ (fun run h => regOk (tyTOk _ _) mixOk h) ?_ nameOk k
  · intro g m hg
    simp only [E_spec_DrawInsOk] at hg
    split at hg
    · cases hg
      refine con_byFreshO fun ρ l K x hm => ?_
      split at hm
      · obtain ⟨c1, h1, hm⟩ := Option.bind_eq_some_iff.1 hm
        obtain ⟨r, hr, hm⟩ := Option.bind_eq_some_iff.1 hm
        exact ⟨_, hm, LawFo.reads (.cons (.as h1) .nil) (spec_l1New_law k c1 r hr)⟩
      · cases hm
    · cases hg
      refine con_byMutO fun ρ l xs K x hm => ?_
      split at hm
      · obtain ⟨r, hr, hm⟩ := Option.bind_eq_some_iff.1 hm
        exact ⟨_, _, hm, LawMo.reads .nil (spec_l2Draw_law k xs  r hr)⟩
      · cases hm
    · cases hg
  · intro g _ r; rfl
theorem f16_okspec_DrawInsOk : Try.prog.funcs[16]? = some Try.f16 := by kernel_rfl
theorem spec_DrawInsOk_law (k : Nat) (a1 : List Int) (x : Int × Int × Int × Int × Int × Int × Unit) (h : spec_DrawInsOk k a1 = some x) : LawV Try.prog 16 [.tv (.row (.int .u8)) a1] (tvn (.pair (.int .i64) (.pair (.int .i64) (.pair (.int .i64) (.pair (.int .i64) (.pair (.int .i64) (.pair (.int .i64) .unit)))))) x) := by
  unfold spec_DrawInsOk at h
  exact law1 (t := (.pair (.int .i64) (.pair (.int .i64) (.pair (.int .i64) (.pair (.int .i64) (.pair (.int .i64) (.pair (.int .i64) .unit))))))) (tyTOk _ _) (E_spec_DrawInsOk_calls k) mixOk f16_okspec_DrawInsOk (nameOk _ _ f16_okspec_DrawInsOk) (by kernel_rfl) h
/-! spec.Reads -/
noncomputable def E_spec_Reads (k : Nat) : Env := ⟨ty, fun g => match g with
  | 26 => some (byVal fun ρ l K => match l with
    | [b1] => (b1.as (.int .i64)).bind fun c1 => (spec_l2Has k c1).bind fun r => K (tvn (.int .i64) r)
    | _ => none)
  | 6 => some noCon
  | _ => none, fun f r => match f with | 6 => (match r with | 4 => some [1, 3, 4, 5] | _ => none) | _ => none⟩
noncomputable def spec_Reads (k : Nat) (a1 : Int × Int × Int × Int × Int × Int × Unit) : Option (List Int) :=
  abody (E_spec_Reads k) (arun Try.prog (E_spec_Reads k) k) k 6 Try.f6 [.tv (.pair (.int .i64) (.pair (.int .i64) (.pair (.int .i64) (.pair (.int .i64) (.pair (.int .i64) (.pair (.int .i64) .unit)))))) a1] [] (fin1 (.row (.int .i64)))
noncomputable def spec_Reads.l4 (k n : Nat) (x4 : Int) (x5 : Int) (y0_0 : Int × Int × Int × Int × Int × Int × Unit) : Option (List Int) :=
  resume (E_spec_Reads k) 6 (acall (E_spec_Reads k) (arun Try.prog (E_spec_Reads k) k)) k [true, true, true, false, true, true] [n] (bodyOf Try.f6) ⟨[.undef, .ptr 0 0 0, .undef, .sl 1, .int .i64 x4, .int .i64 x5, .undef, .undef, .undef, .undef, .undef, .undef, .undef, .undef, .undef, .undef, .undef, .undef, .undef, .undef, .undef, .undef, .undef, .undef, .undef, .undef, .undef, .undef, .undef, .undef, .undef, .undef, .undef, .undef, .undef, .undef, .undef, .undef, .undef, .undef, .undef, .undef, .undef, .undef, .undef, .undef, .undef, .undef, .undef, .undef], [some ⟨.raw true 6 (.agg [.int .i64 0, .int .i64 0, .int .i64 0, .int .i64 0, .int .i64 0, .int .i64 0]) [.tv (.pair (.int .i64) (.pair (.int .i64) (.pair (.int .i64) (.pair (.int .i64) (.pair (.int .i64) (.pair (.int .i64) .unit)))))) y0_0], true⟩, some ⟨.typed (.int .i64) [], true⟩]⟩ (leave (E_spec_Reads k) Try.f6 (fin1 (.row (.int .i64))))
noncomputable def spec_Reads.l4b (k n : Nat) (x4 : Int) (x5 : Int) (y0_0 : Int × Int × Int × Int × Int × Int × Unit) (y1 : List Int) : Option (List Int) :=
  resume (E_spec_Reads k) 6 (acall (E_spec_Reads k) (arun Try.prog (E_spec_Reads k) k)) k [true, true, true, false, true, true] [n] (bodyOf Try.f6) ⟨[.undef, .ptr 0 0 0, .undef, .sl 1, .int .i64 x4, .int .i64 x5, .undef, .undef, .undef, .undef, .undef, .undef, .undef, .undef, .undef, .undef, .undef, .undef, .undef, .undef, .undef, .undef, .undef, .undef, .undef, .undef, .undef, .undef, .undef, .undef, .undef, .undef, .undef, .undef, .undef, .undef, .undef, .undef, .undef, .undef, .undef, .undef, .undef, .undef, .undef, .undef, .undef, .undef, .undef, .undef], [some ⟨.raw true 6 (.agg [.int .i64 0, .int .i64 0, .int .i64 0, .int .i64 0, .int .i64 0, .int .i64 0]) [.tv (.pair (.int .i64) (.pair (.int .i64) (.pair (.int .i64) (.pair (.int .i64) (.pair (.int .i64) (.pair (.int .i64) .unit)))))) y0_0], true⟩, some ⟨.typed (.int .i64) y1, false⟩]⟩ (leave (E_spec_Reads k) Try.f6 (fin1 (.row (.int .i64))))
theorem spec_Reads.l4_0 (k : Nat) (x4 : Int) (x5 : Int) (y0_0 : Int × Int × Int × Int × Int × Int × Unit) : spec_Reads.l4 k 0 x4 x5 y0_0 = none := by kernel_rfl
theorem spec_Reads.l4_s (k n : Nat) (x4 : Int) (x5 : Int) (y0_0 : Int × Int × Int × Int × Int × Int × Unit) : spec_Reads.l4 k (n + 1) x4 x5 y0_0 =
  iteB (decide (x5 < 6)) (iteB ((IntKind.wrap .i64 ((BitVec.ofInt (IntKind.bits .i64) x4 &&& BitVec.ofInt (IntKind.bits .i64) 2).toNat : Int)) != 0) (iteB (!(y0_0.2.2.1 == x5)) (iteB ((IntKind.wrap .i64 ((BitVec.ofInt (IntKind.bits .i64) x4 &&& BitVec.ofInt (IntKind.bits .i64) 4).toNat : Int)) != 0) (iteB (!(y0_0.2.2.2.1 == x5)) (iteB (y0_0.1 == 10) (iteB (y0_0.2.1 == x5) (iteB (decide ((List.length ([] ++ [x5])) * 8 ≤ lim)) (spec_Reads.l4b k n x4 (IntKind.wrap .i64 (x5 + 1)) y0_0 ([] ++ [x5])) (none)) (spec_Reads.l4 k n x4 (IntKind.wrap .i64 (x5 + 1)) y0_0)) (spec_Reads.l4 k n x4 (IntKind.wrap .i64 (x5 + 1)) y0_0)) (iteB (decide ((List.length ([] ++ [x5])) * 8 ≤ lim)) (spec_Reads.l4b k n x4 (IntKind.wrap .i64 (x5 + 1)) y0_0 ([] ++ [x5])) (none))) (iteB (y0_0.1 == 10) (iteB (y0_0.2.1 == x5) (iteB (decide ((List.length ([] ++ [x5])) * 8 ≤ lim)) (spec_Reads.l4b k n x4 (IntKind.wrap .i64 (x5 + 1)) y0_0 ([] ++ [x5])) (none)) (spec_Reads.l4 k n x4 (IntKind.wrap .i64 (x5 + 1)) y0_0)) (spec_Reads.l4 k n x4 (IntKind.wrap .i64 (x5 + 1)) y0_0))) (iteB (decide ((List.length ([] ++ [x5])) * 8 ≤ lim)) (spec_Reads.l4b k n x4 (IntKind.wrap .i64 (x5 + 1)) y0_0 ([] ++ [x5])) (none))) (iteB ((IntKind.wrap .i64 ((BitVec.ofInt (IntKind.bits .i64) x4 &&& BitVec.ofInt (IntKind.bits .i64) 4).toNat : Int)) != 0) (iteB (!(y0_0.2.2.2.1 == x5)) (iteB (y0_0.1 == 10) (iteB (y0_0.2.1 == x5) (iteB (decide ((List.length ([] ++ [x5])) * 8 ≤ lim)) (spec_Reads.l4b k n x4 (IntKind.wrap .i64 (x5 + 1)) y0_0 ([] ++ [x5])) (none)) (spec_Reads.l4 k n x4 (IntKind.wrap .i64 (x5 + 1)) y0_0)) (spec_Reads.l4 k n x4 (IntKind.wrap .i64 (x5 + 1)) y0_0)) (iteB (decide ((List.length ([] ++ [x5])) * 8 ≤ lim)) (spec_Reads.l4b k n x4 (IntKind.wrap .i64 (x5 + 1)) y0_0 ([] ++ [x5])) (none))) (iteB (y0_0.1 == 10) (iteB (y0_0.2.1 == x5) (iteB (decide ((List.length ([] ++ [x5])) * 8 ≤ lim)) (spec_Reads.l4b k n x4 (IntKind.wrap .i64 (x5 + 1)) y0_0 ([] ++ [x5])) (none)) (spec_Reads.l4 k n x4 (IntKind.wrap .i64 (x5 + 1)) y0_0)) (spec_Reads.l4 k n x4 (IntKind.wrap .i64 (x5 + 1)) y0_0)))) (some []) := by kernel_rfl
theorem spec_Reads.l4b_0 (k : Nat) (x4 : Int) (x5 : Int) (y0_0 : Int × Int × Int × Int × Int × Int × Unit) (y1 : List Int) : spec_Reads.l4b k 0 x4 x5 y0_0 y1 = none := by kernel_rfl
theorem spec_Reads.l4b_s (k n : Nat) (x4 : Int) (x5 : Int) (y0_0 : Int × Int × Int × Int × Int × Int × Unit) (y1 : List Int) : spec_Reads.l4b k (n + 1) x4 x5 y0_0 y1 =
  iteB (decide (x5 < 6)) (iteB ((IntKind.wrap .i64 ((BitVec.ofInt (IntKind.bits .i64) x4 &&& BitVec.ofInt (IntKind.bits .i64) 2).toNat : Int)) != 0) (iteB (!(y0_0.2.2.1 == x5)) (iteB ((IntKind.wrap .i64 ((BitVec.ofInt (IntKind.bits .i64) x4 &&& BitVec.ofInt (IntKind.bits .i64) 4).toNat : Int)) != 0) (iteB (!(y0_0.2.2.2.1 == x5)) (iteB (y0_0.1 == 10) (iteB (y0_0.2.1 == x5) (iteB (decide ((List.length (y1 ++ [x5])) * 8 ≤ lim)) (spec_Reads.l4b k n x4 (IntKind.wrap .i64 (x5 + 1)) y0_0 (y1 ++ [x5])) (none)) (spec_Reads.l4b k n x4 (IntKind.wrap .i64 (x5 + 1)) y0_0 y1)) (spec_Reads.l4b k n x4 (IntKind.wrap .i64 (x5 + 1)) y0_0 y1)) (iteB (decide ((List.length (y1 ++ [x5])) * 8 ≤ lim)) (spec_Reads.l4b k n x4 (IntKind.wrap .i64 (x5 + 1)) y0_0 (y1 ++ [x5])) (none))) (iteB (y0_0.1 == 10) (iteB (y0_0.2.1 == x5) (iteB (decide ((List.length (y1 ++ [x5])) * 8 ≤ lim)) (spec_Reads.l4b k n x4 (IntKind.wrap .i64 (x5 + 1)) y0_0 (y1 ++ [x5])) (none)) (spec_Reads.l4b k n x4 (IntKind.wrap .i64 (x5 + 1)) y0_0 y1)) (spec_Reads.l4b k n x4 (IntKind.wrap .i64 (x5 + 1)) y0_0 y1))) (iteB (decide ((List.length (y1 ++ [x5])) * 8 ≤ lim)) (spec_Reads.l4b k n x4 (IntKind.wrap .i64 (x5 + 1)) y0_0 (y1 ++ [x5])) (none))) (iteB ((IntKind.wrap .i64 ((BitVec.ofInt (IntKind.bits .i64) x4 &&& BitVec.ofInt (IntKind.bits .i64) 4).toNat : Int)) != 0) (iteB (!(y0_0.2.2.2.1 == x5)) (iteB (y0_0.1 == 10) (iteB (y0_0.2.1 == x5) (iteB (decide ((List.length (y1 ++ [x5])) * 8 ≤ lim)) (spec_Reads.l4b k n x4 (IntKind.wrap .i64 (x5 + 1)) y0_0 (y1 ++ [x5])) (none)) (spec_Reads.l4b k n x4 (IntKind.wrap .i64 (x5 + 1)) y0_0 y1)) (spec_Reads.l4b k n x4 (IntKind.wrap .i64 (x5 + 1)) y0_0 y1)) (iteB (decide ((List.length (y1 ++ [x5])) * 8 ≤ lim)) (spec_Reads.l4b k n x4 (IntKind.wrap .i64 (x5 + 1)) y0_0 (y1 ++ [x5])) (none))) (iteB (y0_0.1 == 10) (iteB (y0_0.2.1 == x5) (iteB (decide ((List.length (y1 ++ [x5])) * 8 ≤ lim)) (spec_Reads.l4b k n x4 (IntKind.wrap .i64 (x5 + 1)) y0_0 (y1 ++ [x5])) (none)) (spec_Reads.l4b k n x4 (IntKind.wrap .i64 (x5 + 1)) y0_0 y1)) (spec_Reads.l4b k n x4 (IntKind.wrap .i64 (x5 + 1)) y0_0 y1)))) (some y1) := by kernel_rfl
theorem spec_Reads_e (k : Nat) (a1 : Int × Int × Int × Int × Int × Int × Unit) : spec_Reads k a1 =
  bindO (spec_l2Has k a1.1) fun r1 => (spec_Reads.l4 k k r1 0 a1) := by kernel_rfl
theorem E_spec_Reads_calls (k : Nat) : CallsOk Try.prog (E_spec_Reads k) (arun Try.prog (E_spec_Reads k) k) := by
  refine told_run (tyTOk _ _) ?_ (fun run h => regOk (tyTOk _ _) mixOk h) ?_ nameOk k
  · intro g m hg
    simp only [E_spec_Reads] at hg
    split at hg
    · cases hg
      refine con_byVal fun ρ l K x hm => ?_
      split at hm
      · obtain ⟨c1, h1, hm⟩ := Option.bind_eq_some_iff.1 hm
        obtain ⟨r, hr, hm⟩ := Option.bind_eq_some_iff.1 hm
        exact ⟨_, hm, LawV.reads (.cons (.as h1) .nil) (spec_l2Has_law k c1 r hr)⟩
      · cases hm
    · cases hg; exact noCon_ok
    · cases hg
  · intro g hg r
    by_cases h : g = 6
    · subst h; simp [E_spec_Reads] at hg
    · simp [E_spec_Reads, h]
theorem f6_okspec_Reads : Try.prog.funcs[6]? = some Try.f6 := by kernel_rfl
theorem spec_Reads_law (k : Nat) (a1 : Int × Int × Int × Int × Int × Int × Unit) (x : List Int) (h : spec_Reads k a1 = some x) : LawV Try.prog 6 [.tv (.pair (.int .i64) (.pair (.int .i64) (.pair (.int .i64) (.pair (.int .i64) (.pair (.int .i64) (.pair (.int .i64) .unit)))))) a1] (tvn (.row (.int .i64)) x) := by
  unfold spec_Reads at h
  exact law1 (t := (.row (.int .i64))) (tyTOk _ _) (E_spec_Reads_calls k) mixOk f6_okspec_Reads (nameOk _ _ f6_okspec_Reads) (by kernel_rfl) h
/-! laws.sameInts -/
noncomputable def E_laws_sameInts (k : Nat) : Env := ⟨ty, fun g => match g with
  | 17 => some noCon
  | _ => none, fun f r => match f with | 17 => (match r with | 4 => some [0, 1, 5] | _ => none) | _ => none⟩
noncomputable def laws_sameInts (k : Nat) (a1 : List Int) (a2 : List Int) : Option (Bool) :=
  abody (E_laws_sameInts k) (arun Try.prog (E_laws_sameInts k) k) k 17 Try.f17 [.tv (.row (.int .i64)) a1, .tv (.row (.int .i64)) a2] [] (fin1 .bool)
noncomputable def laws_sameInts.l4 (k n : Nat) (x0 : List Int) (x1 : List Int) (x5 : Int) : Option (Bool) :=
  resume (E_laws_sameInts k) 17 (acall (E_laws_sameInts k) (arun Try.prog (E_laws_sameInts k) k)) k [true, true, false, true, true] [n] (bodyOf Try.f17) ⟨[.tv (.row (.int .i64)) x0, .tv (.row (.int .i64)) x1, .undef, .undef, .undef, .int .i64 x5, .undef, .undef, .undef, .undef, .undef, .undef, .undef, .undef, .undef, .undef, .undef, .undef, .undef, .undef, .undef, .undef, .undef, .undef, .undef, .undef], []⟩ (leave (E_laws_sameInts k) Try.f17 (fin1 .bool))
theorem laws_sameInts.l4_0 (k : Nat) (x0 : List Int) (x1 : List Int) (x5 : Int) : laws_sameInts.l4 k 0 x0 x1 x5 = none := by kernel_rfl
theorem laws_sameInts.l4_s (k n : Nat) (x0 : List Int) (x1 : List Int) (x5 : Int) : laws_sameInts.l4 k (n + 1) x0 x1 x5 =
  iteB (decide (x5 < ((List.length x0) : Int))) (iteB (decide (0 ≤ x5)) (iteB (decide (x5 < ((List.length x0) : Int))) (iteB (decide (0 ≤ x5)) (iteB (decide (x5 < ((List.length x1) : Int))) (iteB ((List.getD x0 (Int.toNat x5) 0) != (List.getD x1 (Int.toNat x5) 0)) (some false) (laws_sameInts.l4 k n x0 x1 (IntKind.wrap .i64 (x5 + 1)))) (none)) (none)) (none)) (none)) (some true) := by kernel_rfl
theorem laws_sameInts_e (k : Nat) (a1 : List Int) (a2 : List Int) : laws_sameInts k a1 a2 =
  iteB (((List.length a1) : Int) != ((List.length a2) : Int)) (some false) (laws_sameInts.l4 k k a1 a2 0) := by kernel_rfl
theorem E_laws_sameInts_calls (k : Nat) : CallsOk Try.prog (E_laws_sameInts k) (arun Try.prog (E_laws_sameInts k) k) := by
  refine told_run (tyTOk _ _) ?_ (fun run h => regOk (tyTOk _ _) mixOk h) ?_ nameOk k
  · intro g m hg
    simp only [E_laws_sameInts] at hg
    split at hg
    · cases hg; exact noCon_ok
    · cases hg
  · intro g hg r
    by_cases h : g = 17
    · subst h; simp [E_laws_sameInts] at hg
    · simp [E_laws_sameInts, h]
theorem f17_oklaws_sameInts : Try.prog.funcs[17]? = some Try.f17 := by kernel_rfl
theorem laws_sameInts_law (k : Nat) (a1 : List Int) (a2 : List Int) (x : Bool) (h : laws_sameInts k a1 a2 = some x) : LawV Try.prog 17 [.tv (.row (.int .i64)) a1, .tv (.row (.int .i64)) a2] (tvn .bool x) := by
  unfold laws_sameInts at h
  exact law1 (t := .bool) (tyTOk _ _) (E_laws_sameInts_calls k) mixOk f17_oklaws_sameInts (nameOk _ _ f17_oklaws_sameInts) (by kernel_rfl) h
/-! spec.Writes -/
noncomputable def E_spec_Writes (k : Nat) : Env := ⟨ty, fun g => match g with
  | 26 => some (byVal fun ρ l K => match l with
    | [b1] => (b1.as (.int .i64)).bind fun c1 => (spec_l2Has k c1).bind fun r => K (tvn (.int .i64) r)
    | _ => none)
  | _ => none, fun _ _ => none⟩
noncomputable def spec_Writes (k : Nat) (a1 : Int × Int × Int × Int × Int × Int × Unit) : Option (Int) :=
  abody (E_spec_Writes k) (arun Try.prog (E_spec_Writes k) k) k 18 Try.f18 [.tv (.pair (.int .i64) (.pair (.int .i64) (.pair (.int .i64) (.pair (.int .i64) (.pair (.int .i64) (.pair (.int .i64) .unit)))))) a1] [] (fin1 (.int .i64))
theorem spec_Writes_e (k : Nat) (a1 : Int × Int × Int × Int × Int × Int × Unit) : spec_Writes k a1 =
  bindO (spec_l2Has k a1.1) fun r1 => (iteB ((IntKind.wrap .i64 ((BitVec.ofInt (IntKind.bits .i64) r1 &&& BitVec.ofInt (IntKind.bits .i64) 1).toNat : Int)) == 0) (some (-1)) (some a1.2.1)) := by kernel_rfl
theorem E_spec_Writes_calls (k : Nat) : CallsOk Try.prog (E_spec_Writes k) (arun Try.prog (E_spec_Writes k) k) := by
  refine told_run (tyTOk _ _) ?_ (fun run h => regOk (tyTOk _ _) mixOk h) ?_ nameOk k
  · intro g m hg
    simp only [E_spec_Writes] at hg
    split at hg
    · cases hg
      refine con_byVal fun ρ l K x hm => ?_
      split at hm
      · obtain ⟨c1, h1, hm⟩ := Option.bind_eq_some_iff.1 hm
        obtain ⟨r, hr, hm⟩ := Option.bind_eq_some_iff.1 hm
        exact ⟨_, hm, LawV.reads (.cons (.as h1) .nil) (spec_l2Has_law k c1 r hr)⟩
      · cases hm
    · cases hg
  · intro g _ r; rfl
theorem f18_okspec_Writes : Try.prog.funcs[18]? = some Try.f18 := by kernel_rfl
theorem spec_Writes_law (k : Nat) (a1 : Int × Int × Int × Int × Int × Int × Unit) (x : Int) (h : spec_Writes k a1 = some x) : LawV Try.prog 18 [.tv (.pair (.int .i64) (.pair (.int .i64) (.pair (.int .i64) (.pair (.int .i64) (.pair (.int .i64) (.pair (.int .i64) .unit)))))) a1] (tvn (.int .i64) x) := by
  unfold spec_Writes at h
  exact law1 (t := (.int .i64)) (tyTOk _ _) (E_spec_Writes_calls k) mixOk f18_okspec_Writes (nameOk _ _ f18_okspec_Writes) (by kernel_rfl) h
/-! impl.WordOk -/
noncomputable def E_impl_WordOk (k : Nat) : Env := ⟨ty, fun g => match g with
  | 34 => some (byVal fun ρ l K => match l with
    | [b1, b2, b3] => (b1.as (.int .i64)).bind fun c1 => (b2.as (.int .i64)).bind fun c2 => (b3.as (.int .i64)).bind fun c3 => (impl_within k c1 c2 c3).bind fun r => K (tvn .bool r)
    | _ => none)
  | _ => none, fun _ _ => none⟩
noncomputable def impl_WordOk (k : Nat) (a1 : Int) : Option (Bool) :=
  abody (E_impl_WordOk k) (arun Try.prog (E_impl_WordOk k) k) k 33 Try.f33 [.int .i64 a1] [] (fin1 .bool)
theorem impl_WordOk_e (k : Nat) (a1 : Int) : impl_WordOk k a1 =
  bindO (impl_within k a1 (-2147483648) 2147483647) fun r1 => (some r1) := by kernel_rfl
theorem E_impl_WordOk_calls (k : Nat) : CallsOk Try.prog (E_impl_WordOk k) (arun Try.prog (E_impl_WordOk k) k) := by
  refine told_run (tyTOk _ _) ?_ (fun run h => regOk (tyTOk _ _) mixOk h) ?_ nameOk k
  · intro g m hg
    simp only [E_impl_WordOk] at hg
    split at hg
    · cases hg
      refine con_byVal fun ρ l K x hm => ?_
      split at hm
      · obtain ⟨c1, h1, hm⟩ := Option.bind_eq_some_iff.1 hm
        obtain ⟨c2, h2, hm⟩ := Option.bind_eq_some_iff.1 hm
        obtain ⟨c3, h3, hm⟩ := Option.bind_eq_some_iff.1 hm
        obtain ⟨r, hr, hm⟩ := Option.bind_eq_some_iff.1 hm
        exact ⟨_, hm, LawV.reads (.cons (.as h1) (.cons (.as h2) (.cons (.as h3) .nil))) (impl_within_law k c1 c2 c3 r hr)⟩
      · cases hm
    · cases hg
  · intro g _ r; rfl
theorem f33_okimpl_WordOk : Try.prog.funcs[33]? = some Try.f33 := by kernel_rfl
theorem impl_WordOk_law (k : Nat) (a1 : Int) (x : Bool) (h : impl_WordOk k a1 = some x) : LawV Try.prog 33 [.int .i64 a1] (tvn .bool x) := by
  unfold impl_WordOk at h
  exact law1 (t := .bool) (tyTOk _ _) (E_impl_WordOk_calls k) mixOk f33_okimpl_WordOk (nameOk _ _ f33_okimpl_WordOk) (by kernel_rfl) h
end Go.Proofs.Ytkingfejeangbaa.XFnInsNamed
