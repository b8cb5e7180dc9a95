/- Functions of the program as runs of the interpreter: equations, and a law for each. -/
import Derived.Test.YteojdaobpjhddaaProg
import Derived.Test.YteojdaobpjhddaaChecked
import Derived.KernelRfl
import Derived.Eval
import Derived.Test.YteojdaobpjhddaaATyOk
import Derived.Test.YteojdaobpjhddaaAS40
import Derived.Test.YteojdaobpjhddaaAS43
import Derived.Test.YteojdaobpjhddaaAShelf
import Derived.Lib.RowBridge
open Go Go.AM Go.AMx Go.Proofs
namespace Go.Proofs.Yteojdaobpjhddaa.XFnTokens
set_option linter.unusedVariables false
set_option linter.unusedSimpArgs false
/-! laws.big -/
noncomputable def E_laws_big (k : Nat) : Env := ⟨ty, fun _ => none, fun _ _ => none⟩
noncomputable def laws_big (k : Nat) (a1 : List Int) : Option (Bool) :=
  abody (E_laws_big k) (arun Try.prog (E_laws_big k) k) k 6 Try.f6 [.tv (.row (.int .u8)) a1] [] (fin1 .bool)
theorem laws_big_e (k : Nat) (a1 : List Int) : laws_big k a1 =
  some (decide (((List.length a1) : Int) > 1048576)) := by kernel_rfl
theorem E_laws_big_calls (k : Nat) : CallsOk Try.prog (E_laws_big k) (arun Try.prog (E_laws_big k) k) := by
  refine told_run (tyTOk _ _) ?_ (fun run h => regOk (tyTOk _ _) mixOk h) ?_ nameOk k
  · intro g m hg
    cases hg
  · intro g _ r; rfl
theorem f6_oklaws_big : Try.prog.funcs[6]? = some Try.f6 := by kernel_rfl
theorem laws_big_law (k : Nat) (a1 : List Int) (x : Bool) (h : laws_big k a1 = some x) : LawV Try.prog 6 [.tv (.row (.int .u8)) a1] (tvn .bool x) := by
  unfold laws_big at h
  exact law1 (t := .bool) (tyTOk _ _) (E_laws_big_calls k) mixOk f6_oklaws_big (nameOk _ _ f6_oklaws_big) (by kernel_rfl) h
/-! spec.l1New -/
noncomputable def E_spec_l1New (k : Nat) : Env := ⟨ty, fun g => match g with
  | 32 => some noCon
  | _ => none, fun f r => match f with | 32 => (match r with | 3 => some [0, 3, 4] | 5 => some [0, 3, 4] | _ => none) | _ => none⟩
noncomputable def spec_l1New (k : Nat) (a1 : List Int) : Option ((List Int) × Int × Int × Unit) :=
  abody (E_spec_l1New k) (arun Try.prog (E_spec_l1New k) k) k 32 Try.f32 [.tv (.row (.int .u8)) a1] [] (finFo (.pair (.row (.int .u8)) (.pair (.int .i64) (.pair (.int .i64) .unit))))
noncomputable def spec_l1New.l3 (k n : Nat) (x0 : List Int) (x3 : Int) (x4 : Int) : Option ((List Int) × Int × Int × Unit) :=
  resume (E_spec_l1New k) 32 (acall (E_spec_l1New k) (arun Try.prog (E_spec_l1New k) k)) k [true, true, false, true, true] [n] (bodyOf Try.f32) ⟨[.tv (.row (.int .u8)) x0, .undef, .undef, .int .i64 x3, .int .i64 x4, .undef, .undef, .undef, .undef, .undef, .undef, .undef, .undef, .undef, .undef, .undef, .undef, .undef, .undef, .undef, .undef, .undef, .undef, .undef, .undef, .undef, .undef, .undef, .undef, .undef, .undef, .undef], []⟩ (leave (E_spec_l1New k) Try.f32 (finFo (.pair (.row (.int .u8)) (.pair (.int .i64) (.pair (.int .i64) .unit)))))
noncomputable def spec_l1New.j5 (k m3 : Nat) (x0 : List Int) (x3 : Int) (x4 : Int) : Option ((List Int) × Int × Int × Unit) :=
  resume (E_spec_l1New k) 32 (acall (E_spec_l1New k) (arun Try.prog (E_spec_l1New k) k)) k [true, true, false, true, true, true, true] [m3] (bodyOf Try.f32) ⟨[.tv (.row (.int .u8)) x0, .undef, .undef, .int .i64 x3, .int .i64 x4, .undef, .undef, .undef, .undef, .undef, .undef, .undef, .undef, .undef, .undef, .undef, .undef, .undef, .undef, .undef, .undef, .undef, .undef, .undef, .undef, .undef, .undef, .undef, .undef, .undef, .undef, .undef], []⟩ (leave (E_spec_l1New k) Try.f32 (finFo (.pair (.row (.int .u8)) (.pair (.int .i64) (.pair (.int .i64) .unit)))))
theorem spec_l1New.l3_0 (k : Nat) (x0 : List Int) (x3 : Int) (x4 : Int) : spec_l1New.l3 k 0 x0 x3 x4 = none := by kernel_rfl
theorem spec_l1New.l3_s (k n : Nat) (x0 : List Int) (x3 : Int) (x4 : Int) : spec_l1New.l3 k (n + 1) x0 x3 x4 =
  iteB (decide (x4 < ((List.length x0) : Int))) (iteB (decide (x4 < 4000)) (gate k (spec_l1New.j5 k n x0 x3 x4)) (some (x0, 0, x3, ()))) (some (x0, 0, x3, ())) := by kernel_rfl
theorem spec_l1New.j5_e (k m3 : Nat) (x0 : List Int) (x3 : Int) (x4 : Int) : spec_l1New.j5 k m3 x0 x3 x4 =
  iteB (decide (0 ≤ x4)) (iteB (decide (x4 < ((List.length x0) : Int))) (spec_l1New.l3 k m3 x0 (IntKind.wrap .i64 ((BitVec.ofInt (IntKind.bits .i64) (IntKind.wrap .i64 ((IntKind.wrap .i64 ((IntKind.wrap .i64 (x3 * 131)) + (IntKind.wrap .i64 (List.getD x0 (Int.toNat x4) 0)))) + 7)) &&& BitVec.ofInt (IntKind.bits .i64) 1073741823).toNat : Int)) (IntKind.wrap .i64 (x4 + 1))) (none)) (none) := by kernel_rfl
theorem spec_l1New_e (k : Nat) (a1 : List Int) : spec_l1New k a1 =
  spec_l1New.l3 k k a1 (IntKind.wrap .i64 (20589 + ((List.length a1) : Int))) 0 := by kernel_rfl
theorem E_spec_l1New_calls (k : Nat) : CallsOk Try.prog (E_spec_l1New k) (arun Try.prog (E_spec_l1New k) k) := by
  refine told_run (tyTOk _ _) ?_ (fun run h => regOk (tyTOk _ _) mixOk h) ?_ nameOk k
  · intro g m hg
    simp only [E_spec_l1New] at hg
    split at hg
    · cases hg; exact noCon_ok
    · cases hg
  · intro g hg r
    by_cases h : g = 32
    · subst h; simp [E_spec_l1New] at hg
    · simp [E_spec_l1New, h]
theorem f32_okspec_l1New : Try.prog.funcs[32]? = some Try.f32 := by kernel_rfl
theorem spec_l1New_law (k : Nat) (a1 : List Int) (x : (List Int) × Int × Int × Unit) (h : spec_l1New k a1 = some x) : LawFo Try.prog 32 [.tv (.row (.int .u8)) a1] (.pair (.row (.int .u8)) (.pair (.int .i64) (.pair (.int .i64) .unit))) x := by
  unfold spec_l1New at h
  exact lawFo (T := (.pair (.row (.int .u8)) (.pair (.int .i64) (.pair (.int .i64) .unit)))) (tyTOk _ _) (E_spec_l1New_calls k) mixOk f32_okspec_l1New (nameOk _ _ f32_okspec_l1New) (by kernel_rfl) h
/-! spec.l5Programs -/
noncomputable def E_spec_l5Programs (k : Nat) : Env := ⟨ty, fun _ => none, fun _ _ => none⟩
noncomputable def spec_l5Programs (k : Nat)  : Option (List ByteArray) :=
  abody (E_spec_l5Programs k) (arun Try.prog (E_spec_l5Programs k) k) k 71 Try.f71 [] [] (fin1 (.row .str))
theorem spec_l5Programs_e (k : Nat)  : spec_l5Programs k  =
  some [(⟨#[102, 117, 110, 99, 32, 119, 111, 114, 107, 101, 114, 40, 99, 32, 99, 104, 97, 110, 44, 32, 110, 41, 32, 123, 10, 108, 101, 116, 32, 105, 32, 61, 32, 48, 59, 10, 119, 104, 105, 108, 101, 32, 105, 32, 60, 32, 110, 32, 123, 32, 115, 101, 110, 100, 32, 99, 44, 32, 105, 32, 42, 32, 105, 59, 32, 105, 32, 61, 32, 105, 32, 43, 32, 49, 59, 32, 125, 10, 99, 108, 111, 115, 101, 32, 99, 59, 10, 114, 101, 116, 117, 114, 110, 32, 48, 59, 10, 125, 10, 102, 117, 110, 99, 32, 109, 97, 105, 110, 40, 41, 32, 123, 10, 108, 101, 116, 32, 99, 32, 61, 32, 109, 97, 107, 101, 40, 49, 41, 59, 10, 108, 101, 116, 32, 120, 32, 61, 32, 48, 59, 10, 108, 101, 116, 32, 105, 32, 61, 32, 48, 59, 10, 103, 111, 32, 119, 111, 114, 107, 101, 114, 40, 99, 44, 32, 51, 41, 59, 10, 119, 104, 105, 108, 101, 32, 105, 32, 60, 32, 52, 32, 123, 32, 114, 101, 99, 118, 32, 120, 44, 32, 99, 59, 32, 112, 114, 105, 110, 116, 32, 120, 59, 32, 105, 32, 61, 32, 105, 32, 43, 32, 49, 59, 32, 125, 10, 114, 101, 116, 117, 114, 110, 32, 48, 59, 10, 125, 10]⟩ : ByteArray), (⟨#[102, 117, 110, 99, 32, 97, 100, 100, 40, 97, 44, 32, 98, 41, 32, 123, 32, 114, 101, 116, 117, 114, 110, 32, 97, 32, 43, 32, 98, 59, 32, 125, 10, 102, 117, 110, 99, 32, 115, 105, 100, 101, 40, 99, 32, 99, 104, 97, 110, 44, 32, 100, 32, 99, 104, 97, 110, 44, 32, 107, 41, 32, 123, 10, 108, 101, 116, 32, 120, 32, 61, 32, 48, 59, 10, 114, 101, 99, 118, 32, 120, 44, 32, 99, 59, 10, 115, 101, 110, 100, 32, 100, 44, 32, 97, 100, 100, 40, 120, 44, 32, 107, 41, 59, 10, 114, 101, 116, 117, 114, 110, 32, 48, 59, 10, 125, 10, 102, 117, 110, 99, 32, 109, 97, 105, 110, 40, 41, 32, 123, 10, 108, 101, 116, 32, 99, 32, 61, 32, 109, 97, 107, 101, 40, 48, 41, 59, 10, 108, 101, 116, 32, 100, 32, 61, 32, 109, 97, 107, 101, 40, 48, 41, 59, 10, 108, 101, 116, 32, 120, 32, 61, 32, 48, 59, 10, 103, 111, 32, 115, 105, 100, 101, 40, 99, 44, 32, 100, 44, 32, 49, 48, 41, 59, 10, 103, 111, 32, 115, 105, 100, 101, 40, 99, 44, 32, 100, 44, 32, 50, 48, 41, 59, 10, 115, 101, 110, 100, 32, 99, 44, 32, 49, 59, 10, 115, 101, 110, 100, 32, 99, 44, 32, 50, 59, 10, 114, 101, 99, 118, 32, 120, 44, 32, 100, 59, 10, 112, 114, 105, 110, 116, 32, 120, 59, 10, 114, 101, 99, 118, 32, 120, 44, 32, 100, 59, 10, 112, 114, 105, 110, 116, 32, 120, 59, 10, 114, 101, 116, 117, 114, 110, 32, 48, 59, 10, 125, 10]⟩ : ByteArray), (⟨#[102, 117, 110, 99, 32, 102, 101, 101, 100, 40, 99, 32, 99, 104, 97, 110, 44, 32, 107, 41, 32, 123, 32, 115, 101, 110, 100, 32, 99, 44, 32, 107, 59, 32, 114, 101, 116, 117, 114, 110, 32, 48, 59, 32, 125, 10, 102, 117, 110, 99, 32, 109, 97, 105, 110, 40, 41, 32, 123, 10, 108, 101, 116, 32, 97, 32, 61, 32, 109, 97, 107, 101, 40, 48, 41, 59, 10, 108, 101, 116, 32, 98, 32, 61, 32, 109, 97, 107, 101, 40, 50, 41, 59, 10, 108, 101, 116, 32, 120, 32, 61, 32, 48, 59, 10, 108, 101, 116, 32, 105, 32, 61, 32, 48, 59, 10, 103, 111, 32, 102, 101, 101, 100, 40, 97, 44, 32, 55, 41, 59, 10, 103, 111, 32, 102, 101, 101, 100, 40, 98, 44, 32, 56, 41, 59, 10, 119, 104, 105, 108, 101, 32, 105, 32, 60, 32, 51, 32, 123, 10, 115, 101, 108, 101, 99, 116, 32, 123, 32, 99, 97, 115, 101, 32, 114, 101, 99, 118, 32, 120, 44, 32, 97, 32, 123, 32, 112, 114, 105, 110, 116, 32, 120, 59, 32, 105, 32, 61, 32, 105, 32, 43, 32, 49, 59, 32, 125, 32, 99, 97, 115, 101, 32, 114, 101, 99, 118, 32, 120, 44, 32, 98, 32, 123, 32, 112, 114, 105, 110, 116, 32, 120, 32, 43, 32, 49, 48, 48, 59, 32, 105, 32, 61, 32, 105, 32, 43, 32, 49, 59, 32, 125, 32, 99, 97, 115, 101, 32, 115, 101, 110, 100, 32, 98, 44, 32, 105, 32, 123, 32, 112, 114, 105, 110, 116, 32, 48, 32, 45, 32, 49, 59, 32, 105, 32, 61, 32, 105, 32, 43, 32, 49, 59, 32, 125, 32, 125, 10, 125, 10, 115, 101, 108, 101, 99, 116, 32, 123, 32, 99, 97, 115, 101, 32, 114, 101, 99, 118, 32, 120, 44, 32, 97, 32, 123, 32, 112, 114, 105, 110, 116, 32, 120, 59, 32, 125, 32, 100, 101, 102, 97, 117, 108, 116, 32, 123, 32, 112, 114, 105, 110, 116, 32, 53, 53, 59, 32, 125, 32, 125, 10, 114, 101, 116, 117, 114, 110, 32, 48, 59, 10, 125, 10]⟩ : ByteArray), (⟨#[102, 117, 110, 99, 32, 109, 97, 105, 110, 40, 41, 32, 123, 10, 108, 101, 116, 32, 99, 32, 61, 32, 109, 97, 107, 101, 40, 48, 41, 59, 10, 108, 101, 116, 32, 120, 32, 61, 32, 48, 59, 10, 112, 114, 105, 110, 116, 32, 49, 59, 10, 114, 101, 99, 118, 32, 120, 44, 32, 99, 59, 10, 112, 114, 105, 110, 116, 32, 120, 59, 10, 114, 101, 116, 117, 114, 110, 32, 48, 59, 10, 125, 10]⟩ : ByteArray), (⟨#[102, 117, 110, 99, 32, 109, 97, 105, 110, 40, 41, 32, 123, 10, 108, 101, 116, 32, 99, 32, 61, 32, 109, 97, 107, 101, 40, 49, 41, 59, 10, 112, 114, 105, 110, 116, 32, 53, 59, 10, 115, 101, 110, 100, 32, 99, 44, 32, 49, 59, 10, 99, 108, 111, 115, 101, 32, 99, 59, 10, 115, 101, 110, 100, 32, 99, 44, 32, 50, 59, 10, 114, 101, 116, 117, 114, 110, 32, 48, 59, 10, 125, 10]⟩ : ByteArray), (⟨#[102, 117, 110, 99, 32, 102, 97, 99, 116, 40, 110, 41, 32, 123, 10, 108, 101, 116, 32, 112, 32, 61, 32, 49, 59, 10, 119, 104, 105, 108, 101, 32, 48, 32, 60, 32, 110, 32, 123, 32, 112, 32, 61, 32, 112, 32, 42, 32, 110, 59, 32, 110, 32, 61, 32, 110, 32, 45, 32, 49, 59, 32, 125, 10, 114, 101, 116, 117, 114, 110, 32, 112, 59, 10, 125, 10, 102, 117, 110, 99, 32, 109, 97, 105, 110, 40, 41, 32, 123, 10, 108, 101, 116, 32, 97, 32, 61, 32, 102, 97, 99, 116, 40, 53, 41, 59, 10, 105, 102, 32, 97, 32, 61, 61, 32, 49, 50, 48, 32, 123, 32, 112, 114, 105, 110, 116, 32, 97, 59, 32, 125, 32, 101, 108, 115, 101, 32, 123, 32, 112, 114, 105, 110, 116, 32, 48, 59, 32, 125, 10, 105, 102, 32, 97, 32, 60, 32, 51, 32, 123, 32, 112, 114, 105, 110, 116, 32, 49, 59, 32, 125, 10, 108, 101, 116, 32, 98, 32, 61, 32, 97, 32, 42, 32, 49, 48, 48, 48, 32, 42, 32, 49, 48, 48, 48, 32, 42, 32, 49, 48, 48, 48, 59, 10, 112, 114, 105, 110, 116, 32, 98, 59, 10, 114, 101, 116, 117, 114, 110, 32, 102, 97, 99, 116, 40, 51, 41, 59, 10, 125, 10]⟩ : ByteArray), (⟨#[102, 117, 110, 99, 32, 112, 97, 115, 115, 40, 97, 32, 99, 104, 97, 110, 44, 32, 98, 32, 99, 104, 97, 110, 41, 32, 123, 10, 108, 101, 116, 32, 120, 32, 61, 32, 48, 59, 10, 114, 101, 99, 118, 32, 120, 44, 32, 97, 59, 10, 115, 101, 110, 100, 32, 98, 44, 32, 120, 32, 43, 32, 49, 59, 10, 114, 101, 116, 117, 114, 110, 32, 48, 59, 10, 125, 10, 102, 117, 110, 99, 32, 109, 97, 105, 110, 40, 41, 32, 123, 10, 108, 101, 116, 32, 97, 32, 61, 32, 109, 97, 107, 101, 40, 48, 41, 59, 10, 108, 101, 116, 32, 98, 32, 61, 32, 109, 97, 107, 101, 40, 48, 41, 59, 10, 108, 101, 116, 32, 99, 32, 61, 32, 109, 97, 107, 101, 40, 48, 41, 59, 10, 108, 101, 116, 32, 120, 32, 61, 32, 48, 59, 10, 103, 111, 32, 112, 97, 115, 115, 40, 97, 44, 32, 98, 41, 59, 10, 103, 111, 32, 112, 97, 115, 115, 40, 98, 44, 32, 99, 41, 59, 10, 115, 101, 110, 100, 32, 97, 44, 32, 53, 59, 10, 115, 101, 108, 101, 99, 116, 32, 123, 32, 99, 97, 115, 101, 32, 114, 101, 99, 118, 32, 120, 44, 32, 99, 32, 123, 32, 112, 114, 105, 110, 116, 32, 120, 59, 32, 125, 32, 125, 10, 112, 114, 105, 110, 116, 32, 57, 59, 10, 114, 101, 116, 117, 114, 110, 32, 48, 59, 10, 125, 10]⟩ : ByteArray)] := by kernel_rfl
theorem E_spec_l5Programs_calls (k : Nat) : CallsOk Try.prog (E_spec_l5Programs k) (arun Try.prog (E_spec_l5Programs k) k) := by
  refine told_run (tyTOk _ _) ?_ (fun run h => regOk (tyTOk _ _) mixOk h) ?_ nameOk k
  · intro g m hg
    cases hg
  · intro g _ r; rfl
theorem f71_okspec_l5Programs : Try.prog.funcs[71]? = some Try.f71 := by kernel_rfl
theorem spec_l5Programs_law (k : Nat)  (x : List ByteArray) (h : spec_l5Programs k  = some x) : LawV Try.prog 71 [] (tvn (.row .str) x) := by
  unfold spec_l5Programs at h
  exact law1 (t := (.row .str)) (tyTOk _ _) (E_spec_l5Programs_calls k) mixOk f71_okspec_l5Programs (nameOk _ _ f71_okspec_l5Programs) (by kernel_rfl) h
/-! spec.l1Byte -/
noncomputable def E_spec_l1Byte (k : Nat) : Env := ⟨ty, fun g => match g with
  | 72 => some noCon
  | _ => none, fun f r => match f with | 72 => (match r with | 999999 => some [1] | _ => none) | _ => none⟩
noncomputable def spec_l1Byte (k : Nat) (a1 : (List Int) × Int × Int × Unit) : Option (Int × ((List Int) × Int × Int × Unit)) :=
  abody (E_spec_l1Byte k) (arun Try.prog (E_spec_l1Byte k) k) k 72 Try.f72 [.ptr 0 0 0] [some ⟨.raw true 3 (.tv (.pair (.row (.int .u8)) (.pair (.int .i64) (.pair (.int .i64) .unit))) (Ty.dflt (.pair (.row (.int .u8)) (.pair (.int .i64) (.pair (.int .i64) .unit))))) [.tv (.pair (.row (.int .u8)) (.pair (.int .i64) (.pair (.int .i64) .unit))) a1], false⟩] (finMo (.int .i64) (.pair (.row (.int .u8)) (.pair (.int .i64) (.pair (.int .i64) .unit))))
theorem spec_l1Byte_e (k : Nat) (a1 : (List Int) × Int × Int × Unit) : spec_l1Byte k a1 =
  iteB (decide (a1.2.1 < ((List.length a1.1) : Int))) (iteB (decide (0 ≤ a1.2.1)) (iteB (decide (a1.2.1 < ((List.length a1.1) : Int))) (some (IntKind.wrap .i64 ((BitVec.ofInt (IntKind.bits .i64) (IntKind.wrap .i64 ((IntKind.wrap .i64 ((BitVec.ofInt (IntKind.bits .i64) (IntKind.wrap .i64 ((BitVec.ofInt (IntKind.bits .i64) (Int.fdiv (IntKind.wrap .i64 ((IntKind.wrap .i64 (a1.2.2.1 * 6364136223846793005)) + 1442695040888963407)) (2 ^ (min (Int.toNat 33) (IntKind.bits .i64)))) ^^^ BitVec.ofInt (IntKind.bits .i64) (Int.fdiv (IntKind.wrap .i64 ((IntKind.wrap .i64 (a1.2.2.1 * 6364136223846793005)) + 1442695040888963407)) (2 ^ (min (Int.toNat 45) (IntKind.bits .i64))))).toNat : Int)) &&& BitVec.ofInt (IntKind.bits .i64) 255).toNat : Int)) + (IntKind.wrap .i64 (List.getD a1.1 (Int.toNat a1.2.1) 0)))) &&& BitVec.ofInt (IntKind.bits .i64) 255).toNat : Int), (a1.1, IntKind.wrap .i64 (a1.2.1 + 1), IntKind.wrap .i64 ((IntKind.wrap .i64 (a1.2.2.1 * 6364136223846793005)) + 1442695040888963407), ()))) (none)) (none)) (some (IntKind.wrap .i64 ((BitVec.ofInt (IntKind.bits .i64) (IntKind.wrap .i64 ((BitVec.ofInt (IntKind.bits .i64) (Int.fdiv (IntKind.wrap .i64 ((IntKind.wrap .i64 (a1.2.2.1 * 6364136223846793005)) + 1442695040888963407)) (2 ^ (min (Int.toNat 33) (IntKind.bits .i64)))) ^^^ BitVec.ofInt (IntKind.bits .i64) (Int.fdiv (IntKind.wrap .i64 ((IntKind.wrap .i64 (a1.2.2.1 * 6364136223846793005)) + 1442695040888963407)) (2 ^ (min (Int.toNat 45) (IntKind.bits .i64))))).toNat : Int)) &&& BitVec.ofInt (IntKind.bits .i64) 255).toNat : Int), (a1.1, a1.2.1, IntKind.wrap .i64 ((IntKind.wrap .i64 (a1.2.2.1 * 6364136223846793005)) + 1442695040888963407), ()))) := by kernel_rfl
theorem E_spec_l1Byte_calls (k : Nat) : CallsOk Try.prog (E_spec_l1Byte k) (arun Try.prog (E_spec_l1Byte k) k) := by
  refine told_run (tyTOk _ _) ?_ (fun run h => regOk (tyTOk _ _) mixOk h) ?_ nameOk k
  · intro g m hg
    simp only [E_spec_l1Byte] at hg
    split at hg
    · cases hg; exact noCon_ok
    · cases hg
  · intro g hg r
    by_cases h : g = 72
    · subst h; simp [E_spec_l1Byte] at hg
    · simp [E_spec_l1Byte, h]
theorem f72_okspec_l1Byte : Try.prog.funcs[72]? = some Try.f72 := by kernel_rfl
theorem spec_l1Byte_law (k : Nat) (a1 : (List Int) × Int × Int × Unit) (x : (Int) × ((List Int) × Int × Int × Unit)) (h : spec_l1Byte k a1 = some x) : LawMo Try.prog 72 [] (.pair (.row (.int .u8)) (.pair (.int .i64) (.pair (.int .i64) .unit))) a1 (tvM (.int .i64) x.1) x.2 := by
  unfold spec_l1Byte at h
  exact lawMo (t := (.int .i64)) (T := (.pair (.row (.int .u8)) (.pair (.int .i64) (.pair (.int .i64) .unit)))) (tyTOk _ _) (E_spec_l1Byte_calls k) mixOk f72_okspec_l1Byte (nameOk _ _ f72_okspec_l1Byte) (by kernel_rfl) (Nat.lt_of_lt_of_eq Nat.zero_lt_one (by kernel_rfl : 1 = pinsOf (E_spec_l1Byte k) 72)) h
/-! spec.l1Below -/
noncomputable def E_spec_l1Below (k : Nat) : Env := ⟨ty, fun g => match g with
  | 72 => some (byMutO (.pair (.row (.int .u8)) (.pair (.int .i64) (.pair (.int .i64) .unit))) fun ρ l xs K => match l with
    | [] => (spec_l1Byte k xs ).bind fun r => K (tvM (.int .i64) r.1) r.2
    | _ => none)
  | 36 => some noCon
  | _ => none, fun f r => match f with | 36 => (match r with | 999999 => some [1] | _ => none) | _ => none⟩
noncomputable def spec_l1Below (k : Nat) (a1 : (List Int) × Int × Int × Unit) (a2 : Int) : Option (Int × ((List Int) × Int × Int × Unit)) :=
  abody (E_spec_l1Below k) (arun Try.prog (E_spec_l1Below k) k) k 36 Try.f36 [.ptr 0 0 0, .int .i64 a2] [some ⟨.raw true 3 (.tv (.pair (.row (.int .u8)) (.pair (.int .i64) (.pair (.int .i64) .unit))) (Ty.dflt (.pair (.row (.int .u8)) (.pair (.int .i64) (.pair (.int .i64) .unit))))) [.tv (.pair (.row (.int .u8)) (.pair (.int .i64) (.pair (.int .i64) .unit))) a1], false⟩] (finMo (.int .i64) (.pair (.row (.int .u8)) (.pair (.int .i64) (.pair (.int .i64) .unit))))
theorem spec_l1Below_e (k : Nat) (a1 : (List Int) × Int × Int × Unit) (a2 : Int) : spec_l1Below k a1 a2 =
  iteB (decide (a2 ≤ 0)) (some (0, a1)) (iteB (decide (a2 ≤ 256)) (bindO (spec_l1Byte k a1) fun r1 => (iteB (a2 == 0) (none) (some (Int.tmod r1.1 a2, r1.2)))) (bindO (spec_l1Byte k a1) fun r2 => (bindO (spec_l1Byte k r2.2) fun r3 => (bindO (spec_l1Byte k r3.2) fun r4 => (bindO (spec_l1Byte k r4.2) fun r5 => (iteB (a2 == 0) (none) (some (Int.tmod (IntKind.wrap .i64 ((IntKind.wrap .i64 ((IntKind.wrap .i64 ((IntKind.wrap .i64 (r2.1 * 16777216)) + (IntKind.wrap .i64 (r3.1 * 65536)))) + (IntKind.wrap .i64 (r4.1 * 256)))) + r5.1)) a2, r5.2)))))))) := by kernel_rfl
theorem E_spec_l1Below_calls (k : Nat) : CallsOk Try.prog (E_spec_l1Below k) (arun Try.prog (E_spec_l1Below k) k) := by
  refine told_run (tyTOk _ _) ?_ (fun run h => regOk (tyTOk _ _) mixOk h) ?_ nameOk k
  · intro g m hg
    simp only [E_spec_l1Below] at hg
    split at hg
    · cases hg
      refine con_byMutO fun ρ l xs K x hm => ?_
      split at hm
      · obtain ⟨r, hr, hm⟩ := Option.bind_eq_some_iff.1 hm
        exact ⟨_, _, hm, LawMo.reads .nil (spec_l1Byte_law k xs  r hr)⟩
      · cases hm
    · cases hg; exact noCon_ok
    · cases hg
  · intro g hg r
    by_cases h : g = 36
    · subst h; simp [E_spec_l1Below] at hg
    · simp [E_spec_l1Below, h]
theorem f36_okspec_l1Below : Try.prog.funcs[36]? = some Try.f36 := by kernel_rfl
theorem spec_l1Below_law (k : Nat) (a1 : (List Int) × Int × Int × Unit) (a2 : Int) (x : (Int) × ((List Int) × Int × Int × Unit)) (h : spec_l1Below k a1 a2 = some x) : LawMo Try.prog 36 [.int .i64 a2] (.pair (.row (.int .u8)) (.pair (.int .i64) (.pair (.int .i64) .unit))) a1 (tvM (.int .i64) x.1) x.2 := by
  unfold spec_l1Below at h
  exact lawMo (t := (.int .i64)) (T := (.pair (.row (.int .u8)) (.pair (.int .i64) (.pair (.int .i64) .unit)))) (tyTOk _ _) (E_spec_l1Below_calls k) mixOk f36_okspec_l1Below (nameOk _ _ f36_okspec_l1Below) (by kernel_rfl) (Nat.lt_of_lt_of_eq Nat.zero_lt_one (by kernel_rfl : 1 = pinsOf (E_spec_l1Below k) 36)) h
/-! spec.l1Pick -/
noncomputable def E_spec_l1Pick (k : Nat) : Env := ⟨ty, fun g => match g with
  | 36 => some (byMutO (.pair (.row (.int .u8)) (.pair (.int .i64) (.pair (.int .i64) .unit))) fun ρ l xs K => match l with
    | [b1] => (b1.as (.int .i64)).bind fun c1 => (spec_l1Below k xs c1).bind fun r => K (tvM (.int .i64) r.1) r.2
    | _ => none)
  | 39 => some noCon
  | _ => none, fun f r => match f with | 39 => (match r with | 999999 => some [1] | _ => none) | _ => none⟩
noncomputable def spec_l1Pick (k : Nat) (a1 : (List Int) × Int × Int × Unit) (a2 : List ByteArray) : Option (ByteArray × ((List Int) × Int × Int × Unit)) :=
  abody (E_spec_l1Pick k) (arun Try.prog (E_spec_l1Pick k) k) k 39 Try.f39 [.ptr 0 0 0, .tv (.row .str) a2] [some ⟨.raw true 3 (.tv (.pair (.row (.int .u8)) (.pair (.int .i64) (.pair (.int .i64) .unit))) (Ty.dflt (.pair (.row (.int .u8)) (.pair (.int .i64) (.pair (.int .i64) .unit))))) [.tv (.pair (.row (.int .u8)) (.pair (.int .i64) (.pair (.int .i64) .unit))) a1], false⟩] (finMo .str (.pair (.row (.int .u8)) (.pair (.int .i64) (.pair (.int .i64) .unit))))
theorem spec_l1Pick_e (k : Nat) (a1 : (List Int) × Int × Int × Unit) (a2 : List ByteArray) : spec_l1Pick k a1 a2 =
  bindO (spec_l1Below k a1 ((List.length a2) : Int)) fun r1 => (iteB (decide (0 ≤ r1.1)) (iteB (decide (r1.1 < ((List.length a2) : Int))) (some (List.getD a2 (Int.toNat r1.1) ByteArray.empty, r1.2)) (none)) (none)) := by kernel_rfl
theorem E_spec_l1Pick_calls (k : Nat) : CallsOk Try.prog (E_spec_l1Pick k) (arun Try.prog (E_spec_l1Pick k) k) := by
  refine told_run (tyTOk _ _) ?_ (fun run h => regOk (tyTOk _ _) mixOk h) ?_ nameOk k
  · intro g m hg
    simp only [E_spec_l1Pick] at hg
    split at hg
    · cases hg
      refine con_byMutO fun ρ l xs K x hm => ?_
      split at hm
      · obtain ⟨c1, h1, hm⟩ := Option.bind_eq_some_iff.1 hm
        obtain ⟨r, hr, hm⟩ := Option.bind_eq_some_iff.1 hm
        exact ⟨_, _, hm, LawMo.reads (.cons (.as h1) .nil) (spec_l1Below_law k xs c1 r hr)⟩
      · cases hm
    · cases hg; exact noCon_ok
    · cases hg
  · intro g hg r
    by_cases h : g = 39
    · subst h; simp [E_spec_l1Pick] at hg
    · simp [E_spec_l1Pick, h]
theorem f39_okspec_l1Pick : Try.prog.funcs[39]? = some Try.f39 := by kernel_rfl
theorem spec_l1Pick_law (k : Nat) (a1 : (List Int) × Int × Int × Unit) (a2 : List ByteArray) (x : (ByteArray) × ((List Int) × Int × Int × Unit)) (h : spec_l1Pick k a1 a2 = some x) : LawMo Try.prog 39 [.tv (.row .str) a2] (.pair (.row (.int .u8)) (.pair (.int .i64) (.pair (.int .i64) .unit))) a1 (tvM .str x.1) x.2 := by
  unfold spec_l1Pick at h
  exact lawMo (t := .str) (T := (.pair (.row (.int .u8)) (.pair (.int .i64) (.pair (.int .i64) .unit)))) (tyTOk _ _) (E_spec_l1Pick_calls k) mixOk f39_okspec_l1Pick (nameOk _ _ f39_okspec_l1Pick) (by kernel_rfl) (Nat.lt_of_lt_of_eq Nat.zero_lt_one (by kernel_rfl : 1 = pinsOf (E_spec_l1Pick k) 39)) h
/-! spec.l5DrawSource -/
noncomputable def E_spec_l5DrawSource (k : Nat) : Env := ⟨ty, fun g => match g with
  | 71 => some (byVal fun ρ l K => match l with
    | [] => (spec_l5Programs k ).bind fun r => K (tvn (.row .str) r)
    | _ => none)
  | 39 => some (byMutO (.pair (.row (.int .u8)) (.pair (.int .i64) (.pair (.int .i64) .unit))) fun ρ l xs K => match l with
    | [b1] => (b1.as (.row .str)).bind fun c1 => (spec_l1Pick k xs c1).bind fun r => K (tvM .str r.1) r.2
    | _ => none)
  | 34 => some noCon
  | _ => none, fun f r => match f with | 34 => (match r with | 999999 => some [1] | _ => none) | _ => none⟩
noncomputable def spec_l5DrawSource (k : Nat) (a1 : (List Int) × Int × Int × Unit) : Option (ByteArray × ((List Int) × Int × Int × Unit)) :=
  abody (E_spec_l5DrawSource k) (arun Try.prog (E_spec_l5DrawSource k) k) k 34 Try.f34 [.ptr 0 0 0] [some ⟨.raw true 3 (.tv (.pair (.row (.int .u8)) (.pair (.int .i64) (.pair (.int .i64) .unit))) (Ty.dflt (.pair (.row (.int .u8)) (.pair (.int .i64) (.pair (.int .i64) .unit))))) [.tv (.pair (.row (.int .u8)) (.pair (.int .i64) (.pair (.int .i64) .unit))) a1], false⟩] (finMo .str (.pair (.row (.int .u8)) (.pair (.int .i64) (.pair (.int .i64) .unit))))
theorem spec_l5DrawSource_e (k : Nat) (a1 : (List Int) × Int × Int × Unit) : spec_l5DrawSource k a1 =
  bindO (spec_l5Programs k ) fun r1 => (bindO (spec_l1Pick k a1 r1) fun r2 => (some (r2.1, r2.2))) := by kernel_rfl
theorem E_spec_l5DrawSource_calls (k : Nat) : CallsOk Try.prog (E_spec_l5DrawSource k) (arun Try.prog (E_spec_l5DrawSource k) k) := by
  refine told_run (tyTOk _ _) ?_ (fun run h => regOk (tyTOk _ _) mixOk h) ?_ nameOk k
  · intro g m hg
    simp only [E_spec_l5DrawSource] at hg
    split at hg
    · cases hg
      refine con_byVal fun ρ l K x hm => ?_
      split at hm
      · obtain ⟨r, hr, hm⟩ := Option.bind_eq_some_iff.1 hm
        exact ⟨_, hm, LawV.reads .nil (spec_l5Programs_law k  r hr)⟩
      · cases hm
    · cases hg
      refine con_byMutO fun ρ l xs K x hm => ?_
      split at hm
      · obtain ⟨c1, h1, hm⟩ := Option.bind_eq_some_iff.1 hm
        obtain ⟨r, hr, hm⟩ := Option.bind_eq_some_iff.1 hm
        exact ⟨_, _, hm, LawMo.reads (.cons (.as h1) .nil) (spec_l1Pick_law k xs c1 r hr)⟩
      · cases hm
    · cases hg; exact noCon_ok
    · cases hg
  · intro g hg r
    by_cases h : g = 34
    · subst h; simp [E_spec_l5DrawSource] at hg
    · simp [E_spec_l5DrawSource, h]
theorem f34_okspec_l5DrawSource : Try.prog.funcs[34]? = some Try.f34 := by kernel_rfl
theorem spec_l5DrawSource_law (k : Nat) (a1 : (List Int) × Int × Int × Unit) (x : (ByteArray) × ((List Int) × Int × Int × Unit)) (h : spec_l5DrawSource k a1 = some x) : LawMo Try.prog 34 [] (.pair (.row (.int .u8)) (.pair (.int .i64) (.pair (.int .i64) .unit))) a1 (tvM .str x.1) x.2 := by
  unfold spec_l5DrawSource at h
  exact lawMo (t := .str) (T := (.pair (.row (.int .u8)) (.pair (.int .i64) (.pair (.int .i64) .unit)))) (tyTOk _ _) (E_spec_l5DrawSource_calls k) mixOk f34_okspec_l5DrawSource (nameOk _ _ f34_okspec_l5DrawSource) (by kernel_rfl) (Nat.lt_of_lt_of_eq Nat.zero_lt_one (by kernel_rfl : 1 = pinsOf (E_spec_l5DrawSource k) 34)) h
/-! spec.l1Pick -/
noncomputable def E_spec_l1Pick_b (k : Nat) : Env := ⟨ty, fun g => match g with
  | 36 => some (byMutO (.pair (.row (.int .u8)) (.pair (.int .i64) (.pair (.int .i64) .unit))) fun ρ l xs K => match l with
    | [b1] => (b1.as (.int .i64)).bind fun c1 => (spec_l1Below k xs c1).bind fun r => K (tvM (.int .i64) r.1) r.2
    | _ => none)
  | 39 => some noCon
  | _ => none, fun f r => match f with | 39 => (match r with | 999999 => some [2] | _ => none) | _ => none⟩
noncomputable def spec_l1Pick_b (k : Nat) (a1 : (List Int) × Int × Int × Unit) (a2 : List ByteArray) : Option (ByteArray × ((List Int) × Int × Int × Unit) × (List ByteArray)) :=
  abody (E_spec_l1Pick_b k) (arun Try.prog (E_spec_l1Pick_b k) k) k 39 Try.f39 [.ptr 0 0 0, .sl 1] [some ⟨.raw true 3 (.tv (.pair (.row (.int .u8)) (.pair (.int .i64) (.pair (.int .i64) .unit))) (Ty.dflt (.pair (.row (.int .u8)) (.pair (.int .i64) (.pair (.int .i64) .unit))))) [.tv (.pair (.row (.int .u8)) (.pair (.int .i64) (.pair (.int .i64) .unit))) a1], false⟩, some ⟨.typed .str a2, false⟩] (finMr .str (.pair (.row (.int .u8)) (.pair (.int .i64) (.pair (.int .i64) .unit))) .str)
theorem spec_l1Pick_b_e (k : Nat) (a1 : (List Int) × Int × Int × Unit) (a2 : List ByteArray) : spec_l1Pick_b k a1 a2 =
  bindO (spec_l1Below k a1 ((List.length a2) : Int)) fun r1 => (iteB (decide (0 ≤ r1.1)) (iteB (decide (r1.1 < ((List.length a2) : Int))) (some (List.getD a2 (Int.toNat r1.1) ByteArray.empty, r1.2, a2)) (none)) (none)) := by kernel_rfl
theorem E_spec_l1Pick_b_calls (k : Nat) : CallsOk Try.prog (E_spec_l1Pick_b k) (arun Try.prog (E_spec_l1Pick_b k) k) := by
  refine told_run (tyTOk _ _) ?_ (fun run h => regOk (tyTOk _ _) mixOk h) ?_ nameOk k
  · intro g m hg
    simp only [E_spec_l1Pick_b] at hg
    split at hg
    · cases hg
      refine con_byMutO fun ρ l xs K x hm => ?_
      split at hm
      · obtain ⟨c1, h1, hm⟩ := Option.bind_eq_some_iff.1 hm
        obtain ⟨r, hr, hm⟩ := Option.bind_eq_some_iff.1 hm
        exact ⟨_, _, hm, LawMo.reads (.cons (.as h1) .nil) (spec_l1Below_law k xs c1 r hr)⟩
      · cases hm
    · cases hg; exact noCon_ok
    · cases hg
  · intro g hg r
    by_cases h : g = 39
    · subst h; simp [E_spec_l1Pick_b] at hg
    · simp [E_spec_l1Pick_b, h]
theorem f39_okspec_l1Pick_b : Try.prog.funcs[39]? = some Try.f39 := by kernel_rfl
theorem spec_l1Pick_b_law (k : Nat) (a1 : (List Int) × Int × Int × Unit) (a2 : List ByteArray) (x : (ByteArray) × ((List Int) × Int × Int × Unit) × (List (ByteArray))) (h : spec_l1Pick_b k a1 a2 = some x) : LawMr Try.prog 39 [] (.pair (.row (.int .u8)) (.pair (.int .i64) (.pair (.int .i64) .unit))) a1 .str a2 (tvM .str x.1) x.2.1 x.2.2 := by
  unfold spec_l1Pick_b at h
  exact lawMr (t := .str) (T := (.pair (.row (.int .u8)) (.pair (.int .i64) (.pair (.int .i64) .unit)))) (e := .str) (tyTOk _ _) (E_spec_l1Pick_b_calls k) mixOk f39_okspec_l1Pick_b (nameOk _ _ f39_okspec_l1Pick_b) (by kernel_rfl) (Nat.lt_of_lt_of_eq Nat.one_lt_two (by kernel_rfl : 2 = pinsOf (E_spec_l1Pick_b k) 39)) (fun _ => rfl) h
/-! spec.l5Dent -/
noncomputable def E_spec_l5Dent (k : Nat) : Env := ⟨ty, fun g => match g with
  | 36 => some (byMutO (.pair (.row (.int .u8)) (.pair (.int .i64) (.pair (.int .i64) .unit))) fun ρ l xs K => match l with
    | [b1] => (b1.as (.int .i64)).bind fun c1 => (spec_l1Below k xs c1).bind fun r => K (tvM (.int .i64) r.1) r.2
    | _ => none)
  | 39 => some (byMutR (.pair (.row (.int .u8)) (.pair (.int .i64) (.pair (.int .i64) .unit))) .str fun ρ l xs ys K => match l with
    | [] => (spec_l1Pick_b k xs ys ).bind fun r => K (tvM .str r.1) r.2.1 r.2.2
    | _ => none)
  | 33 => some noCon
  | _ => none, fun f r => match f with | 33 => (match r with | 999999 => some [1] | _ => none) | _ => none⟩
noncomputable def spec_l5Dent (k : Nat) (a1 : (List Int) × Int × Int × Unit) (a2 : ByteArray) : Option (ByteArray × ((List Int) × Int × Int × Unit)) :=
  abody (E_spec_l5Dent k) (arun Try.prog (E_spec_l5Dent k) k) k 33 Try.f33 [.ptr 0 0 0, .str a2] [some ⟨.raw true 3 (.tv (.pair (.row (.int .u8)) (.pair (.int .i64) (.pair (.int .i64) .unit))) (Ty.dflt (.pair (.row (.int .u8)) (.pair (.int .i64) (.pair (.int .i64) .unit))))) [.tv (.pair (.row (.int .u8)) (.pair (.int .i64) (.pair (.int .i64) .unit))) a1], false⟩] (finMo .str (.pair (.row (.int .u8)) (.pair (.int .i64) (.pair (.int .i64) .unit))))
theorem spec_l5Dent_e (k : Nat) (a1 : (List Int) × Int × Int × Unit) (a2 : ByteArray) : spec_l5Dent k a1 a2 =
  bindO (spec_l1Below k a1 (IntKind.wrap .i64 ((ByteArray.size a2 : Int) + 1))) fun r1 => (bindO (spec_l1Below k r1.2 6) fun r2 => (iteB (r2.1 == 0) (iteB (decide (0 ≤ r1.1)) (iteB (decide (r1.1 ≤ (ByteArray.size a2 : Int))) (some (ByteArray.extract a2 0 (Int.toNat r1.1), r2.2)) (none)) (none)) (iteB (r2.1 == 1) (iteB (decide (0 ≤ r1.1)) (iteB (decide (r1.1 ≤ (ByteArray.size a2 : Int))) (bindO (spec_l1Pick_b k r2.2 [(⟨#[32]⟩ : ByteArray), (⟨#[59]⟩ : ByteArray), (⟨#[40]⟩ : ByteArray), (⟨#[125]⟩ : ByteArray), (⟨#[123]⟩ : ByteArray), (⟨#[48]⟩ : ByteArray), (⟨#[120]⟩ : ByteArray), (⟨#[35]⟩ : ByteArray), (⟨#[61]⟩ : ByteArray), (⟨#[108, 101, 116, 32]⟩ : ByteArray), (⟨#[44]⟩ : ByteArray), (⟨#[45]⟩ : ByteArray), (⟨#[99, 104, 97, 110, 32]⟩ : ByteArray), (⟨#[1]⟩ : ByteArray)]) fun r3 => (iteB (decide (ByteArray.size (ByteArray.extract a2 0 (Int.toNat r1.1)) + ByteArray.size r3.1 ≤ 9223372036854775807)) (iteB (decide (0 ≤ r1.1)) (iteB (decide (r1.1 ≤ (ByteArray.size a2 : Int))) (iteB (decide (ByteArray.size ((ByteArray.extract a2 0 (Int.toNat r1.1)) ++ r3.1) + ByteArray.size (ByteArray.extract a2 (Int.toNat r1.1) (ByteArray.size a2)) ≤ 9223372036854775807)) (some (((ByteArray.extract a2 0 (Int.toNat r1.1)) ++ r3.1) ++ (ByteArray.extract a2 (Int.toNat r1.1) (ByteArray.size a2)), r3.2.1)) (none)) (none)) (none)) (none))) (none)) (none)) (some (a2, r2.2))))) := by kernel_rfl
theorem E_spec_l5Dent_calls (k : Nat) : CallsOk Try.prog (E_spec_l5Dent k) (arun Try.prog (E_spec_l5Dent k) k) := by
  refine told_run (tyTOk _ _) ?_ (fun run h => regOk (tyTOk _ _) mixOk h) ?_ nameOk k
  · intro g m hg
    simp only [E_spec_l5Dent] at hg
    split at hg
    · cases hg
      refine con_byMutO fun ρ l xs K x hm => ?_
      split at hm
      · obtain ⟨c1, h1, hm⟩ := Option.bind_eq_some_iff.1 hm
        obtain ⟨r, hr, hm⟩ := Option.bind_eq_some_iff.1 hm
        exact ⟨_, _, hm, LawMo.reads (.cons (.as h1) .nil) (spec_l1Below_law k xs c1 r hr)⟩
      · cases hm
    · cases hg
      refine con_byMutR fun ρ l xs ys K x hm => ?_
      split at hm
      · obtain ⟨r, hr, hm⟩ := Option.bind_eq_some_iff.1 hm
        exact ⟨_, _, _, hm, LawMr.reads .nil (spec_l1Pick_b_law k xs ys  r hr)⟩
      · cases hm
    · cases hg; exact noCon_ok
    · cases hg
  · intro g hg r
    by_cases h : g = 33
    · subst h; simp [E_spec_l5Dent] at hg
    · simp [E_spec_l5Dent, h]
theorem f33_okspec_l5Dent : Try.prog.funcs[33]? = some Try.f33 := by kernel_rfl
theorem spec_l5Dent_law (k : Nat) (a1 : (List Int) × Int × Int × Unit) (a2 : ByteArray) (x : (ByteArray) × ((List Int) × Int × Int × Unit)) (h : spec_l5Dent k a1 a2 = some x) : LawMo Try.prog 33 [.str a2] (.pair (.row (.int .u8)) (.pair (.int .i64) (.pair (.int .i64) .unit))) a1 (tvM .str x.1) x.2 := by
  unfold spec_l5Dent at h
  exact lawMo (t := .str) (T := (.pair (.row (.int .u8)) (.pair (.int .i64) (.pair (.int .i64) .unit)))) (tyTOk _ _) (E_spec_l5Dent_calls k) mixOk f33_okspec_l5Dent (nameOk _ _ f33_okspec_l5Dent) (by kernel_rfl) (Nat.lt_of_lt_of_eq Nat.zero_lt_one (by kernel_rfl : 1 = pinsOf (E_spec_l5Dent k) 33)) h
/-! spec.l1Once -/
noncomputable def E_spec_l1Once (k : Nat) : Env := ⟨ty, fun g => match g with
  | 36 => some (byMutO (.pair (.row (.int .u8)) (.pair (.int .i64) (.pair (.int .i64) .unit))) fun ρ l xs K => match l with
    | [b1] => (b1.as (.int .i64)).bind fun c1 => (spec_l1Below k xs c1).bind fun r => K (tvM (.int .i64) r.1) r.2
    | _ => none)
  | 35 => some noCon
  | _ => none, fun f r => match f with | 35 => (match r with | 999999 => some [1] | _ => none) | _ => none⟩
noncomputable def spec_l1Once (k : Nat) (a1 : (List Int) × Int × Int × Unit) (a2 : Int) : Option (Bool × ((List Int) × Int × Int × Unit)) :=
  abody (E_spec_l1Once k) (arun Try.prog (E_spec_l1Once k) k) k 35 Try.f35 [.ptr 0 0 0, .int .i64 a2] [some ⟨.raw true 3 (.tv (.pair (.row (.int .u8)) (.pair (.int .i64) (.pair (.int .i64) .unit))) (Ty.dflt (.pair (.row (.int .u8)) (.pair (.int .i64) (.pair (.int .i64) .unit))))) [.tv (.pair (.row (.int .u8)) (.pair (.int .i64) (.pair (.int .i64) .unit))) a1], false⟩] (finMo .bool (.pair (.row (.int .u8)) (.pair (.int .i64) (.pair (.int .i64) .unit))))
theorem spec_l1Once_e (k : Nat) (a1 : (List Int) × Int × Int × Unit) (a2 : Int) : spec_l1Once k a1 a2 =
  bindO (spec_l1Below k a1 a2) fun r1 => (some ((r1.1 == 0), r1.2)) := by kernel_rfl
theorem E_spec_l1Once_calls (k : Nat) : CallsOk Try.prog (E_spec_l1Once k) (arun Try.prog (E_spec_l1Once k) k) := by
  refine told_run (tyTOk _ _) ?_ (fun run h => regOk (tyTOk _ _) mixOk h) ?_ nameOk k
  · intro g m hg
    simp only [E_spec_l1Once] at hg
    split at hg
    · cases hg
      refine con_byMutO fun ρ l xs K x hm => ?_
      split at hm
      · obtain ⟨c1, h1, hm⟩ := Option.bind_eq_some_iff.1 hm
        obtain ⟨r, hr, hm⟩ := Option.bind_eq_some_iff.1 hm
        exact ⟨_, _, hm, LawMo.reads (.cons (.as h1) .nil) (spec_l1Below_law k xs c1 r hr)⟩
      · cases hm
    · cases hg; exact noCon_ok
    · cases hg
  · intro g hg r
    by_cases h : g = 35
    · subst h; simp [E_spec_l1Once] at hg
    · simp [E_spec_l1Once, h]
theorem f35_okspec_l1Once : Try.prog.funcs[35]? = some Try.f35 := by kernel_rfl
theorem spec_l1Once_law (k : Nat) (a1 : (List Int) × Int × Int × Unit) (a2 : Int) (x : (Bool) × ((List Int) × Int × Int × Unit)) (h : spec_l1Once k a1 a2 = some x) : LawMo Try.prog 35 [.int .i64 a2] (.pair (.row (.int .u8)) (.pair (.int .i64) (.pair (.int .i64) .unit))) a1 (tvM .bool x.1) x.2 := by
  unfold spec_l1Once at h
  exact lawMo (t := .bool) (T := (.pair (.row (.int .u8)) (.pair (.int .i64) (.pair (.int .i64) .unit)))) (tyTOk _ _) (E_spec_l1Once_calls k) mixOk f35_okspec_l1Once (nameOk _ _ f35_okspec_l1Once) (by kernel_rfl) (Nat.lt_of_lt_of_eq Nat.zero_lt_one (by kernel_rfl : 1 = pinsOf (E_spec_l1Once k) 35)) h
/-! spec.DrawTokens -/
noncomputable def E_spec_DrawTokens (k : Nat) : Env := ⟨ty, fun g => match g with
  | 32 => some (byFreshO (.pair (.row (.int .u8)) (.pair (.int .i64) (.pair (.int .i64) .unit))) fun ρ l K => match l with
    | [b1] => (b1.as (.row (.int .u8))).bind fun c1 => (spec_l1New k c1).bind fun r => K r
    | _ => none)
  | 34 => some (byMutO (.pair (.row (.int .u8)) (.pair (.int .i64) (.pair (.int .i64) .unit))) fun ρ l xs K => match l with
    | [] => (spec_l5DrawSource k xs ).bind fun r => K (tvM .str r.1) r.2
    | _ => none)
  | 33 => some (byMutO (.pair (.row (.int .u8)) (.pair (.int .i64) (.pair (.int .i64) .unit))) fun ρ l xs K => match l with
    | [b1] => (b1.as .str).bind fun c1 => (spec_l5Dent k xs c1).bind fun r => K (tvM .str r.1) r.2
    | _ => none)
  | 35 => some (byMutO (.pair (.row (.int .u8)) (.pair (.int .i64) (.pair (.int .i64) .unit))) fun ρ l xs K => match l with
    | [b1] => (b1.as (.int .i64)).bind fun c1 => (spec_l1Once k xs c1).bind fun r => K (tvM .bool r.1) r.2
    | _ => none)
  | 36 => some (byMutO (.pair (.row (.int .u8)) (.pair (.int .i64) (.pair (.int .i64) .unit))) fun ρ l xs K => match l with
    | [b1] => (b1.as (.int .i64)).bind fun c1 => (spec_l1Below k xs c1).bind fun r => K (tvM (.int .i64) r.1) r.2
    | _ => none)
  | 7 => some noCon
  | _ => none, fun f r => match f with | 7 => (match r with | 4 => some [3, 4] | _ => none) | _ => none⟩
noncomputable def spec_DrawTokens (k : Nat) (a1 : List Int) : Option (ByteArray) :=
  abody (E_spec_DrawTokens k) (arun Try.prog (E_spec_DrawTokens k) k) k 7 Try.f7 [.tv (.row (.int .u8)) a1] [] (fin1 .str)
noncomputable def spec_DrawTokens.l4 (k n : Nat) (x4 : ByteArray) (y0_0 : (List Int) × Int × Int × Unit) : Option (ByteArray) :=
  resume (E_spec_DrawTokens k) 7 (acall (E_spec_DrawTokens k) (arun Try.prog (E_spec_DrawTokens k) k)) k [true, true, true, false, true, false, true] [n] (bodyOf Try.f7) ⟨[.undef, .undef, .undef, .ptr 0 0 0, .str x4, .undef, .undef, .undef, .undef, .undef, .undef, .undef, .undef, .undef, .undef, .undef, .undef, .undef, .undef, .undef, .undef, .undef], [some ⟨.raw true 3 (.tv (.pair (.row (.int .u8)) (.pair (.int .i64) (.pair (.int .i64) .unit))) (Ty.dflt (.pair (.row (.int .u8)) (.pair (.int .i64) (.pair (.int .i64) .unit))))) [.tv (.pair (.row (.int .u8)) (.pair (.int .i64) (.pair (.int .i64) .unit))) y0_0], false⟩]⟩ (leave (E_spec_DrawTokens k) Try.f7 (fin1 .str))
theorem spec_DrawTokens.l4_0 (k : Nat) (x4 : ByteArray) (y0_0 : (List Int) × Int × Int × Unit) : spec_DrawTokens.l4 k 0 x4 y0_0 = none := by kernel_rfl
theorem spec_DrawTokens.l4_s (k n : Nat) (x4 : ByteArray) (y0_0 : (List Int) × Int × Int × Unit) : spec_DrawTokens.l4 k (n + 1) x4 y0_0 =
  bindO (spec_l1Below k y0_0 2) fun r5 => (iteB (decide ((ByteArray.size x4 : Int) < IntKind.wrap .i64 (6000 + r5.1))) (iteB (decide (ByteArray.size x4 + ByteArray.size (⟨#[32]⟩ : ByteArray) ≤ 9223372036854775807)) (spec_DrawTokens.l4 k n (x4 ++ (⟨#[32]⟩ : ByteArray)) r5.2) (none)) (some x4)) := by kernel_rfl
theorem spec_DrawTokens_e (k : Nat) (a1 : List Int) : spec_DrawTokens k a1 =
  bindO (spec_l1New k a1) fun r1 => (bindO (spec_l5DrawSource k r1) fun r2 => (bindO (spec_l5Dent k r2.2 r2.1) fun r3 => (bindO (spec_l1Once k r3.2 40) fun r4 => (iteB r4.1 (spec_DrawTokens.l4 k k r3.1 r4.2) (some r3.1))))) := by kernel_rfl
theorem E_spec_DrawTokens_calls (k : Nat) : CallsOk Try.prog (E_spec_DrawTokens k) (arun Try.prog (E_spec_DrawTokens k) k) := by
  refine told_run (tyTOk _ _) ?_ (fun run h => regOk (tyTOk _ _) mixOk h) ?_ nameOk k
  · intro g m hg
    simp only [E_spec_DrawTokens] at hg
    split at hg
    · cases hg
      refine con_byFreshO fun ρ l K x hm => ?_
      split at hm
      · obtain ⟨c1, h1, hm⟩ := Option.bind_eq_some_iff.1 hm
        obtain ⟨r, hr, hm⟩ := Option.bind_eq_some_iff.1 hm
        exact ⟨_, hm, LawFo.reads (.cons (.as h1) .nil) (spec_l1New_law k c1 r hr)⟩
      · cases hm
    · cases hg
      refine con_byMutO fun ρ l xs K x hm => ?_
      split at hm
      · obtain ⟨r, hr, hm⟩ := Option.bind_eq_some_iff.1 hm
        exact ⟨_, _, hm, LawMo.reads .nil (spec_l5DrawSource_law k xs  r hr)⟩
      · cases hm
    · cases hg
      refine con_byMutO fun ρ l xs K x hm => ?_
      split at hm
      · obtain ⟨c1, h1, hm⟩ := Option.bind_eq_some_iff.1 hm
        obtain ⟨r, hr, hm⟩ := Option.bind_eq_some_iff.1 hm
        exact ⟨_, _, hm, LawMo.reads (.cons (.as h1) .nil) (spec_l5Dent_law k xs c1 r hr)⟩
      · cases hm
    · cases hg
      refine con_byMutO fun ρ l xs K x hm => ?_
      split at hm
      · obtain ⟨c1, h1, hm⟩ := Option.bind_eq_some_iff.1 hm
        obtain ⟨r, hr, hm⟩ := Option.bind_eq_some_iff.1 hm
        exact ⟨_, _, hm, LawMo.reads (.cons (.as h1) .nil) (spec_l1Once_law k xs c1 r hr)⟩
      · cases hm
    · cases hg
      refine con_byMutO fun ρ l xs K x hm => ?_
      split at hm
      · obtain ⟨c1, h1, hm⟩ := Option.bind_eq_some_iff.1 hm
        obtain ⟨r, hr, hm⟩ := Option.bind_eq_some_iff.1 hm
        exact ⟨_, _, hm, LawMo.reads (.cons (.as h1) .nil) (spec_l1Below_law k xs c1 r hr)⟩
      · cases hm
    · cases hg; exact noCon_ok
    · cases hg
  · intro g hg r
    by_cases h : g = 7
    · subst h; simp [E_spec_DrawTokens] at hg
    · simp [E_spec_DrawTokens, h]
theorem f7_okspec_DrawTokens : Try.prog.funcs[7]? = some Try.f7 := by kernel_rfl
theorem spec_DrawTokens_law (k : Nat) (a1 : List Int) (x : ByteArray) (h : spec_DrawTokens k a1 = some x) : LawV Try.prog 7 [.tv (.row (.int .u8)) a1] (tvn .str x) := by
  unfold spec_DrawTokens at h
  exact law1 (t := .str) (tyTOk _ _) (E_spec_DrawTokens_calls k) mixOk f7_okspec_DrawTokens (nameOk _ _ f7_okspec_DrawTokens) (by kernel_rfl) h
/-! impl.isLetter -/
noncomputable def E_impl_isLetter (k : Nat) : Env := ⟨ty, fun _ => none, fun _ _ => none⟩
noncomputable def impl_isLetter (k : Nat) (a1 : Int) : Option (Bool) :=
  abody (E_impl_isLetter k) (arun Try.prog (E_impl_isLetter k) k) k 73 Try.f73 [.int .u8 a1] [] (fin1 .bool)
theorem impl_isLetter_e (k : Nat) (a1 : Int) : impl_isLetter k a1 =
  iteB (decide (a1 ≥ 97)) (iteB (!(decide (a1 ≤ 122))) (iteB (decide (a1 ≥ 65)) (some (decide (a1 ≤ 90))) (some false)) (some true)) (iteB (decide (a1 ≥ 65)) (some (decide (a1 ≤ 90))) (some false)) := by kernel_rfl
theorem E_impl_isLetter_calls (k : Nat) : CallsOk Try.prog (E_impl_isLetter k) (arun Try.prog (E_impl_isLetter k) k) := by
  refine told_run (tyTOk _ _) ?_ (fun run h => regOk (tyTOk _ _) mixOk h) ?_ nameOk k
  · intro g m hg
    cases hg
  · intro g _ r; rfl
theorem f73_okimpl_isLetter : Try.prog.funcs[73]? = some Try.f73 := by kernel_rfl
theorem impl_isLetter_law (k : Nat) (a1 : Int) (x : Bool) (h : impl_isLetter k a1 = some x) : LawV Try.prog 73 [.int .u8 a1] (tvn .bool x) := by
  unfold impl_isLetter at h
  exact law1 (t := .bool) (tyTOk _ _) (E_impl_isLetter_calls k) mixOk f73_okimpl_isLetter (nameOk _ _ f73_okimpl_isLetter) (by kernel_rfl) h
/-! impl.run -/
noncomputable def E_impl_run__impl_isLetter (k : Nat) : Env := ⟨ty, fun g => match g with
  | 73 => some (byVal fun ρ l K => match l with
    | [b1] => (b1.as (.int .u8)).bind fun c1 => (impl_isLetter k c1).bind fun r => K (tvn .bool r)
    | _ => none)
  | 74 => some noCon
  | _ => none, fun f r => match f with | 74 => (match r with | 2 => some [0, 1, 2, 7] | _ => none) | _ => none⟩
noncomputable def impl_run__impl_isLetter (k : Nat) (a1 : ByteArray) (a2 : Int) : Option (Int) :=
  abody (E_impl_run__impl_isLetter k) (arun Try.prog (E_impl_run__impl_isLetter k) k) k 74 Try.f74 [.str a1, .int .i64 a2, .fn 73 []] [] (fin1 (.int .i64))
noncomputable def impl_run__impl_isLetter.l2 (k n : Nat) (x0 : ByteArray) (x1 : Int) (x7 : Int) : Option (Int) :=
  resume (E_impl_run__impl_isLetter k) 74 (acall (E_impl_run__impl_isLetter k) (arun Try.prog (E_impl_run__impl_isLetter k) k)) k [true, true, false, true] [n] (bodyOf Try.f74) ⟨[.str x0, .int .i64 x1, .fn 73 [], .undef, .undef, .undef, .undef, .int .i64 x7, .undef, .undef, .undef, .undef, .undef, .undef, .undef, .undef, .undef, .undef, .undef, .undef, .undef, .undef, .undef, .undef, .undef, .undef], []⟩ (leave (E_impl_run__impl_isLetter k) Try.f74 (fin1 (.int .i64)))
theorem impl_run__impl_isLetter.l2_0 (k : Nat) (x0 : ByteArray) (x1 : Int) (x7 : Int) : impl_run__impl_isLetter.l2 k 0 x0 x1 x7 = none := by kernel_rfl
theorem impl_run__impl_isLetter.l2_s (k n : Nat) (x0 : ByteArray) (x1 : Int) (x7 : Int) : impl_run__impl_isLetter.l2 k (n + 1) x0 x1 x7 =
  iteB (decide (IntKind.wrap .i64 (x1 + x7) < (ByteArray.size x0 : Int))) (iteB (decide (0 ≤ IntKind.wrap .i64 (x1 + x7))) (iteB (decide (IntKind.wrap .i64 (x1 + x7) < (ByteArray.size x0 : Int))) (bindO (impl_isLetter k (byteAt x0 (Int.toNat (IntKind.wrap .i64 (x1 + x7))))) fun r1 => (iteB r1 (impl_run__impl_isLetter.l2 k n x0 x1 (IntKind.wrap .i64 (x7 + 1))) (some x7))) (none)) (none)) (some x7) := by kernel_rfl
theorem impl_run__impl_isLetter_e (k : Nat) (a1 : ByteArray) (a2 : Int) : impl_run__impl_isLetter k a1 a2 =
  impl_run__impl_isLetter.l2 k k a1 a2 0 := by kernel_rfl
theorem E_impl_run__impl_isLetter_calls (k : Nat) : CallsOk Try.prog (E_impl_run__impl_isLetter k) (arun Try.prog (E_impl_run__impl_isLetter k) k) := by
  refine told_run (tyTOk _ _) ?_ (fun run h => regOk (tyTOk _ _) mixOk h) ?_ nameOk k
  · intro g m hg
    simp only [E_impl_run__impl_isLetter] at hg
    split at hg
    · cases hg
      refine con_byVal fun ρ l K x hm => ?_
      split at hm
      · obtain ⟨c1, h1, hm⟩ := Option.bind_eq_some_iff.1 hm
        obtain ⟨r, hr, hm⟩ := Option.bind_eq_some_iff.1 hm
        exact ⟨_, hm, LawV.reads (.cons (.as h1) .nil) (impl_isLetter_law k c1 r hr)⟩
      · cases hm
    · cases hg; exact noCon_ok
    · cases hg
  · intro g hg r
    by_cases h : g = 74
    · subst h; simp [E_impl_run__impl_isLetter] at hg
    · simp [E_impl_run__impl_isLetter, h]
theorem f74_okimpl_run__impl_isLetter : Try.prog.funcs[74]? = some Try.f74 := by kernel_rfl
theorem impl_run__impl_isLetter_law (k : Nat) (a1 : ByteArray) (a2 : Int) (x : Int) (h : impl_run__impl_isLetter k a1 a2 = some x) : LawV Try.prog 74 [.str a1, .int .i64 a2, .fn 73 []] (tvn (.int .i64) x) := by
  unfold impl_run__impl_isLetter at h
  exact law1 (t := (.int .i64)) (tyTOk _ _) (E_impl_run__impl_isLetter_calls k) mixOk f74_okimpl_run__impl_isLetter (nameOk _ _ f74_okimpl_run__impl_isLetter) (by kernel_rfl) h
/-! impl.isDigit -/
noncomputable def E_impl_isDigit (k : Nat) : Env := ⟨ty, fun _ => none, fun _ _ => none⟩
noncomputable def impl_isDigit (k : Nat) (a1 : Int) : Option (Bool) :=
  abody (E_impl_isDigit k) (arun Try.prog (E_impl_isDigit k) k) k 75 Try.f75 [.int .u8 a1] [] (fin1 .bool)
theorem impl_isDigit_e (k : Nat) (a1 : Int) : impl_isDigit k a1 =
  iteB (decide (a1 ≥ 48)) (some (decide (a1 ≤ 57))) (some false) := by kernel_rfl
theorem E_impl_isDigit_calls (k : Nat) : CallsOk Try.prog (E_impl_isDigit k) (arun Try.prog (E_impl_isDigit k) k) := by
  refine told_run (tyTOk _ _) ?_ (fun run h => regOk (tyTOk _ _) mixOk h) ?_ nameOk k
  · intro g m hg
    cases hg
  · intro g _ r; rfl
theorem f75_okimpl_isDigit : Try.prog.funcs[75]? = some Try.f75 := by kernel_rfl
theorem impl_isDigit_law (k : Nat) (a1 : Int) (x : Bool) (h : impl_isDigit k a1 = some x) : LawV Try.prog 75 [.int .u8 a1] (tvn .bool x) := by
  unfold impl_isDigit at h
  exact law1 (t := .bool) (tyTOk _ _) (E_impl_isDigit_calls k) mixOk f75_okimpl_isDigit (nameOk _ _ f75_okimpl_isDigit) (by kernel_rfl) h
/-! impl.run -/
noncomputable def E_impl_run__impl_isDigit (k : Nat) : Env := ⟨ty, fun g => match g with
  | 75 => some (byVal fun ρ l K => match l with
    | [b1] => (b1.as (.int .u8)).bind fun c1 => (impl_isDigit k c1).bind fun r => K (tvn .bool r)
    | _ => none)
  | 74 => some noCon
  | _ => none, fun f r => match f with | 74 => (match r with | 2 => some [0, 1, 2, 7] | _ => none) | _ => none⟩
noncomputable def impl_run__impl_isDigit (k : Nat) (a1 : ByteArray) (a2 : Int) : Option (Int) :=
  abody (E_impl_run__impl_isDigit k) (arun Try.prog (E_impl_run__impl_isDigit k) k) k 74 Try.f74 [.str a1, .int .i64 a2, .fn 75 []] [] (fin1 (.int .i64))
noncomputable def impl_run__impl_isDigit.l2 (k n : Nat) (x0 : ByteArray) (x1 : Int) (x7 : Int) : Option (Int) :=
  resume (E_impl_run__impl_isDigit k) 74 (acall (E_impl_run__impl_isDigit k) (arun Try.prog (E_impl_run__impl_isDigit k) k)) k [true, true, false, true] [n] (bodyOf Try.f74) ⟨[.str x0, .int .i64 x1, .fn 75 [], .undef, .undef, .undef, .undef, .int .i64 x7, .undef, .undef, .undef, .undef, .undef, .undef, .undef, .undef, .undef, .undef, .undef, .undef, .undef, .undef, .undef, .undef, .undef, .undef], []⟩ (leave (E_impl_run__impl_isDigit k) Try.f74 (fin1 (.int .i64)))
theorem impl_run__impl_isDigit.l2_0 (k : Nat) (x0 : ByteArray) (x1 : Int) (x7 : Int) : impl_run__impl_isDigit.l2 k 0 x0 x1 x7 = none := by kernel_rfl
theorem impl_run__impl_isDigit.l2_s (k n : Nat) (x0 : ByteArray) (x1 : Int) (x7 : Int) : impl_run__impl_isDigit.l2 k (n + 1) x0 x1 x7 =
  iteB (decide (IntKind.wrap .i64 (x1 + x7) < (ByteArray.size x0 : Int))) (iteB (decide (0 ≤ IntKind.wrap .i64 (x1 + x7))) (iteB (decide (IntKind.wrap .i64 (x1 + x7) < (ByteArray.size x0 : Int))) (bindO (impl_isDigit k (byteAt x0 (Int.toNat (IntKind.wrap .i64 (x1 + x7))))) fun r1 => (iteB r1 (impl_run__impl_isDigit.l2 k n x0 x1 (IntKind.wrap .i64 (x7 + 1))) (some x7))) (none)) (none)) (some x7) := by kernel_rfl
theorem impl_run__impl_isDigit_e (k : Nat) (a1 : ByteArray) (a2 : Int) : impl_run__impl_isDigit k a1 a2 =
  impl_run__impl_isDigit.l2 k k a1 a2 0 := by kernel_rfl
theorem E_impl_run__impl_isDigit_calls (k : Nat) : CallsOk Try.prog (E_impl_run__impl_isDigit k) (arun Try.prog (E_impl_run__impl_isDigit k) k) := by
  refine told_run (tyTOk _ _) ?_ (fun run h => regOk (tyTOk _ _) mixOk h) ?_ nameOk k
  · intro g m hg
    simp only [E_impl_run__impl_isDigit] at hg
    split at hg
    · cases hg
      refine con_byVal fun ρ l K x hm => ?_
      split at hm
      · obtain ⟨c1, h1, hm⟩ := Option.bind_eq_some_iff.1 hm
        obtain ⟨r, hr, hm⟩ := Option.bind_eq_some_iff.1 hm
        exact ⟨_, hm, LawV.reads (.cons (.as h1) .nil) (impl_isDigit_law k c1 r hr)⟩
      · cases hm
    · cases hg; exact noCon_ok
    · cases hg
  · intro g hg r
    by_cases h : g = 74
    · subst h; simp [E_impl_run__impl_isDigit] at hg
    · simp [E_impl_run__impl_isDigit, h]
theorem f74_okimpl_run__impl_isDigit : Try.prog.funcs[74]? = some Try.f74 := by kernel_rfl
theorem impl_run__impl_isDigit_law (k : Nat) (a1 : ByteArray) (a2 : Int) (x : Int) (h : impl_run__impl_isDigit k a1 a2 = some x) : LawV Try.prog 74 [.str a1, .int .i64 a2, .fn 75 []] (tvn (.int .i64) x) := by
  unfold impl_run__impl_isDigit at h
  exact law1 (t := (.int .i64)) (tyTOk _ _) (E_impl_run__impl_isDigit_calls k) mixOk f74_okimpl_run__impl_isDigit (nameOk _ _ f74_okimpl_run__impl_isDigit) (by kernel_rfl) h
/-! impl.within -/
noncomputable def E_impl_within (k : Nat) : Env := ⟨ty, fun _ => none, fun _ _ => none⟩
noncomputable def impl_within (k : Nat) (a1 : Int) (a2 : Int) (a3 : Int) : Option (Bool) :=
  abody (E_impl_within k) (arun Try.prog (E_impl_within k) k) k 67 Try.f67 [.int .i64 a1, .int .i64 a2, .int .i64 a3] [] (fin1 .bool)
theorem impl_within_e (k : Nat) (a1 : Int) (a2 : Int) (a3 : Int) : impl_within k a1 a2 a3 =
  iteB (decide (a1 ≥ a2)) (some (decide (a1 ≤ a3))) (some false) := by kernel_rfl
theorem E_impl_within_calls (k : Nat) : CallsOk Try.prog (E_impl_within k) (arun Try.prog (E_impl_within k) k) := by
  refine told_run (tyTOk _ _) ?_ (fun run h => regOk (tyTOk _ _) mixOk h) ?_ nameOk k
  · intro g m hg
    cases hg
  · intro g _ r; rfl
theorem f67_okimpl_within : Try.prog.funcs[67]? = some Try.f67 := by kernel_rfl
theorem impl_within_law (k : Nat) (a1 : Int) (a2 : Int) (a3 : Int) (x : Bool) (h : impl_within k a1 a2 a3 = some x) : LawV Try.prog 67 [.int .i64 a1, .int .i64 a2, .int .i64 a3] (tvn .bool x) := by
  unfold impl_within at h
  exact law1 (t := .bool) (tyTOk _ _) (E_impl_within_calls k) mixOk f67_okimpl_within (nameOk _ _ f67_okimpl_within) (by kernel_rfl) h
/-! impl.WordOk -/
noncomputable def E_impl_WordOk (k : Nat) : Env := ⟨ty, fun g => match g with
  | 67 => some (byVal fun ρ l K => match l with
    | [b1, b2, b3] => (b1.as (.int .i64)).bind fun c1 => (b2.as (.int .i64)).bind fun c2 => (b3.as (.int .i64)).bind fun c3 => (impl_within k c1 c2 c3).bind fun r => K (tvn .bool r)
    | _ => none)
  | _ => none, fun _ _ => none⟩
noncomputable def impl_WordOk (k : Nat) (a1 : Int) : Option (Bool) :=
  abody (E_impl_WordOk k) (arun Try.prog (E_impl_WordOk k) k) k 51 Try.f51 [.int .i64 a1] [] (fin1 .bool)
theorem impl_WordOk_e (k : Nat) (a1 : Int) : impl_WordOk k a1 =
  bindO (impl_within k a1 (-2147483648) 2147483647) fun r1 => (some r1) := by kernel_rfl
theorem E_impl_WordOk_calls (k : Nat) : CallsOk Try.prog (E_impl_WordOk k) (arun Try.prog (E_impl_WordOk k) k) := by
  refine told_run (tyTOk _ _) ?_ (fun run h => regOk (tyTOk _ _) mixOk h) ?_ nameOk k
  · intro g m hg
    simp only [E_impl_WordOk] at hg
    split at hg
    · cases hg
      refine con_byVal fun ρ l K x hm => ?_
      split at hm
      · obtain ⟨c1, h1, hm⟩ := Option.bind_eq_some_iff.1 hm
        obtain ⟨c2, h2, hm⟩ := Option.bind_eq_some_iff.1 hm
        obtain ⟨c3, h3, hm⟩ := Option.bind_eq_some_iff.1 hm
        obtain ⟨r, hr, hm⟩ := Option.bind_eq_some_iff.1 hm
        exact ⟨_, hm, LawV.reads (.cons (.as h1) (.cons (.as h2) (.cons (.as h3) .nil))) (impl_within_law k c1 c2 c3 r hr)⟩
      · cases hm
    · cases hg
  · intro g _ r; rfl
theorem f51_okimpl_WordOk : Try.prog.funcs[51]? = some Try.f51 := by kernel_rfl
theorem impl_WordOk_law (k : Nat) (a1 : Int) (x : Bool) (h : impl_WordOk k a1 = some x) : LawV Try.prog 51 [.int .i64 a1] (tvn .bool x) := by
  unfold impl_WordOk at h
  exact law1 (t := .bool) (tyTOk _ _) (E_impl_WordOk_calls k) mixOk f51_okimpl_WordOk (nameOk _ _ f51_okimpl_WordOk) (by kernel_rfl) h
/-! impl.Digits -/
noncomputable def G_impl_Digits (r0 : Int → Option ByteArray) (k : Nat) : Env := ⟨ty, fun g => match g with
  | 106 => some (byVal fun ρ l K => match l with
    | [b1] => (b1.as (.int .i64)).bind fun c1 => (r0 c1).bind fun r => K (tvn .str r)
    | _ => none)
  | _ => none, fun _ _ => none⟩
noncomputable def grp_impl_Digits : Nat → (Int → Option ByteArray) := fun k => Nat.rec (motive := fun _ => (Int → Option ByteArray)) (fun _ => none) (fun k ih => (fun a1 => abody (G_impl_Digits ih k) (arun Try.prog (G_impl_Digits ih k) k) k 106 Try.f106 [.int .i64 a1] [] (fin1 .str))) k
noncomputable def E_impl_Digits (k : Nat) : Env := G_impl_Digits (grp_impl_Digits k) k
noncomputable def impl_Digits (k : Nat) (a1 : Int) : Option (ByteArray) := (grp_impl_Digits k) a1
theorem impl_Digits_0 (a1 : Int) : impl_Digits 0 a1 = none := by kernel_rfl
theorem impl_Digits_e (k : Nat) (a1 : Int) : impl_Digits (k + 1) a1 =
  iteB (decide (a1 < 0)) (iteB (decide (a1 > (-10))) (bindO (impl_Digits k (IntKind.wrap .i64 (0 - a1))) fun r1 => (iteB (decide (ByteArray.size (⟨#[45]⟩ : ByteArray) + ByteArray.size r1 ≤ 9223372036854775807)) (some ((⟨#[45]⟩ : ByteArray) ++ r1)) (none))) (iteB (decide (a1 < 0)) (bindO (impl_Digits k (IntKind.wrap .i64 (Int.tdiv a1 10))) fun r2 => (bindO (impl_Digits k (IntKind.wrap .i64 (0 - (Int.tmod a1 10)))) fun r3 => (iteB (decide (ByteArray.size r2 + ByteArray.size r3 ≤ 9223372036854775807)) (some (r2 ++ r3)) (none)))) (iteB (decide (a1 < 10)) (some (Utf8.encode (IntKind.wrap .i32 (IntKind.wrap .i64 (48 + a1))))) (bindO (impl_Digits k (IntKind.wrap .i64 (Int.tdiv a1 10))) fun r4 => (iteB (decide (ByteArray.size r4 + ByteArray.size (Utf8.encode (IntKind.wrap .i32 (IntKind.wrap .i64 (48 + (Int.tmod a1 10))))) ≤ 9223372036854775807)) (some (r4 ++ (Utf8.encode (IntKind.wrap .i32 (IntKind.wrap .i64 (48 + (Int.tmod a1 10))))))) (none)))))) (iteB (decide (a1 < 0)) (bindO (impl_Digits k (IntKind.wrap .i64 (Int.tdiv a1 10))) fun r5 => (bindO (impl_Digits k (IntKind.wrap .i64 (0 - (Int.tmod a1 10)))) fun r6 => (iteB (decide (ByteArray.size r5 + ByteArray.size r6 ≤ 9223372036854775807)) (some (r5 ++ r6)) (none)))) (iteB (decide (a1 < 10)) (some (Utf8.encode (IntKind.wrap .i32 (IntKind.wrap .i64 (48 + a1))))) (bindO (impl_Digits k (IntKind.wrap .i64 (Int.tdiv a1 10))) fun r7 => (iteB (decide (ByteArray.size r7 + ByteArray.size (Utf8.encode (IntKind.wrap .i32 (IntKind.wrap .i64 (48 + (Int.tmod a1 10))))) ≤ 9223372036854775807)) (some (r7 ++ (Utf8.encode (IntKind.wrap .i32 (IntKind.wrap .i64 (48 + (Int.tmod a1 10))))))) (none))))) := by kernel_rfl
theorem E_impl_Digits_calls (k : Nat) (q0 : ∀ (a1 : Int) (x : ByteArray), impl_Digits k a1 = some x → LawV Try.prog 106 [.int .i64 a1] (tvn .str x)) : CallsOk Try.prog (E_impl_Digits k) (arun Try.prog (E_impl_Digits k) k) := by
  refine told_run (tyTOk _ _) ?_ (fun run h => regOk (tyTOk _ _) mixOk h) ?_ nameOk k
  · intro g m hg
    simp only [E_impl_Digits, G_impl_Digits] at hg
    split at hg
    · cases hg
      refine con_byVal fun ρ l K x hm => ?_
      split at hm
      · obtain ⟨c1, h1, hm⟩ := Option.bind_eq_some_iff.1 hm
        obtain ⟨r, hr, hm⟩ := Option.bind_eq_some_iff.1 hm
        exact ⟨_, hm, LawV.reads (.cons (.as h1) .nil) (q0 c1 r hr)⟩
      · cases hm
    · cases hg
  · intro g _ r; rfl
theorem f106_okimpl_Digits : Try.prog.funcs[106]? = some Try.f106 := by kernel_rfl
theorem impl_Digits_u (k : Nat) (a1 : Int) : abody (E_impl_Digits k) (arun Try.prog (E_impl_Digits k) k) k 106 Try.f106 [.int .i64 a1] [] (fin1 .str) = impl_Digits (k + 1) a1 := by kernel_rfl
theorem grp_impl_Digits_law (k : Nat) : (∀ (a1 : Int) (x : ByteArray), impl_Digits k a1 = some x → LawV Try.prog 106 [.int .i64 a1] (tvn .str x)) := by
  induction k with
  | zero => exact fun a1 x h => by rw [impl_Digits_0] at h; cases h
  | succ k ih =>
    exact (fun a1 x h => law1 (t := .str) (tyTOk _ _) (E_impl_Digits_calls k ih) mixOk f106_okimpl_Digits (nameOk _ _ f106_okimpl_Digits) (by kernel_rfl) ((impl_Digits_u k a1).trans h))
theorem impl_Digits_law (k : Nat) (a1 : Int) (x : ByteArray) (h : impl_Digits k a1 = some x) : LawV Try.prog 106 [.int .i64 a1] (tvn .str x) := (grp_impl_Digits_law k) a1 x h
/-! impl.Number -/
noncomputable def E_impl_Number (k : Nat) : Env := ⟨ty, fun g => match g with
  | 75 => some (byVal fun ρ l K => match l with
    | [b1] => (b1.as (.int .u8)).bind fun c1 => (impl_isDigit k c1).bind fun r => K (tvn .bool r)
    | _ => none)
  | 51 => some (byVal fun ρ l K => match l with
    | [b1] => (b1.as (.int .i64)).bind fun c1 => (impl_WordOk k c1).bind fun r => K (tvn .bool r)
    | _ => none)
  | 106 => some (byVal fun ρ l K => match l with
    | [b1] => (b1.as (.int .i64)).bind fun c1 => (impl_Digits k c1).bind fun r => K (tvn .str r)
    | _ => none)
  | 76 => some noCon
  | _ => none, fun f r => match f with | 76 => (match r with | 4 => some [0, 4, 5, 6] | 6 => some [0, 4, 5, 6] | 7 => some [0, 4, 5, 6, 26, 27] | _ => none) | _ => none⟩
noncomputable def impl_Number (k : Nat) (a1 : ByteArray) : Option (Int × Bool × Unit) :=
  abody (E_impl_Number k) (arun Try.prog (E_impl_Number k) k) k 76 Try.f76 [.str a1] [] (finN (.pair (.int .i64) (.pair .bool .unit)))
noncomputable def impl_Number.j4 (k : Nat) (x0 : ByteArray) (x4 : Int) (x5 : ByteArray) (x6 : Int) : Option (Int × Bool × Unit) :=
  resume (E_impl_Number k) 76 (acall (E_impl_Number k) (arun Try.prog (E_impl_Number k) k)) k [true, true, true] [] (bodyOf Try.f76) ⟨[.str x0, .undef, .undef, .undef, .int .i64 x4, .str x5, .int .i64 x6, .undef, .undef, .undef, .undef, .undef, .undef, .undef, .undef, .undef, .undef, .undef, .undef, .undef, .undef, .undef, .undef, .undef, .undef, .undef, .undef, .undef, .undef, .undef, .undef, .undef, .undef, .undef, .undef, .undef, .undef, .undef, .undef, .undef, .undef, .undef, .undef, .undef, .undef, .undef, .undef, .undef, .undef, .undef, .undef, .undef, .undef, .undef, .undef, .undef, .undef], []⟩ (leave (E_impl_Number k) Try.f76 (finN (.pair (.int .i64) (.pair .bool .unit))))
noncomputable def impl_Number.j6 (k : Nat) (x0 : ByteArray) (x4 : Int) (x5 : ByteArray) (x6 : Int) : Option (Int × Bool × Unit) :=
  resume (E_impl_Number k) 76 (acall (E_impl_Number k) (arun Try.prog (E_impl_Number k) k)) k [true, true, true, true] [] (bodyOf Try.f76) ⟨[.str x0, .undef, .undef, .undef, .int .i64 x4, .str x5, .int .i64 x6, .undef, .undef, .undef, .undef, .undef, .undef, .undef, .undef, .undef, .undef, .undef, .undef, .undef, .undef, .undef, .undef, .undef, .undef, .undef, .undef, .undef, .undef, .undef, .undef, .undef, .undef, .undef, .undef, .undef, .undef, .undef, .undef, .undef, .undef, .undef, .undef, .undef, .undef, .undef, .undef, .undef, .undef, .undef, .undef, .undef, .undef, .undef, .undef, .undef, .undef], []⟩ (leave (E_impl_Number k) Try.f76 (finN (.pair (.int .i64) (.pair .bool .unit))))
noncomputable def impl_Number.l7 (k n : Nat) (x0 : ByteArray) (x4 : Int) (x5 : ByteArray) (x6 : Int) (x26 : Int) (x27 : Int) : Option (Int × Bool × Unit) :=
  resume (E_impl_Number k) 76 (acall (E_impl_Number k) (arun Try.prog (E_impl_Number k) k)) k [true, true, true, true, false, true, true] [n] (bodyOf Try.f76) ⟨[.str x0, .undef, .undef, .undef, .int .i64 x4, .str x5, .int .i64 x6, .undef, .undef, .undef, .undef, .undef, .undef, .undef, .undef, .undef, .undef, .undef, .undef, .undef, .undef, .undef, .undef, .undef, .undef, .undef, .int .i64 x26, .int .i64 x27, .undef, .undef, .undef, .undef, .undef, .undef, .undef, .undef, .undef, .undef, .undef, .undef, .undef, .undef, .undef, .undef, .undef, .undef, .undef, .undef, .undef, .undef, .undef, .undef, .undef, .undef, .undef, .undef, .undef], []⟩ (leave (E_impl_Number k) Try.f76 (finN (.pair (.int .i64) (.pair .bool .unit))))
theorem impl_Number.j4_e (k : Nat) (x0 : ByteArray) (x4 : Int) (x5 : ByteArray) (x6 : Int) : impl_Number.j4 k x0 x4 x5 x6 =
  iteB (!(ByteArray.toList x5 == ByteArray.toList (⟨#[]⟩ : ByteArray))) (iteB (decide ((ByteArray.size x5 : Int) > 10)) (some (0, false, ())) (gate k (impl_Number.j6 k x0 x4 x5 x6))) (some (0, false, ())) := by kernel_rfl
theorem impl_Number.j6_e (k : Nat) (x0 : ByteArray) (x4 : Int) (x5 : ByteArray) (x6 : Int) : impl_Number.j6 k x0 x4 x5 x6 =
  impl_Number.l7 k k x0 x4 x5 x6 (ByteArray.size x5 : Int) 0 := by kernel_rfl
theorem impl_Number.l7_0 (k : Nat) (x0 : ByteArray) (x4 : Int) (x5 : ByteArray) (x6 : Int) (x26 : Int) (x27 : Int) : impl_Number.l7 k 0 x0 x4 x5 x6 x26 x27 = none := by kernel_rfl
theorem impl_Number.l7_s (k n : Nat) (x0 : ByteArray) (x4 : Int) (x5 : ByteArray) (x6 : Int) (x26 : Int) (x27 : Int) : impl_Number.l7 k (n + 1) x0 x4 x5 x6 x26 x27 =
  iteB (decide (x27 < x26)) (iteB (decide (0 ≤ x27)) (iteB (decide (x27 < (ByteArray.size x5 : Int))) (bindO (impl_isDigit k (byteAt x5 (Int.toNat x27))) fun r1 => (iteB (!r1) (some (0, false, ())) (iteB (decide (0 ≤ x27)) (iteB (decide (x27 < (ByteArray.size x5 : Int))) (impl_Number.l7 k n x0 (IntKind.wrap .i64 ((IntKind.wrap .i64 (10 * x4)) + (IntKind.wrap .i64 (IntKind.wrap .u8 ((byteAt x5 (Int.toNat x27)) - 48))))) x5 x6 x26 (IntKind.wrap .i64 (x27 + 1))) (none)) (none)))) (none)) (none)) (bindO (impl_WordOk k (IntKind.wrap .i64 (x4 * x6))) fun r2 => (iteB (!(!r2)) (bindO (impl_Digits k (IntKind.wrap .i64 (x4 * x6))) fun r3 => (iteB (!(ByteArray.toList r3 == ByteArray.toList x0)) (some (0, false, ())) (some (IntKind.wrap .i64 (x4 * x6), true, ())))) (some (0, false, ())))) := by kernel_rfl
theorem impl_Number_e (k : Nat) (a1 : ByteArray) : impl_Number k a1 =
  iteB (!(ByteArray.toList a1 == ByteArray.toList (⟨#[]⟩ : ByteArray))) (iteB (decide (0 < (ByteArray.size a1 : Int))) (iteB ((byteAt a1 0) == 45) (iteB (decide (1 ≤ (ByteArray.size a1 : Int))) (gate k (impl_Number.j4 k a1 0 (ByteArray.extract a1 1 (ByteArray.size a1)) (-1))) (none)) (gate k (impl_Number.j4 k a1 0 a1 1))) (none)) (gate k (impl_Number.j4 k a1 0 a1 1)) := by kernel_rfl
theorem E_impl_Number_calls (k : Nat) : CallsOk Try.prog (E_impl_Number k) (arun Try.prog (E_impl_Number k) k) := by
  refine told_run (tyTOk _ _) ?_ (fun run h => regOk (tyTOk _ _) mixOk h) ?_ nameOk k
  · intro g m hg
    simp only [E_impl_Number] at hg
    split at hg
    · cases hg
      refine con_byVal fun ρ l K x hm => ?_
      split at hm
      · obtain ⟨c1, h1, hm⟩ := Option.bind_eq_some_iff.1 hm
        obtain ⟨r, hr, hm⟩ := Option.bind_eq_some_iff.1 hm
        exact ⟨_, hm, LawV.reads (.cons (.as h1) .nil) (impl_isDigit_law k c1 r hr)⟩
      · cases hm
    · cases hg
      refine con_byVal fun ρ l K x hm => ?_
      split at hm
      · obtain ⟨c1, h1, hm⟩ := Option.bind_eq_some_iff.1 hm
        obtain ⟨r, hr, hm⟩ := Option.bind_eq_some_iff.1 hm
        exact ⟨_, hm, LawV.reads (.cons (.as h1) .nil) (impl_WordOk_law k c1 r hr)⟩
      · cases hm
    · cases hg
      refine con_byVal fun ρ l K x hm => ?_
      split at hm
      · obtain ⟨c1, h1, hm⟩ := Option.bind_eq_some_iff.1 hm
        obtain ⟨r, hr, hm⟩ := Option.bind_eq_some_iff.1 hm
        exact ⟨_, hm, LawV.reads (.cons (.as h1) .nil) (impl_Digits_law k c1 r hr)⟩
      · cases hm
    · cases hg; exact noCon_ok
    · cases hg
  · intro g hg r
    by_cases h : g = 76
    · subst h; simp [E_impl_Number] at hg
    · simp [E_impl_Number, h]
theorem f76_okimpl_Number : Try.prog.funcs[76]? = some Try.f76 := by kernel_rfl
theorem impl_Number_law (k : Nat) (a1 : ByteArray) (x : Int × Bool × Unit) (h : impl_Number k a1 = some x) : LawV Try.prog 76 [.str a1] (.tup (outs (.pair (.int .i64) (.pair .bool .unit)) x)) := by
  unfold impl_Number at h
  exact lawN (t := (.pair (.int .i64) (.pair .bool .unit))) (tyTOk _ _) (E_impl_Number_calls k) mixOk f76_okimpl_Number (nameOk _ _ f76_okimpl_Number) (by kernel_rfl) h
/-! internal/stringslite.HasPrefix -/
noncomputable def E_internal_stringslite_HasPrefix (k : Nat) : Env := ⟨ty, fun _ => none, fun _ _ => none⟩
noncomputable def internal_stringslite_HasPrefix (k : Nat) (a1 : ByteArray) (a2 : ByteArray) : Option (Bool) :=
  abody (E_internal_stringslite_HasPrefix k) (arun Try.prog (E_internal_stringslite_HasPrefix k) k) k 107 Try.f107 [.str a1, .str a2] [] (fin1 .bool)
theorem internal_stringslite_HasPrefix_e (k : Nat) (a1 : ByteArray) (a2 : ByteArray) : internal_stringslite_HasPrefix k a1 a2 =
  iteB (decide ((ByteArray.size a1 : Int) ≥ (ByteArray.size a2 : Int))) (iteB (decide (0 ≤ (ByteArray.size a2 : Int))) (iteB (decide ((ByteArray.size a2 : Int) ≤ (ByteArray.size a1 : Int))) (some (ByteArray.toList (ByteArray.extract a1 0 (Int.toNat (ByteArray.size a2 : Int))) == ByteArray.toList a2)) (none)) (none)) (some false) := by kernel_rfl
theorem E_internal_stringslite_HasPrefix_calls (k : Nat) : CallsOk Try.prog (E_internal_stringslite_HasPrefix k) (arun Try.prog (E_internal_stringslite_HasPrefix k) k) := by
  refine told_run (tyTOk _ _) ?_ (fun run h => regOk (tyTOk _ _) mixOk h) ?_ nameOk k
  · intro g m hg
    cases hg
  · intro g _ r; rfl
theorem f107_okinternal_stringslite_HasPrefix : Try.prog.funcs[107]? = some Try.f107 := by kernel_rfl
theorem internal_stringslite_HasPrefix_law (k : Nat) (a1 : ByteArray) (a2 : ByteArray) (x : Bool) (h : internal_stringslite_HasPrefix k a1 a2 = some x) : LawV Try.prog 107 [.str a1, .str a2] (tvn .bool x) := by
  unfold internal_stringslite_HasPrefix at h
  exact law1 (t := .bool) (tyTOk _ _) (E_internal_stringslite_HasPrefix_calls k) mixOk f107_okinternal_stringslite_HasPrefix (nameOk _ _ f107_okinternal_stringslite_HasPrefix) (by kernel_rfl) h
/-! strings.HasPrefix -/
noncomputable def E_strings_HasPrefix (k : Nat) : Env := ⟨ty, fun g => match g with
  | 107 => some (byVal fun ρ l K => match l with
    | [b1, b2] => (b1.as .str).bind fun c1 => (b2.as .str).bind fun c2 => (internal_stringslite_HasPrefix k c1 c2).bind fun r => K (tvn .bool r)
    | _ => none)
  | _ => none, fun _ _ => none⟩
noncomputable def strings_HasPrefix (k : Nat) (a1 : ByteArray) (a2 : ByteArray) : Option (Bool) :=
  abody (E_strings_HasPrefix k) (arun Try.prog (E_strings_HasPrefix k) k) k 77 Try.f77 [.str a1, .str a2] [] (fin1 .bool)
theorem strings_HasPrefix_e (k : Nat) (a1 : ByteArray) (a2 : ByteArray) : strings_HasPrefix k a1 a2 =
  bindO (internal_stringslite_HasPrefix k a1 a2) fun r1 => (some r1) := by kernel_rfl
theorem E_strings_HasPrefix_calls (k : Nat) : CallsOk Try.prog (E_strings_HasPrefix k) (arun Try.prog (E_strings_HasPrefix k) k) := by
  refine told_run (tyTOk _ _) ?_ (fun run h => regOk (tyTOk _ _) mixOk h) ?_ nameOk k
  · intro g m hg
    simp only [E_strings_HasPrefix] at hg
    split at hg
    · cases hg
      refine con_byVal fun ρ l K x hm => ?_
      split at hm
      · obtain ⟨c1, h1, hm⟩ := Option.bind_eq_some_iff.1 hm
        obtain ⟨c2, h2, hm⟩ := Option.bind_eq_some_iff.1 hm
        obtain ⟨r, hr, hm⟩ := Option.bind_eq_some_iff.1 hm
        exact ⟨_, hm, LawV.reads (.cons (.as h1) (.cons (.as h2) .nil)) (internal_stringslite_HasPrefix_law k c1 c2 r hr)⟩
      · cases hm
    · cases hg
  · intro g _ r; rfl
theorem f77_okstrings_HasPrefix : Try.prog.funcs[77]? = some Try.f77 := by kernel_rfl
theorem strings_HasPrefix_law (k : Nat) (a1 : ByteArray) (a2 : ByteArray) (x : Bool) (h : strings_HasPrefix k a1 a2 = some x) : LawV Try.prog 77 [.str a1, .str a2] (tvn .bool x) := by
  unfold strings_HasPrefix at h
  exact law1 (t := .bool) (tyTOk _ _) (E_strings_HasPrefix_calls k) mixOk f77_okstrings_HasPrefix (nameOk _ _ f77_okstrings_HasPrefix) (by kernel_rfl) h
/-! strings.IndexByte -/
noncomputable def strings_IndexByte (k : Nat) (a1 : ByteArray) (a2 : Int) : Option Int := some (Lib.indexByte a1.data.toList a2.toNat.toUInt8)
theorem f78_okstrings_IndexByte : Try.prog.funcs[78]? = some Try.f78 := by kernel_rfl
theorem strings_IndexByte_law (k : Nat) (a1 : ByteArray) (a2 : Int) (x : Int) (h : strings_IndexByte k a1 a2 = some x) : LawV Try.prog 78 [.str a1, .int .u8 a2] (tvn (.int .i64) x) := by
  cases h
  exact law_index (g := fun s c => Lib.indexByte s.data.toList c.toNat.toUInt8) ⟨_, f78_okstrings_IndexByte, nameOk _ _ f78_okstrings_IndexByte, by kernel_rfl⟩ Try.strings_IndexByte a1 a2
/-! impl.token -/
noncomputable def E_impl_token (k : Nat) : Env := ⟨ty, fun g => match g with
  | 73 => some (byVal fun ρ l K => match l with
    | [b1] => (b1.as (.int .u8)).bind fun c1 => (impl_isLetter k c1).bind fun r => K (tvn .bool r)
    | _ => none)
  | 74 => some (byVal fun ρ l K => match l with
    | [b1, b2, .fn 73 []] => (b1.as .str).bind fun c1 => (b2.as (.int .i64)).bind fun c2 => (impl_run__impl_isLetter k c1 c2).bind fun r => K (tvn (.int .i64) r)
    | [b1, b2, .fn 75 []] => (b1.as .str).bind fun c1 => (b2.as (.int .i64)).bind fun c2 => (impl_run__impl_isDigit k c1 c2).bind fun r => K (tvn (.int .i64) r)
    | _ => none)
  | 75 => some (byVal fun ρ l K => match l with
    | [b1] => (b1.as (.int .u8)).bind fun c1 => (impl_isDigit k c1).bind fun r => K (tvn .bool r)
    | _ => none)
  | 76 => some (byVal fun ρ l K => match l with
    | [b1] => (b1.as .str).bind fun c1 => (impl_Number k c1).bind fun r => K (.tup (outs (.pair (.int .i64) (.pair .bool .unit)) r))
    | _ => none)
  | 77 => some (byVal fun ρ l K => match l with
    | [b1, b2] => (b1.as .str).bind fun c1 => (b2.as .str).bind fun c2 => (strings_HasPrefix k c1 c2).bind fun r => K (tvn .bool r)
    | _ => none)
  | 78 => some (byVal fun ρ l K => match l with
    | [b1, b2] => (b1.as .str).bind fun c1 => (b2.as (.int .u8)).bind fun c2 => (strings_IndexByte k c1 c2).bind fun r => K (tvn (.int .i64) r)
    | _ => none)
  | _ => none, fun _ _ => none⟩
noncomputable def impl_token (k : Nat) (a1 : ByteArray) (a2 : Int) : Option (Int × ByteArray × Int × Int × Unit) :=
  abody (E_impl_token k) (arun Try.prog (E_impl_token k) k) k 37 Try.f37 [.str a1, .int .i64 a2] [] (fin1 (.pair (.int .i64) (.pair .str (.pair (.int .i64) (.pair (.int .i64) .unit)))))
theorem impl_token_e (k : Nat) (a1 : ByteArray) (a2 : Int) : impl_token k a1 a2 =
  iteB (decide (0 ≤ a2)) (iteB (decide (a2 < (ByteArray.size a1 : Int))) (bindO (impl_isLetter k (byteAt a1 (Int.toNat a2))) fun r1 => (iteB r1 (bindO (impl_run__impl_isLetter k a1 a2) fun r2 => (iteB (decide (0 ≤ IntKind.wrap .i64 (a2 + r2))) (iteB (decide (IntKind.wrap .i64 (a2 + r2) ≤ (ByteArray.size a1 : Int))) (iteB (decide (0 ≤ a2)) (iteB (decide (a2 ≤ IntKind.wrap .i64 (a2 + r2))) (iteB (decide ((ByteArray.size (ByteArray.extract a1 (Int.toNat a2) (Int.toNat (IntKind.wrap .i64 (a2 + r2)))) : Int) > 10)) (some (0, ByteArray.empty, 0, 0, ())) (some (1, ByteArray.extract a1 (Int.toNat a2) (Int.toNat (IntKind.wrap .i64 (a2 + r2))), 0, a2, ()))) (none)) (none)) (none)) (none))) (bindO (impl_isDigit k (byteAt a1 (Int.toNat a2))) fun r3 => (iteB r3 (bindO (impl_run__impl_isDigit k a1 a2) fun r4 => (iteB (decide (0 ≤ IntKind.wrap .i64 (a2 + r4))) (iteB (decide (IntKind.wrap .i64 (a2 + r4) ≤ (ByteArray.size a1 : Int))) (iteB (decide (0 ≤ a2)) (iteB (decide (a2 ≤ IntKind.wrap .i64 (a2 + r4))) (bindO (impl_Number k (ByteArray.extract a1 (Int.toNat a2) (Int.toNat (IntKind.wrap .i64 (a2 + r4))))) fun r5 => (iteB (!r5.2.1) (some (0, ByteArray.empty, 0, 0, ())) (some (2, ByteArray.extract a1 (Int.toNat a2) (Int.toNat (IntKind.wrap .i64 (a2 + r4))), r5.1, a2, ())))) (none)) (none)) (none)) (none))) (iteB (decide (0 ≤ a2)) (iteB (decide (a2 ≤ (ByteArray.size a1 : Int))) (bindO (strings_HasPrefix k (ByteArray.extract a1 (Int.toNat a2) (ByteArray.size a1)) (⟨#[61, 61]⟩ : ByteArray)) fun r6 => (iteB r6 (some (3, (⟨#[61, 61]⟩ : ByteArray), 0, a2, ())) (bindO (strings_IndexByte k (⟨#[40, 41, 123, 125, 44, 59, 61, 43, 45, 42, 60]⟩ : ByteArray) (byteAt a1 (Int.toNat a2))) fun r7 => (iteB (decide (r7 ≥ 0)) (iteB (decide (0 ≤ IntKind.wrap .i64 (a2 + 1))) (iteB (decide (IntKind.wrap .i64 (a2 + 1) ≤ (ByteArray.size a1 : Int))) (iteB (decide (0 ≤ a2)) (iteB (decide (a2 ≤ IntKind.wrap .i64 (a2 + 1))) (some (3, ByteArray.extract a1 (Int.toNat a2) (Int.toNat (IntKind.wrap .i64 (a2 + 1))), 0, a2, ())) (none)) (none)) (none)) (none)) (some (0, ByteArray.empty, 0, 0, ())))))) (none)) (none)))))) (none)) (none) := by kernel_rfl
theorem E_impl_token_calls (k : Nat) : CallsOk Try.prog (E_impl_token k) (arun Try.prog (E_impl_token k) k) := by
  refine told_run (tyTOk _ _) ?_ (fun run h => regOk (tyTOk _ _) mixOk h) ?_ nameOk k
  · intro g m hg
    simp only [E_impl_token] at hg
    split at hg
    · cases hg
      refine con_byVal fun ρ l K x hm => ?_
      split at hm
      · obtain ⟨c1, h1, hm⟩ := Option.bind_eq_some_iff.1 hm
        obtain ⟨r, hr, hm⟩ := Option.bind_eq_some_iff.1 hm
        exact ⟨_, hm, LawV.reads (.cons (.as h1) .nil) (impl_isLetter_law k c1 r hr)⟩
      · cases hm
    · cases hg
      refine con_byVal fun ρ l K x hm => ?_
      split at hm
      · obtain ⟨c1, h1, hm⟩ := Option.bind_eq_some_iff.1 hm
        obtain ⟨c2, h2, hm⟩ := Option.bind_eq_some_iff.1 hm
        obtain ⟨r, hr, hm⟩ := Option.bind_eq_some_iff.1 hm
        exact ⟨_, hm, LawV.reads (.cons (.as h1) (.cons (.as h2) (.cons (.fn .nil) .nil))) (impl_run__impl_isLetter_law k c1 c2 r hr)⟩
      · obtain ⟨c1, h1, hm⟩ := Option.bind_eq_some_iff.1 hm
        obtain ⟨c2, h2, hm⟩ := Option.bind_eq_some_iff.1 hm
        obtain ⟨r, hr, hm⟩ := Option.bind_eq_some_iff.1 hm
        exact ⟨_, hm, LawV.reads (.cons (.as h1) (.cons (.as h2) (.cons (.fn .nil) .nil))) (impl_run__impl_isDigit_law k c1 c2 r hr)⟩
      · cases hm
    · cases hg
      refine con_byVal fun ρ l K x hm => ?_
      split at hm
      · obtain ⟨c1, h1, hm⟩ := Option.bind_eq_some_iff.1 hm
        obtain ⟨r, hr, hm⟩ := Option.bind_eq_some_iff.1 hm
        exact ⟨_, hm, LawV.reads (.cons (.as h1) .nil) (impl_isDigit_law k c1 r hr)⟩
      · cases hm
    · cases hg
      refine con_byVal fun ρ l K x hm => ?_
      split at hm
      · obtain ⟨c1, h1, hm⟩ := Option.bind_eq_some_iff.1 hm
        obtain ⟨r, hr, hm⟩ := Option.bind_eq_some_iff.1 hm
        exact ⟨_, hm, LawV.reads (.cons (.as h1) .nil) (impl_Number_law k c1 r hr)⟩
      · cases hm
    · cases hg
      refine con_byVal fun ρ l K x hm => ?_
      split at hm
      · obtain ⟨c1, h1, hm⟩ := Option.bind_eq_some_iff.1 hm
        obtain ⟨c2, h2, hm⟩ := Option.bind_eq_some_iff.1 hm
        obtain ⟨r, hr, hm⟩ := Option.bind_eq_some_iff.1 hm
        exact ⟨_, hm, LawV.reads (.cons (.as h1) (.cons (.as h2) .nil)) (strings_HasPrefix_law k c1 c2 r hr)⟩
      · cases hm
    · cases hg
      refine con_byVal fun ρ l K x hm => ?_
      split at hm
      · obtain ⟨c1, h1, hm⟩ := Option.bind_eq_some_iff.1 hm
        obtain ⟨c2, h2, hm⟩ := Option.bind_eq_some_iff.1 hm
        obtain ⟨r, hr, hm⟩ := Option.bind_eq_some_iff.1 hm
        exact ⟨_, hm, LawV.reads (.cons (.as h1) (.cons (.as h2) .nil)) (strings_IndexByte_law k c1 c2 r hr)⟩
      · cases hm
    · cases hg
  · intro g _ r; rfl
theorem f37_okimpl_token : Try.prog.funcs[37]? = some Try.f37 := by kernel_rfl
theorem impl_token_law (k : Nat) (a1 : ByteArray) (a2 : Int) (x : Int × ByteArray × Int × Int × Unit) (h : impl_token k a1 a2 = some x) : LawV Try.prog 37 [.str a1, .int .i64 a2] (tvn (.pair (.int .i64) (.pair .str (.pair (.int .i64) (.pair (.int .i64) .unit)))) x) := by
  unfold impl_token at h
  exact law1 (t := (.pair (.int .i64) (.pair .str (.pair (.int .i64) (.pair (.int .i64) .unit))))) (tyTOk _ _) (E_impl_token_calls k) mixOk f37_okimpl_token (nameOk _ _ f37_okimpl_token) (by kernel_rfl) h
/-! impl.Tokens -/
noncomputable def E_impl_Tokens (k : Nat) : Env := ⟨ty, fun g => match g with
  | 37 => some (byVal fun ρ l K => match l with
    | [b1, b2] => (b1.as .str).bind fun c1 => (b2.as (.int .i64)).bind fun c2 => (impl_token k c1 c2).bind fun r => K (tvn (.pair (.int .i64) (.pair .str (.pair (.int .i64) (.pair (.int .i64) .unit)))) r)
    | _ => none)
  | 8 => some noCon
  | _ => none, fun f r => match f with | 8 => (match r with | 5 => some [0, 4, 5] | 8 => some [0, 4, 5] | _ => none) | _ => none⟩
noncomputable def impl_Tokens (k : Nat) (a1 : ByteArray) : Option ((List (Int × ByteArray × Int × Int × Unit)) × Int × Unit) :=
  abody (E_impl_Tokens k) (arun Try.prog (E_impl_Tokens k) k) k 8 Try.f8 [.str a1] [] (finN (.pair (.row (.pair (.int .i64) (.pair .str (.pair (.int .i64) (.pair (.int .i64) .unit))))) (.pair (.int .i64) .unit)))
noncomputable def impl_Tokens.l5 (k n : Nat) (x0 : ByteArray) (x5 : Int) : Option ((List (Int × ByteArray × Int × Int × Unit)) × Int × Unit) :=
  resume (E_impl_Tokens k) 8 (acall (E_impl_Tokens k) (arun Try.prog (E_impl_Tokens k) k)) k [true, true, true, false, true, true] [n] (bodyOf Try.f8) ⟨[.str x0, .undef, .undef, .undef, .sl 0, .int .i64 x5, .undef, .undef, .undef, .undef, .undef, .undef, .undef, .undef, .undef, .undef, .undef, .undef, .undef, .undef, .undef, .undef, .undef, .undef, .undef, .undef, .undef, .undef, .undef, .undef, .undef, .undef, .undef, .undef, .undef, .undef, .undef, .undef, .undef, .undef, .undef, .undef, .undef, .undef, .undef, .undef, .undef, .undef, .undef, .undef, .undef, .undef, .undef], [some ⟨.typed (.pair (.int .i64) (.pair .str (.pair (.int .i64) (.pair (.int .i64) .unit)))) [], true⟩]⟩ (leave (E_impl_Tokens k) Try.f8 (finN (.pair (.row (.pair (.int .i64) (.pair .str (.pair (.int .i64) (.pair (.int .i64) .unit))))) (.pair (.int .i64) .unit))))
noncomputable def impl_Tokens.j8 (k m5 : Nat) (x0 : ByteArray) (x5 : Int) : Option ((List (Int × ByteArray × Int × Int × Unit)) × Int × Unit) :=
  resume (E_impl_Tokens k) 8 (acall (E_impl_Tokens k) (arun Try.prog (E_impl_Tokens k) k)) k [true, true, true, false, true, true, true, true, true, true] [m5] (bodyOf Try.f8) ⟨[.str x0, .undef, .undef, .undef, .sl 0, .int .i64 x5, .undef, .undef, .undef, .undef, .undef, .undef, .undef, .undef, .undef, .undef, .undef, .undef, .undef, .undef, .undef, .undef, .undef, .undef, .undef, .undef, .undef, .undef, .undef, .undef, .undef, .undef, .undef, .undef, .undef, .undef, .undef, .undef, .undef, .undef, .undef, .undef, .undef, .undef, .undef, .undef, .undef, .undef, .undef, .undef, .undef, .undef, .undef], [some ⟨.typed (.pair (.int .i64) (.pair .str (.pair (.int .i64) (.pair (.int .i64) .unit)))) [], true⟩]⟩ (leave (E_impl_Tokens k) Try.f8 (finN (.pair (.row (.pair (.int .i64) (.pair .str (.pair (.int .i64) (.pair (.int .i64) .unit))))) (.pair (.int .i64) .unit))))
noncomputable def impl_Tokens.l5b (k n : Nat) (x0 : ByteArray) (x5 : Int) (y0 : List (Int × ByteArray × Int × Int × Unit)) : Option ((List (Int × ByteArray × Int × Int × Unit)) × Int × Unit) :=
  resume (E_impl_Tokens k) 8 (acall (E_impl_Tokens k) (arun Try.prog (E_impl_Tokens k) k)) k [true, true, true, false, true, true] [n] (bodyOf Try.f8) ⟨[.str x0, .undef, .undef, .undef, .sl 0, .int .i64 x5, .undef, .undef, .undef, .undef, .undef, .undef, .undef, .undef, .undef, .undef, .undef, .undef, .undef, .undef, .undef, .undef, .undef, .undef, .undef, .undef, .undef, .undef, .undef, .undef, .undef, .undef, .undef, .undef, .undef, .undef, .undef, .undef, .undef, .undef, .undef, .undef, .undef, .undef, .undef, .undef, .undef, .undef, .undef, .undef, .undef, .undef, .undef], [some ⟨.typed (.pair (.int .i64) (.pair .str (.pair (.int .i64) (.pair (.int .i64) .unit)))) y0, false⟩]⟩ (leave (E_impl_Tokens k) Try.f8 (finN (.pair (.row (.pair (.int .i64) (.pair .str (.pair (.int .i64) (.pair (.int .i64) .unit))))) (.pair (.int .i64) .unit))))
noncomputable def impl_Tokens.j8b (k m5 : Nat) (x0 : ByteArray) (x5 : Int) (y0 : List (Int × ByteArray × Int × Int × Unit)) : Option ((List (Int × ByteArray × Int × Int × Unit)) × Int × Unit) :=
  resume (E_impl_Tokens k) 8 (acall (E_impl_Tokens k) (arun Try.prog (E_impl_Tokens k) k)) k [true, true, true, false, true, true, true, true, true, true] [m5] (bodyOf Try.f8) ⟨[.str x0, .undef, .undef, .undef, .sl 0, .int .i64 x5, .undef, .undef, .undef, .undef, .undef, .undef, .undef, .undef, .undef, .undef, .undef, .undef, .undef, .undef, .undef, .undef, .undef, .undef, .undef, .undef, .undef, .undef, .undef, .undef, .undef, .undef, .undef, .undef, .undef, .undef, .undef, .undef, .undef, .undef, .undef, .undef, .undef, .undef, .undef, .undef, .undef, .undef, .undef, .undef, .undef, .undef, .undef], [some ⟨.typed (.pair (.int .i64) (.pair .str (.pair (.int .i64) (.pair (.int .i64) .unit)))) y0, false⟩]⟩ (leave (E_impl_Tokens k) Try.f8 (finN (.pair (.row (.pair (.int .i64) (.pair .str (.pair (.int .i64) (.pair (.int .i64) .unit))))) (.pair (.int .i64) .unit))))
theorem impl_Tokens.l5_0 (k : Nat) (x0 : ByteArray) (x5 : Int) : impl_Tokens.l5 k 0 x0 x5 = none := by kernel_rfl
theorem impl_Tokens.l5_s (k n : Nat) (x0 : ByteArray) (x5 : Int) : impl_Tokens.l5 k (n + 1) x0 x5 =
  iteB (decide (x5 < (ByteArray.size x0 : Int))) (iteB (decide (0 ≤ x5)) (iteB (decide (x5 < (ByteArray.size x0 : Int))) (iteB (!((byteAt x0 (Int.toNat x5)) == 32)) (iteB (decide (0 ≤ x5)) (iteB (decide (x5 < (ByteArray.size x0 : Int))) (iteB ((byteAt x0 (Int.toNat x5)) == 10) (impl_Tokens.l5 k n x0 (IntKind.wrap .i64 (x5 + 1))) (gate k (impl_Tokens.j8 k n x0 x5))) (none)) (none)) (impl_Tokens.l5 k n x0 (IntKind.wrap .i64 (x5 + 1)))) (none)) (none)) (iteB (decide ((List.length ([] ++ [(0, ByteArray.empty, 0, (ByteArray.size x0 : Int), ())])) * 40 ≤ lim)) (some ([] ++ [(0, ByteArray.empty, 0, (ByteArray.size x0 : Int), ())], (-1), ())) (none)) := by kernel_rfl
theorem impl_Tokens.j8_e (k m5 : Nat) (x0 : ByteArray) (x5 : Int) : impl_Tokens.j8 k m5 x0 x5 =
  bindO (impl_token k x0 x5) fun r1 => (iteB (r1.1 == 0) (some ([], x5, ())) (iteB (r1.1 == 2) (iteB (decide ((List.length ([] ++ [(r1.1, (⟨#[]⟩ : ByteArray), r1.2.2.1, r1.2.2.2.1, ())])) * 40 ≤ lim)) (impl_Tokens.l5b k m5 x0 (IntKind.wrap .i64 (x5 + (ByteArray.size r1.2.1 : Int))) ([] ++ [(r1.1, (⟨#[]⟩ : ByteArray), r1.2.2.1, r1.2.2.2.1, ())])) (none)) (iteB (decide ((List.length ([] ++ [r1])) * 40 ≤ lim)) (impl_Tokens.l5b k m5 x0 (IntKind.wrap .i64 (x5 + (ByteArray.size r1.2.1 : Int))) ([] ++ [r1])) (none)))) := by kernel_rfl
theorem impl_Tokens.l5b_0 (k : Nat) (x0 : ByteArray) (x5 : Int) (y0 : List (Int × ByteArray × Int × Int × Unit)) : impl_Tokens.l5b k 0 x0 x5 y0 = none := by kernel_rfl
theorem impl_Tokens.l5b_s (k n : Nat) (x0 : ByteArray) (x5 : Int) (y0 : List (Int × ByteArray × Int × Int × Unit)) : impl_Tokens.l5b k (n + 1) x0 x5 y0 =
  iteB (decide (x5 < (ByteArray.size x0 : Int))) (iteB (decide (0 ≤ x5)) (iteB (decide (x5 < (ByteArray.size x0 : Int))) (iteB (!((byteAt x0 (Int.toNat x5)) == 32)) (iteB (decide (0 ≤ x5)) (iteB (decide (x5 < (ByteArray.size x0 : Int))) (iteB ((byteAt x0 (Int.toNat x5)) == 10) (impl_Tokens.l5b k n x0 (IntKind.wrap .i64 (x5 + 1)) y0) (gate k (impl_Tokens.j8b k n x0 x5 y0))) (none)) (none)) (impl_Tokens.l5b k n x0 (IntKind.wrap .i64 (x5 + 1)) y0)) (none)) (none)) (iteB (decide ((List.length (y0 ++ [(0, ByteArray.empty, 0, (ByteArray.size x0 : Int), ())])) * 40 ≤ lim)) (some (y0 ++ [(0, ByteArray.empty, 0, (ByteArray.size x0 : Int), ())], (-1), ())) (none)) := by kernel_rfl
theorem impl_Tokens.j8b_e (k m5 : Nat) (x0 : ByteArray) (x5 : Int) (y0 : List (Int × ByteArray × Int × Int × Unit)) : impl_Tokens.j8b k m5 x0 x5 y0 =
  bindO (impl_token k x0 x5) fun r2 => (iteB (r2.1 == 0) (some ([], x5, ())) (iteB (r2.1 == 2) (iteB (decide ((List.length (y0 ++ [(r2.1, (⟨#[]⟩ : ByteArray), r2.2.2.1, r2.2.2.2.1, ())])) * 40 ≤ lim)) (impl_Tokens.l5b k m5 x0 (IntKind.wrap .i64 (x5 + (ByteArray.size r2.2.1 : Int))) (y0 ++ [(r2.1, (⟨#[]⟩ : ByteArray), r2.2.2.1, r2.2.2.2.1, ())])) (none)) (iteB (decide ((List.length (y0 ++ [r2])) * 40 ≤ lim)) (impl_Tokens.l5b k m5 x0 (IntKind.wrap .i64 (x5 + (ByteArray.size r2.2.1 : Int))) (y0 ++ [r2])) (none)))) := by kernel_rfl
theorem impl_Tokens_e (k : Nat) (a1 : ByteArray) : impl_Tokens k a1 =
  iteB (decide ((ByteArray.size a1 : Int) > 6000)) (some ([], 0, ())) (impl_Tokens.l5 k k a1 0) := by kernel_rfl
theorem E_impl_Tokens_calls (k : Nat) : CallsOk Try.prog (E_impl_Tokens k) (arun Try.prog (E_impl_Tokens k) k) := by
  refine told_run (tyTOk _ _) ?_ (fun run h => regOk (tyTOk _ _) mixOk h) ?_ nameOk k
  · intro g m hg
    simp only [E_impl_Tokens] at hg
    split at hg
    · cases hg
      refine con_byVal fun ρ l K x hm => ?_
      split at hm
      · obtain ⟨c1, h1, hm⟩ := Option.bind_eq_some_iff.1 hm
        obtain ⟨c2, h2, hm⟩ := Option.bind_eq_some_iff.1 hm
        obtain ⟨r, hr, hm⟩ := Option.bind_eq_some_iff.1 hm
        exact ⟨_, hm, LawV.reads (.cons (.as h1) (.cons (.as h2) .nil)) (impl_token_law k c1 c2 r hr)⟩
      · cases hm
    · cases hg; exact noCon_ok
    · cases hg
  · intro g hg r
    by_cases h : g = 8
    · subst h; simp [E_impl_Tokens] at hg
    · simp [E_impl_Tokens, h]
theorem f8_okimpl_Tokens : Try.prog.funcs[8]? = some Try.f8 := by kernel_rfl
theorem impl_Tokens_law (k : Nat) (a1 : ByteArray) (x : (List (Int × ByteArray × Int × Int × Unit)) × Int × Unit) (h : impl_Tokens k a1 = some x) : LawV Try.prog 8 [.str a1] (.tup (outs (.pair (.row (.pair (.int .i64) (.pair .str (.pair (.int .i64) (.pair (.int .i64) .unit))))) (.pair (.int .i64) .unit)) x)) := by
  unfold impl_Tokens at h
  exact lawN (t := (.pair (.row (.pair (.int .i64) (.pair .str (.pair (.int .i64) (.pair (.int .i64) .unit))))) (.pair (.int .i64) .unit))) (tyTOk _ _) (E_impl_Tokens_calls k) mixOk f8_okimpl_Tokens (nameOk _ _ f8_okimpl_Tokens) (by kernel_rfl) h
/-! spec.l5Letter -/
noncomputable def E_spec_l5Letter (k : Nat) : Env := ⟨ty, fun _ => none, fun _ _ => none⟩
noncomputable def spec_l5Letter (k : Nat) (a1 : Int) : Option (Bool) :=
  abody (E_spec_l5Letter k) (arun Try.prog (E_spec_l5Letter k) k) k 79 Try.f79 [.int .u8 a1] [] (fin1 .bool)
theorem spec_l5Letter_e (k : Nat) (a1 : Int) : spec_l5Letter k a1 =
  iteB (decide (a1 ≥ 97)) (iteB (!(decide (a1 ≤ 122))) (iteB (decide (a1 ≥ 65)) (some (decide (a1 ≤ 90))) (some false)) (some true)) (iteB (decide (a1 ≥ 65)) (some (decide (a1 ≤ 90))) (some false)) := by kernel_rfl
theorem E_spec_l5Letter_calls (k : Nat) : CallsOk Try.prog (E_spec_l5Letter k) (arun Try.prog (E_spec_l5Letter k) k) := by
  refine told_run (tyTOk _ _) ?_ (fun run h => regOk (tyTOk _ _) mixOk h) ?_ nameOk k
  · intro g m hg
    cases hg
  · intro g _ r; rfl
theorem f79_okspec_l5Letter : Try.prog.funcs[79]? = some Try.f79 := by kernel_rfl
theorem spec_l5Letter_law (k : Nat) (a1 : Int) (x : Bool) (h : spec_l5Letter k a1 = some x) : LawV Try.prog 79 [.int .u8 a1] (tvn .bool x) := by
  unfold spec_l5Letter at h
  exact law1 (t := .bool) (tyTOk _ _) (E_spec_l5Letter_calls k) mixOk f79_okspec_l5Letter (nameOk _ _ f79_okspec_l5Letter) (by kernel_rfl) h
/-! spec.l5Digit -/
noncomputable def E_spec_l5Digit (k : Nat) : Env := ⟨ty, fun _ => none, fun _ _ => none⟩
noncomputable def spec_l5Digit (k : Nat) (a1 : Int) : Option (Bool) :=
  abody (E_spec_l5Digit k) (arun Try.prog (E_spec_l5Digit k) k) k 80 Try.f80 [.int .u8 a1] [] (fin1 .bool)
theorem spec_l5Digit_e (k : Nat) (a1 : Int) : spec_l5Digit k a1 =
  iteB (decide (a1 ≥ 48)) (some (decide (a1 ≤ 57))) (some false) := by kernel_rfl
theorem E_spec_l5Digit_calls (k : Nat) : CallsOk Try.prog (E_spec_l5Digit k) (arun Try.prog (E_spec_l5Digit k) k) := by
  refine told_run (tyTOk _ _) ?_ (fun run h => regOk (tyTOk _ _) mixOk h) ?_ nameOk k
  · intro g m hg
    cases hg
  · intro g _ r; rfl
theorem f80_okspec_l5Digit : Try.prog.funcs[80]? = some Try.f80 := by kernel_rfl
theorem spec_l5Digit_law (k : Nat) (a1 : Int) (x : Bool) (h : spec_l5Digit k a1 = some x) : LawV Try.prog 80 [.int .u8 a1] (tvn .bool x) := by
  unfold spec_l5Digit at h
  exact law1 (t := .bool) (tyTOk _ _) (E_spec_l5Digit_calls k) mixOk f80_okspec_l5Digit (nameOk _ _ f80_okspec_l5Digit) (by kernel_rfl) h
end Go.Proofs.Yteojdaobpjhddaa.XFnTokens
