/- Functions of the program as runs of the interpreter: equations, and a law for each. -/
import Derived.Test.YtkingfejeangbaaProg
import Derived.Test.YtkingfejeangbaaChecked
import Derived.KernelRfl
import Derived.Eval
import Derived.Test.YtkingfejeangbaaATyOk
import Derived.Test.YtkingfejeangbaaAS40
import Derived.Test.YtkingfejeangbaaAS43
import Derived.Test.YtkingfejeangbaaAShelf
import Derived.Lib.RowBridge
import Derived.Test.YtkingfejeangbaaAS42
open Go Go.AM Go.AMx Go.Proofs
namespace Go.Proofs.Ytkingfejeangbaa.XFnExactTokens
set_option linter.unusedVariables false
set_option linter.unusedSimpArgs false
/-! spec.l5Letter -/
noncomputable def E_spec_l5Letter (k : Nat) : Env := ⟨ty, fun _ => none, fun _ _ => none⟩
noncomputable def spec_l5Letter (k : Nat) (a1 : Int) : Option (Bool) :=
  abody (E_spec_l5Letter k) (arun Try.prog (E_spec_l5Letter k) k) k 47 Try.f47 [.int .u8 a1] [] (fin1 .bool)
theorem spec_l5Letter_e (k : Nat) (a1 : Int) : spec_l5Letter k a1 =
  iteB (decide (a1 ≥ 97)) (iteB (!(decide (a1 ≤ 122))) (iteB (decide (a1 ≥ 65)) (some (decide (a1 ≤ 90))) (some false)) (some true)) (iteB (decide (a1 ≥ 65)) (some (decide (a1 ≤ 90))) (some false)) := by kernel_rfl
theorem E_spec_l5Letter_calls (k : Nat) : CallsOk Try.prog (E_spec_l5Letter k) (arun Try.prog (E_spec_l5Letter k) k) := by
  refine told_run (tyTOk _ _) ?_ (fun run h => regOk (tyTOk _ _) mixOk h) ?_ nameOk k
  · intro g m hg
    cases hg
  · intro g _ r; rfl
theorem f47_okspec_l5Letter : Try.prog.funcs[47]? = some Try.f47 := by kernel_rfl
theorem spec_l5Letter_law (k : Nat) (a1 : Int) (x : Bool) (h : spec_l5Letter k a1 = some x) : LawV Try.prog 47 [.int .u8 a1] (tvn .bool x) := by
  unfold spec_l5Letter at h
  exact law1 (t := .bool) (tyTOk _ _) (E_spec_l5Letter_calls k) mixOk f47_okspec_l5Letter (nameOk _ _ f47_okspec_l5Letter) (by kernel_rfl) h
/-! spec.l5Digit -/
noncomputable def E_spec_l5Digit (k : Nat) : Env := ⟨ty, fun _ => none, fun _ _ => none⟩
noncomputable def spec_l5Digit (k : Nat) (a1 : Int) : Option (Bool) :=
  abody (E_spec_l5Digit k) (arun Try.prog (E_spec_l5Digit k) k) k 48 Try.f48 [.int .u8 a1] [] (fin1 .bool)
theorem spec_l5Digit_e (k : Nat) (a1 : Int) : spec_l5Digit k a1 =
  iteB (decide (a1 ≥ 48)) (some (decide (a1 ≤ 57))) (some false) := by kernel_rfl
theorem E_spec_l5Digit_calls (k : Nat) : CallsOk Try.prog (E_spec_l5Digit k) (arun Try.prog (E_spec_l5Digit k) k) := by
  refine told_run (tyTOk _ _) ?_ (fun run h => regOk (tyTOk _ _) mixOk h) ?_ nameOk k
  · intro g m hg
    cases hg
  · intro g _ r; rfl
theorem f48_okspec_l5Digit : Try.prog.funcs[48]? = some Try.f48 := by kernel_rfl
theorem spec_l5Digit_law (k : Nat) (a1 : Int) (x : Bool) (h : spec_l5Digit k a1 = some x) : LawV Try.prog 48 [.int .u8 a1] (tvn .bool x) := by
  unfold spec_l5Digit at h
  exact law1 (t := .bool) (tyTOk _ _) (E_spec_l5Digit_calls k) mixOk f48_okspec_l5Digit (nameOk _ _ f48_okspec_l5Digit) (by kernel_rfl) h
/-! spec.l5Sign -/
noncomputable def E_spec_l5Sign (k : Nat) : Env := ⟨ty, fun g => match g with
  | 50 => some noCon
  | _ => none, fun f r => match f with | 50 => (match r with | 3 => some [0, 1] | 5 => some [0, 1, 5, 6] | _ => none) | _ => none⟩
noncomputable def spec_l5Sign (k : Nat) (a1 : ByteArray) (a2 : Int) : Option (ByteArray) :=
  abody (E_spec_l5Sign k) (arun Try.prog (E_spec_l5Sign k) k) k 50 Try.f50 [.str a1, .int .i64 a2] [] (fin1 .str)
noncomputable def spec_l5Sign.j3 (k : Nat) (x0 : ByteArray) (x1 : Int) : Option (ByteArray) :=
  resume (E_spec_l5Sign k) 50 (acall (E_spec_l5Sign k) (arun Try.prog (E_spec_l5Sign k) k)) k [true, true] [] (bodyOf Try.f50) ⟨[.str x0, .int .i64 x1, .undef, .undef, .undef, .undef, .undef, .undef, .undef, .undef, .undef, .undef, .undef, .undef, .undef, .undef, .undef, .undef, .undef, .undef, .undef, .undef, .undef, .undef, .undef, .undef, .undef, .undef, .undef, .undef, .undef, .undef, .undef, .undef, .undef, .undef, .undef, .undef, .undef, .undef, .undef, .undef, .undef], []⟩ (leave (E_spec_l5Sign k) Try.f50 (fin1 .str))
noncomputable def spec_l5Sign.l5 (k n : Nat) (x0 : ByteArray) (x1 : Int) (x5 : ByteArray) (x6 : Int) : Option (ByteArray) :=
  resume (E_spec_l5Sign k) 50 (acall (E_spec_l5Sign k) (arun Try.prog (E_spec_l5Sign k) k)) k [true, true, true, false, true, true] [n] (bodyOf Try.f50) ⟨[.str x0, .int .i64 x1, .undef, .undef, .undef, .str x5, .int .i64 x6, .undef, .undef, .undef, .undef, .undef, .undef, .undef, .undef, .undef, .undef, .undef, .undef, .undef, .undef, .undef, .undef, .undef, .undef, .undef, .undef, .undef, .undef, .undef, .undef, .undef, .undef, .undef, .undef, .undef, .undef, .undef, .undef, .undef, .undef, .undef, .undef], []⟩ (leave (E_spec_l5Sign k) Try.f50 (fin1 .str))
theorem spec_l5Sign.j3_e (k : Nat) (x0 : ByteArray) (x1 : Int) : spec_l5Sign.j3 k x0 x1 =
  spec_l5Sign.l5 k k x0 x1 (⟨#[40, 41, 123, 125, 44, 59, 61, 43, 45, 42, 60]⟩ : ByteArray) 0 := by kernel_rfl
theorem spec_l5Sign.l5_0 (k : Nat) (x0 : ByteArray) (x1 : Int) (x5 : ByteArray) (x6 : Int) : spec_l5Sign.l5 k 0 x0 x1 x5 x6 = none := by kernel_rfl
theorem spec_l5Sign.l5_s (k n : Nat) (x0 : ByteArray) (x1 : Int) (x5 : ByteArray) (x6 : Int) : spec_l5Sign.l5 k (n + 1) x0 x1 x5 x6 =
  iteB (decide (x6 < (ByteArray.size x5 : Int))) (iteB (decide (0 ≤ x6)) (iteB (decide (x6 < (ByteArray.size x5 : Int))) (iteB (decide (0 ≤ x1)) (iteB (decide (x1 < (ByteArray.size x0 : Int))) (iteB ((byteAt x5 (Int.toNat x6)) == (byteAt x0 (Int.toNat x1))) (iteB (decide (0 ≤ IntKind.wrap .i64 (x1 + 1))) (iteB (decide (IntKind.wrap .i64 (x1 + 1) ≤ (ByteArray.size x0 : Int))) (iteB (decide (0 ≤ x1)) (iteB (decide (x1 ≤ IntKind.wrap .i64 (x1 + 1))) (some (ByteArray.extract x0 (Int.toNat x1) (Int.toNat (IntKind.wrap .i64 (x1 + 1))))) (none)) (none)) (none)) (none)) (spec_l5Sign.l5 k n x0 x1 x5 (IntKind.wrap .i64 (x6 + 1)))) (none)) (none)) (none)) (none)) (some (⟨#[]⟩ : ByteArray)) := by kernel_rfl
theorem spec_l5Sign_e (k : Nat) (a1 : ByteArray) (a2 : Int) : spec_l5Sign k a1 a2 =
  iteB (decide (0 ≤ a2)) (iteB (decide (a2 < (ByteArray.size a1 : Int))) (iteB ((byteAt a1 (Int.toNat a2)) == 61) (iteB (decide (IntKind.wrap .i64 (a2 + 1) < (ByteArray.size a1 : Int))) (iteB (decide (0 ≤ IntKind.wrap .i64 (a2 + 1))) (iteB (decide (IntKind.wrap .i64 (a2 + 1) < (ByteArray.size a1 : Int))) (iteB ((byteAt a1 (Int.toNat (IntKind.wrap .i64 (a2 + 1)))) == 61) (some (⟨#[61, 61]⟩ : ByteArray)) (gate k (spec_l5Sign.j3 k a1 a2))) (none)) (none)) (gate k (spec_l5Sign.j3 k a1 a2))) (gate k (spec_l5Sign.j3 k a1 a2))) (none)) (none) := by kernel_rfl
theorem E_spec_l5Sign_calls (k : Nat) : CallsOk Try.prog (E_spec_l5Sign k) (arun Try.prog (E_spec_l5Sign k) k) := by
  refine told_run (tyTOk _ _) ?_ (fun run h => regOk (tyTOk _ _) mixOk h) ?_ nameOk k
  · intro g m hg
    simp only [E_spec_l5Sign] at hg
    split at hg
    · cases hg; exact noCon_ok
    · cases hg
  · intro g hg r
    by_cases h : g = 50
    · subst h; simp [E_spec_l5Sign] at hg
    · simp [E_spec_l5Sign, h]
theorem f50_okspec_l5Sign : Try.prog.funcs[50]? = some Try.f50 := by kernel_rfl
theorem spec_l5Sign_law (k : Nat) (a1 : ByteArray) (a2 : Int) (x : ByteArray) (h : spec_l5Sign k a1 a2 = some x) : LawV Try.prog 50 [.str a1, .int .i64 a2] (tvn .str x) := by
  unfold spec_l5Sign at h
  exact law1 (t := .str) (tyTOk _ _) (E_spec_l5Sign_calls k) mixOk f50_okspec_l5Sign (nameOk _ _ f50_okspec_l5Sign) (by kernel_rfl) h
/-! spec.l1In -/
noncomputable def E_spec_l1In (k : Nat) : Env := ⟨ty, fun _ => none, fun _ _ => none⟩
noncomputable def spec_l1In (k : Nat) (a1 : Int) (a2 : Int) (a3 : Int) : Option (Bool) :=
  abody (E_spec_l1In k) (arun Try.prog (E_spec_l1In k) k) k 35 Try.f35 [.int .i64 a1, .int .i64 a2, .int .i64 a3] [] (fin1 .bool)
theorem spec_l1In_e (k : Nat) (a1 : Int) (a2 : Int) (a3 : Int) : spec_l1In k a1 a2 a3 =
  iteB (decide (a1 ≥ a2)) (some (decide (a1 ≤ a3))) (some false) := by kernel_rfl
theorem E_spec_l1In_calls (k : Nat) : CallsOk Try.prog (E_spec_l1In k) (arun Try.prog (E_spec_l1In k) k) := by
  refine told_run (tyTOk _ _) ?_ (fun run h => regOk (tyTOk _ _) mixOk h) ?_ nameOk k
  · intro g m hg
    cases hg
  · intro g _ r; rfl
theorem f35_okspec_l1In : Try.prog.funcs[35]? = some Try.f35 := by kernel_rfl
theorem spec_l1In_law (k : Nat) (a1 : Int) (a2 : Int) (a3 : Int) (x : Bool) (h : spec_l1In k a1 a2 a3 = some x) : LawV Try.prog 35 [.int .i64 a1, .int .i64 a2, .int .i64 a3] (tvn .bool x) := by
  unfold spec_l1In at h
  exact law1 (t := .bool) (tyTOk _ _) (E_spec_l1In_calls k) mixOk f35_okspec_l1In (nameOk _ _ f35_okspec_l1In) (by kernel_rfl) h
/-! spec.WordOk -/
noncomputable def E_spec_WordOk (k : Nat) : Env := ⟨ty, fun g => match g with
  | 35 => some (byVal fun ρ l K => match l with
    | [b1, b2, b3] => (b1.as (.int .i64)).bind fun c1 => (b2.as (.int .i64)).bind fun c2 => (b3.as (.int .i64)).bind fun c3 => (spec_l1In k c1 c2 c3).bind fun r => K (tvn .bool r)
    | _ => none)
  | _ => none, fun _ _ => none⟩
noncomputable def spec_WordOk (k : Nat) (a1 : Int) : Option (Bool) :=
  abody (E_spec_WordOk k) (arun Try.prog (E_spec_WordOk k) k) k 37 Try.f37 [.int .i64 a1] [] (fin1 .bool)
theorem spec_WordOk_e (k : Nat) (a1 : Int) : spec_WordOk k a1 =
  bindO (spec_l1In k a1 (-2147483648) 2147483647) fun r1 => (some r1) := by kernel_rfl
theorem E_spec_WordOk_calls (k : Nat) : CallsOk Try.prog (E_spec_WordOk k) (arun Try.prog (E_spec_WordOk k) k) := by
  refine told_run (tyTOk _ _) ?_ (fun run h => regOk (tyTOk _ _) mixOk h) ?_ nameOk k
  · intro g m hg
    simp only [E_spec_WordOk] at hg
    split at hg
    · cases hg
      refine con_byVal fun ρ l K x hm => ?_
      split at hm
      · obtain ⟨c1, h1, hm⟩ := Option.bind_eq_some_iff.1 hm
        obtain ⟨c2, h2, hm⟩ := Option.bind_eq_some_iff.1 hm
        obtain ⟨c3, h3, hm⟩ := Option.bind_eq_some_iff.1 hm
        obtain ⟨r, hr, hm⟩ := Option.bind_eq_some_iff.1 hm
        exact ⟨_, hm, LawV.reads (.cons (.as h1) (.cons (.as h2) (.cons (.as h3) .nil))) (spec_l1In_law k c1 c2 c3 r hr)⟩
      · cases hm
    · cases hg
  · intro g _ r; rfl
theorem f37_okspec_WordOk : Try.prog.funcs[37]? = some Try.f37 := by kernel_rfl
theorem spec_WordOk_law (k : Nat) (a1 : Int) (x : Bool) (h : spec_WordOk k a1 = some x) : LawV Try.prog 37 [.int .i64 a1] (tvn .bool x) := by
  unfold spec_WordOk at h
  exact law1 (t := .bool) (tyTOk _ _) (E_spec_WordOk_calls k) mixOk f37_okspec_WordOk (nameOk _ _ f37_okspec_WordOk) (by kernel_rfl) h
/-! spec.Digits -/
noncomputable def E_spec_Digits (k : Nat) : Env := ⟨ty, fun g => match g with
  | 69 => some noCon
  | _ => none, fun f r => match f with | 69 => (match r with | 5 => some [0, 3, 4] | _ => none) | _ => none⟩
noncomputable def spec_Digits (k : Nat) (a1 : Int) : Option (ByteArray) :=
  abody (E_spec_Digits k) (arun Try.prog (E_spec_Digits k) k) k 69 Try.f69 [.int .i64 a1] [] (fin1 .str)
noncomputable def spec_Digits.l5 (k n : Nat) (x0 : Int) (x3 : Bool) (x4 : ByteArray) : Option (ByteArray) :=
  resume (E_spec_Digits k) 69 (acall (E_spec_Digits k) (arun Try.prog (E_spec_Digits k) k)) k [true, true, true, true, false, true] [n] (bodyOf Try.f69) ⟨[.int .i64 x0, .undef, .undef, .bool x3, .str x4, .undef, .undef, .undef, .undef, .undef, .undef, .undef, .undef, .undef, .undef, .undef, .undef, .undef, .undef, .undef, .undef, .undef, .undef, .undef, .undef, .undef, .undef, .undef, .undef, .undef, .undef], []⟩ (leave (E_spec_Digits k) Try.f69 (fin1 .str))
theorem spec_Digits.l5_0 (k : Nat) (x0 : Int) (x3 : Bool) (x4 : ByteArray) : spec_Digits.l5 k 0 x0 x3 x4 = none := by kernel_rfl
theorem spec_Digits.l5_s (k n : Nat) (x0 : Int) (x3 : Bool) (x4 : ByteArray) : spec_Digits.l5 k (n + 1) x0 x3 x4 =
  iteB (x0 != 0) (iteB (decide (Int.tmod x0 10 < 0)) (iteB (decide (ByteArray.size (bytesVal [IntKind.wrap .u8 (IntKind.wrap .i64 (48 + (IntKind.wrap .i64 (0 - (Int.tmod x0 10)))))]) + ByteArray.size x4 ≤ 9223372036854775807)) (spec_Digits.l5 k n (IntKind.wrap .i64 (Int.tdiv x0 10)) x3 ((bytesVal [IntKind.wrap .u8 (IntKind.wrap .i64 (48 + (IntKind.wrap .i64 (0 - (Int.tmod x0 10)))))]) ++ x4)) (none)) (iteB (decide (ByteArray.size (bytesVal [IntKind.wrap .u8 (IntKind.wrap .i64 (48 + (Int.tmod x0 10)))]) + ByteArray.size x4 ≤ 9223372036854775807)) (spec_Digits.l5 k n (IntKind.wrap .i64 (Int.tdiv x0 10)) x3 ((bytesVal [IntKind.wrap .u8 (IntKind.wrap .i64 (48 + (Int.tmod x0 10)))]) ++ x4)) (none))) (iteB x3 (iteB (decide (ByteArray.size (⟨#[45]⟩ : ByteArray) + ByteArray.size x4 ≤ 9223372036854775807)) (some ((⟨#[45]⟩ : ByteArray) ++ x4)) (none)) (some x4)) := by kernel_rfl
theorem spec_Digits_e (k : Nat) (a1 : Int) : spec_Digits k a1 =
  iteB (a1 == 0) (some (⟨#[48]⟩ : ByteArray)) (spec_Digits.l5 k k a1 (decide (a1 < 0)) (⟨#[]⟩ : ByteArray)) := by kernel_rfl
theorem E_spec_Digits_calls (k : Nat) : CallsOk Try.prog (E_spec_Digits k) (arun Try.prog (E_spec_Digits k) k) := by
  refine told_run (tyTOk _ _) ?_ (fun run h => regOk (tyTOk _ _) mixOk h) ?_ nameOk k
  · intro g m hg
    simp only [E_spec_Digits] at hg
    split at hg
    · cases hg; exact noCon_ok
    · cases hg
  · intro g hg r
    by_cases h : g = 69
    · subst h; simp [E_spec_Digits] at hg
    · simp [E_spec_Digits, h]
theorem f69_okspec_Digits : Try.prog.funcs[69]? = some Try.f69 := by kernel_rfl
theorem spec_Digits_law (k : Nat) (a1 : Int) (x : ByteArray) (h : spec_Digits k a1 = some x) : LawV Try.prog 69 [.int .i64 a1] (tvn .str x) := by
  unfold spec_Digits at h
  exact law1 (t := .str) (tyTOk _ _) (E_spec_Digits_calls k) mixOk f69_okspec_Digits (nameOk _ _ f69_okspec_Digits) (by kernel_rfl) h
/-! spec.Number -/
noncomputable def E_spec_Number (k : Nat) : Env := ⟨ty, fun g => match g with
  | 37 => some (byVal fun ρ l K => match l with
    | [b1] => (b1.as (.int .i64)).bind fun c1 => (spec_WordOk k c1).bind fun r => K (tvn .bool r)
    | _ => none)
  | 69 => some (byVal fun ρ l K => match l with
    | [b1] => (b1.as (.int .i64)).bind fun c1 => (spec_Digits k c1).bind fun r => K (tvn .str r)
    | _ => none)
  | 49 => some noCon
  | _ => none, fun f r => match f with | 49 => (match r with | 4 => some [0, 4] | 6 => some [0, 4] | 8 => some [0, 4, 5, 6] | 15 => some [0, 5] | _ => none) | _ => none⟩
noncomputable def spec_Number (k : Nat) (a1 : ByteArray) : Option (Int × Bool × Unit) :=
  abody (E_spec_Number k) (arun Try.prog (E_spec_Number k) k) k 49 Try.f49 [.str a1] [] (finN (.pair (.int .i64) (.pair .bool .unit)))
noncomputable def spec_Number.j4 (k : Nat) (x0 : ByteArray) (x4 : Int) : Option (Int × Bool × Unit) :=
  resume (E_spec_Number k) 49 (acall (E_spec_Number k) (arun Try.prog (E_spec_Number k) k)) k [true, true, true] [] (bodyOf Try.f49) ⟨[.str x0, .undef, .undef, .undef, .int .i64 x4, .undef, .undef, .undef, .undef, .undef, .undef, .undef, .undef, .undef, .undef, .undef, .undef, .undef, .undef, .undef, .undef, .undef, .undef, .undef, .undef, .undef, .undef, .undef, .undef, .undef, .undef, .undef, .undef, .undef, .undef, .undef, .undef, .undef, .undef, .undef, .undef, .undef, .undef, .undef, .undef, .undef, .undef, .undef, .undef, .undef, .undef, .undef, .undef, .undef, .undef, .undef, .undef, .undef, .undef, .undef, .undef, .undef, .undef, .undef, .undef], []⟩ (leave (E_spec_Number k) Try.f49 (finN (.pair (.int .i64) (.pair .bool .unit))))
noncomputable def spec_Number.j6 (k : Nat) (x0 : ByteArray) (x4 : Int) : Option (Int × Bool × Unit) :=
  resume (E_spec_Number k) 49 (acall (E_spec_Number k) (arun Try.prog (E_spec_Number k) k)) k [true, true, true, true] [] (bodyOf Try.f49) ⟨[.str x0, .undef, .undef, .undef, .int .i64 x4, .undef, .undef, .undef, .undef, .undef, .undef, .undef, .undef, .undef, .undef, .undef, .undef, .undef, .undef, .undef, .undef, .undef, .undef, .undef, .undef, .undef, .undef, .undef, .undef, .undef, .undef, .undef, .undef, .undef, .undef, .undef, .undef, .undef, .undef, .undef, .undef, .undef, .undef, .undef, .undef, .undef, .undef, .undef, .undef, .undef, .undef, .undef, .undef, .undef, .undef, .undef, .undef, .undef, .undef, .undef, .undef, .undef, .undef, .undef, .undef], []⟩ (leave (E_spec_Number k) Try.f49 (finN (.pair (.int .i64) (.pair .bool .unit))))
noncomputable def spec_Number.l8 (k n : Nat) (x0 : ByteArray) (x4 : Int) (x5 : Int) (x6 : Int) : Option (Int × Bool × Unit) :=
  resume (E_spec_Number k) 49 (acall (E_spec_Number k) (arun Try.prog (E_spec_Number k) k)) k [true, true, true, true, true, false, true, true] [n] (bodyOf Try.f49) ⟨[.str x0, .undef, .undef, .undef, .int .i64 x4, .int .i64 x5, .int .i64 x6, .undef, .undef, .undef, .undef, .undef, .undef, .undef, .undef, .undef, .undef, .undef, .undef, .undef, .undef, .undef, .undef, .undef, .undef, .undef, .undef, .undef, .undef, .undef, .undef, .undef, .undef, .undef, .undef, .undef, .undef, .undef, .undef, .undef, .undef, .undef, .undef, .undef, .undef, .undef, .undef, .undef, .undef, .undef, .undef, .undef, .undef, .undef, .undef, .undef, .undef, .undef, .undef, .undef, .undef, .undef, .undef, .undef, .undef], []⟩ (leave (E_spec_Number k) Try.f49 (finN (.pair (.int .i64) (.pair .bool .unit))))
noncomputable def spec_Number.j15 (k : Nat) (x0 : ByteArray) (x5 : Int) : Option (Int × Bool × Unit) :=
  resume (E_spec_Number k) 49 (acall (E_spec_Number k) (arun Try.prog (E_spec_Number k) k)) k [true, true, true, true, true, true, true] [] (bodyOf Try.f49) ⟨[.str x0, .undef, .undef, .undef, .undef, .int .i64 x5, .undef, .undef, .undef, .undef, .undef, .undef, .undef, .undef, .undef, .undef, .undef, .undef, .undef, .undef, .undef, .undef, .undef, .undef, .undef, .undef, .undef, .undef, .undef, .undef, .undef, .undef, .undef, .undef, .undef, .undef, .undef, .undef, .undef, .undef, .undef, .undef, .undef, .undef, .undef, .undef, .undef, .undef, .undef, .undef, .undef, .undef, .undef, .undef, .undef, .undef, .undef, .undef, .undef, .undef, .undef, .undef, .undef, .undef, .undef], []⟩ (leave (E_spec_Number k) Try.f49 (finN (.pair (.int .i64) (.pair .bool .unit))))
theorem spec_Number.j4_e (k : Nat) (x0 : ByteArray) (x4 : Int) : spec_Number.j4 k x0 x4 =
  iteB (!(decide (IntKind.wrap .i64 ((ByteArray.size x0 : Int) - x4) < 1))) (iteB (decide (IntKind.wrap .i64 ((ByteArray.size x0 : Int) - x4) > 10)) (some (0, false, ())) (gate k (spec_Number.j6 k x0 x4))) (some (0, false, ())) := by kernel_rfl
theorem spec_Number.j6_e (k : Nat) (x0 : ByteArray) (x4 : Int) : spec_Number.j6 k x0 x4 =
  spec_Number.l8 k k x0 x4 0 x4 := by kernel_rfl
theorem spec_Number.l8_0 (k : Nat) (x0 : ByteArray) (x4 : Int) (x5 : Int) (x6 : Int) : spec_Number.l8 k 0 x0 x4 x5 x6 = none := by kernel_rfl
theorem spec_Number.l8_s (k n : Nat) (x0 : ByteArray) (x4 : Int) (x5 : Int) (x6 : Int) : spec_Number.l8 k (n + 1) x0 x4 x5 x6 =
  iteB (decide (x6 < (ByteArray.size x0 : Int))) (iteB (decide (0 ≤ x6)) (iteB (decide (x6 < (ByteArray.size x0 : Int))) (iteB (!(decide (byteAt x0 (Int.toNat x6) < 48))) (iteB (decide (0 ≤ x6)) (iteB (decide (x6 < (ByteArray.size x0 : Int))) (iteB (decide (byteAt x0 (Int.toNat x6) > 57)) (some (0, false, ())) (iteB (decide (0 ≤ x6)) (iteB (decide (x6 < (ByteArray.size x0 : Int))) (spec_Number.l8 k n x0 x4 (IntKind.wrap .i64 ((IntKind.wrap .i64 ((IntKind.wrap .i64 (10 * x5)) + (IntKind.wrap .i64 (byteAt x0 (Int.toNat x6))))) - 48)) (IntKind.wrap .i64 (x6 + 1))) (none)) (none))) (none)) (none)) (some (0, false, ()))) (none)) (none)) (iteB (x4 == 1) (gate k (spec_Number.j15 k x0 (IntKind.wrap .i64 (0 - x5)))) (gate k (spec_Number.j15 k x0 x5))) := by kernel_rfl
theorem spec_Number.j15_e (k : Nat) (x0 : ByteArray) (x5 : Int) : spec_Number.j15 k x0 x5 =
  bindO (spec_WordOk k x5) fun r1 => (iteB (!(!r1)) (bindO (spec_Digits k x5) fun r2 => (iteB (!(ByteArray.toList r2 == ByteArray.toList x0)) (some (0, false, ())) (some (x5, true, ())))) (some (0, false, ()))) := by kernel_rfl
theorem spec_Number_e (k : Nat) (a1 : ByteArray) : spec_Number k a1 =
  iteB (!(ByteArray.toList a1 == ByteArray.toList (⟨#[]⟩ : ByteArray))) (iteB (decide (0 < (ByteArray.size a1 : Int))) (iteB ((byteAt a1 0) == 45) (gate k (spec_Number.j4 k a1 1)) (gate k (spec_Number.j4 k a1 0))) (none)) (gate k (spec_Number.j4 k a1 0)) := by kernel_rfl
theorem E_spec_Number_calls (k : Nat) : CallsOk Try.prog (E_spec_Number k) (arun Try.prog (E_spec_Number k) k) := by
  refine told_run (tyTOk _ _) ?_ (fun run h => regOk (tyTOk _ _) mixOk h) ?_ nameOk k
  · intro g m hg
    simp only [E_spec_Number] at hg
    split at hg
    · cases hg
      refine con_byVal fun ρ l K x hm => ?_
      split at hm
      · obtain ⟨c1, h1, hm⟩ := Option.bind_eq_some_iff.1 hm
        obtain ⟨r, hr, hm⟩ := Option.bind_eq_some_iff.1 hm
        exact ⟨_, hm, LawV.reads (.cons (.as h1) .nil) (spec_WordOk_law k c1 r hr)⟩
      · cases hm
    · cases hg
      refine con_byVal fun ρ l K x hm => ?_
      split at hm
      · obtain ⟨c1, h1, hm⟩ := Option.bind_eq_some_iff.1 hm
        obtain ⟨r, hr, hm⟩ := Option.bind_eq_some_iff.1 hm
        exact ⟨_, hm, LawV.reads (.cons (.as h1) .nil) (spec_Digits_law k c1 r hr)⟩
      · cases hm
    · cases hg; exact noCon_ok
    · cases hg
  · intro g hg r
    by_cases h : g = 49
    · subst h; simp [E_spec_Number] at hg
    · simp [E_spec_Number, h]
theorem f49_okspec_Number : Try.prog.funcs[49]? = some Try.f49 := by kernel_rfl
theorem spec_Number_law (k : Nat) (a1 : ByteArray) (x : Int × Bool × Unit) (h : spec_Number k a1 = some x) : LawV Try.prog 49 [.str a1] (.tup (outs (.pair (.int .i64) (.pair .bool .unit)) x)) := by
  unfold spec_Number at h
  exact lawN (t := (.pair (.int .i64) (.pair .bool .unit))) (tyTOk _ _) (E_spec_Number_calls k) mixOk f49_okspec_Number (nameOk _ _ f49_okspec_Number) (by kernel_rfl) h
/-! spec.l5One -/
noncomputable def E_spec_l5One (k : Nat) : Env := ⟨ty, fun g => match g with
  | 47 => some (byVal fun ρ l K => match l with
    | [b1] => (b1.as (.int .u8)).bind fun c1 => (spec_l5Letter k c1).bind fun r => K (tvn .bool r)
    | _ => none)
  | 48 => some (byVal fun ρ l K => match l with
    | [b1] => (b1.as (.int .u8)).bind fun c1 => (spec_l5Digit k c1).bind fun r => K (tvn .bool r)
    | _ => none)
  | 50 => some (byVal fun ρ l K => match l with
    | [b1, b2] => (b1.as .str).bind fun c1 => (b2.as (.int .i64)).bind fun c2 => (spec_l5Sign k c1 c2).bind fun r => K (tvn .str r)
    | _ => none)
  | 49 => some (byVal fun ρ l K => match l with
    | [b1] => (b1.as .str).bind fun c1 => (spec_Number k c1).bind fun r => K (.tup (outs (.pair (.int .i64) (.pair .bool .unit)) r))
    | _ => none)
  | 38 => some noCon
  | _ => none, fun f r => match f with | 38 => (match r with | 3 => some [0, 1, 4, 7] | 7 => some [0, 1, 4, 7] | _ => none) | _ => none⟩
noncomputable def spec_l5One (k : Nat) (a1 : ByteArray) (a2 : Int) : Option ((Int × ByteArray × Int × Int × Unit) × Int × Bool × Unit) :=
  abody (E_spec_l5One k) (arun Try.prog (E_spec_l5One k) k) k 38 Try.f38 [.str a1, .int .i64 a2] [] (finN (.pair (.pair (.int .i64) (.pair .str (.pair (.int .i64) (.pair (.int .i64) .unit)))) (.pair (.int .i64) (.pair .bool .unit))))
noncomputable def spec_l5One.l3 (k n : Nat) (x0 : ByteArray) (x1 : Int) (x7 : Int) (y0_0_0 : Int) (y0_0_1 : ByteArray) (y0_0_2 : Int) (y0_0_3 : Int) : Option ((Int × ByteArray × Int × Int × Unit) × Int × Bool × Unit) :=
  resume (E_spec_l5One k) 38 (acall (E_spec_l5One k) (arun Try.prog (E_spec_l5One k) k)) k [true, true, false, true, true, false, false, true] [n] (bodyOf Try.f38) ⟨[.str x0, .int .i64 x1, .undef, .undef, .ptr 0 0 0, .undef, .undef, .int .i64 x7, .undef, .undef, .undef, .undef, .undef, .undef, .undef, .undef, .undef, .undef, .undef, .undef, .undef, .undef, .undef, .undef, .undef, .undef, .undef, .undef, .undef, .undef, .undef, .undef, .undef, .undef, .undef, .undef, .undef, .undef, .undef, .undef, .undef, .undef, .undef, .undef, .undef, .undef, .undef, .undef, .undef, .undef, .undef, .undef, .undef, .undef, .undef, .undef, .undef, .undef, .undef, .undef, .undef, .undef, .undef, .undef, .undef, .undef, .undef, .undef, .undef, .undef, .undef, .undef, .undef, .undef, .undef, .undef, .undef, .undef, .undef, .undef, .undef, .undef], [some ⟨.raw true 4 (.agg [.int .i64 0, .str ByteArray.empty, .int .i64 0, .int .i64 0]) [.agg [.int .i64 y0_0_0, .str y0_0_1, .int .i64 y0_0_2, .int .i64 y0_0_3]], true⟩]⟩ (leave (E_spec_l5One k) Try.f38 (finN (.pair (.pair (.int .i64) (.pair .str (.pair (.int .i64) (.pair (.int .i64) .unit)))) (.pair (.int .i64) (.pair .bool .unit)))))
noncomputable def spec_l5One.l7 (k n : Nat) (x0 : ByteArray) (x1 : Int) (x7 : Int) (y0_0_0 : Int) (y0_0_1 : ByteArray) (y0_0_2 : Int) (y0_0_3 : Int) : Option ((Int × ByteArray × Int × Int × Unit) × Int × Bool × Unit) :=
  resume (E_spec_l5One k) 38 (acall (E_spec_l5One k) (arun Try.prog (E_spec_l5One k) k)) k [true, true, false, true, true, true, true, false, false, true] [n] (bodyOf Try.f38) ⟨[.str x0, .int .i64 x1, .undef, .undef, .ptr 0 0 0, .undef, .undef, .int .i64 x7, .undef, .undef, .undef, .undef, .undef, .undef, .undef, .undef, .undef, .undef, .undef, .undef, .undef, .undef, .undef, .undef, .undef, .undef, .undef, .undef, .undef, .undef, .undef, .undef, .undef, .undef, .undef, .undef, .undef, .undef, .undef, .undef, .undef, .undef, .undef, .undef, .undef, .undef, .undef, .undef, .undef, .undef, .undef, .undef, .undef, .undef, .undef, .undef, .undef, .undef, .undef, .undef, .undef, .undef, .undef, .undef, .undef, .undef, .undef, .undef, .undef, .undef, .undef, .undef, .undef, .undef, .undef, .undef, .undef, .undef, .undef, .undef, .undef, .undef], [some ⟨.raw true 4 (.agg [.int .i64 0, .str ByteArray.empty, .int .i64 0, .int .i64 0]) [.agg [.int .i64 y0_0_0, .str y0_0_1, .int .i64 y0_0_2, .int .i64 y0_0_3]], true⟩]⟩ (leave (E_spec_l5One k) Try.f38 (finN (.pair (.pair (.int .i64) (.pair .str (.pair (.int .i64) (.pair (.int .i64) .unit)))) (.pair (.int .i64) (.pair .bool .unit)))))
theorem spec_l5One.l3_0 (k : Nat) (x0 : ByteArray) (x1 : Int) (x7 : Int) (y0_0_0 : Int) (y0_0_1 : ByteArray) (y0_0_2 : Int) (y0_0_3 : Int) : spec_l5One.l3 k 0 x0 x1 x7 y0_0_0 y0_0_1 y0_0_2 y0_0_3 = none := by kernel_rfl
theorem spec_l5One.l3_s (k n : Nat) (x0 : ByteArray) (x1 : Int) (x7 : Int) (y0_0_0 : Int) (y0_0_1 : ByteArray) (y0_0_2 : Int) (y0_0_3 : Int) : spec_l5One.l3 k (n + 1) x0 x1 x7 y0_0_0 y0_0_1 y0_0_2 y0_0_3 =
  iteB (decide (x7 < (ByteArray.size x0 : Int))) (iteB (decide (0 ≤ x7)) (iteB (decide (x7 < (ByteArray.size x0 : Int))) (bindO (spec_l5Letter k (byteAt x0 (Int.toNat x7))) fun r4 => (iteB r4 (spec_l5One.l3 k n x0 x1 (IntKind.wrap .i64 (x7 + 1)) y0_0_0 y0_0_1 y0_0_2 y0_0_3) (iteB (decide (0 ≤ x7)) (iteB (decide (x7 ≤ (ByteArray.size x0 : Int))) (iteB (decide (0 ≤ x1)) (iteB (decide (x1 ≤ x7)) (some ((1, ByteArray.extract x0 (Int.toNat x1) (Int.toNat x7), 0, x1, ()), x7, decide (IntKind.wrap .i64 (x7 - x1) ≤ 10), ())) (none)) (none)) (none)) (none)))) (none)) (none)) (iteB (decide (0 ≤ x7)) (iteB (decide (x7 ≤ (ByteArray.size x0 : Int))) (iteB (decide (0 ≤ x1)) (iteB (decide (x1 ≤ x7)) (some ((1, ByteArray.extract x0 (Int.toNat x1) (Int.toNat x7), 0, x1, ()), x7, decide (IntKind.wrap .i64 (x7 - x1) ≤ 10), ())) (none)) (none)) (none)) (none)) := by kernel_rfl
theorem spec_l5One.l7_0 (k : Nat) (x0 : ByteArray) (x1 : Int) (x7 : Int) (y0_0_0 : Int) (y0_0_1 : ByteArray) (y0_0_2 : Int) (y0_0_3 : Int) : spec_l5One.l7 k 0 x0 x1 x7 y0_0_0 y0_0_1 y0_0_2 y0_0_3 = none := by kernel_rfl
theorem spec_l5One.l7_s (k n : Nat) (x0 : ByteArray) (x1 : Int) (x7 : Int) (y0_0_0 : Int) (y0_0_1 : ByteArray) (y0_0_2 : Int) (y0_0_3 : Int) : spec_l5One.l7 k (n + 1) x0 x1 x7 y0_0_0 y0_0_1 y0_0_2 y0_0_3 =
  iteB (decide (x7 < (ByteArray.size x0 : Int))) (iteB (decide (0 ≤ x7)) (iteB (decide (x7 < (ByteArray.size x0 : Int))) (bindO (spec_l5Digit k (byteAt x0 (Int.toNat x7))) fun r5 => (iteB r5 (spec_l5One.l7 k n x0 x1 (IntKind.wrap .i64 (x7 + 1)) y0_0_0 y0_0_1 y0_0_2 y0_0_3) (iteB (decide (0 ≤ x7)) (iteB (decide (x7 ≤ (ByteArray.size x0 : Int))) (iteB (decide (0 ≤ x1)) (iteB (decide (x1 ≤ x7)) (bindO (spec_Number k (ByteArray.extract x0 (Int.toNat x1) (Int.toNat x7))) fun r6 => (some ((2, ByteArray.empty, r6.1, x1, ()), x7, r6.2.1, ()))) (none)) (none)) (none)) (none)))) (none)) (none)) (iteB (decide (0 ≤ x7)) (iteB (decide (x7 ≤ (ByteArray.size x0 : Int))) (iteB (decide (0 ≤ x1)) (iteB (decide (x1 ≤ x7)) (bindO (spec_Number k (ByteArray.extract x0 (Int.toNat x1) (Int.toNat x7))) fun r7 => (some ((2, ByteArray.empty, r7.1, x1, ()), x7, r7.2.1, ()))) (none)) (none)) (none)) (none)) := by kernel_rfl
theorem spec_l5One_e (k : Nat) (a1 : ByteArray) (a2 : Int) : spec_l5One k a1 a2 =
  iteB (decide (0 ≤ a2)) (iteB (decide (a2 < (ByteArray.size a1 : Int))) (bindO (spec_l5Letter k (byteAt a1 (Int.toNat a2))) fun r1 => (iteB r1 (spec_l5One.l3 k k a1 a2 a2 0 ByteArray.empty 0 0) (iteB (decide (0 ≤ a2)) (iteB (decide (a2 < (ByteArray.size a1 : Int))) (bindO (spec_l5Digit k (byteAt a1 (Int.toNat a2))) fun r2 => (iteB r2 (spec_l5One.l7 k k a1 a2 a2 0 ByteArray.empty 0 0) (bindO (spec_l5Sign k a1 a2) fun r3 => (some ((3, r3, 0, a2, ()), IntKind.wrap .i64 (a2 + (ByteArray.size r3 : Int)), !(ByteArray.toList r3 == ByteArray.toList (⟨#[]⟩ : ByteArray)), ()))))) (none)) (none)))) (none)) (none) := by kernel_rfl
theorem E_spec_l5One_calls (k : Nat) : CallsOk Try.prog (E_spec_l5One k) (arun Try.prog (E_spec_l5One k) k) := by
  refine told_run (tyTOk _ _) ?_ (fun run h => regOk (tyTOk _ _) mixOk h) ?_ nameOk k
  · intro g m hg
    simp only [E_spec_l5One] at hg
    split at hg
    · cases hg
      refine con_byVal fun ρ l K x hm => ?_
      split at hm
      · obtain ⟨c1, h1, hm⟩ := Option.bind_eq_some_iff.1 hm
        obtain ⟨r, hr, hm⟩ := Option.bind_eq_some_iff.1 hm
        exact ⟨_, hm, LawV.reads (.cons (.as h1) .nil) (spec_l5Letter_law k c1 r hr)⟩
      · cases hm
    · cases hg
      refine con_byVal fun ρ l K x hm => ?_
      split at hm
      · obtain ⟨c1, h1, hm⟩ := Option.bind_eq_some_iff.1 hm
        obtain ⟨r, hr, hm⟩ := Option.bind_eq_some_iff.1 hm
        exact ⟨_, hm, LawV.reads (.cons (.as h1) .nil) (spec_l5Digit_law k c1 r hr)⟩
      · cases hm
    · cases hg
      refine con_byVal fun ρ l K x hm => ?_
      split at hm
      · obtain ⟨c1, h1, hm⟩ := Option.bind_eq_some_iff.1 hm
        obtain ⟨c2, h2, hm⟩ := Option.bind_eq_some_iff.1 hm
        obtain ⟨r, hr, hm⟩ := Option.bind_eq_some_iff.1 hm
        exact ⟨_, hm, LawV.reads (.cons (.as h1) (.cons (.as h2) .nil)) (spec_l5Sign_law k c1 c2 r hr)⟩
      · cases hm
    · cases hg
      refine con_byVal fun ρ l K x hm => ?_
      split at hm
      · obtain ⟨c1, h1, hm⟩ := Option.bind_eq_some_iff.1 hm
        obtain ⟨r, hr, hm⟩ := Option.bind_eq_some_iff.1 hm
        exact ⟨_, hm, LawV.reads (.cons (.as h1) .nil) (spec_Number_law k c1 r hr)⟩
      · cases hm
    · cases hg; exact noCon_ok
    · cases hg
  · intro g hg r
    by_cases h : g = 38
    · subst h; simp [E_spec_l5One] at hg
    · simp [E_spec_l5One, h]
theorem f38_okspec_l5One : Try.prog.funcs[38]? = some Try.f38 := by kernel_rfl
theorem spec_l5One_law (k : Nat) (a1 : ByteArray) (a2 : Int) (x : (Int × ByteArray × Int × Int × Unit) × Int × Bool × Unit) (h : spec_l5One k a1 a2 = some x) : LawV Try.prog 38 [.str a1, .int .i64 a2] (.tup (outs (.pair (.pair (.int .i64) (.pair .str (.pair (.int .i64) (.pair (.int .i64) .unit)))) (.pair (.int .i64) (.pair .bool .unit))) x)) := by
  unfold spec_l5One at h
  exact lawN (t := (.pair (.pair (.int .i64) (.pair .str (.pair (.int .i64) (.pair (.int .i64) .unit)))) (.pair (.int .i64) (.pair .bool .unit)))) (tyTOk _ _) (E_spec_l5One_calls k) mixOk f38_okspec_l5One (nameOk _ _ f38_okspec_l5One) (by kernel_rfl) h
/-! spec.Tokens -/
noncomputable def E_spec_Tokens (k : Nat) : Env := ⟨tyD, fun g => match g with
  | 38 => some (byVal fun ρ l K => match l with
    | [b1, b2] => (b1.as .str).bind fun c1 => (b2.as (.int .i64)).bind fun c2 => (spec_l5One k c1 c2).bind fun r => K (.tup (outs (.pair (.pair (.int .i64) (.pair .str (.pair (.int .i64) (.pair (.int .i64) .unit)))) (.pair (.int .i64) (.pair .bool .unit))) r))
    | _ => none)
  | 21 => some noCon
  | _ => none, fun f r => match f with | 21 => (match r with | 5 => some [0, 4, 5] | 8 => some [0, 4, 5] | _ => none) | _ => none⟩
noncomputable def spec_Tokens (k : Nat) (a1 : ByteArray) : Option ((List (Int × ByteArray × Int × Int × Unit)) × Int × Unit) :=
  abody (E_spec_Tokens k) (arun Try.prog (E_spec_Tokens k) k) k 21 Try.f21 [.str a1] [] (finDT (.pair (.row (.pair (.int .i64) (.pair .str (.pair (.int .i64) (.pair (.int .i64) .unit))))) (.pair (.int .i64) .unit)))
noncomputable def spec_Tokens.l5 (k n : Nat) (x0 : ByteArray) (x5 : Int) : Option ((List (Int × ByteArray × Int × Int × Unit)) × Int × Unit) :=
  resume (E_spec_Tokens k) 21 (acall (E_spec_Tokens k) (arun Try.prog (E_spec_Tokens k) k)) k [true, true, true, true, false, true] [n] (bodyOf Try.f21) ⟨[.str x0, .undef, .undef, .undef, .sl 0, .int .i64 x5, .undef, .undef, .undef, .undef, .undef, .undef, .undef, .undef, .undef, .undef, .undef, .undef, .undef, .undef, .undef, .undef, .undef, .undef, .undef, .undef, .undef, .undef, .undef, .undef, .undef, .undef, .undef, .undef, .undef, .undef, .undef, .undef, .undef, .undef, .undef, .undef, .undef, .undef, .undef, .undef, .undef, .undef, .undef, .undef, .undef, .undef], [some ⟨.typed (.pair (.int .i64) (.pair .str (.pair (.int .i64) (.pair (.int .i64) .unit)))) [], true⟩]⟩ (leave (E_spec_Tokens k) Try.f21 (finDT (.pair (.row (.pair (.int .i64) (.pair .str (.pair (.int .i64) (.pair (.int .i64) .unit))))) (.pair (.int .i64) .unit))))
noncomputable def spec_Tokens.j8 (k m5 : Nat) (x0 : ByteArray) (x5 : Int) : Option ((List (Int × ByteArray × Int × Int × Unit)) × Int × Unit) :=
  resume (E_spec_Tokens k) 21 (acall (E_spec_Tokens k) (arun Try.prog (E_spec_Tokens k) k)) k [true, true, true, true, false, true, true, true, true, true] [m5] (bodyOf Try.f21) ⟨[.str x0, .undef, .undef, .undef, .sl 0, .int .i64 x5, .undef, .undef, .undef, .undef, .undef, .undef, .undef, .undef, .undef, .undef, .undef, .undef, .undef, .undef, .undef, .undef, .undef, .undef, .undef, .undef, .undef, .undef, .undef, .undef, .undef, .undef, .undef, .undef, .undef, .undef, .undef, .undef, .undef, .undef, .undef, .undef, .undef, .undef, .undef, .undef, .undef, .undef, .undef, .undef, .undef, .undef], [some ⟨.typed (.pair (.int .i64) (.pair .str (.pair (.int .i64) (.pair (.int .i64) .unit)))) [], true⟩]⟩ (leave (E_spec_Tokens k) Try.f21 (finDT (.pair (.row (.pair (.int .i64) (.pair .str (.pair (.int .i64) (.pair (.int .i64) .unit))))) (.pair (.int .i64) .unit))))
noncomputable def spec_Tokens.l5b (k n : Nat) (x0 : ByteArray) (x5 : Int) (y0 : List (Int × ByteArray × Int × Int × Unit)) : Option ((List (Int × ByteArray × Int × Int × Unit)) × Int × Unit) :=
  resume (E_spec_Tokens k) 21 (acall (E_spec_Tokens k) (arun Try.prog (E_spec_Tokens k) k)) k [true, true, true, true, false, true] [n] (bodyOf Try.f21) ⟨[.str x0, .undef, .undef, .undef, .sl 0, .int .i64 x5, .undef, .undef, .undef, .undef, .undef, .undef, .undef, .undef, .undef, .undef, .undef, .undef, .undef, .undef, .undef, .undef, .undef, .undef, .undef, .undef, .undef, .undef, .undef, .undef, .undef, .undef, .undef, .undef, .undef, .undef, .undef, .undef, .undef, .undef, .undef, .undef, .undef, .undef, .undef, .undef, .undef, .undef, .undef, .undef, .undef, .undef], [some ⟨.typed (.pair (.int .i64) (.pair .str (.pair (.int .i64) (.pair (.int .i64) .unit)))) y0, false⟩]⟩ (leave (E_spec_Tokens k) Try.f21 (finDT (.pair (.row (.pair (.int .i64) (.pair .str (.pair (.int .i64) (.pair (.int .i64) .unit))))) (.pair (.int .i64) .unit))))
noncomputable def spec_Tokens.j8b (k m5 : Nat) (x0 : ByteArray) (x5 : Int) (y0 : List (Int × ByteArray × Int × Int × Unit)) : Option ((List (Int × ByteArray × Int × Int × Unit)) × Int × Unit) :=
  resume (E_spec_Tokens k) 21 (acall (E_spec_Tokens k) (arun Try.prog (E_spec_Tokens k) k)) k [true, true, true, true, false, true, true, true, true, true] [m5] (bodyOf Try.f21) ⟨[.str x0, .undef, .undef, .undef, .sl 0, .int .i64 x5, .undef, .undef, .undef, .undef, .undef, .undef, .undef, .undef, .undef, .undef, .undef, .undef, .undef, .undef, .undef, .undef, .undef, .undef, .undef, .undef, .undef, .undef, .undef, .undef, .undef, .undef, .undef, .undef, .undef, .undef, .undef, .undef, .undef, .undef, .undef, .undef, .undef, .undef, .undef, .undef, .undef, .undef, .undef, .undef, .undef, .undef], [some ⟨.typed (.pair (.int .i64) (.pair .str (.pair (.int .i64) (.pair (.int .i64) .unit)))) y0, false⟩]⟩ (leave (E_spec_Tokens k) Try.f21 (finDT (.pair (.row (.pair (.int .i64) (.pair .str (.pair (.int .i64) (.pair (.int .i64) .unit))))) (.pair (.int .i64) .unit))))
theorem spec_Tokens.l5_0 (k : Nat) (x0 : ByteArray) (x5 : Int) : spec_Tokens.l5 k 0 x0 x5 = none := by kernel_rfl
theorem spec_Tokens.l5_s (k n : Nat) (x0 : ByteArray) (x5 : Int) : spec_Tokens.l5 k (n + 1) x0 x5 =
  iteB (decide (x5 < (ByteArray.size x0 : Int))) (iteB (decide (0 ≤ x5)) (iteB (decide (x5 < (ByteArray.size x0 : Int))) (iteB (!((byteAt x0 (Int.toNat x5)) == 32)) (iteB (decide (0 ≤ x5)) (iteB (decide (x5 < (ByteArray.size x0 : Int))) (iteB ((byteAt x0 (Int.toNat x5)) == 10) (spec_Tokens.l5 k n x0 (IntKind.wrap .i64 (x5 + 1))) (gate k (spec_Tokens.j8 k n x0 x5))) (none)) (none)) (spec_Tokens.l5 k n x0 (IntKind.wrap .i64 (x5 + 1)))) (none)) (none)) (iteB (decide ((List.length ([] ++ [(0, ByteArray.empty, 0, (ByteArray.size x0 : Int), ())])) * 40 ≤ lim)) (some ([] ++ [(0, ByteArray.empty, 0, (ByteArray.size x0 : Int), ())], (-1), ())) (none)) := by kernel_rfl
theorem spec_Tokens.j8_e (k m5 : Nat) (x0 : ByteArray) (x5 : Int) : spec_Tokens.j8 k m5 x0 x5 =
  bindO (spec_l5One k x0 x5) fun r1 => (iteB (!r1.2.2.1) (some ([], x5, ())) (iteB (decide ((List.length ([] ++ [r1.1])) * 40 ≤ lim)) (spec_Tokens.l5b k m5 x0 r1.2.1 ([] ++ [r1.1])) (none))) := by kernel_rfl
theorem spec_Tokens.l5b_0 (k : Nat) (x0 : ByteArray) (x5 : Int) (y0 : List (Int × ByteArray × Int × Int × Unit)) : spec_Tokens.l5b k 0 x0 x5 y0 = none := by kernel_rfl
theorem spec_Tokens.l5b_s (k n : Nat) (x0 : ByteArray) (x5 : Int) (y0 : List (Int × ByteArray × Int × Int × Unit)) : spec_Tokens.l5b k (n + 1) x0 x5 y0 =
  iteB (decide (x5 < (ByteArray.size x0 : Int))) (iteB (decide (0 ≤ x5)) (iteB (decide (x5 < (ByteArray.size x0 : Int))) (iteB (!((byteAt x0 (Int.toNat x5)) == 32)) (iteB (decide (0 ≤ x5)) (iteB (decide (x5 < (ByteArray.size x0 : Int))) (iteB ((byteAt x0 (Int.toNat x5)) == 10) (spec_Tokens.l5b k n x0 (IntKind.wrap .i64 (x5 + 1)) y0) (gate k (spec_Tokens.j8b k n x0 x5 y0))) (none)) (none)) (spec_Tokens.l5b k n x0 (IntKind.wrap .i64 (x5 + 1)) y0)) (none)) (none)) (iteB (decide ((List.length (y0 ++ [(0, ByteArray.empty, 0, (ByteArray.size x0 : Int), ())])) * 40 ≤ lim)) (some (y0 ++ [(0, ByteArray.empty, 0, (ByteArray.size x0 : Int), ())], (-1), ())) (none)) := by kernel_rfl
theorem spec_Tokens.j8b_e (k m5 : Nat) (x0 : ByteArray) (x5 : Int) (y0 : List (Int × ByteArray × Int × Int × Unit)) : spec_Tokens.j8b k m5 x0 x5 y0 =
  bindO (spec_l5One k x0 x5) fun r2 => (iteB (!r2.2.2.1) (some ([], x5, ())) (iteB (decide ((List.length (y0 ++ [r2.1])) * 40 ≤ lim)) (spec_Tokens.l5b k m5 x0 r2.2.1 (y0 ++ [r2.1])) (none))) := by kernel_rfl
theorem spec_Tokens_e (k : Nat) (a1 : ByteArray) : spec_Tokens k a1 =
  iteB (decide ((ByteArray.size a1 : Int) > 6000)) (some ([], 0, ())) (spec_Tokens.l5 k k a1 0) := by kernel_rfl
theorem E_spec_Tokens_calls (k : Nat) : CallsOk Try.prog (E_spec_Tokens k) (arun Try.prog (E_spec_Tokens k) k) := by
  refine told_run (tyDTOk _ _) ?_ (fun run h => regOk (tyDTOk _ _) mixOk h) ?_ nameOk k
  · intro g m hg
    simp only [E_spec_Tokens] at hg
    split at hg
    · cases hg
      refine con_byVal fun ρ l K x hm => ?_
      split at hm
      · obtain ⟨c1, h1, hm⟩ := Option.bind_eq_some_iff.1 hm
        obtain ⟨c2, h2, hm⟩ := Option.bind_eq_some_iff.1 hm
        obtain ⟨r, hr, hm⟩ := Option.bind_eq_some_iff.1 hm
        exact ⟨_, hm, LawV.reads (.cons (.as h1) (.cons (.as h2) .nil)) (spec_l5One_law k c1 c2 r hr)⟩
      · cases hm
    · cases hg; exact noCon_ok
    · cases hg
  · intro g hg r
    by_cases h : g = 21
    · subst h; simp [E_spec_Tokens] at hg
    · simp [E_spec_Tokens, h]
theorem f21_okspec_Tokens : Try.prog.funcs[21]? = some Try.f21 := by kernel_rfl
theorem spec_Tokens_law (k : Nat) (a1 : ByteArray) (x : (List (Int × ByteArray × Int × Int × Unit)) × Int × Unit) (h : spec_Tokens k a1 = some x) : LawDT Try.prog 21 [.str a1] (.pair (.row (.pair (.int .i64) (.pair .str (.pair (.int .i64) (.pair (.int .i64) .unit))))) (.pair (.int .i64) .unit)) x := by
  unfold spec_Tokens at h
  exact lawDT (t := (.pair (.row (.pair (.int .i64) (.pair .str (.pair (.int .i64) (.pair (.int .i64) .unit))))) (.pair (.int .i64) .unit))) (tyDTOk _ _) (E_spec_Tokens_calls k) mixOk f21_okspec_Tokens (nameOk _ _ f21_okspec_Tokens) (by kernel_rfl) h
/-! impl.isLetter -/
noncomputable def E_impl_isLetter (k : Nat) : Env := ⟨ty, fun _ => none, fun _ _ => none⟩
noncomputable def impl_isLetter (k : Nat) (a1 : Int) : Option (Bool) :=
  abody (E_impl_isLetter k) (arun Try.prog (E_impl_isLetter k) k) k 51 Try.f51 [.int .u8 a1] [] (fin1 .bool)
theorem impl_isLetter_e (k : Nat) (a1 : Int) : impl_isLetter k a1 =
  iteB (decide (a1 ≥ 97)) (iteB (!(decide (a1 ≤ 122))) (iteB (decide (a1 ≥ 65)) (some (decide (a1 ≤ 90))) (some false)) (some true)) (iteB (decide (a1 ≥ 65)) (some (decide (a1 ≤ 90))) (some false)) := by kernel_rfl
theorem E_impl_isLetter_calls (k : Nat) : CallsOk Try.prog (E_impl_isLetter k) (arun Try.prog (E_impl_isLetter k) k) := by
  refine told_run (tyTOk _ _) ?_ (fun run h => regOk (tyTOk _ _) mixOk h) ?_ nameOk k
  · intro g m hg
    cases hg
  · intro g _ r; rfl
theorem f51_okimpl_isLetter : Try.prog.funcs[51]? = some Try.f51 := by kernel_rfl
theorem impl_isLetter_law (k : Nat) (a1 : Int) (x : Bool) (h : impl_isLetter k a1 = some x) : LawV Try.prog 51 [.int .u8 a1] (tvn .bool x) := by
  unfold impl_isLetter at h
  exact law1 (t := .bool) (tyTOk _ _) (E_impl_isLetter_calls k) mixOk f51_okimpl_isLetter (nameOk _ _ f51_okimpl_isLetter) (by kernel_rfl) h
/-! impl.run -/
noncomputable def E_impl_run__impl_isLetter (k : Nat) : Env := ⟨ty, fun g => match g with
  | 51 => some (byVal fun ρ l K => match l with
    | [b1] => (b1.as (.int .u8)).bind fun c1 => (impl_isLetter k c1).bind fun r => K (tvn .bool r)
    | _ => none)
  | 52 => some noCon
  | _ => none, fun f r => match f with | 52 => (match r with | 2 => some [0, 1, 2, 7] | _ => none) | _ => none⟩
noncomputable def impl_run__impl_isLetter (k : Nat) (a1 : ByteArray) (a2 : Int) : Option (Int) :=
  abody (E_impl_run__impl_isLetter k) (arun Try.prog (E_impl_run__impl_isLetter k) k) k 52 Try.f52 [.str a1, .int .i64 a2, .fn 51 []] [] (fin1 (.int .i64))
noncomputable def impl_run__impl_isLetter.l2 (k n : Nat) (x0 : ByteArray) (x1 : Int) (x7 : Int) : Option (Int) :=
  resume (E_impl_run__impl_isLetter k) 52 (acall (E_impl_run__impl_isLetter k) (arun Try.prog (E_impl_run__impl_isLetter k) k)) k [true, true, false, true] [n] (bodyOf Try.f52) ⟨[.str x0, .int .i64 x1, .fn 51 [], .undef, .undef, .undef, .undef, .int .i64 x7, .undef, .undef, .undef, .undef, .undef, .undef, .undef, .undef, .undef, .undef, .undef, .undef, .undef, .undef, .undef, .undef, .undef, .undef], []⟩ (leave (E_impl_run__impl_isLetter k) Try.f52 (fin1 (.int .i64)))
theorem impl_run__impl_isLetter.l2_0 (k : Nat) (x0 : ByteArray) (x1 : Int) (x7 : Int) : impl_run__impl_isLetter.l2 k 0 x0 x1 x7 = none := by kernel_rfl
theorem impl_run__impl_isLetter.l2_s (k n : Nat) (x0 : ByteArray) (x1 : Int) (x7 : Int) : impl_run__impl_isLetter.l2 k (n + 1) x0 x1 x7 =
  iteB (decide (IntKind.wrap .i64 (x1 + x7) < (ByteArray.size x0 : Int))) (iteB (decide (0 ≤ IntKind.wrap .i64 (x1 + x7))) (iteB (decide (IntKind.wrap .i64 (x1 + x7) < (ByteArray.size x0 : Int))) (bindO (impl_isLetter k (byteAt x0 (Int.toNat (IntKind.wrap .i64 (x1 + x7))))) fun r1 => (iteB r1 (impl_run__impl_isLetter.l2 k n x0 x1 (IntKind.wrap .i64 (x7 + 1))) (some x7))) (none)) (none)) (some x7) := by kernel_rfl
theorem impl_run__impl_isLetter_e (k : Nat) (a1 : ByteArray) (a2 : Int) : impl_run__impl_isLetter k a1 a2 =
  impl_run__impl_isLetter.l2 k k a1 a2 0 := by kernel_rfl
theorem E_impl_run__impl_isLetter_calls (k : Nat) : CallsOk Try.prog (E_impl_run__impl_isLetter k) (arun Try.prog (E_impl_run__impl_isLetter k) k) := by
  refine told_run (tyTOk _ _) ?_ (fun run h => regOk (tyTOk _ _) mixOk h) ?_ nameOk k
  · intro g m hg
    simp only [E_impl_run__impl_isLetter] at hg
    split at hg
    · cases hg
      refine con_byVal fun ρ l K x hm => ?_
      split at hm
      · obtain ⟨c1, h1, hm⟩ := Option.bind_eq_some_iff.1 hm
        obtain ⟨r, hr, hm⟩ := Option.bind_eq_some_iff.1 hm
        exact ⟨_, hm, LawV.reads (.cons (.as h1) .nil) (impl_isLetter_law k c1 r hr)⟩
      · cases hm
    · cases hg; exact noCon_ok
    · cases hg
  · intro g hg r
    by_cases h : g = 52
    · subst h; simp [E_impl_run__impl_isLetter] at hg
    · simp [E_impl_run__impl_isLetter, h]
theorem f52_okimpl_run__impl_isLetter : Try.prog.funcs[52]? = some Try.f52 := by kernel_rfl
theorem impl_run__impl_isLetter_law (k : Nat) (a1 : ByteArray) (a2 : Int) (x : Int) (h : impl_run__impl_isLetter k a1 a2 = some x) : LawV Try.prog 52 [.str a1, .int .i64 a2, .fn 51 []] (tvn (.int .i64) x) := by
  unfold impl_run__impl_isLetter at h
  exact law1 (t := (.int .i64)) (tyTOk _ _) (E_impl_run__impl_isLetter_calls k) mixOk f52_okimpl_run__impl_isLetter (nameOk _ _ f52_okimpl_run__impl_isLetter) (by kernel_rfl) h
/-! impl.isDigit -/
noncomputable def E_impl_isDigit (k : Nat) : Env := ⟨ty, fun _ => none, fun _ _ => none⟩
noncomputable def impl_isDigit (k : Nat) (a1 : Int) : Option (Bool) :=
  abody (E_impl_isDigit k) (arun Try.prog (E_impl_isDigit k) k) k 53 Try.f53 [.int .u8 a1] [] (fin1 .bool)
theorem impl_isDigit_e (k : Nat) (a1 : Int) : impl_isDigit k a1 =
  iteB (decide (a1 ≥ 48)) (some (decide (a1 ≤ 57))) (some false) := by kernel_rfl
theorem E_impl_isDigit_calls (k : Nat) : CallsOk Try.prog (E_impl_isDigit k) (arun Try.prog (E_impl_isDigit k) k) := by
  refine told_run (tyTOk _ _) ?_ (fun run h => regOk (tyTOk _ _) mixOk h) ?_ nameOk k
  · intro g m hg
    cases hg
  · intro g _ r; rfl
theorem f53_okimpl_isDigit : Try.prog.funcs[53]? = some Try.f53 := by kernel_rfl
theorem impl_isDigit_law (k : Nat) (a1 : Int) (x : Bool) (h : impl_isDigit k a1 = some x) : LawV Try.prog 53 [.int .u8 a1] (tvn .bool x) := by
  unfold impl_isDigit at h
  exact law1 (t := .bool) (tyTOk _ _) (E_impl_isDigit_calls k) mixOk f53_okimpl_isDigit (nameOk _ _ f53_okimpl_isDigit) (by kernel_rfl) h
/-! impl.run -/
noncomputable def E_impl_run__impl_isDigit (k : Nat) : Env := ⟨ty, fun g => match g with
  | 53 => some (byVal fun ρ l K => match l with
    | [b1] => (b1.as (.int .u8)).bind fun c1 => (impl_isDigit k c1).bind fun r => K (tvn .bool r)
    | _ => none)
  | 52 => some noCon
  | _ => none, fun f r => match f with | 52 => (match r with | 2 => some [0, 1, 2, 7] | _ => none) | _ => none⟩
noncomputable def impl_run__impl_isDigit (k : Nat) (a1 : ByteArray) (a2 : Int) : Option (Int) :=
  abody (E_impl_run__impl_isDigit k) (arun Try.prog (E_impl_run__impl_isDigit k) k) k 52 Try.f52 [.str a1, .int .i64 a2, .fn 53 []] [] (fin1 (.int .i64))
noncomputable def impl_run__impl_isDigit.l2 (k n : Nat) (x0 : ByteArray) (x1 : Int) (x7 : Int) : Option (Int) :=
  resume (E_impl_run__impl_isDigit k) 52 (acall (E_impl_run__impl_isDigit k) (arun Try.prog (E_impl_run__impl_isDigit k) k)) k [true, true, false, true] [n] (bodyOf Try.f52) ⟨[.str x0, .int .i64 x1, .fn 53 [], .undef, .undef, .undef, .undef, .int .i64 x7, .undef, .undef, .undef, .undef, .undef, .undef, .undef, .undef, .undef, .undef, .undef, .undef, .undef, .undef, .undef, .undef, .undef, .undef], []⟩ (leave (E_impl_run__impl_isDigit k) Try.f52 (fin1 (.int .i64)))
theorem impl_run__impl_isDigit.l2_0 (k : Nat) (x0 : ByteArray) (x1 : Int) (x7 : Int) : impl_run__impl_isDigit.l2 k 0 x0 x1 x7 = none := by kernel_rfl
theorem impl_run__impl_isDigit.l2_s (k n : Nat) (x0 : ByteArray) (x1 : Int) (x7 : Int) : impl_run__impl_isDigit.l2 k (n + 1) x0 x1 x7 =
  iteB (decide (IntKind.wrap .i64 (x1 + x7) < (ByteArray.size x0 : Int))) (iteB (decide (0 ≤ IntKind.wrap .i64 (x1 + x7))) (iteB (decide (IntKind.wrap .i64 (x1 + x7) < (ByteArray.size x0 : Int))) (bindO (impl_isDigit k (byteAt x0 (Int.toNat (IntKind.wrap .i64 (x1 + x7))))) fun r1 => (iteB r1 (impl_run__impl_isDigit.l2 k n x0 x1 (IntKind.wrap .i64 (x7 + 1))) (some x7))) (none)) (none)) (some x7) := by kernel_rfl
theorem impl_run__impl_isDigit_e (k : Nat) (a1 : ByteArray) (a2 : Int) : impl_run__impl_isDigit k a1 a2 =
  impl_run__impl_isDigit.l2 k k a1 a2 0 := by kernel_rfl
theorem E_impl_run__impl_isDigit_calls (k : Nat) : CallsOk Try.prog (E_impl_run__impl_isDigit k) (arun Try.prog (E_impl_run__impl_isDigit k) k) := by
  refine told_run (tyTOk _ _) ?_ (fun run h => regOk (tyTOk _ _) mixOk h) ?_ nameOk k
  · intro g m hg
    simp only [E_impl_run__impl_isDigit] at hg
    split at hg
    · cases hg
      refine con_byVal fun ρ l K x hm => ?_
      split at hm
      · obtain ⟨c1, h1, hm⟩ := Option.bind_eq_some_iff.1 hm
        obtain ⟨r, hr, hm⟩ := Option.bind_eq_some_iff.1 hm
        exact ⟨_, hm, LawV.reads (.cons (.as h1) .nil) (impl_isDigit_law k c1 r hr)⟩
      · cases hm
    · cases hg; exact noCon_ok
    · cases hg
  · intro g hg r
    by_cases h : g = 52
    · subst h; simp [E_impl_run__impl_isDigit] at hg
    · simp [E_impl_run__impl_isDigit, h]
theorem f52_okimpl_run__impl_isDigit : Try.prog.funcs[52]? = some Try.f52 := by kernel_rfl
theorem impl_run__impl_isDigit_law (k : Nat) (a1 : ByteArray) (a2 : Int) (x : Int) (h : impl_run__impl_isDigit k a1 a2 = some x) : LawV Try.prog 52 [.str a1, .int .i64 a2, .fn 53 []] (tvn (.int .i64) x) := by
  unfold impl_run__impl_isDigit at h
  exact law1 (t := (.int .i64)) (tyTOk _ _) (E_impl_run__impl_isDigit_calls k) mixOk f52_okimpl_run__impl_isDigit (nameOk _ _ f52_okimpl_run__impl_isDigit) (by kernel_rfl) h
/-! impl.within -/
noncomputable def E_impl_within (k : Nat) : Env := ⟨ty, fun _ => none, fun _ _ => none⟩
noncomputable def impl_within (k : Nat) (a1 : Int) (a2 : Int) (a3 : Int) : Option (Bool) :=
  abody (E_impl_within k) (arun Try.prog (E_impl_within k) k) k 34 Try.f34 [.int .i64 a1, .int .i64 a2, .int .i64 a3] [] (fin1 .bool)
theorem impl_within_e (k : Nat) (a1 : Int) (a2 : Int) (a3 : Int) : impl_within k a1 a2 a3 =
  iteB (decide (a1 ≥ a2)) (some (decide (a1 ≤ a3))) (some false) := by kernel_rfl
theorem E_impl_within_calls (k : Nat) : CallsOk Try.prog (E_impl_within k) (arun Try.prog (E_impl_within k) k) := by
  refine told_run (tyTOk _ _) ?_ (fun run h => regOk (tyTOk _ _) mixOk h) ?_ nameOk k
  · intro g m hg
    cases hg
  · intro g _ r; rfl
theorem f34_okimpl_within : Try.prog.funcs[34]? = some Try.f34 := by kernel_rfl
theorem impl_within_law (k : Nat) (a1 : Int) (a2 : Int) (a3 : Int) (x : Bool) (h : impl_within k a1 a2 a3 = some x) : LawV Try.prog 34 [.int .i64 a1, .int .i64 a2, .int .i64 a3] (tvn .bool x) := by
  unfold impl_within at h
  exact law1 (t := .bool) (tyTOk _ _) (E_impl_within_calls k) mixOk f34_okimpl_within (nameOk _ _ f34_okimpl_within) (by kernel_rfl) h
/-! impl.WordOk -/
noncomputable def E_impl_WordOk (k : Nat) : Env := ⟨ty, fun g => match g with
  | 34 => some (byVal fun ρ l K => match l with
    | [b1, b2, b3] => (b1.as (.int .i64)).bind fun c1 => (b2.as (.int .i64)).bind fun c2 => (b3.as (.int .i64)).bind fun c3 => (impl_within k c1 c2 c3).bind fun r => K (tvn .bool r)
    | _ => none)
  | _ => none, fun _ _ => none⟩
noncomputable def impl_WordOk (k : Nat) (a1 : Int) : Option (Bool) :=
  abody (E_impl_WordOk k) (arun Try.prog (E_impl_WordOk k) k) k 33 Try.f33 [.int .i64 a1] [] (fin1 .bool)
theorem impl_WordOk_e (k : Nat) (a1 : Int) : impl_WordOk k a1 =
  bindO (impl_within k a1 (-2147483648) 2147483647) fun r1 => (some r1) := by kernel_rfl
theorem E_impl_WordOk_calls (k : Nat) : CallsOk Try.prog (E_impl_WordOk k) (arun Try.prog (E_impl_WordOk k) k) := by
  refine told_run (tyTOk _ _) ?_ (fun run h => regOk (tyTOk _ _) mixOk h) ?_ nameOk k
  · intro g m hg
    simp only [E_impl_WordOk] at hg
    split at hg
    · cases hg
      refine con_byVal fun ρ l K x hm => ?_
      split at hm
      · obtain ⟨c1, h1, hm⟩ := Option.bind_eq_some_iff.1 hm
        obtain ⟨c2, h2, hm⟩ := Option.bind_eq_some_iff.1 hm
        obtain ⟨c3, h3, hm⟩ := Option.bind_eq_some_iff.1 hm
        obtain ⟨r, hr, hm⟩ := Option.bind_eq_some_iff.1 hm
        exact ⟨_, hm, LawV.reads (.cons (.as h1) (.cons (.as h2) (.cons (.as h3) .nil))) (impl_within_law k c1 c2 c3 r hr)⟩
      · cases hm
    · cases hg
  · intro g _ r; rfl
theorem f33_okimpl_WordOk : Try.prog.funcs[33]? = some Try.f33 := by kernel_rfl
theorem impl_WordOk_law (k : Nat) (a1 : Int) (x : Bool) (h : impl_WordOk k a1 = some x) : LawV Try.prog 33 [.int .i64 a1] (tvn .bool x) := by
  unfold impl_WordOk at h
  exact law1 (t := .bool) (tyTOk _ _) (E_impl_WordOk_calls k) mixOk f33_okimpl_WordOk (nameOk _ _ f33_okimpl_WordOk) (by kernel_rfl) h
/-! impl.Digits -/
noncomputable def G_impl_Digits (r0 : Int → Option ByteArray) (k : Nat) : Env := ⟨ty, fun g => match g with
  | 70 => some (byVal fun ρ l K => match l with
    | [b1] => (b1.as (.int .i64)).bind fun c1 => (r0 c1).bind fun r => K (tvn .str r)
    | _ => none)
  | _ => none, fun _ _ => none⟩
noncomputable def grp_impl_Digits : Nat → (Int → Option ByteArray) := fun k => Nat.rec (motive := fun _ => (Int → Option ByteArray)) (fun _ => none) (fun k ih => (fun a1 => abody (G_impl_Digits ih k) (arun Try.prog (G_impl_Digits ih k) k) k 70 Try.f70 [.int .i64 a1] [] (fin1 .str))) k
noncomputable def E_impl_Digits (k : Nat) : Env := G_impl_Digits (grp_impl_Digits k) k
noncomputable def impl_Digits (k : Nat) (a1 : Int) : Option (ByteArray) := (grp_impl_Digits k) a1
theorem impl_Digits_0 (a1 : Int) : impl_Digits 0 a1 = none := by kernel_rfl
theorem impl_Digits_e (k : Nat) (a1 : Int) : impl_Digits (k + 1) a1 =
  iteB (decide (a1 < 0)) (iteB (decide (a1 > (-10))) (bindO (impl_Digits k (IntKind.wrap .i64 (0 - a1))) fun r1 => (iteB (decide (ByteArray.size (⟨#[45]⟩ : ByteArray) + ByteArray.size r1 ≤ 9223372036854775807)) (some ((⟨#[45]⟩ : ByteArray) ++ r1)) (none))) (iteB (decide (a1 < 0)) (bindO (impl_Digits k (IntKind.wrap .i64 (Int.tdiv a1 10))) fun r2 => (bindO (impl_Digits k (IntKind.wrap .i64 (0 - (Int.tmod a1 10)))) fun r3 => (iteB (decide (ByteArray.size r2 + ByteArray.size r3 ≤ 9223372036854775807)) (some (r2 ++ r3)) (none)))) (iteB (decide (a1 < 10)) (some (Utf8.encode (IntKind.wrap .i32 (IntKind.wrap .i64 (48 + a1))))) (bindO (impl_Digits k (IntKind.wrap .i64 (Int.tdiv a1 10))) fun r4 => (iteB (decide (ByteArray.size r4 + ByteArray.size (Utf8.encode (IntKind.wrap .i32 (IntKind.wrap .i64 (48 + (Int.tmod a1 10))))) ≤ 9223372036854775807)) (some (r4 ++ (Utf8.encode (IntKind.wrap .i32 (IntKind.wrap .i64 (48 + (Int.tmod a1 10))))))) (none)))))) (iteB (decide (a1 < 0)) (bindO (impl_Digits k (IntKind.wrap .i64 (Int.tdiv a1 10))) fun r5 => (bindO (impl_Digits k (IntKind.wrap .i64 (0 - (Int.tmod a1 10)))) fun r6 => (iteB (decide (ByteArray.size r5 + ByteArray.size r6 ≤ 9223372036854775807)) (some (r5 ++ r6)) (none)))) (iteB (decide (a1 < 10)) (some (Utf8.encode (IntKind.wrap .i32 (IntKind.wrap .i64 (48 + a1))))) (bindO (impl_Digits k (IntKind.wrap .i64 (Int.tdiv a1 10))) fun r7 => (iteB (decide (ByteArray.size r7 + ByteArray.size (Utf8.encode (IntKind.wrap .i32 (IntKind.wrap .i64 (48 + (Int.tmod a1 10))))) ≤ 9223372036854775807)) (some (r7 ++ (Utf8.encode (IntKind.wrap .i32 (IntKind.wrap .i64 (48 + (Int.tmod a1 10))))))) (none))))) := by kernel_rfl
theorem E_impl_Digits_calls (k : Nat) (q0 : ∀ (a1 : Int) (x : ByteArray), impl_Digits k a1 = some x → LawV Try.prog 70 [.int .i64 a1] (tvn .str x)) : CallsOk Try.prog (E_impl_Digits k) (arun Try.prog (E_impl_Digits k) k) := by
  refine told_run (tyTOk _ _) ?_ (fun run h => regOk (tyTOk _ _) mixOk h) ?_ nameOk k
  · intro g m hg
    simp only [E_impl_Digits, G_impl_Digits] at hg
    split at hg
    · cases hg
      refine con_byVal fun ρ l K x hm => ?_
      split at hm
      · obtain ⟨c1, h1, hm⟩ := Option.bind_eq_some_iff.1 hm
        obtain ⟨r, hr, hm⟩ := Option.bind_eq_some_iff.1 hm
        exact ⟨_, hm, LawV.reads (.cons (.as h1) .nil) (q0 c1 r hr)⟩
      · cases hm
    · cases hg
  · intro g _ r; rfl
theorem f70_okimpl_Digits : Try.prog.funcs[70]? = some Try.f70 := by kernel_rfl
theorem impl_Digits_u (k : Nat) (a1 : Int) : abody (E_impl_Digits k) (arun Try.prog (E_impl_Digits k) k) k 70 Try.f70 [.int .i64 a1] [] (fin1 .str) = impl_Digits (k + 1) a1 := by kernel_rfl
theorem grp_impl_Digits_law (k : Nat) : (∀ (a1 : Int) (x : ByteArray), impl_Digits k a1 = some x → LawV Try.prog 70 [.int .i64 a1] (tvn .str x)) := by
  induction k with
  | zero => exact fun a1 x h => by rw [impl_Digits_0] at h; cases h
  | succ k ih =>
    exact (fun a1 x h => law1 (t := .str) (tyTOk _ _) (E_impl_Digits_calls k ih) mixOk f70_okimpl_Digits (nameOk _ _ f70_okimpl_Digits) (by kernel_rfl) ((impl_Digits_u k a1).trans h))
theorem impl_Digits_law (k : Nat) (a1 : Int) (x : ByteArray) (h : impl_Digits k a1 = some x) : LawV Try.prog 70 [.int .i64 a1] (tvn .str x) := (grp_impl_Digits_law k) a1 x h
/-! impl.Number -/
noncomputable def E_impl_Number (k : Nat) : Env := ⟨ty, fun g => match g with
  | 53 => some (byVal fun ρ l K => match l with
    | [b1] => (b1.as (.int .u8)).bind fun c1 => (impl_isDigit k c1).bind fun r => K (tvn .bool r)
    | _ => none)
  | 33 => some (byVal fun ρ l K => match l with
    | [b1] => (b1.as (.int .i64)).bind fun c1 => (impl_WordOk k c1).bind fun r => K (tvn .bool r)
    | _ => none)
  | 70 => some (byVal fun ρ l K => match l with
    | [b1] => (b1.as (.int .i64)).bind fun c1 => (impl_Digits k c1).bind fun r => K (tvn .str r)
    | _ => none)
  | 54 => some noCon
  | _ => none, fun f r => match f with | 54 => (match r with | 4 => some [0, 4, 5, 6] | 6 => some [0, 4, 5, 6] | 7 => some [0, 4, 5, 6, 26, 27] | _ => none) | _ => none⟩
noncomputable def impl_Number (k : Nat) (a1 : ByteArray) : Option (Int × Bool × Unit) :=
  abody (E_impl_Number k) (arun Try.prog (E_impl_Number k) k) k 54 Try.f54 [.str a1] [] (finN (.pair (.int .i64) (.pair .bool .unit)))
noncomputable def impl_Number.j4 (k : Nat) (x0 : ByteArray) (x4 : Int) (x5 : ByteArray) (x6 : Int) : Option (Int × Bool × Unit) :=
  resume (E_impl_Number k) 54 (acall (E_impl_Number k) (arun Try.prog (E_impl_Number k) k)) k [true, true, true] [] (bodyOf Try.f54) ⟨[.str x0, .undef, .undef, .undef, .int .i64 x4, .str x5, .int .i64 x6, .undef, .undef, .undef, .undef, .undef, .undef, .undef, .undef, .undef, .undef, .undef, .undef, .undef, .undef, .undef, .undef, .undef, .undef, .undef, .undef, .undef, .undef, .undef, .undef, .undef, .undef, .undef, .undef, .undef, .undef, .undef, .undef, .undef, .undef, .undef, .undef, .undef, .undef, .undef, .undef, .undef, .undef, .undef, .undef, .undef, .undef, .undef, .undef, .undef, .undef], []⟩ (leave (E_impl_Number k) Try.f54 (finN (.pair (.int .i64) (.pair .bool .unit))))
noncomputable def impl_Number.j6 (k : Nat) (x0 : ByteArray) (x4 : Int) (x5 : ByteArray) (x6 : Int) : Option (Int × Bool × Unit) :=
  resume (E_impl_Number k) 54 (acall (E_impl_Number k) (arun Try.prog (E_impl_Number k) k)) k [true, true, true, true] [] (bodyOf Try.f54) ⟨[.str x0, .undef, .undef, .undef, .int .i64 x4, .str x5, .int .i64 x6, .undef, .undef, .undef, .undef, .undef, .undef, .undef, .undef, .undef, .undef, .undef, .undef, .undef, .undef, .undef, .undef, .undef, .undef, .undef, .undef, .undef, .undef, .undef, .undef, .undef, .undef, .undef, .undef, .undef, .undef, .undef, .undef, .undef, .undef, .undef, .undef, .undef, .undef, .undef, .undef, .undef, .undef, .undef, .undef, .undef, .undef, .undef, .undef, .undef, .undef], []⟩ (leave (E_impl_Number k) Try.f54 (finN (.pair (.int .i64) (.pair .bool .unit))))
noncomputable def impl_Number.l7 (k n : Nat) (x0 : ByteArray) (x4 : Int) (x5 : ByteArray) (x6 : Int) (x26 : Int) (x27 : Int) : Option (Int × Bool × Unit) :=
  resume (E_impl_Number k) 54 (acall (E_impl_Number k) (arun Try.prog (E_impl_Number k) k)) k [true, true, true, true, false, true, true] [n] (bodyOf Try.f54) ⟨[.str x0, .undef, .undef, .undef, .int .i64 x4, .str x5, .int .i64 x6, .undef, .undef, .undef, .undef, .undef, .undef, .undef, .undef, .undef, .undef, .undef, .undef, .undef, .undef, .undef, .undef, .undef, .undef, .undef, .int .i64 x26, .int .i64 x27, .undef, .undef, .undef, .undef, .undef, .undef, .undef, .undef, .undef, .undef, .undef, .undef, .undef, .undef, .undef, .undef, .undef, .undef, .undef, .undef, .undef, .undef, .undef, .undef, .undef, .undef, .undef, .undef, .undef], []⟩ (leave (E_impl_Number k) Try.f54 (finN (.pair (.int .i64) (.pair .bool .unit))))
theorem impl_Number.j4_e (k : Nat) (x0 : ByteArray) (x4 : Int) (x5 : ByteArray) (x6 : Int) : impl_Number.j4 k x0 x4 x5 x6 =
  iteB (!(ByteArray.toList x5 == ByteArray.toList (⟨#[]⟩ : ByteArray))) (iteB (decide ((ByteArray.size x5 : Int) > 10)) (some (0, false, ())) (gate k (impl_Number.j6 k x0 x4 x5 x6))) (some (0, false, ())) := by kernel_rfl
theorem impl_Number.j6_e (k : Nat) (x0 : ByteArray) (x4 : Int) (x5 : ByteArray) (x6 : Int) : impl_Number.j6 k x0 x4 x5 x6 =
  impl_Number.l7 k k x0 x4 x5 x6 (ByteArray.size x5 : Int) 0 := by kernel_rfl
theorem impl_Number.l7_0 (k : Nat) (x0 : ByteArray) (x4 : Int) (x5 : ByteArray) (x6 : Int) (x26 : Int) (x27 : Int) : impl_Number.l7 k 0 x0 x4 x5 x6 x26 x27 = none := by kernel_rfl
theorem impl_Number.l7_s (k n : Nat) (x0 : ByteArray) (x4 : Int) (x5 : ByteArray) (x6 : Int) (x26 : Int) (x27 : Int) : impl_Number.l7 k (n + 1) x0 x4 x5 x6 x26 x27 =
  iteB (decide (x27 < x26)) (iteB (decide (0 ≤ x27)) (iteB (decide (x27 < (ByteArray.size x5 : Int))) (bindO (impl_isDigit k (byteAt x5 (Int.toNat x27))) fun r1 => (iteB (!r1) (some (0, false, ())) (iteB (decide (0 ≤ x27)) (iteB (decide (x27 < (ByteArray.size x5 : Int))) (impl_Number.l7 k n x0 (IntKind.wrap .i64 ((IntKind.wrap .i64 (10 * x4)) + (IntKind.wrap .i64 (IntKind.wrap .u8 ((byteAt x5 (Int.toNat x27)) - 48))))) x5 x6 x26 (IntKind.wrap .i64 (x27 + 1))) (none)) (none)))) (none)) (none)) (bindO (impl_WordOk k (IntKind.wrap .i64 (x4 * x6))) fun r2 => (iteB (!(!r2)) (bindO (impl_Digits k (IntKind.wrap .i64 (x4 * x6))) fun r3 => (iteB (!(ByteArray.toList r3 == ByteArray.toList x0)) (some (0, false, ())) (some (IntKind.wrap .i64 (x4 * x6), true, ())))) (some (0, false, ())))) := by kernel_rfl
theorem impl_Number_e (k : Nat) (a1 : ByteArray) : impl_Number k a1 =
  iteB (!(ByteArray.toList a1 == ByteArray.toList (⟨#[]⟩ : ByteArray))) (iteB (decide (0 < (ByteArray.size a1 : Int))) (iteB ((byteAt a1 0) == 45) (iteB (decide (1 ≤ (ByteArray.size a1 : Int))) (gate k (impl_Number.j4 k a1 0 (ByteArray.extract a1 1 (ByteArray.size a1)) (-1))) (none)) (gate k (impl_Number.j4 k a1 0 a1 1))) (none)) (gate k (impl_Number.j4 k a1 0 a1 1)) := by kernel_rfl
theorem E_impl_Number_calls (k : Nat) : CallsOk Try.prog (E_impl_Number k) (arun Try.prog (E_impl_Number k) k) := by
  refine told_run (tyTOk _ _) ?_ (fun run h => regOk (tyTOk _ _) mixOk h) ?_ nameOk k
  · intro g m hg
    simp only [E_impl_Number] at hg
    split at hg
    · cases hg
      refine con_byVal fun ρ l K x hm => ?_
      split at hm
      · obtain ⟨c1, h1, hm⟩ := Option.bind_eq_some_iff.1 hm
        obtain ⟨r, hr, hm⟩ := Option.bind_eq_some_iff.1 hm
        exact ⟨_, hm, LawV.reads (.cons (.as h1) .nil) (impl_isDigit_law k c1 r hr)⟩
      · cases hm
    · cases hg
      refine con_byVal fun ρ l K x hm => ?_
      split at hm
      · obtain ⟨c1, h1, hm⟩ := Option.bind_eq_some_iff.1 hm
        obtain ⟨r, hr, hm⟩ := Option.bind_eq_some_iff.1 hm
        exact ⟨_, hm, LawV.reads (.cons (.as h1) .nil) (impl_WordOk_law k c1 r hr)⟩
      · cases hm
    · cases hg
      refine con_byVal fun ρ l K x hm => ?_
      split at hm
      · obtain ⟨c1, h1, hm⟩ := Option.bind_eq_some_iff.1 hm
        obtain ⟨r, hr, hm⟩ := Option.bind_eq_some_iff.1 hm
        exact ⟨_, hm, LawV.reads (.cons (.as h1) .nil) (impl_Digits_law k c1 r hr)⟩
      · cases hm
    · cases hg; exact noCon_ok
    · cases hg
  · intro g hg r
    by_cases h : g = 54
    · subst h; simp [E_impl_Number] at hg
    · simp [E_impl_Number, h]
theorem f54_okimpl_Number : Try.prog.funcs[54]? = some Try.f54 := by kernel_rfl
theorem impl_Number_law (k : Nat) (a1 : ByteArray) (x : Int × Bool × Unit) (h : impl_Number k a1 = some x) : LawV Try.prog 54 [.str a1] (.tup (outs (.pair (.int .i64) (.pair .bool .unit)) x)) := by
  unfold impl_Number at h
  exact lawN (t := (.pair (.int .i64) (.pair .bool .unit))) (tyTOk _ _) (E_impl_Number_calls k) mixOk f54_okimpl_Number (nameOk _ _ f54_okimpl_Number) (by kernel_rfl) h
/-! internal/stringslite.HasPrefix -/
noncomputable def E_internal_stringslite_HasPrefix (k : Nat) : Env := ⟨ty, fun _ => none, fun _ _ => none⟩
noncomputable def internal_stringslite_HasPrefix (k : Nat) (a1 : ByteArray) (a2 : ByteArray) : Option (Bool) :=
  abody (E_internal_stringslite_HasPrefix k) (arun Try.prog (E_internal_stringslite_HasPrefix k) k) k 71 Try.f71 [.str a1, .str a2] [] (fin1 .bool)
theorem internal_stringslite_HasPrefix_e (k : Nat) (a1 : ByteArray) (a2 : ByteArray) : internal_stringslite_HasPrefix k a1 a2 =
  iteB (decide ((ByteArray.size a1 : Int) ≥ (ByteArray.size a2 : Int))) (iteB (decide (0 ≤ (ByteArray.size a2 : Int))) (iteB (decide ((ByteArray.size a2 : Int) ≤ (ByteArray.size a1 : Int))) (some (ByteArray.toList (ByteArray.extract a1 0 (Int.toNat (ByteArray.size a2 : Int))) == ByteArray.toList a2)) (none)) (none)) (some false) := by kernel_rfl
theorem E_internal_stringslite_HasPrefix_calls (k : Nat) : CallsOk Try.prog (E_internal_stringslite_HasPrefix k) (arun Try.prog (E_internal_stringslite_HasPrefix k) k) := by
  refine told_run (tyTOk _ _) ?_ (fun run h => regOk (tyTOk _ _) mixOk h) ?_ nameOk k
  · intro g m hg
    cases hg
  · intro g _ r; rfl
theorem f71_okinternal_stringslite_HasPrefix : Try.prog.funcs[71]? = some Try.f71 := by kernel_rfl
theorem internal_stringslite_HasPrefix_law (k : Nat) (a1 : ByteArray) (a2 : ByteArray) (x : Bool) (h : internal_stringslite_HasPrefix k a1 a2 = some x) : LawV Try.prog 71 [.str a1, .str a2] (tvn .bool x) := by
  unfold internal_stringslite_HasPrefix at h
  exact law1 (t := .bool) (tyTOk _ _) (E_internal_stringslite_HasPrefix_calls k) mixOk f71_okinternal_stringslite_HasPrefix (nameOk _ _ f71_okinternal_stringslite_HasPrefix) (by kernel_rfl) h
/-! strings.HasPrefix -/
noncomputable def E_strings_HasPrefix (k : Nat) : Env := ⟨ty, fun g => match g with
  | 71 => some (byVal fun ρ l K => match l with
    | [b1, b2] => (b1.as .str).bind fun c1 => (b2.as .str).bind fun c2 => (internal_stringslite_HasPrefix k c1 c2).bind fun r => K (tvn .bool r)
    | _ => none)
  | _ => none, fun _ _ => none⟩
noncomputable def strings_HasPrefix (k : Nat) (a1 : ByteArray) (a2 : ByteArray) : Option (Bool) :=
  abody (E_strings_HasPrefix k) (arun Try.prog (E_strings_HasPrefix k) k) k 55 Try.f55 [.str a1, .str a2] [] (fin1 .bool)
theorem strings_HasPrefix_e (k : Nat) (a1 : ByteArray) (a2 : ByteArray) : strings_HasPrefix k a1 a2 =
  bindO (internal_stringslite_HasPrefix k a1 a2) fun r1 => (some r1) := by kernel_rfl
theorem E_strings_HasPrefix_calls (k : Nat) : CallsOk Try.prog (E_strings_HasPrefix k) (arun Try.prog (E_strings_HasPrefix k) k) := by
  refine told_run (tyTOk _ _) ?_ (fun run h => regOk (tyTOk _ _) mixOk h) ?_ nameOk k
  · intro g m hg
    simp only [E_strings_HasPrefix] at hg
    split at hg
    · cases hg
      refine con_byVal fun ρ l K x hm => ?_
      split at hm
      · obtain ⟨c1, h1, hm⟩ := Option.bind_eq_some_iff.1 hm
        obtain ⟨c2, h2, hm⟩ := Option.bind_eq_some_iff.1 hm
        obtain ⟨r, hr, hm⟩ := Option.bind_eq_some_iff.1 hm
        exact ⟨_, hm, LawV.reads (.cons (.as h1) (.cons (.as h2) .nil)) (internal_stringslite_HasPrefix_law k c1 c2 r hr)⟩
      · cases hm
    · cases hg
  · intro g _ r; rfl
theorem f55_okstrings_HasPrefix : Try.prog.funcs[55]? = some Try.f55 := by kernel_rfl
theorem strings_HasPrefix_law (k : Nat) (a1 : ByteArray) (a2 : ByteArray) (x : Bool) (h : strings_HasPrefix k a1 a2 = some x) : LawV Try.prog 55 [.str a1, .str a2] (tvn .bool x) := by
  unfold strings_HasPrefix at h
  exact law1 (t := .bool) (tyTOk _ _) (E_strings_HasPrefix_calls k) mixOk f55_okstrings_HasPrefix (nameOk _ _ f55_okstrings_HasPrefix) (by kernel_rfl) h
/-! strings.IndexByte -/
noncomputable def strings_IndexByte (k : Nat) (a1 : ByteArray) (a2 : Int) : Option Int := some (Lib.indexByte a1.data.toList a2.toNat.toUInt8)
theorem f56_okstrings_IndexByte : Try.prog.funcs[56]? = some Try.f56 := by kernel_rfl
theorem strings_IndexByte_law (k : Nat) (a1 : ByteArray) (a2 : Int) (x : Int) (h : strings_IndexByte k a1 a2 = some x) : LawV Try.prog 56 [.str a1, .int .u8 a2] (tvn (.int .i64) x) := by
  cases h
  exact law_index (g := fun s c => Lib.indexByte s.data.toList c.toNat.toUInt8) ⟨_, f56_okstrings_IndexByte, nameOk _ _ f56_okstrings_IndexByte, by kernel_rfl⟩ Try.strings_IndexByte a1 a2
/-! impl.token -/
noncomputable def E_impl_token (k : Nat) : Env := ⟨ty, fun g => match g with
  | 51 => some (byVal fun ρ l K => match l with
    | [b1] => (b1.as (.int .u8)).bind fun c1 => (impl_isLetter k c1).bind fun r => K (tvn .bool r)
    | _ => none)
  | 52 => some (byVal fun ρ l K => match l with
    | [b1, b2, .fn 51 []] => (b1.as .str).bind fun c1 => (b2.as (.int .i64)).bind fun c2 => (impl_run__impl_isLetter k c1 c2).bind fun r => K (tvn (.int .i64) r)
    | [b1, b2, .fn 53 []] => (b1.as .str).bind fun c1 => (b2.as (.int .i64)).bind fun c2 => (impl_run__impl_isDigit k c1 c2).bind fun r => K (tvn (.int .i64) r)
    | _ => none)
  | 53 => some (byVal fun ρ l K => match l with
    | [b1] => (b1.as (.int .u8)).bind fun c1 => (impl_isDigit k c1).bind fun r => K (tvn .bool r)
    | _ => none)
  | 54 => some (byVal fun ρ l K => match l with
    | [b1] => (b1.as .str).bind fun c1 => (impl_Number k c1).bind fun r => K (.tup (outs (.pair (.int .i64) (.pair .bool .unit)) r))
    | _ => none)
  | 55 => some (byVal fun ρ l K => match l with
    | [b1, b2] => (b1.as .str).bind fun c1 => (b2.as .str).bind fun c2 => (strings_HasPrefix k c1 c2).bind fun r => K (tvn .bool r)
    | _ => none)
  | 56 => some (byVal fun ρ l K => match l with
    | [b1, b2] => (b1.as .str).bind fun c1 => (b2.as (.int .u8)).bind fun c2 => (strings_IndexByte k c1 c2).bind fun r => K (tvn (.int .i64) r)
    | _ => none)
  | _ => none, fun _ _ => none⟩
noncomputable def impl_token (k : Nat) (a1 : ByteArray) (a2 : Int) : Option (Int × ByteArray × Int × Int × Unit) :=
  abody (E_impl_token k) (arun Try.prog (E_impl_token k) k) k 39 Try.f39 [.str a1, .int .i64 a2] [] (fin1 (.pair (.int .i64) (.pair .str (.pair (.int .i64) (.pair (.int .i64) .unit)))))
theorem impl_token_e (k : Nat) (a1 : ByteArray) (a2 : Int) : impl_token k a1 a2 =
  iteB (decide (0 ≤ a2)) (iteB (decide (a2 < (ByteArray.size a1 : Int))) (bindO (impl_isLetter k (byteAt a1 (Int.toNat a2))) fun r1 => (iteB r1 (bindO (impl_run__impl_isLetter k a1 a2) fun r2 => (iteB (decide (0 ≤ IntKind.wrap .i64 (a2 + r2))) (iteB (decide (IntKind.wrap .i64 (a2 + r2) ≤ (ByteArray.size a1 : Int))) (iteB (decide (0 ≤ a2)) (iteB (decide (a2 ≤ IntKind.wrap .i64 (a2 + r2))) (iteB (decide ((ByteArray.size (ByteArray.extract a1 (Int.toNat a2) (Int.toNat (IntKind.wrap .i64 (a2 + r2)))) : Int) > 10)) (some (0, ByteArray.empty, 0, 0, ())) (some (1, ByteArray.extract a1 (Int.toNat a2) (Int.toNat (IntKind.wrap .i64 (a2 + r2))), 0, a2, ()))) (none)) (none)) (none)) (none))) (bindO (impl_isDigit k (byteAt a1 (Int.toNat a2))) fun r3 => (iteB r3 (bindO (impl_run__impl_isDigit k a1 a2) fun r4 => (iteB (decide (0 ≤ IntKind.wrap .i64 (a2 + r4))) (iteB (decide (IntKind.wrap .i64 (a2 + r4) ≤ (ByteArray.size a1 : Int))) (iteB (decide (0 ≤ a2)) (iteB (decide (a2 ≤ IntKind.wrap .i64 (a2 + r4))) (bindO (impl_Number k (ByteArray.extract a1 (Int.toNat a2) (Int.toNat (IntKind.wrap .i64 (a2 + r4))))) fun r5 => (iteB (!r5.2.1) (some (0, ByteArray.empty, 0, 0, ())) (some (2, ByteArray.extract a1 (Int.toNat a2) (Int.toNat (IntKind.wrap .i64 (a2 + r4))), r5.1, a2, ())))) (none)) (none)) (none)) (none))) (iteB (decide (0 ≤ a2)) (iteB (decide (a2 ≤ (ByteArray.size a1 : Int))) (bindO (strings_HasPrefix k (ByteArray.extract a1 (Int.toNat a2) (ByteArray.size a1)) (⟨#[61, 61]⟩ : ByteArray)) fun r6 => (iteB r6 (some (3, (⟨#[61, 61]⟩ : ByteArray), 0, a2, ())) (bindO (strings_IndexByte k (⟨#[40, 41, 123, 125, 44, 59, 61, 43, 45, 42, 60]⟩ : ByteArray) (byteAt a1 (Int.toNat a2))) fun r7 => (iteB (decide (r7 ≥ 0)) (iteB (decide (0 ≤ IntKind.wrap .i64 (a2 + 1))) (iteB (decide (IntKind.wrap .i64 (a2 + 1) ≤ (ByteArray.size a1 : Int))) (iteB (decide (0 ≤ a2)) (iteB (decide (a2 ≤ IntKind.wrap .i64 (a2 + 1))) (some (3, ByteArray.extract a1 (Int.toNat a2) (Int.toNat (IntKind.wrap .i64 (a2 + 1))), 0, a2, ())) (none)) (none)) (none)) (none)) (some (0, ByteArray.empty, 0, 0, ())))))) (none)) (none)))))) (none)) (none) := by kernel_rfl
theorem E_impl_token_calls (k : Nat) : CallsOk Try.prog (E_impl_token k) (arun Try.prog (E_impl_token k) k) := by
  refine told_run (tyTOk _ _) ?_ (fun run h => regOk (tyTOk _ _) mixOk h) ?_ nameOk k
  · intro g m hg
    simp only [E_impl_token] at hg
    split at hg
    · cases hg
      refine con_byVal fun ρ l K x hm => ?_
      split at hm
      · obtain ⟨c1, h1, hm⟩ := Option.bind_eq_some_iff.1 hm
        obtain ⟨r, hr, hm⟩ := Option.bind_eq_some_iff.1 hm
        exact ⟨_, hm, LawV.reads (.cons (.as h1) .nil) (impl_isLetter_law k c1 r hr)⟩
      · cases hm
    · cases hg
      refine con_byVal fun ρ l K x hm => ?_
      split at hm
      · obtain ⟨c1, h1, hm⟩ := Option.bind_eq_some_iff.1 hm
        obtain ⟨c2, h2, hm⟩ := Option.bind_eq_some_iff.1 hm
        obtain ⟨r, hr, hm⟩ := Option.bind_eq_some_iff.1 hm
        exact ⟨_, hm, LawV.reads (.cons (.as h1) (.cons (.as h2) (.cons (.fn .nil) .nil))) (impl_run__impl_isLetter_law k c1 c2 r hr)⟩
      · obtain ⟨c1, h1, hm⟩ := Option.bind_eq_some_iff.1 hm
        obtain ⟨c2, h2, hm⟩ := Option.bind_eq_some_iff.1 hm
        obtain ⟨r, hr, hm⟩ := Option.bind_eq_some_iff.1 hm
        exact ⟨_, hm, LawV.reads (.cons (.as h1) (.cons (.as h2) (.cons (.fn .nil) .nil))) (impl_run__impl_isDigit_law k c1 c2 r hr)⟩
      · cases hm
    · cases hg
      refine con_byVal fun ρ l K x hm => ?_
      split at hm
      · obtain ⟨c1, h1, hm⟩ := Option.bind_eq_some_iff.1 hm
        obtain ⟨r, hr, hm⟩ := Option.bind_eq_some_iff.1 hm
        exact ⟨_, hm, LawV.reads (.cons (.as h1) .nil) (impl_isDigit_law k c1 r hr)⟩
      · cases hm
    · cases hg
      refine con_byVal fun ρ l K x hm => ?_
      split at hm
      · obtain ⟨c1, h1, hm⟩ := Option.bind_eq_some_iff.1 hm
        obtain ⟨r, hr, hm⟩ := Option.bind_eq_some_iff.1 hm
        exact ⟨_, hm, LawV.reads (.cons (.as h1) .nil) (impl_Number_law k c1 r hr)⟩
      · cases hm
    · cases hg
      refine con_byVal fun ρ l K x hm => ?_
      split at hm
      · obtain ⟨c1, h1, hm⟩ := Option.bind_eq_some_iff.1 hm
        obtain ⟨c2, h2, hm⟩ := Option.bind_eq_some_iff.1 hm
        obtain ⟨r, hr, hm⟩ := Option.bind_eq_some_iff.1 hm
        exact ⟨_, hm, LawV.reads (.cons (.as h1) (.cons (.as h2) .nil)) (strings_HasPrefix_law k c1 c2 r hr)⟩
      · cases hm
    · cases hg
      refine con_byVal fun ρ l K x hm => ?_
      split at hm
      · obtain ⟨c1, h1, hm⟩ := Option.bind_eq_some_iff.1 hm
        obtain ⟨c2, h2, hm⟩ := Option.bind_eq_some_iff.1 hm
        obtain ⟨r, hr, hm⟩ := Option.bind_eq_some_iff.1 hm
        exact ⟨_, hm, LawV.reads (.cons (.as h1) (.cons (.as h2) .nil)) (strings_IndexByte_law k c1 c2 r hr)⟩
      · cases hm
    · cases hg
  · intro g _ r; rfl
theorem f39_okimpl_token : Try.prog.funcs[39]? = some Try.f39 := by kernel_rfl
theorem impl_token_law (k : Nat) (a1 : ByteArray) (a2 : Int) (x : Int × ByteArray × Int × Int × Unit) (h : impl_token k a1 a2 = some x) : LawV Try.prog 39 [.str a1, .int .i64 a2] (tvn (.pair (.int .i64) (.pair .str (.pair (.int .i64) (.pair (.int .i64) .unit)))) x) := by
  unfold impl_token at h
  exact law1 (t := (.pair (.int .i64) (.pair .str (.pair (.int .i64) (.pair (.int .i64) .unit))))) (tyTOk _ _) (E_impl_token_calls k) mixOk f39_okimpl_token (nameOk _ _ f39_okimpl_token) (by kernel_rfl) h
/-! impl.Tokens -/
noncomputable def E_impl_Tokens (k : Nat) : Env := ⟨tyD, fun g => match g with
  | 39 => some (byVal fun ρ l K => match l with
    | [b1, b2] => (b1.as .str).bind fun c1 => (b2.as (.int .i64)).bind fun c2 => (impl_token k c1 c2).bind fun r => K (tvn (.pair (.int .i64) (.pair .str (.pair (.int .i64) (.pair (.int .i64) .unit)))) r)
    | _ => none)
  | 22 => some noCon
  | _ => none, fun f r => match f with | 22 => (match r with | 5 => some [0, 4, 5] | 8 => some [0, 4, 5] | _ => none) | _ => none⟩
noncomputable def impl_Tokens (k : Nat) (a1 : ByteArray) : Option ((List (Int × ByteArray × Int × Int × Unit)) × Int × Unit) :=
  abody (E_impl_Tokens k) (arun Try.prog (E_impl_Tokens k) k) k 22 Try.f22 [.str a1] [] (finDT (.pair (.row (.pair (.int .i64) (.pair .str (.pair (.int .i64) (.pair (.int .i64) .unit))))) (.pair (.int .i64) .unit)))
noncomputable def impl_Tokens.l5 (k n : Nat) (x0 : ByteArray) (x5 : Int) : Option ((List (Int × ByteArray × Int × Int × Unit)) × Int × Unit) :=
  resume (E_impl_Tokens k) 22 (acall (E_impl_Tokens k) (arun Try.prog (E_impl_Tokens k) k)) k [true, true, true, false, true, true] [n] (bodyOf Try.f22) ⟨[.str x0, .undef, .undef, .undef, .sl 0, .int .i64 x5, .undef, .undef, .undef, .undef, .undef, .undef, .undef, .undef, .undef, .undef, .undef, .undef, .undef, .undef, .undef, .undef, .undef, .undef, .undef, .undef, .undef, .undef, .undef, .undef, .undef, .undef, .undef, .undef, .undef, .undef, .undef, .undef, .undef, .undef, .undef, .undef, .undef, .undef, .undef, .undef, .undef, .undef, .undef, .undef, .undef, .undef, .undef], [some ⟨.typed (.pair (.int .i64) (.pair .str (.pair (.int .i64) (.pair (.int .i64) .unit)))) [], true⟩]⟩ (leave (E_impl_Tokens k) Try.f22 (finDT (.pair (.row (.pair (.int .i64) (.pair .str (.pair (.int .i64) (.pair (.int .i64) .unit))))) (.pair (.int .i64) .unit))))
noncomputable def impl_Tokens.j8 (k m5 : Nat) (x0 : ByteArray) (x5 : Int) : Option ((List (Int × ByteArray × Int × Int × Unit)) × Int × Unit) :=
  resume (E_impl_Tokens k) 22 (acall (E_impl_Tokens k) (arun Try.prog (E_impl_Tokens k) k)) k [true, true, true, false, true, true, true, true, true, true] [m5] (bodyOf Try.f22) ⟨[.str x0, .undef, .undef, .undef, .sl 0, .int .i64 x5, .undef, .undef, .undef, .undef, .undef, .undef, .undef, .undef, .undef, .undef, .undef, .undef, .undef, .undef, .undef, .undef, .undef, .undef, .undef, .undef, .undef, .undef, .undef, .undef, .undef, .undef, .undef, .undef, .undef, .undef, .undef, .undef, .undef, .undef, .undef, .undef, .undef, .undef, .undef, .undef, .undef, .undef, .undef, .undef, .undef, .undef, .undef], [some ⟨.typed (.pair (.int .i64) (.pair .str (.pair (.int .i64) (.pair (.int .i64) .unit)))) [], true⟩]⟩ (leave (E_impl_Tokens k) Try.f22 (finDT (.pair (.row (.pair (.int .i64) (.pair .str (.pair (.int .i64) (.pair (.int .i64) .unit))))) (.pair (.int .i64) .unit))))
noncomputable def impl_Tokens.l5b (k n : Nat) (x0 : ByteArray) (x5 : Int) (y0 : List (Int × ByteArray × Int × Int × Unit)) : Option ((List (Int × ByteArray × Int × Int × Unit)) × Int × Unit) :=
  resume (E_impl_Tokens k) 22 (acall (E_impl_Tokens k) (arun Try.prog (E_impl_Tokens k) k)) k [true, true, true, false, true, true] [n] (bodyOf Try.f22) ⟨[.str x0, .undef, .undef, .undef, .sl 0, .int .i64 x5, .undef, .undef, .undef, .undef, .undef, .undef, .undef, .undef, .undef, .undef, .undef, .undef, .undef, .undef, .undef, .undef, .undef, .undef, .undef, .undef, .undef, .undef, .undef, .undef, .undef, .undef, .undef, .undef, .undef, .undef, .undef, .undef, .undef, .undef, .undef, .undef, .undef, .undef, .undef, .undef, .undef, .undef, .undef, .undef, .undef, .undef, .undef], [some ⟨.typed (.pair (.int .i64) (.pair .str (.pair (.int .i64) (.pair (.int .i64) .unit)))) y0, false⟩]⟩ (leave (E_impl_Tokens k) Try.f22 (finDT (.pair (.row (.pair (.int .i64) (.pair .str (.pair (.int .i64) (.pair (.int .i64) .unit))))) (.pair (.int .i64) .unit))))
noncomputable def impl_Tokens.j8b (k m5 : Nat) (x0 : ByteArray) (x5 : Int) (y0 : List (Int × ByteArray × Int × Int × Unit)) : Option ((List (Int × ByteArray × Int × Int × Unit)) × Int × Unit) :=
  resume (E_impl_Tokens k) 22 (acall (E_impl_Tokens k) (arun Try.prog (E_impl_Tokens k) k)) k [true, true, true, false, true, true, true, true, true, true] [m5] (bodyOf Try.f22) ⟨[.str x0, .undef, .undef, .undef, .sl 0, .int .i64 x5, .undef, .undef, .undef, .undef, .undef, .undef, .undef, .undef, .undef, .undef, .undef, .undef, .undef, .undef, .undef, .undef, .undef, .undef, .undef, .undef, .undef, .undef, .undef, .undef, .undef, .undef, .undef, .undef, .undef, .undef, .undef, .undef, .undef, .undef, .undef, .undef, .undef, .undef, .undef, .undef, .undef, .undef, .undef, .undef, .undef, .undef, .undef], [some ⟨.typed (.pair (.int .i64) (.pair .str (.pair (.int .i64) (.pair (.int .i64) .unit)))) y0, false⟩]⟩ (leave (E_impl_Tokens k) Try.f22 (finDT (.pair (.row (.pair (.int .i64) (.pair .str (.pair (.int .i64) (.pair (.int .i64) .unit))))) (.pair (.int .i64) .unit))))
theorem impl_Tokens.l5_0 (k : Nat) (x0 : ByteArray) (x5 : Int) : impl_Tokens.l5 k 0 x0 x5 = none := by kernel_rfl
theorem impl_Tokens.l5_s (k n : Nat) (x0 : ByteArray) (x5 : Int) : impl_Tokens.l5 k (n + 1) x0 x5 =
  iteB (decide (x5 < (ByteArray.size x0 : Int))) (iteB (decide (0 ≤ x5)) (iteB (decide (x5 < (ByteArray.size x0 : Int))) (iteB (!((byteAt x0 (Int.toNat x5)) == 32)) (iteB (decide (0 ≤ x5)) (iteB (decide (x5 < (ByteArray.size x0 : Int))) (iteB ((byteAt x0 (Int.toNat x5)) == 10) (impl_Tokens.l5 k n x0 (IntKind.wrap .i64 (x5 + 1))) (gate k (impl_Tokens.j8 k n x0 x5))) (none)) (none)) (impl_Tokens.l5 k n x0 (IntKind.wrap .i64 (x5 + 1)))) (none)) (none)) (iteB (decide ((List.length ([] ++ [(0, ByteArray.empty, 0, (ByteArray.size x0 : Int), ())])) * 40 ≤ lim)) (some ([] ++ [(0, ByteArray.empty, 0, (ByteArray.size x0 : Int), ())], (-1), ())) (none)) := by kernel_rfl
theorem impl_Tokens.j8_e (k m5 : Nat) (x0 : ByteArray) (x5 : Int) : impl_Tokens.j8 k m5 x0 x5 =
  bindO (impl_token k x0 x5) fun r1 => (iteB (r1.1 == 0) (some ([], x5, ())) (iteB (r1.1 == 2) (iteB (decide ((List.length ([] ++ [(r1.1, (⟨#[]⟩ : ByteArray), r1.2.2.1, r1.2.2.2.1, ())])) * 40 ≤ lim)) (impl_Tokens.l5b k m5 x0 (IntKind.wrap .i64 (x5 + (ByteArray.size r1.2.1 : Int))) ([] ++ [(r1.1, (⟨#[]⟩ : ByteArray), r1.2.2.1, r1.2.2.2.1, ())])) (none)) (iteB (decide ((List.length ([] ++ [r1])) * 40 ≤ lim)) (impl_Tokens.l5b k m5 x0 (IntKind.wrap .i64 (x5 + (ByteArray.size r1.2.1 : Int))) ([] ++ [r1])) (none)))) := by kernel_rfl
theorem impl_Tokens.l5b_0 (k : Nat) (x0 : ByteArray) (x5 : Int) (y0 : List (Int × ByteArray × Int × Int × Unit)) : impl_Tokens.l5b k 0 x0 x5 y0 = none := by kernel_rfl
theorem impl_Tokens.l5b_s (k n : Nat) (x0 : ByteArray) (x5 : Int) (y0 : List (Int × ByteArray × Int × Int × Unit)) : impl_Tokens.l5b k (n + 1) x0 x5 y0 =
  iteB (decide (x5 < (ByteArray.size x0 : Int))) (iteB (decide (0 ≤ x5)) (iteB (decide (x5 < (ByteArray.size x0 : Int))) (iteB (!((byteAt x0 (Int.toNat x5)) == 32)) (iteB (decide (0 ≤ x5)) (iteB (decide (x5 < (ByteArray.size x0 : Int))) (iteB ((byteAt x0 (Int.toNat x5)) == 10) (impl_Tokens.l5b k n x0 (IntKind.wrap .i64 (x5 + 1)) y0) (gate k (impl_Tokens.j8b k n x0 x5 y0))) (none)) (none)) (impl_Tokens.l5b k n x0 (IntKind.wrap .i64 (x5 + 1)) y0)) (none)) (none)) (iteB (decide ((List.length (y0 ++ [(0, ByteArray.empty, 0, (ByteArray.size x0 : Int), ())])) * 40 ≤ lim)) (some (y0 ++ [(0, ByteArray.empty, 0, (ByteArray.size x0 : Int), ())], (-1), ())) (none)) := by kernel_rfl
theorem impl_Tokens.j8b_e (k m5 : Nat) (x0 : ByteArray) (x5 : Int) (y0 : List (Int × ByteArray × Int × Int × Unit)) : impl_Tokens.j8b k m5 x0 x5 y0 =
  bindO (impl_token k x0 x5) fun r2 => (iteB (r2.1 == 0) (some ([], x5, ())) (iteB (r2.1 == 2) (iteB (decide ((List.length (y0 ++ [(r2.1, (⟨#[]⟩ : ByteArray), r2.2.2.1, r2.2.2.2.1, ())])) * 40 ≤ lim)) (impl_Tokens.l5b k m5 x0 (IntKind.wrap .i64 (x5 + (ByteArray.size r2.2.1 : Int))) (y0 ++ [(r2.1, (⟨#[]⟩ : ByteArray), r2.2.2.1, r2.2.2.2.1, ())])) (none)) (iteB (decide ((List.length (y0 ++ [r2])) * 40 ≤ lim)) (impl_Tokens.l5b k m5 x0 (IntKind.wrap .i64 (x5 + (ByteArray.size r2.2.1 : Int))) (y0 ++ [r2])) (none)))) := by kernel_rfl
theorem impl_Tokens_e (k : Nat) (a1 : ByteArray) : impl_Tokens k a1 =
  iteB (decide ((ByteArray.size a1 : Int) > 6000)) (some ([], 0, ())) (impl_Tokens.l5 k k a1 0) := by kernel_rfl
theorem E_impl_Tokens_calls (k : Nat) : CallsOk Try.prog (E_impl_Tokens k) (arun Try.prog (E_impl_Tokens k) k) := by
  refine told_run (tyDTOk _ _) ?_ (fun run h => regOk (tyDTOk _ _) mixOk h) ?_ nameOk k
  · intro g m hg
    simp only [E_impl_Tokens] at hg
    split at hg
    · cases hg
      refine con_byVal fun ρ l K x hm => ?_
      split at hm
      · obtain ⟨c1, h1, hm⟩ := Option.bind_eq_some_iff.1 hm
        obtain ⟨c2, h2, hm⟩ := Option.bind_eq_some_iff.1 hm
        obtain ⟨r, hr, hm⟩ := Option.bind_eq_some_iff.1 hm
        exact ⟨_, hm, LawV.reads (.cons (.as h1) (.cons (.as h2) .nil)) (impl_token_law k c1 c2 r hr)⟩
      · cases hm
    · cases hg; exact noCon_ok
    · cases hg
  · intro g hg r
    by_cases h : g = 22
    · subst h; simp [E_impl_Tokens] at hg
    · simp [E_impl_Tokens, h]
theorem f22_okimpl_Tokens : Try.prog.funcs[22]? = some Try.f22 := by kernel_rfl
theorem impl_Tokens_law (k : Nat) (a1 : ByteArray) (x : (List (Int × ByteArray × Int × Int × Unit)) × Int × Unit) (h : impl_Tokens k a1 = some x) : LawDT Try.prog 22 [.str a1] (.pair (.row (.pair (.int .i64) (.pair .str (.pair (.int .i64) (.pair (.int .i64) .unit))))) (.pair (.int .i64) .unit)) x := by
  unfold impl_Tokens at h
  exact lawDT (t := (.pair (.row (.pair (.int .i64) (.pair .str (.pair (.int .i64) (.pair (.int .i64) .unit))))) (.pair (.int .i64) .unit))) (tyDTOk _ _) (E_impl_Tokens_calls k) mixOk f22_okimpl_Tokens (nameOk _ _ f22_okimpl_Tokens) (by kernel_rfl) h
/-! laws.eqToken -/
noncomputable def E_laws_eqToken (k : Nat) : Env := ⟨ty, fun _ => none, fun _ _ => none⟩
noncomputable def laws_eqToken (k : Nat) (a1 : Int × ByteArray × Int × Int × Unit) (a2 : Int × ByteArray × Int × Int × Unit) : Option (Bool) :=
  abody (E_laws_eqToken k) (arun Try.prog (E_laws_eqToken k) k) k 40 Try.f40 [.tv (.pair (.int .i64) (.pair .str (.pair (.int .i64) (.pair (.int .i64) .unit)))) a1, .tv (.pair (.int .i64) (.pair .str (.pair (.int .i64) (.pair (.int .i64) .unit)))) a2] [] (fin1 .bool)
theorem laws_eqToken_e (k : Nat) (a1 : Int × ByteArray × Int × Int × Unit) (a2 : Int × ByteArray × Int × Int × Unit) : laws_eqToken k a1 a2 =
  iteB (a1.1 != a2.1) (some false) (iteB (!(ByteArray.toList a1.2.1 == ByteArray.toList a2.2.1)) (some false) (iteB (a1.2.2.1 != a2.2.2.1) (some false) (iteB (a1.2.2.2.1 != a2.2.2.2.1) (some false) (some true)))) := by kernel_rfl
theorem E_laws_eqToken_calls (k : Nat) : CallsOk Try.prog (E_laws_eqToken k) (arun Try.prog (E_laws_eqToken k) k) := by
  refine told_run (tyTOk _ _) ?_ (fun run h => regOk (tyTOk _ _) mixOk h) ?_ nameOk k
  · intro g m hg
    cases hg
  · intro g _ r; rfl
theorem f40_oklaws_eqToken : Try.prog.funcs[40]? = some Try.f40 := by kernel_rfl
theorem laws_eqToken_law (k : Nat) (a1 : Int × ByteArray × Int × Int × Unit) (a2 : Int × ByteArray × Int × Int × Unit) (x : Bool) (h : laws_eqToken k a1 a2 = some x) : LawV Try.prog 40 [.tv (.pair (.int .i64) (.pair .str (.pair (.int .i64) (.pair (.int .i64) .unit)))) a1, .tv (.pair (.int .i64) (.pair .str (.pair (.int .i64) (.pair (.int .i64) .unit)))) a2] (tvn .bool x) := by
  unfold laws_eqToken at h
  exact law1 (t := .bool) (tyTOk _ _) (E_laws_eqToken_calls k) mixOk f40_oklaws_eqToken (nameOk _ _ f40_oklaws_eqToken) (by kernel_rfl) h
end Go.Proofs.Ytkingfejeangbaa.XFnExactTokens
