/- Functions of the program as runs of the interpreter: equations, and a law for each. -/
import Derived.Test.YteojdaobpjhddaaProg
import Derived.Test.YteojdaobpjhddaaChecked
import Derived.KernelRfl
import Derived.Eval
import Derived.Test.YteojdaobpjhddaaATyOk
import Derived.Test.YteojdaobpjhddaaAS40
import Derived.Test.YteojdaobpjhddaaAMFnTokens0
open Go Go.AM Go.AMx Go.Proofs
namespace Go.Proofs.Yteojdaobpjhddaa.XFnTokens
set_option linter.unusedVariables false
set_option linter.unusedSimpArgs false
/-! spec.l5Sign -/
noncomputable def E_spec_l5Sign (k : Nat) : Env := ⟨ty, fun g => match g with
  | 82 => some noCon
  | _ => none, fun f r => match f with | 82 => (match r with | 3 => some [0, 1] | 5 => some [0, 1, 5, 6] | _ => none) | _ => none⟩
noncomputable def spec_l5Sign (k : Nat) (a1 : ByteArray) (a2 : Int) : Option (ByteArray) :=
  abody (E_spec_l5Sign k) (arun Try.prog (E_spec_l5Sign k) k) k 82 Try.f82 [.str a1, .int .i64 a2] [] (fin1 .str)
noncomputable def spec_l5Sign.j3 (k : Nat) (x0 : ByteArray) (x1 : Int) : Option (ByteArray) :=
  resume (E_spec_l5Sign k) 82 (acall (E_spec_l5Sign k) (arun Try.prog (E_spec_l5Sign k) k)) k [true, true] [] (bodyOf Try.f82) ⟨[.str x0, .int .i64 x1, .undef, .undef, .undef, .undef, .undef, .undef, .undef, .undef, .undef, .undef, .undef, .undef, .undef, .undef, .undef, .undef, .undef, .undef, .undef, .undef, .undef, .undef, .undef, .undef, .undef, .undef, .undef, .undef, .undef, .undef, .undef, .undef, .undef, .undef, .undef, .undef, .undef, .undef, .undef, .undef, .undef], []⟩ (leave (E_spec_l5Sign k) Try.f82 (fin1 .str))
noncomputable def spec_l5Sign.l5 (k n : Nat) (x0 : ByteArray) (x1 : Int) (x5 : ByteArray) (x6 : Int) : Option (ByteArray) :=
  resume (E_spec_l5Sign k) 82 (acall (E_spec_l5Sign k) (arun Try.prog (E_spec_l5Sign k) k)) k [true, true, true, false, true, true] [n] (bodyOf Try.f82) ⟨[.str x0, .int .i64 x1, .undef, .undef, .undef, .str x5, .int .i64 x6, .undef, .undef, .undef, .undef, .undef, .undef, .undef, .undef, .undef, .undef, .undef, .undef, .undef, .undef, .undef, .undef, .undef, .undef, .undef, .undef, .undef, .undef, .undef, .undef, .undef, .undef, .undef, .undef, .undef, .undef, .undef, .undef, .undef, .undef, .undef, .undef], []⟩ (leave (E_spec_l5Sign k) Try.f82 (fin1 .str))
theorem spec_l5Sign.j3_e (k : Nat) (x0 : ByteArray) (x1 : Int) : spec_l5Sign.j3 k x0 x1 =
  spec_l5Sign.l5 k k x0 x1 (⟨#[40, 41, 123, 125, 44, 59, 61, 43, 45, 42, 60]⟩ : ByteArray) 0 := by kernel_rfl
theorem spec_l5Sign.l5_0 (k : Nat) (x0 : ByteArray) (x1 : Int) (x5 : ByteArray) (x6 : Int) : spec_l5Sign.l5 k 0 x0 x1 x5 x6 = none := by kernel_rfl
theorem spec_l5Sign.l5_s (k n : Nat) (x0 : ByteArray) (x1 : Int) (x5 : ByteArray) (x6 : Int) : spec_l5Sign.l5 k (n + 1) x0 x1 x5 x6 =
  iteB (decide (x6 < (ByteArray.size x5 : Int))) (iteB (decide (0 ≤ x6)) (iteB (decide (x6 < (ByteArray.size x5 : Int))) (iteB (decide (0 ≤ x1)) (iteB (decide (x1 < (ByteArray.size x0 : Int))) (iteB ((byteAt x5 (Int.toNat x6)) == (byteAt x0 (Int.toNat x1))) (iteB (decide (0 ≤ IntKind.wrap .i64 (x1 + 1))) (iteB (decide (IntKind.wrap .i64 (x1 + 1) ≤ (ByteArray.size x0 : Int))) (iteB (decide (0 ≤ x1)) (iteB (decide (x1 ≤ IntKind.wrap .i64 (x1 + 1))) (some (ByteArray.extract x0 (Int.toNat x1) (Int.toNat (IntKind.wrap .i64 (x1 + 1))))) (none)) (none)) (none)) (none)) (spec_l5Sign.l5 k n x0 x1 x5 (IntKind.wrap .i64 (x6 + 1)))) (none)) (none)) (none)) (none)) (some (⟨#[]⟩ : ByteArray)) := by kernel_rfl
theorem spec_l5Sign_e (k : Nat) (a1 : ByteArray) (a2 : Int) : spec_l5Sign k a1 a2 =
  iteB (decide (0 ≤ a2)) (iteB (decide (a2 < (ByteArray.size a1 : Int))) (iteB ((byteAt a1 (Int.toNat a2)) == 61) (iteB (decide (IntKind.wrap .i64 (a2 + 1) < (ByteArray.size a1 : Int))) (iteB (decide (0 ≤ IntKind.wrap .i64 (a2 + 1))) (iteB (decide (IntKind.wrap .i64 (a2 + 1) < (ByteArray.size a1 : Int))) (iteB ((byteAt a1 (Int.toNat (IntKind.wrap .i64 (a2 + 1)))) == 61) (some (⟨#[61, 61]⟩ : ByteArray)) (gate k (spec_l5Sign.j3 k a1 a2))) (none)) (none)) (gate k (spec_l5Sign.j3 k a1 a2))) (gate k (spec_l5Sign.j3 k a1 a2))) (none)) (none) := by kernel_rfl
theorem E_spec_l5Sign_calls (k : Nat) : CallsOk Try.prog (E_spec_l5Sign k) (arun Try.prog (E_spec_l5Sign k) k) := by
  refine told_run (tyTOk _ _) ?_ (fun run h => regOk (tyTOk _ _) mixOk h) ?_ nameOk k
  · intro g m hg
    simp only [E_spec_l5Sign] at hg
    split at hg
    · cases hg; exact noCon_ok
    · cases hg
  · intro g hg r
    by_cases h : g = 82
    · subst h; simp [E_spec_l5Sign] at hg
    · simp [E_spec_l5Sign, h]
theorem f82_okspec_l5Sign : Try.prog.funcs[82]? = some Try.f82 := by kernel_rfl
theorem spec_l5Sign_law (k : Nat) (a1 : ByteArray) (a2 : Int) (x : ByteArray) (h : spec_l5Sign k a1 a2 = some x) : LawV Try.prog 82 [.str a1, .int .i64 a2] (tvn .str x) := by
  unfold spec_l5Sign at h
  exact law1 (t := .str) (tyTOk _ _) (E_spec_l5Sign_calls k) mixOk f82_okspec_l5Sign (nameOk _ _ f82_okspec_l5Sign) (by kernel_rfl) h
/-! spec.l1In -/
noncomputable def E_spec_l1In (k : Nat) : Env := ⟨ty, fun _ => none, fun _ _ => none⟩
noncomputable def spec_l1In (k : Nat) (a1 : Int) (a2 : Int) (a3 : Int) : Option (Bool) :=
  abody (E_spec_l1In k) (arun Try.prog (E_spec_l1In k) k) k 47 Try.f47 [.int .i64 a1, .int .i64 a2, .int .i64 a3] [] (fin1 .bool)
theorem spec_l1In_e (k : Nat) (a1 : Int) (a2 : Int) (a3 : Int) : spec_l1In k a1 a2 a3 =
  iteB (decide (a1 ≥ a2)) (some (decide (a1 ≤ a3))) (some false) := by kernel_rfl
theorem E_spec_l1In_calls (k : Nat) : CallsOk Try.prog (E_spec_l1In k) (arun Try.prog (E_spec_l1In k) k) := by
  refine told_run (tyTOk _ _) ?_ (fun run h => regOk (tyTOk _ _) mixOk h) ?_ nameOk k
  · intro g m hg
    cases hg
  · intro g _ r; rfl
theorem f47_okspec_l1In : Try.prog.funcs[47]? = some Try.f47 := by kernel_rfl
theorem spec_l1In_law (k : Nat) (a1 : Int) (a2 : Int) (a3 : Int) (x : Bool) (h : spec_l1In k a1 a2 a3 = some x) : LawV Try.prog 47 [.int .i64 a1, .int .i64 a2, .int .i64 a3] (tvn .bool x) := by
  unfold spec_l1In at h
  exact law1 (t := .bool) (tyTOk _ _) (E_spec_l1In_calls k) mixOk f47_okspec_l1In (nameOk _ _ f47_okspec_l1In) (by kernel_rfl) h
/-! spec.WordOk -/
noncomputable def E_spec_WordOk (k : Nat) : Env := ⟨ty, fun g => match g with
  | 47 => some (byVal fun ρ l K => match l with
    | [b1, b2, b3] => (b1.as (.int .i64)).bind fun c1 => (b2.as (.int .i64)).bind fun c2 => (b3.as (.int .i64)).bind fun c3 => (spec_l1In k c1 c2 c3).bind fun r => K (tvn .bool r)
    | _ => none)
  | _ => none, fun _ _ => none⟩
noncomputable def spec_WordOk (k : Nat) (a1 : Int) : Option (Bool) :=
  abody (E_spec_WordOk k) (arun Try.prog (E_spec_WordOk k) k) k 54 Try.f54 [.int .i64 a1] [] (fin1 .bool)
theorem spec_WordOk_e (k : Nat) (a1 : Int) : spec_WordOk k a1 =
  bindO (spec_l1In k a1 (-2147483648) 2147483647) fun r1 => (some r1) := by kernel_rfl
theorem E_spec_WordOk_calls (k : Nat) : CallsOk Try.prog (E_spec_WordOk k) (arun Try.prog (E_spec_WordOk k) k) := by
  refine told_run (tyTOk _ _) ?_ (fun run h => regOk (tyTOk _ _) mixOk h) ?_ nameOk k
  · intro g m hg
    simp only [E_spec_WordOk] at hg
    split at hg
    · cases hg
      refine con_byVal fun ρ l K x hm => ?_
      split at hm
      · obtain ⟨c1, h1, hm⟩ := Option.bind_eq_some_iff.1 hm
        obtain ⟨c2, h2, hm⟩ := Option.bind_eq_some_iff.1 hm
        obtain ⟨c3, h3, hm⟩ := Option.bind_eq_some_iff.1 hm
        obtain ⟨r, hr, hm⟩ := Option.bind_eq_some_iff.1 hm
        exact ⟨_, hm, LawV.reads (.cons (.as h1) (.cons (.as h2) (.cons (.as h3) .nil))) (spec_l1In_law k c1 c2 c3 r hr)⟩
      · cases hm
    · cases hg
  · intro g _ r; rfl
theorem f54_okspec_WordOk : Try.prog.funcs[54]? = some Try.f54 := by kernel_rfl
theorem spec_WordOk_law (k : Nat) (a1 : Int) (x : Bool) (h : spec_WordOk k a1 = some x) : LawV Try.prog 54 [.int .i64 a1] (tvn .bool x) := by
  unfold spec_WordOk at h
  exact law1 (t := .bool) (tyTOk _ _) (E_spec_WordOk_calls k) mixOk f54_okspec_WordOk (nameOk _ _ f54_okspec_WordOk) (by kernel_rfl) h
/-! spec.Digits -/
noncomputable def E_spec_Digits (k : Nat) : Env := ⟨ty, fun g => match g with
  | 109 => some noCon
  | _ => none, fun f r => match f with | 109 => (match r with | 5 => some [0, 3, 4] | _ => none) | _ => none⟩
noncomputable def spec_Digits (k : Nat) (a1 : Int) : Option (ByteArray) :=
  abody (E_spec_Digits k) (arun Try.prog (E_spec_Digits k) k) k 109 Try.f109 [.int .i64 a1] [] (fin1 .str)
noncomputable def spec_Digits.l5 (k n : Nat) (x0 : Int) (x3 : Bool) (x4 : ByteArray) : Option (ByteArray) :=
  resume (E_spec_Digits k) 109 (acall (E_spec_Digits k) (arun Try.prog (E_spec_Digits k) k)) k [true, true, true, true, false, true] [n] (bodyOf Try.f109) ⟨[.int .i64 x0, .undef, .undef, .bool x3, .str x4, .undef, .undef, .undef, .undef, .undef, .undef, .undef, .undef, .undef, .undef, .undef, .undef, .undef, .undef, .undef, .undef, .undef, .undef, .undef, .undef, .undef, .undef, .undef, .undef, .undef, .undef], []⟩ (leave (E_spec_Digits k) Try.f109 (fin1 .str))
theorem spec_Digits.l5_0 (k : Nat) (x0 : Int) (x3 : Bool) (x4 : ByteArray) : spec_Digits.l5 k 0 x0 x3 x4 = none := by kernel_rfl
theorem spec_Digits.l5_s (k n : Nat) (x0 : Int) (x3 : Bool) (x4 : ByteArray) : spec_Digits.l5 k (n + 1) x0 x3 x4 =
  iteB (x0 != 0) (iteB (decide (Int.tmod x0 10 < 0)) (iteB (decide (ByteArray.size (bytesVal [IntKind.wrap .u8 (IntKind.wrap .i64 (48 + (IntKind.wrap .i64 (0 - (Int.tmod x0 10)))))]) + ByteArray.size x4 ≤ 9223372036854775807)) (spec_Digits.l5 k n (IntKind.wrap .i64 (Int.tdiv x0 10)) x3 ((bytesVal [IntKind.wrap .u8 (IntKind.wrap .i64 (48 + (IntKind.wrap .i64 (0 - (Int.tmod x0 10)))))]) ++ x4)) (none)) (iteB (decide (ByteArray.size (bytesVal [IntKind.wrap .u8 (IntKind.wrap .i64 (48 + (Int.tmod x0 10)))]) + ByteArray.size x4 ≤ 9223372036854775807)) (spec_Digits.l5 k n (IntKind.wrap .i64 (Int.tdiv x0 10)) x3 ((bytesVal [IntKind.wrap .u8 (IntKind.wrap .i64 (48 + (Int.tmod x0 10)))]) ++ x4)) (none))) (iteB x3 (iteB (decide (ByteArray.size (⟨#[45]⟩ : ByteArray) + ByteArray.size x4 ≤ 9223372036854775807)) (some ((⟨#[45]⟩ : ByteArray) ++ x4)) (none)) (some x4)) := by kernel_rfl
theorem spec_Digits_e (k : Nat) (a1 : Int) : spec_Digits k a1 =
  iteB (a1 == 0) (some (⟨#[48]⟩ : ByteArray)) (spec_Digits.l5 k k a1 (decide (a1 < 0)) (⟨#[]⟩ : ByteArray)) := by kernel_rfl
theorem E_spec_Digits_calls (k : Nat) : CallsOk Try.prog (E_spec_Digits k) (arun Try.prog (E_spec_Digits k) k) := by
  refine told_run (tyTOk _ _) ?_ (fun run h => regOk (tyTOk _ _) mixOk h) ?_ nameOk k
  · intro g m hg
    simp only [E_spec_Digits] at hg
    split at hg
    · cases hg; exact noCon_ok
    · cases hg
  · intro g hg r
    by_cases h : g = 109
    · subst h; simp [E_spec_Digits] at hg
    · simp [E_spec_Digits, h]
theorem f109_okspec_Digits : Try.prog.funcs[109]? = some Try.f109 := by kernel_rfl
theorem spec_Digits_law (k : Nat) (a1 : Int) (x : ByteArray) (h : spec_Digits k a1 = some x) : LawV Try.prog 109 [.int .i64 a1] (tvn .str x) := by
  unfold spec_Digits at h
  exact law1 (t := .str) (tyTOk _ _) (E_spec_Digits_calls k) mixOk f109_okspec_Digits (nameOk _ _ f109_okspec_Digits) (by kernel_rfl) h
/-! spec.Number -/
noncomputable def E_spec_Number (k : Nat) : Env := ⟨ty, fun g => match g with
  | 54 => some (byVal fun ρ l K => match l with
    | [b1] => (b1.as (.int .i64)).bind fun c1 => (spec_WordOk k c1).bind fun r => K (tvn .bool r)
    | _ => none)
  | 109 => some (byVal fun ρ l K => match l with
    | [b1] => (b1.as (.int .i64)).bind fun c1 => (spec_Digits k c1).bind fun r => K (tvn .str r)
    | _ => none)
  | 81 => some noCon
  | _ => none, fun f r => match f with | 81 => (match r with | 4 => some [0, 4] | 6 => some [0, 4] | 8 => some [0, 4, 5, 6] | 15 => some [0, 5] | _ => none) | _ => none⟩
noncomputable def spec_Number (k : Nat) (a1 : ByteArray) : Option (Int × Bool × Unit) :=
  abody (E_spec_Number k) (arun Try.prog (E_spec_Number k) k) k 81 Try.f81 [.str a1] [] (finN (.pair (.int .i64) (.pair .bool .unit)))
noncomputable def spec_Number.j4 (k : Nat) (x0 : ByteArray) (x4 : Int) : Option (Int × Bool × Unit) :=
  resume (E_spec_Number k) 81 (acall (E_spec_Number k) (arun Try.prog (E_spec_Number k) k)) k [true, true, true] [] (bodyOf Try.f81) ⟨[.str x0, .undef, .undef, .undef, .int .i64 x4, .undef, .undef, .undef, .undef, .undef, .undef, .undef, .undef, .undef, .undef, .undef, .undef, .undef, .undef, .undef, .undef, .undef, .undef, .undef, .undef, .undef, .undef, .undef, .undef, .undef, .undef, .undef, .undef, .undef, .undef, .undef, .undef, .undef, .undef, .undef, .undef, .undef, .undef, .undef, .undef, .undef, .undef, .undef, .undef, .undef, .undef, .undef, .undef, .undef, .undef, .undef, .undef, .undef, .undef, .undef, .undef, .undef, .undef, .undef, .undef], []⟩ (leave (E_spec_Number k) Try.f81 (finN (.pair (.int .i64) (.pair .bool .unit))))
noncomputable def spec_Number.j6 (k : Nat) (x0 : ByteArray) (x4 : Int) : Option (Int × Bool × Unit) :=
  resume (E_spec_Number k) 81 (acall (E_spec_Number k) (arun Try.prog (E_spec_Number k) k)) k [true, true, true, true] [] (bodyOf Try.f81) ⟨[.str x0, .undef, .undef, .undef, .int .i64 x4, .undef, .undef, .undef, .undef, .undef, .undef, .undef, .undef, .undef, .undef, .undef, .undef, .undef, .undef, .undef, .undef, .undef, .undef, .undef, .undef, .undef, .undef, .undef, .undef, .undef, .undef, .undef, .undef, .undef, .undef, .undef, .undef, .undef, .undef, .undef, .undef, .undef, .undef, .undef, .undef, .undef, .undef, .undef, .undef, .undef, .undef, .undef, .undef, .undef, .undef, .undef, .undef, .undef, .undef, .undef, .undef, .undef, .undef, .undef, .undef], []⟩ (leave (E_spec_Number k) Try.f81 (finN (.pair (.int .i64) (.pair .bool .unit))))
noncomputable def spec_Number.l8 (k n : Nat) (x0 : ByteArray) (x4 : Int) (x5 : Int) (x6 : Int) : Option (Int × Bool × Unit) :=
  resume (E_spec_Number k) 81 (acall (E_spec_Number k) (arun Try.prog (E_spec_Number k) k)) k [true, true, true, true, true, false, true, true] [n] (bodyOf Try.f81) ⟨[.str x0, .undef, .undef, .undef, .int .i64 x4, .int .i64 x5, .int .i64 x6, .undef, .undef, .undef, .undef, .undef, .undef, .undef, .undef, .undef, .undef, .undef, .undef, .undef, .undef, .undef, .undef, .undef, .undef, .undef, .undef, .undef, .undef, .undef, .undef, .undef, .undef, .undef, .undef, .undef, .undef, .undef, .undef, .undef, .undef, .undef, .undef, .undef, .undef, .undef, .undef, .undef, .undef, .undef, .undef, .undef, .undef, .undef, .undef, .undef, .undef, .undef, .undef, .undef, .undef, .undef, .undef, .undef, .undef], []⟩ (leave (E_spec_Number k) Try.f81 (finN (.pair (.int .i64) (.pair .bool .unit))))
noncomputable def spec_Number.j15 (k : Nat) (x0 : ByteArray) (x5 : Int) : Option (Int × Bool × Unit) :=
  resume (E_spec_Number k) 81 (acall (E_spec_Number k) (arun Try.prog (E_spec_Number k) k)) k [true, true, true, true, true, true, true] [] (bodyOf Try.f81) ⟨[.str x0, .undef, .undef, .undef, .undef, .int .i64 x5, .undef, .undef, .undef, .undef, .undef, .undef, .undef, .undef, .undef, .undef, .undef, .undef, .undef, .undef, .undef, .undef, .undef, .undef, .undef, .undef, .undef, .undef, .undef, .undef, .undef, .undef, .undef, .undef, .undef, .undef, .undef, .undef, .undef, .undef, .undef, .undef, .undef, .undef, .undef, .undef, .undef, .undef, .undef, .undef, .undef, .undef, .undef, .undef, .undef, .undef, .undef, .undef, .undef, .undef, .undef, .undef, .undef, .undef, .undef], []⟩ (leave (E_spec_Number k) Try.f81 (finN (.pair (.int .i64) (.pair .bool .unit))))
theorem spec_Number.j4_e (k : Nat) (x0 : ByteArray) (x4 : Int) : spec_Number.j4 k x0 x4 =
  iteB (!(decide (IntKind.wrap .i64 ((ByteArray.size x0 : Int) - x4) < 1))) (iteB (decide (IntKind.wrap .i64 ((ByteArray.size x0 : Int) - x4) > 10)) (some (0, false, ())) (gate k (spec_Number.j6 k x0 x4))) (some (0, false, ())) := by kernel_rfl
theorem spec_Number.j6_e (k : Nat) (x0 : ByteArray) (x4 : Int) : spec_Number.j6 k x0 x4 =
  spec_Number.l8 k k x0 x4 0 x4 := by kernel_rfl
theorem spec_Number.l8_0 (k : Nat) (x0 : ByteArray) (x4 : Int) (x5 : Int) (x6 : Int) : spec_Number.l8 k 0 x0 x4 x5 x6 = none := by kernel_rfl
theorem spec_Number.l8_s (k n : Nat) (x0 : ByteArray) (x4 : Int) (x5 : Int) (x6 : Int) : spec_Number.l8 k (n + 1) x0 x4 x5 x6 =
  iteB (decide (x6 < (ByteArray.size x0 : Int))) (iteB (decide (0 ≤ x6)) (iteB (decide (x6 < (ByteArray.size x0 : Int))) (iteB (!(decide (byteAt x0 (Int.toNat x6) < 48))) (iteB (decide (0 ≤ x6)) (iteB (decide (x6 < (ByteArray.size x0 : Int))) (iteB (decide (byteAt x0 (Int.toNat x6) > 57)) (some (0, false, ())) (iteB (decide (0 ≤ x6)) (iteB (decide (x6 < (ByteArray.size x0 : Int))) (spec_Number.l8 k n x0 x4 (IntKind.wrap .i64 ((IntKind.wrap .i64 ((IntKind.wrap .i64 (10 * x5)) + (IntKind.wrap .i64 (byteAt x0 (Int.toNat x6))))) - 48)) (IntKind.wrap .i64 (x6 + 1))) (none)) (none))) (none)) (none)) (some (0, false, ()))) (none)) (none)) (iteB (x4 == 1) (gate k (spec_Number.j15 k x0 (IntKind.wrap .i64 (0 - x5)))) (gate k (spec_Number.j15 k x0 x5))) := by kernel_rfl
theorem spec_Number.j15_e (k : Nat) (x0 : ByteArray) (x5 : Int) : spec_Number.j15 k x0 x5 =
  bindO (spec_WordOk k x5) fun r1 => (iteB (!(!r1)) (bindO (spec_Digits k x5) fun r2 => (iteB (!(ByteArray.toList r2 == ByteArray.toList x0)) (some (0, false, ())) (some (x5, true, ())))) (some (0, false, ()))) := by kernel_rfl
theorem spec_Number_e (k : Nat) (a1 : ByteArray) : spec_Number k a1 =
  iteB (!(ByteArray.toList a1 == ByteArray.toList (⟨#[]⟩ : ByteArray))) (iteB (decide (0 < (ByteArray.size a1 : Int))) (iteB ((byteAt a1 0) == 45) (gate k (spec_Number.j4 k a1 1)) (gate k (spec_Number.j4 k a1 0))) (none)) (gate k (spec_Number.j4 k a1 0)) := by kernel_rfl
theorem E_spec_Number_calls (k : Nat) : CallsOk Try.prog (E_spec_Number k) (arun Try.prog (E_spec_Number k) k) := by
  refine told_run (tyTOk _ _) ?_ (fun run h => regOk (tyTOk _ _) mixOk h) ?_ nameOk k
  · intro g m hg
    simp only [E_spec_Number] at hg
    split at hg
    · cases hg
      refine con_byVal fun ρ l K x hm => ?_
      split at hm
      · obtain ⟨c1, h1, hm⟩ := Option.bind_eq_some_iff.1 hm
        obtain ⟨r, hr, hm⟩ := Option.bind_eq_some_iff.1 hm
        exact ⟨_, hm, LawV.reads (.cons (.as h1) .nil) (spec_WordOk_law k c1 r hr)⟩
      · cases hm
    · cases hg
      refine con_byVal fun ρ l K x hm => ?_
      split at hm
      · obtain ⟨c1, h1, hm⟩ := Option.bind_eq_some_iff.1 hm
        obtain ⟨r, hr, hm⟩ := Option.bind_eq_some_iff.1 hm
        exact ⟨_, hm, LawV.reads (.cons (.as h1) .nil) (spec_Digits_law k c1 r hr)⟩
      · cases hm
    · cases hg; exact noCon_ok
    · cases hg
  · intro g hg r
    by_cases h : g = 81
    · subst h; simp [E_spec_Number] at hg
    · simp [E_spec_Number, h]
theorem f81_okspec_Number : Try.prog.funcs[81]? = some Try.f81 := by kernel_rfl
theorem spec_Number_law (k : Nat) (a1 : ByteArray) (x : Int × Bool × Unit) (h : spec_Number k a1 = some x) : LawV Try.prog 81 [.str a1] (.tup (outs (.pair (.int .i64) (.pair .bool .unit)) x)) := by
  unfold spec_Number at h
  exact lawN (t := (.pair (.int .i64) (.pair .bool .unit))) (tyTOk _ _) (E_spec_Number_calls k) mixOk f81_okspec_Number (nameOk _ _ f81_okspec_Number) (by kernel_rfl) h
/-! spec.l5One -/
noncomputable def E_spec_l5One (k : Nat) : Env := ⟨ty, fun g => match g with
  | 79 => some (byVal fun ρ l K => match l with
    | [b1] => (b1.as (.int .u8)).bind fun c1 => (spec_l5Letter k c1).bind fun r => K (tvn .bool r)
    | _ => none)
  | 80 => some (byVal fun ρ l K => match l with
    | [b1] => (b1.as (.int .u8)).bind fun c1 => (spec_l5Digit k c1).bind fun r => K (tvn .bool r)
    | _ => none)
  | 82 => some (byVal fun ρ l K => match l with
    | [b1, b2] => (b1.as .str).bind fun c1 => (b2.as (.int .i64)).bind fun c2 => (spec_l5Sign k c1 c2).bind fun r => K (tvn .str r)
    | _ => none)
  | 81 => some (byVal fun ρ l K => match l with
    | [b1] => (b1.as .str).bind fun c1 => (spec_Number k c1).bind fun r => K (.tup (outs (.pair (.int .i64) (.pair .bool .unit)) r))
    | _ => none)
  | 38 => some noCon
  | _ => none, fun f r => match f with | 38 => (match r with | 3 => some [0, 1, 4, 7] | 7 => some [0, 1, 4, 7] | _ => none) | _ => none⟩
noncomputable def spec_l5One (k : Nat) (a1 : ByteArray) (a2 : Int) : Option ((Int × ByteArray × Int × Int × Unit) × Int × Bool × Unit) :=
  abody (E_spec_l5One k) (arun Try.prog (E_spec_l5One k) k) k 38 Try.f38 [.str a1, .int .i64 a2] [] (finN (.pair (.pair (.int .i64) (.pair .str (.pair (.int .i64) (.pair (.int .i64) .unit)))) (.pair (.int .i64) (.pair .bool .unit))))
noncomputable def spec_l5One.l3 (k n : Nat) (x0 : ByteArray) (x1 : Int) (x7 : Int) (y0_0_0 : Int) (y0_0_1 : ByteArray) (y0_0_2 : Int) (y0_0_3 : Int) : Option ((Int × ByteArray × Int × Int × Unit) × Int × Bool × Unit) :=
  resume (E_spec_l5One k) 38 (acall (E_spec_l5One k) (arun Try.prog (E_spec_l5One k) k)) k [true, true, false, true, true, false, false, true] [n] (bodyOf Try.f38) ⟨[.str x0, .int .i64 x1, .undef, .undef, .ptr 0 0 0, .undef, .undef, .int .i64 x7, .undef, .undef, .undef, .undef, .undef, .undef, .undef, .undef, .undef, .undef, .undef, .undef, .undef, .undef, .undef, .undef, .undef, .undef, .undef, .undef, .undef, .undef, .undef, .undef, .undef, .undef, .undef, .undef, .undef, .undef, .undef, .undef, .undef, .undef, .undef, .undef, .undef, .undef, .undef, .undef, .undef, .undef, .undef, .undef, .undef, .undef, .undef, .undef, .undef, .undef, .undef, .undef, .undef, .undef, .undef, .undef, .undef, .undef, .undef, .undef, .undef, .undef, .undef, .undef, .undef, .undef, .undef, .undef, .undef, .undef, .undef, .undef, .undef, .undef], [some ⟨.raw true 4 (.agg [.int .i64 0, .str ByteArray.empty, .int .i64 0, .int .i64 0]) [.agg [.int .i64 y0_0_0, .str y0_0_1, .int .i64 y0_0_2, .int .i64 y0_0_3]], true⟩]⟩ (leave (E_spec_l5One k) Try.f38 (finN (.pair (.pair (.int .i64) (.pair .str (.pair (.int .i64) (.pair (.int .i64) .unit)))) (.pair (.int .i64) (.pair .bool .unit)))))
noncomputable def spec_l5One.l7 (k n : Nat) (x0 : ByteArray) (x1 : Int) (x7 : Int) (y0_0_0 : Int) (y0_0_1 : ByteArray) (y0_0_2 : Int) (y0_0_3 : Int) : Option ((Int × ByteArray × Int × Int × Unit) × Int × Bool × Unit) :=
  resume (E_spec_l5One k) 38 (acall (E_spec_l5One k) (arun Try.prog (E_spec_l5One k) k)) k [true, true, false, true, true, true, true, false, false, true] [n] (bodyOf Try.f38) ⟨[.str x0, .int .i64 x1, .undef, .undef, .ptr 0 0 0, .undef, .undef, .int .i64 x7, .undef, .undef, .undef, .undef, .undef, .undef, .undef, .undef, .undef, .undef, .undef, .undef, .undef, .undef, .undef, .undef, .undef, .undef, .undef, .undef, .undef, .undef, .undef, .undef, .undef, .undef, .undef, .undef, .undef, .undef, .undef, .undef, .undef, .undef, .undef, .undef, .undef, .undef, .undef, .undef, .undef, .undef, .undef, .undef, .undef, .undef, .undef, .undef, .undef, .undef, .undef, .undef, .undef, .undef, .undef, .undef, .undef, .undef, .undef, .undef, .undef, .undef, .undef, .undef, .undef, .undef, .undef, .undef, .undef, .undef, .undef, .undef, .undef, .undef], [some ⟨.raw true 4 (.agg [.int .i64 0, .str ByteArray.empty, .int .i64 0, .int .i64 0]) [.agg [.int .i64 y0_0_0, .str y0_0_1, .int .i64 y0_0_2, .int .i64 y0_0_3]], true⟩]⟩ (leave (E_spec_l5One k) Try.f38 (finN (.pair (.pair (.int .i64) (.pair .str (.pair (.int .i64) (.pair (.int .i64) .unit)))) (.pair (.int .i64) (.pair .bool .unit)))))
theorem spec_l5One.l3_0 (k : Nat) (x0 : ByteArray) (x1 : Int) (x7 : Int) (y0_0_0 : Int) (y0_0_1 : ByteArray) (y0_0_2 : Int) (y0_0_3 : Int) : spec_l5One.l3 k 0 x0 x1 x7 y0_0_0 y0_0_1 y0_0_2 y0_0_3 = none := by kernel_rfl
theorem spec_l5One.l3_s (k n : Nat) (x0 : ByteArray) (x1 : Int) (x7 : Int) (y0_0_0 : Int) (y0_0_1 : ByteArray) (y0_0_2 : Int) (y0_0_3 : Int) : spec_l5One.l3 k (n + 1) x0 x1 x7 y0_0_0 y0_0_1 y0_0_2 y0_0_3 =
  iteB (decide (x7 < (ByteArray.size x0 : Int))) (iteB (decide (0 ≤ x7)) (iteB (decide (x7 < (ByteArray.size x0 : Int))) (bindO (spec_l5Letter k (byteAt x0 (Int.toNat x7))) fun r4 => (iteB r4 (spec_l5One.l3 k n x0 x1 (IntKind.wrap .i64 (x7 + 1)) y0_0_0 y0_0_1 y0_0_2 y0_0_3) (iteB (decide (0 ≤ x7)) (iteB (decide (x7 ≤ (ByteArray.size x0 : Int))) (iteB (decide (0 ≤ x1)) (iteB (decide (x1 ≤ x7)) (some ((1, ByteArray.extract x0 (Int.toNat x1) (Int.toNat x7), 0, x1, ()), x7, decide (IntKind.wrap .i64 (x7 - x1) ≤ 10), ())) (none)) (none)) (none)) (none)))) (none)) (none)) (iteB (decide (0 ≤ x7)) (iteB (decide (x7 ≤ (ByteArray.size x0 : Int))) (iteB (decide (0 ≤ x1)) (iteB (decide (x1 ≤ x7)) (some ((1, ByteArray.extract x0 (Int.toNat x1) (Int.toNat x7), 0, x1, ()), x7, decide (IntKind.wrap .i64 (x7 - x1) ≤ 10), ())) (none)) (none)) (none)) (none)) := by kernel_rfl
theorem spec_l5One.l7_0 (k : Nat) (x0 : ByteArray) (x1 : Int) (x7 : Int) (y0_0_0 : Int) (y0_0_1 : ByteArray) (y0_0_2 : Int) (y0_0_3 : Int) : spec_l5One.l7 k 0 x0 x1 x7 y0_0_0 y0_0_1 y0_0_2 y0_0_3 = none := by kernel_rfl
theorem spec_l5One.l7_s (k n : Nat) (x0 : ByteArray) (x1 : Int) (x7 : Int) (y0_0_0 : Int) (y0_0_1 : ByteArray) (y0_0_2 : Int) (y0_0_3 : Int) : spec_l5One.l7 k (n + 1) x0 x1 x7 y0_0_0 y0_0_1 y0_0_2 y0_0_3 =
  iteB (decide (x7 < (ByteArray.size x0 : Int))) (iteB (decide (0 ≤ x7)) (iteB (decide (x7 < (ByteArray.size x0 : Int))) (bindO (spec_l5Digit k (byteAt x0 (Int.toNat x7))) fun r5 => (iteB r5 (spec_l5One.l7 k n x0 x1 (IntKind.wrap .i64 (x7 + 1)) y0_0_0 y0_0_1 y0_0_2 y0_0_3) (iteB (decide (0 ≤ x7)) (iteB (decide (x7 ≤ (ByteArray.size x0 : Int))) (iteB (decide (0 ≤ x1)) (iteB (decide (x1 ≤ x7)) (bindO (spec_Number k (ByteArray.extract x0 (Int.toNat x1) (Int.toNat x7))) fun r6 => (some ((2, ByteArray.empty, r6.1, x1, ()), x7, r6.2.1, ()))) (none)) (none)) (none)) (none)))) (none)) (none)) (iteB (decide (0 ≤ x7)) (iteB (decide (x7 ≤ (ByteArray.size x0 : Int))) (iteB (decide (0 ≤ x1)) (iteB (decide (x1 ≤ x7)) (bindO (spec_Number k (ByteArray.extract x0 (Int.toNat x1) (Int.toNat x7))) fun r7 => (some ((2, ByteArray.empty, r7.1, x1, ()), x7, r7.2.1, ()))) (none)) (none)) (none)) (none)) := by kernel_rfl
theorem spec_l5One_e (k : Nat) (a1 : ByteArray) (a2 : Int) : spec_l5One k a1 a2 =
  iteB (decide (0 ≤ a2)) (iteB (decide (a2 < (ByteArray.size a1 : Int))) (bindO (spec_l5Letter k (byteAt a1 (Int.toNat a2))) fun r1 => (iteB r1 (spec_l5One.l3 k k a1 a2 a2 0 ByteArray.empty 0 0) (iteB (decide (0 ≤ a2)) (iteB (decide (a2 < (ByteArray.size a1 : Int))) (bindO (spec_l5Digit k (byteAt a1 (Int.toNat a2))) fun r2 => (iteB r2 (spec_l5One.l7 k k a1 a2 a2 0 ByteArray.empty 0 0) (bindO (spec_l5Sign k a1 a2) fun r3 => (some ((3, r3, 0, a2, ()), IntKind.wrap .i64 (a2 + (ByteArray.size r3 : Int)), !(ByteArray.toList r3 == ByteArray.toList (⟨#[]⟩ : ByteArray)), ()))))) (none)) (none)))) (none)) (none) := by kernel_rfl
theorem E_spec_l5One_calls (k : Nat) : CallsOk Try.prog (E_spec_l5One k) (arun Try.prog (E_spec_l5One k) k) := by
  refine told_run (tyTOk _ _) ?_ (fun run h => regOk (tyTOk _ _) mixOk h) ?_ nameOk k
  · intro g m hg
    simp only [E_spec_l5One] at hg
    split at hg
    · cases hg
      refine con_byVal fun ρ l K x hm => ?_
      split at hm
      · obtain ⟨c1, h1, hm⟩ := Option.bind_eq_some_iff.1 hm
        obtain ⟨r, hr, hm⟩ := Option.bind_eq_some_iff.1 hm
        exact ⟨_, hm, LawV.reads (.cons (.as h1) .nil) (spec_l5Letter_law k c1 r hr)⟩
      · cases hm
    · cases hg
      refine con_byVal fun ρ l K x hm => ?_
      split at hm
      · obtain ⟨c1, h1, hm⟩ := Option.bind_eq_some_iff.1 hm
        obtain ⟨r, hr, hm⟩ := Option.bind_eq_some_iff.1 hm
        exact ⟨_, hm, LawV.reads (.cons (.as h1) .nil) (spec_l5Digit_law k c1 r hr)⟩
      · cases hm
    · cases hg
      refine con_byVal fun ρ l K x hm => ?_
      split at hm
      · obtain ⟨c1, h1, hm⟩ := Option.bind_eq_some_iff.1 hm
        obtain ⟨c2, h2, hm⟩ := Option.bind_eq_some_iff.1 hm
        obtain ⟨r, hr, hm⟩ := Option.bind_eq_some_iff.1 hm
        exact ⟨_, hm, LawV.reads (.cons (.as h1) (.cons (.as h2) .nil)) (spec_l5Sign_law k c1 c2 r hr)⟩
      · cases hm
    · cases hg
      refine con_byVal fun ρ l K x hm => ?_
      split at hm
      · obtain ⟨c1, h1, hm⟩ := Option.bind_eq_some_iff.1 hm
        obtain ⟨r, hr, hm⟩ := Option.bind_eq_some_iff.1 hm
        exact ⟨_, hm, LawV.reads (.cons (.as h1) .nil) (spec_Number_law k c1 r hr)⟩
      · cases hm
    · cases hg; exact noCon_ok
    · cases hg
  · intro g hg r
    by_cases h : g = 38
    · subst h; simp [E_spec_l5One] at hg
    · simp [E_spec_l5One, h]
theorem f38_okspec_l5One : Try.prog.funcs[38]? = some Try.f38 := by kernel_rfl
theorem spec_l5One_law (k : Nat) (a1 : ByteArray) (a2 : Int) (x : (Int × ByteArray × Int × Int × Unit) × Int × Bool × Unit) (h : spec_l5One k a1 a2 = some x) : LawV Try.prog 38 [.str a1, .int .i64 a2] (.tup (outs (.pair (.pair (.int .i64) (.pair .str (.pair (.int .i64) (.pair (.int .i64) .unit)))) (.pair (.int .i64) (.pair .bool .unit))) x)) := by
  unfold spec_l5One at h
  exact lawN (t := (.pair (.pair (.int .i64) (.pair .str (.pair (.int .i64) (.pair (.int .i64) .unit)))) (.pair (.int .i64) (.pair .bool .unit)))) (tyTOk _ _) (E_spec_l5One_calls k) mixOk f38_okspec_l5One (nameOk _ _ f38_okspec_l5One) (by kernel_rfl) h
/-! spec.Tokens -/
noncomputable def E_spec_Tokens (k : Nat) : Env := ⟨ty, fun g => match g with
  | 38 => some (byVal fun ρ l K => match l with
    | [b1, b2] => (b1.as .str).bind fun c1 => (b2.as (.int .i64)).bind fun c2 => (spec_l5One k c1 c2).bind fun r => K (.tup (outs (.pair (.pair (.int .i64) (.pair .str (.pair (.int .i64) (.pair (.int .i64) .unit)))) (.pair (.int .i64) (.pair .bool .unit))) r))
    | _ => none)
  | 9 => some noCon
  | _ => none, fun f r => match f with | 9 => (match r with | 5 => some [0, 4, 5] | 8 => some [0, 4, 5] | _ => none) | _ => none⟩
noncomputable def spec_Tokens (k : Nat) (a1 : ByteArray) : Option ((List (Int × ByteArray × Int × Int × Unit)) × Int × Unit) :=
  abody (E_spec_Tokens k) (arun Try.prog (E_spec_Tokens k) k) k 9 Try.f9 [.str a1] [] (finN (.pair (.row (.pair (.int .i64) (.pair .str (.pair (.int .i64) (.pair (.int .i64) .unit))))) (.pair (.int .i64) .unit)))
noncomputable def spec_Tokens.l5 (k n : Nat) (x0 : ByteArray) (x5 : Int) : Option ((List (Int × ByteArray × Int × Int × Unit)) × Int × Unit) :=
  resume (E_spec_Tokens k) 9 (acall (E_spec_Tokens k) (arun Try.prog (E_spec_Tokens k) k)) k [true, true, true, true, false, true] [n] (bodyOf Try.f9) ⟨[.str x0, .undef, .undef, .undef, .sl 0, .int .i64 x5, .undef, .undef, .undef, .undef, .undef, .undef, .undef, .undef, .undef, .undef, .undef, .undef, .undef, .undef, .undef, .undef, .undef, .undef, .undef, .undef, .undef, .undef, .undef, .undef, .undef, .undef, .undef, .undef, .undef, .undef, .undef, .undef, .undef, .undef, .undef, .undef, .undef, .undef, .undef, .undef, .undef, .undef, .undef, .undef, .undef, .undef], [some ⟨.typed (.pair (.int .i64) (.pair .str (.pair (.int .i64) (.pair (.int .i64) .unit)))) [], true⟩]⟩ (leave (E_spec_Tokens k) Try.f9 (finN (.pair (.row (.pair (.int .i64) (.pair .str (.pair (.int .i64) (.pair (.int .i64) .unit))))) (.pair (.int .i64) .unit))))
noncomputable def spec_Tokens.j8 (k m5 : Nat) (x0 : ByteArray) (x5 : Int) : Option ((List (Int × ByteArray × Int × Int × Unit)) × Int × Unit) :=
  resume (E_spec_Tokens k) 9 (acall (E_spec_Tokens k) (arun Try.prog (E_spec_Tokens k) k)) k [true, true, true, true, false, true, true, true, true, true] [m5] (bodyOf Try.f9) ⟨[.str x0, .undef, .undef, .undef, .sl 0, .int .i64 x5, .undef, .undef, .undef, .undef, .undef, .undef, .undef, .undef, .undef, .undef, .undef, .undef, .undef, .undef, .undef, .undef, .undef, .undef, .undef, .undef, .undef, .undef, .undef, .undef, .undef, .undef, .undef, .undef, .undef, .undef, .undef, .undef, .undef, .undef, .undef, .undef, .undef, .undef, .undef, .undef, .undef, .undef, .undef, .undef, .undef, .undef], [some ⟨.typed (.pair (.int .i64) (.pair .str (.pair (.int .i64) (.pair (.int .i64) .unit)))) [], true⟩]⟩ (leave (E_spec_Tokens k) Try.f9 (finN (.pair (.row (.pair (.int .i64) (.pair .str (.pair (.int .i64) (.pair (.int .i64) .unit))))) (.pair (.int .i64) .unit))))
noncomputable def spec_Tokens.l5b (k n : Nat) (x0 : ByteArray) (x5 : Int) (y0 : List (Int × ByteArray × Int × Int × Unit)) : Option ((List (Int × ByteArray × Int × Int × Unit)) × Int × Unit) :=
  resume (E_spec_Tokens k) 9 (acall (E_spec_Tokens k) (arun Try.prog (E_spec_Tokens k) k)) k [true, true, true, true, false, true] [n] (bodyOf Try.f9) ⟨[.str x0, .undef, .undef, .undef, .sl 0, .int .i64 x5, .undef, .undef, .undef, .undef, .undef, .undef, .undef, .undef, .undef, .undef, .undef, .undef, .undef, .undef, .undef, .undef, .undef, .undef, .undef, .undef, .undef, .undef, .undef, .undef, .undef, .undef, .undef, .undef, .undef, .undef, .undef, .undef, .undef, .undef, .undef, .undef, .undef, .undef, .undef, .undef, .undef, .undef, .undef, .undef, .undef, .undef], [some ⟨.typed (.pair (.int .i64) (.pair .str (.pair (.int .i64) (.pair (.int .i64) .unit)))) y0, false⟩]⟩ (leave (E_spec_Tokens k) Try.f9 (finN (.pair (.row (.pair (.int .i64) (.pair .str (.pair (.int .i64) (.pair (.int .i64) .unit))))) (.pair (.int .i64) .unit))))
noncomputable def spec_Tokens.j8b (k m5 : Nat) (x0 : ByteArray) (x5 : Int) (y0 : List (Int × ByteArray × Int × Int × Unit)) : Option ((List (Int × ByteArray × Int × Int × Unit)) × Int × Unit) :=
  resume (E_spec_Tokens k) 9 (acall (E_spec_Tokens k) (arun Try.prog (E_spec_Tokens k) k)) k [true, true, true, true, false, true, true, true, true, true] [m5] (bodyOf Try.f9) ⟨[.str x0, .undef, .undef, .undef, .sl 0, .int .i64 x5, .undef, .undef, .undef, .undef, .undef, .undef, .undef, .undef, .undef, .undef, .undef, .undef, .undef, .undef, .undef, .undef, .undef, .undef, .undef, .undef, .undef, .undef, .undef, .undef, .undef, .undef, .undef, .undef, .undef, .undef, .undef, .undef, .undef, .undef, .undef, .undef, .undef, .undef, .undef, .undef, .undef, .undef, .undef, .undef, .undef, .undef], [some ⟨.typed (.pair (.int .i64) (.pair .str (.pair (.int .i64) (.pair (.int .i64) .unit)))) y0, false⟩]⟩ (leave (E_spec_Tokens k) Try.f9 (finN (.pair (.row (.pair (.int .i64) (.pair .str (.pair (.int .i64) (.pair (.int .i64) .unit))))) (.pair (.int .i64) .unit))))
theorem spec_Tokens.l5_0 (k : Nat) (x0 : ByteArray) (x5 : Int) : spec_Tokens.l5 k 0 x0 x5 = none := by kernel_rfl
theorem spec_Tokens.l5_s (k n : Nat) (x0 : ByteArray) (x5 : Int) : spec_Tokens.l5 k (n + 1) x0 x5 =
  iteB (decide (x5 < (ByteArray.size x0 : Int))) (iteB (decide (0 ≤ x5)) (iteB (decide (x5 < (ByteArray.size x0 : Int))) (iteB (!((byteAt x0 (Int.toNat x5)) == 32)) (iteB (decide (0 ≤ x5)) (iteB (decide (x5 < (ByteArray.size x0 : Int))) (iteB ((byteAt x0 (Int.toNat x5)) == 10) (spec_Tokens.l5 k n x0 (IntKind.wrap .i64 (x5 + 1))) (gate k (spec_Tokens.j8 k n x0 x5))) (none)) (none)) (spec_Tokens.l5 k n x0 (IntKind.wrap .i64 (x5 + 1)))) (none)) (none)) (iteB (decide ((List.length ([] ++ [(0, ByteArray.empty, 0, (ByteArray.size x0 : Int), ())])) * 40 ≤ lim)) (some ([] ++ [(0, ByteArray.empty, 0, (ByteArray.size x0 : Int), ())], (-1), ())) (none)) := by kernel_rfl
theorem spec_Tokens.j8_e (k m5 : Nat) (x0 : ByteArray) (x5 : Int) : spec_Tokens.j8 k m5 x0 x5 =
  bindO (spec_l5One k x0 x5) fun r1 => (iteB (!r1.2.2.1) (some ([], x5, ())) (iteB (decide ((List.length ([] ++ [r1.1])) * 40 ≤ lim)) (spec_Tokens.l5b k m5 x0 r1.2.1 ([] ++ [r1.1])) (none))) := by kernel_rfl
theorem spec_Tokens.l5b_0 (k : Nat) (x0 : ByteArray) (x5 : Int) (y0 : List (Int × ByteArray × Int × Int × Unit)) : spec_Tokens.l5b k 0 x0 x5 y0 = none := by kernel_rfl
theorem spec_Tokens.l5b_s (k n : Nat) (x0 : ByteArray) (x5 : Int) (y0 : List (Int × ByteArray × Int × Int × Unit)) : spec_Tokens.l5b k (n + 1) x0 x5 y0 =
  iteB (decide (x5 < (ByteArray.size x0 : Int))) (iteB (decide (0 ≤ x5)) (iteB (decide (x5 < (ByteArray.size x0 : Int))) (iteB (!((byteAt x0 (Int.toNat x5)) == 32)) (iteB (decide (0 ≤ x5)) (iteB (decide (x5 < (ByteArray.size x0 : Int))) (iteB ((byteAt x0 (Int.toNat x5)) == 10) (spec_Tokens.l5b k n x0 (IntKind.wrap .i64 (x5 + 1)) y0) (gate k (spec_Tokens.j8b k n x0 x5 y0))) (none)) (none)) (spec_Tokens.l5b k n x0 (IntKind.wrap .i64 (x5 + 1)) y0)) (none)) (none)) (iteB (decide ((List.length (y0 ++ [(0, ByteArray.empty, 0, (ByteArray.size x0 : Int), ())])) * 40 ≤ lim)) (some (y0 ++ [(0, ByteArray.empty, 0, (ByteArray.size x0 : Int), ())], (-1), ())) (none)) := by kernel_rfl
theorem spec_Tokens.j8b_e (k m5 : Nat) (x0 : ByteArray) (x5 : Int) (y0 : List (Int × ByteArray × Int × Int × Unit)) : spec_Tokens.j8b k m5 x0 x5 y0 =
  bindO (spec_l5One k x0 x5) fun r2 => (iteB (!r2.2.2.1) (some ([], x5, ())) (iteB (decide ((List.length (y0 ++ [r2.1])) * 40 ≤ lim)) (spec_Tokens.l5b k m5 x0 r2.2.1 (y0 ++ [r2.1])) (none))) := by kernel_rfl
theorem spec_Tokens_e (k : Nat) (a1 : ByteArray) : spec_Tokens k a1 =
  iteB (decide ((ByteArray.size a1 : Int) > 6000)) (some ([], 0, ())) (spec_Tokens.l5 k k a1 0) := by kernel_rfl
theorem E_spec_Tokens_calls (k : Nat) : CallsOk Try.prog (E_spec_Tokens k) (arun Try.prog (E_spec_Tokens k) k) := by
  refine told_run (tyTOk _ _) ?_ (fun run h => regOk (tyTOk _ _) mixOk h) ?_ nameOk k
  · intro g m hg
    simp only [E_spec_Tokens] at hg
    split at hg
    · cases hg
      refine con_byVal fun ρ l K x hm => ?_
      split at hm
      · obtain ⟨c1, h1, hm⟩ := Option.bind_eq_some_iff.1 hm
        obtain ⟨c2, h2, hm⟩ := Option.bind_eq_some_iff.1 hm
        obtain ⟨r, hr, hm⟩ := Option.bind_eq_some_iff.1 hm
        exact ⟨_, hm, LawV.reads (.cons (.as h1) (.cons (.as h2) .nil)) (spec_l5One_law k c1 c2 r hr)⟩
      · cases hm
    · cases hg; exact noCon_ok
    · cases hg
  · intro g hg r
    by_cases h : g = 9
    · subst h; simp [E_spec_Tokens] at hg
    · simp [E_spec_Tokens, h]
theorem f9_okspec_Tokens : Try.prog.funcs[9]? = some Try.f9 := by kernel_rfl
theorem spec_Tokens_law (k : Nat) (a1 : ByteArray) (x : (List (Int × ByteArray × Int × Int × Unit)) × Int × Unit) (h : spec_Tokens k a1 = some x) : LawV Try.prog 9 [.str a1] (.tup (outs (.pair (.row (.pair (.int .i64) (.pair .str (.pair (.int .i64) (.pair (.int .i64) .unit))))) (.pair (.int .i64) .unit)) x)) := by
  unfold spec_Tokens at h
  exact lawN (t := (.pair (.row (.pair (.int .i64) (.pair .str (.pair (.int .i64) (.pair (.int .i64) .unit))))) (.pair (.int .i64) .unit))) (tyTOk _ _) (E_spec_Tokens_calls k) mixOk f9_okspec_Tokens (nameOk _ _ f9_okspec_Tokens) (by kernel_rfl) h
/-! spec.DrawKeyword -/
noncomputable def E_spec_DrawKeyword (k : Nat) : Env := ⟨ty, fun g => match g with
  | 32 => some (byFreshO (.pair (.row (.int .u8)) (.pair (.int .i64) (.pair (.int .i64) .unit))) fun ρ l K => match l with
    | [b1] => (b1.as (.row (.int .u8))).bind fun c1 => (spec_l1New k c1).bind fun r => K r
    | _ => none)
  | 39 => some (byMutR (.pair (.row (.int .u8)) (.pair (.int .i64) (.pair (.int .i64) .unit))) .str fun ρ l xs ys K => match l with
    | [] => (spec_l1Pick_b k xs ys ).bind fun r => K (tvM .str r.1) r.2.1 r.2.2
    | _ => none)
  | _ => none, fun _ _ => none⟩
noncomputable def spec_DrawKeyword (k : Nat) (a1 : List Int) : Option (ByteArray) :=
  abody (E_spec_DrawKeyword k) (arun Try.prog (E_spec_DrawKeyword k) k) k 10 Try.f10 [.tv (.row (.int .u8)) a1] [] (fin1 .str)
theorem spec_DrawKeyword_e (k : Nat) (a1 : List Int) : spec_DrawKeyword k a1 =
  bindO (spec_l1New k a1) fun r1 => (bindO (spec_l1Pick_b k r1 [(⟨#[108, 101, 116]⟩ : ByteArray), (⟨#[120]⟩ : ByteArray), (⟨#[99, 104, 97, 110]⟩ : ByteArray), (⟨#[70, 117, 110, 99]⟩ : ByteArray), (⟨#[97, 100, 100, 114]⟩ : ByteArray), (⟨#[115, 101, 108, 101, 99, 116]⟩ : ByteArray), (⟨#[]⟩ : ByteArray), (⟨#[99, 97, 115, 101, 115]⟩ : ByteArray)]) fun r2 => (some r2.1)) := by kernel_rfl
theorem E_spec_DrawKeyword_calls (k : Nat) : CallsOk Try.prog (E_spec_DrawKeyword k) (arun Try.prog (E_spec_DrawKeyword k) k) := by
  refine told_run (tyTOk _ _) ?_ (fun run h => regOk (tyTOk _ _) mixOk h) ?_ nameOk k
  · intro g m hg
    simp only [E_spec_DrawKeyword] at hg
    split at hg
    · cases hg
      refine con_byFreshO fun ρ l K x hm => ?_
      split at hm
      · obtain ⟨c1, h1, hm⟩ := Option.bind_eq_some_iff.1 hm
        obtain ⟨r, hr, hm⟩ := Option.bind_eq_some_iff.1 hm
        exact ⟨_, hm, LawFo.reads (.cons (.as h1) .nil) (spec_l1New_law k c1 r hr)⟩
      · cases hm
    · cases hg
      refine con_byMutR fun ρ l xs ys K x hm => ?_
      split at hm
      · obtain ⟨r, hr, hm⟩ := Option.bind_eq_some_iff.1 hm
        exact ⟨_, _, _, hm, LawMr.reads .nil (spec_l1Pick_b_law k xs ys  r hr)⟩
      · cases hm
    · cases hg
  · intro g _ r; rfl
theorem f10_okspec_DrawKeyword : Try.prog.funcs[10]? = some Try.f10 := by kernel_rfl
theorem spec_DrawKeyword_law (k : Nat) (a1 : List Int) (x : ByteArray) (h : spec_DrawKeyword k a1 = some x) : LawV Try.prog 10 [.tv (.row (.int .u8)) a1] (tvn .str x) := by
  unfold spec_DrawKeyword at h
  exact law1 (t := .str) (tyTOk _ _) (E_spec_DrawKeyword_calls k) mixOk f10_okspec_DrawKeyword (nameOk _ _ f10_okspec_DrawKeyword) (by kernel_rfl) h
/-! slices.Index[[]string,string] -/
noncomputable def E_slices_Index_string (k : Nat) : Env := ⟨ty, fun g => match g with
  | 83 => some noCon
  | _ => none, fun f r => match f with | 83 => (match r with | 2 => some [0, 1, 7, 8] | _ => none) | _ => none⟩
noncomputable def slices_Index_string (k : Nat) (a1 : List ByteArray) (a2 : ByteArray) : Option (Int) :=
  abody (E_slices_Index_string k) (arun Try.prog (E_slices_Index_string k) k) k 83 Try.f83 [.tv (.row .str) a1, .str a2] [] (fin1 (.int .i64))
noncomputable def slices_Index_string.l2 (k n : Nat) (x0 : List ByteArray) (x1 : ByteArray) (x7 : Int) (x8 : Int) : Option (Int) :=
  resume (E_slices_Index_string k) 83 (acall (E_slices_Index_string k) (arun Try.prog (E_slices_Index_string k) k)) k [true, false, true, true] [n] (bodyOf Try.f83) ⟨[.tv (.row .str) x0, .str x1, .undef, .undef, .undef, .undef, .undef, .int .i64 x7, .int .i64 x8, .undef, .undef, .undef, .undef, .undef, .undef, .undef, .undef, .undef, .undef], []⟩ (leave (E_slices_Index_string k) Try.f83 (fin1 (.int .i64)))
theorem slices_Index_string.l2_0 (k : Nat) (x0 : List ByteArray) (x1 : ByteArray) (x7 : Int) (x8 : Int) : slices_Index_string.l2 k 0 x0 x1 x7 x8 = none := by kernel_rfl
theorem slices_Index_string.l2_s (k n : Nat) (x0 : List ByteArray) (x1 : ByteArray) (x7 : Int) (x8 : Int) : slices_Index_string.l2 k (n + 1) x0 x1 x7 x8 =
  iteB (decide (x8 < x7)) (iteB (decide (0 ≤ x8)) (iteB (decide (x8 < ((List.length x0) : Int))) (iteB (ByteArray.toList x1 == ByteArray.toList (List.getD x0 (Int.toNat x8) ByteArray.empty)) (some x8) (slices_Index_string.l2 k n x0 x1 x7 (IntKind.wrap .i64 (x8 + 1)))) (none)) (none)) (some (-1)) := by kernel_rfl
theorem slices_Index_string_e (k : Nat) (a1 : List ByteArray) (a2 : ByteArray) : slices_Index_string k a1 a2 =
  slices_Index_string.l2 k k a1 a2 ((List.length a1) : Int) 0 := by kernel_rfl
theorem E_slices_Index_string_calls (k : Nat) : CallsOk Try.prog (E_slices_Index_string k) (arun Try.prog (E_slices_Index_string k) k) := by
  refine told_run (tyTOk _ _) ?_ (fun run h => regOk (tyTOk _ _) mixOk h) ?_ nameOk k
  · intro g m hg
    simp only [E_slices_Index_string] at hg
    split at hg
    · cases hg; exact noCon_ok
    · cases hg
  · intro g hg r
    by_cases h : g = 83
    · subst h; simp [E_slices_Index_string] at hg
    · simp [E_slices_Index_string, h]
theorem f83_okslices_Index_string : Try.prog.funcs[83]? = some Try.f83 := by kernel_rfl
theorem slices_Index_string_law (k : Nat) (a1 : List ByteArray) (a2 : ByteArray) (x : Int) (h : slices_Index_string k a1 a2 = some x) : LawV Try.prog 83 [.tv (.row .str) a1, .str a2] (tvn (.int .i64) x) := by
  unfold slices_Index_string at h
  exact law1 (t := (.int .i64)) (tyTOk _ _) (E_slices_Index_string_calls k) mixOk f83_okslices_Index_string (nameOk _ _ f83_okslices_Index_string) (by kernel_rfl) h
/-! slices.Contains[[]string,string] -/
noncomputable def E_slices_Contains_string (k : Nat) : Env := ⟨ty, fun g => match g with
  | 83 => some (byVal fun ρ l K => match l with
    | [b1, b2] => (b1.as (.row .str)).bind fun c1 => (b2.as .str).bind fun c2 => (slices_Index_string k c1 c2).bind fun r => K (tvn (.int .i64) r)
    | _ => none)
  | _ => none, fun _ _ => none⟩
noncomputable def slices_Contains_string (k : Nat) (a1 : List ByteArray) (a2 : ByteArray) : Option (Bool) :=
  abody (E_slices_Contains_string k) (arun Try.prog (E_slices_Contains_string k) k) k 40 Try.f40 [.tv (.row .str) a1, .str a2] [] (fin1 .bool)
theorem slices_Contains_string_e (k : Nat) (a1 : List ByteArray) (a2 : ByteArray) : slices_Contains_string k a1 a2 =
  bindO (slices_Index_string k a1 a2) fun r1 => (some (decide (r1 ≥ 0))) := by kernel_rfl
theorem E_slices_Contains_string_calls (k : Nat) : CallsOk Try.prog (E_slices_Contains_string k) (arun Try.prog (E_slices_Contains_string k) k) := by
  refine told_run (tyTOk _ _) ?_ (fun run h => regOk (tyTOk _ _) mixOk h) ?_ nameOk k
  · intro g m hg
    simp only [E_slices_Contains_string] at hg
    split at hg
    · cases hg
      refine con_byVal fun ρ l K x hm => ?_
      split at hm
      · obtain ⟨c1, h1, hm⟩ := Option.bind_eq_some_iff.1 hm
        obtain ⟨c2, h2, hm⟩ := Option.bind_eq_some_iff.1 hm
        obtain ⟨r, hr, hm⟩ := Option.bind_eq_some_iff.1 hm
        exact ⟨_, hm, LawV.reads (.cons (.as h1) (.cons (.as h2) .nil)) (slices_Index_string_law k c1 c2 r hr)⟩
      · cases hm
    · cases hg
  · intro g _ r; rfl
theorem f40_okslices_Contains_string : Try.prog.funcs[40]? = some Try.f40 := by kernel_rfl
theorem slices_Contains_string_law (k : Nat) (a1 : List ByteArray) (a2 : ByteArray) (x : Bool) (h : slices_Contains_string k a1 a2 = some x) : LawV Try.prog 40 [.tv (.row .str) a1, .str a2] (tvn .bool x) := by
  unfold slices_Contains_string at h
  exact law1 (t := .bool) (tyTOk _ _) (E_slices_Contains_string_calls k) mixOk f40_okslices_Contains_string (nameOk _ _ f40_okslices_Contains_string) (by kernel_rfl) h
/-! impl.Keyword -/
noncomputable def E_impl_Keyword (k : Nat) : Env := ⟨ty, fun g => match g with
  | 40 => some (byVal fun ρ l K => match l with
    | [b1, b2] => (b1.as (.row .str)).bind fun c1 => (b2.as .str).bind fun c2 => (slices_Contains_string k c1 c2).bind fun r => K (tvn .bool r)
    | _ => none)
  | _ => none, fun _ _ => none⟩
noncomputable def impl_Keyword (k : Nat) (a1 : ByteArray) : Option (Bool) :=
  abody (E_impl_Keyword k) (arun Try.prog (E_impl_Keyword k) k) k 11 Try.f11 [.str a1] [] (fin1 .bool)
theorem impl_Keyword_e (k : Nat) (a1 : ByteArray) : impl_Keyword k a1 =
  bindO (slices_Contains_string k [(⟨#[102, 117, 110, 99]⟩ : ByteArray), (⟨#[108, 101, 116]⟩ : ByteArray), (⟨#[105, 102]⟩ : ByteArray), (⟨#[101, 108, 115, 101]⟩ : ByteArray), (⟨#[119, 104, 105, 108, 101]⟩ : ByteArray), (⟨#[112, 114, 105, 110, 116]⟩ : ByteArray), (⟨#[114, 101, 116, 117, 114, 110]⟩ : ByteArray), (⟨#[103, 111]⟩ : ByteArray), (⟨#[115, 101, 110, 100]⟩ : ByteArray), (⟨#[114, 101, 99, 118]⟩ : ByteArray), (⟨#[99, 108, 111, 115, 101]⟩ : ByteArray), (⟨#[115, 101, 108, 101, 99, 116]⟩ : ByteArray), (⟨#[99, 97, 115, 101]⟩ : ByteArray), (⟨#[100, 101, 102, 97, 117, 108, 116]⟩ : ByteArray), (⟨#[109, 97, 107, 101]⟩ : ByteArray), (⟨#[99, 104, 97, 110]⟩ : ByteArray), (⟨#[112, 111, 107, 101]⟩ : ByteArray), (⟨#[110, 111, 116, 101]⟩ : ByteArray), (⟨#[115, 119, 97, 112]⟩ : ByteArray), (⟨#[104, 97, 108, 116]⟩ : ByteArray), (⟨#[111, 117, 116]⟩ : ByteArray), (⟨#[112, 101, 101, 107]⟩ : ByteArray), (⟨#[99, 97, 115]⟩ : ByteArray), (⟨#[99, 111, 114, 101]⟩ : ByteArray), (⟨#[97, 100, 100, 114]⟩ : ByteArray)] a1) fun r1 => (some r1) := by kernel_rfl
theorem E_impl_Keyword_calls (k : Nat) : CallsOk Try.prog (E_impl_Keyword k) (arun Try.prog (E_impl_Keyword k) k) := by
  refine told_run (tyTOk _ _) ?_ (fun run h => regOk (tyTOk _ _) mixOk h) ?_ nameOk k
  · intro g m hg
    simp only [E_impl_Keyword] at hg
    split at hg
    · cases hg
      refine con_byVal fun ρ l K x hm => ?_
      split at hm
      · obtain ⟨c1, h1, hm⟩ := Option.bind_eq_some_iff.1 hm
        obtain ⟨c2, h2, hm⟩ := Option.bind_eq_some_iff.1 hm
        obtain ⟨r, hr, hm⟩ := Option.bind_eq_some_iff.1 hm
        exact ⟨_, hm, LawV.reads (.cons (.as h1) (.cons (.as h2) .nil)) (slices_Contains_string_law k c1 c2 r hr)⟩
      · cases hm
    · cases hg
  · intro g _ r; rfl
theorem f11_okimpl_Keyword : Try.prog.funcs[11]? = some Try.f11 := by kernel_rfl
theorem impl_Keyword_law (k : Nat) (a1 : ByteArray) (x : Bool) (h : impl_Keyword k a1 = some x) : LawV Try.prog 11 [.str a1] (tvn .bool x) := by
  unfold impl_Keyword at h
  exact law1 (t := .bool) (tyTOk _ _) (E_impl_Keyword_calls k) mixOk f11_okimpl_Keyword (nameOk _ _ f11_okimpl_Keyword) (by kernel_rfl) h
/-! spec.Keyword -/
noncomputable def E_spec_Keyword (k : Nat) : Env := ⟨ty, fun g => match g with
  | 12 => some noCon
  | _ => none, fun f r => match f with | 12 => (match r with | 3 => some [0, 3, 4] | _ => none) | _ => none⟩
noncomputable def spec_Keyword (k : Nat) (a1 : ByteArray) : Option (Bool) :=
  abody (E_spec_Keyword k) (arun Try.prog (E_spec_Keyword k) k) k 12 Try.f12 [.str a1] [] (fin1 .bool)
noncomputable def spec_Keyword.l3 (k n : Nat) (x0 : ByteArray) (x4 : Int) (y0 : List ByteArray) : Option (Bool) :=
  resume (E_spec_Keyword k) 12 (acall (E_spec_Keyword k) (arun Try.prog (E_spec_Keyword k) k)) k [true, true, false, true, true] [n] (bodyOf Try.f12) ⟨[.str x0, .undef, .undef, .sl 0, .int .i64 x4, .undef, .undef, .undef, .undef, .undef, .undef, .undef, .undef, .undef, .undef, .undef, .undef, .undef], [some ⟨.typed .str y0, true⟩]⟩ (leave (E_spec_Keyword k) Try.f12 (fin1 .bool))
theorem spec_Keyword.l3_0 (k : Nat) (x0 : ByteArray) (x4 : Int) (y0 : List ByteArray) : spec_Keyword.l3 k 0 x0 x4 y0 = none := by kernel_rfl
theorem spec_Keyword.l3_s (k n : Nat) (x0 : ByteArray) (x4 : Int) (y0 : List ByteArray) : spec_Keyword.l3 k (n + 1) x0 x4 y0 =
  iteB (decide (x4 < ((List.length y0) : Int))) (iteB (decide (0 ≤ x4)) (iteB (decide (x4 < ((List.length y0) : Int))) (iteB (ByteArray.toList (List.getD y0 (Int.toNat x4) ByteArray.empty) == ByteArray.toList x0) (some true) (spec_Keyword.l3 k n x0 (IntKind.wrap .i64 (x4 + 1)) y0)) (none)) (none)) (some false) := by kernel_rfl
theorem spec_Keyword_e (k : Nat) (a1 : ByteArray) : spec_Keyword k a1 =
  spec_Keyword.l3 k k a1 0 [(⟨#[102, 117, 110, 99]⟩ : ByteArray), (⟨#[108, 101, 116]⟩ : ByteArray), (⟨#[105, 102]⟩ : ByteArray), (⟨#[101, 108, 115, 101]⟩ : ByteArray), (⟨#[119, 104, 105, 108, 101]⟩ : ByteArray), (⟨#[112, 114, 105, 110, 116]⟩ : ByteArray), (⟨#[114, 101, 116, 117, 114, 110]⟩ : ByteArray), (⟨#[103, 111]⟩ : ByteArray), (⟨#[115, 101, 110, 100]⟩ : ByteArray), (⟨#[114, 101, 99, 118]⟩ : ByteArray), (⟨#[99, 108, 111, 115, 101]⟩ : ByteArray), (⟨#[115, 101, 108, 101, 99, 116]⟩ : ByteArray), (⟨#[99, 97, 115, 101]⟩ : ByteArray), (⟨#[100, 101, 102, 97, 117, 108, 116]⟩ : ByteArray), (⟨#[109, 97, 107, 101]⟩ : ByteArray), (⟨#[99, 104, 97, 110]⟩ : ByteArray), (⟨#[112, 111, 107, 101]⟩ : ByteArray), (⟨#[110, 111, 116, 101]⟩ : ByteArray), (⟨#[115, 119, 97, 112]⟩ : ByteArray), (⟨#[104, 97, 108, 116]⟩ : ByteArray), (⟨#[111, 117, 116]⟩ : ByteArray), (⟨#[112, 101, 101, 107]⟩ : ByteArray), (⟨#[99, 97, 115]⟩ : ByteArray), (⟨#[99, 111, 114, 101]⟩ : ByteArray), (⟨#[97, 100, 100, 114]⟩ : ByteArray)] := by kernel_rfl
theorem E_spec_Keyword_calls (k : Nat) : CallsOk Try.prog (E_spec_Keyword k) (arun Try.prog (E_spec_Keyword k) k) := by
  refine told_run (tyTOk _ _) ?_ (fun run h => regOk (tyTOk _ _) mixOk h) ?_ nameOk k
  · intro g m hg
    simp only [E_spec_Keyword] at hg
    split at hg
    · cases hg; exact noCon_ok
    · cases hg
  · intro g hg r
    by_cases h : g = 12
    · subst h; simp [E_spec_Keyword] at hg
    · simp [E_spec_Keyword, h]
theorem f12_okspec_Keyword : Try.prog.funcs[12]? = some Try.f12 := by kernel_rfl
theorem spec_Keyword_law (k : Nat) (a1 : ByteArray) (x : Bool) (h : spec_Keyword k a1 = some x) : LawV Try.prog 12 [.str a1] (tvn .bool x) := by
  unfold spec_Keyword at h
  exact law1 (t := .bool) (tyTOk _ _) (E_spec_Keyword_calls k) mixOk f12_okspec_Keyword (nameOk _ _ f12_okspec_Keyword) (by kernel_rfl) h
/-! laws.FnTokens -/
noncomputable def E_laws_FnTokens (k : Nat) : Env := ⟨ty, fun g => match g with
  | 6 => some (byVal fun ρ l K => match l with
    | [b1] => (b1.as (.row (.int .u8))).bind fun c1 => (laws_big k c1).bind fun r => K (tvn .bool r)
    | _ => none)
  | 7 => some (byVal fun ρ l K => match l with
    | [b1] => (b1.as (.row (.int .u8))).bind fun c1 => (spec_DrawTokens k c1).bind fun r => K (tvn .str r)
    | _ => none)
  | 8 => some (byVal fun ρ l K => match l with
    | [b1] => (b1.as .str).bind fun c1 => (impl_Tokens k c1).bind fun r => K (.tup (outs (.pair (.row (.pair (.int .i64) (.pair .str (.pair (.int .i64) (.pair (.int .i64) .unit))))) (.pair (.int .i64) .unit)) r))
    | _ => none)
  | 9 => some (byVal fun ρ l K => match l with
    | [b1] => (b1.as .str).bind fun c1 => (spec_Tokens k c1).bind fun r => K (.tup (outs (.pair (.row (.pair (.int .i64) (.pair .str (.pair (.int .i64) (.pair (.int .i64) .unit))))) (.pair (.int .i64) .unit)) r))
    | _ => none)
  | 10 => some (byVal fun ρ l K => match l with
    | [b1] => (b1.as (.row (.int .u8))).bind fun c1 => (spec_DrawKeyword k c1).bind fun r => K (tvn .str r)
    | _ => none)
  | 11 => some (byVal fun ρ l K => match l with
    | [b1] => (b1.as .str).bind fun c1 => (impl_Keyword k c1).bind fun r => K (tvn .bool r)
    | _ => none)
  | 12 => some (byVal fun ρ l K => match l with
    | [b1] => (b1.as .str).bind fun c1 => (spec_Keyword k c1).bind fun r => K (tvn .bool r)
    | _ => none)
  | 3 => some noCon
  | _ => none, fun f r => match f with | 3 => (match r with | 9 => some [3, 4, 5, 6] | 10 => some [3, 4, 5, 6, 9] | 14 => some [3, 4, 5, 6, 9] | _ => none) | _ => none⟩
noncomputable def laws_FnTokens (k : Nat) (a1 : List Int) : Option (Bool) :=
  abody (E_laws_FnTokens k) (arun Try.prog (E_laws_FnTokens k) k) k 3 Try.f3 [.tv (.row (.int .u8)) a1] [] (fin1 .bool)
noncomputable def laws_FnTokens.j9 (k : Nat) (x3 : ByteArray) (x4 : List (Int × ByteArray × Int × Int × Unit)) (x5 : Int) (x6 : List (Int × ByteArray × Int × Int × Unit)) : Option (Bool) :=
  resume (E_laws_FnTokens k) 3 (acall (E_laws_FnTokens k) (arun Try.prog (E_laws_FnTokens k) k)) k [true, true, true, true, true, true, true] [] (bodyOf Try.f3) ⟨[.undef, .undef, .undef, .str x3, .tv (.row (.pair (.int .i64) (.pair .str (.pair (.int .i64) (.pair (.int .i64) .unit))))) x4, .int .i64 x5, .tv (.row (.pair (.int .i64) (.pair .str (.pair (.int .i64) (.pair (.int .i64) .unit))))) x6, .undef, .undef, .undef, .undef, .undef, .undef, .undef, .undef, .undef, .undef, .undef, .undef, .undef, .undef, .undef, .undef, .undef, .undef, .undef, .undef, .undef, .undef, .undef, .undef, .undef, .undef, .undef, .undef, .undef, .undef, .undef, .undef, .undef, .undef, .undef, .undef, .undef, .undef, .undef, .undef, .undef, .undef, .undef, .undef, .undef, .undef, .undef, .undef, .undef, .undef, .undef, .undef, .undef, .undef, .undef, .undef, .undef, .undef, .undef, .undef, .undef, .undef, .undef, .undef, .undef, .undef, .undef, .undef, .undef, .undef, .undef, .undef, .undef, .undef, .undef, .undef, .undef, .undef, .undef, .undef, .undef, .undef, .undef, .undef, .undef, .undef, .undef, .undef, .undef, .undef, .undef, .undef, .undef, .undef, .undef, .undef, .undef, .undef, .undef, .undef, .undef, .undef, .undef, .undef, .undef, .undef, .undef, .undef, .undef, .undef, .undef, .undef, .undef, .undef, .undef, .undef, .undef, .undef, .undef, .undef, .undef, .undef, .undef, .undef, .undef, .undef, .undef, .undef, .undef, .undef, .undef, .undef, .undef, .undef, .undef, .undef, .undef, .undef, .undef, .undef, .undef], []⟩ (leave (E_laws_FnTokens k) Try.f3 (fin1 .bool))
noncomputable def laws_FnTokens.l10 (k n : Nat) (x3 : ByteArray) (x4 : List (Int × ByteArray × Int × Int × Unit)) (x5 : Int) (x6 : List (Int × ByteArray × Int × Int × Unit)) (x9 : Int) : Option (Bool) :=
  resume (E_laws_FnTokens k) 3 (acall (E_laws_FnTokens k) (arun Try.prog (E_laws_FnTokens k) k)) k [true, true, true, true, true, true, true, false, true, true] [n] (bodyOf Try.f3) ⟨[.undef, .undef, .undef, .str x3, .tv (.row (.pair (.int .i64) (.pair .str (.pair (.int .i64) (.pair (.int .i64) .unit))))) x4, .int .i64 x5, .tv (.row (.pair (.int .i64) (.pair .str (.pair (.int .i64) (.pair (.int .i64) .unit))))) x6, .undef, .undef, .int .i64 x9, .undef, .undef, .undef, .undef, .undef, .undef, .undef, .undef, .undef, .undef, .undef, .undef, .undef, .undef, .undef, .undef, .undef, .undef, .undef, .undef, .undef, .undef, .undef, .undef, .undef, .undef, .undef, .undef, .undef, .undef, .undef, .undef, .undef, .undef, .undef, .undef, .undef, .undef, .undef, .undef, .undef, .undef, .undef, .undef, .undef, .undef, .undef, .undef, .undef, .undef, .undef, .undef, .undef, .undef, .undef, .undef, .undef, .undef, .undef, .undef, .undef, .undef, .undef, .undef, .undef, .undef, .undef, .undef, .undef, .undef, .undef, .undef, .undef, .undef, .undef, .undef, .undef, .undef, .undef, .undef, .undef, .undef, .undef, .undef, .undef, .undef, .undef, .undef, .undef, .undef, .undef, .undef, .undef, .undef, .undef, .undef, .undef, .undef, .undef, .undef, .undef, .undef, .undef, .undef, .undef, .undef, .undef, .undef, .undef, .undef, .undef, .undef, .undef, .undef, .undef, .undef, .undef, .undef, .undef, .undef, .undef, .undef, .undef, .undef, .undef, .undef, .undef, .undef, .undef, .undef, .undef, .undef, .undef, .undef, .undef, .undef, .undef, .undef], []⟩ (leave (E_laws_FnTokens k) Try.f3 (fin1 .bool))
noncomputable def laws_FnTokens.j14 (k m10 : Nat) (x3 : ByteArray) (x4 : List (Int × ByteArray × Int × Int × Unit)) (x5 : Int) (x6 : List (Int × ByteArray × Int × Int × Unit)) (x9 : Int) : Option (Bool) :=
  resume (E_laws_FnTokens k) 3 (acall (E_laws_FnTokens k) (arun Try.prog (E_laws_FnTokens k) k)) k [true, true, true, true, true, true, true, false, true, true, true, true, false, true, true] [m10] (bodyOf Try.f3) ⟨[.undef, .undef, .undef, .str x3, .tv (.row (.pair (.int .i64) (.pair .str (.pair (.int .i64) (.pair (.int .i64) .unit))))) x4, .int .i64 x5, .tv (.row (.pair (.int .i64) (.pair .str (.pair (.int .i64) (.pair (.int .i64) .unit))))) x6, .undef, .undef, .int .i64 x9, .undef, .undef, .undef, .undef, .undef, .undef, .undef, .undef, .undef, .undef, .undef, .undef, .undef, .undef, .undef, .undef, .undef, .undef, .undef, .undef, .undef, .undef, .undef, .undef, .undef, .undef, .undef, .undef, .undef, .undef, .undef, .undef, .undef, .undef, .undef, .undef, .undef, .undef, .undef, .undef, .undef, .undef, .undef, .undef, .undef, .undef, .undef, .undef, .undef, .undef, .undef, .undef, .undef, .undef, .undef, .undef, .undef, .undef, .undef, .undef, .undef, .undef, .undef, .undef, .undef, .undef, .undef, .undef, .undef, .undef, .undef, .undef, .undef, .undef, .undef, .undef, .undef, .undef, .undef, .undef, .undef, .undef, .undef, .undef, .undef, .undef, .undef, .undef, .undef, .undef, .undef, .undef, .undef, .undef, .undef, .undef, .undef, .undef, .undef, .undef, .undef, .undef, .undef, .undef, .undef, .undef, .undef, .undef, .undef, .undef, .undef, .undef, .undef, .undef, .undef, .undef, .undef, .undef, .undef, .undef, .undef, .undef, .undef, .undef, .undef, .undef, .undef, .undef, .undef, .undef, .undef, .undef, .undef, .undef, .undef, .undef, .undef, .undef], []⟩ (leave (E_laws_FnTokens k) Try.f3 (fin1 .bool))
theorem laws_FnTokens.j9_e (k : Nat) (x3 : ByteArray) (x4 : List (Int × ByteArray × Int × Int × Unit)) (x5 : Int) (x6 : List (Int × ByteArray × Int × Int × Unit)) : laws_FnTokens.j9 k x3 x4 x5 x6 =
  laws_FnTokens.l10 k k x3 x4 x5 x6 0 := by kernel_rfl
theorem laws_FnTokens.l10_0 (k : Nat) (x3 : ByteArray) (x4 : List (Int × ByteArray × Int × Int × Unit)) (x5 : Int) (x6 : List (Int × ByteArray × Int × Int × Unit)) (x9 : Int) : laws_FnTokens.l10 k 0 x3 x4 x5 x6 x9 = none := by kernel_rfl
theorem laws_FnTokens.l10_s (k n : Nat) (x3 : ByteArray) (x4 : List (Int × ByteArray × Int × Int × Unit)) (x5 : Int) (x6 : List (Int × ByteArray × Int × Int × Unit)) (x9 : Int) : laws_FnTokens.l10 k (n + 1) x3 x4 x5 x6 x9 =
  iteB (decide (x9 < ((List.length x4) : Int))) (iteB (decide (0 ≤ x9)) (iteB (decide (x9 < ((List.length x4) : Int))) (iteB (decide (0 ≤ x9)) (iteB (decide (x9 < ((List.length x6) : Int))) (iteB (!(!((((List.getD x4 (Int.toNat x9) (Ty.dflt (.pair (.int .i64) (.pair .str (.pair (.int .i64) (.pair (.int .i64) .unit)))))).1) == ((List.getD x6 (Int.toNat x9) (Ty.dflt (.pair (.int .i64) (.pair .str (.pair (.int .i64) (.pair (.int .i64) .unit)))))).1)) && ((ByteArray.toList (((List.getD x4 (Int.toNat x9) (Ty.dflt (.pair (.int .i64) (.pair .str (.pair (.int .i64) (.pair (.int .i64) .unit)))))).2).1) == ByteArray.toList (((List.getD x6 (Int.toNat x9) (Ty.dflt (.pair (.int .i64) (.pair .str (.pair (.int .i64) (.pair (.int .i64) .unit)))))).2).1)) && ((((((List.getD x4 (Int.toNat x9) (Ty.dflt (.pair (.int .i64) (.pair .str (.pair (.int .i64) (.pair (.int .i64) .unit)))))).2).2).1) == ((((List.getD x6 (Int.toNat x9) (Ty.dflt (.pair (.int .i64) (.pair .str (.pair (.int .i64) (.pair (.int .i64) .unit)))))).2).2).1)) && (((((((List.getD x4 (Int.toNat x9) (Ty.dflt (.pair (.int .i64) (.pair .str (.pair (.int .i64) (.pair (.int .i64) .unit)))))).2).2).2).1) == (((((List.getD x6 (Int.toNat x9) (Ty.dflt (.pair (.int .i64) (.pair .str (.pair (.int .i64) (.pair (.int .i64) .unit)))))).2).2).2).1)) && true)))))) (iteB (decide (x9 > 0)) (iteB (decide (0 ≤ x9)) (iteB (decide (x9 < ((List.length x4) : Int))) (iteB (decide (0 ≤ IntKind.wrap .i64 (x9 - 1))) (iteB (decide (IntKind.wrap .i64 (x9 - 1) < ((List.length x4) : Int))) (iteB (decide (((((List.getD x4 (Int.toNat x9) (Ty.dflt (.pair (.int .i64) (.pair .str (.pair (.int .i64) (.pair (.int .i64) .unit)))))).2).2).2).1 < ((((List.getD x4 (Int.toNat (IntKind.wrap .i64 (x9 - 1))) (Ty.dflt (.pair (.int .i64) (.pair .str (.pair (.int .i64) (.pair (.int .i64) .unit)))))).2).2).2).1)) (some false) (gate k (laws_FnTokens.j14 k n x3 x4 x5 x6 x9))) (none)) (none)) (none)) (none)) (gate k (laws_FnTokens.j14 k n x3 x4 x5 x6 x9))) (some false)) (none)) (none)) (none)) (none)) (iteB (decide (x5 ≥ 0)) (iteB (!(((List.length x4) : Int) == 0)) (iteB (x5 == (-1)) (iteB (decide (0 ≤ IntKind.wrap .i64 (((List.length x4) : Int) - 1))) (iteB (decide (IntKind.wrap .i64 (((List.length x4) : Int) - 1) < ((List.length x4) : Int))) (iteB (((List.getD x4 (Int.toNat (IntKind.wrap .i64 (((List.length x4) : Int) - 1))) (Ty.dflt (.pair (.int .i64) (.pair .str (.pair (.int .i64) (.pair (.int .i64) .unit)))))).1) == 0) (iteB (decide (0 ≤ IntKind.wrap .i64 (((List.length x4) : Int) - 1))) (iteB (decide (IntKind.wrap .i64 (((List.length x4) : Int) - 1) < ((List.length x4) : Int))) (some ((((((List.getD x4 (Int.toNat (IntKind.wrap .i64 (((List.length x4) : Int) - 1))) (Ty.dflt (.pair (.int .i64) (.pair .str (.pair (.int .i64) (.pair (.int .i64) .unit)))))).2).2).2).1) == (ByteArray.size x3 : Int))) (none)) (none)) (some false)) (none)) (none)) (some false)) (some true)) (iteB (x5 == (-1)) (iteB (decide (0 ≤ IntKind.wrap .i64 (((List.length x4) : Int) - 1))) (iteB (decide (IntKind.wrap .i64 (((List.length x4) : Int) - 1) < ((List.length x4) : Int))) (iteB (((List.getD x4 (Int.toNat (IntKind.wrap .i64 (((List.length x4) : Int) - 1))) (Ty.dflt (.pair (.int .i64) (.pair .str (.pair (.int .i64) (.pair (.int .i64) .unit)))))).1) == 0) (iteB (decide (0 ≤ IntKind.wrap .i64 (((List.length x4) : Int) - 1))) (iteB (decide (IntKind.wrap .i64 (((List.length x4) : Int) - 1) < ((List.length x4) : Int))) (some ((((((List.getD x4 (Int.toNat (IntKind.wrap .i64 (((List.length x4) : Int) - 1))) (Ty.dflt (.pair (.int .i64) (.pair .str (.pair (.int .i64) (.pair (.int .i64) .unit)))))).2).2).2).1) == (ByteArray.size x3 : Int))) (none)) (none)) (some false)) (none)) (none)) (some false))) := by kernel_rfl
theorem laws_FnTokens.j14_e (k m10 : Nat) (x3 : ByteArray) (x4 : List (Int × ByteArray × Int × Int × Unit)) (x5 : Int) (x6 : List (Int × ByteArray × Int × Int × Unit)) (x9 : Int) : laws_FnTokens.j14 k m10 x3 x4 x5 x6 x9 =
  iteB (decide (0 ≤ x9)) (iteB (decide (x9 < ((List.length x4) : Int))) (iteB (decide (0 ≤ x9)) (iteB (decide (x9 < ((List.length x4) : Int))) (iteB (((List.getD x4 (Int.toNat x9) (Ty.dflt (.pair (.int .i64) (.pair .str (.pair (.int .i64) (.pair (.int .i64) .unit)))))).1) != 0) (iteB (decide (0 ≤ x9)) (iteB (decide (x9 < ((List.length x4) : Int))) (iteB (((List.getD x4 (Int.toNat x9) (Ty.dflt (.pair (.int .i64) (.pair .str (.pair (.int .i64) (.pair (.int .i64) .unit)))))).1) != 2) (iteB (decide (0 ≤ x9)) (iteB (decide (x9 < ((List.length x4) : Int))) (iteB (decide (0 ≤ x9)) (iteB (decide (x9 < ((List.length x4) : Int))) (iteB (decide (0 ≤ IntKind.wrap .i64 ((((((List.getD x4 (Int.toNat x9) (Ty.dflt (.pair (.int .i64) (.pair .str (.pair (.int .i64) (.pair (.int .i64) .unit)))))).2).2).2).1) + (ByteArray.size (((List.getD x4 (Int.toNat x9) (Ty.dflt (.pair (.int .i64) (.pair .str (.pair (.int .i64) (.pair (.int .i64) .unit)))))).2).1) : Int)))) (iteB (decide (IntKind.wrap .i64 ((((((List.getD x4 (Int.toNat x9) (Ty.dflt (.pair (.int .i64) (.pair .str (.pair (.int .i64) (.pair (.int .i64) .unit)))))).2).2).2).1) + (ByteArray.size (((List.getD x4 (Int.toNat x9) (Ty.dflt (.pair (.int .i64) (.pair .str (.pair (.int .i64) (.pair (.int .i64) .unit)))))).2).1) : Int)) ≤ (ByteArray.size x3 : Int))) (iteB (decide (0 ≤ ((((List.getD x4 (Int.toNat x9) (Ty.dflt (.pair (.int .i64) (.pair .str (.pair (.int .i64) (.pair (.int .i64) .unit)))))).2).2).2).1)) (iteB (decide (((((List.getD x4 (Int.toNat x9) (Ty.dflt (.pair (.int .i64) (.pair .str (.pair (.int .i64) (.pair (.int .i64) .unit)))))).2).2).2).1 ≤ IntKind.wrap .i64 ((((((List.getD x4 (Int.toNat x9) (Ty.dflt (.pair (.int .i64) (.pair .str (.pair (.int .i64) (.pair (.int .i64) .unit)))))).2).2).2).1) + (ByteArray.size (((List.getD x4 (Int.toNat x9) (Ty.dflt (.pair (.int .i64) (.pair .str (.pair (.int .i64) (.pair (.int .i64) .unit)))))).2).1) : Int)))) (iteB (!(ByteArray.toList (ByteArray.extract x3 (Int.toNat (((((List.getD x4 (Int.toNat x9) (Ty.dflt (.pair (.int .i64) (.pair .str (.pair (.int .i64) (.pair (.int .i64) .unit)))))).2).2).2).1)) (Int.toNat (IntKind.wrap .i64 ((((((List.getD x4 (Int.toNat x9) (Ty.dflt (.pair (.int .i64) (.pair .str (.pair (.int .i64) (.pair (.int .i64) .unit)))))).2).2).2).1) + (ByteArray.size (((List.getD x4 (Int.toNat x9) (Ty.dflt (.pair (.int .i64) (.pair .str (.pair (.int .i64) (.pair (.int .i64) .unit)))))).2).1) : Int))))) == ByteArray.toList (((List.getD x4 (Int.toNat x9) (Ty.dflt (.pair (.int .i64) (.pair .str (.pair (.int .i64) (.pair (.int .i64) .unit)))))).2).1))) (some false) (laws_FnTokens.l10 k m10 x3 x4 x5 x6 (IntKind.wrap .i64 (x9 + 1)))) (none)) (none)) (none)) (none)) (none)) (none)) (none)) (none)) (laws_FnTokens.l10 k m10 x3 x4 x5 x6 (IntKind.wrap .i64 (x9 + 1)))) (none)) (none)) (laws_FnTokens.l10 k m10 x3 x4 x5 x6 (IntKind.wrap .i64 (x9 + 1)))) (none)) (none)) (none)) (none) := by kernel_rfl
theorem laws_FnTokens_e (k : Nat) (a1 : List Int) : laws_FnTokens k a1 =
  bindO (laws_big k a1) fun r1 => (iteB r1 (some true) (bindO (spec_DrawTokens k a1) fun r2 => (bindO (impl_Tokens k r2) fun r3 => (bindO (spec_Tokens k r2) fun r4 => (bindO (spec_DrawKeyword k a1) fun r5 => (iteB (!(r3.2.1 != r4.2.1)) (iteB (!(((List.length r3.1) : Int) != ((List.length r4.1) : Int))) (bindO (impl_Keyword k r5) fun r6 => (bindO (spec_Keyword k r5) fun r7 => (iteB (!(r6 == r7)) (some false) (gate k (laws_FnTokens.j9 k r2 r3.1 r3.2.1 r4.1))))) (some false)) (some false))))))) := by kernel_rfl
theorem E_laws_FnTokens_calls (k : Nat) : CallsOk Try.prog (E_laws_FnTokens k) (arun Try.prog (E_laws_FnTokens k) k) := by
  refine told_run (tyTOk _ _) ?_ (fun run h => regOk (tyTOk _ _) mixOk h) ?_ nameOk k
  · intro g m hg
    simp only [E_laws_FnTokens] at hg
    split at hg
    · cases hg
      refine con_byVal fun ρ l K x hm => ?_
      split at hm
      · obtain ⟨c1, h1, hm⟩ := Option.bind_eq_some_iff.1 hm
        obtain ⟨r, hr, hm⟩ := Option.bind_eq_some_iff.1 hm
        exact ⟨_, hm, LawV.reads (.cons (.as h1) .nil) (laws_big_law k c1 r hr)⟩
      · cases hm
    · cases hg
      refine con_byVal fun ρ l K x hm => ?_
      split at hm
      · obtain ⟨c1, h1, hm⟩ := Option.bind_eq_some_iff.1 hm
        obtain ⟨r, hr, hm⟩ := Option.bind_eq_some_iff.1 hm
        exact ⟨_, hm, LawV.reads (.cons (.as h1) .nil) (spec_DrawTokens_law k c1 r hr)⟩
      · cases hm
    · cases hg
      refine con_byVal fun ρ l K x hm => ?_
      split at hm
      · obtain ⟨c1, h1, hm⟩ := Option.bind_eq_some_iff.1 hm
        obtain ⟨r, hr, hm⟩ := Option.bind_eq_some_iff.1 hm
        exact ⟨_, hm, LawV.reads (.cons (.as h1) .nil) (impl_Tokens_law k c1 r hr)⟩
      · cases hm
    · cases hg
      refine con_byVal fun ρ l K x hm => ?_
      split at hm
      · obtain ⟨c1, h1, hm⟩ := Option.bind_eq_some_iff.1 hm
        obtain ⟨r, hr, hm⟩ := Option.bind_eq_some_iff.1 hm
        exact ⟨_, hm, LawV.reads (.cons (.as h1) .nil) (spec_Tokens_law k c1 r hr)⟩
      · cases hm
    · cases hg
      refine con_byVal fun ρ l K x hm => ?_
      split at hm
      · obtain ⟨c1, h1, hm⟩ := Option.bind_eq_some_iff.1 hm
        obtain ⟨r, hr, hm⟩ := Option.bind_eq_some_iff.1 hm
        exact ⟨_, hm, LawV.reads (.cons (.as h1) .nil) (spec_DrawKeyword_law k c1 r hr)⟩
      · cases hm
    · cases hg
      refine con_byVal fun ρ l K x hm => ?_
      split at hm
      · obtain ⟨c1, h1, hm⟩ := Option.bind_eq_some_iff.1 hm
        obtain ⟨r, hr, hm⟩ := Option.bind_eq_some_iff.1 hm
        exact ⟨_, hm, LawV.reads (.cons (.as h1) .nil) (impl_Keyword_law k c1 r hr)⟩
      · cases hm
    · cases hg
      refine con_byVal fun ρ l K x hm => ?_
      split at hm
      · obtain ⟨c1, h1, hm⟩ := Option.bind_eq_some_iff.1 hm
        obtain ⟨r, hr, hm⟩ := Option.bind_eq_some_iff.1 hm
        exact ⟨_, hm, LawV.reads (.cons (.as h1) .nil) (spec_Keyword_law k c1 r hr)⟩
      · cases hm
    · cases hg; exact noCon_ok
    · cases hg
  · intro g hg r
    by_cases h : g = 3
    · subst h; simp [E_laws_FnTokens] at hg
    · simp [E_laws_FnTokens, h]
theorem f3_oklaws_FnTokens : Try.prog.funcs[3]? = some Try.f3 := by kernel_rfl
theorem laws_FnTokens_law (k : Nat) (a1 : List Int) (x : Bool) (h : laws_FnTokens k a1 = some x) : LawV Try.prog 3 [.tv (.row (.int .u8)) a1] (tvn .bool x) := by
  unfold laws_FnTokens at h
  exact law1 (t := .bool) (tyTOk _ _) (E_laws_FnTokens_calls k) mixOk f3_oklaws_FnTokens (nameOk _ _ f3_oklaws_FnTokens) (by kernel_rfl) h
end Go.Proofs.Yteojdaobpjhddaa.XFnTokens
