/- Functions of the program as runs of the interpreter: equations, and a law for each. -/
import Derived.Test.YtkingfejeangbaaProg
import Derived.Test.YtkingfejeangbaaChecked
import Derived.KernelRfl
import Derived.Eval
import Derived.Test.YtkingfejeangbaaATyOk
import Derived.Test.YtkingfejeangbaaAS40
import Derived.Test.YtkingfejeangbaaAMFnInsNamed0
open Go Go.AM Go.AMx Go.Proofs
namespace Go.Proofs.Ytkingfejeangbaa.XFnInsNamed
set_option linter.unusedVariables false
set_option linter.unusedSimpArgs false
/-! impl.InsOk -/
noncomputable def E_impl_InsOk (k : Nat) : Env := ⟨ty, fun g => match g with
  | 27 => some (byVal fun ρ l K => match l with
    | [b1] => (b1.as (.int .i64)).bind fun c1 => (impl_has k c1).bind fun r => K (tvn .str r)
    | _ => none)
  | 28 => some (byVal fun ρ l K => match l with
    | [b1] => (b1.as (.int .i64)).bind fun c1 => (impl_isReg k c1).bind fun r => K (tvn .bool r)
    | _ => none)
  | 33 => some (byVal fun ρ l K => match l with
    | [b1] => (b1.as (.int .i64)).bind fun c1 => (impl_WordOk k c1).bind fun r => K (tvn .bool r)
    | _ => none)
  | 34 => some (byVal fun ρ l K => match l with
    | [b1, b2, b3] => (b1.as (.int .i64)).bind fun c1 => (b2.as (.int .i64)).bind fun c2 => (b3.as (.int .i64)).bind fun c3 => (impl_within k c1 c2 c3).bind fun r => K (tvn .bool r)
    | _ => none)
  | 19 => some noCon
  | _ => none, fun f r => match f with | 19 => (match r with | 6 => some [1, 3, 4, 5, 15, 16] | _ => none) | _ => none⟩
noncomputable def impl_InsOk (k : Nat) (a1 : Int × Int × Int × Int × Int × Int × Unit) : Option (Bool) :=
  abody (E_impl_InsOk k) (arun Try.prog (E_impl_InsOk k) k) k 19 Try.f19 [.tv (.pair (.int .i64) (.pair (.int .i64) (.pair (.int .i64) (.pair (.int .i64) (.pair (.int .i64) (.pair (.int .i64) .unit)))))) a1] [] (fin1 .bool)
noncomputable def impl_InsOk.l6 (k n : Nat) (x3 : ByteArray) (x5 : Bool) (x15 : Int) (x16 : Int) (y0_0 : Int × Int × Int × Int × Int × Int × Unit) (y1_0_0 : Int) (y1_0_1 : Int) (y1_0_2 : Int) (y1_0_3 : Int) (y1_0_4 : Int) (y1_0_5 : Int) : Option (Bool) :=
  resume (E_impl_InsOk k) 19 (acall (E_impl_InsOk k) (arun Try.prog (E_impl_InsOk k) k)) k [true, true, true, true, true, false, true, true] [n] (bodyOf Try.f19) ⟨[.undef, .ptr 0 0 0, .undef, .str x3, .ptr 1 0 0, .bool x5, .undef, .undef, .undef, .undef, .undef, .undef, .undef, .undef, .undef, .int .i64 x15, .int .i64 x16, .undef, .undef, .undef, .undef, .undef, .undef, .undef, .undef, .undef, .undef, .undef, .undef, .undef, .undef, .undef, .undef, .undef, .undef, .undef, .undef, .undef, .undef, .undef, .undef, .undef, .undef, .undef, .undef, .undef, .undef, .undef, .undef, .undef, .undef, .undef, .undef, .undef, .undef, .undef, .undef, .undef, .undef, .undef, .undef, .undef, .undef, .undef, .undef, .undef, .undef, .undef, .undef, .undef, .undef, .undef, .undef, .undef, .undef, .undef, .undef, .undef, .undef, .undef, .undef, .undef, .undef, .undef, .undef, .undef, .undef, .undef, .undef], [some ⟨.raw true 6 (.agg [.int .i64 0, .int .i64 0, .int .i64 0, .int .i64 0, .int .i64 0, .int .i64 0]) [.tv (.pair (.int .i64) (.pair (.int .i64) (.pair (.int .i64) (.pair (.int .i64) (.pair (.int .i64) (.pair (.int .i64) .unit)))))) y0_0], true⟩, some ⟨.raw true 6 (.agg [.int .i64 0, .int .i64 0, .int .i64 0, .int .i64 0, .int .i64 0, .int .i64 0]) [.agg [.int .i64 y1_0_0, .int .i64 y1_0_1, .int .i64 y1_0_2, .int .i64 y1_0_3, .int .i64 y1_0_4, .int .i64 y1_0_5]], true⟩]⟩ (leave (E_impl_InsOk k) Try.f19 (fin1 .bool))
theorem impl_InsOk.l6_0 (k : Nat) (x3 : ByteArray) (x5 : Bool) (x15 : Int) (x16 : Int) (y0_0 : Int × Int × Int × Int × Int × Int × Unit) (y1_0_0 : Int) (y1_0_1 : Int) (y1_0_2 : Int) (y1_0_3 : Int) (y1_0_4 : Int) (y1_0_5 : Int) : impl_InsOk.l6 k 0 x3 x5 x15 x16 y0_0 y1_0_0 y1_0_1 y1_0_2 y1_0_3 y1_0_4 y1_0_5 = none := by kernel_rfl
theorem impl_InsOk.l6_s (k n : Nat) (x3 : ByteArray) (x5 : Bool) (x15 : Int) (x16 : Int) (y0_0 : Int × Int × Int × Int × Int × Int × Unit) (y1_0_0 : Int) (y1_0_1 : Int) (y1_0_2 : Int) (y1_0_3 : Int) (y1_0_4 : Int) (y1_0_5 : Int) : impl_InsOk.l6 k (n + 1) x3 x5 x15 x16 y0_0 y1_0_0 y1_0_1 y1_0_2 y1_0_3 y1_0_4 y1_0_5 =
  iteB (decide (x16 < x15)) (iteB (decide (0 ≤ x16)) (iteB (decide (x16 < (ByteArray.size x3 : Int))) (iteB ((byteAt x3 (Int.toNat x16)) == 82) (iteB x5 (bindO (impl_isReg k y0_0.2.1) fun r2 => (impl_InsOk.l6 k n x3 r2 x15 (IntKind.wrap .i64 (x16 + 1)) y0_0 y1_0_0 0 y1_0_2 y1_0_3 y1_0_4 y1_0_5)) (impl_InsOk.l6 k n x3 false x15 (IntKind.wrap .i64 (x16 + 1)) y0_0 y1_0_0 0 y1_0_2 y1_0_3 y1_0_4 y1_0_5)) (iteB ((byteAt x3 (Int.toNat x16)) == 65) (iteB x5 (bindO (impl_isReg k y0_0.2.2.1) fun r3 => (iteB (!r3) (iteB (y0_0.2.2.1 == 6) (iteB (!(y0_0.1 == 8)) (impl_InsOk.l6 k n x3 (y0_0.1 == 9) x15 (IntKind.wrap .i64 (x16 + 1)) y0_0 y1_0_0 y1_0_1 0 y1_0_3 y1_0_4 y1_0_5) (impl_InsOk.l6 k n x3 true x15 (IntKind.wrap .i64 (x16 + 1)) y0_0 y1_0_0 y1_0_1 0 y1_0_3 y1_0_4 y1_0_5)) (impl_InsOk.l6 k n x3 false x15 (IntKind.wrap .i64 (x16 + 1)) y0_0 y1_0_0 y1_0_1 0 y1_0_3 y1_0_4 y1_0_5)) (impl_InsOk.l6 k n x3 true x15 (IntKind.wrap .i64 (x16 + 1)) y0_0 y1_0_0 y1_0_1 0 y1_0_3 y1_0_4 y1_0_5))) (impl_InsOk.l6 k n x3 false x15 (IntKind.wrap .i64 (x16 + 1)) y0_0 y1_0_0 y1_0_1 0 y1_0_3 y1_0_4 y1_0_5)) (iteB ((byteAt x3 (Int.toNat x16)) == 66) (iteB x5 (bindO (impl_isReg k y0_0.2.2.2.1) fun r4 => (impl_InsOk.l6 k n x3 r4 x15 (IntKind.wrap .i64 (x16 + 1)) y0_0 y1_0_0 y1_0_1 y1_0_2 0 y1_0_4 y1_0_5)) (impl_InsOk.l6 k n x3 false x15 (IntKind.wrap .i64 (x16 + 1)) y0_0 y1_0_0 y1_0_1 y1_0_2 0 y1_0_4 y1_0_5)) (iteB ((byteAt x3 (Int.toNat x16)) == 78) (iteB x5 (bindO (impl_WordOk k y0_0.2.2.2.2.1) fun r5 => (impl_InsOk.l6 k n x3 r5 x15 (IntKind.wrap .i64 (x16 + 1)) y0_0 y1_0_0 y1_0_1 y1_0_2 y1_0_3 0 y1_0_5)) (impl_InsOk.l6 k n x3 false x15 (IntKind.wrap .i64 (x16 + 1)) y0_0 y1_0_0 y1_0_1 y1_0_2 y1_0_3 0 y1_0_5)) (iteB ((byteAt x3 (Int.toNat x16)) == 77) (iteB x5 (bindO (impl_within k y0_0.2.2.2.2.2.1 0 60) fun r6 => (impl_InsOk.l6 k n x3 r6 x15 (IntKind.wrap .i64 (x16 + 1)) y0_0 y1_0_0 y1_0_1 y1_0_2 y1_0_3 y1_0_4 0)) (impl_InsOk.l6 k n x3 false x15 (IntKind.wrap .i64 (x16 + 1)) y0_0 y1_0_0 y1_0_1 y1_0_2 y1_0_3 y1_0_4 0)) (impl_InsOk.l6 k n x3 x5 x15 (IntKind.wrap .i64 (x16 + 1)) y0_0 y1_0_0 y1_0_1 y1_0_2 y1_0_3 y1_0_4 y1_0_5)))))) (none)) (none)) (iteB x5 (some ((y1_0_0 == 0) && ((y1_0_1 == 0) && ((y1_0_2 == 0) && ((y1_0_3 == 0) && ((y1_0_4 == 0) && ((y1_0_5 == 0) && true))))))) (some false)) := by kernel_rfl
theorem impl_InsOk_e (k : Nat) (a1 : Int × Int × Int × Int × Int × Int × Unit) : impl_InsOk k a1 =
  bindO (impl_has k a1.1) fun r1 => (impl_InsOk.l6 k k r1 (!(ByteArray.toList r1 == ByteArray.toList (⟨#[]⟩ : ByteArray))) (ByteArray.size r1 : Int) 0 a1 0 a1.2.1 a1.2.2.1 a1.2.2.2.1 a1.2.2.2.2.1 a1.2.2.2.2.2.1) := by kernel_rfl
theorem E_impl_InsOk_calls (k : Nat) : CallsOk Try.prog (E_impl_InsOk k) (arun Try.prog (E_impl_InsOk k) k) := by
  refine told_run (tyTOk _ _) ?_ (fun run h => regOk (tyTOk _ _) mixOk h) ?_ nameOk k
  · intro g m hg
    simp only [E_impl_InsOk] at hg
    split at hg
    · cases hg
      refine con_byVal fun ρ l K x hm => ?_
      split at hm
      · obtain ⟨c1, h1, hm⟩ := Option.bind_eq_some_iff.1 hm
        obtain ⟨r, hr, hm⟩ := Option.bind_eq_some_iff.1 hm
        exact ⟨_, hm, LawV.reads (.cons (.as h1) .nil) (impl_has_law k c1 r hr)⟩
      · cases hm
    · cases hg
      refine con_byVal fun ρ l K x hm => ?_
      split at hm
      · obtain ⟨c1, h1, hm⟩ := Option.bind_eq_some_iff.1 hm
        obtain ⟨r, hr, hm⟩ := Option.bind_eq_some_iff.1 hm
        exact ⟨_, hm, LawV.reads (.cons (.as h1) .nil) (impl_isReg_law k c1 r hr)⟩
      · cases hm
    · cases hg
      refine con_byVal fun ρ l K x hm => ?_
      split at hm
      · obtain ⟨c1, h1, hm⟩ := Option.bind_eq_some_iff.1 hm
        obtain ⟨r, hr, hm⟩ := Option.bind_eq_some_iff.1 hm
        exact ⟨_, hm, LawV.reads (.cons (.as h1) .nil) (impl_WordOk_law k c1 r hr)⟩
      · cases hm
    · cases hg
      refine con_byVal fun ρ l K x hm => ?_
      split at hm
      · obtain ⟨c1, h1, hm⟩ := Option.bind_eq_some_iff.1 hm
        obtain ⟨c2, h2, hm⟩ := Option.bind_eq_some_iff.1 hm
        obtain ⟨c3, h3, hm⟩ := Option.bind_eq_some_iff.1 hm
        obtain ⟨r, hr, hm⟩ := Option.bind_eq_some_iff.1 hm
        exact ⟨_, hm, LawV.reads (.cons (.as h1) (.cons (.as h2) (.cons (.as h3) .nil))) (impl_within_law k c1 c2 c3 r hr)⟩
      · cases hm
    · cases hg; exact noCon_ok
    · cases hg
  · intro g hg r
    by_cases h : g = 19
    · subst h; simp [E_impl_InsOk] at hg
    · simp [E_impl_InsOk, h]
theorem f19_okimpl_InsOk : Try.prog.funcs[19]? = some Try.f19 := by kernel_rfl
theorem impl_InsOk_law (k : Nat) (a1 : Int × Int × Int × Int × Int × Int × Unit) (x : Bool) (h : impl_InsOk k a1 = some x) : LawV Try.prog 19 [.tv (.pair (.int .i64) (.pair (.int .i64) (.pair (.int .i64) (.pair (.int .i64) (.pair (.int .i64) (.pair (.int .i64) .unit)))))) a1] (tvn .bool x) := by
  unfold impl_InsOk at h
  exact law1 (t := .bool) (tyTOk _ _) (E_impl_InsOk_calls k) mixOk f19_okimpl_InsOk (nameOk _ _ f19_okimpl_InsOk) (by kernel_rfl) h
/-! spec.l2Field -/
noncomputable def E_spec_l2Field (k : Nat) : Env := ⟨ty, fun g => match g with
  | 35 => some (byVal fun ρ l K => match l with
    | [b1, b2, b3] => (b1.as (.int .i64)).bind fun c1 => (b2.as (.int .i64)).bind fun c2 => (b3.as (.int .i64)).bind fun c3 => (spec_l1In k c1 c2 c3).bind fun r => K (tvn .bool r)
    | _ => none)
  | _ => none, fun _ _ => none⟩
noncomputable def spec_l2Field (k : Nat) (a1 : Int) (a2 : Int) (a3 : Bool) : Option (Bool) :=
  abody (E_spec_l2Field k) (arun Try.prog (E_spec_l2Field k) k) k 36 Try.f36 [.int .i64 a1, .int .i64 a2, .bool a3] [] (fin1 .bool)
theorem spec_l2Field_e (k : Nat) (a1 : Int) (a2 : Int) (a3 : Bool) : spec_l2Field k a1 a2 a3 =
  bindO (spec_l1In k a1 0 a2) fun r1 => (iteB r1 (iteB (!a3) (some (a1 == 0)) (some true)) (some false)) := by kernel_rfl
theorem E_spec_l2Field_calls (k : Nat) : CallsOk Try.prog (E_spec_l2Field k) (arun Try.prog (E_spec_l2Field k) k) := by
  refine told_run (tyTOk _ _) ?_ (fun run h => regOk (tyTOk _ _) mixOk h) ?_ nameOk k
  · intro g m hg
    simp only [E_spec_l2Field] at hg
    split at hg
    · cases hg
      refine con_byVal fun ρ l K x hm => ?_
      split at hm
      · obtain ⟨c1, h1, hm⟩ := Option.bind_eq_some_iff.1 hm
        obtain ⟨c2, h2, hm⟩ := Option.bind_eq_some_iff.1 hm
        obtain ⟨c3, h3, hm⟩ := Option.bind_eq_some_iff.1 hm
        obtain ⟨r, hr, hm⟩ := Option.bind_eq_some_iff.1 hm
        exact ⟨_, hm, LawV.reads (.cons (.as h1) (.cons (.as h2) (.cons (.as h3) .nil))) (spec_l1In_law k c1 c2 c3 r hr)⟩
      · cases hm
    · cases hg
  · intro g _ r; rfl
theorem f36_okspec_l2Field : Try.prog.funcs[36]? = some Try.f36 := by kernel_rfl
theorem spec_l2Field_law (k : Nat) (a1 : Int) (a2 : Int) (a3 : Bool) (x : Bool) (h : spec_l2Field k a1 a2 a3 = some x) : LawV Try.prog 36 [.int .i64 a1, .int .i64 a2, .bool a3] (tvn .bool x) := by
  unfold spec_l2Field at h
  exact law1 (t := .bool) (tyTOk _ _) (E_spec_l2Field_calls k) mixOk f36_okspec_l2Field (nameOk _ _ f36_okspec_l2Field) (by kernel_rfl) h
/-! spec.WordOk -/
noncomputable def E_spec_WordOk (k : Nat) : Env := ⟨ty, fun g => match g with
  | 35 => some (byVal fun ρ l K => match l with
    | [b1, b2, b3] => (b1.as (.int .i64)).bind fun c1 => (b2.as (.int .i64)).bind fun c2 => (b3.as (.int .i64)).bind fun c3 => (spec_l1In k c1 c2 c3).bind fun r => K (tvn .bool r)
    | _ => none)
  | _ => none, fun _ _ => none⟩
noncomputable def spec_WordOk (k : Nat) (a1 : Int) : Option (Bool) :=
  abody (E_spec_WordOk k) (arun Try.prog (E_spec_WordOk k) k) k 37 Try.f37 [.int .i64 a1] [] (fin1 .bool)
theorem spec_WordOk_e (k : Nat) (a1 : Int) : spec_WordOk k a1 =
  bindO (spec_l1In k a1 (-2147483648) 2147483647) fun r1 => (some r1) := by kernel_rfl
theorem E_spec_WordOk_calls (k : Nat) : CallsOk Try.prog (E_spec_WordOk k) (arun Try.prog (E_spec_WordOk k) k) := by
  refine told_run (tyTOk _ _) ?_ (fun run h => regOk (tyTOk _ _) mixOk h) ?_ nameOk k
  · intro g m hg
    simp only [E_spec_WordOk] at hg
    split at hg
    · cases hg
      refine con_byVal fun ρ l K x hm => ?_
      split at hm
      · obtain ⟨c1, h1, hm⟩ := Option.bind_eq_some_iff.1 hm
        obtain ⟨c2, h2, hm⟩ := Option.bind_eq_some_iff.1 hm
        obtain ⟨c3, h3, hm⟩ := Option.bind_eq_some_iff.1 hm
        obtain ⟨r, hr, hm⟩ := Option.bind_eq_some_iff.1 hm
        exact ⟨_, hm, LawV.reads (.cons (.as h1) (.cons (.as h2) (.cons (.as h3) .nil))) (spec_l1In_law k c1 c2 c3 r hr)⟩
      · cases hm
    · cases hg
  · intro g _ r; rfl
theorem f37_okspec_WordOk : Try.prog.funcs[37]? = some Try.f37 := by kernel_rfl
theorem spec_WordOk_law (k : Nat) (a1 : Int) (x : Bool) (h : spec_WordOk k a1 = some x) : LawV Try.prog 37 [.int .i64 a1] (tvn .bool x) := by
  unfold spec_WordOk at h
  exact law1 (t := .bool) (tyTOk _ _) (E_spec_WordOk_calls k) mixOk f37_okspec_WordOk (nameOk _ _ f37_okspec_WordOk) (by kernel_rfl) h
/-! spec.InsOk -/
noncomputable def E_spec_InsOk (k : Nat) : Env := ⟨ty, fun g => match g with
  | 26 => some (byVal fun ρ l K => match l with
    | [b1] => (b1.as (.int .i64)).bind fun c1 => (spec_l2Has k c1).bind fun r => K (tvn (.int .i64) r)
    | _ => none)
  | 35 => some (byVal fun ρ l K => match l with
    | [b1, b2, b3] => (b1.as (.int .i64)).bind fun c1 => (b2.as (.int .i64)).bind fun c2 => (b3.as (.int .i64)).bind fun c3 => (spec_l1In k c1 c2 c3).bind fun r => K (tvn .bool r)
    | _ => none)
  | 36 => some (byVal fun ρ l K => match l with
    | [b1, b2, b3] => (b1.as (.int .i64)).bind fun c1 => (b2.as (.int .i64)).bind fun c2 => (b3.as .bool).bind fun c3 => (spec_l2Field k c1 c2 c3).bind fun r => K (tvn .bool r)
    | _ => none)
  | 37 => some (byVal fun ρ l K => match l with
    | [b1] => (b1.as (.int .i64)).bind fun c1 => (spec_WordOk k c1).bind fun r => K (tvn .bool r)
    | _ => none)
  | 20 => some noCon
  | _ => none, fun f r => match f with | 20 => (match r with | 5 => some [1, 3, 4] | _ => none) | _ => none⟩
noncomputable def spec_InsOk (k : Nat) (a1 : Int × Int × Int × Int × Int × Int × Unit) : Option (Bool) :=
  abody (E_spec_InsOk k) (arun Try.prog (E_spec_InsOk k) k) k 20 Try.f20 [.tv (.pair (.int .i64) (.pair (.int .i64) (.pair (.int .i64) (.pair (.int .i64) (.pair (.int .i64) (.pair (.int .i64) .unit)))))) a1] [] (fin1 .bool)
noncomputable def spec_InsOk.j5 (k : Nat) (x3 : Int) (x4 : Int) (y0_0 : Int × Int × Int × Int × Int × Int × Unit) : Option (Bool) :=
  resume (E_spec_InsOk k) 20 (acall (E_spec_InsOk k) (arun Try.prog (E_spec_InsOk k) k)) k [true, true, true, true] [] (bodyOf Try.f20) ⟨[.undef, .ptr 0 0 0, .undef, .int .i64 x3, .int .i64 x4, .undef, .undef, .undef, .undef, .undef, .undef, .undef, .undef, .undef, .undef, .undef, .undef, .undef, .undef, .undef, .undef, .undef, .undef, .undef, .undef, .undef, .undef, .undef, .undef, .undef, .undef, .undef, .undef, .undef, .undef, .undef, .undef, .undef, .undef, .undef, .undef, .undef, .undef, .undef, .undef, .undef, .undef, .undef, .undef, .undef, .undef, .undef, .undef, .undef, .undef, .undef, .undef, .undef, .undef, .undef, .undef, .undef, .undef, .undef, .undef, .undef, .undef], [some ⟨.raw true 6 (.agg [.int .i64 0, .int .i64 0, .int .i64 0, .int .i64 0, .int .i64 0, .int .i64 0]) [.tv (.pair (.int .i64) (.pair (.int .i64) (.pair (.int .i64) (.pair (.int .i64) (.pair (.int .i64) (.pair (.int .i64) .unit)))))) y0_0], true⟩]⟩ (leave (E_spec_InsOk k) Try.f20 (fin1 .bool))
theorem spec_InsOk.j5_e (k : Nat) (x3 : Int) (x4 : Int) (y0_0 : Int × Int × Int × Int × Int × Int × Unit) : spec_InsOk.j5 k x3 x4 y0_0 =
  bindO (spec_l1In k y0_0.1 1 19) fun r2 => (iteB r2 (bindO (spec_l2Field k y0_0.2.1 5 ((IntKind.wrap .i64 ((BitVec.ofInt (IntKind.bits .i64) x3 &&& BitVec.ofInt (IntKind.bits .i64) 1).toNat : Int)) != 0)) fun r3 => (iteB r3 (bindO (spec_l2Field k y0_0.2.2.1 x4 ((IntKind.wrap .i64 ((BitVec.ofInt (IntKind.bits .i64) x3 &&& BitVec.ofInt (IntKind.bits .i64) 2).toNat : Int)) != 0)) fun r4 => (iteB r4 (bindO (spec_l2Field k y0_0.2.2.2.1 5 ((IntKind.wrap .i64 ((BitVec.ofInt (IntKind.bits .i64) x3 &&& BitVec.ofInt (IntKind.bits .i64) 4).toNat : Int)) != 0)) fun r5 => (iteB r5 (bindO (spec_WordOk k y0_0.2.2.2.2.1) fun r6 => (iteB r6 (iteB (!((IntKind.wrap .i64 ((BitVec.ofInt (IntKind.bits .i64) x3 &&& BitVec.ofInt (IntKind.bits .i64) 8).toNat : Int)) != 0)) (iteB (y0_0.2.2.2.2.1 == 0) (bindO (spec_l2Field k y0_0.2.2.2.2.2.1 60 ((IntKind.wrap .i64 ((BitVec.ofInt (IntKind.bits .i64) x3 &&& BitVec.ofInt (IntKind.bits .i64) 16).toNat : Int)) != 0)) fun r7 => (some r7)) (some false)) (bindO (spec_l2Field k y0_0.2.2.2.2.2.1 60 ((IntKind.wrap .i64 ((BitVec.ofInt (IntKind.bits .i64) x3 &&& BitVec.ofInt (IntKind.bits .i64) 16).toNat : Int)) != 0)) fun r8 => (some r8))) (some false))) (some false))) (some false))) (some false))) (some false)) := by kernel_rfl
theorem spec_InsOk_e (k : Nat) (a1 : Int × Int × Int × Int × Int × Int × Unit) : spec_InsOk k a1 =
  bindO (spec_l2Has k a1.1) fun r1 => (iteB (!(a1.1 == 8)) (iteB (a1.1 == 9) (gate k (spec_InsOk.j5 k r1 6 a1)) (gate k (spec_InsOk.j5 k r1 5 a1))) (gate k (spec_InsOk.j5 k r1 6 a1))) := by kernel_rfl
theorem E_spec_InsOk_calls (k : Nat) : CallsOk Try.prog (E_spec_InsOk k) (arun Try.prog (E_spec_InsOk k) k) := by
  refine told_run (tyTOk _ _) ?_ (fun run h => regOk (tyTOk _ _) mixOk h) ?_ nameOk k
  · intro g m hg
    simp only [E_spec_InsOk] at hg
    split at hg
    · cases hg
      refine con_byVal fun ρ l K x hm => ?_
      split at hm
      · obtain ⟨c1, h1, hm⟩ := Option.bind_eq_some_iff.1 hm
        obtain ⟨r, hr, hm⟩ := Option.bind_eq_some_iff.1 hm
        exact ⟨_, hm, LawV.reads (.cons (.as h1) .nil) (spec_l2Has_law k c1 r hr)⟩
      · cases hm
    · cases hg
      refine con_byVal fun ρ l K x hm => ?_
      split at hm
      · obtain ⟨c1, h1, hm⟩ := Option.bind_eq_some_iff.1 hm
        obtain ⟨c2, h2, hm⟩ := Option.bind_eq_some_iff.1 hm
        obtain ⟨c3, h3, hm⟩ := Option.bind_eq_some_iff.1 hm
        obtain ⟨r, hr, hm⟩ := Option.bind_eq_some_iff.1 hm
        exact ⟨_, hm, LawV.reads (.cons (.as h1) (.cons (.as h2) (.cons (.as h3) .nil))) (spec_l1In_law k c1 c2 c3 r hr)⟩
      · cases hm
    · cases hg
      refine con_byVal fun ρ l K x hm => ?_
      split at hm
      · obtain ⟨c1, h1, hm⟩ := Option.bind_eq_some_iff.1 hm
        obtain ⟨c2, h2, hm⟩ := Option.bind_eq_some_iff.1 hm
        obtain ⟨c3, h3, hm⟩ := Option.bind_eq_some_iff.1 hm
        obtain ⟨r, hr, hm⟩ := Option.bind_eq_some_iff.1 hm
        exact ⟨_, hm, LawV.reads (.cons (.as h1) (.cons (.as h2) (.cons (.as h3) .nil))) (spec_l2Field_law k c1 c2 c3 r hr)⟩
      · cases hm
    · cases hg
      refine con_byVal fun ρ l K x hm => ?_
      split at hm
      · obtain ⟨c1, h1, hm⟩ := Option.bind_eq_some_iff.1 hm
        obtain ⟨r, hr, hm⟩ := Option.bind_eq_some_iff.1 hm
        exact ⟨_, hm, LawV.reads (.cons (.as h1) .nil) (spec_WordOk_law k c1 r hr)⟩
      · cases hm
    · cases hg; exact noCon_ok
    · cases hg
  · intro g hg r
    by_cases h : g = 20
    · subst h; simp [E_spec_InsOk] at hg
    · simp [E_spec_InsOk, h]
theorem f20_okspec_InsOk : Try.prog.funcs[20]? = some Try.f20 := by kernel_rfl
theorem spec_InsOk_law (k : Nat) (a1 : Int × Int × Int × Int × Int × Int × Unit) (x : Bool) (h : spec_InsOk k a1 = some x) : LawV Try.prog 20 [.tv (.pair (.int .i64) (.pair (.int .i64) (.pair (.int .i64) (.pair (.int .i64) (.pair (.int .i64) (.pair (.int .i64) .unit)))))) a1] (tvn .bool x) := by
  unfold spec_InsOk at h
  exact law1 (t := .bool) (tyTOk _ _) (E_spec_InsOk_calls k) mixOk f20_okspec_InsOk (nameOk _ _ f20_okspec_InsOk) (by kernel_rfl) h
/-! laws.FnInsNamed -/
noncomputable def E_laws_FnInsNamed (k : Nat) : Env := ⟨ty, fun g => match g with
  | 12 => some (byVal fun ρ l K => match l with
    | [b1] => (b1.as (.row (.int .u8))).bind fun c1 => (laws_big k c1).bind fun r => K (tvn .bool r)
    | _ => none)
  | 13 => some (byVal fun ρ l K => match l with
    | [b1] => (b1.as (.row (.int .u8))).bind fun c1 => (spec_DrawReads k c1).bind fun r => K (tvn (.pair (.int .i64) (.pair (.int .i64) (.pair (.int .i64) (.pair (.int .i64) (.pair (.int .i64) (.pair (.int .i64) .unit)))))) r)
    | _ => none)
  | 8 => some (byVal fun ρ l K => match l with
    | [b1] => (b1.as (.pair (.int .i64) (.pair (.int .i64) (.pair (.int .i64) (.pair (.int .i64) (.pair (.int .i64) (.pair (.int .i64) .unit))))))).bind fun c1 => (impl_Reads k c1).bind fun r => K (tvn (.row (.int .i64)) r)
    | _ => none)
  | 14 => some (byVal fun ρ l K => match l with
    | [b1] => (b1.as (.row (.int .u8))).bind fun c1 => (spec_DrawWrites k c1).bind fun r => K (tvn (.pair (.int .i64) (.pair (.int .i64) (.pair (.int .i64) (.pair (.int .i64) (.pair (.int .i64) (.pair (.int .i64) .unit)))))) r)
    | _ => none)
  | 15 => some (byVal fun ρ l K => match l with
    | [b1] => (b1.as (.pair (.int .i64) (.pair (.int .i64) (.pair (.int .i64) (.pair (.int .i64) (.pair (.int .i64) (.pair (.int .i64) .unit))))))).bind fun c1 => (impl_Writes k c1).bind fun r => K (tvn (.int .i64) r)
    | _ => none)
  | 16 => some (byVal fun ρ l K => match l with
    | [b1] => (b1.as (.row (.int .u8))).bind fun c1 => (spec_DrawInsOk k c1).bind fun r => K (tvn (.pair (.int .i64) (.pair (.int .i64) (.pair (.int .i64) (.pair (.int .i64) (.pair (.int .i64) (.pair (.int .i64) .unit)))))) r)
    | _ => none)
  | 6 => some (byVal fun ρ l K => match l with
    | [b1] => (b1.as (.pair (.int .i64) (.pair (.int .i64) (.pair (.int .i64) (.pair (.int .i64) (.pair (.int .i64) (.pair (.int .i64) .unit))))))).bind fun c1 => (spec_Reads k c1).bind fun r => K (tvn (.row (.int .i64)) r)
    | _ => none)
  | 17 => some (byVal fun ρ l K => match l with
    | [b1, b2] => (b1.as (.row (.int .i64))).bind fun c1 => (b2.as (.row (.int .i64))).bind fun c2 => (laws_sameInts k c1 c2).bind fun r => K (tvn .bool r)
    | _ => none)
  | 18 => some (byVal fun ρ l K => match l with
    | [b1] => (b1.as (.pair (.int .i64) (.pair (.int .i64) (.pair (.int .i64) (.pair (.int .i64) (.pair (.int .i64) (.pair (.int .i64) .unit))))))).bind fun c1 => (spec_Writes k c1).bind fun r => K (tvn (.int .i64) r)
    | _ => none)
  | 19 => some (byVal fun ρ l K => match l with
    | [b1] => (b1.as (.pair (.int .i64) (.pair (.int .i64) (.pair (.int .i64) (.pair (.int .i64) (.pair (.int .i64) (.pair (.int .i64) .unit))))))).bind fun c1 => (impl_InsOk k c1).bind fun r => K (tvn .bool r)
    | _ => none)
  | 20 => some (byVal fun ρ l K => match l with
    | [b1] => (b1.as (.pair (.int .i64) (.pair (.int .i64) (.pair (.int .i64) (.pair (.int .i64) (.pair (.int .i64) (.pair (.int .i64) .unit))))))).bind fun c1 => (spec_InsOk k c1).bind fun r => K (tvn .bool r)
    | _ => none)
  | 4 => some noCon
  | _ => none, fun f r => match f with | 4 => (match r with | 10 => some [4, 5, 6] | 11 => some [4, 5, 6, 8] | _ => none) | _ => none⟩
noncomputable def laws_FnInsNamed (k : Nat) (a1 : List Int) : Option (Bool) :=
  abody (E_laws_FnInsNamed k) (arun Try.prog (E_laws_FnInsNamed k) k) k 4 Try.f4 [.tv (.row (.int .u8)) a1] [] (fin1 .bool)
noncomputable def laws_FnInsNamed.j10 (k : Nat) (x4 : List Int) (x6 : Int) (y0_0 : Int × Int × Int × Int × Int × Int × Unit) : Option (Bool) :=
  resume (E_laws_FnInsNamed k) 4 (acall (E_laws_FnInsNamed k) (arun Try.prog (E_laws_FnInsNamed k) k)) k [true, true, true, true, true, true, true, true] [] (bodyOf Try.f4) ⟨[.undef, .undef, .undef, .undef, .tv (.row (.int .i64)) x4, .ptr 0 0 0, .int .i64 x6, .undef, .undef, .undef, .undef, .undef, .undef, .undef, .undef, .undef, .undef, .undef, .undef, .undef, .undef, .undef, .undef, .undef, .undef, .undef, .undef, .undef, .undef, .undef, .undef, .undef, .undef, .undef, .undef, .undef, .undef, .undef, .undef, .undef, .undef, .undef, .undef, .undef, .undef, .undef, .undef, .undef, .undef, .undef, .undef, .undef, .undef, .undef, .undef, .undef, .undef, .undef, .undef, .undef, .undef, .undef, .undef, .undef, .undef, .undef, .undef, .undef, .undef, .undef, .undef, .undef, .undef, .undef, .undef, .undef, .undef, .undef, .undef, .undef, .undef], [some ⟨.raw true 6 (.agg [.int .i64 0, .int .i64 0, .int .i64 0, .int .i64 0, .int .i64 0, .int .i64 0]) [.tv (.pair (.int .i64) (.pair (.int .i64) (.pair (.int .i64) (.pair (.int .i64) (.pair (.int .i64) (.pair (.int .i64) .unit)))))) y0_0], true⟩]⟩ (leave (E_laws_FnInsNamed k) Try.f4 (fin1 .bool))
noncomputable def laws_FnInsNamed.l11 (k n : Nat) (x4 : List Int) (x6 : Int) (x8 : Int) (y0_0 : Int × Int × Int × Int × Int × Int × Unit) : Option (Bool) :=
  resume (E_laws_FnInsNamed k) 4 (acall (E_laws_FnInsNamed k) (arun Try.prog (E_laws_FnInsNamed k) k)) k [true, true, true, true, true, true, true, true, false, true, true] [n] (bodyOf Try.f4) ⟨[.undef, .undef, .undef, .undef, .tv (.row (.int .i64)) x4, .ptr 0 0 0, .int .i64 x6, .undef, .int .i64 x8, .undef, .undef, .undef, .undef, .undef, .undef, .undef, .undef, .undef, .undef, .undef, .undef, .undef, .undef, .undef, .undef, .undef, .undef, .undef, .undef, .undef, .undef, .undef, .undef, .undef, .undef, .undef, .undef, .undef, .undef, .undef, .undef, .undef, .undef, .undef, .undef, .undef, .undef, .undef, .undef, .undef, .undef, .undef, .undef, .undef, .undef, .undef, .undef, .undef, .undef, .undef, .undef, .undef, .undef, .undef, .undef, .undef, .undef, .undef, .undef, .undef, .undef, .undef, .undef, .undef, .undef, .undef, .undef, .undef, .undef, .undef, .undef], [some ⟨.raw true 6 (.agg [.int .i64 0, .int .i64 0, .int .i64 0, .int .i64 0, .int .i64 0, .int .i64 0]) [.tv (.pair (.int .i64) (.pair (.int .i64) (.pair (.int .i64) (.pair (.int .i64) (.pair (.int .i64) (.pair (.int .i64) .unit)))))) y0_0], true⟩]⟩ (leave (E_laws_FnInsNamed k) Try.f4 (fin1 .bool))
theorem laws_FnInsNamed.j10_e (k : Nat) (x4 : List Int) (x6 : Int) (y0_0 : Int × Int × Int × Int × Int × Int × Unit) : laws_FnInsNamed.j10 k x4 x6 y0_0 =
  laws_FnInsNamed.l11 k k x4 x6 0 y0_0 := by kernel_rfl
theorem laws_FnInsNamed.l11_0 (k : Nat) (x4 : List Int) (x6 : Int) (x8 : Int) (y0_0 : Int × Int × Int × Int × Int × Int × Unit) : laws_FnInsNamed.l11 k 0 x4 x6 x8 y0_0 = none := by kernel_rfl
theorem laws_FnInsNamed.l11_s (k n : Nat) (x4 : List Int) (x6 : Int) (x8 : Int) (y0_0 : Int × Int × Int × Int × Int × Int × Unit) : laws_FnInsNamed.l11 k (n + 1) x4 x6 x8 y0_0 =
  iteB (decide (x8 < ((List.length x4) : Int))) (iteB (decide (0 ≤ x8)) (iteB (decide (x8 < ((List.length x4) : Int))) (iteB (!(decide (List.getD x4 (Int.toNat x8) 0 < 0))) (iteB (decide (0 ≤ x8)) (iteB (decide (x8 < ((List.length x4) : Int))) (iteB (!(decide (List.getD x4 (Int.toNat x8) 0 ≥ 6))) (iteB (decide (x8 > 0)) (iteB (decide (0 ≤ IntKind.wrap .i64 (x8 - 1))) (iteB (decide (IntKind.wrap .i64 (x8 - 1) < ((List.length x4) : Int))) (iteB (decide (0 ≤ x8)) (iteB (decide (x8 < ((List.length x4) : Int))) (iteB (decide (List.getD x4 (Int.toNat (IntKind.wrap .i64 (x8 - 1))) 0 ≥ List.getD x4 (Int.toNat x8) 0)) (some false) (laws_FnInsNamed.l11 k n x4 x6 (IntKind.wrap .i64 (x8 + 1)) y0_0)) (none)) (none)) (none)) (none)) (laws_FnInsNamed.l11 k n x4 x6 (IntKind.wrap .i64 (x8 + 1)) y0_0)) (some false)) (none)) (none)) (some false)) (none)) (none)) (iteB (!(x6 == (-1))) (some (x6 == y0_0.2.1)) (some true)) := by kernel_rfl
theorem laws_FnInsNamed_e (k : Nat) (a1 : List Int) : laws_FnInsNamed k a1 =
  bindO (laws_big k a1) fun r1 => (iteB r1 (some true) (bindO (spec_DrawReads k a1) fun r2 => (bindO (impl_Reads k r2) fun r3 => (bindO (spec_DrawWrites k a1) fun r4 => (bindO (impl_Writes k r4) fun r5 => (bindO (spec_DrawInsOk k a1) fun r6 => (bindO (spec_Reads k r2) fun r7 => (bindO (laws_sameInts k r3 r7) fun r8 => (iteB (!(!r8)) (bindO (spec_Writes k r4) fun r9 => (iteB (!(r5 != r9)) (bindO (impl_InsOk k r6) fun r10 => (bindO (spec_InsOk k r6) fun r11 => (iteB (!(r10 == r11)) (some false) (gate k (laws_FnInsNamed.j10 k r3 r5 r4))))) (some false))) (some false)))))))))) := by kernel_rfl
theorem E_laws_FnInsNamed_calls (k : Nat) : CallsOk Try.prog (E_laws_FnInsNamed k) (arun Try.prog (E_laws_FnInsNamed k) k) := by
  refine told_run (tyTOk _ _) ?_ (fun run h => regOk (tyTOk _ _) mixOk h) ?_ nameOk k
  · intro g m hg
    simp only [E_laws_FnInsNamed] at hg
    split at hg
    · cases hg
      refine con_byVal fun ρ l K x hm => ?_
      split at hm
      · obtain ⟨c1, h1, hm⟩ := Option.bind_eq_some_iff.1 hm
        obtain ⟨r, hr, hm⟩ := Option.bind_eq_some_iff.1 hm
        exact ⟨_, hm, LawV.reads (.cons (.as h1) .nil) (laws_big_law k c1 r hr)⟩
      · cases hm
    · cases hg
      refine con_byVal fun ρ l K x hm => ?_
      split at hm
      · obtain ⟨c1, h1, hm⟩ := Option.bind_eq_some_iff.1 hm
        obtain ⟨r, hr, hm⟩ := Option.bind_eq_some_iff.1 hm
        exact ⟨_, hm, LawV.reads (.cons (.as h1) .nil) (spec_DrawReads_law k c1 r hr)⟩
      · cases hm
    · cases hg
      refine con_byVal fun ρ l K x hm => ?_
      split at hm
      · obtain ⟨c1, h1, hm⟩ := Option.bind_eq_some_iff.1 hm
        obtain ⟨r, hr, hm⟩ := Option.bind_eq_some_iff.1 hm
        exact ⟨_, hm, LawV.reads (.cons (.as h1) .nil) (impl_Reads_law k c1 r hr)⟩
      · cases hm
    · cases hg
      refine con_byVal fun ρ l K x hm => ?_
      split at hm
      · obtain ⟨c1, h1, hm⟩ := Option.bind_eq_some_iff.1 hm
        obtain ⟨r, hr, hm⟩ := Option.bind_eq_some_iff.1 hm
        exact ⟨_, hm, LawV.reads (.cons (.as h1) .nil) (spec_DrawWrites_law k c1 r hr)⟩
      · cases hm
    · cases hg
      refine con_byVal fun ρ l K x hm => ?_
      split at hm
      · obtain ⟨c1, h1, hm⟩ := Option.bind_eq_some_iff.1 hm
        obtain ⟨r, hr, hm⟩ := Option.bind_eq_some_iff.1 hm
        exact ⟨_, hm, LawV.reads (.cons (.as h1) .nil) (impl_Writes_law k c1 r hr)⟩
      · cases hm
    · cases hg
      refine con_byVal fun ρ l K x hm => ?_
      split at hm
      · obtain ⟨c1, h1, hm⟩ := Option.bind_eq_some_iff.1 hm
        obtain ⟨r, hr, hm⟩ := Option.bind_eq_some_iff.1 hm
        exact ⟨_, hm, LawV.reads (.cons (.as h1) .nil) (spec_DrawInsOk_law k c1 r hr)⟩
      · cases hm
    · cases hg
      refine con_byVal fun ρ l K x hm => ?_
      split at hm
      · obtain ⟨c1, h1, hm⟩ := Option.bind_eq_some_iff.1 hm
        obtain ⟨r, hr, hm⟩ := Option.bind_eq_some_iff.1 hm
        exact ⟨_, hm, LawV.reads (.cons (.as h1) .nil) (spec_Reads_law k c1 r hr)⟩
      · cases hm
    · cases hg
      refine con_byVal fun ρ l K x hm => ?_
      split at hm
      · obtain ⟨c1, h1, hm⟩ := Option.bind_eq_some_iff.1 hm
        obtain ⟨c2, h2, hm⟩ := Option.bind_eq_some_iff.1 hm
        obtain ⟨r, hr, hm⟩ := Option.bind_eq_some_iff.1 hm
        exact ⟨_, hm, LawV.reads (.cons (.as h1) (.cons (.as h2) .nil)) (laws_sameInts_law k c1 c2 r hr)⟩
      · cases hm
    · cases hg
      refine con_byVal fun ρ l K x hm => ?_
      split at hm
      · obtain ⟨c1, h1, hm⟩ := Option.bind_eq_some_iff.1 hm
        obtain ⟨r, hr, hm⟩ := Option.bind_eq_some_iff.1 hm
        exact ⟨_, hm, LawV.reads (.cons (.as h1) .nil) (spec_Writes_law k c1 r hr)⟩
      · cases hm
    · cases hg
      refine con_byVal fun ρ l K x hm => ?_
      split at hm
      · obtain ⟨c1, h1, hm⟩ := Option.bind_eq_some_iff.1 hm
        obtain ⟨r, hr, hm⟩ := Option.bind_eq_some_iff.1 hm
        exact ⟨_, hm, LawV.reads (.cons (.as h1) .nil) (impl_InsOk_law k c1 r hr)⟩
      · cases hm
    · cases hg
      refine con_byVal fun ρ l K x hm => ?_
      split at hm
      · obtain ⟨c1, h1, hm⟩ := Option.bind_eq_some_iff.1 hm
        obtain ⟨r, hr, hm⟩ := Option.bind_eq_some_iff.1 hm
        exact ⟨_, hm, LawV.reads (.cons (.as h1) .nil) (spec_InsOk_law k c1 r hr)⟩
      · cases hm
    · cases hg; exact noCon_ok
    · cases hg
  · intro g hg r
    by_cases h : g = 4
    · subst h; simp [E_laws_FnInsNamed] at hg
    · simp [E_laws_FnInsNamed, h]
theorem f4_oklaws_FnInsNamed : Try.prog.funcs[4]? = some Try.f4 := by kernel_rfl
theorem laws_FnInsNamed_law (k : Nat) (a1 : List Int) (x : Bool) (h : laws_FnInsNamed k a1 = some x) : LawV Try.prog 4 [.tv (.row (.int .u8)) a1] (tvn .bool x) := by
  unfold laws_FnInsNamed at h
  exact law1 (t := .bool) (tyTOk _ _) (E_laws_FnInsNamed_calls k) mixOk f4_oklaws_FnInsNamed (nameOk _ _ f4_oklaws_FnInsNamed) (by kernel_rfl) h
end Go.Proofs.Ytkingfejeangbaa.XFnInsNamed
