/- Functions of the program as runs of the interpreter: equations, and a law for each. -/
import Derived.Test.YtajlenpookikoaaProg
import Derived.Test.YtajlenpookikoaaChecked
import Derived.KernelRfl
import Derived.Eval
import Derived.Test.YtajlenpookikoaaATyOk
import Derived.Test.YtajlenpookikoaaAS38
import Derived.Test.YtajlenpookikoaaAS41
import Derived.Test.YtajlenpookikoaaAMFnExactWorldNew2
open Go Go.AM Go.AMx Go.Proofs
namespace Go.Proofs.Ytajlenpookikoaa.XFnExactWorldNew
set_option linter.unusedVariables false
set_option linter.unusedSimpArgs false
/-! impl.labelAt -/
noncomputable def E_impl_labelAt (k : Nat) : Env := ⟨ty, fun g => match g with
  | 83 => some (byVal fun ρ l K => match l with
    | [b1, .fn 84 [.bp [b2] 0]] => (b1.as (.row tA4)).bind fun c1 => (b2.as (.int .i64)).bind fun c2 => (slices_IndexFunc_impl_Tac__impl_labelAt_1 k c1 c2).bind fun r => K (tvn (.int .i64) r)
    | _ => none)
  | _ => none, fun _ _ => none⟩
noncomputable def impl_labelAt (k : Nat) (a1 : List (Int × Int × Int × Int × Int × ByteArray × (List Int) × Unit)) (a2 : Int) : Option (Int) :=
  abody (E_impl_labelAt k) (arun Try.prog (E_impl_labelAt k) k) k 62 Try.f62 [.tv (.row tA4) a1, .int .i64 a2] [] (fin1 (.int .i64))
theorem impl_labelAt_e (k : Nat) (a1 : List (Int × Int × Int × Int × Int × ByteArray × (List Int) × Unit)) (a2 : Int) : impl_labelAt k a1 a2 =
  bindO (slices_IndexFunc_impl_Tac__impl_labelAt_1 k a1 a2) fun r1 => (some r1) := by kernel_rfl
theorem E_impl_labelAt_calls (k : Nat) : CallsOk Try.prog (E_impl_labelAt k) (arun Try.prog (E_impl_labelAt k) k) := by
  refine told_run (tyTOk _ _) ?_ (fun run h => regOk (tyTOk _ _) mixOk h) ?_ nameOk k
  · intro g m hg
    simp only [E_impl_labelAt] at hg
    split at hg
    · cases hg
      refine con_byVal fun ρ l K x hm => ?_
      split at hm
      · obtain ⟨c1, h1, hm⟩ := Option.bind_eq_some_iff.1 hm
        obtain ⟨c2, h2, hm⟩ := Option.bind_eq_some_iff.1 hm
        obtain ⟨r, hr, hm⟩ := Option.bind_eq_some_iff.1 hm
        exact ⟨_, hm, LawV.reads (.cons (.as h1) (.cons (.fn (.cons (.bp (.cons (.as h2) .nil)) .nil)) .nil)) (slices_IndexFunc_impl_Tac__impl_labelAt_1_law k c1 c2 r hr)⟩
      · cases hm
    · cases hg
  · intro g _ r; rfl
theorem f62_okimpl_labelAt : Try.prog.funcs[62]? = some Try.f62 := by kernel_rfl
theorem impl_labelAt_law (k : Nat) (a1 : List (Int × Int × Int × Int × Int × ByteArray × (List Int) × Unit)) (a2 : Int) (x : Int) (h : impl_labelAt k a1 a2 = some x) : LawV Try.prog 62 [.tv (.row tA4) a1, .int .i64 a2] (tvn (.int .i64) x) := by
  unfold impl_labelAt at h
  exact law1 (t := (.int .i64)) (tyTOk _ _) (E_impl_labelAt_calls k) mixOk f62_okimpl_labelAt (nameOk _ _ f62_okimpl_labelAt) (by kernel_rfl) h
/-! impl.ends -/
noncomputable def E_impl_ends (k : Nat) : Env := ⟨ty, fun _ => none, fun _ _ => none⟩
noncomputable def impl_ends (k : Nat) (a1 : Int) : Option (Bool) :=
  abody (E_impl_ends k) (arun Try.prog (E_impl_ends k) k) k 63 Try.f63 [.int .i64 a1] [] (fin1 .bool)
theorem impl_ends_e (k : Nat) (a1 : Int) : impl_ends k a1 =
  iteB (!(a1 == 12)) (iteB (!(a1 == 9)) (some (a1 == 28)) (some true)) (some true) := by kernel_rfl
theorem E_impl_ends_calls (k : Nat) : CallsOk Try.prog (E_impl_ends k) (arun Try.prog (E_impl_ends k) k) := by
  refine told_run (tyTOk _ _) ?_ (fun run h => regOk (tyTOk _ _) mixOk h) ?_ nameOk k
  · intro g m hg
    cases hg
  · intro g _ r; rfl
theorem f63_okimpl_ends : Try.prog.funcs[63]? = some Try.f63 := by kernel_rfl
theorem impl_ends_law (k : Nat) (a1 : Int) (x : Bool) (h : impl_ends k a1 = some x) : LawV Try.prog 63 [.int .i64 a1] (tvn .bool x) := by
  unfold impl_ends at h
  exact law1 (t := .bool) (tyTOk _ _) (E_impl_ends_calls k) mixOk f63_okimpl_ends (nameOk _ _ f63_okimpl_ends) (by kernel_rfl) h
/-! impl.UnitOk -/
noncomputable def E_impl_UnitOk (k : Nat) : Env := ⟨ty, fun g => match g with
  | 60 => some (byVal fun ρ l K => match l with
    | [b1, b2, b3] => (b1.as (.int .i64)).bind fun c1 => (b2.as (.int .i64)).bind fun c2 => (b3.as (.int .i64)).bind fun c3 => (impl_within k c1 c2 c3).bind fun r => K (tvn .bool r)
    | _ => none)
  | 61 => some (byVal fun ρ l K => match l with
    | [b1, b2] => (b1.as tA4).bind fun c1 => (b2.as (.int .i64)).bind fun c2 => (impl_tacOk k c1 c2).bind fun r => K (tvn .bool r)
    | _ => none)
  | 62 => some (byVal fun ρ l K => match l with
    | [b1, b2] => (b1.as (.row tA4)).bind fun c1 => (b2.as (.int .i64)).bind fun c2 => (impl_labelAt k c1 c2).bind fun r => K (tvn (.int .i64) r)
    | _ => none)
  | 63 => some (byVal fun ρ l K => match l with
    | [b1] => (b1.as (.int .i64)).bind fun c1 => (impl_ends k c1).bind fun r => K (tvn .bool r)
    | _ => none)
  | 42 => some noCon
  | _ => none, fun f r => match f with | 42 => (match r with | 3 => some [1] | 4 => some [1, 26, 27, 28] | _ => none) | _ => none⟩
noncomputable def impl_UnitOk (k : Nat) (a1 : ByteArray × Int × Int × (List (Int × Int × Int × Int × Int × ByteArray × (List Int) × Unit)) × Unit) : Option (Bool) :=
  abody (E_impl_UnitOk k) (arun Try.prog (E_impl_UnitOk k) k) k 42 Try.f42 [.tv tA5 a1] [] (fin1 .bool)
noncomputable def impl_UnitOk.j3 (k : Nat) (y0_0 : ByteArray × Int × Int × (List (Int × Int × Int × Int × Int × ByteArray × (List Int) × Unit)) × Unit) : Option (Bool) :=
  resume (E_impl_UnitOk k) 42 (acall (E_impl_UnitOk k) (arun Try.prog (E_impl_UnitOk k) k)) k [true, true] [] (bodyOf Try.f42) ⟨[.undef, .ptr 0 0 0, .undef, .undef, .undef, .undef, .undef, .undef, .undef, .undef, .undef, .undef, .undef, .undef, .undef, .undef, .undef, .undef, .undef, .undef, .undef, .undef, .undef, .undef, .undef, .undef, .undef, .undef, .undef, .undef, .undef, .undef, .undef, .undef, .undef, .undef, .undef, .undef, .undef, .undef, .undef, .undef, .undef, .undef, .undef, .undef, .undef, .undef, .undef, .undef, .undef, .undef, .undef, .undef, .undef, .undef, .undef, .undef, .undef, .undef, .undef, .undef, .undef, .undef, .undef, .undef, .undef, .undef, .undef, .undef, .undef, .undef, .undef, .undef, .undef, .undef, .undef, .undef, .undef, .undef, .undef, .undef, .undef, .undef, .undef, .undef], [some ⟨.raw true 4 (.agg [.str ByteArray.empty, .int .i64 0, .int .i64 0, .nils]) [.tv tA5 y0_0], true⟩]⟩ (leave (E_impl_UnitOk k) Try.f42 (fin1 .bool))
noncomputable def impl_UnitOk.l4 (k n : Nat) (x26 : List (Int × Int × Int × Int × Int × ByteArray × (List Int) × Unit)) (x27 : Int) (x28 : Int) (y0_0 : ByteArray × Int × Int × (List (Int × Int × Int × Int × Int × ByteArray × (List Int) × Unit)) × Unit) : Option (Bool) :=
  resume (E_impl_UnitOk k) 42 (acall (E_impl_UnitOk k) (arun Try.prog (E_impl_UnitOk k) k)) k [true, true, false, true, true] [n] (bodyOf Try.f42) ⟨[.undef, .ptr 0 0 0, .undef, .undef, .undef, .undef, .undef, .undef, .undef, .undef, .undef, .undef, .undef, .undef, .undef, .undef, .undef, .undef, .undef, .undef, .undef, .undef, .undef, .undef, .undef, .undef, .tv (.row tA4) x26, .int .i64 x27, .int .i64 x28, .undef, .undef, .undef, .undef, .undef, .undef, .undef, .undef, .undef, .undef, .undef, .undef, .undef, .undef, .undef, .undef, .undef, .undef, .undef, .undef, .undef, .undef, .undef, .undef, .undef, .undef, .undef, .undef, .undef, .undef, .undef, .undef, .undef, .undef, .undef, .undef, .undef, .undef, .undef, .undef, .undef, .undef, .undef, .undef, .undef, .undef, .undef, .undef, .undef, .undef, .undef, .undef, .undef, .undef, .undef, .undef, .undef], [some ⟨.raw true 4 (.agg [.str ByteArray.empty, .int .i64 0, .int .i64 0, .nils]) [.tv tA5 y0_0], true⟩]⟩ (leave (E_impl_UnitOk k) Try.f42 (fin1 .bool))
theorem impl_UnitOk.j3_e (k : Nat) (y0_0 : ByteArray × Int × Int × (List (Int × Int × Int × Int × Int × ByteArray × (List Int) × Unit)) × Unit) : impl_UnitOk.j3 k y0_0 =
  impl_UnitOk.l4 k k y0_0.2.2.2.1 ((List.length y0_0.2.2.2.1) : Int) 0 y0_0 := by kernel_rfl
theorem impl_UnitOk.l4_0 (k : Nat) (x26 : List (Int × Int × Int × Int × Int × ByteArray × (List Int) × Unit)) (x27 : Int) (x28 : Int) (y0_0 : ByteArray × Int × Int × (List (Int × Int × Int × Int × Int × ByteArray × (List Int) × Unit)) × Unit) : impl_UnitOk.l4 k 0 x26 x27 x28 y0_0 = none := by kernel_rfl
theorem impl_UnitOk.l4_s (k n : Nat) (x26 : List (Int × Int × Int × Int × Int × ByteArray × (List Int) × Unit)) (x27 : Int) (x28 : Int) (y0_0 : ByteArray × Int × Int × (List (Int × Int × Int × Int × Int × ByteArray × (List Int) × Unit)) × Unit) : impl_UnitOk.l4 k (n + 1) x26 x27 x28 y0_0 =
  iteB (decide (x28 < x27)) (iteB (decide (0 ≤ x28)) (iteB (decide (x28 < ((List.length x26) : Int))) (bindO (impl_tacOk k (List.getD x26 (Int.toNat x28) (Ty.dflt tA4)) y0_0.2.2.1) fun r4 => (iteB (!r4) (some false) (iteB (((List.getD x26 (Int.toNat x28) (Ty.dflt tA4)).1) == 8) (bindO (impl_within k ((((((List.getD x26 (Int.toNat x28) (Ty.dflt tA4)).2).2).2).2).1) 0 900) fun r5 => (iteB (!(!r5)) (bindO (impl_labelAt k y0_0.2.2.2.1 ((((((List.getD x26 (Int.toNat x28) (Ty.dflt tA4)).2).2).2).2).1)) fun r6 => (iteB (r6 != x28) (some false) (iteB (!(((List.getD x26 (Int.toNat x28) (Ty.dflt tA4)).1) == 9)) (iteB (((List.getD x26 (Int.toNat x28) (Ty.dflt tA4)).1) == 10) (bindO (impl_labelAt k y0_0.2.2.2.1 ((((((List.getD x26 (Int.toNat x28) (Ty.dflt tA4)).2).2).2).2).1)) fun r7 => (iteB (decide (r7 < 0)) (some false) (impl_UnitOk.l4 k n x26 x27 (IntKind.wrap .i64 (x28 + 1)) y0_0))) (impl_UnitOk.l4 k n x26 x27 (IntKind.wrap .i64 (x28 + 1)) y0_0)) (bindO (impl_labelAt k y0_0.2.2.2.1 ((((((List.getD x26 (Int.toNat x28) (Ty.dflt tA4)).2).2).2).2).1)) fun r8 => (iteB (decide (r8 < 0)) (some false) (impl_UnitOk.l4 k n x26 x27 (IntKind.wrap .i64 (x28 + 1)) y0_0)))))) (some false))) (iteB (!(((List.getD x26 (Int.toNat x28) (Ty.dflt tA4)).1) == 9)) (iteB (((List.getD x26 (Int.toNat x28) (Ty.dflt tA4)).1) == 10) (bindO (impl_labelAt k y0_0.2.2.2.1 ((((((List.getD x26 (Int.toNat x28) (Ty.dflt tA4)).2).2).2).2).1)) fun r9 => (iteB (decide (r9 < 0)) (some false) (impl_UnitOk.l4 k n x26 x27 (IntKind.wrap .i64 (x28 + 1)) y0_0))) (impl_UnitOk.l4 k n x26 x27 (IntKind.wrap .i64 (x28 + 1)) y0_0)) (bindO (impl_labelAt k y0_0.2.2.2.1 ((((((List.getD x26 (Int.toNat x28) (Ty.dflt tA4)).2).2).2).2).1)) fun r10 => (iteB (decide (r10 < 0)) (some false) (impl_UnitOk.l4 k n x26 x27 (IntKind.wrap .i64 (x28 + 1)) y0_0))))))) (none)) (none)) (iteB (decide (0 ≤ IntKind.wrap .i64 (((List.length y0_0.2.2.2.1) : Int) - 1))) (iteB (decide (IntKind.wrap .i64 (((List.length y0_0.2.2.2.1) : Int) - 1) < ((List.length y0_0.2.2.2.1) : Int))) (bindO (impl_ends k ((List.getD y0_0.2.2.2.1 (Int.toNat (IntKind.wrap .i64 (((List.length y0_0.2.2.2.1) : Int) - 1))) (Ty.dflt tA4)).1)) fun r11 => (some r11)) (none)) (none)) := by kernel_rfl
theorem impl_UnitOk_e (k : Nat) (a1 : ByteArray × Int × Int × (List (Int × Int × Int × Int × Int × ByteArray × (List Int) × Unit)) × Unit) : impl_UnitOk k a1 =
  bindO (impl_within k a1.2.2.1 0 250) fun r1 => (iteB (!(!r1)) (bindO (impl_within k a1.2.1 0 (mn 4 a1.2.2.1)) fun r2 => (iteB (!(!r2)) (bindO (impl_within k ((List.length a1.2.2.2.1) : Int) 1 900) fun r3 => (iteB (!r3) (some false) (gate k (impl_UnitOk.j3 k a1)))) (some false))) (some false)) := by kernel_rfl
theorem E_impl_UnitOk_calls (k : Nat) : CallsOk Try.prog (E_impl_UnitOk k) (arun Try.prog (E_impl_UnitOk k) k) := by
  refine told_run (tyTOk _ _) ?_ (fun run h => regOk (tyTOk _ _) mixOk h) ?_ nameOk k
  · intro g m hg
    simp only [E_impl_UnitOk] at hg
    split at hg
    · cases hg
      refine con_byVal fun ρ l K x hm => ?_
      split at hm
      · obtain ⟨c1, h1, hm⟩ := Option.bind_eq_some_iff.1 hm
        obtain ⟨c2, h2, hm⟩ := Option.bind_eq_some_iff.1 hm
        obtain ⟨c3, h3, hm⟩ := Option.bind_eq_some_iff.1 hm
        obtain ⟨r, hr, hm⟩ := Option.bind_eq_some_iff.1 hm
        exact ⟨_, hm, LawV.reads (.cons (.as h1) (.cons (.as h2) (.cons (.as h3) .nil))) (impl_within_law k c1 c2 c3 r hr)⟩
      · cases hm
    · cases hg
      refine con_byVal fun ρ l K x hm => ?_
      split at hm
      · obtain ⟨c1, h1, hm⟩ := Option.bind_eq_some_iff.1 hm
        obtain ⟨c2, h2, hm⟩ := Option.bind_eq_some_iff.1 hm
        obtain ⟨r, hr, hm⟩ := Option.bind_eq_some_iff.1 hm
        exact ⟨_, hm, LawV.reads (.cons (.as h1) (.cons (.as h2) .nil)) (impl_tacOk_law k c1 c2 r hr)⟩
      · cases hm
    · cases hg
      refine con_byVal fun ρ l K x hm => ?_
      split at hm
      · obtain ⟨c1, h1, hm⟩ := Option.bind_eq_some_iff.1 hm
        obtain ⟨c2, h2, hm⟩ := Option.bind_eq_some_iff.1 hm
        obtain ⟨r, hr, hm⟩ := Option.bind_eq_some_iff.1 hm
        exact ⟨_, hm, LawV.reads (.cons (.as h1) (.cons (.as h2) .nil)) (impl_labelAt_law k c1 c2 r hr)⟩
      · cases hm
    · cases hg
      refine con_byVal fun ρ l K x hm => ?_
      split at hm
      · obtain ⟨c1, h1, hm⟩ := Option.bind_eq_some_iff.1 hm
        obtain ⟨r, hr, hm⟩ := Option.bind_eq_some_iff.1 hm
        exact ⟨_, hm, LawV.reads (.cons (.as h1) .nil) (impl_ends_law k c1 r hr)⟩
      · cases hm
    · cases hg; exact noCon_ok
    · cases hg
  · intro g hg r
    by_cases h : g = 42
    · subst h; simp [E_impl_UnitOk] at hg
    · simp [E_impl_UnitOk, h]
theorem f42_okimpl_UnitOk : Try.prog.funcs[42]? = some Try.f42 := by kernel_rfl
theorem impl_UnitOk_law (k : Nat) (a1 : ByteArray × Int × Int × (List (Int × Int × Int × Int × Int × ByteArray × (List Int) × Unit)) × Unit) (x : Bool) (h : impl_UnitOk k a1 = some x) : LawV Try.prog 42 [.tv tA5 a1] (tvn .bool x) := by
  unfold impl_UnitOk at h
  exact law1 (t := .bool) (tyTOk _ _) (E_impl_UnitOk_calls k) mixOk f42_okimpl_UnitOk (nameOk _ _ f42_okimpl_UnitOk) (by kernel_rfl) h
/-! impl.UnitsOk -/
noncomputable def E_impl_UnitsOk (k : Nat) : Env := ⟨ty, fun g => match g with
  | 42 => some (byVal fun ρ l K => match l with
    | [b1] => (b1.as tA5).bind fun c1 => (impl_UnitOk k c1).bind fun r => K (tvn .bool r)
    | _ => none)
  | 19 => some (byVal fun ρ l K => match l with
    | [b1, b2] => (b1.as (.row tA5)).bind fun c1 => (b2.as .str).bind fun c2 => (impl_unitAt k c1 c2).bind fun r => K (tvn (.int .i64) r)
    | _ => none)
  | 43 => some (byVal fun ρ l K => match l with
    | [b1, b2] => (b1.as (.int .i64)).bind fun c1 => (b2.as (.int .u8)).bind fun c2 => (impl_owned k c1 c2).bind fun r => K (tvn .bool r)
    | _ => none)
  | 20 => some noCon
  | _ => none, fun f r => match f with | 20 => (match r with | 4 => some [0, 11, 12, 13] | 8 => some [0, 4, 11, 12, 13] | 9 => some [0, 11, 12, 13, 30, 31, 32] | _ => none) | _ => none⟩
noncomputable def impl_UnitsOk (k : Nat) (a1 : List (ByteArray × Int × Int × (List (Int × Int × Int × Int × Int × ByteArray × (List Int) × Unit)) × Unit)) : Option (Bool) :=
  abody (E_impl_UnitsOk k) (arun Try.prog (E_impl_UnitsOk k) k) k 20 Try.f20 [.tv (.row tA5) a1] [] (fin1 .bool)
noncomputable def impl_UnitsOk.l4 (k n : Nat) (x0 : List (ByteArray × Int × Int × (List (Int × Int × Int × Int × Int × ByteArray × (List Int) × Unit)) × Unit)) (x11 : List (ByteArray × Int × Int × (List (Int × Int × Int × Int × Int × ByteArray × (List Int) × Unit)) × Unit)) (x12 : Int) (x13 : Int) : Option (Bool) :=
  resume (E_impl_UnitsOk k) 20 (acall (E_impl_UnitsOk k) (arun Try.prog (E_impl_UnitsOk k) k)) k [true, true, false, true, true] [n] (bodyOf Try.f20) ⟨[.tv (.row tA5) x0, .undef, .undef, .undef, .undef, .undef, .undef, .undef, .undef, .undef, .undef, .tv (.row tA5) x11, .int .i64 x12, .int .i64 x13, .undef, .undef, .undef, .undef, .undef, .undef, .undef, .undef, .undef, .undef, .undef, .undef, .undef, .undef, .undef, .undef, .undef, .undef, .undef, .undef, .undef, .undef, .undef, .undef, .undef, .undef, .undef, .undef, .undef, .undef, .undef, .undef, .undef, .undef, .undef, .undef, .undef, .undef, .undef, .undef, .undef, .undef, .undef, .undef, .undef, .undef, .undef, .undef, .undef, .undef], []⟩ (leave (E_impl_UnitsOk k) Try.f20 (fin1 .bool))
noncomputable def impl_UnitsOk.j8 (k m4 : Nat) (x0 : List (ByteArray × Int × Int × (List (Int × Int × Int × Int × Int × ByteArray × (List Int) × Unit)) × Unit)) (x11 : List (ByteArray × Int × Int × (List (Int × Int × Int × Int × Int × ByteArray × (List Int) × Unit)) × Unit)) (x12 : Int) (x13 : Int) (y0_0 : ByteArray × Int × Int × (List (Int × Int × Int × Int × Int × ByteArray × (List Int) × Unit)) × Unit) : Option (Bool) :=
  resume (E_impl_UnitsOk k) 20 (acall (E_impl_UnitsOk k) (arun Try.prog (E_impl_UnitsOk k) k)) k [true, true, false, true, true, true, true, true, false, true, true, true] [m4] (bodyOf Try.f20) ⟨[.tv (.row tA5) x0, .undef, .undef, .undef, .ptr 0 0 0, .undef, .undef, .undef, .undef, .undef, .undef, .tv (.row tA5) x11, .int .i64 x12, .int .i64 x13, .undef, .undef, .undef, .undef, .undef, .undef, .undef, .undef, .undef, .undef, .undef, .undef, .undef, .undef, .undef, .undef, .undef, .undef, .undef, .undef, .undef, .undef, .undef, .undef, .undef, .undef, .undef, .undef, .undef, .undef, .undef, .undef, .undef, .undef, .undef, .undef, .undef, .undef, .undef, .undef, .undef, .undef, .undef, .undef, .undef, .undef, .undef, .undef, .undef, .undef], [some ⟨.raw true 4 (.agg [.str ByteArray.empty, .int .i64 0, .int .i64 0, .nils]) [.tv tA5 y0_0], true⟩]⟩ (leave (E_impl_UnitsOk k) Try.f20 (fin1 .bool))
noncomputable def impl_UnitsOk.l9 (k m4 n : Nat) (x0 : List (ByteArray × Int × Int × (List (Int × Int × Int × Int × Int × ByteArray × (List Int) × Unit)) × Unit)) (x11 : List (ByteArray × Int × Int × (List (Int × Int × Int × Int × Int × ByteArray × (List Int) × Unit)) × Unit)) (x12 : Int) (x13 : Int) (x30 : List (Int × Int × Int × Int × Int × ByteArray × (List Int) × Unit)) (x31 : Int) (x32 : Int) : Option (Bool) :=
  resume (E_impl_UnitsOk k) 20 (acall (E_impl_UnitsOk k) (arun Try.prog (E_impl_UnitsOk k) k)) k [true, true, false, true, true, true, true, true, false, true, true, true, true, true] [m4, n] (bodyOf Try.f20) ⟨[.tv (.row tA5) x0, .undef, .undef, .undef, .undef, .undef, .undef, .undef, .undef, .undef, .undef, .tv (.row tA5) x11, .int .i64 x12, .int .i64 x13, .undef, .undef, .undef, .undef, .undef, .undef, .undef, .undef, .undef, .undef, .undef, .undef, .undef, .undef, .undef, .undef, .tv (.row tA4) x30, .int .i64 x31, .int .i64 x32, .undef, .undef, .undef, .undef, .undef, .undef, .undef, .undef, .undef, .undef, .undef, .undef, .undef, .undef, .undef, .undef, .undef, .undef, .undef, .undef, .undef, .undef, .undef, .undef, .undef, .undef, .undef, .undef, .undef, .undef, .undef], []⟩ (leave (E_impl_UnitsOk k) Try.f20 (fin1 .bool))
theorem impl_UnitsOk.l4_0 (k : Nat) (x0 : List (ByteArray × Int × Int × (List (Int × Int × Int × Int × Int × ByteArray × (List Int) × Unit)) × Unit)) (x11 : List (ByteArray × Int × Int × (List (Int × Int × Int × Int × Int × ByteArray × (List Int) × Unit)) × Unit)) (x12 : Int) (x13 : Int) : impl_UnitsOk.l4 k 0 x0 x11 x12 x13 = none := by kernel_rfl
theorem impl_UnitsOk.l4_s (k n : Nat) (x0 : List (ByteArray × Int × Int × (List (Int × Int × Int × Int × Int × ByteArray × (List Int) × Unit)) × Unit)) (x11 : List (ByteArray × Int × Int × (List (Int × Int × Int × Int × Int × ByteArray × (List Int) × Unit)) × Unit)) (x12 : Int) (x13 : Int) : impl_UnitsOk.l4 k (n + 1) x0 x11 x12 x13 =
  iteB (decide (x13 < x12)) (iteB (decide (0 ≤ x13)) (iteB (decide (x13 < ((List.length x11) : Int))) (bindO (impl_UnitOk k (List.getD x11 (Int.toNat x13) (Ty.dflt tA5))) fun r1 => (iteB (!(!r1)) (bindO (impl_unitAt k x0 ((List.getD x11 (Int.toNat x13) (Ty.dflt tA5)).1)) fun r2 => (iteB (r2 != x13) (some false) (gate k (impl_UnitsOk.j8 k n x0 x11 x12 x13 (List.getD x11 (Int.toNat x13) (Ty.dflt tA5)))))) (some false))) (none)) (none)) (some true) := by kernel_rfl
theorem impl_UnitsOk.j8_e (k m4 : Nat) (x0 : List (ByteArray × Int × Int × (List (Int × Int × Int × Int × Int × ByteArray × (List Int) × Unit)) × Unit)) (x11 : List (ByteArray × Int × Int × (List (Int × Int × Int × Int × Int × ByteArray × (List Int) × Unit)) × Unit)) (x12 : Int) (x13 : Int) (y0_0 : ByteArray × Int × Int × (List (Int × Int × Int × Int × Int × ByteArray × (List Int) × Unit)) × Unit) : impl_UnitsOk.j8 k m4 x0 x11 x12 x13 y0_0 =
  impl_UnitsOk.l9 k m4 k x0 x11 x12 x13 y0_0.2.2.2.1 ((List.length y0_0.2.2.2.1) : Int) 0 := by kernel_rfl
theorem impl_UnitsOk.l9_0 (k m4 : Nat) (x0 : List (ByteArray × Int × Int × (List (Int × Int × Int × Int × Int × ByteArray × (List Int) × Unit)) × Unit)) (x11 : List (ByteArray × Int × Int × (List (Int × Int × Int × Int × Int × ByteArray × (List Int) × Unit)) × Unit)) (x12 : Int) (x13 : Int) (x30 : List (Int × Int × Int × Int × Int × ByteArray × (List Int) × Unit)) (x31 : Int) (x32 : Int) : impl_UnitsOk.l9 k m4 0 x0 x11 x12 x13 x30 x31 x32 = none := by kernel_rfl
theorem impl_UnitsOk.l9_s (k m4 n : Nat) (x0 : List (ByteArray × Int × Int × (List (Int × Int × Int × Int × Int × ByteArray × (List Int) × Unit)) × Unit)) (x11 : List (ByteArray × Int × Int × (List (Int × Int × Int × Int × Int × ByteArray × (List Int) × Unit)) × Unit)) (x12 : Int) (x13 : Int) (x30 : List (Int × Int × Int × Int × Int × ByteArray × (List Int) × Unit)) (x31 : Int) (x32 : Int) : impl_UnitsOk.l9 k m4 (n + 1) x0 x11 x12 x13 x30 x31 x32 =
  iteB (decide (x32 < x31)) (iteB (decide (0 ≤ x32)) (iteB (decide (x32 < ((List.length x30) : Int))) (bindO (impl_owned k ((List.getD x30 (Int.toNat x32) (Ty.dflt tA4)).1) 83) fun r3 => (iteB (!r3) (impl_UnitsOk.l9 k m4 n x0 x11 x12 x13 x30 x31 (IntKind.wrap .i64 (x32 + 1))) (bindO (impl_unitAt k x0 (((((((List.getD x30 (Int.toNat x32) (Ty.dflt tA4)).2).2).2).2).2).1)) fun r4 => (iteB (!(decide (r4 < 0))) (iteB (((List.getD x30 (Int.toNat x32) (Ty.dflt tA4)).1) != 24) (iteB (decide (0 ≤ r4)) (iteB (decide (r4 < ((List.length x0) : Int))) (iteB (((List.length ((((((((List.getD x30 (Int.toNat x32) (Ty.dflt tA4)).2).2).2).2).2).2).1)) : Int) != (((List.getD x0 (Int.toNat r4) (Ty.dflt tA5)).2).1)) (some false) (impl_UnitsOk.l9 k m4 n x0 x11 x12 x13 x30 x31 (IntKind.wrap .i64 (x32 + 1)))) (none)) (none)) (impl_UnitsOk.l9 k m4 n x0 x11 x12 x13 x30 x31 (IntKind.wrap .i64 (x32 + 1)))) (some false))))) (none)) (none)) (impl_UnitsOk.l4 k m4 x0 x11 x12 (IntKind.wrap .i64 (x13 + 1))) := by kernel_rfl
theorem impl_UnitsOk_e (k : Nat) (a1 : List (ByteArray × Int × Int × (List (Int × Int × Int × Int × Int × ByteArray × (List Int) × Unit)) × Unit)) : impl_UnitsOk k a1 =
  iteB (decide (((List.length a1) : Int) > 80)) (some false) (impl_UnitsOk.l4 k k a1 a1 ((List.length a1) : Int) 0) := by kernel_rfl
theorem E_impl_UnitsOk_calls (k : Nat) : CallsOk Try.prog (E_impl_UnitsOk k) (arun Try.prog (E_impl_UnitsOk k) k) := by
  refine told_run (tyTOk _ _) ?_ (fun run h => regOk (tyTOk _ _) mixOk h) ?_ nameOk k
  · intro g m hg
    simp only [E_impl_UnitsOk] at hg
    split at hg
    · cases hg
      refine con_byVal fun ρ l K x hm => ?_
      split at hm
      · obtain ⟨c1, h1, hm⟩ := Option.bind_eq_some_iff.1 hm
        obtain ⟨r, hr, hm⟩ := Option.bind_eq_some_iff.1 hm
        exact ⟨_, hm, LawV.reads (.cons (.as h1) .nil) (impl_UnitOk_law k c1 r hr)⟩
      · cases hm
    · cases hg
      refine con_byVal fun ρ l K x hm => ?_
      split at hm
      · obtain ⟨c1, h1, hm⟩ := Option.bind_eq_some_iff.1 hm
        obtain ⟨c2, h2, hm⟩ := Option.bind_eq_some_iff.1 hm
        obtain ⟨r, hr, hm⟩ := Option.bind_eq_some_iff.1 hm
        exact ⟨_, hm, LawV.reads (.cons (.as h1) (.cons (.as h2) .nil)) (impl_unitAt_law k c1 c2 r hr)⟩
      · cases hm
    · cases hg
      refine con_byVal fun ρ l K x hm => ?_
      split at hm
      · obtain ⟨c1, h1, hm⟩ := Option.bind_eq_some_iff.1 hm
        obtain ⟨c2, h2, hm⟩ := Option.bind_eq_some_iff.1 hm
        obtain ⟨r, hr, hm⟩ := Option.bind_eq_some_iff.1 hm
        exact ⟨_, hm, LawV.reads (.cons (.as h1) (.cons (.as h2) .nil)) (impl_owned_law k c1 c2 r hr)⟩
      · cases hm
    · cases hg; exact noCon_ok
    · cases hg
  · intro g hg r
    by_cases h : g = 20
    · subst h; simp [E_impl_UnitsOk] at hg
    · simp [E_impl_UnitsOk, h]
theorem f20_okimpl_UnitsOk : Try.prog.funcs[20]? = some Try.f20 := by kernel_rfl
theorem impl_UnitsOk_law (k : Nat) (a1 : List (ByteArray × Int × Int × (List (Int × Int × Int × Int × Int × ByteArray × (List Int) × Unit)) × Unit)) (x : Bool) (h : impl_UnitsOk k a1 = some x) : LawV Try.prog 20 [.tv (.row tA5) a1] (tvn .bool x) := by
  unfold impl_UnitsOk at h
  exact law1 (t := .bool) (tyTOk _ _) (E_impl_UnitsOk_calls k) mixOk f20_okimpl_UnitsOk (nameOk _ _ f20_okimpl_UnitsOk) (by kernel_rfl) h
/-! slices.Clone[[]int,int] -/
noncomputable def E_slices_Clone_int (k : Nat) : Env := ⟨ty, fun _ => none, fun _ _ => none⟩
noncomputable def slices_Clone_int (k : Nat) (a1 : List (Int)) : Option (List (Int)) := bif decide (List.length a1 * 8 ≤ lim) then some a1 else none
theorem slices_Clone_int_e (k : Nat) (a1 : List (Int)) : slices_Clone_int k a1 = iteB (decide (List.length a1 * 8 ≤ lim)) (some a1) none := by unfold slices_Clone_int; cases decide (List.length a1 * 8 ≤ lim) <;> rfl
theorem E_slices_Clone_int_calls (k : Nat) : CallsOk Try.prog (E_slices_Clone_int k) (arun Try.prog (E_slices_Clone_int k) k) := by
  refine told_run (tyTOk _ _) ?_ (fun run h => regOk (tyTOk _ _) mixOk h) ?_ nameOk k
  · intro g m hg; cases hg
  · intro g _ r; rfl
theorem f86_okslices_Clone_int : Try.prog.funcs[86]? = some Try.f86 := by kernel_rfl
theorem slices_Clone_int_run (k : Nat) (a1 : List (Int)) (b : Bool) : aexec (E_slices_Clone_int k) 86 (acall (E_slices_Clone_int k) (arun Try.prog (E_slices_Clone_int k) k)) k (Code.seq (cndOf Try.f86) (rstOf Try.f86)) ⟨(List.set (List.set [.tv (.row (.int .i64)) a1, .undef, .nils, .undef, .undef, .undef, .undef, .undef] 3 (.tv (.row (.int .i64)) a1)) 4 (.bool b)), []⟩ (leave (E_slices_Clone_int k) Try.f86 (finF (.int .i64))) = (bif b then some [] else bif decide (List.length a1 * 8 ≤ lim) then some a1 else none) := by cases b <;> kernel_rfl
theorem slices_Clone_int_law (k : Nat) (a1 : List (Int)) (x : List (Int)) (h : slices_Clone_int k a1 = some x) : LawF Try.prog 86 [.tv (.row (.int .i64)) a1] (.int .i64) x := by
  unfold slices_Clone_int at h
  cases hb : decide (List.length a1 * 8 ≤ lim) with
  | false => rw [hb] at h; cases h
  | true =>
    rw [hb] at h
    cases h
    refine lawClone (tyTOk _ _) (E_slices_Clone_int_calls k) mixOk f86_okslices_Clone_int (nameOk _ _ f86_okslices_Clone_int) (k := k) (i := 0) (d := 3) (g := 4) (cnd := cndOf Try.f86) (rest := rstOf Try.f86) (st0 := ⟨[.tv (.row (.int .i64)) a1, .undef, .nils, .undef, .undef, .undef, .undef, .undef], []⟩) rfl rfl rfl rfl rfl rfl rfl rfl (by kernel_rfl) rfl (by simp) fun b => ?_
    refine (slices_Clone_int_run k a1 b).trans ?_
    cases b
    · show (bif decide (List.length a1 * 8 ≤ lim) then some a1 else none) = some a1; rw [hb]; rfl
    · rfl
/-! impl.copyTac -/
noncomputable def E_impl_copyTac (k : Nat) : Env := ⟨tyD, fun g => match g with
  | 86 => some (byFresh (.int .i64) fun ρ l K => match l with
    | [b1] => (b1.as (.row (.int .i64))).bind fun c1 => (slices_Clone_int k c1).bind fun r => K r
    | _ => none)
  | _ => none, fun _ _ => none⟩
noncomputable def impl_copyTac (k : Nat) (a1 : Int × Int × Int × Int × Int × ByteArray × (List Int) × Unit) : Option (Int × Int × Int × Int × Int × ByteArray × (List Int) × Unit) :=
  abody (E_impl_copyTac k) (arun Try.prog (E_impl_copyTac k) k) k 66 Try.f66 [.tv tA4 a1] [] (finD tA4)
theorem impl_copyTac_e (k : Nat) (a1 : Int × Int × Int × Int × Int × ByteArray × (List Int) × Unit) : impl_copyTac k a1 =
  bindO (slices_Clone_int k a1.2.2.2.2.2.2.1) fun r1 => (some (a1.1, a1.2.1, a1.2.2.1, a1.2.2.2.1, a1.2.2.2.2.1, a1.2.2.2.2.2.1, r1, ())) := by kernel_rfl
theorem E_impl_copyTac_calls (k : Nat) : CallsOk Try.prog (E_impl_copyTac k) (arun Try.prog (E_impl_copyTac k) k) := by
  refine told_run (tyDTOk _ _) ?_ (fun run h => regOk (tyDTOk _ _) mixOk h) ?_ nameOk k
  · intro g m hg
    simp only [E_impl_copyTac] at hg
    split at hg
    · cases hg
      refine con_byFresh fun ρ l K x hm => ?_
      split at hm
      · obtain ⟨c1, h1, hm⟩ := Option.bind_eq_some_iff.1 hm
        obtain ⟨r, hr, hm⟩ := Option.bind_eq_some_iff.1 hm
        exact ⟨_, hm, LawF.reads (.cons (.as h1) .nil) (slices_Clone_int_law k c1 r hr)⟩
      · cases hm
    · cases hg
  · intro g _ r; rfl
theorem f66_okimpl_copyTac : Try.prog.funcs[66]? = some Try.f66 := by kernel_rfl
theorem impl_copyTac_law (k : Nat) (a1 : Int × Int × Int × Int × Int × ByteArray × (List Int) × Unit) (x : Int × Int × Int × Int × Int × ByteArray × (List Int) × Unit) (h : impl_copyTac k a1 = some x) : LawD Try.prog 66 [.tv tA4 a1] tA4 x := by
  unfold impl_copyTac at h
  exact lawD (t := tA4) (tyDTOk _ _) (E_impl_copyTac_calls k) mixOk f66_okimpl_copyTac (nameOk _ _ f66_okimpl_copyTac) (by kernel_rfl) h
/-! impl.copyUnit -/
noncomputable def E_impl_copyUnit (k : Nat) : Env := ⟨tyD, fun g => match g with
  | 66 => some (byNew tA4 fun ρ l K => match l with
    | [b1] => (b1.as tA4).bind fun c1 => (impl_copyTac k c1).bind fun r => K r
    | _ => none)
  | 44 => some noCon
  | _ => none, fun f r => match f with | 44 => (match r with | 3 => some [1, 2, 3, 8, 9, 10] | _ => none) | _ => none⟩
noncomputable def impl_copyUnit (k : Nat) (a1 : ByteArray × Int × Int × (List (Int × Int × Int × Int × Int × ByteArray × (List Int) × Unit)) × Unit) : Option (ByteArray × Int × Int × (List (Int × Int × Int × Int × Int × ByteArray × (List Int) × Unit)) × Unit) :=
  abody (E_impl_copyUnit k) (arun Try.prog (E_impl_copyUnit k) k) k 44 Try.f44 [.tv tA5 a1] [] (finD tA5)
noncomputable def impl_copyUnit.l3 (k n : Nat) (x8 : List (Int × Int × Int × Int × Int × ByteArray × (List Int) × Unit)) (x9 : Int) (x10 : Int) (y0_0 : ByteArray × Int × Int × (List (Int × Int × Int × Int × Int × ByteArray × (List Int) × Unit)) × Unit) (y1_0_0 : ByteArray) (y1_0_1 : Int) (y1_0_2 : Int) : Option (ByteArray × Int × Int × (List (Int × Int × Int × Int × Int × ByteArray × (List Int) × Unit)) × Unit) :=
  resume (E_impl_copyUnit k) 44 (acall (E_impl_copyUnit k) (arun Try.prog (E_impl_copyUnit k) k)) k [true, true, false, true, true] [n] (bodyOf Try.f44) ⟨[.undef, .ptr 0 0 0, .ptr 1 0 0, .sl 2, .undef, .undef, .undef, .undef, .tv (.row tA4) x8, .int .i64 x9, .int .i64 x10, .undef, .undef, .undef, .undef, .undef, .undef, .undef, .undef, .undef, .undef, .undef, .undef], [some ⟨.raw true 4 (.agg [.str ByteArray.empty, .int .i64 0, .int .i64 0, .nils]) [.tv tA5 y0_0], true⟩, some ⟨.raw true 4 (.agg [.str ByteArray.empty, .int .i64 0, .int .i64 0, .nils]) [.agg [.str y1_0_0, .int .i64 y1_0_1, .int .i64 y1_0_2, .nils]], true⟩, some ⟨.typed tA4 [], true⟩]⟩ (leave (E_impl_copyUnit k) Try.f44 (finD tA5))
noncomputable def impl_copyUnit.l3b (k n : Nat) (x8 : List (Int × Int × Int × Int × Int × ByteArray × (List Int) × Unit)) (x9 : Int) (x10 : Int) (y0_0 : ByteArray × Int × Int × (List (Int × Int × Int × Int × Int × ByteArray × (List Int) × Unit)) × Unit) (y1_0_0 : ByteArray) (y1_0_1 : Int) (y1_0_2 : Int) (y2 : List (Int × Int × Int × Int × Int × ByteArray × (List Int) × Unit)) : Option (ByteArray × Int × Int × (List (Int × Int × Int × Int × Int × ByteArray × (List Int) × Unit)) × Unit) :=
  resume (E_impl_copyUnit k) 44 (acall (E_impl_copyUnit k) (arun Try.prog (E_impl_copyUnit k) k)) k [true, true, false, true, true] [n] (bodyOf Try.f44) ⟨[.undef, .ptr 0 0 0, .ptr 1 0 0, .sl 2, .undef, .undef, .undef, .undef, .tv (.row tA4) x8, .int .i64 x9, .int .i64 x10, .undef, .undef, .undef, .undef, .undef, .undef, .undef, .undef, .undef, .undef, .undef, .undef], [some ⟨.raw true 4 (.agg [.str ByteArray.empty, .int .i64 0, .int .i64 0, .nils]) [.tv tA5 y0_0], true⟩, some ⟨.raw true 4 (.agg [.str ByteArray.empty, .int .i64 0, .int .i64 0, .nils]) [.agg [.str y1_0_0, .int .i64 y1_0_1, .int .i64 y1_0_2, .nils]], true⟩, some ⟨.deep false tA4 y2, false⟩]⟩ (leave (E_impl_copyUnit k) Try.f44 (finD tA5))
theorem impl_copyUnit.l3_0 (k : Nat) (x8 : List (Int × Int × Int × Int × Int × ByteArray × (List Int) × Unit)) (x9 : Int) (x10 : Int) (y0_0 : ByteArray × Int × Int × (List (Int × Int × Int × Int × Int × ByteArray × (List Int) × Unit)) × Unit) (y1_0_0 : ByteArray) (y1_0_1 : Int) (y1_0_2 : Int) : impl_copyUnit.l3 k 0 x8 x9 x10 y0_0 y1_0_0 y1_0_1 y1_0_2 = none := by kernel_rfl
theorem impl_copyUnit.l3_s (k n : Nat) (x8 : List (Int × Int × Int × Int × Int × ByteArray × (List Int) × Unit)) (x9 : Int) (x10 : Int) (y0_0 : ByteArray × Int × Int × (List (Int × Int × Int × Int × Int × ByteArray × (List Int) × Unit)) × Unit) (y1_0_0 : ByteArray) (y1_0_1 : Int) (y1_0_2 : Int) : impl_copyUnit.l3 k (n + 1) x8 x9 x10 y0_0 y1_0_0 y1_0_1 y1_0_2 =
  iteB (decide (x10 < x9)) (iteB (decide (0 ≤ x10)) (iteB (decide (x10 < ((List.length x8) : Int))) (bindO (impl_copyTac k (List.getD x8 (Int.toNat x10) (Ty.dflt tA4))) fun r1 => (iteB (decide ((List.length ([] ++ [(r1.1, r1.2.1, r1.2.2.1, r1.2.2.2.1, r1.2.2.2.2.1, r1.2.2.2.2.2.1, r1.2.2.2.2.2.2.1, ())])) * 80 ≤ lim)) (impl_copyUnit.l3b k n x8 x9 (IntKind.wrap .i64 (x10 + 1)) y0_0 y1_0_0 y1_0_1 y1_0_2 ([] ++ [(r1.1, r1.2.1, r1.2.2.1, r1.2.2.2.1, r1.2.2.2.2.1, r1.2.2.2.2.2.1, r1.2.2.2.2.2.2.1, ())])) (none))) (none)) (none)) (some (y0_0.1, y0_0.2.1, y0_0.2.2.1, [], ())) := by kernel_rfl
theorem impl_copyUnit.l3b_0 (k : Nat) (x8 : List (Int × Int × Int × Int × Int × ByteArray × (List Int) × Unit)) (x9 : Int) (x10 : Int) (y0_0 : ByteArray × Int × Int × (List (Int × Int × Int × Int × Int × ByteArray × (List Int) × Unit)) × Unit) (y1_0_0 : ByteArray) (y1_0_1 : Int) (y1_0_2 : Int) (y2 : List (Int × Int × Int × Int × Int × ByteArray × (List Int) × Unit)) : impl_copyUnit.l3b k 0 x8 x9 x10 y0_0 y1_0_0 y1_0_1 y1_0_2 y2 = none := by kernel_rfl
theorem impl_copyUnit.l3b_s (k n : Nat) (x8 : List (Int × Int × Int × Int × Int × ByteArray × (List Int) × Unit)) (x9 : Int) (x10 : Int) (y0_0 : ByteArray × Int × Int × (List (Int × Int × Int × Int × Int × ByteArray × (List Int) × Unit)) × Unit) (y1_0_0 : ByteArray) (y1_0_1 : Int) (y1_0_2 : Int) (y2 : List (Int × Int × Int × Int × Int × ByteArray × (List Int) × Unit)) : impl_copyUnit.l3b k (n + 1) x8 x9 x10 y0_0 y1_0_0 y1_0_1 y1_0_2 y2 =
  iteB (decide (x10 < x9)) (iteB (decide (0 ≤ x10)) (iteB (decide (x10 < ((List.length x8) : Int))) (bindO (impl_copyTac k (List.getD x8 (Int.toNat x10) (Ty.dflt tA4))) fun r2 => (iteB (decide ((List.length (y2 ++ [(r2.1, r2.2.1, r2.2.2.1, r2.2.2.2.1, r2.2.2.2.2.1, r2.2.2.2.2.2.1, r2.2.2.2.2.2.2.1, ())])) * 80 ≤ lim)) (impl_copyUnit.l3b k n x8 x9 (IntKind.wrap .i64 (x10 + 1)) y0_0 y1_0_0 y1_0_1 y1_0_2 (y2 ++ [(r2.1, r2.2.1, r2.2.2.1, r2.2.2.2.1, r2.2.2.2.2.1, r2.2.2.2.2.2.1, r2.2.2.2.2.2.2.1, ())])) (none))) (none)) (none)) (some (y0_0.1, y0_0.2.1, y0_0.2.2.1, y2, ())) := by kernel_rfl
theorem impl_copyUnit_e (k : Nat) (a1 : ByteArray × Int × Int × (List (Int × Int × Int × Int × Int × ByteArray × (List Int) × Unit)) × Unit) : impl_copyUnit k a1 =
  impl_copyUnit.l3 k k a1.2.2.2.1 ((List.length a1.2.2.2.1) : Int) 0 a1 ByteArray.empty 0 0 := by kernel_rfl
theorem E_impl_copyUnit_calls (k : Nat) : CallsOk Try.prog (E_impl_copyUnit k) (arun Try.prog (E_impl_copyUnit k) k) := by
  refine told_run (tyDTOk _ _) ?_ (fun run h => regOk (tyDTOk _ _) mixOk h) ?_ nameOk k
  · intro g m hg
    simp only [E_impl_copyUnit] at hg
    split at hg
    · cases hg
      refine con_byNew fun ρ l K x hm => ?_
      split at hm
      · obtain ⟨c1, h1, hm⟩ := Option.bind_eq_some_iff.1 hm
        obtain ⟨r, hr, hm⟩ := Option.bind_eq_some_iff.1 hm
        exact ⟨_, hm, LawD.reads (.cons (.as h1) .nil) (impl_copyTac_law k c1 r hr)⟩
      · cases hm
    · cases hg; exact noCon_ok
    · cases hg
  · intro g hg r
    by_cases h : g = 44
    · subst h; simp [E_impl_copyUnit] at hg
    · simp [E_impl_copyUnit, h]
theorem f44_okimpl_copyUnit : Try.prog.funcs[44]? = some Try.f44 := by kernel_rfl
theorem impl_copyUnit_law (k : Nat) (a1 : ByteArray × Int × Int × (List (Int × Int × Int × Int × Int × ByteArray × (List Int) × Unit)) × Unit) (x : ByteArray × Int × Int × (List (Int × Int × Int × Int × Int × ByteArray × (List Int) × Unit)) × Unit) (h : impl_copyUnit k a1 = some x) : LawD Try.prog 44 [.tv tA5 a1] tA5 x := by
  unfold impl_copyUnit at h
  exact lawD (t := tA5) (tyDTOk _ _) (E_impl_copyUnit_calls k) mixOk f44_okimpl_copyUnit (nameOk _ _ f44_okimpl_copyUnit) (by kernel_rfl) h
/-! impl.copyUnits -/
noncomputable def E_impl_copyUnits (k : Nat) : Env := ⟨tyD, fun g => match g with
  | 44 => some (byNew tA5 fun ρ l K => match l with
    | [b1] => (b1.as tA5).bind fun c1 => (impl_copyUnit k c1).bind fun r => K r
    | _ => none)
  | 21 => some noCon
  | _ => none, fun f r => match f with | 21 => (match r with | 3 => some [3, 7, 8, 9] | _ => none) | _ => none⟩
noncomputable def impl_copyUnits (k : Nat) (a1 : List (ByteArray × Int × Int × (List (Int × Int × Int × Int × Int × ByteArray × (List Int) × Unit)) × Unit)) : Option (List (ByteArray × Int × Int × (List (Int × Int × Int × Int × Int × ByteArray × (List Int) × Unit)) × Unit)) :=
  abody (E_impl_copyUnits k) (arun Try.prog (E_impl_copyUnits k) k) k 21 Try.f21 [.tv (.row tA5) a1] [] (finD (.row tA5))
noncomputable def impl_copyUnits.l3 (k n : Nat) (x7 : List (ByteArray × Int × Int × (List (Int × Int × Int × Int × Int × ByteArray × (List Int) × Unit)) × Unit)) (x8 : Int) (x9 : Int) : Option (List (ByteArray × Int × Int × (List (Int × Int × Int × Int × Int × ByteArray × (List Int) × Unit)) × Unit)) :=
  resume (E_impl_copyUnits k) 21 (acall (E_impl_copyUnits k) (arun Try.prog (E_impl_copyUnits k) k)) k [true, true, false, true, true] [n] (bodyOf Try.f21) ⟨[.undef, .undef, .undef, .sl 0, .undef, .undef, .undef, .tv (.row tA5) x7, .int .i64 x8, .int .i64 x9, .undef, .undef, .undef, .undef, .undef, .undef, .undef, .undef, .undef, .undef], [some ⟨.typed tA5 [], true⟩]⟩ (leave (E_impl_copyUnits k) Try.f21 (finD (.row tA5)))
noncomputable def impl_copyUnits.l3b (k n : Nat) (x7 : List (ByteArray × Int × Int × (List (Int × Int × Int × Int × Int × ByteArray × (List Int) × Unit)) × Unit)) (x8 : Int) (x9 : Int) (y0 : List (ByteArray × Int × Int × (List (Int × Int × Int × Int × Int × ByteArray × (List Int) × Unit)) × Unit)) : Option (List (ByteArray × Int × Int × (List (Int × Int × Int × Int × Int × ByteArray × (List Int) × Unit)) × Unit)) :=
  resume (E_impl_copyUnits k) 21 (acall (E_impl_copyUnits k) (arun Try.prog (E_impl_copyUnits k) k)) k [true, true, false, true, true] [n] (bodyOf Try.f21) ⟨[.undef, .undef, .undef, .sl 0, .undef, .undef, .undef, .tv (.row tA5) x7, .int .i64 x8, .int .i64 x9, .undef, .undef, .undef, .undef, .undef, .undef, .undef, .undef, .undef, .undef], [some ⟨.deep false tA5 y0, false⟩]⟩ (leave (E_impl_copyUnits k) Try.f21 (finD (.row tA5)))
theorem impl_copyUnits.l3_0 (k : Nat) (x7 : List (ByteArray × Int × Int × (List (Int × Int × Int × Int × Int × ByteArray × (List Int) × Unit)) × Unit)) (x8 : Int) (x9 : Int) : impl_copyUnits.l3 k 0 x7 x8 x9 = none := by kernel_rfl
theorem impl_copyUnits.l3_s (k n : Nat) (x7 : List (ByteArray × Int × Int × (List (Int × Int × Int × Int × Int × ByteArray × (List Int) × Unit)) × Unit)) (x8 : Int) (x9 : Int) : impl_copyUnits.l3 k (n + 1) x7 x8 x9 =
  iteB (decide (x9 < x8)) (iteB (decide (0 ≤ x9)) (iteB (decide (x9 < ((List.length x7) : Int))) (bindO (impl_copyUnit k (List.getD x7 (Int.toNat x9) (Ty.dflt tA5))) fun r1 => (iteB (decide ((List.length ([] ++ [(r1.1, r1.2.1, r1.2.2.1, r1.2.2.2.1, ())])) * 56 ≤ lim)) (impl_copyUnits.l3b k n x7 x8 (IntKind.wrap .i64 (x9 + 1)) ([] ++ [(r1.1, r1.2.1, r1.2.2.1, r1.2.2.2.1, ())])) (none))) (none)) (none)) (some []) := by kernel_rfl
theorem impl_copyUnits.l3b_0 (k : Nat) (x7 : List (ByteArray × Int × Int × (List (Int × Int × Int × Int × Int × ByteArray × (List Int) × Unit)) × Unit)) (x8 : Int) (x9 : Int) (y0 : List (ByteArray × Int × Int × (List (Int × Int × Int × Int × Int × ByteArray × (List Int) × Unit)) × Unit)) : impl_copyUnits.l3b k 0 x7 x8 x9 y0 = none := by kernel_rfl
theorem impl_copyUnits.l3b_s (k n : Nat) (x7 : List (ByteArray × Int × Int × (List (Int × Int × Int × Int × Int × ByteArray × (List Int) × Unit)) × Unit)) (x8 : Int) (x9 : Int) (y0 : List (ByteArray × Int × Int × (List (Int × Int × Int × Int × Int × ByteArray × (List Int) × Unit)) × Unit)) : impl_copyUnits.l3b k (n + 1) x7 x8 x9 y0 =
  iteB (decide (x9 < x8)) (iteB (decide (0 ≤ x9)) (iteB (decide (x9 < ((List.length x7) : Int))) (bindO (impl_copyUnit k (List.getD x7 (Int.toNat x9) (Ty.dflt tA5))) fun r2 => (iteB (decide ((List.length (y0 ++ [(r2.1, r2.2.1, r2.2.2.1, r2.2.2.2.1, ())])) * 56 ≤ lim)) (impl_copyUnits.l3b k n x7 x8 (IntKind.wrap .i64 (x9 + 1)) (y0 ++ [(r2.1, r2.2.1, r2.2.2.1, r2.2.2.2.1, ())])) (none))) (none)) (none)) (some y0) := by kernel_rfl
theorem impl_copyUnits_e (k : Nat) (a1 : List (ByteArray × Int × Int × (List (Int × Int × Int × Int × Int × ByteArray × (List Int) × Unit)) × Unit)) : impl_copyUnits k a1 =
  impl_copyUnits.l3 k k a1 ((List.length a1) : Int) 0 := by kernel_rfl
theorem E_impl_copyUnits_calls (k : Nat) : CallsOk Try.prog (E_impl_copyUnits k) (arun Try.prog (E_impl_copyUnits k) k) := by
  refine told_run (tyDTOk _ _) ?_ (fun run h => regOk (tyDTOk _ _) mixOk h) ?_ nameOk k
  · intro g m hg
    simp only [E_impl_copyUnits] at hg
    split at hg
    · cases hg
      refine con_byNew fun ρ l K x hm => ?_
      split at hm
      · obtain ⟨c1, h1, hm⟩ := Option.bind_eq_some_iff.1 hm
        obtain ⟨r, hr, hm⟩ := Option.bind_eq_some_iff.1 hm
        exact ⟨_, hm, LawD.reads (.cons (.as h1) .nil) (impl_copyUnit_law k c1 r hr)⟩
      · cases hm
    · cases hg; exact noCon_ok
    · cases hg
  · intro g hg r
    by_cases h : g = 21
    · subst h; simp [E_impl_copyUnits] at hg
    · simp [E_impl_copyUnits, h]
theorem f21_okimpl_copyUnits : Try.prog.funcs[21]? = some Try.f21 := by kernel_rfl
theorem impl_copyUnits_law (k : Nat) (a1 : List (ByteArray × Int × Int × (List (Int × Int × Int × Int × Int × ByteArray × (List Int) × Unit)) × Unit)) (x : List (ByteArray × Int × Int × (List (Int × Int × Int × Int × Int × ByteArray × (List Int) × Unit)) × Unit)) (h : impl_copyUnits k a1 = some x) : LawD Try.prog 21 [.tv (.row tA5) a1] (.row tA5) x := by
  unfold impl_copyUnits at h
  exact lawD (t := (.row tA5)) (tyDTOk _ _) (E_impl_copyUnits_calls k) mixOk f21_okimpl_copyUnits (nameOk _ _ f21_okimpl_copyUnits) (by kernel_rfl) h
/-! impl.frameNew -/
noncomputable def E_impl_frameNew (k : Nat) : Env := ⟨tyD, fun _ => none, fun _ _ => none⟩
noncomputable def impl_frameNew (k : Nat) (a1 : List (ByteArray × Int × Int × (List (Int × Int × Int × Int × Int × ByteArray × (List Int) × Unit)) × Unit)) (a2 : Int) (a3 : List Int) (a4 : Int) : Option (Int × Int × (List Int) × Int × Unit) :=
  abody (E_impl_frameNew k) (arun Try.prog (E_impl_frameNew k) k) k 22 Try.f22 [.tv (.row tA5) a1, .int .i64 a2, .tv (.row (.int .i64)) a3, .int .i64 a4] [] (finD tA1)
theorem impl_frameNew_e (k : Nat) (a1 : List (ByteArray × Int × Int × (List (Int × Int × Int × Int × Int × ByteArray × (List Int) × Unit)) × Unit)) (a2 : Int) (a3 : List Int) (a4 : Int) : impl_frameNew k a1 a2 a3 a4 =
  iteB (decide (0 ≤ a2)) (iteB (decide (a2 < ((List.length a1) : Int))) (iteB (decide (0 ≤ (((List.getD a1 (Int.toNat a2) (Ty.dflt tA5)).2).2).1)) (iteB (decide ((((List.getD a1 (Int.toNat a2) (Ty.dflt tA5)).2).2).1 ≤ (((List.getD a1 (Int.toNat a2) (Ty.dflt tA5)).2).2).1)) (iteB (decide (((((List.getD a1 (Int.toNat a2) (Ty.dflt tA5)).2).2).1) * 8 ≤ (lim : Int))) (iteB (decide ((((List.getD a1 (Int.toNat a2) (Ty.dflt tA5)).2).2).1 ≤ (lim : Int)) && true) (some (a2, 0, List.take (List.length (List.replicate (Int.toNat ((((List.getD a1 (Int.toNat a2) (Ty.dflt tA5)).2).2).1)) (0 : Int))) a3 ++ List.drop (List.length a3) (List.replicate (Int.toNat ((((List.getD a1 (Int.toNat a2) (Ty.dflt tA5)).2).2).1)) (0 : Int)), a4, ())) (none)) (none)) (none)) (none)) (none)) (none) := by kernel_rfl
theorem E_impl_frameNew_calls (k : Nat) : CallsOk Try.prog (E_impl_frameNew k) (arun Try.prog (E_impl_frameNew k) k) := by
  refine told_run (tyDTOk _ _) ?_ (fun run h => regOk (tyDTOk _ _) mixOk h) ?_ nameOk k
  · intro g m hg
    cases hg
  · intro g _ r; rfl
theorem f22_okimpl_frameNew : Try.prog.funcs[22]? = some Try.f22 := by kernel_rfl
theorem impl_frameNew_law (k : Nat) (a1 : List (ByteArray × Int × Int × (List (Int × Int × Int × Int × Int × ByteArray × (List Int) × Unit)) × Unit)) (a2 : Int) (a3 : List Int) (a4 : Int) (x : Int × Int × (List Int) × Int × Unit) (h : impl_frameNew k a1 a2 a3 a4 = some x) : LawD Try.prog 22 [.tv (.row tA5) a1, .int .i64 a2, .tv (.row (.int .i64)) a3, .int .i64 a4] tA1 x := by
  unfold impl_frameNew at h
  exact lawD (t := tA1) (tyDTOk _ _) (E_impl_frameNew_calls k) mixOk f22_okimpl_frameNew (nameOk _ _ f22_okimpl_frameNew) (by kernel_rfl) h
/-! impl.WorldNew -/
noncomputable def E_impl_WorldNew (k : Nat) : Env := ⟨tyD, fun g => match g with
  | 19 => some (byVal fun ρ l K => match l with
    | [b1, b2] => (b1.as (.row tA5)).bind fun c1 => (b2.as .str).bind fun c2 => (impl_unitAt k c1 c2).bind fun r => K (tvn (.int .i64) r)
    | _ => none)
  | 20 => some (byVal fun ρ l K => match l with
    | [b1] => (b1.as (.row tA5)).bind fun c1 => (impl_UnitsOk k c1).bind fun r => K (tvn .bool r)
    | _ => none)
  | 21 => some (byNew (.row tA5) fun ρ l K => match l with
    | [b1] => (b1.as (.row tA5)).bind fun c1 => (impl_copyUnits k c1).bind fun r => K r
    | _ => none)
  | 22 => some (byNew tA1 fun ρ l K => match l with
    | [b1, b2, b3, b4] => (b1.as (.row tA5)).bind fun c1 => (b2.as (.int .i64)).bind fun c2 => (b3.as (.row (.int .i64))).bind fun c3 => (b4.as (.int .i64)).bind fun c4 => (impl_frameNew k c1 c2 c3 c4).bind fun r => K r
    | _ => none)
  | 7 => some noCon
  | _ => none, fun f r => match f with | 7 => (match r with | 4 => some [0, 2, 4] | _ => none) | _ => none⟩
noncomputable def impl_WorldNew (k : Nat) (a1 : List (ByteArray × Int × Int × (List (Int × Int × Int × Int × Int × ByteArray × (List Int) × Unit)) × Unit)) : Option (((List (ByteArray × Int × Int × (List (Int × Int × Int × Int × Int × ByteArray × (List Int) × Unit)) × Unit)) × (List ((List (Int × Int × (List Int) × Int × Unit)) × Bool × Bool × Int × Int × Int × Int × Int × Unit)) × (List (Int × Bool × (List Int) × (List (Int × Int × Int × Int × Unit)) × (List (Int × Int × Int × Int × Unit)) × Unit)) × (List Int) × Bool × Int × Unit) × Bool × Unit) :=
  abody (E_impl_WorldNew k) (arun Try.prog (E_impl_WorldNew k) k) k 7 Try.f7 [.tv (.row tA5) a1] [] (finDT (.pair (.pair (.row tA5) (.pair (.row tA2) (.pair (.row tA3) (.pair (.row (.int .i64)) (.pair .bool (.pair (.int .i64) .unit)))))) (.pair .bool .unit)))
noncomputable def impl_WorldNew.j4 (k : Nat) (x0 : List (ByteArray × Int × Int × (List (Int × Int × Int × Int × Int × ByteArray × (List Int) × Unit)) × Unit)) (x4 : Int) (y0_0_4 : Bool) (y0_0_5 : Int) : Option (((List (ByteArray × Int × Int × (List (Int × Int × Int × Int × Int × ByteArray × (List Int) × Unit)) × Unit)) × (List ((List (Int × Int × (List Int) × Int × Unit)) × Bool × Bool × Int × Int × Int × Int × Int × Unit)) × (List (Int × Bool × (List Int) × (List (Int × Int × Int × Int × Unit)) × (List (Int × Int × Int × Int × Unit)) × Unit)) × (List Int) × Bool × Int × Unit) × Bool × Unit) :=
  resume (E_impl_WorldNew k) 7 (acall (E_impl_WorldNew k) (arun Try.prog (E_impl_WorldNew k) k)) k [true, true, true] [] (bodyOf Try.f7) ⟨[.tv (.row tA5) x0, .undef, .ptr 0 0 0, .undef, .int .i64 x4, .undef, .undef, .undef, .undef, .undef, .undef, .undef, .undef, .undef, .undef, .undef, .undef, .undef, .undef, .undef, .undef, .undef, .undef, .undef, .undef, .undef, .undef, .undef, .undef, .undef, .undef, .undef, .undef, .undef], [some ⟨.raw true 6 (.agg [.nils, .nils, .nils, .nils, .bool false, .int .i64 0]) [.agg [.nils, .nils, .nils, .nils, .bool y0_0_4, .int .i64 y0_0_5]], true⟩]⟩ (leave (E_impl_WorldNew k) Try.f7 (finDT (.pair (.pair (.row tA5) (.pair (.row tA2) (.pair (.row tA3) (.pair (.row (.int .i64)) (.pair .bool (.pair (.int .i64) .unit)))))) (.pair .bool .unit))))
theorem impl_WorldNew.j4_e (k : Nat) (x0 : List (ByteArray × Int × Int × (List (Int × Int × Int × Int × Int × ByteArray × (List Int) × Unit)) × Unit)) (x4 : Int) (y0_0_4 : Bool) (y0_0_5 : Int) : impl_WorldNew.j4 k x0 x4 y0_0_4 y0_0_5 =
  bindO (impl_copyUnits k x0) fun r3 => (bindO (impl_frameNew k r3 x4 [] (-1)) fun r4 => (some ((r3, [([(r4.1, r4.2.1, r4.2.2.1, r4.2.2.2.1, ())], false, false, 1, 0, 0, (-1), (-1), ())], [], [], false, 0, ()), true, ()))) := by kernel_rfl
theorem impl_WorldNew_e (k : Nat) (a1 : List (ByteArray × Int × Int × (List (Int × Int × Int × Int × Int × ByteArray × (List Int) × Unit)) × Unit)) : impl_WorldNew k a1 =
  bindO (impl_unitAt k a1 (⟨#[109, 97, 105, 110]⟩ : ByteArray)) fun r1 => (bindO (impl_UnitsOk k a1) fun r2 => (iteB (!(!r2)) (iteB (!(decide (r1 < 0))) (iteB (decide (0 ≤ r1)) (iteB (decide (r1 < ((List.length a1) : Int))) (iteB (decide (((List.getD a1 (Int.toNat r1) (Ty.dflt tA5)).2).1 > 0)) (some (([], [], [], [], false, 0, ()), false, ())) (gate k (impl_WorldNew.j4 k a1 r1 false 0))) (none)) (none)) (some (([], [], [], [], false, 0, ()), false, ()))) (some (([], [], [], [], false, 0, ()), false, ())))) := by kernel_rfl
theorem E_impl_WorldNew_calls (k : Nat) : CallsOk Try.prog (E_impl_WorldNew k) (arun Try.prog (E_impl_WorldNew k) k) := by
  refine told_run (tyDTOk _ _) ?_ (fun run h => regOk (tyDTOk _ _) mixOk h) ?_ nameOk k
  · intro g m hg
    simp only [E_impl_WorldNew] at hg
    split at hg
    · cases hg
      refine con_byVal fun ρ l K x hm => ?_
      split at hm
      · obtain ⟨c1, h1, hm⟩ := Option.bind_eq_some_iff.1 hm
        obtain ⟨c2, h2, hm⟩ := Option.bind_eq_some_iff.1 hm
        obtain ⟨r, hr, hm⟩ := Option.bind_eq_some_iff.1 hm
        exact ⟨_, hm, LawV.reads (.cons (.as h1) (.cons (.as h2) .nil)) (impl_unitAt_law k c1 c2 r hr)⟩
      · cases hm
    · cases hg
      refine con_byVal fun ρ l K x hm => ?_
      split at hm
      · obtain ⟨c1, h1, hm⟩ := Option.bind_eq_some_iff.1 hm
        obtain ⟨r, hr, hm⟩ := Option.bind_eq_some_iff.1 hm
        exact ⟨_, hm, LawV.reads (.cons (.as h1) .nil) (impl_UnitsOk_law k c1 r hr)⟩
      · cases hm
    · cases hg
      refine con_byNew fun ρ l K x hm => ?_
      split at hm
      · obtain ⟨c1, h1, hm⟩ := Option.bind_eq_some_iff.1 hm
        obtain ⟨r, hr, hm⟩ := Option.bind_eq_some_iff.1 hm
        exact ⟨_, hm, LawD.reads (.cons (.as h1) .nil) (impl_copyUnits_law k c1 r hr)⟩
      · cases hm
    · cases hg
      refine con_byNew fun ρ l K x hm => ?_
      split at hm
      · obtain ⟨c1, h1, hm⟩ := Option.bind_eq_some_iff.1 hm
        obtain ⟨c2, h2, hm⟩ := Option.bind_eq_some_iff.1 hm
        obtain ⟨c3, h3, hm⟩ := Option.bind_eq_some_iff.1 hm
        obtain ⟨c4, h4, hm⟩ := Option.bind_eq_some_iff.1 hm
        obtain ⟨r, hr, hm⟩ := Option.bind_eq_some_iff.1 hm
        exact ⟨_, hm, LawD.reads (.cons (.as h1) (.cons (.as h2) (.cons (.as h3) (.cons (.as h4) .nil)))) (impl_frameNew_law k c1 c2 c3 c4 r hr)⟩
      · cases hm
    · cases hg; exact noCon_ok
    · cases hg
  · intro g hg r
    by_cases h : g = 7
    · subst h; simp [E_impl_WorldNew] at hg
    · simp [E_impl_WorldNew, h]
theorem f7_okimpl_WorldNew : Try.prog.funcs[7]? = some Try.f7 := by kernel_rfl
theorem impl_WorldNew_law (k : Nat) (a1 : List (ByteArray × Int × Int × (List (Int × Int × Int × Int × Int × ByteArray × (List Int) × Unit)) × Unit)) (x : ((List (ByteArray × Int × Int × (List (Int × Int × Int × Int × Int × ByteArray × (List Int) × Unit)) × Unit)) × (List ((List (Int × Int × (List Int) × Int × Unit)) × Bool × Bool × Int × Int × Int × Int × Int × Unit)) × (List (Int × Bool × (List Int) × (List (Int × Int × Int × Int × Unit)) × (List (Int × Int × Int × Int × Unit)) × Unit)) × (List Int) × Bool × Int × Unit) × Bool × Unit) (h : impl_WorldNew k a1 = some x) : LawDT Try.prog 7 [.tv (.row tA5) a1] (.pair (.pair (.row tA5) (.pair (.row tA2) (.pair (.row tA3) (.pair (.row (.int .i64)) (.pair .bool (.pair (.int .i64) .unit)))))) (.pair .bool .unit)) x := by
  unfold impl_WorldNew at h
  exact lawDT (t := (.pair (.pair (.row tA5) (.pair (.row tA2) (.pair (.row tA3) (.pair (.row (.int .i64)) (.pair .bool (.pair (.int .i64) .unit)))))) (.pair .bool .unit))) (tyDTOk _ _) (E_impl_WorldNew_calls k) mixOk f7_okimpl_WorldNew (nameOk _ _ f7_okimpl_WorldNew) (by kernel_rfl) h
/-! laws.eqIntS -/
noncomputable def E_laws_eqIntS (k : Nat) : Env := ⟨ty, fun g => match g with
  | 25 => some noCon
  | _ => none, fun f r => match f with | 25 => (match r with | 4 => some [0, 1, 5] | _ => none) | _ => none⟩
noncomputable def laws_eqIntS (k : Nat) (a1 : List Int) (a2 : List Int) : Option (Bool) :=
  abody (E_laws_eqIntS k) (arun Try.prog (E_laws_eqIntS k) k) k 25 Try.f25 [.tv (.row (.int .i64)) a1, .tv (.row (.int .i64)) a2] [] (fin1 .bool)
noncomputable def laws_eqIntS.l4 (k n : Nat) (x0 : List Int) (x1 : List Int) (x5 : Int) : Option (Bool) :=
  resume (E_laws_eqIntS k) 25 (acall (E_laws_eqIntS k) (arun Try.prog (E_laws_eqIntS k) k)) k [true, true, false, true, true] [n] (bodyOf Try.f25) ⟨[.tv (.row (.int .i64)) x0, .tv (.row (.int .i64)) x1, .undef, .undef, .undef, .int .i64 x5, .undef, .undef, .undef, .undef, .undef, .undef, .undef, .undef, .undef, .undef, .undef, .undef, .undef, .undef, .undef, .undef, .undef, .undef, .undef, .undef], []⟩ (leave (E_laws_eqIntS k) Try.f25 (fin1 .bool))
theorem laws_eqIntS.l4_0 (k : Nat) (x0 : List Int) (x1 : List Int) (x5 : Int) : laws_eqIntS.l4 k 0 x0 x1 x5 = none := by kernel_rfl
theorem laws_eqIntS.l4_s (k n : Nat) (x0 : List Int) (x1 : List Int) (x5 : Int) : laws_eqIntS.l4 k (n + 1) x0 x1 x5 =
  iteB (decide (x5 < ((List.length x0) : Int))) (iteB (decide (0 ≤ x5)) (iteB (decide (x5 < ((List.length x0) : Int))) (iteB (decide (0 ≤ x5)) (iteB (decide (x5 < ((List.length x1) : Int))) (iteB ((List.getD x0 (Int.toNat x5) 0) != (List.getD x1 (Int.toNat x5) 0)) (some false) (laws_eqIntS.l4 k n x0 x1 (IntKind.wrap .i64 (x5 + 1)))) (none)) (none)) (none)) (none)) (some true) := by kernel_rfl
theorem laws_eqIntS_e (k : Nat) (a1 : List Int) (a2 : List Int) : laws_eqIntS k a1 a2 =
  iteB (((List.length a1) : Int) != ((List.length a2) : Int)) (some false) (laws_eqIntS.l4 k k a1 a2 0) := by kernel_rfl
theorem E_laws_eqIntS_calls (k : Nat) : CallsOk Try.prog (E_laws_eqIntS k) (arun Try.prog (E_laws_eqIntS k) k) := by
  refine told_run (tyTOk _ _) ?_ (fun run h => regOk (tyTOk _ _) mixOk h) ?_ nameOk k
  · intro g m hg
    simp only [E_laws_eqIntS] at hg
    split at hg
    · cases hg; exact noCon_ok
    · cases hg
  · intro g hg r
    by_cases h : g = 25
    · subst h; simp [E_laws_eqIntS] at hg
    · simp [E_laws_eqIntS, h]
theorem f25_oklaws_eqIntS : Try.prog.funcs[25]? = some Try.f25 := by kernel_rfl
theorem laws_eqIntS_law (k : Nat) (a1 : List Int) (a2 : List Int) (x : Bool) (h : laws_eqIntS k a1 a2 = some x) : LawV Try.prog 25 [.tv (.row (.int .i64)) a1, .tv (.row (.int .i64)) a2] (tvn .bool x) := by
  unfold laws_eqIntS at h
  exact law1 (t := .bool) (tyTOk _ _) (E_laws_eqIntS_calls k) mixOk f25_oklaws_eqIntS (nameOk _ _ f25_oklaws_eqIntS) (by kernel_rfl) h
/-! laws.eqTac -/
noncomputable def E_laws_eqTac (k : Nat) : Env := ⟨ty, fun g => match g with
  | 25 => some (byVal fun ρ l K => match l with
    | [b1, b2] => (b1.as (.row (.int .i64))).bind fun c1 => (b2.as (.row (.int .i64))).bind fun c2 => (laws_eqIntS k c1 c2).bind fun r => K (tvn .bool r)
    | _ => none)
  | _ => none, fun _ _ => none⟩
noncomputable def laws_eqTac (k : Nat) (a1 : Int × Int × Int × Int × Int × ByteArray × (List Int) × Unit) (a2 : Int × Int × Int × Int × Int × ByteArray × (List Int) × Unit) : Option (Bool) :=
  abody (E_laws_eqTac k) (arun Try.prog (E_laws_eqTac k) k) k 69 Try.f69 [.tv tA4 a1, .tv tA4 a2] [] (fin1 .bool)
theorem laws_eqTac_e (k : Nat) (a1 : Int × Int × Int × Int × Int × ByteArray × (List Int) × Unit) (a2 : Int × Int × Int × Int × Int × ByteArray × (List Int) × Unit) : laws_eqTac k a1 a2 =
  iteB (a1.1 != a2.1) (some false) (iteB (a1.2.1 != a2.2.1) (some false) (iteB (a1.2.2.1 != a2.2.2.1) (some false) (iteB (a1.2.2.2.1 != a2.2.2.2.1) (some false) (iteB (a1.2.2.2.2.1 != a2.2.2.2.2.1) (some false) (iteB (!(ByteArray.toList a1.2.2.2.2.2.1 == ByteArray.toList a2.2.2.2.2.2.1)) (some false) (bindO (laws_eqIntS k a1.2.2.2.2.2.2.1 a2.2.2.2.2.2.2.1) fun r1 => (iteB (!r1) (some false) (some true)))))))) := by kernel_rfl
theorem E_laws_eqTac_calls (k : Nat) : CallsOk Try.prog (E_laws_eqTac k) (arun Try.prog (E_laws_eqTac k) k) := by
  refine told_run (tyTOk _ _) ?_ (fun run h => regOk (tyTOk _ _) mixOk h) ?_ nameOk k
  · intro g m hg
    simp only [E_laws_eqTac] at hg
    split at hg
    · cases hg
      refine con_byVal fun ρ l K x hm => ?_
      split at hm
      · obtain ⟨c1, h1, hm⟩ := Option.bind_eq_some_iff.1 hm
        obtain ⟨c2, h2, hm⟩ := Option.bind_eq_some_iff.1 hm
        obtain ⟨r, hr, hm⟩ := Option.bind_eq_some_iff.1 hm
        exact ⟨_, hm, LawV.reads (.cons (.as h1) (.cons (.as h2) .nil)) (laws_eqIntS_law k c1 c2 r hr)⟩
      · cases hm
    · cases hg
  · intro g _ r; rfl
theorem f69_oklaws_eqTac : Try.prog.funcs[69]? = some Try.f69 := by kernel_rfl
theorem laws_eqTac_law (k : Nat) (a1 : Int × Int × Int × Int × Int × ByteArray × (List Int) × Unit) (a2 : Int × Int × Int × Int × Int × ByteArray × (List Int) × Unit) (x : Bool) (h : laws_eqTac k a1 a2 = some x) : LawV Try.prog 69 [.tv tA4 a1, .tv tA4 a2] (tvn .bool x) := by
  unfold laws_eqTac at h
  exact law1 (t := .bool) (tyTOk _ _) (E_laws_eqTac_calls k) mixOk f69_oklaws_eqTac (nameOk _ _ f69_oklaws_eqTac) (by kernel_rfl) h
/-! laws.eqTacS -/
noncomputable def E_laws_eqTacS (k : Nat) : Env := ⟨ty, fun g => match g with
  | 69 => some (byVal fun ρ l K => match l with
    | [b1, b2] => (b1.as tA4).bind fun c1 => (b2.as tA4).bind fun c2 => (laws_eqTac k c1 c2).bind fun r => K (tvn .bool r)
    | _ => none)
  | 47 => some noCon
  | _ => none, fun f r => match f with | 47 => (match r with | 4 => some [0, 1, 5] | _ => none) | _ => none⟩
noncomputable def laws_eqTacS (k : Nat) (a1 : List (Int × Int × Int × Int × Int × ByteArray × (List Int) × Unit)) (a2 : List (Int × Int × Int × Int × Int × ByteArray × (List Int) × Unit)) : Option (Bool) :=
  abody (E_laws_eqTacS k) (arun Try.prog (E_laws_eqTacS k) k) k 47 Try.f47 [.tv (.row tA4) a1, .tv (.row tA4) a2] [] (fin1 .bool)
noncomputable def laws_eqTacS.l4 (k n : Nat) (x0 : List (Int × Int × Int × Int × Int × ByteArray × (List Int) × Unit)) (x1 : List (Int × Int × Int × Int × Int × ByteArray × (List Int) × Unit)) (x5 : Int) : Option (Bool) :=
  resume (E_laws_eqTacS k) 47 (acall (E_laws_eqTacS k) (arun Try.prog (E_laws_eqTacS k) k)) k [true, true, false, true, true] [n] (bodyOf Try.f47) ⟨[.tv (.row tA4) x0, .tv (.row tA4) x1, .undef, .undef, .undef, .int .i64 x5, .undef, .undef, .undef, .undef, .undef, .undef, .undef, .undef, .undef, .undef, .undef, .undef, .undef, .undef, .undef, .undef, .undef, .undef, .undef, .undef, .undef], []⟩ (leave (E_laws_eqTacS k) Try.f47 (fin1 .bool))
theorem laws_eqTacS.l4_0 (k : Nat) (x0 : List (Int × Int × Int × Int × Int × ByteArray × (List Int) × Unit)) (x1 : List (Int × Int × Int × Int × Int × ByteArray × (List Int) × Unit)) (x5 : Int) : laws_eqTacS.l4 k 0 x0 x1 x5 = none := by kernel_rfl
theorem laws_eqTacS.l4_s (k n : Nat) (x0 : List (Int × Int × Int × Int × Int × ByteArray × (List Int) × Unit)) (x1 : List (Int × Int × Int × Int × Int × ByteArray × (List Int) × Unit)) (x5 : Int) : laws_eqTacS.l4 k (n + 1) x0 x1 x5 =
  iteB (decide (x5 < ((List.length x0) : Int))) (iteB (decide (0 ≤ x5)) (iteB (decide (x5 < ((List.length x0) : Int))) (iteB (decide (0 ≤ x5)) (iteB (decide (x5 < ((List.length x1) : Int))) (bindO (laws_eqTac k (List.getD x0 (Int.toNat x5) (Ty.dflt tA4)) (List.getD x1 (Int.toNat x5) (Ty.dflt tA4))) fun r1 => (iteB (!r1) (some false) (laws_eqTacS.l4 k n x0 x1 (IntKind.wrap .i64 (x5 + 1))))) (none)) (none)) (none)) (none)) (some true) := by kernel_rfl
theorem laws_eqTacS_e (k : Nat) (a1 : List (Int × Int × Int × Int × Int × ByteArray × (List Int) × Unit)) (a2 : List (Int × Int × Int × Int × Int × ByteArray × (List Int) × Unit)) : laws_eqTacS k a1 a2 =
  iteB (((List.length a1) : Int) != ((List.length a2) : Int)) (some false) (laws_eqTacS.l4 k k a1 a2 0) := by kernel_rfl
theorem E_laws_eqTacS_calls (k : Nat) : CallsOk Try.prog (E_laws_eqTacS k) (arun Try.prog (E_laws_eqTacS k) k) := by
  refine told_run (tyTOk _ _) ?_ (fun run h => regOk (tyTOk _ _) mixOk h) ?_ nameOk k
  · intro g m hg
    simp only [E_laws_eqTacS] at hg
    split at hg
    · cases hg
      refine con_byVal fun ρ l K x hm => ?_
      split at hm
      · obtain ⟨c1, h1, hm⟩ := Option.bind_eq_some_iff.1 hm
        obtain ⟨c2, h2, hm⟩ := Option.bind_eq_some_iff.1 hm
        obtain ⟨r, hr, hm⟩ := Option.bind_eq_some_iff.1 hm
        exact ⟨_, hm, LawV.reads (.cons (.as h1) (.cons (.as h2) .nil)) (laws_eqTac_law k c1 c2 r hr)⟩
      · cases hm
    · cases hg; exact noCon_ok
    · cases hg
  · intro g hg r
    by_cases h : g = 47
    · subst h; simp [E_laws_eqTacS] at hg
    · simp [E_laws_eqTacS, h]
theorem f47_oklaws_eqTacS : Try.prog.funcs[47]? = some Try.f47 := by kernel_rfl
theorem laws_eqTacS_law (k : Nat) (a1 : List (Int × Int × Int × Int × Int × ByteArray × (List Int) × Unit)) (a2 : List (Int × Int × Int × Int × Int × ByteArray × (List Int) × Unit)) (x : Bool) (h : laws_eqTacS k a1 a2 = some x) : LawV Try.prog 47 [.tv (.row tA4) a1, .tv (.row tA4) a2] (tvn .bool x) := by
  unfold laws_eqTacS at h
  exact law1 (t := .bool) (tyTOk _ _) (E_laws_eqTacS_calls k) mixOk f47_oklaws_eqTacS (nameOk _ _ f47_oklaws_eqTacS) (by kernel_rfl) h
/-! laws.eqUnit -/
noncomputable def E_laws_eqUnit (k : Nat) : Env := ⟨ty, fun g => match g with
  | 47 => some (byVal fun ρ l K => match l with
    | [b1, b2] => (b1.as (.row tA4)).bind fun c1 => (b2.as (.row tA4)).bind fun c2 => (laws_eqTacS k c1 c2).bind fun r => K (tvn .bool r)
    | _ => none)
  | _ => none, fun _ _ => none⟩
noncomputable def laws_eqUnit (k : Nat) (a1 : ByteArray × Int × Int × (List (Int × Int × Int × Int × Int × ByteArray × (List Int) × Unit)) × Unit) (a2 : ByteArray × Int × Int × (List (Int × Int × Int × Int × Int × ByteArray × (List Int) × Unit)) × Unit) : Option (Bool) :=
  abody (E_laws_eqUnit k) (arun Try.prog (E_laws_eqUnit k) k) k 26 Try.f26 [.tv tA5 a1, .tv tA5 a2] [] (fin1 .bool)
theorem laws_eqUnit_e (k : Nat) (a1 : ByteArray × Int × Int × (List (Int × Int × Int × Int × Int × ByteArray × (List Int) × Unit)) × Unit) (a2 : ByteArray × Int × Int × (List (Int × Int × Int × Int × Int × ByteArray × (List Int) × Unit)) × Unit) : laws_eqUnit k a1 a2 =
  iteB (!(ByteArray.toList a1.1 == ByteArray.toList a2.1)) (some false) (iteB (a1.2.1 != a2.2.1) (some false) (iteB (a1.2.2.1 != a2.2.2.1) (some false) (bindO (laws_eqTacS k a1.2.2.2.1 a2.2.2.2.1) fun r1 => (iteB (!r1) (some false) (some true))))) := by kernel_rfl
theorem E_laws_eqUnit_calls (k : Nat) : CallsOk Try.prog (E_laws_eqUnit k) (arun Try.prog (E_laws_eqUnit k) k) := by
  refine told_run (tyTOk _ _) ?_ (fun run h => regOk (tyTOk _ _) mixOk h) ?_ nameOk k
  · intro g m hg
    simp only [E_laws_eqUnit] at hg
    split at hg
    · cases hg
      refine con_byVal fun ρ l K x hm => ?_
      split at hm
      · obtain ⟨c1, h1, hm⟩ := Option.bind_eq_some_iff.1 hm
        obtain ⟨c2, h2, hm⟩ := Option.bind_eq_some_iff.1 hm
        obtain ⟨r, hr, hm⟩ := Option.bind_eq_some_iff.1 hm
        exact ⟨_, hm, LawV.reads (.cons (.as h1) (.cons (.as h2) .nil)) (laws_eqTacS_law k c1 c2 r hr)⟩
      · cases hm
    · cases hg
  · intro g _ r; rfl
theorem f26_oklaws_eqUnit : Try.prog.funcs[26]? = some Try.f26 := by kernel_rfl
theorem laws_eqUnit_law (k : Nat) (a1 : ByteArray × Int × Int × (List (Int × Int × Int × Int × Int × ByteArray × (List Int) × Unit)) × Unit) (a2 : ByteArray × Int × Int × (List (Int × Int × Int × Int × Int × ByteArray × (List Int) × Unit)) × Unit) (x : Bool) (h : laws_eqUnit k a1 a2 = some x) : LawV Try.prog 26 [.tv tA5 a1, .tv tA5 a2] (tvn .bool x) := by
  unfold laws_eqUnit at h
  exact law1 (t := .bool) (tyTOk _ _) (E_laws_eqUnit_calls k) mixOk f26_oklaws_eqUnit (nameOk _ _ f26_oklaws_eqUnit) (by kernel_rfl) h
end Go.Proofs.Ytajlenpookikoaa.XFnExactWorldNew
