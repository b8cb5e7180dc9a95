/- Functions of the program as runs of the interpreter: equations, and a law for each. -/
import Derived.Test.YtpjnebmccoojpaaGreatProg
import Derived.Test.YtpjnebmccoojpaaGreatChecked
import Derived.KernelRfl
import Derived.Eval
import Derived.Test.YtpjnebmccoojpaaGreatATyOk
import Derived.Test.YtpjnebmccoojpaaGreatAS33
import Derived.Test.YtpjnebmccoojpaaGreatAMFnExactWorldOk2
import Derived.Test.YtpjnebmccoojpaaGreatAMFnExactWorldOk3
open Go Go.AM Go.AMx Go.Proofs
namespace Go.Proofs.YtpjnebmccoojpaaGreat.XFnExactWorldOk
set_option linter.unusedVariables false
set_option linter.unusedSimpArgs false
/-! impl.UnitsOk -/
noncomputable def E_impl_UnitsOk (k : Nat) : Env := ⟨ty, fun g => match g with
  | 46 => some (byVal fun ρ l K => match l with
    | [b1] => (b1.as (.pair .str (.pair (.int .i64) (.pair (.int .i64) (.pair (.row (.pair (.int .i64) (.pair (.int .i64) (.pair (.int .i64) (.pair (.int .i64) (.pair (.int .i64) (.pair .str (.pair (.row (.int .i64)) .unit)))))))) .unit))))).bind fun c1 => (impl_UnitOk k c1).bind fun r => K (tvn .bool r)
    | _ => none)
  | 47 => some (byVal fun ρ l K => match l with
    | [b1, b2] => (b1.as (.row (.pair .str (.pair (.int .i64) (.pair (.int .i64) (.pair (.row (.pair (.int .i64) (.pair (.int .i64) (.pair (.int .i64) (.pair (.int .i64) (.pair (.int .i64) (.pair .str (.pair (.row (.int .i64)) .unit)))))))) .unit)))))).bind fun c1 => (b2.as .str).bind fun c2 => (impl_unitAt k c1 c2).bind fun r => K (tvn (.int .i64) r)
    | _ => none)
  | 48 => some (byVal fun ρ l K => match l with
    | [b1, b2] => (b1.as (.int .i64)).bind fun c1 => (b2.as (.int .u8)).bind fun c2 => (impl_owned k c1 c2).bind fun r => K (tvn .bool r)
    | _ => none)
  | 23 => some noCon
  | _ => none, fun f r => match f with | 23 => (match r with | 4 => some [0, 11, 12, 13] | 8 => some [0, 4, 11, 12, 13] | 9 => some [0, 11, 12, 13, 30, 31, 32] | _ => none) | _ => none⟩
noncomputable def impl_UnitsOk (k : Nat) (a1 : List (ByteArray × Int × Int × (List (Int × Int × Int × Int × Int × ByteArray × (List Int) × Unit)) × Unit)) : Option (Bool) :=
  abody (E_impl_UnitsOk k) (arun Tryz.prog (E_impl_UnitsOk k) k) k 23 Tryz.f23 [.tv (.row (.pair .str (.pair (.int .i64) (.pair (.int .i64) (.pair (.row (.pair (.int .i64) (.pair (.int .i64) (.pair (.int .i64) (.pair (.int .i64) (.pair (.int .i64) (.pair .str (.pair (.row (.int .i64)) .unit)))))))) .unit))))) a1] [] (fin1 .bool)
noncomputable def impl_UnitsOk.l4 (k n : Nat) (x0 : List (ByteArray × Int × Int × (List (Int × Int × Int × Int × Int × ByteArray × (List Int) × Unit)) × Unit)) (x11 : List (ByteArray × Int × Int × (List (Int × Int × Int × Int × Int × ByteArray × (List Int) × Unit)) × Unit)) (x12 : Int) (x13 : Int) : Option (Bool) :=
  resume (E_impl_UnitsOk k) 23 (acall (E_impl_UnitsOk k) (arun Tryz.prog (E_impl_UnitsOk k) k)) k [true, true, false, true, true] [n] (bodyOf Tryz.f23) ⟨[.tv (.row (.pair .str (.pair (.int .i64) (.pair (.int .i64) (.pair (.row (.pair (.int .i64) (.pair (.int .i64) (.pair (.int .i64) (.pair (.int .i64) (.pair (.int .i64) (.pair .str (.pair (.row (.int .i64)) .unit)))))))) .unit))))) x0, .undef, .undef, .undef, .undef, .undef, .undef, .undef, .undef, .undef, .undef, .tv (.row (.pair .str (.pair (.int .i64) (.pair (.int .i64) (.pair (.row (.pair (.int .i64) (.pair (.int .i64) (.pair (.int .i64) (.pair (.int .i64) (.pair (.int .i64) (.pair .str (.pair (.row (.int .i64)) .unit)))))))) .unit))))) x11, .int .i64 x12, .int .i64 x13, .undef, .undef, .undef, .undef, .undef, .undef, .undef, .undef, .undef, .undef, .undef, .undef, .undef, .undef, .undef, .undef, .undef, .undef, .undef, .undef, .undef, .undef, .undef, .undef, .undef, .undef, .undef, .undef, .undef, .undef, .undef, .undef, .undef, .undef, .undef, .undef, .undef, .undef, .undef, .undef, .undef, .undef, .undef, .undef, .undef, .undef, .undef, .undef, .undef, .undef], []⟩ (leave (E_impl_UnitsOk k) Tryz.f23 (fin1 .bool))
noncomputable def impl_UnitsOk.j8 (k m4 : Nat) (x0 : List (ByteArray × Int × Int × (List (Int × Int × Int × Int × Int × ByteArray × (List Int) × Unit)) × Unit)) (x11 : List (ByteArray × Int × Int × (List (Int × Int × Int × Int × Int × ByteArray × (List Int) × Unit)) × Unit)) (x12 : Int) (x13 : Int) (y0_0 : ByteArray × Int × Int × (List (Int × Int × Int × Int × Int × ByteArray × (List Int) × Unit)) × Unit) : Option (Bool) :=
  resume (E_impl_UnitsOk k) 23 (acall (E_impl_UnitsOk k) (arun Tryz.prog (E_impl_UnitsOk k) k)) k [true, true, false, true, true, true, true, true, false, true, true, true] [m4] (bodyOf Tryz.f23) ⟨[.tv (.row (.pair .str (.pair (.int .i64) (.pair (.int .i64) (.pair (.row (.pair (.int .i64) (.pair (.int .i64) (.pair (.int .i64) (.pair (.int .i64) (.pair (.int .i64) (.pair .str (.pair (.row (.int .i64)) .unit)))))))) .unit))))) x0, .undef, .undef, .undef, .ptr 0 0 0, .undef, .undef, .undef, .undef, .undef, .undef, .tv (.row (.pair .str (.pair (.int .i64) (.pair (.int .i64) (.pair (.row (.pair (.int .i64) (.pair (.int .i64) (.pair (.int .i64) (.pair (.int .i64) (.pair (.int .i64) (.pair .str (.pair (.row (.int .i64)) .unit)))))))) .unit))))) x11, .int .i64 x12, .int .i64 x13, .undef, .undef, .undef, .undef, .undef, .undef, .undef, .undef, .undef, .undef, .undef, .undef, .undef, .undef, .undef, .undef, .undef, .undef, .undef, .undef, .undef, .undef, .undef, .undef, .undef, .undef, .undef, .undef, .undef, .undef, .undef, .undef, .undef, .undef, .undef, .undef, .undef, .undef, .undef, .undef, .undef, .undef, .undef, .undef, .undef, .undef, .undef, .undef, .undef, .undef], [some ⟨.raw true 4 (.agg [.str ByteArray.empty, .int .i64 0, .int .i64 0, .nils]) [.tv (.pair .str (.pair (.int .i64) (.pair (.int .i64) (.pair (.row (.pair (.int .i64) (.pair (.int .i64) (.pair (.int .i64) (.pair (.int .i64) (.pair (.int .i64) (.pair .str (.pair (.row (.int .i64)) .unit)))))))) .unit)))) y0_0], true⟩]⟩ (leave (E_impl_UnitsOk k) Tryz.f23 (fin1 .bool))
noncomputable def impl_UnitsOk.l9 (k m4 n : Nat) (x0 : List (ByteArray × Int × Int × (List (Int × Int × Int × Int × Int × ByteArray × (List Int) × Unit)) × Unit)) (x11 : List (ByteArray × Int × Int × (List (Int × Int × Int × Int × Int × ByteArray × (List Int) × Unit)) × Unit)) (x12 : Int) (x13 : Int) (x30 : List (Int × Int × Int × Int × Int × ByteArray × (List Int) × Unit)) (x31 : Int) (x32 : Int) : Option (Bool) :=
  resume (E_impl_UnitsOk k) 23 (acall (E_impl_UnitsOk k) (arun Tryz.prog (E_impl_UnitsOk k) k)) k [true, true, false, true, true, true, true, true, false, true, true, true, true, true] [m4, n] (bodyOf Tryz.f23) ⟨[.tv (.row (.pair .str (.pair (.int .i64) (.pair (.int .i64) (.pair (.row (.pair (.int .i64) (.pair (.int .i64) (.pair (.int .i64) (.pair (.int .i64) (.pair (.int .i64) (.pair .str (.pair (.row (.int .i64)) .unit)))))))) .unit))))) x0, .undef, .undef, .undef, .undef, .undef, .undef, .undef, .undef, .undef, .undef, .tv (.row (.pair .str (.pair (.int .i64) (.pair (.int .i64) (.pair (.row (.pair (.int .i64) (.pair (.int .i64) (.pair (.int .i64) (.pair (.int .i64) (.pair (.int .i64) (.pair .str (.pair (.row (.int .i64)) .unit)))))))) .unit))))) x11, .int .i64 x12, .int .i64 x13, .undef, .undef, .undef, .undef, .undef, .undef, .undef, .undef, .undef, .undef, .undef, .undef, .undef, .undef, .undef, .undef, .tv (.row (.pair (.int .i64) (.pair (.int .i64) (.pair (.int .i64) (.pair (.int .i64) (.pair (.int .i64) (.pair .str (.pair (.row (.int .i64)) .unit)))))))) x30, .int .i64 x31, .int .i64 x32, .undef, .undef, .undef, .undef, .undef, .undef, .undef, .undef, .undef, .undef, .undef, .undef, .undef, .undef, .undef, .undef, .undef, .undef, .undef, .undef, .undef, .undef, .undef, .undef, .undef, .undef, .undef, .undef, .undef, .undef, .undef], []⟩ (leave (E_impl_UnitsOk k) Tryz.f23 (fin1 .bool))
theorem impl_UnitsOk.l4_0 (k : Nat) (x0 : List (ByteArray × Int × Int × (List (Int × Int × Int × Int × Int × ByteArray × (List Int) × Unit)) × Unit)) (x11 : List (ByteArray × Int × Int × (List (Int × Int × Int × Int × Int × ByteArray × (List Int) × Unit)) × Unit)) (x12 : Int) (x13 : Int) : impl_UnitsOk.l4 k 0 x0 x11 x12 x13 = none := by kernel_rfl
theorem impl_UnitsOk.l4_s (k n : Nat) (x0 : List (ByteArray × Int × Int × (List (Int × Int × Int × Int × Int × ByteArray × (List Int) × Unit)) × Unit)) (x11 : List (ByteArray × Int × Int × (List (Int × Int × Int × Int × Int × ByteArray × (List Int) × Unit)) × Unit)) (x12 : Int) (x13 : Int) : impl_UnitsOk.l4 k (n + 1) x0 x11 x12 x13 =
  iteB (decide (x13 < x12)) (iteB (decide (0 ≤ x13)) (iteB (decide (x13 < ((List.length x11) : Int))) (bindO (impl_UnitOk k (List.getD x11 (Int.toNat x13) (Ty.dflt (.pair .str (.pair (.int .i64) (.pair (.int .i64) (.pair (.row (.pair (.int .i64) (.pair (.int .i64) (.pair (.int .i64) (.pair (.int .i64) (.pair (.int .i64) (.pair .str (.pair (.row (.int .i64)) .unit)))))))) .unit))))))) fun r1 => (iteB (!(!r1)) (bindO (impl_unitAt k x0 ((List.getD x11 (Int.toNat x13) (Ty.dflt (.pair .str (.pair (.int .i64) (.pair (.int .i64) (.pair (.row (.pair (.int .i64) (.pair (.int .i64) (.pair (.int .i64) (.pair (.int .i64) (.pair (.int .i64) (.pair .str (.pair (.row (.int .i64)) .unit)))))))) .unit)))))).1)) fun r2 => (iteB (r2 != x13) (some false) (gate k (impl_UnitsOk.j8 k n x0 x11 x12 x13 (List.getD x11 (Int.toNat x13) (Ty.dflt (.pair .str (.pair (.int .i64) (.pair (.int .i64) (.pair (.row (.pair (.int .i64) (.pair (.int .i64) (.pair (.int .i64) (.pair (.int .i64) (.pair (.int .i64) (.pair .str (.pair (.row (.int .i64)) .unit)))))))) .unit)))))))))) (some false))) (none)) (none)) (some true) := by kernel_rfl
theorem impl_UnitsOk.j8_e (k m4 : Nat) (x0 : List (ByteArray × Int × Int × (List (Int × Int × Int × Int × Int × ByteArray × (List Int) × Unit)) × Unit)) (x11 : List (ByteArray × Int × Int × (List (Int × Int × Int × Int × Int × ByteArray × (List Int) × Unit)) × Unit)) (x12 : Int) (x13 : Int) (y0_0 : ByteArray × Int × Int × (List (Int × Int × Int × Int × Int × ByteArray × (List Int) × Unit)) × Unit) : impl_UnitsOk.j8 k m4 x0 x11 x12 x13 y0_0 =
  impl_UnitsOk.l9 k m4 k x0 x11 x12 x13 y0_0.2.2.2.1 ((List.length y0_0.2.2.2.1) : Int) 0 := by kernel_rfl
theorem impl_UnitsOk.l9_0 (k m4 : Nat) (x0 : List (ByteArray × Int × Int × (List (Int × Int × Int × Int × Int × ByteArray × (List Int) × Unit)) × Unit)) (x11 : List (ByteArray × Int × Int × (List (Int × Int × Int × Int × Int × ByteArray × (List Int) × Unit)) × Unit)) (x12 : Int) (x13 : Int) (x30 : List (Int × Int × Int × Int × Int × ByteArray × (List Int) × Unit)) (x31 : Int) (x32 : Int) : impl_UnitsOk.l9 k m4 0 x0 x11 x12 x13 x30 x31 x32 = none := by kernel_rfl
theorem impl_UnitsOk.l9_s (k m4 n : Nat) (x0 : List (ByteArray × Int × Int × (List (Int × Int × Int × Int × Int × ByteArray × (List Int) × Unit)) × Unit)) (x11 : List (ByteArray × Int × Int × (List (Int × Int × Int × Int × Int × ByteArray × (List Int) × Unit)) × Unit)) (x12 : Int) (x13 : Int) (x30 : List (Int × Int × Int × Int × Int × ByteArray × (List Int) × Unit)) (x31 : Int) (x32 : Int) : impl_UnitsOk.l9 k m4 (n + 1) x0 x11 x12 x13 x30 x31 x32 =
  iteB (decide (x32 < x31)) (iteB (decide (0 ≤ x32)) (iteB (decide (x32 < ((List.length x30) : Int))) (bindO (impl_owned k ((List.getD x30 (Int.toNat x32) (Ty.dflt (.pair (.int .i64) (.pair (.int .i64) (.pair (.int .i64) (.pair (.int .i64) (.pair (.int .i64) (.pair .str (.pair (.row (.int .i64)) .unit))))))))).1) 83) fun r3 => (iteB (!r3) (impl_UnitsOk.l9 k m4 n x0 x11 x12 x13 x30 x31 (IntKind.wrap .i64 (x32 + 1))) (bindO (impl_unitAt k x0 (((((((List.getD x30 (Int.toNat x32) (Ty.dflt (.pair (.int .i64) (.pair (.int .i64) (.pair (.int .i64) (.pair (.int .i64) (.pair (.int .i64) (.pair .str (.pair (.row (.int .i64)) .unit))))))))).2).2).2).2).2).1)) fun r4 => (iteB (!(decide (r4 < 0))) (iteB (((List.getD x30 (Int.toNat x32) (Ty.dflt (.pair (.int .i64) (.pair (.int .i64) (.pair (.int .i64) (.pair (.int .i64) (.pair (.int .i64) (.pair .str (.pair (.row (.int .i64)) .unit))))))))).1) != 24) (iteB (decide (0 ≤ r4)) (iteB (decide (r4 < ((List.length x0) : Int))) (iteB (((List.length ((((((((List.getD x30 (Int.toNat x32) (Ty.dflt (.pair (.int .i64) (.pair (.int .i64) (.pair (.int .i64) (.pair (.int .i64) (.pair (.int .i64) (.pair .str (.pair (.row (.int .i64)) .unit))))))))).2).2).2).2).2).2).1)) : Int) != (((List.getD x0 (Int.toNat r4) (Ty.dflt (.pair .str (.pair (.int .i64) (.pair (.int .i64) (.pair (.row (.pair (.int .i64) (.pair (.int .i64) (.pair (.int .i64) (.pair (.int .i64) (.pair (.int .i64) (.pair .str (.pair (.row (.int .i64)) .unit)))))))) .unit)))))).2).1)) (some false) (impl_UnitsOk.l9 k m4 n x0 x11 x12 x13 x30 x31 (IntKind.wrap .i64 (x32 + 1)))) (none)) (none)) (impl_UnitsOk.l9 k m4 n x0 x11 x12 x13 x30 x31 (IntKind.wrap .i64 (x32 + 1)))) (some false))))) (none)) (none)) (impl_UnitsOk.l4 k m4 x0 x11 x12 (IntKind.wrap .i64 (x13 + 1))) := by kernel_rfl
theorem impl_UnitsOk_e (k : Nat) (a1 : List (ByteArray × Int × Int × (List (Int × Int × Int × Int × Int × ByteArray × (List Int) × Unit)) × Unit)) : impl_UnitsOk k a1 =
  iteB (decide (((List.length a1) : Int) > 80)) (some false) (impl_UnitsOk.l4 k k a1 a1 ((List.length a1) : Int) 0) := by kernel_rfl
theorem E_impl_UnitsOk_calls (k : Nat) : CallsOk Tryz.prog (E_impl_UnitsOk k) (arun Tryz.prog (E_impl_UnitsOk k) k) := by
  refine told_run (tyTOk _ _) ?_ (fun run h => regOk (tyTOk _ _) mixOk h) ?_ nameOk k
  · intro g m hg
    simp only [E_impl_UnitsOk] at hg
    split at hg
    · cases hg
      refine con_byVal fun ρ l K x hm => ?_
      split at hm
      · obtain ⟨c1, h1, hm⟩ := Option.bind_eq_some_iff.1 hm
        obtain ⟨r, hr, hm⟩ := Option.bind_eq_some_iff.1 hm
        exact ⟨_, hm, LawV.reads (.cons (.as h1) .nil) (impl_UnitOk_law k c1 r hr)⟩
      · cases hm
    · cases hg
      refine con_byVal fun ρ l K x hm => ?_
      split at hm
      · obtain ⟨c1, h1, hm⟩ := Option.bind_eq_some_iff.1 hm
        obtain ⟨c2, h2, hm⟩ := Option.bind_eq_some_iff.1 hm
        obtain ⟨r, hr, hm⟩ := Option.bind_eq_some_iff.1 hm
        exact ⟨_, hm, LawV.reads (.cons (.as h1) (.cons (.as h2) .nil)) (impl_unitAt_law k c1 c2 r hr)⟩
      · cases hm
    · cases hg
      refine con_byVal fun ρ l K x hm => ?_
      split at hm
      · obtain ⟨c1, h1, hm⟩ := Option.bind_eq_some_iff.1 hm
        obtain ⟨c2, h2, hm⟩ := Option.bind_eq_some_iff.1 hm
        obtain ⟨r, hr, hm⟩ := Option.bind_eq_some_iff.1 hm
        exact ⟨_, hm, LawV.reads (.cons (.as h1) (.cons (.as h2) .nil)) (impl_owned_law k c1 c2 r hr)⟩
      · cases hm
    · cases hg; exact noCon_ok
    · cases hg
  · intro g hg r
    by_cases h : g = 23
    · subst h; simp [E_impl_UnitsOk] at hg
    · simp [E_impl_UnitsOk, h]
theorem f23_okimpl_UnitsOk : Tryz.prog.funcs[23]? = some Tryz.f23 := by kernel_rfl
theorem impl_UnitsOk_law (k : Nat) (a1 : List (ByteArray × Int × Int × (List (Int × Int × Int × Int × Int × ByteArray × (List Int) × Unit)) × Unit)) (x : Bool) (h : impl_UnitsOk k a1 = some x) : LawV Tryz.prog 23 [.tv (.row (.pair .str (.pair (.int .i64) (.pair (.int .i64) (.pair (.row (.pair (.int .i64) (.pair (.int .i64) (.pair (.int .i64) (.pair (.int .i64) (.pair (.int .i64) (.pair .str (.pair (.row (.int .i64)) .unit)))))))) .unit))))) a1] (tvn .bool x) := by
  unfold impl_UnitsOk at h
  exact law1 (t := .bool) (tyTOk _ _) (E_impl_UnitsOk_calls k) mixOk f23_okimpl_UnitsOk (nameOk _ _ f23_okimpl_UnitsOk) (by kernel_rfl) h
/-! impl.wordsOk$1 -/
noncomputable def E_impl_wordsOk_1 (k : Nat) : Env := ⟨ty, fun g => match g with
  | 32 => some (byVal fun ρ l K => match l with
    | [b1] => (b1.as (.int .i64)).bind fun c1 => (impl_WordOk k c1).bind fun r => K (tvn .bool r)
    | _ => none)
  | _ => none, fun _ _ => none⟩
noncomputable def impl_wordsOk_1 (k : Nat) (a1 : Int) : Option (Bool) :=
  abody (E_impl_wordsOk_1 k) (arun Tryz.prog (E_impl_wordsOk_1 k) k) k 57 Tryz.f57 [.int .i64 a1] [] (fin1 .bool)
theorem impl_wordsOk_1_e (k : Nat) (a1 : Int) : impl_wordsOk_1 k a1 =
  bindO (impl_WordOk k a1) fun r1 => (some (!r1)) := by kernel_rfl
theorem E_impl_wordsOk_1_calls (k : Nat) : CallsOk Tryz.prog (E_impl_wordsOk_1 k) (arun Tryz.prog (E_impl_wordsOk_1 k) k) := by
  refine told_run (tyTOk _ _) ?_ (fun run h => regOk (tyTOk _ _) mixOk h) ?_ nameOk k
  · intro g m hg
    simp only [E_impl_wordsOk_1] at hg
    split at hg
    · cases hg
      refine con_byVal fun ρ l K x hm => ?_
      split at hm
      · obtain ⟨c1, h1, hm⟩ := Option.bind_eq_some_iff.1 hm
        obtain ⟨r, hr, hm⟩ := Option.bind_eq_some_iff.1 hm
        exact ⟨_, hm, LawV.reads (.cons (.as h1) .nil) (impl_WordOk_law k c1 r hr)⟩
      · cases hm
    · cases hg
  · intro g _ r; rfl
theorem f57_okimpl_wordsOk_1 : Tryz.prog.funcs[57]? = some Tryz.f57 := by kernel_rfl
theorem impl_wordsOk_1_law (k : Nat) (a1 : Int) (x : Bool) (h : impl_wordsOk_1 k a1 = some x) : LawV Tryz.prog 57 [.int .i64 a1] (tvn .bool x) := by
  unfold impl_wordsOk_1 at h
  exact law1 (t := .bool) (tyTOk _ _) (E_impl_wordsOk_1_calls k) mixOk f57_okimpl_wordsOk_1 (nameOk _ _ f57_okimpl_wordsOk_1) (by kernel_rfl) h
/-! slices.IndexFunc[[]int,int] -/
noncomputable def E_slices_IndexFunc_int__impl_wordsOk_1 (k : Nat) : Env := ⟨ty, fun g => match g with
  | 57 => some (byVal fun ρ l K => match l with
    | [b1] => (b1.as (.int .i64)).bind fun c1 => (impl_wordsOk_1 k c1).bind fun r => K (tvn .bool r)
    | _ => none)
  | 80 => some noCon
  | _ => none, fun f r => match f with | 80 => (match r with | 2 => some [0, 1, 7, 8] | _ => none) | _ => none⟩
noncomputable def slices_IndexFunc_int__impl_wordsOk_1 (k : Nat) (a1 : List Int) : Option (Int) :=
  abody (E_slices_IndexFunc_int__impl_wordsOk_1 k) (arun Tryz.prog (E_slices_IndexFunc_int__impl_wordsOk_1 k) k) k 80 Tryz.f80 [.tv (.row (.int .i64)) a1, .fn 57 []] [] (fin1 (.int .i64))
noncomputable def slices_IndexFunc_int__impl_wordsOk_1.l2 (k n : Nat) (x0 : List Int) (x7 : Int) (x8 : Int) : Option (Int) :=
  resume (E_slices_IndexFunc_int__impl_wordsOk_1 k) 80 (acall (E_slices_IndexFunc_int__impl_wordsOk_1 k) (arun Tryz.prog (E_slices_IndexFunc_int__impl_wordsOk_1 k) k)) k [true, false, true, true] [n] (bodyOf Tryz.f80) ⟨[.tv (.row (.int .i64)) x0, .fn 57 [], .undef, .undef, .undef, .undef, .undef, .int .i64 x7, .int .i64 x8, .undef, .undef, .undef, .undef, .undef, .undef, .undef, .undef, .undef, .undef], []⟩ (leave (E_slices_IndexFunc_int__impl_wordsOk_1 k) Tryz.f80 (fin1 (.int .i64)))
theorem slices_IndexFunc_int__impl_wordsOk_1.l2_0 (k : Nat) (x0 : List Int) (x7 : Int) (x8 : Int) : slices_IndexFunc_int__impl_wordsOk_1.l2 k 0 x0 x7 x8 = none := by kernel_rfl
theorem slices_IndexFunc_int__impl_wordsOk_1.l2_s (k n : Nat) (x0 : List Int) (x7 : Int) (x8 : Int) : slices_IndexFunc_int__impl_wordsOk_1.l2 k (n + 1) x0 x7 x8 =
  iteB (decide (x8 < x7)) (iteB (decide (0 ≤ x8)) (iteB (decide (x8 < ((List.length x0) : Int))) (bindO (impl_wordsOk_1 k (List.getD x0 (Int.toNat x8) 0)) fun r1 => (iteB r1 (some x8) (slices_IndexFunc_int__impl_wordsOk_1.l2 k n x0 x7 (IntKind.wrap .i64 (x8 + 1))))) (none)) (none)) (some (-1)) := by kernel_rfl
theorem slices_IndexFunc_int__impl_wordsOk_1_e (k : Nat) (a1 : List Int) : slices_IndexFunc_int__impl_wordsOk_1 k a1 =
  slices_IndexFunc_int__impl_wordsOk_1.l2 k k a1 ((List.length a1) : Int) 0 := by kernel_rfl
theorem E_slices_IndexFunc_int__impl_wordsOk_1_calls (k : Nat) : CallsOk Tryz.prog (E_slices_IndexFunc_int__impl_wordsOk_1 k) (arun Tryz.prog (E_slices_IndexFunc_int__impl_wordsOk_1 k) k) := by
  refine told_run (tyTOk _ _) ?_ (fun run h => regOk (tyTOk _ _) mixOk h) ?_ nameOk k
  · intro g m hg
    simp only [E_slices_IndexFunc_int__impl_wordsOk_1] at hg
    split at hg
    · cases hg
      refine con_byVal fun ρ l K x hm => ?_
      split at hm
      · obtain ⟨c1, h1, hm⟩ := Option.bind_eq_some_iff.1 hm
        obtain ⟨r, hr, hm⟩ := Option.bind_eq_some_iff.1 hm
        exact ⟨_, hm, LawV.reads (.cons (.as h1) .nil) (impl_wordsOk_1_law k c1 r hr)⟩
      · cases hm
    · cases hg; exact noCon_ok
    · cases hg
  · intro g hg r
    by_cases h : g = 80
    · subst h; simp [E_slices_IndexFunc_int__impl_wordsOk_1] at hg
    · simp [E_slices_IndexFunc_int__impl_wordsOk_1, h]
theorem f80_okslices_IndexFunc_int__impl_wordsOk_1 : Tryz.prog.funcs[80]? = some Tryz.f80 := by kernel_rfl
theorem slices_IndexFunc_int__impl_wordsOk_1_law (k : Nat) (a1 : List Int) (x : Int) (h : slices_IndexFunc_int__impl_wordsOk_1 k a1 = some x) : LawV Tryz.prog 80 [.tv (.row (.int .i64)) a1, .fn 57 []] (tvn (.int .i64) x) := by
  unfold slices_IndexFunc_int__impl_wordsOk_1 at h
  exact law1 (t := (.int .i64)) (tyTOk _ _) (E_slices_IndexFunc_int__impl_wordsOk_1_calls k) mixOk f80_okslices_IndexFunc_int__impl_wordsOk_1 (nameOk _ _ f80_okslices_IndexFunc_int__impl_wordsOk_1) (by kernel_rfl) h
/-! slices.ContainsFunc[[]int,int] -/
noncomputable def E_slices_ContainsFunc_int__impl_wordsOk_1 (k : Nat) : Env := ⟨ty, fun g => match g with
  | 80 => some (byVal fun ρ l K => match l with
    | [b1, .fn 57 []] => (b1.as (.row (.int .i64))).bind fun c1 => (slices_IndexFunc_int__impl_wordsOk_1 k c1).bind fun r => K (tvn (.int .i64) r)
    | _ => none)
  | _ => none, fun _ _ => none⟩
noncomputable def slices_ContainsFunc_int__impl_wordsOk_1 (k : Nat) (a1 : List Int) : Option (Bool) :=
  abody (E_slices_ContainsFunc_int__impl_wordsOk_1 k) (arun Tryz.prog (E_slices_ContainsFunc_int__impl_wordsOk_1 k) k) k 56 Tryz.f56 [.tv (.row (.int .i64)) a1, .fn 57 []] [] (fin1 .bool)
theorem slices_ContainsFunc_int__impl_wordsOk_1_e (k : Nat) (a1 : List Int) : slices_ContainsFunc_int__impl_wordsOk_1 k a1 =
  bindO (slices_IndexFunc_int__impl_wordsOk_1 k a1) fun r1 => (some (decide (r1 ≥ 0))) := by kernel_rfl
theorem E_slices_ContainsFunc_int__impl_wordsOk_1_calls (k : Nat) : CallsOk Tryz.prog (E_slices_ContainsFunc_int__impl_wordsOk_1 k) (arun Tryz.prog (E_slices_ContainsFunc_int__impl_wordsOk_1 k) k) := by
  refine told_run (tyTOk _ _) ?_ (fun run h => regOk (tyTOk _ _) mixOk h) ?_ nameOk k
  · intro g m hg
    simp only [E_slices_ContainsFunc_int__impl_wordsOk_1] at hg
    split at hg
    · cases hg
      refine con_byVal fun ρ l K x hm => ?_
      split at hm
      · obtain ⟨c1, h1, hm⟩ := Option.bind_eq_some_iff.1 hm
        obtain ⟨r, hr, hm⟩ := Option.bind_eq_some_iff.1 hm
        exact ⟨_, hm, LawV.reads (.cons (.as h1) (.cons (.fn .nil) .nil)) (slices_IndexFunc_int__impl_wordsOk_1_law k c1 r hr)⟩
      · cases hm
    · cases hg
  · intro g _ r; rfl
theorem f56_okslices_ContainsFunc_int__impl_wordsOk_1 : Tryz.prog.funcs[56]? = some Tryz.f56 := by kernel_rfl
theorem slices_ContainsFunc_int__impl_wordsOk_1_law (k : Nat) (a1 : List Int) (x : Bool) (h : slices_ContainsFunc_int__impl_wordsOk_1 k a1 = some x) : LawV Tryz.prog 56 [.tv (.row (.int .i64)) a1, .fn 57 []] (tvn .bool x) := by
  unfold slices_ContainsFunc_int__impl_wordsOk_1 at h
  exact law1 (t := .bool) (tyTOk _ _) (E_slices_ContainsFunc_int__impl_wordsOk_1_calls k) mixOk f56_okslices_ContainsFunc_int__impl_wordsOk_1 (nameOk _ _ f56_okslices_ContainsFunc_int__impl_wordsOk_1) (by kernel_rfl) h
/-! impl.wordsOk -/
noncomputable def E_impl_wordsOk (k : Nat) : Env := ⟨ty, fun g => match g with
  | 56 => some (byVal fun ρ l K => match l with
    | [b1, .fn 57 []] => (b1.as (.row (.int .i64))).bind fun c1 => (slices_ContainsFunc_int__impl_wordsOk_1 k c1).bind fun r => K (tvn .bool r)
    | _ => none)
  | _ => none, fun _ _ => none⟩
noncomputable def impl_wordsOk (k : Nat) (a1 : List Int) (a2 : Int) : Option (Bool) :=
  abody (E_impl_wordsOk k) (arun Tryz.prog (E_impl_wordsOk k) k) k 31 Tryz.f31 [.tv (.row (.int .i64)) a1, .int .i64 a2] [] (fin1 .bool)
theorem impl_wordsOk_e (k : Nat) (a1 : List Int) (a2 : Int) : impl_wordsOk k a1 a2 =
  iteB (decide (((List.length a1) : Int) ≤ a2)) (bindO (slices_ContainsFunc_int__impl_wordsOk_1 k a1) fun r1 => (some (!r1))) (some false) := by kernel_rfl
theorem E_impl_wordsOk_calls (k : Nat) : CallsOk Tryz.prog (E_impl_wordsOk k) (arun Tryz.prog (E_impl_wordsOk k) k) := by
  refine told_run (tyTOk _ _) ?_ (fun run h => regOk (tyTOk _ _) mixOk h) ?_ nameOk k
  · intro g m hg
    simp only [E_impl_wordsOk] at hg
    split at hg
    · cases hg
      refine con_byVal fun ρ l K x hm => ?_
      split at hm
      · obtain ⟨c1, h1, hm⟩ := Option.bind_eq_some_iff.1 hm
        obtain ⟨r, hr, hm⟩ := Option.bind_eq_some_iff.1 hm
        exact ⟨_, hm, LawV.reads (.cons (.as h1) (.cons (.fn .nil) .nil)) (slices_ContainsFunc_int__impl_wordsOk_1_law k c1 r hr)⟩
      · cases hm
    · cases hg
  · intro g _ r; rfl
theorem f31_okimpl_wordsOk : Tryz.prog.funcs[31]? = some Tryz.f31 := by kernel_rfl
theorem impl_wordsOk_law (k : Nat) (a1 : List Int) (a2 : Int) (x : Bool) (h : impl_wordsOk k a1 a2 = some x) : LawV Tryz.prog 31 [.tv (.row (.int .i64)) a1, .int .i64 a2] (tvn .bool x) := by
  unfold impl_wordsOk at h
  exact law1 (t := .bool) (tyTOk _ _) (E_impl_wordsOk_calls k) mixOk f31_okimpl_wordsOk (nameOk _ _ f31_okimpl_wordsOk) (by kernel_rfl) h
/-! impl.isDst -/
noncomputable def E_impl_isDst (k : Nat) : Env := ⟨ty, fun g => match g with
  | 24 => some (byVal fun ρ l K => match l with
    | [b1, b2, b3] => (b1.as (.int .i64)).bind fun c1 => (b2.as (.int .i64)).bind fun c2 => (b3.as (.int .i64)).bind fun c3 => (impl_within k c1 c2 c3).bind fun r => K (tvn .bool r)
    | _ => none)
  | _ => none, fun _ _ => none⟩
noncomputable def impl_isDst (k : Nat) (a1 : Int) : Option (Bool) :=
  abody (E_impl_isDst k) (arun Tryz.prog (E_impl_isDst k) k) k 53 Tryz.f53 [.int .i64 a1] [] (fin1 .bool)
theorem impl_isDst_e (k : Nat) (a1 : Int) : impl_isDst k a1 =
  bindO (impl_within k a1 (-1) 249) fun r1 => (some r1) := by kernel_rfl
theorem E_impl_isDst_calls (k : Nat) : CallsOk Tryz.prog (E_impl_isDst k) (arun Tryz.prog (E_impl_isDst k) k) := by
  refine told_run (tyTOk _ _) ?_ (fun run h => regOk (tyTOk _ _) mixOk h) ?_ nameOk k
  · intro g m hg
    simp only [E_impl_isDst] at hg
    split at hg
    · cases hg
      refine con_byVal fun ρ l K x hm => ?_
      split at hm
      · obtain ⟨c1, h1, hm⟩ := Option.bind_eq_some_iff.1 hm
        obtain ⟨c2, h2, hm⟩ := Option.bind_eq_some_iff.1 hm
        obtain ⟨c3, h3, hm⟩ := Option.bind_eq_some_iff.1 hm
        obtain ⟨r, hr, hm⟩ := Option.bind_eq_some_iff.1 hm
        exact ⟨_, hm, LawV.reads (.cons (.as h1) (.cons (.as h2) (.cons (.as h3) .nil))) (impl_within_law k c1 c2 c3 r hr)⟩
      · cases hm
    · cases hg
  · intro g _ r; rfl
theorem f53_okimpl_isDst : Tryz.prog.funcs[53]? = some Tryz.f53 := by kernel_rfl
theorem impl_isDst_law (k : Nat) (a1 : Int) (x : Bool) (h : impl_isDst k a1 = some x) : LawV Tryz.prog 53 [.int .i64 a1] (tvn .bool x) := by
  unfold impl_isDst at h
  exact law1 (t := .bool) (tyTOk _ _) (E_impl_isDst_calls k) mixOk f53_okimpl_isDst (nameOk _ _ f53_okimpl_isDst) (by kernel_rfl) h
/-! impl.frameOk -/
noncomputable def E_impl_frameOk (k : Nat) : Env := ⟨ty, fun g => match g with
  | 24 => some (byVal fun ρ l K => match l with
    | [b1, b2, b3] => (b1.as (.int .i64)).bind fun c1 => (b2.as (.int .i64)).bind fun c2 => (b3.as (.int .i64)).bind fun c3 => (impl_within k c1 c2 c3).bind fun r => K (tvn .bool r)
    | _ => none)
  | 31 => some (byVal fun ρ l K => match l with
    | [b1, b2] => (b1.as (.row (.int .i64))).bind fun c1 => (b2.as (.int .i64)).bind fun c2 => (impl_wordsOk k c1 c2).bind fun r => K (tvn .bool r)
    | _ => none)
  | 53 => some (byVal fun ρ l K => match l with
    | [b1] => (b1.as (.int .i64)).bind fun c1 => (impl_isDst k c1).bind fun r => K (tvn .bool r)
    | _ => none)
  | _ => none, fun _ _ => none⟩
noncomputable def impl_frameOk (k : Nat) (a1 : List (ByteArray × Int × Int × (List (Int × Int × Int × Int × Int × ByteArray × (List Int) × Unit)) × Unit)) (a2 : Int × Int × (List Int) × Int × Unit) : Option (Bool) :=
  abody (E_impl_frameOk k) (arun Tryz.prog (E_impl_frameOk k) k) k 52 Tryz.f52 [.tv (.row (.pair .str (.pair (.int .i64) (.pair (.int .i64) (.pair (.row (.pair (.int .i64) (.pair (.int .i64) (.pair (.int .i64) (.pair (.int .i64) (.pair (.int .i64) (.pair .str (.pair (.row (.int .i64)) .unit)))))))) .unit))))) a1, .tv (.pair (.int .i64) (.pair (.int .i64) (.pair (.row (.int .i64)) (.pair (.int .i64) .unit)))) a2] [] (fin1 .bool)
theorem impl_frameOk_e (k : Nat) (a1 : List (ByteArray × Int × Int × (List (Int × Int × Int × Int × Int × ByteArray × (List Int) × Unit)) × Unit)) (a2 : Int × Int × (List Int) × Int × Unit) : impl_frameOk k a1 a2 =
  bindO (impl_within k a2.1 0 (IntKind.wrap .i64 (((List.length a1) : Int) - 1))) fun r1 => (iteB r1 (iteB (decide (0 ≤ a2.1)) (iteB (decide (a2.1 < ((List.length a1) : Int))) (bindO (impl_within k a2.2.1 0 (IntKind.wrap .i64 (((List.length (((((List.getD a1 (Int.toNat a2.1) (Ty.dflt (.pair .str (.pair (.int .i64) (.pair (.int .i64) (.pair (.row (.pair (.int .i64) (.pair (.int .i64) (.pair (.int .i64) (.pair (.int .i64) (.pair (.int .i64) (.pair .str (.pair (.row (.int .i64)) .unit)))))))) .unit)))))).2).2).2).1)) : Int) - 1))) fun r2 => (iteB r2 (iteB (decide (0 ≤ a2.1)) (iteB (decide (a2.1 < ((List.length a1) : Int))) (iteB (((List.length a2.2.2.1) : Int) == ((((List.getD a1 (Int.toNat a2.1) (Ty.dflt (.pair .str (.pair (.int .i64) (.pair (.int .i64) (.pair (.row (.pair (.int .i64) (.pair (.int .i64) (.pair (.int .i64) (.pair (.int .i64) (.pair (.int .i64) (.pair .str (.pair (.row (.int .i64)) .unit)))))))) .unit)))))).2).2).1)) (bindO (impl_wordsOk k a2.2.2.1 250) fun r3 => (iteB r3 (bindO (impl_isDst k a2.2.2.2.1) fun r4 => (some r4)) (some false))) (some false)) (none)) (none)) (some false))) (none)) (none)) (some false)) := by kernel_rfl
theorem E_impl_frameOk_calls (k : Nat) : CallsOk Tryz.prog (E_impl_frameOk k) (arun Tryz.prog (E_impl_frameOk k) k) := by
  refine told_run (tyTOk _ _) ?_ (fun run h => regOk (tyTOk _ _) mixOk h) ?_ nameOk k
  · intro g m hg
    simp only [E_impl_frameOk] at hg
    split at hg
    · cases hg
      refine con_byVal fun ρ l K x hm => ?_
      split at hm
      · obtain ⟨c1, h1, hm⟩ := Option.bind_eq_some_iff.1 hm
        obtain ⟨c2, h2, hm⟩ := Option.bind_eq_some_iff.1 hm
        obtain ⟨c3, h3, hm⟩ := Option.bind_eq_some_iff.1 hm
        obtain ⟨r, hr, hm⟩ := Option.bind_eq_some_iff.1 hm
        exact ⟨_, hm, LawV.reads (.cons (.as h1) (.cons (.as h2) (.cons (.as h3) .nil))) (impl_within_law k c1 c2 c3 r hr)⟩
      · cases hm
    · cases hg
      refine con_byVal fun ρ l K x hm => ?_
      split at hm
      · obtain ⟨c1, h1, hm⟩ := Option.bind_eq_some_iff.1 hm
        obtain ⟨c2, h2, hm⟩ := Option.bind_eq_some_iff.1 hm
        obtain ⟨r, hr, hm⟩ := Option.bind_eq_some_iff.1 hm
        exact ⟨_, hm, LawV.reads (.cons (.as h1) (.cons (.as h2) .nil)) (impl_wordsOk_law k c1 c2 r hr)⟩
      · cases hm
    · cases hg
      refine con_byVal fun ρ l K x hm => ?_
      split at hm
      · obtain ⟨c1, h1, hm⟩ := Option.bind_eq_some_iff.1 hm
        obtain ⟨r, hr, hm⟩ := Option.bind_eq_some_iff.1 hm
        exact ⟨_, hm, LawV.reads (.cons (.as h1) .nil) (impl_isDst_law k c1 r hr)⟩
      · cases hm
    · cases hg
  · intro g _ r; rfl
theorem f52_okimpl_frameOk : Tryz.prog.funcs[52]? = some Tryz.f52 := by kernel_rfl
theorem impl_frameOk_law (k : Nat) (a1 : List (ByteArray × Int × Int × (List (Int × Int × Int × Int × Int × ByteArray × (List Int) × Unit)) × Unit)) (a2 : Int × Int × (List Int) × Int × Unit) (x : Bool) (h : impl_frameOk k a1 a2 = some x) : LawV Tryz.prog 52 [.tv (.row (.pair .str (.pair (.int .i64) (.pair (.int .i64) (.pair (.row (.pair (.int .i64) (.pair (.int .i64) (.pair (.int .i64) (.pair (.int .i64) (.pair (.int .i64) (.pair .str (.pair (.row (.int .i64)) .unit)))))))) .unit))))) a1, .tv (.pair (.int .i64) (.pair (.int .i64) (.pair (.row (.int .i64)) (.pair (.int .i64) .unit)))) a2] (tvn .bool x) := by
  unfold impl_frameOk at h
  exact law1 (t := .bool) (tyTOk _ _) (E_impl_frameOk_calls k) mixOk f52_okimpl_frameOk (nameOk _ _ f52_okimpl_frameOk) (by kernel_rfl) h
/-! impl.bodyOk$1 -/
noncomputable def E_impl_bodyOk_1_vbp (k : Nat) : Env := ⟨ty, fun g => match g with
  | 52 => some (byVal fun ρ l K => match l with
    | [b1, b2] => (b1.as (.row (.pair .str (.pair (.int .i64) (.pair (.int .i64) (.pair (.row (.pair (.int .i64) (.pair (.int .i64) (.pair (.int .i64) (.pair (.int .i64) (.pair (.int .i64) (.pair .str (.pair (.row (.int .i64)) .unit)))))))) .unit)))))).bind fun c1 => (b2.as (.pair (.int .i64) (.pair (.int .i64) (.pair (.row (.int .i64)) (.pair (.int .i64) .unit))))).bind fun c2 => (impl_frameOk k c1 c2).bind fun r => K (tvn .bool r)
    | _ => none)
  | _ => none, fun _ _ => none⟩
noncomputable def impl_bodyOk_1_vbp (k : Nat) (a1 : Int × Int × (List Int) × Int × Unit) (a2 : List (ByteArray × Int × Int × (List (Int × Int × Int × Int × Int × ByteArray × (List Int) × Unit)) × Unit)) : Option (Bool) :=
  abody (E_impl_bodyOk_1_vbp k) (arun Tryz.prog (E_impl_bodyOk_1_vbp k) k) k 51 Tryz.f51 [.tv (.pair (.int .i64) (.pair (.int .i64) (.pair (.row (.int .i64)) (.pair (.int .i64) .unit)))) a1, .bp [.tv (.row (.pair .str (.pair (.int .i64) (.pair (.int .i64) (.pair (.row (.pair (.int .i64) (.pair (.int .i64) (.pair (.int .i64) (.pair (.int .i64) (.pair (.int .i64) (.pair .str (.pair (.row (.int .i64)) .unit)))))))) .unit))))) a2] 0] [] (fin1 .bool)
theorem impl_bodyOk_1_vbp_e (k : Nat) (a1 : Int × Int × (List Int) × Int × Unit) (a2 : List (ByteArray × Int × Int × (List (Int × Int × Int × Int × Int × ByteArray × (List Int) × Unit)) × Unit)) : impl_bodyOk_1_vbp k a1 a2 =
  bindO (impl_frameOk k a2 a1) fun r1 => (some (!r1)) := by kernel_rfl
theorem E_impl_bodyOk_1_vbp_calls (k : Nat) : CallsOk Tryz.prog (E_impl_bodyOk_1_vbp k) (arun Tryz.prog (E_impl_bodyOk_1_vbp k) k) := by
  refine told_run (tyTOk _ _) ?_ (fun run h => regOk (tyTOk _ _) mixOk h) ?_ nameOk k
  · intro g m hg
    simp only [E_impl_bodyOk_1_vbp] at hg
    split at hg
    · cases hg
      refine con_byVal fun ρ l K x hm => ?_
      split at hm
      · obtain ⟨c1, h1, hm⟩ := Option.bind_eq_some_iff.1 hm
        obtain ⟨c2, h2, hm⟩ := Option.bind_eq_some_iff.1 hm
        obtain ⟨r, hr, hm⟩ := Option.bind_eq_some_iff.1 hm
        exact ⟨_, hm, LawV.reads (.cons (.as h1) (.cons (.as h2) .nil)) (impl_frameOk_law k c1 c2 r hr)⟩
      · cases hm
    · cases hg
  · intro g _ r; rfl
theorem f51_okimpl_bodyOk_1_vbp : Tryz.prog.funcs[51]? = some Tryz.f51 := by kernel_rfl
theorem impl_bodyOk_1_vbp_law (k : Nat) (a1 : Int × Int × (List Int) × Int × Unit) (a2 : List (ByteArray × Int × Int × (List (Int × Int × Int × Int × Int × ByteArray × (List Int) × Unit)) × Unit)) (x : Bool) (h : impl_bodyOk_1_vbp k a1 a2 = some x) : LawV Tryz.prog 51 [.tv (.pair (.int .i64) (.pair (.int .i64) (.pair (.row (.int .i64)) (.pair (.int .i64) .unit)))) a1, .bp [.tv (.row (.pair .str (.pair (.int .i64) (.pair (.int .i64) (.pair (.row (.pair (.int .i64) (.pair (.int .i64) (.pair (.int .i64) (.pair (.int .i64) (.pair (.int .i64) (.pair .str (.pair (.row (.int .i64)) .unit)))))))) .unit))))) a2] 0] (tvn .bool x) := by
  unfold impl_bodyOk_1_vbp at h
  exact law1 (t := .bool) (tyTOk _ _) (E_impl_bodyOk_1_vbp_calls k) mixOk f51_okimpl_bodyOk_1_vbp (nameOk _ _ f51_okimpl_bodyOk_1_vbp) (by kernel_rfl) h
/-! slices.IndexFunc[[]impl.Frame,impl.Frame] -/
noncomputable def E_slices_IndexFunc_impl_Frame__impl_bodyOk_1 (k : Nat) : Env := ⟨ty, fun g => match g with
  | 51 => some (byVal fun ρ l K => match l with
    | [b1, .bp [b2] 0] => (b1.as (.pair (.int .i64) (.pair (.int .i64) (.pair (.row (.int .i64)) (.pair (.int .i64) .unit))))).bind fun c1 => (b2.as (.row (.pair .str (.pair (.int .i64) (.pair (.int .i64) (.pair (.row (.pair (.int .i64) (.pair (.int .i64) (.pair (.int .i64) (.pair (.int .i64) (.pair (.int .i64) (.pair .str (.pair (.row (.int .i64)) .unit)))))))) .unit)))))).bind fun c2 => (impl_bodyOk_1_vbp k c1 c2).bind fun r => K (tvn .bool r)
    | _ => none)
  | 77 => some noCon
  | _ => none, fun f r => match f with | 77 => (match r with | 2 => some [0, 1, 7, 8] | _ => none) | _ => none⟩
noncomputable def slices_IndexFunc_impl_Frame__impl_bodyOk_1 (k : Nat) (a1 : List (Int × Int × (List Int) × Int × Unit)) (a2 : List (ByteArray × Int × Int × (List (Int × Int × Int × Int × Int × ByteArray × (List Int) × Unit)) × Unit)) : Option (Int) :=
  abody (E_slices_IndexFunc_impl_Frame__impl_bodyOk_1 k) (arun Tryz.prog (E_slices_IndexFunc_impl_Frame__impl_bodyOk_1 k) k) k 77 Tryz.f77 [.tv (.row (.pair (.int .i64) (.pair (.int .i64) (.pair (.row (.int .i64)) (.pair (.int .i64) .unit))))) a1, .fn 51 [.bp [.tv (.row (.pair .str (.pair (.int .i64) (.pair (.int .i64) (.pair (.row (.pair (.int .i64) (.pair (.int .i64) (.pair (.int .i64) (.pair (.int .i64) (.pair (.int .i64) (.pair .str (.pair (.row (.int .i64)) .unit)))))))) .unit))))) a2] 0]] [] (fin1 (.int .i64))
noncomputable def slices_IndexFunc_impl_Frame__impl_bodyOk_1.l2 (k n : Nat) (x0 : List (Int × Int × (List Int) × Int × Unit)) (x1_0_0 : List (ByteArray × Int × Int × (List (Int × Int × Int × Int × Int × ByteArray × (List Int) × Unit)) × Unit)) (x7 : Int) (x8 : Int) : Option (Int) :=
  resume (E_slices_IndexFunc_impl_Frame__impl_bodyOk_1 k) 77 (acall (E_slices_IndexFunc_impl_Frame__impl_bodyOk_1 k) (arun Tryz.prog (E_slices_IndexFunc_impl_Frame__impl_bodyOk_1 k) k)) k [true, false, true, true] [n] (bodyOf Tryz.f77) ⟨[.tv (.row (.pair (.int .i64) (.pair (.int .i64) (.pair (.row (.int .i64)) (.pair (.int .i64) .unit))))) x0, .fn 51 [.bp [.tv (.row (.pair .str (.pair (.int .i64) (.pair (.int .i64) (.pair (.row (.pair (.int .i64) (.pair (.int .i64) (.pair (.int .i64) (.pair (.int .i64) (.pair (.int .i64) (.pair .str (.pair (.row (.int .i64)) .unit)))))))) .unit))))) x1_0_0] 0], .undef, .undef, .undef, .undef, .undef, .int .i64 x7, .int .i64 x8, .undef, .undef, .undef, .undef, .undef, .undef, .undef, .undef, .undef, .undef], []⟩ (leave (E_slices_IndexFunc_impl_Frame__impl_bodyOk_1 k) Tryz.f77 (fin1 (.int .i64)))
theorem slices_IndexFunc_impl_Frame__impl_bodyOk_1.l2_0 (k : Nat) (x0 : List (Int × Int × (List Int) × Int × Unit)) (x1_0_0 : List (ByteArray × Int × Int × (List (Int × Int × Int × Int × Int × ByteArray × (List Int) × Unit)) × Unit)) (x7 : Int) (x8 : Int) : slices_IndexFunc_impl_Frame__impl_bodyOk_1.l2 k 0 x0 x1_0_0 x7 x8 = none := by kernel_rfl
theorem slices_IndexFunc_impl_Frame__impl_bodyOk_1.l2_s (k n : Nat) (x0 : List (Int × Int × (List Int) × Int × Unit)) (x1_0_0 : List (ByteArray × Int × Int × (List (Int × Int × Int × Int × Int × ByteArray × (List Int) × Unit)) × Unit)) (x7 : Int) (x8 : Int) : slices_IndexFunc_impl_Frame__impl_bodyOk_1.l2 k (n + 1) x0 x1_0_0 x7 x8 =
  iteB (decide (x8 < x7)) (iteB (decide (0 ≤ x8)) (iteB (decide (x8 < ((List.length x0) : Int))) (bindO (impl_bodyOk_1_vbp k (List.getD x0 (Int.toNat x8) (Ty.dflt (.pair (.int .i64) (.pair (.int .i64) (.pair (.row (.int .i64)) (.pair (.int .i64) .unit)))))) x1_0_0) fun r1 => (iteB r1 (some x8) (slices_IndexFunc_impl_Frame__impl_bodyOk_1.l2 k n x0 x1_0_0 x7 (IntKind.wrap .i64 (x8 + 1))))) (none)) (none)) (some (-1)) := by kernel_rfl
theorem slices_IndexFunc_impl_Frame__impl_bodyOk_1_e (k : Nat) (a1 : List (Int × Int × (List Int) × Int × Unit)) (a2 : List (ByteArray × Int × Int × (List (Int × Int × Int × Int × Int × ByteArray × (List Int) × Unit)) × Unit)) : slices_IndexFunc_impl_Frame__impl_bodyOk_1 k a1 a2 =
  slices_IndexFunc_impl_Frame__impl_bodyOk_1.l2 k k a1 a2 ((List.length a1) : Int) 0 := by kernel_rfl
theorem E_slices_IndexFunc_impl_Frame__impl_bodyOk_1_calls (k : Nat) : CallsOk Tryz.prog (E_slices_IndexFunc_impl_Frame__impl_bodyOk_1 k) (arun Tryz.prog (E_slices_IndexFunc_impl_Frame__impl_bodyOk_1 k) k) := by
  refine told_run (tyTOk _ _) ?_ (fun run h => regOk (tyTOk _ _) mixOk h) ?_ nameOk k
  · intro g m hg
    simp only [E_slices_IndexFunc_impl_Frame__impl_bodyOk_1] at hg
    split at hg
    · cases hg
      refine con_byVal fun ρ l K x hm => ?_
      split at hm
      · obtain ⟨c1, h1, hm⟩ := Option.bind_eq_some_iff.1 hm
        obtain ⟨c2, h2, hm⟩ := Option.bind_eq_some_iff.1 hm
        obtain ⟨r, hr, hm⟩ := Option.bind_eq_some_iff.1 hm
        exact ⟨_, hm, LawV.reads (.cons (.as h1) (.cons (.bp (.cons (.as h2) .nil)) .nil)) (impl_bodyOk_1_vbp_law k c1 c2 r hr)⟩
      · cases hm
    · cases hg; exact noCon_ok
    · cases hg
  · intro g hg r
    by_cases h : g = 77
    · subst h; simp [E_slices_IndexFunc_impl_Frame__impl_bodyOk_1] at hg
    · simp [E_slices_IndexFunc_impl_Frame__impl_bodyOk_1, h]
theorem f77_okslices_IndexFunc_impl_Frame__impl_bodyOk_1 : Tryz.prog.funcs[77]? = some Tryz.f77 := by kernel_rfl
theorem slices_IndexFunc_impl_Frame__impl_bodyOk_1_law (k : Nat) (a1 : List (Int × Int × (List Int) × Int × Unit)) (a2 : List (ByteArray × Int × Int × (List (Int × Int × Int × Int × Int × ByteArray × (List Int) × Unit)) × Unit)) (x : Int) (h : slices_IndexFunc_impl_Frame__impl_bodyOk_1 k a1 a2 = some x) : LawV Tryz.prog 77 [.tv (.row (.pair (.int .i64) (.pair (.int .i64) (.pair (.row (.int .i64)) (.pair (.int .i64) .unit))))) a1, .fn 51 [.bp [.tv (.row (.pair .str (.pair (.int .i64) (.pair (.int .i64) (.pair (.row (.pair (.int .i64) (.pair (.int .i64) (.pair (.int .i64) (.pair (.int .i64) (.pair (.int .i64) (.pair .str (.pair (.row (.int .i64)) .unit)))))))) .unit))))) a2] 0]] (tvn (.int .i64) x) := by
  unfold slices_IndexFunc_impl_Frame__impl_bodyOk_1 at h
  exact law1 (t := (.int .i64)) (tyTOk _ _) (E_slices_IndexFunc_impl_Frame__impl_bodyOk_1_calls k) mixOk f77_okslices_IndexFunc_impl_Frame__impl_bodyOk_1 (nameOk _ _ f77_okslices_IndexFunc_impl_Frame__impl_bodyOk_1) (by kernel_rfl) h
/-! slices.ContainsFunc[[]impl.Frame,impl.Frame] -/
noncomputable def E_slices_ContainsFunc_impl_Frame__impl_bodyOk_1 (k : Nat) : Env := ⟨ty, fun g => match g with
  | 77 => some (byVal fun ρ l K => match l with
    | [b1, .fn 51 [.bp [b2] 0]] => (b1.as (.row (.pair (.int .i64) (.pair (.int .i64) (.pair (.row (.int .i64)) (.pair (.int .i64) .unit)))))).bind fun c1 => (b2.as (.row (.pair .str (.pair (.int .i64) (.pair (.int .i64) (.pair (.row (.pair (.int .i64) (.pair (.int .i64) (.pair (.int .i64) (.pair (.int .i64) (.pair (.int .i64) (.pair .str (.pair (.row (.int .i64)) .unit)))))))) .unit)))))).bind fun c2 => (slices_IndexFunc_impl_Frame__impl_bodyOk_1 k c1 c2).bind fun r => K (tvn (.int .i64) r)
    | _ => none)
  | _ => none, fun _ _ => none⟩
noncomputable def slices_ContainsFunc_impl_Frame__impl_bodyOk_1 (k : Nat) (a1 : List (Int × Int × (List Int) × Int × Unit)) (a2 : List (ByteArray × Int × Int × (List (Int × Int × Int × Int × Int × ByteArray × (List Int) × Unit)) × Unit)) : Option (Bool) :=
  abody (E_slices_ContainsFunc_impl_Frame__impl_bodyOk_1 k) (arun Tryz.prog (E_slices_ContainsFunc_impl_Frame__impl_bodyOk_1 k) k) k 50 Tryz.f50 [.tv (.row (.pair (.int .i64) (.pair (.int .i64) (.pair (.row (.int .i64)) (.pair (.int .i64) .unit))))) a1, .fn 51 [.bp [.tv (.row (.pair .str (.pair (.int .i64) (.pair (.int .i64) (.pair (.row (.pair (.int .i64) (.pair (.int .i64) (.pair (.int .i64) (.pair (.int .i64) (.pair (.int .i64) (.pair .str (.pair (.row (.int .i64)) .unit)))))))) .unit))))) a2] 0]] [] (fin1 .bool)
theorem slices_ContainsFunc_impl_Frame__impl_bodyOk_1_e (k : Nat) (a1 : List (Int × Int × (List Int) × Int × Unit)) (a2 : List (ByteArray × Int × Int × (List (Int × Int × Int × Int × Int × ByteArray × (List Int) × Unit)) × Unit)) : slices_ContainsFunc_impl_Frame__impl_bodyOk_1 k a1 a2 =
  bindO (slices_IndexFunc_impl_Frame__impl_bodyOk_1 k a1 a2) fun r1 => (some (decide (r1 ≥ 0))) := by kernel_rfl
theorem E_slices_ContainsFunc_impl_Frame__impl_bodyOk_1_calls (k : Nat) : CallsOk Tryz.prog (E_slices_ContainsFunc_impl_Frame__impl_bodyOk_1 k) (arun Tryz.prog (E_slices_ContainsFunc_impl_Frame__impl_bodyOk_1 k) k) := by
  refine told_run (tyTOk _ _) ?_ (fun run h => regOk (tyTOk _ _) mixOk h) ?_ nameOk k
  · intro g m hg
    simp only [E_slices_ContainsFunc_impl_Frame__impl_bodyOk_1] at hg
    split at hg
    · cases hg
      refine con_byVal fun ρ l K x hm => ?_
      split at hm
      · obtain ⟨c1, h1, hm⟩ := Option.bind_eq_some_iff.1 hm
        obtain ⟨c2, h2, hm⟩ := Option.bind_eq_some_iff.1 hm
        obtain ⟨r, hr, hm⟩ := Option.bind_eq_some_iff.1 hm
        exact ⟨_, hm, LawV.reads (.cons (.as h1) (.cons (.fn (.cons (.bp (.cons (.as h2) .nil)) .nil)) .nil)) (slices_IndexFunc_impl_Frame__impl_bodyOk_1_law k c1 c2 r hr)⟩
      · cases hm
    · cases hg
  · intro g _ r; rfl
theorem f50_okslices_ContainsFunc_impl_Frame__impl_bodyOk_1 : Tryz.prog.funcs[50]? = some Tryz.f50 := by kernel_rfl
theorem slices_ContainsFunc_impl_Frame__impl_bodyOk_1_law (k : Nat) (a1 : List (Int × Int × (List Int) × Int × Unit)) (a2 : List (ByteArray × Int × Int × (List (Int × Int × Int × Int × Int × ByteArray × (List Int) × Unit)) × Unit)) (x : Bool) (h : slices_ContainsFunc_impl_Frame__impl_bodyOk_1 k a1 a2 = some x) : LawV Tryz.prog 50 [.tv (.row (.pair (.int .i64) (.pair (.int .i64) (.pair (.row (.int .i64)) (.pair (.int .i64) .unit))))) a1, .fn 51 [.bp [.tv (.row (.pair .str (.pair (.int .i64) (.pair (.int .i64) (.pair (.row (.pair (.int .i64) (.pair (.int .i64) (.pair (.int .i64) (.pair (.int .i64) (.pair (.int .i64) (.pair .str (.pair (.row (.int .i64)) .unit)))))))) .unit))))) a2] 0]] (tvn .bool x) := by
  unfold slices_ContainsFunc_impl_Frame__impl_bodyOk_1 at h
  exact law1 (t := .bool) (tyTOk _ _) (E_slices_ContainsFunc_impl_Frame__impl_bodyOk_1_calls k) mixOk f50_okslices_ContainsFunc_impl_Frame__impl_bodyOk_1 (nameOk _ _ f50_okslices_ContainsFunc_impl_Frame__impl_bodyOk_1) (by kernel_rfl) h
/-! impl.bodyOk -/
noncomputable def E_impl_bodyOk (k : Nat) : Env := ⟨ty, fun g => match g with
  | 50 => some (byVal fun ρ l K => match l with
    | [b1, .fn 51 [.bp [b2] 0]] => (b1.as (.row (.pair (.int .i64) (.pair (.int .i64) (.pair (.row (.int .i64)) (.pair (.int .i64) .unit)))))).bind fun c1 => (b2.as (.row (.pair .str (.pair (.int .i64) (.pair (.int .i64) (.pair (.row (.pair (.int .i64) (.pair (.int .i64) (.pair (.int .i64) (.pair (.int .i64) (.pair (.int .i64) (.pair .str (.pair (.row (.int .i64)) .unit)))))))) .unit)))))).bind fun c2 => (slices_ContainsFunc_impl_Frame__impl_bodyOk_1 k c1 c2).bind fun r => K (tvn .bool r)
    | _ => none)
  | 24 => some (byVal fun ρ l K => match l with
    | [b1, b2, b3] => (b1.as (.int .i64)).bind fun c1 => (b2.as (.int .i64)).bind fun c2 => (b3.as (.int .i64)).bind fun c3 => (impl_within k c1 c2 c3).bind fun r => K (tvn .bool r)
    | _ => none)
  | 32 => some (byVal fun ρ l K => match l with
    | [b1] => (b1.as (.int .i64)).bind fun c1 => (impl_WordOk k c1).bind fun r => K (tvn .bool r)
    | _ => none)
  | 53 => some (byVal fun ρ l K => match l with
    | [b1] => (b1.as (.int .i64)).bind fun c1 => (impl_isDst k c1).bind fun r => K (tvn .bool r)
    | _ => none)
  | _ => none, fun _ _ => none⟩
noncomputable def impl_bodyOk (k : Nat) (a1 : List (ByteArray × Int × Int × (List (Int × Int × Int × Int × Int × ByteArray × (List Int) × Unit)) × Unit)) (a2 : (List (Int × Int × (List Int) × Int × Unit)) × Bool × Bool × Int × Int × Int × Int × Int × Unit) : Option (Bool) :=
  abody (E_impl_bodyOk k) (arun Tryz.prog (E_impl_bodyOk k) k) k 27 Tryz.f27 [.tv (.row (.pair .str (.pair (.int .i64) (.pair (.int .i64) (.pair (.row (.pair (.int .i64) (.pair (.int .i64) (.pair (.int .i64) (.pair (.int .i64) (.pair (.int .i64) (.pair .str (.pair (.row (.int .i64)) .unit)))))))) .unit))))) a1, .tv (.pair (.row (.pair (.int .i64) (.pair (.int .i64) (.pair (.row (.int .i64)) (.pair (.int .i64) .unit))))) (.pair .bool (.pair .bool (.pair (.int .i64) (.pair (.int .i64) (.pair (.int .i64) (.pair (.int .i64) (.pair (.int .i64) .unit)))))))) a2] [] (fin1 .bool)
theorem impl_bodyOk_e (k : Nat) (a1 : List (ByteArray × Int × Int × (List (Int × Int × Int × Int × Int × ByteArray × (List Int) × Unit)) × Unit)) (a2 : (List (Int × Int × (List Int) × Int × Unit)) × Bool × Bool × Int × Int × Int × Int × Int × Unit) : impl_bodyOk k a1 a2 =
  bindO (slices_ContainsFunc_impl_Frame__impl_bodyOk_1 k a2.1 a1) fun r1 => (iteB r1 (some false) (iteB (decide (((List.length a2.1) : Int) ≤ 12)) (iteB (!a2.2.1) (iteB (decide (((List.length a2.1) : Int) > 0)) (bindO (impl_within k a2.2.2.2.1 0 100000) fun r2 => (iteB r2 (bindO (impl_within k a2.2.2.2.2.2.1 0 100000) fun r3 => (iteB r3 (bindO (impl_WordOk k a2.2.2.2.2.1) fun r4 => (iteB r4 (bindO (impl_isDst k a2.2.2.2.2.2.2.1) fun r5 => (iteB r5 (bindO (impl_isDst k a2.2.2.2.2.2.2.2.1) fun r6 => (some r6)) (some false))) (some false))) (some false))) (some false))) (some false)) (bindO (impl_within k a2.2.2.2.1 0 100000) fun r7 => (iteB r7 (bindO (impl_within k a2.2.2.2.2.2.1 0 100000) fun r8 => (iteB r8 (bindO (impl_WordOk k a2.2.2.2.2.1) fun r9 => (iteB r9 (bindO (impl_isDst k a2.2.2.2.2.2.2.1) fun r10 => (iteB r10 (bindO (impl_isDst k a2.2.2.2.2.2.2.2.1) fun r11 => (some r11)) (some false))) (some false))) (some false))) (some false)))) (some false))) := by kernel_rfl
theorem E_impl_bodyOk_calls (k : Nat) : CallsOk Tryz.prog (E_impl_bodyOk k) (arun Tryz.prog (E_impl_bodyOk k) k) := by
  refine told_run (tyTOk _ _) ?_ (fun run h => regOk (tyTOk _ _) mixOk h) ?_ nameOk k
  · intro g m hg
    simp only [E_impl_bodyOk] at hg
    split at hg
    · cases hg
      refine con_byVal fun ρ l K x hm => ?_
      split at hm
      · obtain ⟨c1, h1, hm⟩ := Option.bind_eq_some_iff.1 hm
        obtain ⟨c2, h2, hm⟩ := Option.bind_eq_some_iff.1 hm
        obtain ⟨r, hr, hm⟩ := Option.bind_eq_some_iff.1 hm
        exact ⟨_, hm, LawV.reads (.cons (.as h1) (.cons (.fn (.cons (.bp (.cons (.as h2) .nil)) .nil)) .nil)) (slices_ContainsFunc_impl_Frame__impl_bodyOk_1_law k c1 c2 r hr)⟩
      · cases hm
    · cases hg
      refine con_byVal fun ρ l K x hm => ?_
      split at hm
      · obtain ⟨c1, h1, hm⟩ := Option.bind_eq_some_iff.1 hm
        obtain ⟨c2, h2, hm⟩ := Option.bind_eq_some_iff.1 hm
        obtain ⟨c3, h3, hm⟩ := Option.bind_eq_some_iff.1 hm
        obtain ⟨r, hr, hm⟩ := Option.bind_eq_some_iff.1 hm
        exact ⟨_, hm, LawV.reads (.cons (.as h1) (.cons (.as h2) (.cons (.as h3) .nil))) (impl_within_law k c1 c2 c3 r hr)⟩
      · cases hm
    · cases hg
      refine con_byVal fun ρ l K x hm => ?_
      split at hm
      · obtain ⟨c1, h1, hm⟩ := Option.bind_eq_some_iff.1 hm
        obtain ⟨r, hr, hm⟩ := Option.bind_eq_some_iff.1 hm
        exact ⟨_, hm, LawV.reads (.cons (.as h1) .nil) (impl_WordOk_law k c1 r hr)⟩
      · cases hm
    · cases hg
      refine con_byVal fun ρ l K x hm => ?_
      split at hm
      · obtain ⟨c1, h1, hm⟩ := Option.bind_eq_some_iff.1 hm
        obtain ⟨r, hr, hm⟩ := Option.bind_eq_some_iff.1 hm
        exact ⟨_, hm, LawV.reads (.cons (.as h1) .nil) (impl_isDst_law k c1 r hr)⟩
      · cases hm
    · cases hg
  · intro g _ r; rfl
theorem f27_okimpl_bodyOk : Tryz.prog.funcs[27]? = some Tryz.f27 := by kernel_rfl
theorem impl_bodyOk_law (k : Nat) (a1 : List (ByteArray × Int × Int × (List (Int × Int × Int × Int × Int × ByteArray × (List Int) × Unit)) × Unit)) (a2 : (List (Int × Int × (List Int) × Int × Unit)) × Bool × Bool × Int × Int × Int × Int × Int × Unit) (x : Bool) (h : impl_bodyOk k a1 a2 = some x) : LawV Tryz.prog 27 [.tv (.row (.pair .str (.pair (.int .i64) (.pair (.int .i64) (.pair (.row (.pair (.int .i64) (.pair (.int .i64) (.pair (.int .i64) (.pair (.int .i64) (.pair (.int .i64) (.pair .str (.pair (.row (.int .i64)) .unit)))))))) .unit))))) a1, .tv (.pair (.row (.pair (.int .i64) (.pair (.int .i64) (.pair (.row (.int .i64)) (.pair (.int .i64) .unit))))) (.pair .bool (.pair .bool (.pair (.int .i64) (.pair (.int .i64) (.pair (.int .i64) (.pair (.int .i64) (.pair (.int .i64) .unit)))))))) a2] (tvn .bool x) := by
  unfold impl_bodyOk at h
  exact law1 (t := .bool) (tyTOk _ _) (E_impl_bodyOk_calls k) mixOk f27_okimpl_bodyOk (nameOk _ _ f27_okimpl_bodyOk) (by kernel_rfl) h
/-! impl.WorldOk$1 -/
noncomputable def E_impl_WorldOk_1_vbp (k : Nat) : Env := ⟨ty, fun g => match g with
  | 27 => some (byVal fun ρ l K => match l with
    | [b1, b2] => (b1.as (.row (.pair .str (.pair (.int .i64) (.pair (.int .i64) (.pair (.row (.pair (.int .i64) (.pair (.int .i64) (.pair (.int .i64) (.pair (.int .i64) (.pair (.int .i64) (.pair .str (.pair (.row (.int .i64)) .unit)))))))) .unit)))))).bind fun c1 => (b2.as (.pair (.row (.pair (.int .i64) (.pair (.int .i64) (.pair (.row (.int .i64)) (.pair (.int .i64) .unit))))) (.pair .bool (.pair .bool (.pair (.int .i64) (.pair (.int .i64) (.pair (.int .i64) (.pair (.int .i64) (.pair (.int .i64) .unit))))))))).bind fun c2 => (impl_bodyOk k c1 c2).bind fun r => K (tvn .bool r)
    | _ => none)
  | _ => none, fun _ _ => none⟩
noncomputable def impl_WorldOk_1_vbp (k : Nat) (a1 : (List (Int × Int × (List Int) × Int × Unit)) × Bool × Bool × Int × Int × Int × Int × Int × Unit) (a2 : List (ByteArray × Int × Int × (List (Int × Int × Int × Int × Int × ByteArray × (List Int) × Unit)) × Unit)) (a3 : List ((List (Int × Int × (List Int) × Int × Unit)) × Bool × Bool × Int × Int × Int × Int × Int × Unit)) (a4 : List (Int × Bool × (List Int) × (List (Int × Int × Int × Int × Unit)) × (List (Int × Int × Int × Int × Unit)) × Unit)) (a5 : List Int) (a6 : Bool) (a7 : Int) : Option (Bool) :=
  abody (E_impl_WorldOk_1_vbp k) (arun Tryz.prog (E_impl_WorldOk_1_vbp k) k) k 26 Tryz.f26 [.tv (.pair (.row (.pair (.int .i64) (.pair (.int .i64) (.pair (.row (.int .i64)) (.pair (.int .i64) .unit))))) (.pair .bool (.pair .bool (.pair (.int .i64) (.pair (.int .i64) (.pair (.int .i64) (.pair (.int .i64) (.pair (.int .i64) .unit)))))))) a1, .bp [.tv (.row (.pair .str (.pair (.int .i64) (.pair (.int .i64) (.pair (.row (.pair (.int .i64) (.pair (.int .i64) (.pair (.int .i64) (.pair (.int .i64) (.pair (.int .i64) (.pair .str (.pair (.row (.int .i64)) .unit)))))))) .unit))))) a2, .tv (.row (.pair (.row (.pair (.int .i64) (.pair (.int .i64) (.pair (.row (.int .i64)) (.pair (.int .i64) .unit))))) (.pair .bool (.pair .bool (.pair (.int .i64) (.pair (.int .i64) (.pair (.int .i64) (.pair (.int .i64) (.pair (.int .i64) .unit))))))))) a3, .tv (.row (.pair (.int .i64) (.pair .bool (.pair (.row (.int .i64)) (.pair (.row (.pair (.int .i64) (.pair (.int .i64) (.pair (.int .i64) (.pair (.int .i64) .unit))))) (.pair (.row (.pair (.int .i64) (.pair (.int .i64) (.pair (.int .i64) (.pair (.int .i64) .unit))))) .unit)))))) a4, .tv (.row (.int .i64)) a5, .bool a6, .int .i64 a7] 0] [] (fin1 .bool)
theorem impl_WorldOk_1_vbp_e (k : Nat) (a1 : (List (Int × Int × (List Int) × Int × Unit)) × Bool × Bool × Int × Int × Int × Int × Int × Unit) (a2 : List (ByteArray × Int × Int × (List (Int × Int × Int × Int × Int × ByteArray × (List Int) × Unit)) × Unit)) (a3 : List ((List (Int × Int × (List Int) × Int × Unit)) × Bool × Bool × Int × Int × Int × Int × Int × Unit)) (a4 : List (Int × Bool × (List Int) × (List (Int × Int × Int × Int × Unit)) × (List (Int × Int × Int × Int × Unit)) × Unit)) (a5 : List Int) (a6 : Bool) (a7 : Int) : impl_WorldOk_1_vbp k a1 a2 a3 a4 a5 a6 a7 =
  bindO (impl_bodyOk k a2 a1) fun r1 => (some (!r1)) := by kernel_rfl
theorem E_impl_WorldOk_1_vbp_calls (k : Nat) : CallsOk Tryz.prog (E_impl_WorldOk_1_vbp k) (arun Tryz.prog (E_impl_WorldOk_1_vbp k) k) := by
  refine told_run (tyTOk _ _) ?_ (fun run h => regOk (tyTOk _ _) mixOk h) ?_ nameOk k
  · intro g m hg
    simp only [E_impl_WorldOk_1_vbp] at hg
    split at hg
    · cases hg
      refine con_byVal fun ρ l K x hm => ?_
      split at hm
      · obtain ⟨c1, h1, hm⟩ := Option.bind_eq_some_iff.1 hm
        obtain ⟨c2, h2, hm⟩ := Option.bind_eq_some_iff.1 hm
        obtain ⟨r, hr, hm⟩ := Option.bind_eq_some_iff.1 hm
        exact ⟨_, hm, LawV.reads (.cons (.as h1) (.cons (.as h2) .nil)) (impl_bodyOk_law k c1 c2 r hr)⟩
      · cases hm
    · cases hg
  · intro g _ r; rfl
theorem f26_okimpl_WorldOk_1_vbp : Tryz.prog.funcs[26]? = some Tryz.f26 := by kernel_rfl
theorem impl_WorldOk_1_vbp_law (k : Nat) (a1 : (List (Int × Int × (List Int) × Int × Unit)) × Bool × Bool × Int × Int × Int × Int × Int × Unit) (a2 : List (ByteArray × Int × Int × (List (Int × Int × Int × Int × Int × ByteArray × (List Int) × Unit)) × Unit)) (a3 : List ((List (Int × Int × (List Int) × Int × Unit)) × Bool × Bool × Int × Int × Int × Int × Int × Unit)) (a4 : List (Int × Bool × (List Int) × (List (Int × Int × Int × Int × Unit)) × (List (Int × Int × Int × Int × Unit)) × Unit)) (a5 : List Int) (a6 : Bool) (a7 : Int) (x : Bool) (h : impl_WorldOk_1_vbp k a1 a2 a3 a4 a5 a6 a7 = some x) : LawV Tryz.prog 26 [.tv (.pair (.row (.pair (.int .i64) (.pair (.int .i64) (.pair (.row (.int .i64)) (.pair (.int .i64) .unit))))) (.pair .bool (.pair .bool (.pair (.int .i64) (.pair (.int .i64) (.pair (.int .i64) (.pair (.int .i64) (.pair (.int .i64) .unit)))))))) a1, .bp [.tv (.row (.pair .str (.pair (.int .i64) (.pair (.int .i64) (.pair (.row (.pair (.int .i64) (.pair (.int .i64) (.pair (.int .i64) (.pair (.int .i64) (.pair (.int .i64) (.pair .str (.pair (.row (.int .i64)) .unit)))))))) .unit))))) a2, .tv (.row (.pair (.row (.pair (.int .i64) (.pair (.int .i64) (.pair (.row (.int .i64)) (.pair (.int .i64) .unit))))) (.pair .bool (.pair .bool (.pair (.int .i64) (.pair (.int .i64) (.pair (.int .i64) (.pair (.int .i64) (.pair (.int .i64) .unit))))))))) a3, .tv (.row (.pair (.int .i64) (.pair .bool (.pair (.row (.int .i64)) (.pair (.row (.pair (.int .i64) (.pair (.int .i64) (.pair (.int .i64) (.pair (.int .i64) .unit))))) (.pair (.row (.pair (.int .i64) (.pair (.int .i64) (.pair (.int .i64) (.pair (.int .i64) .unit))))) .unit)))))) a4, .tv (.row (.int .i64)) a5, .bool a6, .int .i64 a7] 0] (tvn .bool x) := by
  unfold impl_WorldOk_1_vbp at h
  exact law1 (t := .bool) (tyTOk _ _) (E_impl_WorldOk_1_vbp_calls k) mixOk f26_okimpl_WorldOk_1_vbp (nameOk _ _ f26_okimpl_WorldOk_1_vbp) (by kernel_rfl) h
/-! slices.IndexFunc[[]impl.Body,impl.Body] -/
noncomputable def E_slices_IndexFunc_impl_Body__impl_WorldOk_1 (k : Nat) : Env := ⟨ty, fun g => match g with
  | 26 => some (byVal fun ρ l K => match l with
    | [b1, .bp [b2, b3, b4, b5, b6, b7] 0] => (b1.as (.pair (.row (.pair (.int .i64) (.pair (.int .i64) (.pair (.row (.int .i64)) (.pair (.int .i64) .unit))))) (.pair .bool (.pair .bool (.pair (.int .i64) (.pair (.int .i64) (.pair (.int .i64) (.pair (.int .i64) (.pair (.int .i64) .unit))))))))).bind fun c1 => (b2.as (.row (.pair .str (.pair (.int .i64) (.pair (.int .i64) (.pair (.row (.pair (.int .i64) (.pair (.int .i64) (.pair (.int .i64) (.pair (.int .i64) (.pair (.int .i64) (.pair .str (.pair (.row (.int .i64)) .unit)))))))) .unit)))))).bind fun c2 => (b3.as (.row (.pair (.row (.pair (.int .i64) (.pair (.int .i64) (.pair (.row (.int .i64)) (.pair (.int .i64) .unit))))) (.pair .bool (.pair .bool (.pair (.int .i64) (.pair (.int .i64) (.pair (.int .i64) (.pair (.int .i64) (.pair (.int .i64) .unit)))))))))).bind fun c3 => (b4.as (.row (.pair (.int .i64) (.pair .bool (.pair (.row (.int .i64)) (.pair (.row (.pair (.int .i64) (.pair (.int .i64) (.pair (.int .i64) (.pair (.int .i64) .unit))))) (.pair (.row (.pair (.int .i64) (.pair (.int .i64) (.pair (.int .i64) (.pair (.int .i64) .unit))))) .unit))))))).bind fun c4 => (b5.as (.row (.int .i64))).bind fun c5 => (b6.as .bool).bind fun c6 => (b7.as (.int .i64)).bind fun c7 => (impl_WorldOk_1_vbp k c1 c2 c3 c4 c5 c6 c7).bind fun r => K (tvn .bool r)
    | _ => none)
  | 49 => some noCon
  | _ => none, fun f r => match f with | 49 => (match r with | 2 => some [0, 1, 7, 8] | _ => none) | _ => none⟩
noncomputable def slices_IndexFunc_impl_Body__impl_WorldOk_1 (k : Nat) (a1 : List ((List (Int × Int × (List Int) × Int × Unit)) × Bool × Bool × Int × Int × Int × Int × Int × Unit)) (a2 : List (ByteArray × Int × Int × (List (Int × Int × Int × Int × Int × ByteArray × (List Int) × Unit)) × Unit)) (a3 : List ((List (Int × Int × (List Int) × Int × Unit)) × Bool × Bool × Int × Int × Int × Int × Int × Unit)) (a4 : List (Int × Bool × (List Int) × (List (Int × Int × Int × Int × Unit)) × (List (Int × Int × Int × Int × Unit)) × Unit)) (a5 : List Int) (a6 : Bool) (a7 : Int) : Option (Int) :=
  abody (E_slices_IndexFunc_impl_Body__impl_WorldOk_1 k) (arun Tryz.prog (E_slices_IndexFunc_impl_Body__impl_WorldOk_1 k) k) k 49 Tryz.f49 [.tv (.row (.pair (.row (.pair (.int .i64) (.pair (.int .i64) (.pair (.row (.int .i64)) (.pair (.int .i64) .unit))))) (.pair .bool (.pair .bool (.pair (.int .i64) (.pair (.int .i64) (.pair (.int .i64) (.pair (.int .i64) (.pair (.int .i64) .unit))))))))) a1, .fn 26 [.bp [.tv (.row (.pair .str (.pair (.int .i64) (.pair (.int .i64) (.pair (.row (.pair (.int .i64) (.pair (.int .i64) (.pair (.int .i64) (.pair (.int .i64) (.pair (.int .i64) (.pair .str (.pair (.row (.int .i64)) .unit)))))))) .unit))))) a2, .tv (.row (.pair (.row (.pair (.int .i64) (.pair (.int .i64) (.pair (.row (.int .i64)) (.pair (.int .i64) .unit))))) (.pair .bool (.pair .bool (.pair (.int .i64) (.pair (.int .i64) (.pair (.int .i64) (.pair (.int .i64) (.pair (.int .i64) .unit))))))))) a3, .tv (.row (.pair (.int .i64) (.pair .bool (.pair (.row (.int .i64)) (.pair (.row (.pair (.int .i64) (.pair (.int .i64) (.pair (.int .i64) (.pair (.int .i64) .unit))))) (.pair (.row (.pair (.int .i64) (.pair (.int .i64) (.pair (.int .i64) (.pair (.int .i64) .unit))))) .unit)))))) a4, .tv (.row (.int .i64)) a5, .bool a6, .int .i64 a7] 0]] [] (fin1 (.int .i64))
noncomputable def slices_IndexFunc_impl_Body__impl_WorldOk_1.l2 (k n : Nat) (x0 : List ((List (Int × Int × (List Int) × Int × Unit)) × Bool × Bool × Int × Int × Int × Int × Int × Unit)) (x1_0_0 : List (ByteArray × Int × Int × (List (Int × Int × Int × Int × Int × ByteArray × (List Int) × Unit)) × Unit)) (x1_0_1 : List ((List (Int × Int × (List Int) × Int × Unit)) × Bool × Bool × Int × Int × Int × Int × Int × Unit)) (x1_0_2 : List (Int × Bool × (List Int) × (List (Int × Int × Int × Int × Unit)) × (List (Int × Int × Int × Int × Unit)) × Unit)) (x1_0_3 : List Int) (x1_0_4 : Bool) (x1_0_5 : Int) (x7 : Int) (x8 : Int) : Option (Int) :=
  resume (E_slices_IndexFunc_impl_Body__impl_WorldOk_1 k) 49 (acall (E_slices_IndexFunc_impl_Body__impl_WorldOk_1 k) (arun Tryz.prog (E_slices_IndexFunc_impl_Body__impl_WorldOk_1 k) k)) k [true, false, true, true] [n] (bodyOf Tryz.f49) ⟨[.tv (.row (.pair (.row (.pair (.int .i64) (.pair (.int .i64) (.pair (.row (.int .i64)) (.pair (.int .i64) .unit))))) (.pair .bool (.pair .bool (.pair (.int .i64) (.pair (.int .i64) (.pair (.int .i64) (.pair (.int .i64) (.pair (.int .i64) .unit))))))))) x0, .fn 26 [.bp [.tv (.row (.pair .str (.pair (.int .i64) (.pair (.int .i64) (.pair (.row (.pair (.int .i64) (.pair (.int .i64) (.pair (.int .i64) (.pair (.int .i64) (.pair (.int .i64) (.pair .str (.pair (.row (.int .i64)) .unit)))))))) .unit))))) x1_0_0, .tv (.row (.pair (.row (.pair (.int .i64) (.pair (.int .i64) (.pair (.row (.int .i64)) (.pair (.int .i64) .unit))))) (.pair .bool (.pair .bool (.pair (.int .i64) (.pair (.int .i64) (.pair (.int .i64) (.pair (.int .i64) (.pair (.int .i64) .unit))))))))) x1_0_1, .tv (.row (.pair (.int .i64) (.pair .bool (.pair (.row (.int .i64)) (.pair (.row (.pair (.int .i64) (.pair (.int .i64) (.pair (.int .i64) (.pair (.int .i64) .unit))))) (.pair (.row (.pair (.int .i64) (.pair (.int .i64) (.pair (.int .i64) (.pair (.int .i64) .unit))))) .unit)))))) x1_0_2, .tv (.row (.int .i64)) x1_0_3, .bool x1_0_4, .int .i64 x1_0_5] 0], .undef, .undef, .undef, .undef, .undef, .int .i64 x7, .int .i64 x8, .undef, .undef, .undef, .undef, .undef, .undef, .undef, .undef, .undef, .undef], []⟩ (leave (E_slices_IndexFunc_impl_Body__impl_WorldOk_1 k) Tryz.f49 (fin1 (.int .i64)))
theorem slices_IndexFunc_impl_Body__impl_WorldOk_1.l2_0 (k : Nat) (x0 : List ((List (Int × Int × (List Int) × Int × Unit)) × Bool × Bool × Int × Int × Int × Int × Int × Unit)) (x1_0_0 : List (ByteArray × Int × Int × (List (Int × Int × Int × Int × Int × ByteArray × (List Int) × Unit)) × Unit)) (x1_0_1 : List ((List (Int × Int × (List Int) × Int × Unit)) × Bool × Bool × Int × Int × Int × Int × Int × Unit)) (x1_0_2 : List (Int × Bool × (List Int) × (List (Int × Int × Int × Int × Unit)) × (List (Int × Int × Int × Int × Unit)) × Unit)) (x1_0_3 : List Int) (x1_0_4 : Bool) (x1_0_5 : Int) (x7 : Int) (x8 : Int) : slices_IndexFunc_impl_Body__impl_WorldOk_1.l2 k 0 x0 x1_0_0 x1_0_1 x1_0_2 x1_0_3 x1_0_4 x1_0_5 x7 x8 = none := by kernel_rfl
theorem slices_IndexFunc_impl_Body__impl_WorldOk_1.l2_s (k n : Nat) (x0 : List ((List (Int × Int × (List Int) × Int × Unit)) × Bool × Bool × Int × Int × Int × Int × Int × Unit)) (x1_0_0 : List (ByteArray × Int × Int × (List (Int × Int × Int × Int × Int × ByteArray × (List Int) × Unit)) × Unit)) (x1_0_1 : List ((List (Int × Int × (List Int) × Int × Unit)) × Bool × Bool × Int × Int × Int × Int × Int × Unit)) (x1_0_2 : List (Int × Bool × (List Int) × (List (Int × Int × Int × Int × Unit)) × (List (Int × Int × Int × Int × Unit)) × Unit)) (x1_0_3 : List Int) (x1_0_4 : Bool) (x1_0_5 : Int) (x7 : Int) (x8 : Int) : slices_IndexFunc_impl_Body__impl_WorldOk_1.l2 k (n + 1) x0 x1_0_0 x1_0_1 x1_0_2 x1_0_3 x1_0_4 x1_0_5 x7 x8 =
  iteB (decide (x8 < x7)) (iteB (decide (0 ≤ x8)) (iteB (decide (x8 < ((List.length x0) : Int))) (bindO (impl_WorldOk_1_vbp k (List.getD x0 (Int.toNat x8) (Ty.dflt (.pair (.row (.pair (.int .i64) (.pair (.int .i64) (.pair (.row (.int .i64)) (.pair (.int .i64) .unit))))) (.pair .bool (.pair .bool (.pair (.int .i64) (.pair (.int .i64) (.pair (.int .i64) (.pair (.int .i64) (.pair (.int .i64) .unit)))))))))) x1_0_0 x1_0_1 x1_0_2 x1_0_3 x1_0_4 x1_0_5) fun r1 => (iteB r1 (some x8) (slices_IndexFunc_impl_Body__impl_WorldOk_1.l2 k n x0 x1_0_0 x1_0_1 x1_0_2 x1_0_3 x1_0_4 x1_0_5 x7 (IntKind.wrap .i64 (x8 + 1))))) (none)) (none)) (some (-1)) := by kernel_rfl
theorem slices_IndexFunc_impl_Body__impl_WorldOk_1_e (k : Nat) (a1 : List ((List (Int × Int × (List Int) × Int × Unit)) × Bool × Bool × Int × Int × Int × Int × Int × Unit)) (a2 : List (ByteArray × Int × Int × (List (Int × Int × Int × Int × Int × ByteArray × (List Int) × Unit)) × Unit)) (a3 : List ((List (Int × Int × (List Int) × Int × Unit)) × Bool × Bool × Int × Int × Int × Int × Int × Unit)) (a4 : List (Int × Bool × (List Int) × (List (Int × Int × Int × Int × Unit)) × (List (Int × Int × Int × Int × Unit)) × Unit)) (a5 : List Int) (a6 : Bool) (a7 : Int) : slices_IndexFunc_impl_Body__impl_WorldOk_1 k a1 a2 a3 a4 a5 a6 a7 =
  slices_IndexFunc_impl_Body__impl_WorldOk_1.l2 k k a1 a2 a3 a4 a5 a6 a7 ((List.length a1) : Int) 0 := by kernel_rfl
theorem E_slices_IndexFunc_impl_Body__impl_WorldOk_1_calls (k : Nat) : CallsOk Tryz.prog (E_slices_IndexFunc_impl_Body__impl_WorldOk_1 k) (arun Tryz.prog (E_slices_IndexFunc_impl_Body__impl_WorldOk_1 k) k) := by
  refine told_run (tyTOk _ _) ?_ (fun run h => regOk (tyTOk _ _) mixOk h) ?_ nameOk k
  · intro g m hg
    simp only [E_slices_IndexFunc_impl_Body__impl_WorldOk_1] at hg
    split at hg
    · cases hg
      refine con_byVal fun ρ l K x hm => ?_
      split at hm
      · obtain ⟨c1, h1, hm⟩ := Option.bind_eq_some_iff.1 hm
        obtain ⟨c2, h2, hm⟩ := Option.bind_eq_some_iff.1 hm
        obtain ⟨c3, h3, hm⟩ := Option.bind_eq_some_iff.1 hm
        obtain ⟨c4, h4, hm⟩ := Option.bind_eq_some_iff.1 hm
        obtain ⟨c5, h5, hm⟩ := Option.bind_eq_some_iff.1 hm
        obtain ⟨c6, h6, hm⟩ := Option.bind_eq_some_iff.1 hm
        obtain ⟨c7, h7, hm⟩ := Option.bind_eq_some_iff.1 hm
        obtain ⟨r, hr, hm⟩ := Option.bind_eq_some_iff.1 hm
        exact ⟨_, hm, LawV.reads (.cons (.as h1) (.cons (.bp (.cons (.as h2) (.cons (.as h3) (.cons (.as h4) (.cons (.as h5) (.cons (.as h6) (.cons (.as h7) .nil))))))) .nil)) (impl_WorldOk_1_vbp_law k c1 c2 c3 c4 c5 c6 c7 r hr)⟩
      · cases hm
    · cases hg; exact noCon_ok
    · cases hg
  · intro g hg r
    by_cases h : g = 49
    · subst h; simp [E_slices_IndexFunc_impl_Body__impl_WorldOk_1] at hg
    · simp [E_slices_IndexFunc_impl_Body__impl_WorldOk_1, h]
theorem f49_okslices_IndexFunc_impl_Body__impl_WorldOk_1 : Tryz.prog.funcs[49]? = some Tryz.f49 := by kernel_rfl
theorem slices_IndexFunc_impl_Body__impl_WorldOk_1_law (k : Nat) (a1 : List ((List (Int × Int × (List Int) × Int × Unit)) × Bool × Bool × Int × Int × Int × Int × Int × Unit)) (a2 : List (ByteArray × Int × Int × (List (Int × Int × Int × Int × Int × ByteArray × (List Int) × Unit)) × Unit)) (a3 : List ((List (Int × Int × (List Int) × Int × Unit)) × Bool × Bool × Int × Int × Int × Int × Int × Unit)) (a4 : List (Int × Bool × (List Int) × (List (Int × Int × Int × Int × Unit)) × (List (Int × Int × Int × Int × Unit)) × Unit)) (a5 : List Int) (a6 : Bool) (a7 : Int) (x : Int) (h : slices_IndexFunc_impl_Body__impl_WorldOk_1 k a1 a2 a3 a4 a5 a6 a7 = some x) : LawV Tryz.prog 49 [.tv (.row (.pair (.row (.pair (.int .i64) (.pair (.int .i64) (.pair (.row (.int .i64)) (.pair (.int .i64) .unit))))) (.pair .bool (.pair .bool (.pair (.int .i64) (.pair (.int .i64) (.pair (.int .i64) (.pair (.int .i64) (.pair (.int .i64) .unit))))))))) a1, .fn 26 [.bp [.tv (.row (.pair .str (.pair (.int .i64) (.pair (.int .i64) (.pair (.row (.pair (.int .i64) (.pair (.int .i64) (.pair (.int .i64) (.pair (.int .i64) (.pair (.int .i64) (.pair .str (.pair (.row (.int .i64)) .unit)))))))) .unit))))) a2, .tv (.row (.pair (.row (.pair (.int .i64) (.pair (.int .i64) (.pair (.row (.int .i64)) (.pair (.int .i64) .unit))))) (.pair .bool (.pair .bool (.pair (.int .i64) (.pair (.int .i64) (.pair (.int .i64) (.pair (.int .i64) (.pair (.int .i64) .unit))))))))) a3, .tv (.row (.pair (.int .i64) (.pair .bool (.pair (.row (.int .i64)) (.pair (.row (.pair (.int .i64) (.pair (.int .i64) (.pair (.int .i64) (.pair (.int .i64) .unit))))) (.pair (.row (.pair (.int .i64) (.pair (.int .i64) (.pair (.int .i64) (.pair (.int .i64) .unit))))) .unit)))))) a4, .tv (.row (.int .i64)) a5, .bool a6, .int .i64 a7] 0]] (tvn (.int .i64) x) := by
  unfold slices_IndexFunc_impl_Body__impl_WorldOk_1 at h
  exact law1 (t := (.int .i64)) (tyTOk _ _) (E_slices_IndexFunc_impl_Body__impl_WorldOk_1_calls k) mixOk f49_okslices_IndexFunc_impl_Body__impl_WorldOk_1 (nameOk _ _ f49_okslices_IndexFunc_impl_Body__impl_WorldOk_1) (by kernel_rfl) h
/-! slices.ContainsFunc[[]impl.Body,impl.Body] -/
noncomputable def E_slices_ContainsFunc_impl_Body__impl_WorldOk_1 (k : Nat) : Env := ⟨ty, fun g => match g with
  | 49 => some (byVal fun ρ l K => match l with
    | [b1, .fn 26 [.bp [b2, b3, b4, b5, b6, b7] 0]] => (b1.as (.row (.pair (.row (.pair (.int .i64) (.pair (.int .i64) (.pair (.row (.int .i64)) (.pair (.int .i64) .unit))))) (.pair .bool (.pair .bool (.pair (.int .i64) (.pair (.int .i64) (.pair (.int .i64) (.pair (.int .i64) (.pair (.int .i64) .unit)))))))))).bind fun c1 => (b2.as (.row (.pair .str (.pair (.int .i64) (.pair (.int .i64) (.pair (.row (.pair (.int .i64) (.pair (.int .i64) (.pair (.int .i64) (.pair (.int .i64) (.pair (.int .i64) (.pair .str (.pair (.row (.int .i64)) .unit)))))))) .unit)))))).bind fun c2 => (b3.as (.row (.pair (.row (.pair (.int .i64) (.pair (.int .i64) (.pair (.row (.int .i64)) (.pair (.int .i64) .unit))))) (.pair .bool (.pair .bool (.pair (.int .i64) (.pair (.int .i64) (.pair (.int .i64) (.pair (.int .i64) (.pair (.int .i64) .unit)))))))))).bind fun c3 => (b4.as (.row (.pair (.int .i64) (.pair .bool (.pair (.row (.int .i64)) (.pair (.row (.pair (.int .i64) (.pair (.int .i64) (.pair (.int .i64) (.pair (.int .i64) .unit))))) (.pair (.row (.pair (.int .i64) (.pair (.int .i64) (.pair (.int .i64) (.pair (.int .i64) .unit))))) .unit))))))).bind fun c4 => (b5.as (.row (.int .i64))).bind fun c5 => (b6.as .bool).bind fun c6 => (b7.as (.int .i64)).bind fun c7 => (slices_IndexFunc_impl_Body__impl_WorldOk_1 k c1 c2 c3 c4 c5 c6 c7).bind fun r => K (tvn (.int .i64) r)
    | _ => none)
  | _ => none, fun _ _ => none⟩
noncomputable def slices_ContainsFunc_impl_Body__impl_WorldOk_1 (k : Nat) (a1 : List ((List (Int × Int × (List Int) × Int × Unit)) × Bool × Bool × Int × Int × Int × Int × Int × Unit)) (a2 : List (ByteArray × Int × Int × (List (Int × Int × Int × Int × Int × ByteArray × (List Int) × Unit)) × Unit)) (a3 : List ((List (Int × Int × (List Int) × Int × Unit)) × Bool × Bool × Int × Int × Int × Int × Int × Unit)) (a4 : List (Int × Bool × (List Int) × (List (Int × Int × Int × Int × Unit)) × (List (Int × Int × Int × Int × Unit)) × Unit)) (a5 : List Int) (a6 : Bool) (a7 : Int) : Option (Bool) :=
  abody (E_slices_ContainsFunc_impl_Body__impl_WorldOk_1 k) (arun Tryz.prog (E_slices_ContainsFunc_impl_Body__impl_WorldOk_1 k) k) k 25 Tryz.f25 [.tv (.row (.pair (.row (.pair (.int .i64) (.pair (.int .i64) (.pair (.row (.int .i64)) (.pair (.int .i64) .unit))))) (.pair .bool (.pair .bool (.pair (.int .i64) (.pair (.int .i64) (.pair (.int .i64) (.pair (.int .i64) (.pair (.int .i64) .unit))))))))) a1, .fn 26 [.bp [.tv (.row (.pair .str (.pair (.int .i64) (.pair (.int .i64) (.pair (.row (.pair (.int .i64) (.pair (.int .i64) (.pair (.int .i64) (.pair (.int .i64) (.pair (.int .i64) (.pair .str (.pair (.row (.int .i64)) .unit)))))))) .unit))))) a2, .tv (.row (.pair (.row (.pair (.int .i64) (.pair (.int .i64) (.pair (.row (.int .i64)) (.pair (.int .i64) .unit))))) (.pair .bool (.pair .bool (.pair (.int .i64) (.pair (.int .i64) (.pair (.int .i64) (.pair (.int .i64) (.pair (.int .i64) .unit))))))))) a3, .tv (.row (.pair (.int .i64) (.pair .bool (.pair (.row (.int .i64)) (.pair (.row (.pair (.int .i64) (.pair (.int .i64) (.pair (.int .i64) (.pair (.int .i64) .unit))))) (.pair (.row (.pair (.int .i64) (.pair (.int .i64) (.pair (.int .i64) (.pair (.int .i64) .unit))))) .unit)))))) a4, .tv (.row (.int .i64)) a5, .bool a6, .int .i64 a7] 0]] [] (fin1 .bool)
theorem slices_ContainsFunc_impl_Body__impl_WorldOk_1_e (k : Nat) (a1 : List ((List (Int × Int × (List Int) × Int × Unit)) × Bool × Bool × Int × Int × Int × Int × Int × Unit)) (a2 : List (ByteArray × Int × Int × (List (Int × Int × Int × Int × Int × ByteArray × (List Int) × Unit)) × Unit)) (a3 : List ((List (Int × Int × (List Int) × Int × Unit)) × Bool × Bool × Int × Int × Int × Int × Int × Unit)) (a4 : List (Int × Bool × (List Int) × (List (Int × Int × Int × Int × Unit)) × (List (Int × Int × Int × Int × Unit)) × Unit)) (a5 : List Int) (a6 : Bool) (a7 : Int) : slices_ContainsFunc_impl_Body__impl_WorldOk_1 k a1 a2 a3 a4 a5 a6 a7 =
  bindO (slices_IndexFunc_impl_Body__impl_WorldOk_1 k a1 a2 a3 a4 a5 a6 a7) fun r1 => (some (decide (r1 ≥ 0))) := by kernel_rfl
theorem E_slices_ContainsFunc_impl_Body__impl_WorldOk_1_calls (k : Nat) : CallsOk Tryz.prog (E_slices_ContainsFunc_impl_Body__impl_WorldOk_1 k) (arun Tryz.prog (E_slices_ContainsFunc_impl_Body__impl_WorldOk_1 k) k) := by
  refine told_run (tyTOk _ _) ?_ (fun run h => regOk (tyTOk _ _) mixOk h) ?_ nameOk k
  · intro g m hg
    simp only [E_slices_ContainsFunc_impl_Body__impl_WorldOk_1] at hg
    split at hg
    · cases hg
      refine con_byVal fun ρ l K x hm => ?_
      split at hm
      · obtain ⟨c1, h1, hm⟩ := Option.bind_eq_some_iff.1 hm
        obtain ⟨c2, h2, hm⟩ := Option.bind_eq_some_iff.1 hm
        obtain ⟨c3, h3, hm⟩ := Option.bind_eq_some_iff.1 hm
        obtain ⟨c4, h4, hm⟩ := Option.bind_eq_some_iff.1 hm
        obtain ⟨c5, h5, hm⟩ := Option.bind_eq_some_iff.1 hm
        obtain ⟨c6, h6, hm⟩ := Option.bind_eq_some_iff.1 hm
        obtain ⟨c7, h7, hm⟩ := Option.bind_eq_some_iff.1 hm
        obtain ⟨r, hr, hm⟩ := Option.bind_eq_some_iff.1 hm
        exact ⟨_, hm, LawV.reads (.cons (.as h1) (.cons (.fn (.cons (.bp (.cons (.as h2) (.cons (.as h3) (.cons (.as h4) (.cons (.as h5) (.cons (.as h6) (.cons (.as h7) .nil))))))) .nil)) .nil)) (slices_IndexFunc_impl_Body__impl_WorldOk_1_law k c1 c2 c3 c4 c5 c6 c7 r hr)⟩
      · cases hm
    · cases hg
  · intro g _ r; rfl
theorem f25_okslices_ContainsFunc_impl_Body__impl_WorldOk_1 : Tryz.prog.funcs[25]? = some Tryz.f25 := by kernel_rfl
theorem slices_ContainsFunc_impl_Body__impl_WorldOk_1_law (k : Nat) (a1 : List ((List (Int × Int × (List Int) × Int × Unit)) × Bool × Bool × Int × Int × Int × Int × Int × Unit)) (a2 : List (ByteArray × Int × Int × (List (Int × Int × Int × Int × Int × ByteArray × (List Int) × Unit)) × Unit)) (a3 : List ((List (Int × Int × (List Int) × Int × Unit)) × Bool × Bool × Int × Int × Int × Int × Int × Unit)) (a4 : List (Int × Bool × (List Int) × (List (Int × Int × Int × Int × Unit)) × (List (Int × Int × Int × Int × Unit)) × Unit)) (a5 : List Int) (a6 : Bool) (a7 : Int) (x : Bool) (h : slices_ContainsFunc_impl_Body__impl_WorldOk_1 k a1 a2 a3 a4 a5 a6 a7 = some x) : LawV Tryz.prog 25 [.tv (.row (.pair (.row (.pair (.int .i64) (.pair (.int .i64) (.pair (.row (.int .i64)) (.pair (.int .i64) .unit))))) (.pair .bool (.pair .bool (.pair (.int .i64) (.pair (.int .i64) (.pair (.int .i64) (.pair (.int .i64) (.pair (.int .i64) .unit))))))))) a1, .fn 26 [.bp [.tv (.row (.pair .str (.pair (.int .i64) (.pair (.int .i64) (.pair (.row (.pair (.int .i64) (.pair (.int .i64) (.pair (.int .i64) (.pair (.int .i64) (.pair (.int .i64) (.pair .str (.pair (.row (.int .i64)) .unit)))))))) .unit))))) a2, .tv (.row (.pair (.row (.pair (.int .i64) (.pair (.int .i64) (.pair (.row (.int .i64)) (.pair (.int .i64) .unit))))) (.pair .bool (.pair .bool (.pair (.int .i64) (.pair (.int .i64) (.pair (.int .i64) (.pair (.int .i64) (.pair (.int .i64) .unit))))))))) a3, .tv (.row (.pair (.int .i64) (.pair .bool (.pair (.row (.int .i64)) (.pair (.row (.pair (.int .i64) (.pair (.int .i64) (.pair (.int .i64) (.pair (.int .i64) .unit))))) (.pair (.row (.pair (.int .i64) (.pair (.int .i64) (.pair (.int .i64) (.pair (.int .i64) .unit))))) .unit)))))) a4, .tv (.row (.int .i64)) a5, .bool a6, .int .i64 a7] 0]] (tvn .bool x) := by
  unfold slices_ContainsFunc_impl_Body__impl_WorldOk_1 at h
  exact law1 (t := .bool) (tyTOk _ _) (E_slices_ContainsFunc_impl_Body__impl_WorldOk_1_calls k) mixOk f25_okslices_ContainsFunc_impl_Body__impl_WorldOk_1 (nameOk _ _ f25_okslices_ContainsFunc_impl_Body__impl_WorldOk_1) (by kernel_rfl) h
/-! impl.waitsOk$1 -/
noncomputable def E_impl_waitsOk_1_vbp (k : Nat) : Env := ⟨ty, fun _ => none, fun _ _ => none⟩
noncomputable def impl_waitsOk_1_vbp (k : Nat) (a1 : Int × Int × Int × Int × Unit) (a2 : Int) (a3 : Int) (a4 : Int) (a5 : Int) : Option (Bool) :=
  abody (E_impl_waitsOk_1_vbp k) (arun Tryz.prog (E_impl_waitsOk_1_vbp k) k) k 79 Tryz.f79 [.tv (.pair (.int .i64) (.pair (.int .i64) (.pair (.int .i64) (.pair (.int .i64) .unit)))) a1, .bp [.int .i64 a2, .int .i64 a3, .int .i64 a4, .int .i64 a5] 0] [] (fin1 .bool)
theorem impl_waitsOk_1_vbp_e (k : Nat) (a1 : Int × Int × Int × Int × Unit) (a2 : Int) (a3 : Int) (a4 : Int) (a5 : Int) : impl_waitsOk_1_vbp k a1 a2 a3 a4 a5 =
  some (a1.1 == a2) := by kernel_rfl
theorem E_impl_waitsOk_1_vbp_calls (k : Nat) : CallsOk Tryz.prog (E_impl_waitsOk_1_vbp k) (arun Tryz.prog (E_impl_waitsOk_1_vbp k) k) := by
  refine told_run (tyTOk _ _) ?_ (fun run h => regOk (tyTOk _ _) mixOk h) ?_ nameOk k
  · intro g m hg
    cases hg
  · intro g _ r; rfl
theorem f79_okimpl_waitsOk_1_vbp : Tryz.prog.funcs[79]? = some Tryz.f79 := by kernel_rfl
theorem impl_waitsOk_1_vbp_law (k : Nat) (a1 : Int × Int × Int × Int × Unit) (a2 : Int) (a3 : Int) (a4 : Int) (a5 : Int) (x : Bool) (h : impl_waitsOk_1_vbp k a1 a2 a3 a4 a5 = some x) : LawV Tryz.prog 79 [.tv (.pair (.int .i64) (.pair (.int .i64) (.pair (.int .i64) (.pair (.int .i64) .unit)))) a1, .bp [.int .i64 a2, .int .i64 a3, .int .i64 a4, .int .i64 a5] 0] (tvn .bool x) := by
  unfold impl_waitsOk_1_vbp at h
  exact law1 (t := .bool) (tyTOk _ _) (E_impl_waitsOk_1_vbp_calls k) mixOk f79_okimpl_waitsOk_1_vbp (nameOk _ _ f79_okimpl_waitsOk_1_vbp) (by kernel_rfl) h
/-! slices.IndexFunc[[]impl.Wait,impl.Wait] -/
noncomputable def E_slices_IndexFunc_impl_Wait__impl_waitsOk_1 (k : Nat) : Env := ⟨ty, fun g => match g with
  | 79 => some (byVal fun ρ l K => match l with
    | [b1, .bp [b2, b3, b4, b5] 0] => (b1.as (.pair (.int .i64) (.pair (.int .i64) (.pair (.int .i64) (.pair (.int .i64) .unit))))).bind fun c1 => (b2.as (.int .i64)).bind fun c2 => (b3.as (.int .i64)).bind fun c3 => (b4.as (.int .i64)).bind fun c4 => (b5.as (.int .i64)).bind fun c5 => (impl_waitsOk_1_vbp k c1 c2 c3 c4 c5).bind fun r => K (tvn .bool r)
    | _ => none)
  | 99 => some noCon
  | _ => none, fun f r => match f with | 99 => (match r with | 2 => some [0, 1, 7, 8] | _ => none) | _ => none⟩
noncomputable def slices_IndexFunc_impl_Wait__impl_waitsOk_1 (k : Nat) (a1 : List (Int × Int × Int × Int × Unit)) (a2 : Int) (a3 : Int) (a4 : Int) (a5 : Int) : Option (Int) :=
  abody (E_slices_IndexFunc_impl_Wait__impl_waitsOk_1 k) (arun Tryz.prog (E_slices_IndexFunc_impl_Wait__impl_waitsOk_1 k) k) k 99 Tryz.f99 [.tv (.row (.pair (.int .i64) (.pair (.int .i64) (.pair (.int .i64) (.pair (.int .i64) .unit))))) a1, .fn 79 [.bp [.int .i64 a2, .int .i64 a3, .int .i64 a4, .int .i64 a5] 0]] [] (fin1 (.int .i64))
noncomputable def slices_IndexFunc_impl_Wait__impl_waitsOk_1.l2 (k n : Nat) (x0 : List (Int × Int × Int × Int × Unit)) (x1_0_0 : Int) (x1_0_1 : Int) (x1_0_2 : Int) (x1_0_3 : Int) (x7 : Int) (x8 : Int) : Option (Int) :=
  resume (E_slices_IndexFunc_impl_Wait__impl_waitsOk_1 k) 99 (acall (E_slices_IndexFunc_impl_Wait__impl_waitsOk_1 k) (arun Tryz.prog (E_slices_IndexFunc_impl_Wait__impl_waitsOk_1 k) k)) k [true, false, true, true] [n] (bodyOf Tryz.f99) ⟨[.tv (.row (.pair (.int .i64) (.pair (.int .i64) (.pair (.int .i64) (.pair (.int .i64) .unit))))) x0, .fn 79 [.bp [.int .i64 x1_0_0, .int .i64 x1_0_1, .int .i64 x1_0_2, .int .i64 x1_0_3] 0], .undef, .undef, .undef, .undef, .undef, .int .i64 x7, .int .i64 x8, .undef, .undef, .undef, .undef, .undef, .undef, .undef, .undef, .undef, .undef], []⟩ (leave (E_slices_IndexFunc_impl_Wait__impl_waitsOk_1 k) Tryz.f99 (fin1 (.int .i64)))
theorem slices_IndexFunc_impl_Wait__impl_waitsOk_1.l2_0 (k : Nat) (x0 : List (Int × Int × Int × Int × Unit)) (x1_0_0 : Int) (x1_0_1 : Int) (x1_0_2 : Int) (x1_0_3 : Int) (x7 : Int) (x8 : Int) : slices_IndexFunc_impl_Wait__impl_waitsOk_1.l2 k 0 x0 x1_0_0 x1_0_1 x1_0_2 x1_0_3 x7 x8 = none := by kernel_rfl
theorem slices_IndexFunc_impl_Wait__impl_waitsOk_1.l2_s (k n : Nat) (x0 : List (Int × Int × Int × Int × Unit)) (x1_0_0 : Int) (x1_0_1 : Int) (x1_0_2 : Int) (x1_0_3 : Int) (x7 : Int) (x8 : Int) : slices_IndexFunc_impl_Wait__impl_waitsOk_1.l2 k (n + 1) x0 x1_0_0 x1_0_1 x1_0_2 x1_0_3 x7 x8 =
  iteB (decide (x8 < x7)) (iteB (decide (0 ≤ x8)) (iteB (decide (x8 < ((List.length x0) : Int))) (bindO (impl_waitsOk_1_vbp k (List.getD x0 (Int.toNat x8) (Ty.dflt (.pair (.int .i64) (.pair (.int .i64) (.pair (.int .i64) (.pair (.int .i64) .unit)))))) x1_0_0 x1_0_1 x1_0_2 x1_0_3) fun r1 => (iteB r1 (some x8) (slices_IndexFunc_impl_Wait__impl_waitsOk_1.l2 k n x0 x1_0_0 x1_0_1 x1_0_2 x1_0_3 x7 (IntKind.wrap .i64 (x8 + 1))))) (none)) (none)) (some (-1)) := by kernel_rfl
theorem slices_IndexFunc_impl_Wait__impl_waitsOk_1_e (k : Nat) (a1 : List (Int × Int × Int × Int × Unit)) (a2 : Int) (a3 : Int) (a4 : Int) (a5 : Int) : slices_IndexFunc_impl_Wait__impl_waitsOk_1 k a1 a2 a3 a4 a5 =
  slices_IndexFunc_impl_Wait__impl_waitsOk_1.l2 k k a1 a2 a3 a4 a5 ((List.length a1) : Int) 0 := by kernel_rfl
theorem E_slices_IndexFunc_impl_Wait__impl_waitsOk_1_calls (k : Nat) : CallsOk Tryz.prog (E_slices_IndexFunc_impl_Wait__impl_waitsOk_1 k) (arun Tryz.prog (E_slices_IndexFunc_impl_Wait__impl_waitsOk_1 k) k) := by
  refine told_run (tyTOk _ _) ?_ (fun run h => regOk (tyTOk _ _) mixOk h) ?_ nameOk k
  · intro g m hg
    simp only [E_slices_IndexFunc_impl_Wait__impl_waitsOk_1] at hg
    split at hg
    · cases hg
      refine con_byVal fun ρ l K x hm => ?_
      split at hm
      · obtain ⟨c1, h1, hm⟩ := Option.bind_eq_some_iff.1 hm
        obtain ⟨c2, h2, hm⟩ := Option.bind_eq_some_iff.1 hm
        obtain ⟨c3, h3, hm⟩ := Option.bind_eq_some_iff.1 hm
        obtain ⟨c4, h4, hm⟩ := Option.bind_eq_some_iff.1 hm
        obtain ⟨c5, h5, hm⟩ := Option.bind_eq_some_iff.1 hm
        obtain ⟨r, hr, hm⟩ := Option.bind_eq_some_iff.1 hm
        exact ⟨_, hm, LawV.reads (.cons (.as h1) (.cons (.bp (.cons (.as h2) (.cons (.as h3) (.cons (.as h4) (.cons (.as h5) .nil))))) .nil)) (impl_waitsOk_1_vbp_law k c1 c2 c3 c4 c5 r hr)⟩
      · cases hm
    · cases hg; exact noCon_ok
    · cases hg
  · intro g hg r
    by_cases h : g = 99
    · subst h; simp [E_slices_IndexFunc_impl_Wait__impl_waitsOk_1] at hg
    · simp [E_slices_IndexFunc_impl_Wait__impl_waitsOk_1, h]
theorem f99_okslices_IndexFunc_impl_Wait__impl_waitsOk_1 : Tryz.prog.funcs[99]? = some Tryz.f99 := by kernel_rfl
theorem slices_IndexFunc_impl_Wait__impl_waitsOk_1_law (k : Nat) (a1 : List (Int × Int × Int × Int × Unit)) (a2 : Int) (a3 : Int) (a4 : Int) (a5 : Int) (x : Int) (h : slices_IndexFunc_impl_Wait__impl_waitsOk_1 k a1 a2 a3 a4 a5 = some x) : LawV Tryz.prog 99 [.tv (.row (.pair (.int .i64) (.pair (.int .i64) (.pair (.int .i64) (.pair (.int .i64) .unit))))) a1, .fn 79 [.bp [.int .i64 a2, .int .i64 a3, .int .i64 a4, .int .i64 a5] 0]] (tvn (.int .i64) x) := by
  unfold slices_IndexFunc_impl_Wait__impl_waitsOk_1 at h
  exact law1 (t := (.int .i64)) (tyTOk _ _) (E_slices_IndexFunc_impl_Wait__impl_waitsOk_1_calls k) mixOk f99_okslices_IndexFunc_impl_Wait__impl_waitsOk_1 (nameOk _ _ f99_okslices_IndexFunc_impl_Wait__impl_waitsOk_1) (by kernel_rfl) h
/-! slices.ContainsFunc[[]impl.Wait,impl.Wait] -/
noncomputable def E_slices_ContainsFunc_impl_Wait__impl_waitsOk_1 (k : Nat) : Env := ⟨ty, fun g => match g with
  | 99 => some (byVal fun ρ l K => match l with
    | [b1, .fn 79 [.bp [b2, b3, b4, b5] 0]] => (b1.as (.row (.pair (.int .i64) (.pair (.int .i64) (.pair (.int .i64) (.pair (.int .i64) .unit)))))).bind fun c1 => (b2.as (.int .i64)).bind fun c2 => (b3.as (.int .i64)).bind fun c3 => (b4.as (.int .i64)).bind fun c4 => (b5.as (.int .i64)).bind fun c5 => (slices_IndexFunc_impl_Wait__impl_waitsOk_1 k c1 c2 c3 c4 c5).bind fun r => K (tvn (.int .i64) r)
    | _ => none)
  | _ => none, fun _ _ => none⟩
noncomputable def slices_ContainsFunc_impl_Wait__impl_waitsOk_1 (k : Nat) (a1 : List (Int × Int × Int × Int × Unit)) (a2 : Int) (a3 : Int) (a4 : Int) (a5 : Int) : Option (Bool) :=
  abody (E_slices_ContainsFunc_impl_Wait__impl_waitsOk_1 k) (arun Tryz.prog (E_slices_ContainsFunc_impl_Wait__impl_waitsOk_1 k) k) k 78 Tryz.f78 [.tv (.row (.pair (.int .i64) (.pair (.int .i64) (.pair (.int .i64) (.pair (.int .i64) .unit))))) a1, .fn 79 [.bp [.int .i64 a2, .int .i64 a3, .int .i64 a4, .int .i64 a5] 0]] [] (fin1 .bool)
theorem slices_ContainsFunc_impl_Wait__impl_waitsOk_1_e (k : Nat) (a1 : List (Int × Int × Int × Int × Unit)) (a2 : Int) (a3 : Int) (a4 : Int) (a5 : Int) : slices_ContainsFunc_impl_Wait__impl_waitsOk_1 k a1 a2 a3 a4 a5 =
  bindO (slices_IndexFunc_impl_Wait__impl_waitsOk_1 k a1 a2 a3 a4 a5) fun r1 => (some (decide (r1 ≥ 0))) := by kernel_rfl
theorem E_slices_ContainsFunc_impl_Wait__impl_waitsOk_1_calls (k : Nat) : CallsOk Tryz.prog (E_slices_ContainsFunc_impl_Wait__impl_waitsOk_1 k) (arun Tryz.prog (E_slices_ContainsFunc_impl_Wait__impl_waitsOk_1 k) k) := by
  refine told_run (tyTOk _ _) ?_ (fun run h => regOk (tyTOk _ _) mixOk h) ?_ nameOk k
  · intro g m hg
    simp only [E_slices_ContainsFunc_impl_Wait__impl_waitsOk_1] at hg
    split at hg
    · cases hg
      refine con_byVal fun ρ l K x hm => ?_
      split at hm
      · obtain ⟨c1, h1, hm⟩ := Option.bind_eq_some_iff.1 hm
        obtain ⟨c2, h2, hm⟩ := Option.bind_eq_some_iff.1 hm
        obtain ⟨c3, h3, hm⟩ := Option.bind_eq_some_iff.1 hm
        obtain ⟨c4, h4, hm⟩ := Option.bind_eq_some_iff.1 hm
        obtain ⟨c5, h5, hm⟩ := Option.bind_eq_some_iff.1 hm
        obtain ⟨r, hr, hm⟩ := Option.bind_eq_some_iff.1 hm
        exact ⟨_, hm, LawV.reads (.cons (.as h1) (.cons (.fn (.cons (.bp (.cons (.as h2) (.cons (.as h3) (.cons (.as h4) (.cons (.as h5) .nil))))) .nil)) .nil)) (slices_IndexFunc_impl_Wait__impl_waitsOk_1_law k c1 c2 c3 c4 c5 r hr)⟩
      · cases hm
    · cases hg
  · intro g _ r; rfl
theorem f78_okslices_ContainsFunc_impl_Wait__impl_waitsOk_1 : Tryz.prog.funcs[78]? = some Tryz.f78 := by kernel_rfl
theorem slices_ContainsFunc_impl_Wait__impl_waitsOk_1_law (k : Nat) (a1 : List (Int × Int × Int × Int × Unit)) (a2 : Int) (a3 : Int) (a4 : Int) (a5 : Int) (x : Bool) (h : slices_ContainsFunc_impl_Wait__impl_waitsOk_1 k a1 a2 a3 a4 a5 = some x) : LawV Tryz.prog 78 [.tv (.row (.pair (.int .i64) (.pair (.int .i64) (.pair (.int .i64) (.pair (.int .i64) .unit))))) a1, .fn 79 [.bp [.int .i64 a2, .int .i64 a3, .int .i64 a4, .int .i64 a5] 0]] (tvn .bool x) := by
  unfold slices_ContainsFunc_impl_Wait__impl_waitsOk_1 at h
  exact law1 (t := .bool) (tyTOk _ _) (E_slices_ContainsFunc_impl_Wait__impl_waitsOk_1_calls k) mixOk f78_okslices_ContainsFunc_impl_Wait__impl_waitsOk_1 (nameOk _ _ f78_okslices_ContainsFunc_impl_Wait__impl_waitsOk_1) (by kernel_rfl) h
end Go.Proofs.YtpjnebmccoojpaaGreat.XFnExactWorldOk
