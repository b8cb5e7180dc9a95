/- Functions of the program as runs of the interpreter: equations, and a law for each. -/
import Derived.Test.YtpjnebmccoojpaaGreatProg
import Derived.Test.YtpjnebmccoojpaaGreatChecked
import Derived.KernelRfl
import Derived.Eval
import Derived.Test.YtpjnebmccoojpaaGreatATyOk
import Derived.Test.YtpjnebmccoojpaaGreatAS33
import Derived.Test.YtpjnebmccoojpaaGreatAMFnExactWorldOk2
open Go Go.AM Go.AMx Go.Proofs
namespace Go.Proofs.YtpjnebmccoojpaaGreat.XFnExactWorldOk
set_option linter.unusedVariables false
set_option linter.unusedSimpArgs false
/-! slices.Contains[[]byte,byte] -/
noncomputable def E_slices_Contains_byte (k : Nat) : Env := ⟨ty, fun g => match g with
  | 98 => some (byVal fun ρ l K => match l with
    | [b1, b2] => (b1.as (.row (.int .u8))).bind fun c1 => (b2.as (.int .u8)).bind fun c2 => (slices_Index_byte k c1 c2).bind fun r => K (tvn (.int .i64) r)
    | _ => none)
  | _ => none, fun _ _ => none⟩
noncomputable def slices_Contains_byte (k : Nat) (a1 : List Int) (a2 : Int) : Option (Bool) :=
  abody (E_slices_Contains_byte k) (arun Tryz.prog (E_slices_Contains_byte k) k) k 75 Tryz.f75 [.tv (.row (.int .u8)) a1, .int .u8 a2] [] (fin1 .bool)
theorem slices_Contains_byte_e (k : Nat) (a1 : List Int) (a2 : Int) : slices_Contains_byte k a1 a2 =
  bindO (slices_Index_byte k a1 a2) fun r1 => (some (decide (r1 ≥ 0))) := by kernel_rfl
theorem E_slices_Contains_byte_calls (k : Nat) : CallsOk Tryz.prog (E_slices_Contains_byte k) (arun Tryz.prog (E_slices_Contains_byte k) k) := by
  refine told_run (tyTOk _ _) ?_ (fun run h => regOk (tyTOk _ _) mixOk h) ?_ nameOk k
  · intro g m hg
    simp only [E_slices_Contains_byte] at hg
    split at hg
    · cases hg
      refine con_byVal fun ρ l K x hm => ?_
      split at hm
      · obtain ⟨c1, h1, hm⟩ := Option.bind_eq_some_iff.1 hm
        obtain ⟨c2, h2, hm⟩ := Option.bind_eq_some_iff.1 hm
        obtain ⟨r, hr, hm⟩ := Option.bind_eq_some_iff.1 hm
        exact ⟨_, hm, LawV.reads (.cons (.as h1) (.cons (.as h2) .nil)) (slices_Index_byte_law k c1 c2 r hr)⟩
      · cases hm
    · cases hg
  · intro g _ r; rfl
theorem f75_okslices_Contains_byte : Tryz.prog.funcs[75]? = some Tryz.f75 := by kernel_rfl
theorem slices_Contains_byte_law (k : Nat) (a1 : List Int) (a2 : Int) (x : Bool) (h : slices_Contains_byte k a1 a2 = some x) : LawV Tryz.prog 75 [.tv (.row (.int .u8)) a1, .int .u8 a2] (tvn .bool x) := by
  unfold slices_Contains_byte at h
  exact law1 (t := .bool) (tyTOk _ _) (E_slices_Contains_byte_calls k) mixOk f75_okslices_Contains_byte (nameOk _ _ f75_okslices_Contains_byte) (by kernel_rfl) h
/-! impl.owned -/
noncomputable def E_impl_owned (k : Nat) : Env := ⟨ty, fun g => match g with
  | 76 => some (byVal fun ρ l K => match l with
    | [b1] => (b1.as (.int .i64)).bind fun c1 => (impl_owns k c1).bind fun r => K (tvn .str r)
    | _ => none)
  | 75 => some (byVal fun ρ l K => match l with
    | [b1, b2] => (b1.as (.row (.int .u8))).bind fun c1 => (b2.as (.int .u8)).bind fun c2 => (slices_Contains_byte k c1 c2).bind fun r => K (tvn .bool r)
    | _ => none)
  | _ => none, fun _ _ => none⟩
noncomputable def impl_owned (k : Nat) (a1 : Int) (a2 : Int) : Option (Bool) :=
  abody (E_impl_owned k) (arun Tryz.prog (E_impl_owned k) k) k 48 Tryz.f48 [.int .i64 a1, .int .u8 a2] [] (fin1 .bool)
theorem impl_owned_e (k : Nat) (a1 : Int) (a2 : Int) : impl_owned k a1 a2 =
  bindO (impl_owns k a1) fun r1 => (bindO (slices_Contains_byte k (valBytes r1) a2) fun r2 => (some r2)) := by kernel_rfl
theorem E_impl_owned_calls (k : Nat) : CallsOk Tryz.prog (E_impl_owned k) (arun Tryz.prog (E_impl_owned k) k) := by
  refine told_run (tyTOk _ _) ?_ (fun run h => regOk (tyTOk _ _) mixOk h) ?_ nameOk k
  · intro g m hg
    simp only [E_impl_owned] at hg
    split at hg
    · cases hg
      refine con_byVal fun ρ l K x hm => ?_
      split at hm
      · obtain ⟨c1, h1, hm⟩ := Option.bind_eq_some_iff.1 hm
        obtain ⟨r, hr, hm⟩ := Option.bind_eq_some_iff.1 hm
        exact ⟨_, hm, LawV.reads (.cons (.as h1) .nil) (impl_owns_law k c1 r hr)⟩
      · cases hm
    · cases hg
      refine con_byVal fun ρ l K x hm => ?_
      split at hm
      · obtain ⟨c1, h1, hm⟩ := Option.bind_eq_some_iff.1 hm
        obtain ⟨c2, h2, hm⟩ := Option.bind_eq_some_iff.1 hm
        obtain ⟨r, hr, hm⟩ := Option.bind_eq_some_iff.1 hm
        exact ⟨_, hm, LawV.reads (.cons (.as h1) (.cons (.as h2) .nil)) (slices_Contains_byte_law k c1 c2 r hr)⟩
      · cases hm
    · cases hg
  · intro g _ r; rfl
theorem f48_okimpl_owned : Tryz.prog.funcs[48]? = some Tryz.f48 := by kernel_rfl
theorem impl_owned_law (k : Nat) (a1 : Int) (a2 : Int) (x : Bool) (h : impl_owned k a1 a2 = some x) : LawV Tryz.prog 48 [.int .i64 a1, .int .u8 a2] (tvn .bool x) := by
  unfold impl_owned at h
  exact law1 (t := .bool) (tyTOk _ _) (E_impl_owned_calls k) mixOk f48_okimpl_owned (nameOk _ _ f48_okimpl_owned) (by kernel_rfl) h
/-! impl.argsOk -/
noncomputable def E_impl_argsOk (k : Nat) : Env := ⟨ty, fun g => match g with
  | 48 => some (byVal fun ρ l K => match l with
    | [b1, b2] => (b1.as (.int .i64)).bind fun c1 => (b2.as (.int .u8)).bind fun c2 => (impl_owned k c1 c2).bind fun r => K (tvn .bool r)
    | _ => none)
  | 24 => some (byVal fun ρ l K => match l with
    | [b1, b2, b3] => (b1.as (.int .i64)).bind fun c1 => (b2.as (.int .i64)).bind fun c2 => (b3.as (.int .i64)).bind fun c3 => (impl_within k c1 c2 c3).bind fun r => K (tvn .bool r)
    | _ => none)
  | 92 => some noCon
  | _ => none, fun f r => match f with | 92 => (match r with | 3 => some [2, 5] | _ => none) | _ => none⟩
noncomputable def impl_argsOk (k : Nat) (a1 : Int × Int × Int × Int × Int × ByteArray × (List Int) × Unit) (a2 : Int) : Option (Bool) :=
  abody (E_impl_argsOk k) (arun Tryz.prog (E_impl_argsOk k) k) k 92 Tryz.f92 [.tv (.pair (.int .i64) (.pair (.int .i64) (.pair (.int .i64) (.pair (.int .i64) (.pair (.int .i64) (.pair .str (.pair (.row (.int .i64)) .unit))))))) a1, .int .i64 a2] [] (fin1 .bool)
noncomputable def impl_argsOk.l3 (k n : Nat) (x5 : Int) (y0_0 : Int × Int × Int × Int × Int × ByteArray × (List Int) × Unit) : Option (Bool) :=
  resume (E_impl_argsOk k) 92 (acall (E_impl_argsOk k) (arun Tryz.prog (E_impl_argsOk k) k)) k [true, false, true, true, false, false, true, true] [n] (bodyOf Tryz.f92) ⟨[.undef, .undef, .ptr 0 0 0, .undef, .undef, .int .i64 x5, .undef, .undef, .undef, .undef, .undef, .undef, .undef, .undef, .undef, .undef, .undef, .undef, .undef, .undef, .undef, .undef, .undef, .undef, .undef, .undef, .undef, .undef, .undef, .undef, .undef, .undef, .undef, .undef, .undef, .undef, .undef, .undef, .undef, .undef, .undef, .undef, .undef, .undef, .undef, .undef, .undef, .undef, .undef, .undef, .undef, .undef, .undef, .undef, .undef, .undef, .undef, .undef, .undef, .undef, .undef, .undef, .undef, .undef, .undef, .undef, .undef, .undef, .undef, .undef, .undef, .undef, .undef, .undef, .undef, .undef, .undef, .undef, .undef], [some ⟨.raw true 7 (.agg [.int .i64 0, .int .i64 0, .int .i64 0, .int .i64 0, .int .i64 0, .str ByteArray.empty, .nils]) [.tv (.pair (.int .i64) (.pair (.int .i64) (.pair (.int .i64) (.pair (.int .i64) (.pair (.int .i64) (.pair .str (.pair (.row (.int .i64)) .unit))))))) y0_0], true⟩]⟩ (leave (E_impl_argsOk k) Tryz.f92 (fin1 .bool))
theorem impl_argsOk.l3_0 (k : Nat) (x5 : Int) (y0_0 : Int × Int × Int × Int × Int × ByteArray × (List Int) × Unit) : impl_argsOk.l3 k 0 x5 y0_0 = none := by kernel_rfl
theorem impl_argsOk.l3_s (k n : Nat) (x5 : Int) (y0_0 : Int × Int × Int × Int × Int × ByteArray × (List Int) × Unit) : impl_argsOk.l3 k (n + 1) x5 y0_0 =
  iteB (decide (IntKind.wrap .i64 (x5 + 2) < ((List.length y0_0.2.2.2.2.2.2.1) : Int))) (iteB (decide (0 ≤ x5)) (iteB (decide (x5 < ((List.length y0_0.2.2.2.2.2.2.1) : Int))) (bindO (impl_within k (List.getD y0_0.2.2.2.2.2.2.1 (Int.toNat x5) 0) 1 2) fun r2 => (iteB (!(!r2)) (iteB (decide (0 ≤ x5)) (iteB (decide (x5 < ((List.length y0_0.2.2.2.2.2.2.1) : Int))) (iteB ((List.getD y0_0.2.2.2.2.2.2.1 (Int.toNat x5) 0) == 1) (iteB (decide (0 ≤ IntKind.wrap .i64 (x5 + 2))) (iteB (decide (IntKind.wrap .i64 (x5 + 2) < ((List.length y0_0.2.2.2.2.2.2.1) : Int))) (iteB ((List.getD y0_0.2.2.2.2.2.2.1 (Int.toNat (IntKind.wrap .i64 (x5 + 2))) 0) != 0) (some false) (impl_argsOk.l3 k n (IntKind.wrap .i64 (x5 + 3)) y0_0)) (none)) (none)) (impl_argsOk.l3 k n (IntKind.wrap .i64 (x5 + 3)) y0_0)) (none)) (none)) (some false))) (none)) (none)) (iteB ((Int.tmod ((List.length y0_0.2.2.2.2.2.2.1) : Int) 3) == 0) (bindO (impl_within k ((List.length y0_0.2.2.2.2.2.2.1) : Int) 3 9) fun r3 => (iteB r3 (bindO (impl_within k y0_0.2.2.2.2.1 0 1) fun r4 => (some r4)) (some false))) (some false)) := by kernel_rfl
theorem impl_argsOk_e (k : Nat) (a1 : Int × Int × Int × Int × Int × ByteArray × (List Int) × Unit) (a2 : Int) : impl_argsOk k a1 a2 =
  iteB (a1.1 == 19) (impl_argsOk.l3 k k 0 a1) (iteB (a1.1 == 22) (some (((List.length a1.2.2.2.2.2.2.1) : Int) == 1)) (bindO (impl_owned k a1.1 88) fun r1 => (iteB (!r1) (some (((List.length a1.2.2.2.2.2.2.1) : Int) == 0)) (some (decide (((List.length a1.2.2.2.2.2.2.1) : Int) ≤ 4)))))) := by kernel_rfl
theorem E_impl_argsOk_calls (k : Nat) : CallsOk Tryz.prog (E_impl_argsOk k) (arun Tryz.prog (E_impl_argsOk k) k) := by
  refine told_run (tyTOk _ _) ?_ (fun run h => regOk (tyTOk _ _) mixOk h) ?_ nameOk k
  · intro g m hg
    simp only [E_impl_argsOk] at hg
    split at hg
    · cases hg
      refine con_byVal fun ρ l K x hm => ?_
      split at hm
      · obtain ⟨c1, h1, hm⟩ := Option.bind_eq_some_iff.1 hm
        obtain ⟨c2, h2, hm⟩ := Option.bind_eq_some_iff.1 hm
        obtain ⟨r, hr, hm⟩ := Option.bind_eq_some_iff.1 hm
        exact ⟨_, hm, LawV.reads (.cons (.as h1) (.cons (.as h2) .nil)) (impl_owned_law k c1 c2 r hr)⟩
      · cases hm
    · cases hg
      refine con_byVal fun ρ l K x hm => ?_
      split at hm
      · obtain ⟨c1, h1, hm⟩ := Option.bind_eq_some_iff.1 hm
        obtain ⟨c2, h2, hm⟩ := Option.bind_eq_some_iff.1 hm
        obtain ⟨c3, h3, hm⟩ := Option.bind_eq_some_iff.1 hm
        obtain ⟨r, hr, hm⟩ := Option.bind_eq_some_iff.1 hm
        exact ⟨_, hm, LawV.reads (.cons (.as h1) (.cons (.as h2) (.cons (.as h3) .nil))) (impl_within_law k c1 c2 c3 r hr)⟩
      · cases hm
    · cases hg; exact noCon_ok
    · cases hg
  · intro g hg r
    by_cases h : g = 92
    · subst h; simp [E_impl_argsOk] at hg
    · simp [E_impl_argsOk, h]
theorem f92_okimpl_argsOk : Tryz.prog.funcs[92]? = some Tryz.f92 := by kernel_rfl
theorem impl_argsOk_law (k : Nat) (a1 : Int × Int × Int × Int × Int × ByteArray × (List Int) × Unit) (a2 : Int) (x : Bool) (h : impl_argsOk k a1 a2 = some x) : LawV Tryz.prog 92 [.tv (.pair (.int .i64) (.pair (.int .i64) (.pair (.int .i64) (.pair (.int .i64) (.pair (.int .i64) (.pair .str (.pair (.row (.int .i64)) .unit))))))) a1, .int .i64 a2] (tvn .bool x) := by
  unfold impl_argsOk at h
  exact law1 (t := .bool) (tyTOk _ _) (E_impl_argsOk_calls k) mixOk f92_okimpl_argsOk (nameOk _ _ f92_okimpl_argsOk) (by kernel_rfl) h
/-! impl.Sets -/
noncomputable def E_impl_Sets (k : Nat) : Env := ⟨ty, fun g => match g with
  | 48 => some (byVal fun ρ l K => match l with
    | [b1, b2] => (b1.as (.int .i64)).bind fun c1 => (b2.as (.int .u8)).bind fun c2 => (impl_owned k c1 c2).bind fun r => K (tvn .bool r)
    | _ => none)
  | _ => none, fun _ _ => none⟩
noncomputable def impl_Sets (k : Nat) (a1 : Int × Int × Int × Int × Int × ByteArray × (List Int) × Unit) : Option (List Int) :=
  abody (E_impl_Sets k) (arun Tryz.prog (E_impl_Sets k) k) k 93 Tryz.f93 [.tv (.pair (.int .i64) (.pair (.int .i64) (.pair (.int .i64) (.pair (.int .i64) (.pair (.int .i64) (.pair .str (.pair (.row (.int .i64)) .unit))))))) a1] [] (finF (.int .i64))
theorem impl_Sets_e (k : Nat) (a1 : Int × Int × Int × Int × Int × ByteArray × (List Int) × Unit) : impl_Sets k a1 =
  iteB (a1.1 == 19) (some [a1.2.1, a1.2.2.2.1]) (bindO (impl_owned k a1.1 68) fun r1 => (iteB r1 (some [a1.2.1]) (some []))) := by kernel_rfl
theorem E_impl_Sets_calls (k : Nat) : CallsOk Tryz.prog (E_impl_Sets k) (arun Tryz.prog (E_impl_Sets k) k) := by
  refine told_run (tyTOk _ _) ?_ (fun run h => regOk (tyTOk _ _) mixOk h) ?_ nameOk k
  · intro g m hg
    simp only [E_impl_Sets] at hg
    split at hg
    · cases hg
      refine con_byVal fun ρ l K x hm => ?_
      split at hm
      · obtain ⟨c1, h1, hm⟩ := Option.bind_eq_some_iff.1 hm
        obtain ⟨c2, h2, hm⟩ := Option.bind_eq_some_iff.1 hm
        obtain ⟨r, hr, hm⟩ := Option.bind_eq_some_iff.1 hm
        exact ⟨_, hm, LawV.reads (.cons (.as h1) (.cons (.as h2) .nil)) (impl_owned_law k c1 c2 r hr)⟩
      · cases hm
    · cases hg
  · intro g _ r; rfl
theorem f93_okimpl_Sets : Tryz.prog.funcs[93]? = some Tryz.f93 := by kernel_rfl
theorem impl_Sets_law (k : Nat) (a1 : Int × Int × Int × Int × Int × ByteArray × (List Int) × Unit) (x : List Int) (h : impl_Sets k a1 = some x) : LawF Tryz.prog 93 [.tv (.pair (.int .i64) (.pair (.int .i64) (.pair (.int .i64) (.pair (.int .i64) (.pair (.int .i64) (.pair .str (.pair (.row (.int .i64)) .unit))))))) a1] (.int .i64) x := by
  unfold impl_Sets at h
  exact lawF (e := (.int .i64)) (tyTOk _ _) (E_impl_Sets_calls k) mixOk f93_okimpl_Sets (nameOk _ _ f93_okimpl_Sets) (by kernel_rfl) h
/-! impl.Uses -/
noncomputable def E_impl_Uses (k : Nat) : Env := ⟨ty, fun g => match g with
  | 48 => some (byVal fun ρ l K => match l with
    | [b1, b2] => (b1.as (.int .i64)).bind fun c1 => (b2.as (.int .u8)).bind fun c2 => (impl_owned k c1 c2).bind fun r => K (tvn .bool r)
    | _ => none)
  | 94 => some noCon
  | _ => none, fun f r => match f with | 94 => (match r with | 4 => some [1, 3, 11, 12, 13] | 12 => some [1, 3] | 14 => some [1, 3] | _ => none) | _ => none⟩
noncomputable def impl_Uses (k : Nat) (a1 : Int × Int × Int × Int × Int × ByteArray × (List Int) × Unit) : Option (List Int) :=
  abody (E_impl_Uses k) (arun Tryz.prog (E_impl_Uses k) k) k 94 Tryz.f94 [.tv (.pair (.int .i64) (.pair (.int .i64) (.pair (.int .i64) (.pair (.int .i64) (.pair (.int .i64) (.pair .str (.pair (.row (.int .i64)) .unit))))))) a1] [] (fin1 (.row (.int .i64)))
noncomputable def impl_Uses.l4 (k n : Nat) (x11 : List Int) (x12 : Int) (x13 : Int) (y0_0 : Int × Int × Int × Int × Int × ByteArray × (List Int) × Unit) : Option (List Int) :=
  resume (E_impl_Uses k) 94 (acall (E_impl_Uses k) (arun Tryz.prog (E_impl_Uses k) k)) k [true, true, false, true, false, false, true, true] [n] (bodyOf Tryz.f94) ⟨[.undef, .ptr 0 0 0, .undef, .sl 1, .undef, .undef, .undef, .undef, .undef, .undef, .undef, .tv (.row (.int .i64)) x11, .int .i64 x12, .int .i64 x13, .undef, .undef, .undef, .undef, .undef, .undef, .undef, .undef, .undef, .undef, .undef, .undef, .undef, .undef, .undef, .undef, .undef, .undef, .undef, .undef, .undef, .undef, .undef, .undef, .undef, .undef, .undef, .undef, .undef, .undef, .undef, .undef, .undef, .undef, .undef, .undef, .undef, .undef, .undef, .undef, .undef, .undef, .undef, .undef, .undef, .undef, .undef, .undef, .undef, .undef, .undef], [some ⟨.raw true 7 (.agg [.int .i64 0, .int .i64 0, .int .i64 0, .int .i64 0, .int .i64 0, .str ByteArray.empty, .nils]) [.tv (.pair (.int .i64) (.pair (.int .i64) (.pair (.int .i64) (.pair (.int .i64) (.pair (.int .i64) (.pair .str (.pair (.row (.int .i64)) .unit))))))) y0_0], true⟩, some ⟨.typed (.int .i64) [], true⟩]⟩ (leave (E_impl_Uses k) Tryz.f94 (fin1 (.row (.int .i64))))
noncomputable def impl_Uses.j12 (k : Nat) (y0_0 : Int × Int × Int × Int × Int × ByteArray × (List Int) × Unit) (y1 : List Int) : Option (List Int) :=
  resume (E_impl_Uses k) 94 (acall (E_impl_Uses k) (arun Tryz.prog (E_impl_Uses k) k)) k [true, true, true, true] [] (bodyOf Tryz.f94) ⟨[.undef, .ptr 0 0 0, .undef, .sl 1, .undef, .undef, .undef, .undef, .undef, .undef, .undef, .undef, .undef, .undef, .undef, .undef, .undef, .undef, .undef, .undef, .undef, .undef, .undef, .undef, .undef, .undef, .undef, .undef, .undef, .undef, .undef, .undef, .undef, .undef, .undef, .undef, .undef, .undef, .undef, .undef, .undef, .undef, .undef, .undef, .undef, .undef, .undef, .undef, .undef, .undef, .undef, .undef, .undef, .undef, .undef, .undef, .undef, .undef, .undef, .undef, .undef, .undef, .undef, .undef, .undef], [some ⟨.raw true 7 (.agg [.int .i64 0, .int .i64 0, .int .i64 0, .int .i64 0, .int .i64 0, .str ByteArray.empty, .nils]) [.tv (.pair (.int .i64) (.pair (.int .i64) (.pair (.int .i64) (.pair (.int .i64) (.pair (.int .i64) (.pair .str (.pair (.row (.int .i64)) .unit))))))) y0_0], true⟩, some ⟨.typed (.int .i64) y1, false⟩]⟩ (leave (E_impl_Uses k) Tryz.f94 (fin1 (.row (.int .i64))))
noncomputable def impl_Uses.j12b (k : Nat) (y0_0 : Int × Int × Int × Int × Int × ByteArray × (List Int) × Unit) : Option (List Int) :=
  resume (E_impl_Uses k) 94 (acall (E_impl_Uses k) (arun Tryz.prog (E_impl_Uses k) k)) k [true, true, true, true] [] (bodyOf Tryz.f94) ⟨[.undef, .ptr 0 0 0, .undef, .sl 1, .undef, .undef, .undef, .undef, .undef, .undef, .undef, .undef, .undef, .undef, .undef, .undef, .undef, .undef, .undef, .undef, .undef, .undef, .undef, .undef, .undef, .undef, .undef, .undef, .undef, .undef, .undef, .undef, .undef, .undef, .undef, .undef, .undef, .undef, .undef, .undef, .undef, .undef, .undef, .undef, .undef, .undef, .undef, .undef, .undef, .undef, .undef, .undef, .undef, .undef, .undef, .undef, .undef, .undef, .undef, .undef, .undef, .undef, .undef, .undef, .undef], [some ⟨.raw true 7 (.agg [.int .i64 0, .int .i64 0, .int .i64 0, .int .i64 0, .int .i64 0, .str ByteArray.empty, .nils]) [.tv (.pair (.int .i64) (.pair (.int .i64) (.pair (.int .i64) (.pair (.int .i64) (.pair (.int .i64) (.pair .str (.pair (.row (.int .i64)) .unit))))))) y0_0], true⟩, some ⟨.typed (.int .i64) [], true⟩]⟩ (leave (E_impl_Uses k) Tryz.f94 (fin1 (.row (.int .i64))))
noncomputable def impl_Uses.l4b (k n : Nat) (x11 : List Int) (x12 : Int) (x13 : Int) (y0_0 : Int × Int × Int × Int × Int × ByteArray × (List Int) × Unit) (y1 : List Int) : Option (List Int) :=
  resume (E_impl_Uses k) 94 (acall (E_impl_Uses k) (arun Tryz.prog (E_impl_Uses k) k)) k [true, true, false, true, false, false, true, true] [n] (bodyOf Tryz.f94) ⟨[.undef, .ptr 0 0 0, .undef, .sl 1, .undef, .undef, .undef, .undef, .undef, .undef, .undef, .tv (.row (.int .i64)) x11, .int .i64 x12, .int .i64 x13, .undef, .undef, .undef, .undef, .undef, .undef, .undef, .undef, .undef, .undef, .undef, .undef, .undef, .undef, .undef, .undef, .undef, .undef, .undef, .undef, .undef, .undef, .undef, .undef, .undef, .undef, .undef, .undef, .undef, .undef, .undef, .undef, .undef, .undef, .undef, .undef, .undef, .undef, .undef, .undef, .undef, .undef, .undef, .undef, .undef, .undef, .undef, .undef, .undef, .undef, .undef], [some ⟨.raw true 7 (.agg [.int .i64 0, .int .i64 0, .int .i64 0, .int .i64 0, .int .i64 0, .str ByteArray.empty, .nils]) [.tv (.pair (.int .i64) (.pair (.int .i64) (.pair (.int .i64) (.pair (.int .i64) (.pair (.int .i64) (.pair .str (.pair (.row (.int .i64)) .unit))))))) y0_0], true⟩, some ⟨.typed (.int .i64) y1, false⟩]⟩ (leave (E_impl_Uses k) Tryz.f94 (fin1 (.row (.int .i64))))
noncomputable def impl_Uses.j14 (k : Nat) (y0_0 : Int × Int × Int × Int × Int × ByteArray × (List Int) × Unit) (y1 : List Int) : Option (List Int) :=
  resume (E_impl_Uses k) 94 (acall (E_impl_Uses k) (arun Tryz.prog (E_impl_Uses k) k)) k [true, true, true, true, true] [] (bodyOf Tryz.f94) ⟨[.undef, .ptr 0 0 0, .undef, .sl 1, .undef, .undef, .undef, .undef, .undef, .undef, .undef, .undef, .undef, .undef, .undef, .undef, .undef, .undef, .undef, .undef, .undef, .undef, .undef, .undef, .undef, .undef, .undef, .undef, .undef, .undef, .undef, .undef, .undef, .undef, .undef, .undef, .undef, .undef, .undef, .undef, .undef, .undef, .undef, .undef, .undef, .undef, .undef, .undef, .undef, .undef, .undef, .undef, .undef, .undef, .undef, .undef, .undef, .undef, .undef, .undef, .undef, .undef, .undef, .undef, .undef], [some ⟨.raw true 7 (.agg [.int .i64 0, .int .i64 0, .int .i64 0, .int .i64 0, .int .i64 0, .str ByteArray.empty, .nils]) [.tv (.pair (.int .i64) (.pair (.int .i64) (.pair (.int .i64) (.pair (.int .i64) (.pair (.int .i64) (.pair .str (.pair (.row (.int .i64)) .unit))))))) y0_0], true⟩, some ⟨.typed (.int .i64) y1, false⟩]⟩ (leave (E_impl_Uses k) Tryz.f94 (fin1 (.row (.int .i64))))
noncomputable def impl_Uses.j14b (k : Nat) (y0_0 : Int × Int × Int × Int × Int × ByteArray × (List Int) × Unit) : Option (List Int) :=
  resume (E_impl_Uses k) 94 (acall (E_impl_Uses k) (arun Tryz.prog (E_impl_Uses k) k)) k [true, true, true, true, true] [] (bodyOf Tryz.f94) ⟨[.undef, .ptr 0 0 0, .undef, .sl 1, .undef, .undef, .undef, .undef, .undef, .undef, .undef, .undef, .undef, .undef, .undef, .undef, .undef, .undef, .undef, .undef, .undef, .undef, .undef, .undef, .undef, .undef, .undef, .undef, .undef, .undef, .undef, .undef, .undef, .undef, .undef, .undef, .undef, .undef, .undef, .undef, .undef, .undef, .undef, .undef, .undef, .undef, .undef, .undef, .undef, .undef, .undef, .undef, .undef, .undef, .undef, .undef, .undef, .undef, .undef, .undef, .undef, .undef, .undef, .undef, .undef], [some ⟨.raw true 7 (.agg [.int .i64 0, .int .i64 0, .int .i64 0, .int .i64 0, .int .i64 0, .str ByteArray.empty, .nils]) [.tv (.pair (.int .i64) (.pair (.int .i64) (.pair (.int .i64) (.pair (.int .i64) (.pair (.int .i64) (.pair .str (.pair (.row (.int .i64)) .unit))))))) y0_0], true⟩, some ⟨.typed (.int .i64) [], true⟩]⟩ (leave (E_impl_Uses k) Tryz.f94 (fin1 (.row (.int .i64))))
theorem impl_Uses.l4_0 (k : Nat) (x11 : List Int) (x12 : Int) (x13 : Int) (y0_0 : Int × Int × Int × Int × Int × ByteArray × (List Int) × Unit) : impl_Uses.l4 k 0 x11 x12 x13 y0_0 = none := by kernel_rfl
theorem impl_Uses.l4_s (k n : Nat) (x11 : List Int) (x12 : Int) (x13 : Int) (y0_0 : Int × Int × Int × Int × Int × ByteArray × (List Int) × Unit) : impl_Uses.l4 k (n + 1) x11 x12 x13 y0_0 =
  iteB (decide (x13 < x12)) (iteB (decide (0 ≤ x13)) (iteB (decide (x13 < ((List.length x11) : Int))) (iteB (!((Int.tmod x13 3) == 1)) (iteB ((Int.tmod x13 3) == 2) (iteB (decide (0 ≤ IntKind.wrap .i64 (x13 - 2))) (iteB (decide (IntKind.wrap .i64 (x13 - 2) < ((List.length y0_0.2.2.2.2.2.2.1) : Int))) (iteB ((List.getD y0_0.2.2.2.2.2.2.1 (Int.toNat (IntKind.wrap .i64 (x13 - 2))) 0) == 2) (iteB (decide ((List.length ([] ++ [List.getD x11 (Int.toNat x13) 0])) * 8 ≤ lim)) (impl_Uses.l4b k n x11 x12 (IntKind.wrap .i64 (x13 + 1)) y0_0 ([] ++ [List.getD x11 (Int.toNat x13) 0])) (none)) (impl_Uses.l4 k n x11 x12 (IntKind.wrap .i64 (x13 + 1)) y0_0)) (none)) (none)) (impl_Uses.l4 k n x11 x12 (IntKind.wrap .i64 (x13 + 1)) y0_0)) (iteB (decide ((List.length ([] ++ [List.getD x11 (Int.toNat x13) 0])) * 8 ≤ lim)) (impl_Uses.l4b k n x11 x12 (IntKind.wrap .i64 (x13 + 1)) y0_0 ([] ++ [List.getD x11 (Int.toNat x13) 0])) (none))) (none)) (none)) (some []) := by kernel_rfl
theorem impl_Uses.j12_e (k : Nat) (y0_0 : Int × Int × Int × Int × Int × ByteArray × (List Int) × Unit) (y1 : List Int) : impl_Uses.j12 k y0_0 y1 =
  bindO (impl_owned k y0_0.1 66) fun r2 => (iteB r2 (iteB (decide ((List.length (y1 ++ [y0_0.2.2.2.1])) * 8 ≤ lim)) (gate k (impl_Uses.j14 k y0_0 (y1 ++ [y0_0.2.2.2.1]))) (none)) (gate k (impl_Uses.j14 k y0_0 y1))) := by kernel_rfl
theorem impl_Uses.j12b_e (k : Nat) (y0_0 : Int × Int × Int × Int × Int × ByteArray × (List Int) × Unit) : impl_Uses.j12b k y0_0 =
  bindO (impl_owned k y0_0.1 66) fun r3 => (iteB r3 (iteB (decide ((List.length ([] ++ [y0_0.2.2.2.1])) * 8 ≤ lim)) (gate k (impl_Uses.j14 k y0_0 ([] ++ [y0_0.2.2.2.1]))) (none)) (gate k (impl_Uses.j14b k y0_0))) := by kernel_rfl
theorem impl_Uses.l4b_0 (k : Nat) (x11 : List Int) (x12 : Int) (x13 : Int) (y0_0 : Int × Int × Int × Int × Int × ByteArray × (List Int) × Unit) (y1 : List Int) : impl_Uses.l4b k 0 x11 x12 x13 y0_0 y1 = none := by kernel_rfl
theorem impl_Uses.l4b_s (k n : Nat) (x11 : List Int) (x12 : Int) (x13 : Int) (y0_0 : Int × Int × Int × Int × Int × ByteArray × (List Int) × Unit) (y1 : List Int) : impl_Uses.l4b k (n + 1) x11 x12 x13 y0_0 y1 =
  iteB (decide (x13 < x12)) (iteB (decide (0 ≤ x13)) (iteB (decide (x13 < ((List.length x11) : Int))) (iteB (!((Int.tmod x13 3) == 1)) (iteB ((Int.tmod x13 3) == 2) (iteB (decide (0 ≤ IntKind.wrap .i64 (x13 - 2))) (iteB (decide (IntKind.wrap .i64 (x13 - 2) < ((List.length y0_0.2.2.2.2.2.2.1) : Int))) (iteB ((List.getD y0_0.2.2.2.2.2.2.1 (Int.toNat (IntKind.wrap .i64 (x13 - 2))) 0) == 2) (iteB (decide ((List.length (y1 ++ [List.getD x11 (Int.toNat x13) 0])) * 8 ≤ lim)) (impl_Uses.l4b k n x11 x12 (IntKind.wrap .i64 (x13 + 1)) y0_0 (y1 ++ [List.getD x11 (Int.toNat x13) 0])) (none)) (impl_Uses.l4b k n x11 x12 (IntKind.wrap .i64 (x13 + 1)) y0_0 y1)) (none)) (none)) (impl_Uses.l4b k n x11 x12 (IntKind.wrap .i64 (x13 + 1)) y0_0 y1)) (iteB (decide ((List.length (y1 ++ [List.getD x11 (Int.toNat x13) 0])) * 8 ≤ lim)) (impl_Uses.l4b k n x11 x12 (IntKind.wrap .i64 (x13 + 1)) y0_0 (y1 ++ [List.getD x11 (Int.toNat x13) 0])) (none))) (none)) (none)) (some y1) := by kernel_rfl
theorem impl_Uses.j14_e (k : Nat) (y0_0 : Int × Int × Int × Int × Int × ByteArray × (List Int) × Unit) (y1 : List Int) : impl_Uses.j14 k y0_0 y1 =
  bindO (impl_owned k y0_0.1 88) fun r4 => (iteB r4 (iteB (decide ((List.length (y1 ++ y0_0.2.2.2.2.2.2.1)) * 8 ≤ lim)) (some (y1 ++ y0_0.2.2.2.2.2.2.1)) (none)) (some y1)) := by kernel_rfl
theorem impl_Uses.j14b_e (k : Nat) (y0_0 : Int × Int × Int × Int × Int × ByteArray × (List Int) × Unit) : impl_Uses.j14b k y0_0 =
  bindO (impl_owned k y0_0.1 88) fun r5 => (iteB r5 (iteB (decide ((List.length ([] ++ y0_0.2.2.2.2.2.2.1)) * 8 ≤ lim)) (some ([] ++ y0_0.2.2.2.2.2.2.1)) (none)) (some [])) := by kernel_rfl
theorem impl_Uses_e (k : Nat) (a1 : Int × Int × Int × Int × Int × ByteArray × (List Int) × Unit) : impl_Uses k a1 =
  iteB (a1.1 == 19) (impl_Uses.l4 k k a1.2.2.2.2.2.2.1 ((List.length a1.2.2.2.2.2.2.1) : Int) 0 a1) (bindO (impl_owned k a1.1 65) fun r1 => (iteB r1 (iteB (decide ((List.length ([] ++ [a1.2.2.1])) * 8 ≤ lim)) (gate k (impl_Uses.j12 k a1 ([] ++ [a1.2.2.1]))) (none)) (gate k (impl_Uses.j12b k a1)))) := by kernel_rfl
theorem E_impl_Uses_calls (k : Nat) : CallsOk Tryz.prog (E_impl_Uses k) (arun Tryz.prog (E_impl_Uses k) k) := by
  refine told_run (tyTOk _ _) ?_ (fun run h => regOk (tyTOk _ _) mixOk h) ?_ nameOk k
  · intro g m hg
    simp only [E_impl_Uses] at hg
    split at hg
    · cases hg
      refine con_byVal fun ρ l K x hm => ?_
      split at hm
      · obtain ⟨c1, h1, hm⟩ := Option.bind_eq_some_iff.1 hm
        obtain ⟨c2, h2, hm⟩ := Option.bind_eq_some_iff.1 hm
        obtain ⟨r, hr, hm⟩ := Option.bind_eq_some_iff.1 hm
        exact ⟨_, hm, LawV.reads (.cons (.as h1) (.cons (.as h2) .nil)) (impl_owned_law k c1 c2 r hr)⟩
      · cases hm
    · cases hg; exact noCon_ok
    · cases hg
  · intro g hg r
    by_cases h : g = 94
    · subst h; simp [E_impl_Uses] at hg
    · simp [E_impl_Uses, h]
theorem f94_okimpl_Uses : Tryz.prog.funcs[94]? = some Tryz.f94 := by kernel_rfl
theorem impl_Uses_law (k : Nat) (a1 : Int × Int × Int × Int × Int × ByteArray × (List Int) × Unit) (x : List Int) (h : impl_Uses k a1 = some x) : LawV Tryz.prog 94 [.tv (.pair (.int .i64) (.pair (.int .i64) (.pair (.int .i64) (.pair (.int .i64) (.pair (.int .i64) (.pair .str (.pair (.row (.int .i64)) .unit))))))) a1] (tvn (.row (.int .i64)) x) := by
  unfold impl_Uses at h
  exact law1 (t := (.row (.int .i64))) (tyTOk _ _) (E_impl_Uses_calls k) mixOk f94_okimpl_Uses (nameOk _ _ f94_okimpl_Uses) (by kernel_rfl) h
/-! impl.tacOk$1 -/
noncomputable def E_impl_tacOk_1_vbp (k : Nat) : Env := ⟨ty, fun g => match g with
  | 24 => some (byVal fun ρ l K => match l with
    | [b1, b2, b3] => (b1.as (.int .i64)).bind fun c1 => (b2.as (.int .i64)).bind fun c2 => (b3.as (.int .i64)).bind fun c3 => (impl_within k c1 c2 c3).bind fun r => K (tvn .bool r)
    | _ => none)
  | _ => none, fun _ _ => none⟩
noncomputable def impl_tacOk_1_vbp (k : Nat) (a1 : Int) (a2 : Int) : Option (Bool) :=
  abody (E_impl_tacOk_1_vbp k) (arun Tryz.prog (E_impl_tacOk_1_vbp k) k) k 95 Tryz.f95 [.int .i64 a1, .bp [.int .i64 a2] 0] [] (fin1 .bool)
theorem impl_tacOk_1_vbp_e (k : Nat) (a1 : Int) (a2 : Int) : impl_tacOk_1_vbp k a1 a2 =
  bindO (impl_within k a1 0 (IntKind.wrap .i64 (a2 - 1))) fun r1 => (some (!r1)) := by kernel_rfl
theorem E_impl_tacOk_1_vbp_calls (k : Nat) : CallsOk Tryz.prog (E_impl_tacOk_1_vbp k) (arun Tryz.prog (E_impl_tacOk_1_vbp k) k) := by
  refine told_run (tyTOk _ _) ?_ (fun run h => regOk (tyTOk _ _) mixOk h) ?_ nameOk k
  · intro g m hg
    simp only [E_impl_tacOk_1_vbp] at hg
    split at hg
    · cases hg
      refine con_byVal fun ρ l K x hm => ?_
      split at hm
      · obtain ⟨c1, h1, hm⟩ := Option.bind_eq_some_iff.1 hm
        obtain ⟨c2, h2, hm⟩ := Option.bind_eq_some_iff.1 hm
        obtain ⟨c3, h3, hm⟩ := Option.bind_eq_some_iff.1 hm
        obtain ⟨r, hr, hm⟩ := Option.bind_eq_some_iff.1 hm
        exact ⟨_, hm, LawV.reads (.cons (.as h1) (.cons (.as h2) (.cons (.as h3) .nil))) (impl_within_law k c1 c2 c3 r hr)⟩
      · cases hm
    · cases hg
  · intro g _ r; rfl
theorem f95_okimpl_tacOk_1_vbp : Tryz.prog.funcs[95]? = some Tryz.f95 := by kernel_rfl
theorem impl_tacOk_1_vbp_law (k : Nat) (a1 : Int) (a2 : Int) (x : Bool) (h : impl_tacOk_1_vbp k a1 a2 = some x) : LawV Tryz.prog 95 [.int .i64 a1, .bp [.int .i64 a2] 0] (tvn .bool x) := by
  unfold impl_tacOk_1_vbp at h
  exact law1 (t := .bool) (tyTOk _ _) (E_impl_tacOk_1_vbp_calls k) mixOk f95_okimpl_tacOk_1_vbp (nameOk _ _ f95_okimpl_tacOk_1_vbp) (by kernel_rfl) h
/-! slices.IndexFunc[[]int,int] -/
noncomputable def E_slices_IndexFunc_int__impl_tacOk_1 (k : Nat) : Env := ⟨ty, fun g => match g with
  | 95 => some (byVal fun ρ l K => match l with
    | [b1, .bp [b2] 0] => (b1.as (.int .i64)).bind fun c1 => (b2.as (.int .i64)).bind fun c2 => (impl_tacOk_1_vbp k c1 c2).bind fun r => K (tvn .bool r)
    | _ => none)
  | 80 => some noCon
  | _ => none, fun f r => match f with | 80 => (match r with | 2 => some [0, 1, 7, 8] | _ => none) | _ => none⟩
noncomputable def slices_IndexFunc_int__impl_tacOk_1 (k : Nat) (a1 : List Int) (a2 : Int) : Option (Int) :=
  abody (E_slices_IndexFunc_int__impl_tacOk_1 k) (arun Tryz.prog (E_slices_IndexFunc_int__impl_tacOk_1 k) k) k 80 Tryz.f80 [.tv (.row (.int .i64)) a1, .fn 95 [.bp [.int .i64 a2] 0]] [] (fin1 (.int .i64))
noncomputable def slices_IndexFunc_int__impl_tacOk_1.l2 (k n : Nat) (x0 : List Int) (x1_0_0 : Int) (x7 : Int) (x8 : Int) : Option (Int) :=
  resume (E_slices_IndexFunc_int__impl_tacOk_1 k) 80 (acall (E_slices_IndexFunc_int__impl_tacOk_1 k) (arun Tryz.prog (E_slices_IndexFunc_int__impl_tacOk_1 k) k)) k [true, false, true, true] [n] (bodyOf Tryz.f80) ⟨[.tv (.row (.int .i64)) x0, .fn 95 [.bp [.int .i64 x1_0_0] 0], .undef, .undef, .undef, .undef, .undef, .int .i64 x7, .int .i64 x8, .undef, .undef, .undef, .undef, .undef, .undef, .undef, .undef, .undef, .undef], []⟩ (leave (E_slices_IndexFunc_int__impl_tacOk_1 k) Tryz.f80 (fin1 (.int .i64)))
theorem slices_IndexFunc_int__impl_tacOk_1.l2_0 (k : Nat) (x0 : List Int) (x1_0_0 : Int) (x7 : Int) (x8 : Int) : slices_IndexFunc_int__impl_tacOk_1.l2 k 0 x0 x1_0_0 x7 x8 = none := by kernel_rfl
theorem slices_IndexFunc_int__impl_tacOk_1.l2_s (k n : Nat) (x0 : List Int) (x1_0_0 : Int) (x7 : Int) (x8 : Int) : slices_IndexFunc_int__impl_tacOk_1.l2 k (n + 1) x0 x1_0_0 x7 x8 =
  iteB (decide (x8 < x7)) (iteB (decide (0 ≤ x8)) (iteB (decide (x8 < ((List.length x0) : Int))) (bindO (impl_tacOk_1_vbp k (List.getD x0 (Int.toNat x8) 0) x1_0_0) fun r1 => (iteB r1 (some x8) (slices_IndexFunc_int__impl_tacOk_1.l2 k n x0 x1_0_0 x7 (IntKind.wrap .i64 (x8 + 1))))) (none)) (none)) (some (-1)) := by kernel_rfl
theorem slices_IndexFunc_int__impl_tacOk_1_e (k : Nat) (a1 : List Int) (a2 : Int) : slices_IndexFunc_int__impl_tacOk_1 k a1 a2 =
  slices_IndexFunc_int__impl_tacOk_1.l2 k k a1 a2 ((List.length a1) : Int) 0 := by kernel_rfl
theorem E_slices_IndexFunc_int__impl_tacOk_1_calls (k : Nat) : CallsOk Tryz.prog (E_slices_IndexFunc_int__impl_tacOk_1 k) (arun Tryz.prog (E_slices_IndexFunc_int__impl_tacOk_1 k) k) := by
  refine told_run (tyTOk _ _) ?_ (fun run h => regOk (tyTOk _ _) mixOk h) ?_ nameOk k
  · intro g m hg
    simp only [E_slices_IndexFunc_int__impl_tacOk_1] at hg
    split at hg
    · cases hg
      refine con_byVal fun ρ l K x hm => ?_
      split at hm
      · obtain ⟨c1, h1, hm⟩ := Option.bind_eq_some_iff.1 hm
        obtain ⟨c2, h2, hm⟩ := Option.bind_eq_some_iff.1 hm
        obtain ⟨r, hr, hm⟩ := Option.bind_eq_some_iff.1 hm
        exact ⟨_, hm, LawV.reads (.cons (.as h1) (.cons (.bp (.cons (.as h2) .nil)) .nil)) (impl_tacOk_1_vbp_law k c1 c2 r hr)⟩
      · cases hm
    · cases hg; exact noCon_ok
    · cases hg
  · intro g hg r
    by_cases h : g = 80
    · subst h; simp [E_slices_IndexFunc_int__impl_tacOk_1] at hg
    · simp [E_slices_IndexFunc_int__impl_tacOk_1, h]
theorem f80_okslices_IndexFunc_int__impl_tacOk_1 : Tryz.prog.funcs[80]? = some Tryz.f80 := by kernel_rfl
theorem slices_IndexFunc_int__impl_tacOk_1_law (k : Nat) (a1 : List Int) (a2 : Int) (x : Int) (h : slices_IndexFunc_int__impl_tacOk_1 k a1 a2 = some x) : LawV Tryz.prog 80 [.tv (.row (.int .i64)) a1, .fn 95 [.bp [.int .i64 a2] 0]] (tvn (.int .i64) x) := by
  unfold slices_IndexFunc_int__impl_tacOk_1 at h
  exact law1 (t := (.int .i64)) (tyTOk _ _) (E_slices_IndexFunc_int__impl_tacOk_1_calls k) mixOk f80_okslices_IndexFunc_int__impl_tacOk_1 (nameOk _ _ f80_okslices_IndexFunc_int__impl_tacOk_1) (by kernel_rfl) h
/-! slices.ContainsFunc[[]int,int] -/
noncomputable def E_slices_ContainsFunc_int__impl_tacOk_1 (k : Nat) : Env := ⟨ty, fun g => match g with
  | 80 => some (byVal fun ρ l K => match l with
    | [b1, .fn 95 [.bp [b2] 0]] => (b1.as (.row (.int .i64))).bind fun c1 => (b2.as (.int .i64)).bind fun c2 => (slices_IndexFunc_int__impl_tacOk_1 k c1 c2).bind fun r => K (tvn (.int .i64) r)
    | _ => none)
  | _ => none, fun _ _ => none⟩
noncomputable def slices_ContainsFunc_int__impl_tacOk_1 (k : Nat) (a1 : List Int) (a2 : Int) : Option (Bool) :=
  abody (E_slices_ContainsFunc_int__impl_tacOk_1 k) (arun Tryz.prog (E_slices_ContainsFunc_int__impl_tacOk_1 k) k) k 56 Tryz.f56 [.tv (.row (.int .i64)) a1, .fn 95 [.bp [.int .i64 a2] 0]] [] (fin1 .bool)
theorem slices_ContainsFunc_int__impl_tacOk_1_e (k : Nat) (a1 : List Int) (a2 : Int) : slices_ContainsFunc_int__impl_tacOk_1 k a1 a2 =
  bindO (slices_IndexFunc_int__impl_tacOk_1 k a1 a2) fun r1 => (some (decide (r1 ≥ 0))) := by kernel_rfl
theorem E_slices_ContainsFunc_int__impl_tacOk_1_calls (k : Nat) : CallsOk Tryz.prog (E_slices_ContainsFunc_int__impl_tacOk_1 k) (arun Tryz.prog (E_slices_ContainsFunc_int__impl_tacOk_1 k) k) := by
  refine told_run (tyTOk _ _) ?_ (fun run h => regOk (tyTOk _ _) mixOk h) ?_ nameOk k
  · intro g m hg
    simp only [E_slices_ContainsFunc_int__impl_tacOk_1] at hg
    split at hg
    · cases hg
      refine con_byVal fun ρ l K x hm => ?_
      split at hm
      · obtain ⟨c1, h1, hm⟩ := Option.bind_eq_some_iff.1 hm
        obtain ⟨c2, h2, hm⟩ := Option.bind_eq_some_iff.1 hm
        obtain ⟨r, hr, hm⟩ := Option.bind_eq_some_iff.1 hm
        exact ⟨_, hm, LawV.reads (.cons (.as h1) (.cons (.fn (.cons (.bp (.cons (.as h2) .nil)) .nil)) .nil)) (slices_IndexFunc_int__impl_tacOk_1_law k c1 c2 r hr)⟩
      · cases hm
    · cases hg
  · intro g _ r; rfl
theorem f56_okslices_ContainsFunc_int__impl_tacOk_1 : Tryz.prog.funcs[56]? = some Tryz.f56 := by kernel_rfl
theorem slices_ContainsFunc_int__impl_tacOk_1_law (k : Nat) (a1 : List Int) (a2 : Int) (x : Bool) (h : slices_ContainsFunc_int__impl_tacOk_1 k a1 a2 = some x) : LawV Tryz.prog 56 [.tv (.row (.int .i64)) a1, .fn 95 [.bp [.int .i64 a2] 0]] (tvn .bool x) := by
  unfold slices_ContainsFunc_int__impl_tacOk_1 at h
  exact law1 (t := .bool) (tyTOk _ _) (E_slices_ContainsFunc_int__impl_tacOk_1_calls k) mixOk f56_okslices_ContainsFunc_int__impl_tacOk_1 (nameOk _ _ f56_okslices_ContainsFunc_int__impl_tacOk_1) (by kernel_rfl) h
/-! impl.tacOk -/
noncomputable def E_impl_tacOk (k : Nat) : Env := ⟨ty, fun g => match g with
  | 76 => some (byVal fun ρ l K => match l with
    | [b1] => (b1.as (.int .i64)).bind fun c1 => (impl_owns k c1).bind fun r => K (tvn .str r)
    | _ => none)
  | 32 => some (byVal fun ρ l K => match l with
    | [b1] => (b1.as (.int .i64)).bind fun c1 => (impl_WordOk k c1).bind fun r => K (tvn .bool r)
    | _ => none)
  | 92 => some (byVal fun ρ l K => match l with
    | [b1, b2] => (b1.as (.pair (.int .i64) (.pair (.int .i64) (.pair (.int .i64) (.pair (.int .i64) (.pair (.int .i64) (.pair .str (.pair (.row (.int .i64)) .unit)))))))).bind fun c1 => (b2.as (.int .i64)).bind fun c2 => (impl_argsOk k c1 c2).bind fun r => K (tvn .bool r)
    | _ => none)
  | 48 => some (byVal fun ρ l K => match l with
    | [b1, b2] => (b1.as (.int .i64)).bind fun c1 => (b2.as (.int .u8)).bind fun c2 => (impl_owned k c1 c2).bind fun r => K (tvn .bool r)
    | _ => none)
  | 93 => some (byFresh (.int .i64) fun ρ l K => match l with
    | [b1] => (b1.as (.pair (.int .i64) (.pair (.int .i64) (.pair (.int .i64) (.pair (.int .i64) (.pair (.int .i64) (.pair .str (.pair (.row (.int .i64)) .unit)))))))).bind fun c1 => (impl_Sets k c1).bind fun r => K r
    | _ => none)
  | 94 => some (byVal fun ρ l K => match l with
    | [b1] => (b1.as (.pair (.int .i64) (.pair (.int .i64) (.pair (.int .i64) (.pair (.int .i64) (.pair (.int .i64) (.pair .str (.pair (.row (.int .i64)) .unit)))))))).bind fun c1 => (impl_Uses k c1).bind fun r => K (tvn (.row (.int .i64)) r)
    | _ => none)
  | 56 => some (byVal fun ρ l K => match l with
    | [b1, .fn 95 [.bp [b2] 0]] => (b1.as (.row (.int .i64))).bind fun c1 => (b2.as (.int .i64)).bind fun c2 => (slices_ContainsFunc_int__impl_tacOk_1 k c1 c2).bind fun r => K (tvn .bool r)
    | _ => none)
  | 70 => some noCon
  | _ => none, fun f r => match f with | 70 => (match r with | 3 => some [2, 3] | 5 => some [2, 3] | _ => none) | _ => none⟩
noncomputable def impl_tacOk (k : Nat) (a1 : Int × Int × Int × Int × Int × ByteArray × (List Int) × Unit) (a2 : Int) : Option (Bool) :=
  abody (E_impl_tacOk k) (arun Tryz.prog (E_impl_tacOk k) k) k 70 Tryz.f70 [.tv (.pair (.int .i64) (.pair (.int .i64) (.pair (.int .i64) (.pair (.int .i64) (.pair (.int .i64) (.pair .str (.pair (.row (.int .i64)) .unit))))))) a1, .int .i64 a2] [] (fin1 .bool)
noncomputable def impl_tacOk.j3 (k : Nat) (y0_0 : Int × Int × Int × Int × Int × ByteArray × (List Int) × Unit) (y1_0 : Int) : Option (Bool) :=
  resume (E_impl_tacOk k) 70 (acall (E_impl_tacOk k) (arun Tryz.prog (E_impl_tacOk k) k)) k [true, true] [] (bodyOf Tryz.f70) ⟨[.undef, .undef, .ptr 0 0 0, .ptr 1 0 0, .undef, .undef, .undef, .undef, .undef, .undef, .undef, .undef, .undef, .undef, .undef, .undef, .undef, .undef, .undef, .undef, .undef, .undef, .undef, .undef, .undef, .undef, .undef, .undef, .undef, .undef, .undef, .undef, .undef, .undef, .undef, .undef, .undef, .undef, .undef, .undef, .undef, .undef, .undef, .undef, .undef, .undef, .undef, .undef, .undef, .undef, .undef, .undef, .undef, .undef, .undef, .undef, .undef, .undef, .undef, .undef, .undef, .undef, .undef, .undef, .undef, .undef, .undef, .undef, .undef, .undef, .undef, .undef, .undef, .undef, .undef, .undef, .undef, .undef, .undef, .undef, .undef, .undef], [some ⟨.raw true 7 (.agg [.int .i64 0, .int .i64 0, .int .i64 0, .int .i64 0, .int .i64 0, .str ByteArray.empty, .nils]) [.tv (.pair (.int .i64) (.pair (.int .i64) (.pair (.int .i64) (.pair (.int .i64) (.pair (.int .i64) (.pair .str (.pair (.row (.int .i64)) .unit))))))) y0_0], true⟩, some ⟨.raw false 1 (.int .i64 0) [.int .i64 y1_0], true⟩]⟩ (leave (E_impl_tacOk k) Tryz.f70 (fin1 .bool))
noncomputable def impl_tacOk.j5 (k : Nat) (y0_0 : Int × Int × Int × Int × Int × ByteArray × (List Int) × Unit) (y1_0 : Int) : Option (Bool) :=
  resume (E_impl_tacOk k) 70 (acall (E_impl_tacOk k) (arun Tryz.prog (E_impl_tacOk k) k)) k [true, true, true] [] (bodyOf Tryz.f70) ⟨[.undef, .undef, .ptr 0 0 0, .ptr 1 0 0, .undef, .undef, .undef, .undef, .undef, .undef, .undef, .undef, .undef, .undef, .undef, .undef, .undef, .undef, .undef, .undef, .undef, .undef, .undef, .undef, .undef, .undef, .undef, .undef, .undef, .undef, .undef, .undef, .undef, .undef, .undef, .undef, .undef, .undef, .undef, .undef, .undef, .undef, .undef, .undef, .undef, .undef, .undef, .undef, .undef, .undef, .undef, .undef, .undef, .undef, .undef, .undef, .undef, .undef, .undef, .undef, .undef, .undef, .undef, .undef, .undef, .undef, .undef, .undef, .undef, .undef, .undef, .undef, .undef, .undef, .undef, .undef, .undef, .undef, .undef, .undef, .undef, .undef], [some ⟨.raw true 7 (.agg [.int .i64 0, .int .i64 0, .int .i64 0, .int .i64 0, .int .i64 0, .str ByteArray.empty, .nils]) [.tv (.pair (.int .i64) (.pair (.int .i64) (.pair (.int .i64) (.pair (.int .i64) (.pair (.int .i64) (.pair .str (.pair (.row (.int .i64)) .unit))))))) y0_0], true⟩, some ⟨.raw false 1 (.int .i64 0) [.int .i64 y1_0], true⟩]⟩ (leave (E_impl_tacOk k) Tryz.f70 (fin1 .bool))
theorem impl_tacOk.j3_e (k : Nat) (y0_0 : Int × Int × Int × Int × Int × ByteArray × (List Int) × Unit) (y1_0 : Int) : impl_tacOk.j3 k y0_0 y1_0 =
  bindO (impl_owned k y0_0.1 68) fun r4 => (iteB (!r4) (iteB (!(y0_0.2.1 != 0)) (bindO (impl_owned k y0_0.1 65) fun r5 => (iteB (!r5) (iteB (!(y0_0.2.2.1 != 0)) (bindO (impl_owned k y0_0.1 66) fun r6 => (iteB (!r6) (iteB (!(y0_0.2.2.2.1 != 0)) (bindO (impl_owned k y0_0.1 78) fun r7 => (iteB (!r7) (iteB (!(y0_0.2.2.2.2.1 != 0)) (bindO (impl_owned k y0_0.1 83) fun r8 => (iteB (!r8) (iteB (!(ByteArray.toList y0_0.2.2.2.2.2.1 == ByteArray.toList (⟨#[]⟩ : ByteArray))) (some false) (gate k (impl_tacOk.j5 k y0_0 y1_0))) (gate k (impl_tacOk.j5 k y0_0 y1_0)))) (some false)) (bindO (impl_owned k y0_0.1 83) fun r9 => (iteB (!r9) (iteB (!(ByteArray.toList y0_0.2.2.2.2.2.1 == ByteArray.toList (⟨#[]⟩ : ByteArray))) (some false) (gate k (impl_tacOk.j5 k y0_0 y1_0))) (gate k (impl_tacOk.j5 k y0_0 y1_0)))))) (some false)) (bindO (impl_owned k y0_0.1 78) fun r10 => (iteB (!r10) (iteB (!(y0_0.2.2.2.2.1 != 0)) (bindO (impl_owned k y0_0.1 83) fun r11 => (iteB (!r11) (iteB (!(ByteArray.toList y0_0.2.2.2.2.2.1 == ByteArray.toList (⟨#[]⟩ : ByteArray))) (some false) (gate k (impl_tacOk.j5 k y0_0 y1_0))) (gate k (impl_tacOk.j5 k y0_0 y1_0)))) (some false)) (bindO (impl_owned k y0_0.1 83) fun r12 => (iteB (!r12) (iteB (!(ByteArray.toList y0_0.2.2.2.2.2.1 == ByteArray.toList (⟨#[]⟩ : ByteArray))) (some false) (gate k (impl_tacOk.j5 k y0_0 y1_0))) (gate k (impl_tacOk.j5 k y0_0 y1_0)))))))) (some false)) (bindO (impl_owned k y0_0.1 66) fun r13 => (iteB (!r13) (iteB (!(y0_0.2.2.2.1 != 0)) (bindO (impl_owned k y0_0.1 78) fun r14 => (iteB (!r14) (iteB (!(y0_0.2.2.2.2.1 != 0)) (bindO (impl_owned k y0_0.1 83) fun r15 => (iteB (!r15) (iteB (!(ByteArray.toList y0_0.2.2.2.2.2.1 == ByteArray.toList (⟨#[]⟩ : ByteArray))) (some false) (gate k (impl_tacOk.j5 k y0_0 y1_0))) (gate k (impl_tacOk.j5 k y0_0 y1_0)))) (some false)) (bindO (impl_owned k y0_0.1 83) fun r16 => (iteB (!r16) (iteB (!(ByteArray.toList y0_0.2.2.2.2.2.1 == ByteArray.toList (⟨#[]⟩ : ByteArray))) (some false) (gate k (impl_tacOk.j5 k y0_0 y1_0))) (gate k (impl_tacOk.j5 k y0_0 y1_0)))))) (some false)) (bindO (impl_owned k y0_0.1 78) fun r17 => (iteB (!r17) (iteB (!(y0_0.2.2.2.2.1 != 0)) (bindO (impl_owned k y0_0.1 83) fun r18 => (iteB (!r18) (iteB (!(ByteArray.toList y0_0.2.2.2.2.2.1 == ByteArray.toList (⟨#[]⟩ : ByteArray))) (some false) (gate k (impl_tacOk.j5 k y0_0 y1_0))) (gate k (impl_tacOk.j5 k y0_0 y1_0)))) (some false)) (bindO (impl_owned k y0_0.1 83) fun r19 => (iteB (!r19) (iteB (!(ByteArray.toList y0_0.2.2.2.2.2.1 == ByteArray.toList (⟨#[]⟩ : ByteArray))) (some false) (gate k (impl_tacOk.j5 k y0_0 y1_0))) (gate k (impl_tacOk.j5 k y0_0 y1_0)))))))))) (some false)) (bindO (impl_owned k y0_0.1 65) fun r20 => (iteB (!r20) (iteB (!(y0_0.2.2.1 != 0)) (bindO (impl_owned k y0_0.1 66) fun r21 => (iteB (!r21) (iteB (!(y0_0.2.2.2.1 != 0)) (bindO (impl_owned k y0_0.1 78) fun r22 => (iteB (!r22) (iteB (!(y0_0.2.2.2.2.1 != 0)) (bindO (impl_owned k y0_0.1 83) fun r23 => (iteB (!r23) (iteB (!(ByteArray.toList y0_0.2.2.2.2.2.1 == ByteArray.toList (⟨#[]⟩ : ByteArray))) (some false) (gate k (impl_tacOk.j5 k y0_0 y1_0))) (gate k (impl_tacOk.j5 k y0_0 y1_0)))) (some false)) (bindO (impl_owned k y0_0.1 83) fun r24 => (iteB (!r24) (iteB (!(ByteArray.toList y0_0.2.2.2.2.2.1 == ByteArray.toList (⟨#[]⟩ : ByteArray))) (some false) (gate k (impl_tacOk.j5 k y0_0 y1_0))) (gate k (impl_tacOk.j5 k y0_0 y1_0)))))) (some false)) (bindO (impl_owned k y0_0.1 78) fun r25 => (iteB (!r25) (iteB (!(y0_0.2.2.2.2.1 != 0)) (bindO (impl_owned k y0_0.1 83) fun r26 => (iteB (!r26) (iteB (!(ByteArray.toList y0_0.2.2.2.2.2.1 == ByteArray.toList (⟨#[]⟩ : ByteArray))) (some false) (gate k (impl_tacOk.j5 k y0_0 y1_0))) (gate k (impl_tacOk.j5 k y0_0 y1_0)))) (some false)) (bindO (impl_owned k y0_0.1 83) fun r27 => (iteB (!r27) (iteB (!(ByteArray.toList y0_0.2.2.2.2.2.1 == ByteArray.toList (⟨#[]⟩ : ByteArray))) (some false) (gate k (impl_tacOk.j5 k y0_0 y1_0))) (gate k (impl_tacOk.j5 k y0_0 y1_0)))))))) (some false)) (bindO (impl_owned k y0_0.1 66) fun r28 => (iteB (!r28) (iteB (!(y0_0.2.2.2.1 != 0)) (bindO (impl_owned k y0_0.1 78) fun r29 => (iteB (!r29) (iteB (!(y0_0.2.2.2.2.1 != 0)) (bindO (impl_owned k y0_0.1 83) fun r30 => (iteB (!r30) (iteB (!(ByteArray.toList y0_0.2.2.2.2.2.1 == ByteArray.toList (⟨#[]⟩ : ByteArray))) (some false) (gate k (impl_tacOk.j5 k y0_0 y1_0))) (gate k (impl_tacOk.j5 k y0_0 y1_0)))) (some false)) (bindO (impl_owned k y0_0.1 83) fun r31 => (iteB (!r31) (iteB (!(ByteArray.toList y0_0.2.2.2.2.2.1 == ByteArray.toList (⟨#[]⟩ : ByteArray))) (some false) (gate k (impl_tacOk.j5 k y0_0 y1_0))) (gate k (impl_tacOk.j5 k y0_0 y1_0)))))) (some false)) (bindO (impl_owned k y0_0.1 78) fun r32 => (iteB (!r32) (iteB (!(y0_0.2.2.2.2.1 != 0)) (bindO (impl_owned k y0_0.1 83) fun r33 => (iteB (!r33) (iteB (!(ByteArray.toList y0_0.2.2.2.2.2.1 == ByteArray.toList (⟨#[]⟩ : ByteArray))) (some false) (gate k (impl_tacOk.j5 k y0_0 y1_0))) (gate k (impl_tacOk.j5 k y0_0 y1_0)))) (some false)) (bindO (impl_owned k y0_0.1 83) fun r34 => (iteB (!r34) (iteB (!(ByteArray.toList y0_0.2.2.2.2.2.1 == ByteArray.toList (⟨#[]⟩ : ByteArray))) (some false) (gate k (impl_tacOk.j5 k y0_0 y1_0))) (gate k (impl_tacOk.j5 k y0_0 y1_0))))))))))) := by kernel_rfl
theorem impl_tacOk.j5_e (k : Nat) (y0_0 : Int × Int × Int × Int × Int × ByteArray × (List Int) × Unit) (y1_0 : Int) : impl_tacOk.j5 k y0_0 y1_0 =
  bindO (impl_Sets k y0_0) fun r35 => (bindO (impl_Uses k y0_0) fun r36 => (iteB (decide ((List.length (r35 ++ r36)) * 8 ≤ lim)) (bindO (slices_ContainsFunc_int__impl_tacOk_1 k (r35 ++ r36) y1_0) fun r37 => (some (!r37))) (none))) := by kernel_rfl
theorem impl_tacOk_e (k : Nat) (a1 : Int × Int × Int × Int × Int × ByteArray × (List Int) × Unit) (a2 : Int) : impl_tacOk k a1 a2 =
  bindO (impl_owns k a1.1) fun r1 => (iteB (!(ByteArray.toList r1 == ByteArray.toList (⟨#[]⟩ : ByteArray))) (bindO (impl_WordOk k a1.2.2.2.2.1) fun r2 => (iteB (!(!r2)) (bindO (impl_argsOk k a1 a2) fun r3 => (iteB (!r3) (some false) (gate k (impl_tacOk.j3 k a1 a2)))) (some false))) (some false)) := by kernel_rfl
theorem E_impl_tacOk_calls (k : Nat) : CallsOk Tryz.prog (E_impl_tacOk k) (arun Tryz.prog (E_impl_tacOk k) k) := by
  refine told_run (tyTOk _ _) ?_ (fun run h => regOk (tyTOk _ _) mixOk h) ?_ nameOk k
  · intro g m hg
    simp only [E_impl_tacOk] at hg
    split at hg
    · cases hg
      refine con_byVal fun ρ l K x hm => ?_
      split at hm
      · obtain ⟨c1, h1, hm⟩ := Option.bind_eq_some_iff.1 hm
        obtain ⟨r, hr, hm⟩ := Option.bind_eq_some_iff.1 hm
        exact ⟨_, hm, LawV.reads (.cons (.as h1) .nil) (impl_owns_law k c1 r hr)⟩
      · cases hm
    · cases hg
      refine con_byVal fun ρ l K x hm => ?_
      split at hm
      · obtain ⟨c1, h1, hm⟩ := Option.bind_eq_some_iff.1 hm
        obtain ⟨r, hr, hm⟩ := Option.bind_eq_some_iff.1 hm
        exact ⟨_, hm, LawV.reads (.cons (.as h1) .nil) (impl_WordOk_law k c1 r hr)⟩
      · cases hm
    · cases hg
      refine con_byVal fun ρ l K x hm => ?_
      split at hm
      · obtain ⟨c1, h1, hm⟩ := Option.bind_eq_some_iff.1 hm
        obtain ⟨c2, h2, hm⟩ := Option.bind_eq_some_iff.1 hm
        obtain ⟨r, hr, hm⟩ := Option.bind_eq_some_iff.1 hm
        exact ⟨_, hm, LawV.reads (.cons (.as h1) (.cons (.as h2) .nil)) (impl_argsOk_law k c1 c2 r hr)⟩
      · cases hm
    · cases hg
      refine con_byVal fun ρ l K x hm => ?_
      split at hm
      · obtain ⟨c1, h1, hm⟩ := Option.bind_eq_some_iff.1 hm
        obtain ⟨c2, h2, hm⟩ := Option.bind_eq_some_iff.1 hm
        obtain ⟨r, hr, hm⟩ := Option.bind_eq_some_iff.1 hm
        exact ⟨_, hm, LawV.reads (.cons (.as h1) (.cons (.as h2) .nil)) (impl_owned_law k c1 c2 r hr)⟩
      · cases hm
    · cases hg
      refine con_byFresh fun ρ l K x hm => ?_
      split at hm
      · obtain ⟨c1, h1, hm⟩ := Option.bind_eq_some_iff.1 hm
        obtain ⟨r, hr, hm⟩ := Option.bind_eq_some_iff.1 hm
        exact ⟨_, hm, LawF.reads (.cons (.as h1) .nil) (impl_Sets_law k c1 r hr)⟩
      · cases hm
    · cases hg
      refine con_byVal fun ρ l K x hm => ?_
      split at hm
      · obtain ⟨c1, h1, hm⟩ := Option.bind_eq_some_iff.1 hm
        obtain ⟨r, hr, hm⟩ := Option.bind_eq_some_iff.1 hm
        exact ⟨_, hm, LawV.reads (.cons (.as h1) .nil) (impl_Uses_law k c1 r hr)⟩
      · cases hm
    · cases hg
      refine con_byVal fun ρ l K x hm => ?_
      split at hm
      · obtain ⟨c1, h1, hm⟩ := Option.bind_eq_some_iff.1 hm
        obtain ⟨c2, h2, hm⟩ := Option.bind_eq_some_iff.1 hm
        obtain ⟨r, hr, hm⟩ := Option.bind_eq_some_iff.1 hm
        exact ⟨_, hm, LawV.reads (.cons (.as h1) (.cons (.fn (.cons (.bp (.cons (.as h2) .nil)) .nil)) .nil)) (slices_ContainsFunc_int__impl_tacOk_1_law k c1 c2 r hr)⟩
      · cases hm
    · cases hg; exact noCon_ok
    · cases hg
  · intro g hg r
    by_cases h : g = 70
    · subst h; simp [E_impl_tacOk] at hg
    · simp [E_impl_tacOk, h]
theorem f70_okimpl_tacOk : Tryz.prog.funcs[70]? = some Tryz.f70 := by kernel_rfl
theorem impl_tacOk_law (k : Nat) (a1 : Int × Int × Int × Int × Int × ByteArray × (List Int) × Unit) (a2 : Int) (x : Bool) (h : impl_tacOk k a1 a2 = some x) : LawV Tryz.prog 70 [.tv (.pair (.int .i64) (.pair (.int .i64) (.pair (.int .i64) (.pair (.int .i64) (.pair (.int .i64) (.pair .str (.pair (.row (.int .i64)) .unit))))))) a1, .int .i64 a2] (tvn .bool x) := by
  unfold impl_tacOk at h
  exact law1 (t := .bool) (tyTOk _ _) (E_impl_tacOk_calls k) mixOk f70_okimpl_tacOk (nameOk _ _ f70_okimpl_tacOk) (by kernel_rfl) h
/-! impl.labelAt$1 -/
noncomputable def E_impl_labelAt_1_vbp (k : Nat) : Env := ⟨ty, fun _ => none, fun _ _ => none⟩
noncomputable def impl_labelAt_1_vbp (k : Nat) (a1 : Int × Int × Int × Int × Int × ByteArray × (List Int) × Unit) (a2 : Int) : Option (Bool) :=
  abody (E_impl_labelAt_1_vbp k) (arun Tryz.prog (E_impl_labelAt_1_vbp k) k) k 97 Tryz.f97 [.tv (.pair (.int .i64) (.pair (.int .i64) (.pair (.int .i64) (.pair (.int .i64) (.pair (.int .i64) (.pair .str (.pair (.row (.int .i64)) .unit))))))) a1, .bp [.int .i64 a2] 0] [] (fin1 .bool)
theorem impl_labelAt_1_vbp_e (k : Nat) (a1 : Int × Int × Int × Int × Int × ByteArray × (List Int) × Unit) (a2 : Int) : impl_labelAt_1_vbp k a1 a2 =
  iteB (a1.1 == 8) (some (a1.2.2.2.2.1 == a2)) (some false) := by kernel_rfl
theorem E_impl_labelAt_1_vbp_calls (k : Nat) : CallsOk Tryz.prog (E_impl_labelAt_1_vbp k) (arun Tryz.prog (E_impl_labelAt_1_vbp k) k) := by
  refine told_run (tyTOk _ _) ?_ (fun run h => regOk (tyTOk _ _) mixOk h) ?_ nameOk k
  · intro g m hg
    cases hg
  · intro g _ r; rfl
theorem f97_okimpl_labelAt_1_vbp : Tryz.prog.funcs[97]? = some Tryz.f97 := by kernel_rfl
theorem impl_labelAt_1_vbp_law (k : Nat) (a1 : Int × Int × Int × Int × Int × ByteArray × (List Int) × Unit) (a2 : Int) (x : Bool) (h : impl_labelAt_1_vbp k a1 a2 = some x) : LawV Tryz.prog 97 [.tv (.pair (.int .i64) (.pair (.int .i64) (.pair (.int .i64) (.pair (.int .i64) (.pair (.int .i64) (.pair .str (.pair (.row (.int .i64)) .unit))))))) a1, .bp [.int .i64 a2] 0] (tvn .bool x) := by
  unfold impl_labelAt_1_vbp at h
  exact law1 (t := .bool) (tyTOk _ _) (E_impl_labelAt_1_vbp_calls k) mixOk f97_okimpl_labelAt_1_vbp (nameOk _ _ f97_okimpl_labelAt_1_vbp) (by kernel_rfl) h
/-! slices.IndexFunc[[]impl.Tac,impl.Tac] -/
noncomputable def E_slices_IndexFunc_impl_Tac__impl_labelAt_1 (k : Nat) : Env := ⟨ty, fun g => match g with
  | 97 => some (byVal fun ρ l K => match l with
    | [b1, .bp [b2] 0] => (b1.as (.pair (.int .i64) (.pair (.int .i64) (.pair (.int .i64) (.pair (.int .i64) (.pair (.int .i64) (.pair .str (.pair (.row (.int .i64)) .unit)))))))).bind fun c1 => (b2.as (.int .i64)).bind fun c2 => (impl_labelAt_1_vbp k c1 c2).bind fun r => K (tvn .bool r)
    | _ => none)
  | 96 => some noCon
  | _ => none, fun f r => match f with | 96 => (match r with | 2 => some [0, 1, 7, 8] | _ => none) | _ => none⟩
noncomputable def slices_IndexFunc_impl_Tac__impl_labelAt_1 (k : Nat) (a1 : List (Int × Int × Int × Int × Int × ByteArray × (List Int) × Unit)) (a2 : Int) : Option (Int) :=
  abody (E_slices_IndexFunc_impl_Tac__impl_labelAt_1 k) (arun Tryz.prog (E_slices_IndexFunc_impl_Tac__impl_labelAt_1 k) k) k 96 Tryz.f96 [.tv (.row (.pair (.int .i64) (.pair (.int .i64) (.pair (.int .i64) (.pair (.int .i64) (.pair (.int .i64) (.pair .str (.pair (.row (.int .i64)) .unit)))))))) a1, .fn 97 [.bp [.int .i64 a2] 0]] [] (fin1 (.int .i64))
noncomputable def slices_IndexFunc_impl_Tac__impl_labelAt_1.l2 (k n : Nat) (x0 : List (Int × Int × Int × Int × Int × ByteArray × (List Int) × Unit)) (x1_0_0 : Int) (x7 : Int) (x8 : Int) : Option (Int) :=
  resume (E_slices_IndexFunc_impl_Tac__impl_labelAt_1 k) 96 (acall (E_slices_IndexFunc_impl_Tac__impl_labelAt_1 k) (arun Tryz.prog (E_slices_IndexFunc_impl_Tac__impl_labelAt_1 k) k)) k [true, false, true, true] [n] (bodyOf Tryz.f96) ⟨[.tv (.row (.pair (.int .i64) (.pair (.int .i64) (.pair (.int .i64) (.pair (.int .i64) (.pair (.int .i64) (.pair .str (.pair (.row (.int .i64)) .unit)))))))) x0, .fn 97 [.bp [.int .i64 x1_0_0] 0], .undef, .undef, .undef, .undef, .undef, .int .i64 x7, .int .i64 x8, .undef, .undef, .undef, .undef, .undef, .undef, .undef, .undef, .undef, .undef], []⟩ (leave (E_slices_IndexFunc_impl_Tac__impl_labelAt_1 k) Tryz.f96 (fin1 (.int .i64)))
theorem slices_IndexFunc_impl_Tac__impl_labelAt_1.l2_0 (k : Nat) (x0 : List (Int × Int × Int × Int × Int × ByteArray × (List Int) × Unit)) (x1_0_0 : Int) (x7 : Int) (x8 : Int) : slices_IndexFunc_impl_Tac__impl_labelAt_1.l2 k 0 x0 x1_0_0 x7 x8 = none := by kernel_rfl
theorem slices_IndexFunc_impl_Tac__impl_labelAt_1.l2_s (k n : Nat) (x0 : List (Int × Int × Int × Int × Int × ByteArray × (List Int) × Unit)) (x1_0_0 : Int) (x7 : Int) (x8 : Int) : slices_IndexFunc_impl_Tac__impl_labelAt_1.l2 k (n + 1) x0 x1_0_0 x7 x8 =
  iteB (decide (x8 < x7)) (iteB (decide (0 ≤ x8)) (iteB (decide (x8 < ((List.length x0) : Int))) (bindO (impl_labelAt_1_vbp k (List.getD x0 (Int.toNat x8) (Ty.dflt (.pair (.int .i64) (.pair (.int .i64) (.pair (.int .i64) (.pair (.int .i64) (.pair (.int .i64) (.pair .str (.pair (.row (.int .i64)) .unit))))))))) x1_0_0) fun r1 => (iteB r1 (some x8) (slices_IndexFunc_impl_Tac__impl_labelAt_1.l2 k n x0 x1_0_0 x7 (IntKind.wrap .i64 (x8 + 1))))) (none)) (none)) (some (-1)) := by kernel_rfl
theorem slices_IndexFunc_impl_Tac__impl_labelAt_1_e (k : Nat) (a1 : List (Int × Int × Int × Int × Int × ByteArray × (List Int) × Unit)) (a2 : Int) : slices_IndexFunc_impl_Tac__impl_labelAt_1 k a1 a2 =
  slices_IndexFunc_impl_Tac__impl_labelAt_1.l2 k k a1 a2 ((List.length a1) : Int) 0 := by kernel_rfl
theorem E_slices_IndexFunc_impl_Tac__impl_labelAt_1_calls (k : Nat) : CallsOk Tryz.prog (E_slices_IndexFunc_impl_Tac__impl_labelAt_1 k) (arun Tryz.prog (E_slices_IndexFunc_impl_Tac__impl_labelAt_1 k) k) := by
  refine told_run (tyTOk _ _) ?_ (fun run h => regOk (tyTOk _ _) mixOk h) ?_ nameOk k
  · intro g m hg
    simp only [E_slices_IndexFunc_impl_Tac__impl_labelAt_1] at hg
    split at hg
    · cases hg
      refine con_byVal fun ρ l K x hm => ?_
      split at hm
      · obtain ⟨c1, h1, hm⟩ := Option.bind_eq_some_iff.1 hm
        obtain ⟨c2, h2, hm⟩ := Option.bind_eq_some_iff.1 hm
        obtain ⟨r, hr, hm⟩ := Option.bind_eq_some_iff.1 hm
        exact ⟨_, hm, LawV.reads (.cons (.as h1) (.cons (.bp (.cons (.as h2) .nil)) .nil)) (impl_labelAt_1_vbp_law k c1 c2 r hr)⟩
      · cases hm
    · cases hg; exact noCon_ok
    · cases hg
  · intro g hg r
    by_cases h : g = 96
    · subst h; simp [E_slices_IndexFunc_impl_Tac__impl_labelAt_1] at hg
    · simp [E_slices_IndexFunc_impl_Tac__impl_labelAt_1, h]
theorem f96_okslices_IndexFunc_impl_Tac__impl_labelAt_1 : Tryz.prog.funcs[96]? = some Tryz.f96 := by kernel_rfl
theorem slices_IndexFunc_impl_Tac__impl_labelAt_1_law (k : Nat) (a1 : List (Int × Int × Int × Int × Int × ByteArray × (List Int) × Unit)) (a2 : Int) (x : Int) (h : slices_IndexFunc_impl_Tac__impl_labelAt_1 k a1 a2 = some x) : LawV Tryz.prog 96 [.tv (.row (.pair (.int .i64) (.pair (.int .i64) (.pair (.int .i64) (.pair (.int .i64) (.pair (.int .i64) (.pair .str (.pair (.row (.int .i64)) .unit)))))))) a1, .fn 97 [.bp [.int .i64 a2] 0]] (tvn (.int .i64) x) := by
  unfold slices_IndexFunc_impl_Tac__impl_labelAt_1 at h
  exact law1 (t := (.int .i64)) (tyTOk _ _) (E_slices_IndexFunc_impl_Tac__impl_labelAt_1_calls k) mixOk f96_okslices_IndexFunc_impl_Tac__impl_labelAt_1 (nameOk _ _ f96_okslices_IndexFunc_impl_Tac__impl_labelAt_1) (by kernel_rfl) h
/-! impl.labelAt -/
noncomputable def E_impl_labelAt (k : Nat) : Env := ⟨ty, fun g => match g with
  | 96 => some (byVal fun ρ l K => match l with
    | [b1, .fn 97 [.bp [b2] 0]] => (b1.as (.row (.pair (.int .i64) (.pair (.int .i64) (.pair (.int .i64) (.pair (.int .i64) (.pair (.int .i64) (.pair .str (.pair (.row (.int .i64)) .unit))))))))).bind fun c1 => (b2.as (.int .i64)).bind fun c2 => (slices_IndexFunc_impl_Tac__impl_labelAt_1 k c1 c2).bind fun r => K (tvn (.int .i64) r)
    | _ => none)
  | _ => none, fun _ _ => none⟩
noncomputable def impl_labelAt (k : Nat) (a1 : List (Int × Int × Int × Int × Int × ByteArray × (List Int) × Unit)) (a2 : Int) : Option (Int) :=
  abody (E_impl_labelAt k) (arun Tryz.prog (E_impl_labelAt k) k) k 71 Tryz.f71 [.tv (.row (.pair (.int .i64) (.pair (.int .i64) (.pair (.int .i64) (.pair (.int .i64) (.pair (.int .i64) (.pair .str (.pair (.row (.int .i64)) .unit)))))))) a1, .int .i64 a2] [] (fin1 (.int .i64))
theorem impl_labelAt_e (k : Nat) (a1 : List (Int × Int × Int × Int × Int × ByteArray × (List Int) × Unit)) (a2 : Int) : impl_labelAt k a1 a2 =
  bindO (slices_IndexFunc_impl_Tac__impl_labelAt_1 k a1 a2) fun r1 => (some r1) := by kernel_rfl
theorem E_impl_labelAt_calls (k : Nat) : CallsOk Tryz.prog (E_impl_labelAt k) (arun Tryz.prog (E_impl_labelAt k) k) := by
  refine told_run (tyTOk _ _) ?_ (fun run h => regOk (tyTOk _ _) mixOk h) ?_ nameOk k
  · intro g m hg
    simp only [E_impl_labelAt] at hg
    split at hg
    · cases hg
      refine con_byVal fun ρ l K x hm => ?_
      split at hm
      · obtain ⟨c1, h1, hm⟩ := Option.bind_eq_some_iff.1 hm
        obtain ⟨c2, h2, hm⟩ := Option.bind_eq_some_iff.1 hm
        obtain ⟨r, hr, hm⟩ := Option.bind_eq_some_iff.1 hm
        exact ⟨_, hm, LawV.reads (.cons (.as h1) (.cons (.fn (.cons (.bp (.cons (.as h2) .nil)) .nil)) .nil)) (slices_IndexFunc_impl_Tac__impl_labelAt_1_law k c1 c2 r hr)⟩
      · cases hm
    · cases hg
  · intro g _ r; rfl
theorem f71_okimpl_labelAt : Tryz.prog.funcs[71]? = some Tryz.f71 := by kernel_rfl
theorem impl_labelAt_law (k : Nat) (a1 : List (Int × Int × Int × Int × Int × ByteArray × (List Int) × Unit)) (a2 : Int) (x : Int) (h : impl_labelAt k a1 a2 = some x) : LawV Tryz.prog 71 [.tv (.row (.pair (.int .i64) (.pair (.int .i64) (.pair (.int .i64) (.pair (.int .i64) (.pair (.int .i64) (.pair .str (.pair (.row (.int .i64)) .unit)))))))) a1, .int .i64 a2] (tvn (.int .i64) x) := by
  unfold impl_labelAt at h
  exact law1 (t := (.int .i64)) (tyTOk _ _) (E_impl_labelAt_calls k) mixOk f71_okimpl_labelAt (nameOk _ _ f71_okimpl_labelAt) (by kernel_rfl) h
/-! impl.ends -/
noncomputable def E_impl_ends (k : Nat) : Env := ⟨ty, fun _ => none, fun _ _ => none⟩
noncomputable def impl_ends (k : Nat) (a1 : Int) : Option (Bool) :=
  abody (E_impl_ends k) (arun Tryz.prog (E_impl_ends k) k) k 72 Tryz.f72 [.int .i64 a1] [] (fin1 .bool)
theorem impl_ends_e (k : Nat) (a1 : Int) : impl_ends k a1 =
  iteB (!(a1 == 12)) (iteB (!(a1 == 9)) (some (a1 == 28)) (some true)) (some true) := by kernel_rfl
theorem E_impl_ends_calls (k : Nat) : CallsOk Tryz.prog (E_impl_ends k) (arun Tryz.prog (E_impl_ends k) k) := by
  refine told_run (tyTOk _ _) ?_ (fun run h => regOk (tyTOk _ _) mixOk h) ?_ nameOk k
  · intro g m hg
    cases hg
  · intro g _ r; rfl
theorem f72_okimpl_ends : Tryz.prog.funcs[72]? = some Tryz.f72 := by kernel_rfl
theorem impl_ends_law (k : Nat) (a1 : Int) (x : Bool) (h : impl_ends k a1 = some x) : LawV Tryz.prog 72 [.int .i64 a1] (tvn .bool x) := by
  unfold impl_ends at h
  exact law1 (t := .bool) (tyTOk _ _) (E_impl_ends_calls k) mixOk f72_okimpl_ends (nameOk _ _ f72_okimpl_ends) (by kernel_rfl) h
/-! impl.UnitOk -/
noncomputable def E_impl_UnitOk (k : Nat) : Env := ⟨ty, fun g => match g with
  | 24 => some (byVal fun ρ l K => match l with
    | [b1, b2, b3] => (b1.as (.int .i64)).bind fun c1 => (b2.as (.int .i64)).bind fun c2 => (b3.as (.int .i64)).bind fun c3 => (impl_within k c1 c2 c3).bind fun r => K (tvn .bool r)
    | _ => none)
  | 70 => some (byVal fun ρ l K => match l with
    | [b1, b2] => (b1.as (.pair (.int .i64) (.pair (.int .i64) (.pair (.int .i64) (.pair (.int .i64) (.pair (.int .i64) (.pair .str (.pair (.row (.int .i64)) .unit)))))))).bind fun c1 => (b2.as (.int .i64)).bind fun c2 => (impl_tacOk k c1 c2).bind fun r => K (tvn .bool r)
    | _ => none)
  | 71 => some (byVal fun ρ l K => match l with
    | [b1, b2] => (b1.as (.row (.pair (.int .i64) (.pair (.int .i64) (.pair (.int .i64) (.pair (.int .i64) (.pair (.int .i64) (.pair .str (.pair (.row (.int .i64)) .unit))))))))).bind fun c1 => (b2.as (.int .i64)).bind fun c2 => (impl_labelAt k c1 c2).bind fun r => K (tvn (.int .i64) r)
    | _ => none)
  | 72 => some (byVal fun ρ l K => match l with
    | [b1] => (b1.as (.int .i64)).bind fun c1 => (impl_ends k c1).bind fun r => K (tvn .bool r)
    | _ => none)
  | 46 => some noCon
  | _ => none, fun f r => match f with | 46 => (match r with | 3 => some [1] | 4 => some [1, 26, 27, 28] | _ => none) | _ => none⟩
noncomputable def impl_UnitOk (k : Nat) (a1 : ByteArray × Int × Int × (List (Int × Int × Int × Int × Int × ByteArray × (List Int) × Unit)) × Unit) : Option (Bool) :=
  abody (E_impl_UnitOk k) (arun Tryz.prog (E_impl_UnitOk k) k) k 46 Tryz.f46 [.tv (.pair .str (.pair (.int .i64) (.pair (.int .i64) (.pair (.row (.pair (.int .i64) (.pair (.int .i64) (.pair (.int .i64) (.pair (.int .i64) (.pair (.int .i64) (.pair .str (.pair (.row (.int .i64)) .unit)))))))) .unit)))) a1] [] (fin1 .bool)
noncomputable def impl_UnitOk.j3 (k : Nat) (y0_0 : ByteArray × Int × Int × (List (Int × Int × Int × Int × Int × ByteArray × (List Int) × Unit)) × Unit) : Option (Bool) :=
  resume (E_impl_UnitOk k) 46 (acall (E_impl_UnitOk k) (arun Tryz.prog (E_impl_UnitOk k) k)) k [true, true] [] (bodyOf Tryz.f46) ⟨[.undef, .ptr 0 0 0, .undef, .undef, .undef, .undef, .undef, .undef, .undef, .undef, .undef, .undef, .undef, .undef, .undef, .undef, .undef, .undef, .undef, .undef, .undef, .undef, .undef, .undef, .undef, .undef, .undef, .undef, .undef, .undef, .undef, .undef, .undef, .undef, .undef, .undef, .undef, .undef, .undef, .undef, .undef, .undef, .undef, .undef, .undef, .undef, .undef, .undef, .undef, .undef, .undef, .undef, .undef, .undef, .undef, .undef, .undef, .undef, .undef, .undef, .undef, .undef, .undef, .undef, .undef, .undef, .undef, .undef, .undef, .undef, .undef, .undef, .undef, .undef, .undef, .undef, .undef, .undef, .undef, .undef, .undef, .undef, .undef, .undef, .undef, .undef], [some ⟨.raw true 4 (.agg [.str ByteArray.empty, .int .i64 0, .int .i64 0, .nils]) [.tv (.pair .str (.pair (.int .i64) (.pair (.int .i64) (.pair (.row (.pair (.int .i64) (.pair (.int .i64) (.pair (.int .i64) (.pair (.int .i64) (.pair (.int .i64) (.pair .str (.pair (.row (.int .i64)) .unit)))))))) .unit)))) y0_0], true⟩]⟩ (leave (E_impl_UnitOk k) Tryz.f46 (fin1 .bool))
noncomputable def impl_UnitOk.l4 (k n : Nat) (x26 : List (Int × Int × Int × Int × Int × ByteArray × (List Int) × Unit)) (x27 : Int) (x28 : Int) (y0_0 : ByteArray × Int × Int × (List (Int × Int × Int × Int × Int × ByteArray × (List Int) × Unit)) × Unit) : Option (Bool) :=
  resume (E_impl_UnitOk k) 46 (acall (E_impl_UnitOk k) (arun Tryz.prog (E_impl_UnitOk k) k)) k [true, true, false, true, true] [n] (bodyOf Tryz.f46) ⟨[.undef, .ptr 0 0 0, .undef, .undef, .undef, .undef, .undef, .undef, .undef, .undef, .undef, .undef, .undef, .undef, .undef, .undef, .undef, .undef, .undef, .undef, .undef, .undef, .undef, .undef, .undef, .undef, .tv (.row (.pair (.int .i64) (.pair (.int .i64) (.pair (.int .i64) (.pair (.int .i64) (.pair (.int .i64) (.pair .str (.pair (.row (.int .i64)) .unit)))))))) x26, .int .i64 x27, .int .i64 x28, .undef, .undef, .undef, .undef, .undef, .undef, .undef, .undef, .undef, .undef, .undef, .undef, .undef, .undef, .undef, .undef, .undef, .undef, .undef, .undef, .undef, .undef, .undef, .undef, .undef, .undef, .undef, .undef, .undef, .undef, .undef, .undef, .undef, .undef, .undef, .undef, .undef, .undef, .undef, .undef, .undef, .undef, .undef, .undef, .undef, .undef, .undef, .undef, .undef, .undef, .undef, .undef, .undef, .undef, .undef, .undef, .undef], [some ⟨.raw true 4 (.agg [.str ByteArray.empty, .int .i64 0, .int .i64 0, .nils]) [.tv (.pair .str (.pair (.int .i64) (.pair (.int .i64) (.pair (.row (.pair (.int .i64) (.pair (.int .i64) (.pair (.int .i64) (.pair (.int .i64) (.pair (.int .i64) (.pair .str (.pair (.row (.int .i64)) .unit)))))))) .unit)))) y0_0], true⟩]⟩ (leave (E_impl_UnitOk k) Tryz.f46 (fin1 .bool))
theorem impl_UnitOk.j3_e (k : Nat) (y0_0 : ByteArray × Int × Int × (List (Int × Int × Int × Int × Int × ByteArray × (List Int) × Unit)) × Unit) : impl_UnitOk.j3 k y0_0 =
  impl_UnitOk.l4 k k y0_0.2.2.2.1 ((List.length y0_0.2.2.2.1) : Int) 0 y0_0 := by kernel_rfl
theorem impl_UnitOk.l4_0 (k : Nat) (x26 : List (Int × Int × Int × Int × Int × ByteArray × (List Int) × Unit)) (x27 : Int) (x28 : Int) (y0_0 : ByteArray × Int × Int × (List (Int × Int × Int × Int × Int × ByteArray × (List Int) × Unit)) × Unit) : impl_UnitOk.l4 k 0 x26 x27 x28 y0_0 = none := by kernel_rfl
theorem impl_UnitOk.l4_s (k n : Nat) (x26 : List (Int × Int × Int × Int × Int × ByteArray × (List Int) × Unit)) (x27 : Int) (x28 : Int) (y0_0 : ByteArray × Int × Int × (List (Int × Int × Int × Int × Int × ByteArray × (List Int) × Unit)) × Unit) : impl_UnitOk.l4 k (n + 1) x26 x27 x28 y0_0 =
  iteB (decide (x28 < x27)) (iteB (decide (0 ≤ x28)) (iteB (decide (x28 < ((List.length x26) : Int))) (bindO (impl_tacOk k (List.getD x26 (Int.toNat x28) (Ty.dflt (.pair (.int .i64) (.pair (.int .i64) (.pair (.int .i64) (.pair (.int .i64) (.pair (.int .i64) (.pair .str (.pair (.row (.int .i64)) .unit))))))))) y0_0.2.2.1) fun r4 => (iteB (!r4) (some false) (iteB (((List.getD x26 (Int.toNat x28) (Ty.dflt (.pair (.int .i64) (.pair (.int .i64) (.pair (.int .i64) (.pair (.int .i64) (.pair (.int .i64) (.pair .str (.pair (.row (.int .i64)) .unit))))))))).1) == 8) (bindO (impl_within k ((((((List.getD x26 (Int.toNat x28) (Ty.dflt (.pair (.int .i64) (.pair (.int .i64) (.pair (.int .i64) (.pair (.int .i64) (.pair (.int .i64) (.pair .str (.pair (.row (.int .i64)) .unit))))))))).2).2).2).2).1) 0 900) fun r5 => (iteB (!(!r5)) (bindO (impl_labelAt k y0_0.2.2.2.1 ((((((List.getD x26 (Int.toNat x28) (Ty.dflt (.pair (.int .i64) (.pair (.int .i64) (.pair (.int .i64) (.pair (.int .i64) (.pair (.int .i64) (.pair .str (.pair (.row (.int .i64)) .unit))))))))).2).2).2).2).1)) fun r6 => (iteB (r6 != x28) (some false) (iteB (!(((List.getD x26 (Int.toNat x28) (Ty.dflt (.pair (.int .i64) (.pair (.int .i64) (.pair (.int .i64) (.pair (.int .i64) (.pair (.int .i64) (.pair .str (.pair (.row (.int .i64)) .unit))))))))).1) == 9)) (iteB (((List.getD x26 (Int.toNat x28) (Ty.dflt (.pair (.int .i64) (.pair (.int .i64) (.pair (.int .i64) (.pair (.int .i64) (.pair (.int .i64) (.pair .str (.pair (.row (.int .i64)) .unit))))))))).1) == 10) (bindO (impl_labelAt k y0_0.2.2.2.1 ((((((List.getD x26 (Int.toNat x28) (Ty.dflt (.pair (.int .i64) (.pair (.int .i64) (.pair (.int .i64) (.pair (.int .i64) (.pair (.int .i64) (.pair .str (.pair (.row (.int .i64)) .unit))))))))).2).2).2).2).1)) fun r7 => (iteB (decide (r7 < 0)) (some false) (impl_UnitOk.l4 k n x26 x27 (IntKind.wrap .i64 (x28 + 1)) y0_0))) (impl_UnitOk.l4 k n x26 x27 (IntKind.wrap .i64 (x28 + 1)) y0_0)) (bindO (impl_labelAt k y0_0.2.2.2.1 ((((((List.getD x26 (Int.toNat x28) (Ty.dflt (.pair (.int .i64) (.pair (.int .i64) (.pair (.int .i64) (.pair (.int .i64) (.pair (.int .i64) (.pair .str (.pair (.row (.int .i64)) .unit))))))))).2).2).2).2).1)) fun r8 => (iteB (decide (r8 < 0)) (some false) (impl_UnitOk.l4 k n x26 x27 (IntKind.wrap .i64 (x28 + 1)) y0_0)))))) (some false))) (iteB (!(((List.getD x26 (Int.toNat x28) (Ty.dflt (.pair (.int .i64) (.pair (.int .i64) (.pair (.int .i64) (.pair (.int .i64) (.pair (.int .i64) (.pair .str (.pair (.row (.int .i64)) .unit))))))))).1) == 9)) (iteB (((List.getD x26 (Int.toNat x28) (Ty.dflt (.pair (.int .i64) (.pair (.int .i64) (.pair (.int .i64) (.pair (.int .i64) (.pair (.int .i64) (.pair .str (.pair (.row (.int .i64)) .unit))))))))).1) == 10) (bindO (impl_labelAt k y0_0.2.2.2.1 ((((((List.getD x26 (Int.toNat x28) (Ty.dflt (.pair (.int .i64) (.pair (.int .i64) (.pair (.int .i64) (.pair (.int .i64) (.pair (.int .i64) (.pair .str (.pair (.row (.int .i64)) .unit))))))))).2).2).2).2).1)) fun r9 => (iteB (decide (r9 < 0)) (some false) (impl_UnitOk.l4 k n x26 x27 (IntKind.wrap .i64 (x28 + 1)) y0_0))) (impl_UnitOk.l4 k n x26 x27 (IntKind.wrap .i64 (x28 + 1)) y0_0)) (bindO (impl_labelAt k y0_0.2.2.2.1 ((((((List.getD x26 (Int.toNat x28) (Ty.dflt (.pair (.int .i64) (.pair (.int .i64) (.pair (.int .i64) (.pair (.int .i64) (.pair (.int .i64) (.pair .str (.pair (.row (.int .i64)) .unit))))))))).2).2).2).2).1)) fun r10 => (iteB (decide (r10 < 0)) (some false) (impl_UnitOk.l4 k n x26 x27 (IntKind.wrap .i64 (x28 + 1)) y0_0))))))) (none)) (none)) (iteB (decide (0 ≤ IntKind.wrap .i64 (((List.length y0_0.2.2.2.1) : Int) - 1))) (iteB (decide (IntKind.wrap .i64 (((List.length y0_0.2.2.2.1) : Int) - 1) < ((List.length y0_0.2.2.2.1) : Int))) (bindO (impl_ends k ((List.getD y0_0.2.2.2.1 (Int.toNat (IntKind.wrap .i64 (((List.length y0_0.2.2.2.1) : Int) - 1))) (Ty.dflt (.pair (.int .i64) (.pair (.int .i64) (.pair (.int .i64) (.pair (.int .i64) (.pair (.int .i64) (.pair .str (.pair (.row (.int .i64)) .unit))))))))).1)) fun r11 => (some r11)) (none)) (none)) := by kernel_rfl
theorem impl_UnitOk_e (k : Nat) (a1 : ByteArray × Int × Int × (List (Int × Int × Int × Int × Int × ByteArray × (List Int) × Unit)) × Unit) : impl_UnitOk k a1 =
  bindO (impl_within k a1.2.2.1 0 250) fun r1 => (iteB (!(!r1)) (bindO (impl_within k a1.2.1 0 (mn 4 a1.2.2.1)) fun r2 => (iteB (!(!r2)) (bindO (impl_within k ((List.length a1.2.2.2.1) : Int) 1 900) fun r3 => (iteB (!r3) (some false) (gate k (impl_UnitOk.j3 k a1)))) (some false))) (some false)) := by kernel_rfl
theorem E_impl_UnitOk_calls (k : Nat) : CallsOk Tryz.prog (E_impl_UnitOk k) (arun Tryz.prog (E_impl_UnitOk k) k) := by
  refine told_run (tyTOk _ _) ?_ (fun run h => regOk (tyTOk _ _) mixOk h) ?_ nameOk k
  · intro g m hg
    simp only [E_impl_UnitOk] at hg
    split at hg
    · cases hg
      refine con_byVal fun ρ l K x hm => ?_
      split at hm
      · obtain ⟨c1, h1, hm⟩ := Option.bind_eq_some_iff.1 hm
        obtain ⟨c2, h2, hm⟩ := Option.bind_eq_some_iff.1 hm
        obtain ⟨c3, h3, hm⟩ := Option.bind_eq_some_iff.1 hm
        obtain ⟨r, hr, hm⟩ := Option.bind_eq_some_iff.1 hm
        exact ⟨_, hm, LawV.reads (.cons (.as h1) (.cons (.as h2) (.cons (.as h3) .nil))) (impl_within_law k c1 c2 c3 r hr)⟩
      · cases hm
    · cases hg
      refine con_byVal fun ρ l K x hm => ?_
      split at hm
      · obtain ⟨c1, h1, hm⟩ := Option.bind_eq_some_iff.1 hm
        obtain ⟨c2, h2, hm⟩ := Option.bind_eq_some_iff.1 hm
        obtain ⟨r, hr, hm⟩ := Option.bind_eq_some_iff.1 hm
        exact ⟨_, hm, LawV.reads (.cons (.as h1) (.cons (.as h2) .nil)) (impl_tacOk_law k c1 c2 r hr)⟩
      · cases hm
    · cases hg
      refine con_byVal fun ρ l K x hm => ?_
      split at hm
      · obtain ⟨c1, h1, hm⟩ := Option.bind_eq_some_iff.1 hm
        obtain ⟨c2, h2, hm⟩ := Option.bind_eq_some_iff.1 hm
        obtain ⟨r, hr, hm⟩ := Option.bind_eq_some_iff.1 hm
        exact ⟨_, hm, LawV.reads (.cons (.as h1) (.cons (.as h2) .nil)) (impl_labelAt_law k c1 c2 r hr)⟩
      · cases hm
    · cases hg
      refine con_byVal fun ρ l K x hm => ?_
      split at hm
      · obtain ⟨c1, h1, hm⟩ := Option.bind_eq_some_iff.1 hm
        obtain ⟨r, hr, hm⟩ := Option.bind_eq_some_iff.1 hm
        exact ⟨_, hm, LawV.reads (.cons (.as h1) .nil) (impl_ends_law k c1 r hr)⟩
      · cases hm
    · cases hg; exact noCon_ok
    · cases hg
  · intro g hg r
    by_cases h : g = 46
    · subst h; simp [E_impl_UnitOk] at hg
    · simp [E_impl_UnitOk, h]
theorem f46_okimpl_UnitOk : Tryz.prog.funcs[46]? = some Tryz.f46 := by kernel_rfl
theorem impl_UnitOk_law (k : Nat) (a1 : ByteArray × Int × Int × (List (Int × Int × Int × Int × Int × ByteArray × (List Int) × Unit)) × Unit) (x : Bool) (h : impl_UnitOk k a1 = some x) : LawV Tryz.prog 46 [.tv (.pair .str (.pair (.int .i64) (.pair (.int .i64) (.pair (.row (.pair (.int .i64) (.pair (.int .i64) (.pair (.int .i64) (.pair (.int .i64) (.pair (.int .i64) (.pair .str (.pair (.row (.int .i64)) .unit)))))))) .unit)))) a1] (tvn .bool x) := by
  unfold impl_UnitOk at h
  exact law1 (t := .bool) (tyTOk _ _) (E_impl_UnitOk_calls k) mixOk f46_okimpl_UnitOk (nameOk _ _ f46_okimpl_UnitOk) (by kernel_rfl) h
/-! impl.unitAt$1 -/
noncomputable def E_impl_unitAt_1_vbp (k : Nat) : Env := ⟨ty, fun _ => none, fun _ _ => none⟩
noncomputable def impl_unitAt_1_vbp (k : Nat) (a1 : ByteArray × Int × Int × (List (Int × Int × Int × Int × Int × ByteArray × (List Int) × Unit)) × Unit) (a2 : ByteArray) : Option (Bool) :=
  abody (E_impl_unitAt_1_vbp k) (arun Tryz.prog (E_impl_unitAt_1_vbp k) k) k 74 Tryz.f74 [.tv (.pair .str (.pair (.int .i64) (.pair (.int .i64) (.pair (.row (.pair (.int .i64) (.pair (.int .i64) (.pair (.int .i64) (.pair (.int .i64) (.pair (.int .i64) (.pair .str (.pair (.row (.int .i64)) .unit)))))))) .unit)))) a1, .bp [.str a2] 0] [] (fin1 .bool)
theorem impl_unitAt_1_vbp_e (k : Nat) (a1 : ByteArray × Int × Int × (List (Int × Int × Int × Int × Int × ByteArray × (List Int) × Unit)) × Unit) (a2 : ByteArray) : impl_unitAt_1_vbp k a1 a2 =
  some (ByteArray.toList a1.1 == ByteArray.toList a2) := by kernel_rfl
theorem E_impl_unitAt_1_vbp_calls (k : Nat) : CallsOk Tryz.prog (E_impl_unitAt_1_vbp k) (arun Tryz.prog (E_impl_unitAt_1_vbp k) k) := by
  refine told_run (tyTOk _ _) ?_ (fun run h => regOk (tyTOk _ _) mixOk h) ?_ nameOk k
  · intro g m hg
    cases hg
  · intro g _ r; rfl
theorem f74_okimpl_unitAt_1_vbp : Tryz.prog.funcs[74]? = some Tryz.f74 := by kernel_rfl
theorem impl_unitAt_1_vbp_law (k : Nat) (a1 : ByteArray × Int × Int × (List (Int × Int × Int × Int × Int × ByteArray × (List Int) × Unit)) × Unit) (a2 : ByteArray) (x : Bool) (h : impl_unitAt_1_vbp k a1 a2 = some x) : LawV Tryz.prog 74 [.tv (.pair .str (.pair (.int .i64) (.pair (.int .i64) (.pair (.row (.pair (.int .i64) (.pair (.int .i64) (.pair (.int .i64) (.pair (.int .i64) (.pair (.int .i64) (.pair .str (.pair (.row (.int .i64)) .unit)))))))) .unit)))) a1, .bp [.str a2] 0] (tvn .bool x) := by
  unfold impl_unitAt_1_vbp at h
  exact law1 (t := .bool) (tyTOk _ _) (E_impl_unitAt_1_vbp_calls k) mixOk f74_okimpl_unitAt_1_vbp (nameOk _ _ f74_okimpl_unitAt_1_vbp) (by kernel_rfl) h
/-! slices.IndexFunc[[]impl.Unit,impl.Unit] -/
noncomputable def E_slices_IndexFunc_impl_Unit__impl_unitAt_1 (k : Nat) : Env := ⟨ty, fun g => match g with
  | 74 => some (byVal fun ρ l K => match l with
    | [b1, .bp [b2] 0] => (b1.as (.pair .str (.pair (.int .i64) (.pair (.int .i64) (.pair (.row (.pair (.int .i64) (.pair (.int .i64) (.pair (.int .i64) (.pair (.int .i64) (.pair (.int .i64) (.pair .str (.pair (.row (.int .i64)) .unit)))))))) .unit))))).bind fun c1 => (b2.as .str).bind fun c2 => (impl_unitAt_1_vbp k c1 c2).bind fun r => K (tvn .bool r)
    | _ => none)
  | 73 => some noCon
  | _ => none, fun f r => match f with | 73 => (match r with | 2 => some [0, 1, 7, 8] | _ => none) | _ => none⟩
noncomputable def slices_IndexFunc_impl_Unit__impl_unitAt_1 (k : Nat) (a1 : List (ByteArray × Int × Int × (List (Int × Int × Int × Int × Int × ByteArray × (List Int) × Unit)) × Unit)) (a2 : ByteArray) : Option (Int) :=
  abody (E_slices_IndexFunc_impl_Unit__impl_unitAt_1 k) (arun Tryz.prog (E_slices_IndexFunc_impl_Unit__impl_unitAt_1 k) k) k 73 Tryz.f73 [.tv (.row (.pair .str (.pair (.int .i64) (.pair (.int .i64) (.pair (.row (.pair (.int .i64) (.pair (.int .i64) (.pair (.int .i64) (.pair (.int .i64) (.pair (.int .i64) (.pair .str (.pair (.row (.int .i64)) .unit)))))))) .unit))))) a1, .fn 74 [.bp [.str a2] 0]] [] (fin1 (.int .i64))
noncomputable def slices_IndexFunc_impl_Unit__impl_unitAt_1.l2 (k n : Nat) (x0 : List (ByteArray × Int × Int × (List (Int × Int × Int × Int × Int × ByteArray × (List Int) × Unit)) × Unit)) (x1_0_0 : ByteArray) (x7 : Int) (x8 : Int) : Option (Int) :=
  resume (E_slices_IndexFunc_impl_Unit__impl_unitAt_1 k) 73 (acall (E_slices_IndexFunc_impl_Unit__impl_unitAt_1 k) (arun Tryz.prog (E_slices_IndexFunc_impl_Unit__impl_unitAt_1 k) k)) k [true, false, true, true] [n] (bodyOf Tryz.f73) ⟨[.tv (.row (.pair .str (.pair (.int .i64) (.pair (.int .i64) (.pair (.row (.pair (.int .i64) (.pair (.int .i64) (.pair (.int .i64) (.pair (.int .i64) (.pair (.int .i64) (.pair .str (.pair (.row (.int .i64)) .unit)))))))) .unit))))) x0, .fn 74 [.bp [.str x1_0_0] 0], .undef, .undef, .undef, .undef, .undef, .int .i64 x7, .int .i64 x8, .undef, .undef, .undef, .undef, .undef, .undef, .undef, .undef, .undef, .undef], []⟩ (leave (E_slices_IndexFunc_impl_Unit__impl_unitAt_1 k) Tryz.f73 (fin1 (.int .i64)))
theorem slices_IndexFunc_impl_Unit__impl_unitAt_1.l2_0 (k : Nat) (x0 : List (ByteArray × Int × Int × (List (Int × Int × Int × Int × Int × ByteArray × (List Int) × Unit)) × Unit)) (x1_0_0 : ByteArray) (x7 : Int) (x8 : Int) : slices_IndexFunc_impl_Unit__impl_unitAt_1.l2 k 0 x0 x1_0_0 x7 x8 = none := by kernel_rfl
theorem slices_IndexFunc_impl_Unit__impl_unitAt_1.l2_s (k n : Nat) (x0 : List (ByteArray × Int × Int × (List (Int × Int × Int × Int × Int × ByteArray × (List Int) × Unit)) × Unit)) (x1_0_0 : ByteArray) (x7 : Int) (x8 : Int) : slices_IndexFunc_impl_Unit__impl_unitAt_1.l2 k (n + 1) x0 x1_0_0 x7 x8 =
  iteB (decide (x8 < x7)) (iteB (decide (0 ≤ x8)) (iteB (decide (x8 < ((List.length x0) : Int))) (bindO (impl_unitAt_1_vbp k (List.getD x0 (Int.toNat x8) (Ty.dflt (.pair .str (.pair (.int .i64) (.pair (.int .i64) (.pair (.row (.pair (.int .i64) (.pair (.int .i64) (.pair (.int .i64) (.pair (.int .i64) (.pair (.int .i64) (.pair .str (.pair (.row (.int .i64)) .unit)))))))) .unit)))))) x1_0_0) fun r1 => (iteB r1 (some x8) (slices_IndexFunc_impl_Unit__impl_unitAt_1.l2 k n x0 x1_0_0 x7 (IntKind.wrap .i64 (x8 + 1))))) (none)) (none)) (some (-1)) := by kernel_rfl
theorem slices_IndexFunc_impl_Unit__impl_unitAt_1_e (k : Nat) (a1 : List (ByteArray × Int × Int × (List (Int × Int × Int × Int × Int × ByteArray × (List Int) × Unit)) × Unit)) (a2 : ByteArray) : slices_IndexFunc_impl_Unit__impl_unitAt_1 k a1 a2 =
  slices_IndexFunc_impl_Unit__impl_unitAt_1.l2 k k a1 a2 ((List.length a1) : Int) 0 := by kernel_rfl
theorem E_slices_IndexFunc_impl_Unit__impl_unitAt_1_calls (k : Nat) : CallsOk Tryz.prog (E_slices_IndexFunc_impl_Unit__impl_unitAt_1 k) (arun Tryz.prog (E_slices_IndexFunc_impl_Unit__impl_unitAt_1 k) k) := by
  refine told_run (tyTOk _ _) ?_ (fun run h => regOk (tyTOk _ _) mixOk h) ?_ nameOk k
  · intro g m hg
    simp only [E_slices_IndexFunc_impl_Unit__impl_unitAt_1] at hg
    split at hg
    · cases hg
      refine con_byVal fun ρ l K x hm => ?_
      split at hm
      · obtain ⟨c1, h1, hm⟩ := Option.bind_eq_some_iff.1 hm
        obtain ⟨c2, h2, hm⟩ := Option.bind_eq_some_iff.1 hm
        obtain ⟨r, hr, hm⟩ := Option.bind_eq_some_iff.1 hm
        exact ⟨_, hm, LawV.reads (.cons (.as h1) (.cons (.bp (.cons (.as h2) .nil)) .nil)) (impl_unitAt_1_vbp_law k c1 c2 r hr)⟩
      · cases hm
    · cases hg; exact noCon_ok
    · cases hg
  · intro g hg r
    by_cases h : g = 73
    · subst h; simp [E_slices_IndexFunc_impl_Unit__impl_unitAt_1] at hg
    · simp [E_slices_IndexFunc_impl_Unit__impl_unitAt_1, h]
theorem f73_okslices_IndexFunc_impl_Unit__impl_unitAt_1 : Tryz.prog.funcs[73]? = some Tryz.f73 := by kernel_rfl
theorem slices_IndexFunc_impl_Unit__impl_unitAt_1_law (k : Nat) (a1 : List (ByteArray × Int × Int × (List (Int × Int × Int × Int × Int × ByteArray × (List Int) × Unit)) × Unit)) (a2 : ByteArray) (x : Int) (h : slices_IndexFunc_impl_Unit__impl_unitAt_1 k a1 a2 = some x) : LawV Tryz.prog 73 [.tv (.row (.pair .str (.pair (.int .i64) (.pair (.int .i64) (.pair (.row (.pair (.int .i64) (.pair (.int .i64) (.pair (.int .i64) (.pair (.int .i64) (.pair (.int .i64) (.pair .str (.pair (.row (.int .i64)) .unit)))))))) .unit))))) a1, .fn 74 [.bp [.str a2] 0]] (tvn (.int .i64) x) := by
  unfold slices_IndexFunc_impl_Unit__impl_unitAt_1 at h
  exact law1 (t := (.int .i64)) (tyTOk _ _) (E_slices_IndexFunc_impl_Unit__impl_unitAt_1_calls k) mixOk f73_okslices_IndexFunc_impl_Unit__impl_unitAt_1 (nameOk _ _ f73_okslices_IndexFunc_impl_Unit__impl_unitAt_1) (by kernel_rfl) h
/-! impl.unitAt -/
noncomputable def E_impl_unitAt (k : Nat) : Env := ⟨ty, fun g => match g with
  | 73 => some (byVal fun ρ l K => match l with
    | [b1, .fn 74 [.bp [b2] 0]] => (b1.as (.row (.pair .str (.pair (.int .i64) (.pair (.int .i64) (.pair (.row (.pair (.int .i64) (.pair (.int .i64) (.pair (.int .i64) (.pair (.int .i64) (.pair (.int .i64) (.pair .str (.pair (.row (.int .i64)) .unit)))))))) .unit)))))).bind fun c1 => (b2.as .str).bind fun c2 => (slices_IndexFunc_impl_Unit__impl_unitAt_1 k c1 c2).bind fun r => K (tvn (.int .i64) r)
    | _ => none)
  | _ => none, fun _ _ => none⟩
noncomputable def impl_unitAt (k : Nat) (a1 : List (ByteArray × Int × Int × (List (Int × Int × Int × Int × Int × ByteArray × (List Int) × Unit)) × Unit)) (a2 : ByteArray) : Option (Int) :=
  abody (E_impl_unitAt k) (arun Tryz.prog (E_impl_unitAt k) k) k 47 Tryz.f47 [.tv (.row (.pair .str (.pair (.int .i64) (.pair (.int .i64) (.pair (.row (.pair (.int .i64) (.pair (.int .i64) (.pair (.int .i64) (.pair (.int .i64) (.pair (.int .i64) (.pair .str (.pair (.row (.int .i64)) .unit)))))))) .unit))))) a1, .str a2] [] (fin1 (.int .i64))
theorem impl_unitAt_e (k : Nat) (a1 : List (ByteArray × Int × Int × (List (Int × Int × Int × Int × Int × ByteArray × (List Int) × Unit)) × Unit)) (a2 : ByteArray) : impl_unitAt k a1 a2 =
  bindO (slices_IndexFunc_impl_Unit__impl_unitAt_1 k a1 a2) fun r1 => (some r1) := by kernel_rfl
theorem E_impl_unitAt_calls (k : Nat) : CallsOk Tryz.prog (E_impl_unitAt k) (arun Tryz.prog (E_impl_unitAt k) k) := by
  refine told_run (tyTOk _ _) ?_ (fun run h => regOk (tyTOk _ _) mixOk h) ?_ nameOk k
  · intro g m hg
    simp only [E_impl_unitAt] at hg
    split at hg
    · cases hg
      refine con_byVal fun ρ l K x hm => ?_
      split at hm
      · obtain ⟨c1, h1, hm⟩ := Option.bind_eq_some_iff.1 hm
        obtain ⟨c2, h2, hm⟩ := Option.bind_eq_some_iff.1 hm
        obtain ⟨r, hr, hm⟩ := Option.bind_eq_some_iff.1 hm
        exact ⟨_, hm, LawV.reads (.cons (.as h1) (.cons (.fn (.cons (.bp (.cons (.as h2) .nil)) .nil)) .nil)) (slices_IndexFunc_impl_Unit__impl_unitAt_1_law k c1 c2 r hr)⟩
      · cases hm
    · cases hg
  · intro g _ r; rfl
theorem f47_okimpl_unitAt : Tryz.prog.funcs[47]? = some Tryz.f47 := by kernel_rfl
theorem impl_unitAt_law (k : Nat) (a1 : List (ByteArray × Int × Int × (List (Int × Int × Int × Int × Int × ByteArray × (List Int) × Unit)) × Unit)) (a2 : ByteArray) (x : Int) (h : impl_unitAt k a1 a2 = some x) : LawV Tryz.prog 47 [.tv (.row (.pair .str (.pair (.int .i64) (.pair (.int .i64) (.pair (.row (.pair (.int .i64) (.pair (.int .i64) (.pair (.int .i64) (.pair (.int .i64) (.pair (.int .i64) (.pair .str (.pair (.row (.int .i64)) .unit)))))))) .unit))))) a1, .str a2] (tvn (.int .i64) x) := by
  unfold impl_unitAt at h
  exact law1 (t := (.int .i64)) (tyTOk _ _) (E_impl_unitAt_calls k) mixOk f47_okimpl_unitAt (nameOk _ _ f47_okimpl_unitAt) (by kernel_rfl) h
end Go.Proofs.YtpjnebmccoojpaaGreat.XFnExactWorldOk
