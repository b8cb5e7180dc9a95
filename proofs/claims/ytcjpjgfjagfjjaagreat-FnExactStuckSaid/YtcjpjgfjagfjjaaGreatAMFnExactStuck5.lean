/- Functions of the program as runs of the interpreter: equations, and a law for each. -/
import Derived.Test.YtcjpjgfjagfjjaaGreatProg
import Derived.Test.YtcjpjgfjagfjjaaGreatChecked
import Derived.KernelRfl
import Derived.Eval
import Derived.Test.YtcjpjgfjagfjjaaGreatATyOk
import Derived.Test.YtcjpjgfjagfjjaaGreatAS38
import Derived.Test.YtcjpjgfjagfjjaaGreatAMFnExactStuck3
import Derived.Test.YtcjpjgfjagfjjaaGreatAMFnExactStuck4
open Go Go.AM Go.AMx Go.Proofs
namespace Go.Proofs.YtcjpjgfjagfjjaaGreat.XFnExactStuck
set_option linter.unusedVariables false
set_option linter.unusedSimpArgs false
/-! slices.IndexFunc[[]impl.Body,impl.Body] -/
noncomputable def E_slices_IndexFunc_impl_Body__impl_WorldOk_1 (k : Nat) : Env := ⟨ty, fun g => match g with
  | 41 => some (byVal fun ρ l K => match l with
    | [b1, .bp [b2, b3, b4, b5, b6, b7] 0] => (b1.as (.pair (.row (.pair (.int .i64) (.pair (.int .i64) (.pair (.row (.int .i64)) (.pair (.int .i64) .unit))))) (.pair .bool (.pair .bool (.pair (.int .i64) (.pair (.int .i64) (.pair (.int .i64) (.pair (.int .i64) (.pair (.int .i64) .unit))))))))).bind fun c1 => (b2.as (.row (.pair .str (.pair (.int .i64) (.pair (.int .i64) (.pair (.row (.pair (.int .i64) (.pair (.int .i64) (.pair (.int .i64) (.pair (.int .i64) (.pair (.int .i64) (.pair .str (.pair (.row (.int .i64)) .unit)))))))) .unit)))))).bind fun c2 => (b3.as (.row (.pair (.row (.pair (.int .i64) (.pair (.int .i64) (.pair (.row (.int .i64)) (.pair (.int .i64) .unit))))) (.pair .bool (.pair .bool (.pair (.int .i64) (.pair (.int .i64) (.pair (.int .i64) (.pair (.int .i64) (.pair (.int .i64) .unit)))))))))).bind fun c3 => (b4.as (.row (.pair (.int .i64) (.pair .bool (.pair (.row (.int .i64)) (.pair (.row (.pair (.int .i64) (.pair (.int .i64) (.pair (.int .i64) (.pair (.int .i64) .unit))))) (.pair (.row (.pair (.int .i64) (.pair (.int .i64) (.pair (.int .i64) (.pair (.int .i64) .unit))))) .unit))))))).bind fun c4 => (b5.as (.row (.int .i64))).bind fun c5 => (b6.as .bool).bind fun c6 => (b7.as (.int .i64)).bind fun c7 => (impl_WorldOk_1_vbp k c1 c2 c3 c4 c5 c6 c7).bind fun r => K (tvn .bool r)
    | _ => none)
  | 63 => some noCon
  | _ => none, fun f r => match f with | 63 => (match r with | 2 => some [0, 1, 7, 8] | _ => none) | _ => none⟩
noncomputable def slices_IndexFunc_impl_Body__impl_WorldOk_1 (k : Nat) (a1 : List ((List (Int × Int × (List Int) × Int × Unit)) × Bool × Bool × Int × Int × Int × Int × Int × Unit)) (a2 : List (ByteArray × Int × Int × (List (Int × Int × Int × Int × Int × ByteArray × (List Int) × Unit)) × Unit)) (a3 : List ((List (Int × Int × (List Int) × Int × Unit)) × Bool × Bool × Int × Int × Int × Int × Int × Unit)) (a4 : List (Int × Bool × (List Int) × (List (Int × Int × Int × Int × Unit)) × (List (Int × Int × Int × Int × Unit)) × Unit)) (a5 : List Int) (a6 : Bool) (a7 : Int) : Option (Int) :=
  abody (E_slices_IndexFunc_impl_Body__impl_WorldOk_1 k) (arun Tryz.prog (E_slices_IndexFunc_impl_Body__impl_WorldOk_1 k) k) k 63 Tryz.f63 [.tv (.row (.pair (.row (.pair (.int .i64) (.pair (.int .i64) (.pair (.row (.int .i64)) (.pair (.int .i64) .unit))))) (.pair .bool (.pair .bool (.pair (.int .i64) (.pair (.int .i64) (.pair (.int .i64) (.pair (.int .i64) (.pair (.int .i64) .unit))))))))) a1, .fn 41 [.bp [.tv (.row (.pair .str (.pair (.int .i64) (.pair (.int .i64) (.pair (.row (.pair (.int .i64) (.pair (.int .i64) (.pair (.int .i64) (.pair (.int .i64) (.pair (.int .i64) (.pair .str (.pair (.row (.int .i64)) .unit)))))))) .unit))))) a2, .tv (.row (.pair (.row (.pair (.int .i64) (.pair (.int .i64) (.pair (.row (.int .i64)) (.pair (.int .i64) .unit))))) (.pair .bool (.pair .bool (.pair (.int .i64) (.pair (.int .i64) (.pair (.int .i64) (.pair (.int .i64) (.pair (.int .i64) .unit))))))))) a3, .tv (.row (.pair (.int .i64) (.pair .bool (.pair (.row (.int .i64)) (.pair (.row (.pair (.int .i64) (.pair (.int .i64) (.pair (.int .i64) (.pair (.int .i64) .unit))))) (.pair (.row (.pair (.int .i64) (.pair (.int .i64) (.pair (.int .i64) (.pair (.int .i64) .unit))))) .unit)))))) a4, .tv (.row (.int .i64)) a5, .bool a6, .int .i64 a7] 0]] [] (fin1 (.int .i64))
noncomputable def slices_IndexFunc_impl_Body__impl_WorldOk_1.l2 (k n : Nat) (x0 : List ((List (Int × Int × (List Int) × Int × Unit)) × Bool × Bool × Int × Int × Int × Int × Int × Unit)) (x1_0_0 : List (ByteArray × Int × Int × (List (Int × Int × Int × Int × Int × ByteArray × (List Int) × Unit)) × Unit)) (x1_0_1 : List ((List (Int × Int × (List Int) × Int × Unit)) × Bool × Bool × Int × Int × Int × Int × Int × Unit)) (x1_0_2 : List (Int × Bool × (List Int) × (List (Int × Int × Int × Int × Unit)) × (List (Int × Int × Int × Int × Unit)) × Unit)) (x1_0_3 : List Int) (x1_0_4 : Bool) (x1_0_5 : Int) (x7 : Int) (x8 : Int) : Option (Int) :=
  resume (E_slices_IndexFunc_impl_Body__impl_WorldOk_1 k) 63 (acall (E_slices_IndexFunc_impl_Body__impl_WorldOk_1 k) (arun Tryz.prog (E_slices_IndexFunc_impl_Body__impl_WorldOk_1 k) k)) k [true, false, true, true] [n] (bodyOf Tryz.f63) ⟨[.tv (.row (.pair (.row (.pair (.int .i64) (.pair (.int .i64) (.pair (.row (.int .i64)) (.pair (.int .i64) .unit))))) (.pair .bool (.pair .bool (.pair (.int .i64) (.pair (.int .i64) (.pair (.int .i64) (.pair (.int .i64) (.pair (.int .i64) .unit))))))))) x0, .fn 41 [.bp [.tv (.row (.pair .str (.pair (.int .i64) (.pair (.int .i64) (.pair (.row (.pair (.int .i64) (.pair (.int .i64) (.pair (.int .i64) (.pair (.int .i64) (.pair (.int .i64) (.pair .str (.pair (.row (.int .i64)) .unit)))))))) .unit))))) x1_0_0, .tv (.row (.pair (.row (.pair (.int .i64) (.pair (.int .i64) (.pair (.row (.int .i64)) (.pair (.int .i64) .unit))))) (.pair .bool (.pair .bool (.pair (.int .i64) (.pair (.int .i64) (.pair (.int .i64) (.pair (.int .i64) (.pair (.int .i64) .unit))))))))) x1_0_1, .tv (.row (.pair (.int .i64) (.pair .bool (.pair (.row (.int .i64)) (.pair (.row (.pair (.int .i64) (.pair (.int .i64) (.pair (.int .i64) (.pair (.int .i64) .unit))))) (.pair (.row (.pair (.int .i64) (.pair (.int .i64) (.pair (.int .i64) (.pair (.int .i64) .unit))))) .unit)))))) x1_0_2, .tv (.row (.int .i64)) x1_0_3, .bool x1_0_4, .int .i64 x1_0_5] 0], .undef, .undef, .undef, .undef, .undef, .int .i64 x7, .int .i64 x8, .undef, .undef, .undef, .undef, .undef, .undef, .undef, .undef, .undef, .undef], []⟩ (leave (E_slices_IndexFunc_impl_Body__impl_WorldOk_1 k) Tryz.f63 (fin1 (.int .i64)))
theorem slices_IndexFunc_impl_Body__impl_WorldOk_1.l2_0 (k : Nat) (x0 : List ((List (Int × Int × (List Int) × Int × Unit)) × Bool × Bool × Int × Int × Int × Int × Int × Unit)) (x1_0_0 : List (ByteArray × Int × Int × (List (Int × Int × Int × Int × Int × ByteArray × (List Int) × Unit)) × Unit)) (x1_0_1 : List ((List (Int × Int × (List Int) × Int × Unit)) × Bool × Bool × Int × Int × Int × Int × Int × Unit)) (x1_0_2 : List (Int × Bool × (List Int) × (List (Int × Int × Int × Int × Unit)) × (List (Int × Int × Int × Int × Unit)) × Unit)) (x1_0_3 : List Int) (x1_0_4 : Bool) (x1_0_5 : Int) (x7 : Int) (x8 : Int) : slices_IndexFunc_impl_Body__impl_WorldOk_1.l2 k 0 x0 x1_0_0 x1_0_1 x1_0_2 x1_0_3 x1_0_4 x1_0_5 x7 x8 = none := by kernel_rfl
theorem slices_IndexFunc_impl_Body__impl_WorldOk_1.l2_s (k n : Nat) (x0 : List ((List (Int × Int × (List Int) × Int × Unit)) × Bool × Bool × Int × Int × Int × Int × Int × Unit)) (x1_0_0 : List (ByteArray × Int × Int × (List (Int × Int × Int × Int × Int × ByteArray × (List Int) × Unit)) × Unit)) (x1_0_1 : List ((List (Int × Int × (List Int) × Int × Unit)) × Bool × Bool × Int × Int × Int × Int × Int × Unit)) (x1_0_2 : List (Int × Bool × (List Int) × (List (Int × Int × Int × Int × Unit)) × (List (Int × Int × Int × Int × Unit)) × Unit)) (x1_0_3 : List Int) (x1_0_4 : Bool) (x1_0_5 : Int) (x7 : Int) (x8 : Int) : slices_IndexFunc_impl_Body__impl_WorldOk_1.l2 k (n + 1) x0 x1_0_0 x1_0_1 x1_0_2 x1_0_3 x1_0_4 x1_0_5 x7 x8 =
  iteB (decide (x8 < x7)) (iteB (decide (0 ≤ x8)) (iteB (decide (x8 < ((List.length x0) : Int))) (bindO (impl_WorldOk_1_vbp k (List.getD x0 (Int.toNat x8) (Ty.dflt (.pair (.row (.pair (.int .i64) (.pair (.int .i64) (.pair (.row (.int .i64)) (.pair (.int .i64) .unit))))) (.pair .bool (.pair .bool (.pair (.int .i64) (.pair (.int .i64) (.pair (.int .i64) (.pair (.int .i64) (.pair (.int .i64) .unit)))))))))) x1_0_0 x1_0_1 x1_0_2 x1_0_3 x1_0_4 x1_0_5) fun r1 => (iteB r1 (some x8) (slices_IndexFunc_impl_Body__impl_WorldOk_1.l2 k n x0 x1_0_0 x1_0_1 x1_0_2 x1_0_3 x1_0_4 x1_0_5 x7 (IntKind.wrap .i64 (x8 + 1))))) (none)) (none)) (some (-1)) := by kernel_rfl
theorem slices_IndexFunc_impl_Body__impl_WorldOk_1_e (k : Nat) (a1 : List ((List (Int × Int × (List Int) × Int × Unit)) × Bool × Bool × Int × Int × Int × Int × Int × Unit)) (a2 : List (ByteArray × Int × Int × (List (Int × Int × Int × Int × Int × ByteArray × (List Int) × Unit)) × Unit)) (a3 : List ((List (Int × Int × (List Int) × Int × Unit)) × Bool × Bool × Int × Int × Int × Int × Int × Unit)) (a4 : List (Int × Bool × (List Int) × (List (Int × Int × Int × Int × Unit)) × (List (Int × Int × Int × Int × Unit)) × Unit)) (a5 : List Int) (a6 : Bool) (a7 : Int) : slices_IndexFunc_impl_Body__impl_WorldOk_1 k a1 a2 a3 a4 a5 a6 a7 =
  slices_IndexFunc_impl_Body__impl_WorldOk_1.l2 k k a1 a2 a3 a4 a5 a6 a7 ((List.length a1) : Int) 0 := by kernel_rfl
theorem E_slices_IndexFunc_impl_Body__impl_WorldOk_1_calls (k : Nat) : CallsOk Tryz.prog (E_slices_IndexFunc_impl_Body__impl_WorldOk_1 k) (arun Tryz.prog (E_slices_IndexFunc_impl_Body__impl_WorldOk_1 k) k) := by
  refine told_run (tyTOk _ _) ?_ (fun run h => regOk (tyTOk _ _) mixOk h) ?_ nameOk k
  · intro g m hg
    simp only [E_slices_IndexFunc_impl_Body__impl_WorldOk_1] at hg
    split at hg
    · cases hg
      refine con_byVal fun ρ l K x hm => ?_
      split at hm
      · obtain ⟨c1, h1, hm⟩ := Option.bind_eq_some_iff.1 hm
        obtain ⟨c2, h2, hm⟩ := Option.bind_eq_some_iff.1 hm
        obtain ⟨c3, h3, hm⟩ := Option.bind_eq_some_iff.1 hm
        obtain ⟨c4, h4, hm⟩ := Option.bind_eq_some_iff.1 hm
        obtain ⟨c5, h5, hm⟩ := Option.bind_eq_some_iff.1 hm
        obtain ⟨c6, h6, hm⟩ := Option.bind_eq_some_iff.1 hm
        obtain ⟨c7, h7, hm⟩ := Option.bind_eq_some_iff.1 hm
        obtain ⟨r, hr, hm⟩ := Option.bind_eq_some_iff.1 hm
        exact ⟨_, hm, LawV.reads (.cons (.as h1) (.cons (.bp (.cons (.as h2) (.cons (.as h3) (.cons (.as h4) (.cons (.as h5) (.cons (.as h6) (.cons (.as h7) .nil))))))) .nil)) (impl_WorldOk_1_vbp_law k c1 c2 c3 c4 c5 c6 c7 r hr)⟩
      · cases hm
    · cases hg; exact noCon_ok
    · cases hg
  · intro g hg r
    by_cases h : g = 63
    · subst h; simp [E_slices_IndexFunc_impl_Body__impl_WorldOk_1] at hg
    · simp [E_slices_IndexFunc_impl_Body__impl_WorldOk_1, h]
theorem f63_okslices_IndexFunc_impl_Body__impl_WorldOk_1 : Tryz.prog.funcs[63]? = some Tryz.f63 := by kernel_rfl
theorem slices_IndexFunc_impl_Body__impl_WorldOk_1_law (k : Nat) (a1 : List ((List (Int × Int × (List Int) × Int × Unit)) × Bool × Bool × Int × Int × Int × Int × Int × Unit)) (a2 : List (ByteArray × Int × Int × (List (Int × Int × Int × Int × Int × ByteArray × (List Int) × Unit)) × Unit)) (a3 : List ((List (Int × Int × (List Int) × Int × Unit)) × Bool × Bool × Int × Int × Int × Int × Int × Unit)) (a4 : List (Int × Bool × (List Int) × (List (Int × Int × Int × Int × Unit)) × (List (Int × Int × Int × Int × Unit)) × Unit)) (a5 : List Int) (a6 : Bool) (a7 : Int) (x : Int) (h : slices_IndexFunc_impl_Body__impl_WorldOk_1 k a1 a2 a3 a4 a5 a6 a7 = some x) : LawV Tryz.prog 63 [.tv (.row (.pair (.row (.pair (.int .i64) (.pair (.int .i64) (.pair (.row (.int .i64)) (.pair (.int .i64) .unit))))) (.pair .bool (.pair .bool (.pair (.int .i64) (.pair (.int .i64) (.pair (.int .i64) (.pair (.int .i64) (.pair (.int .i64) .unit))))))))) a1, .fn 41 [.bp [.tv (.row (.pair .str (.pair (.int .i64) (.pair (.int .i64) (.pair (.row (.pair (.int .i64) (.pair (.int .i64) (.pair (.int .i64) (.pair (.int .i64) (.pair (.int .i64) (.pair .str (.pair (.row (.int .i64)) .unit)))))))) .unit))))) a2, .tv (.row (.pair (.row (.pair (.int .i64) (.pair (.int .i64) (.pair (.row (.int .i64)) (.pair (.int .i64) .unit))))) (.pair .bool (.pair .bool (.pair (.int .i64) (.pair (.int .i64) (.pair (.int .i64) (.pair (.int .i64) (.pair (.int .i64) .unit))))))))) a3, .tv (.row (.pair (.int .i64) (.pair .bool (.pair (.row (.int .i64)) (.pair (.row (.pair (.int .i64) (.pair (.int .i64) (.pair (.int .i64) (.pair (.int .i64) .unit))))) (.pair (.row (.pair (.int .i64) (.pair (.int .i64) (.pair (.int .i64) (.pair (.int .i64) .unit))))) .unit)))))) a4, .tv (.row (.int .i64)) a5, .bool a6, .int .i64 a7] 0]] (tvn (.int .i64) x) := by
  unfold slices_IndexFunc_impl_Body__impl_WorldOk_1 at h
  exact law1 (t := (.int .i64)) (tyTOk _ _) (E_slices_IndexFunc_impl_Body__impl_WorldOk_1_calls k) mixOk f63_okslices_IndexFunc_impl_Body__impl_WorldOk_1 (nameOk _ _ f63_okslices_IndexFunc_impl_Body__impl_WorldOk_1) (by kernel_rfl) h
/-! slices.ContainsFunc[[]impl.Body,impl.Body] -/
noncomputable def E_slices_ContainsFunc_impl_Body__impl_WorldOk_1 (k : Nat) : Env := ⟨ty, fun g => match g with
  | 63 => some (byVal fun ρ l K => match l with
    | [b1, .fn 41 [.bp [b2, b3, b4, b5, b6, b7] 0]] => (b1.as (.row (.pair (.row (.pair (.int .i64) (.pair (.int .i64) (.pair (.row (.int .i64)) (.pair (.int .i64) .unit))))) (.pair .bool (.pair .bool (.pair (.int .i64) (.pair (.int .i64) (.pair (.int .i64) (.pair (.int .i64) (.pair (.int .i64) .unit)))))))))).bind fun c1 => (b2.as (.row (.pair .str (.pair (.int .i64) (.pair (.int .i64) (.pair (.row (.pair (.int .i64) (.pair (.int .i64) (.pair (.int .i64) (.pair (.int .i64) (.pair (.int .i64) (.pair .str (.pair (.row (.int .i64)) .unit)))))))) .unit)))))).bind fun c2 => (b3.as (.row (.pair (.row (.pair (.int .i64) (.pair (.int .i64) (.pair (.row (.int .i64)) (.pair (.int .i64) .unit))))) (.pair .bool (.pair .bool (.pair (.int .i64) (.pair (.int .i64) (.pair (.int .i64) (.pair (.int .i64) (.pair (.int .i64) .unit)))))))))).bind fun c3 => (b4.as (.row (.pair (.int .i64) (.pair .bool (.pair (.row (.int .i64)) (.pair (.row (.pair (.int .i64) (.pair (.int .i64) (.pair (.int .i64) (.pair (.int .i64) .unit))))) (.pair (.row (.pair (.int .i64) (.pair (.int .i64) (.pair (.int .i64) (.pair (.int .i64) .unit))))) .unit))))))).bind fun c4 => (b5.as (.row (.int .i64))).bind fun c5 => (b6.as .bool).bind fun c6 => (b7.as (.int .i64)).bind fun c7 => (slices_IndexFunc_impl_Body__impl_WorldOk_1 k c1 c2 c3 c4 c5 c6 c7).bind fun r => K (tvn (.int .i64) r)
    | _ => none)
  | _ => none, fun _ _ => none⟩
noncomputable def slices_ContainsFunc_impl_Body__impl_WorldOk_1 (k : Nat) (a1 : List ((List (Int × Int × (List Int) × Int × Unit)) × Bool × Bool × Int × Int × Int × Int × Int × Unit)) (a2 : List (ByteArray × Int × Int × (List (Int × Int × Int × Int × Int × ByteArray × (List Int) × Unit)) × Unit)) (a3 : List ((List (Int × Int × (List Int) × Int × Unit)) × Bool × Bool × Int × Int × Int × Int × Int × Unit)) (a4 : List (Int × Bool × (List Int) × (List (Int × Int × Int × Int × Unit)) × (List (Int × Int × Int × Int × Unit)) × Unit)) (a5 : List Int) (a6 : Bool) (a7 : Int) : Option (Bool) :=
  abody (E_slices_ContainsFunc_impl_Body__impl_WorldOk_1 k) (arun Tryz.prog (E_slices_ContainsFunc_impl_Body__impl_WorldOk_1 k) k) k 40 Tryz.f40 [.tv (.row (.pair (.row (.pair (.int .i64) (.pair (.int .i64) (.pair (.row (.int .i64)) (.pair (.int .i64) .unit))))) (.pair .bool (.pair .bool (.pair (.int .i64) (.pair (.int .i64) (.pair (.int .i64) (.pair (.int .i64) (.pair (.int .i64) .unit))))))))) a1, .fn 41 [.bp [.tv (.row (.pair .str (.pair (.int .i64) (.pair (.int .i64) (.pair (.row (.pair (.int .i64) (.pair (.int .i64) (.pair (.int .i64) (.pair (.int .i64) (.pair (.int .i64) (.pair .str (.pair (.row (.int .i64)) .unit)))))))) .unit))))) a2, .tv (.row (.pair (.row (.pair (.int .i64) (.pair (.int .i64) (.pair (.row (.int .i64)) (.pair (.int .i64) .unit))))) (.pair .bool (.pair .bool (.pair (.int .i64) (.pair (.int .i64) (.pair (.int .i64) (.pair (.int .i64) (.pair (.int .i64) .unit))))))))) a3, .tv (.row (.pair (.int .i64) (.pair .bool (.pair (.row (.int .i64)) (.pair (.row (.pair (.int .i64) (.pair (.int .i64) (.pair (.int .i64) (.pair (.int .i64) .unit))))) (.pair (.row (.pair (.int .i64) (.pair (.int .i64) (.pair (.int .i64) (.pair (.int .i64) .unit))))) .unit)))))) a4, .tv (.row (.int .i64)) a5, .bool a6, .int .i64 a7] 0]] [] (fin1 .bool)
theorem slices_ContainsFunc_impl_Body__impl_WorldOk_1_e (k : Nat) (a1 : List ((List (Int × Int × (List Int) × Int × Unit)) × Bool × Bool × Int × Int × Int × Int × Int × Unit)) (a2 : List (ByteArray × Int × Int × (List (Int × Int × Int × Int × Int × ByteArray × (List Int) × Unit)) × Unit)) (a3 : List ((List (Int × Int × (List Int) × Int × Unit)) × Bool × Bool × Int × Int × Int × Int × Int × Unit)) (a4 : List (Int × Bool × (List Int) × (List (Int × Int × Int × Int × Unit)) × (List (Int × Int × Int × Int × Unit)) × Unit)) (a5 : List Int) (a6 : Bool) (a7 : Int) : slices_ContainsFunc_impl_Body__impl_WorldOk_1 k a1 a2 a3 a4 a5 a6 a7 =
  bindO (slices_IndexFunc_impl_Body__impl_WorldOk_1 k a1 a2 a3 a4 a5 a6 a7) fun r1 => (some (decide (r1 ≥ 0))) := by kernel_rfl
theorem E_slices_ContainsFunc_impl_Body__impl_WorldOk_1_calls (k : Nat) : CallsOk Tryz.prog (E_slices_ContainsFunc_impl_Body__impl_WorldOk_1 k) (arun Tryz.prog (E_slices_ContainsFunc_impl_Body__impl_WorldOk_1 k) k) := by
  refine told_run (tyTOk _ _) ?_ (fun run h => regOk (tyTOk _ _) mixOk h) ?_ nameOk k
  · intro g m hg
    simp only [E_slices_ContainsFunc_impl_Body__impl_WorldOk_1] at hg
    split at hg
    · cases hg
      refine con_byVal fun ρ l K x hm => ?_
      split at hm
      · obtain ⟨c1, h1, hm⟩ := Option.bind_eq_some_iff.1 hm
        obtain ⟨c2, h2, hm⟩ := Option.bind_eq_some_iff.1 hm
        obtain ⟨c3, h3, hm⟩ := Option.bind_eq_some_iff.1 hm
        obtain ⟨c4, h4, hm⟩ := Option.bind_eq_some_iff.1 hm
        obtain ⟨c5, h5, hm⟩ := Option.bind_eq_some_iff.1 hm
        obtain ⟨c6, h6, hm⟩ := Option.bind_eq_some_iff.1 hm
        obtain ⟨c7, h7, hm⟩ := Option.bind_eq_some_iff.1 hm
        obtain ⟨r, hr, hm⟩ := Option.bind_eq_some_iff.1 hm
        exact ⟨_, hm, LawV.reads (.cons (.as h1) (.cons (.fn (.cons (.bp (.cons (.as h2) (.cons (.as h3) (.cons (.as h4) (.cons (.as h5) (.cons (.as h6) (.cons (.as h7) .nil))))))) .nil)) .nil)) (slices_IndexFunc_impl_Body__impl_WorldOk_1_law k c1 c2 c3 c4 c5 c6 c7 r hr)⟩
      · cases hm
    · cases hg
  · intro g _ r; rfl
theorem f40_okslices_ContainsFunc_impl_Body__impl_WorldOk_1 : Tryz.prog.funcs[40]? = some Tryz.f40 := by kernel_rfl
theorem slices_ContainsFunc_impl_Body__impl_WorldOk_1_law (k : Nat) (a1 : List ((List (Int × Int × (List Int) × Int × Unit)) × Bool × Bool × Int × Int × Int × Int × Int × Unit)) (a2 : List (ByteArray × Int × Int × (List (Int × Int × Int × Int × Int × ByteArray × (List Int) × Unit)) × Unit)) (a3 : List ((List (Int × Int × (List Int) × Int × Unit)) × Bool × Bool × Int × Int × Int × Int × Int × Unit)) (a4 : List (Int × Bool × (List Int) × (List (Int × Int × Int × Int × Unit)) × (List (Int × Int × Int × Int × Unit)) × Unit)) (a5 : List Int) (a6 : Bool) (a7 : Int) (x : Bool) (h : slices_ContainsFunc_impl_Body__impl_WorldOk_1 k a1 a2 a3 a4 a5 a6 a7 = some x) : LawV Tryz.prog 40 [.tv (.row (.pair (.row (.pair (.int .i64) (.pair (.int .i64) (.pair (.row (.int .i64)) (.pair (.int .i64) .unit))))) (.pair .bool (.pair .bool (.pair (.int .i64) (.pair (.int .i64) (.pair (.int .i64) (.pair (.int .i64) (.pair (.int .i64) .unit))))))))) a1, .fn 41 [.bp [.tv (.row (.pair .str (.pair (.int .i64) (.pair (.int .i64) (.pair (.row (.pair (.int .i64) (.pair (.int .i64) (.pair (.int .i64) (.pair (.int .i64) (.pair (.int .i64) (.pair .str (.pair (.row (.int .i64)) .unit)))))))) .unit))))) a2, .tv (.row (.pair (.row (.pair (.int .i64) (.pair (.int .i64) (.pair (.row (.int .i64)) (.pair (.int .i64) .unit))))) (.pair .bool (.pair .bool (.pair (.int .i64) (.pair (.int .i64) (.pair (.int .i64) (.pair (.int .i64) (.pair (.int .i64) .unit))))))))) a3, .tv (.row (.pair (.int .i64) (.pair .bool (.pair (.row (.int .i64)) (.pair (.row (.pair (.int .i64) (.pair (.int .i64) (.pair (.int .i64) (.pair (.int .i64) .unit))))) (.pair (.row (.pair (.int .i64) (.pair (.int .i64) (.pair (.int .i64) (.pair (.int .i64) .unit))))) .unit)))))) a4, .tv (.row (.int .i64)) a5, .bool a6, .int .i64 a7] 0]] (tvn .bool x) := by
  unfold slices_ContainsFunc_impl_Body__impl_WorldOk_1 at h
  exact law1 (t := .bool) (tyTOk _ _) (E_slices_ContainsFunc_impl_Body__impl_WorldOk_1_calls k) mixOk f40_okslices_ContainsFunc_impl_Body__impl_WorldOk_1 (nameOk _ _ f40_okslices_ContainsFunc_impl_Body__impl_WorldOk_1) (by kernel_rfl) h
/-! impl.waitsOk$1 -/
noncomputable def E_impl_waitsOk_1_vbp (k : Nat) : Env := ⟨ty, fun _ => none, fun _ _ => none⟩
noncomputable def impl_waitsOk_1_vbp (k : Nat) (a1 : Int × Int × Int × Int × Unit) (a2 : Int) (a3 : Int) (a4 : Int) (a5 : Int) : Option (Bool) :=
  abody (E_impl_waitsOk_1_vbp k) (arun Tryz.prog (E_impl_waitsOk_1_vbp k) k) k 92 Tryz.f92 [.tv (.pair (.int .i64) (.pair (.int .i64) (.pair (.int .i64) (.pair (.int .i64) .unit)))) a1, .bp [.int .i64 a2, .int .i64 a3, .int .i64 a4, .int .i64 a5] 0] [] (fin1 .bool)
theorem impl_waitsOk_1_vbp_e (k : Nat) (a1 : Int × Int × Int × Int × Unit) (a2 : Int) (a3 : Int) (a4 : Int) (a5 : Int) : impl_waitsOk_1_vbp k a1 a2 a3 a4 a5 =
  some (a1.1 == a2) := by kernel_rfl
theorem E_impl_waitsOk_1_vbp_calls (k : Nat) : CallsOk Tryz.prog (E_impl_waitsOk_1_vbp k) (arun Tryz.prog (E_impl_waitsOk_1_vbp k) k) := by
  refine told_run (tyTOk _ _) ?_ (fun run h => regOk (tyTOk _ _) mixOk h) ?_ nameOk k
  · intro g m hg
    cases hg
  · intro g _ r; rfl
theorem f92_okimpl_waitsOk_1_vbp : Tryz.prog.funcs[92]? = some Tryz.f92 := by kernel_rfl
theorem impl_waitsOk_1_vbp_law (k : Nat) (a1 : Int × Int × Int × Int × Unit) (a2 : Int) (a3 : Int) (a4 : Int) (a5 : Int) (x : Bool) (h : impl_waitsOk_1_vbp k a1 a2 a3 a4 a5 = some x) : LawV Tryz.prog 92 [.tv (.pair (.int .i64) (.pair (.int .i64) (.pair (.int .i64) (.pair (.int .i64) .unit)))) a1, .bp [.int .i64 a2, .int .i64 a3, .int .i64 a4, .int .i64 a5] 0] (tvn .bool x) := by
  unfold impl_waitsOk_1_vbp at h
  exact law1 (t := .bool) (tyTOk _ _) (E_impl_waitsOk_1_vbp_calls k) mixOk f92_okimpl_waitsOk_1_vbp (nameOk _ _ f92_okimpl_waitsOk_1_vbp) (by kernel_rfl) h
/-! slices.IndexFunc[[]impl.Wait,impl.Wait] -/
noncomputable def E_slices_IndexFunc_impl_Wait__impl_waitsOk_1 (k : Nat) : Env := ⟨ty, fun g => match g with
  | 92 => some (byVal fun ρ l K => match l with
    | [b1, .bp [b2, b3, b4, b5] 0] => (b1.as (.pair (.int .i64) (.pair (.int .i64) (.pair (.int .i64) (.pair (.int .i64) .unit))))).bind fun c1 => (b2.as (.int .i64)).bind fun c2 => (b3.as (.int .i64)).bind fun c3 => (b4.as (.int .i64)).bind fun c4 => (b5.as (.int .i64)).bind fun c5 => (impl_waitsOk_1_vbp k c1 c2 c3 c4 c5).bind fun r => K (tvn .bool r)
    | _ => none)
  | 107 => some noCon
  | _ => none, fun f r => match f with | 107 => (match r with | 2 => some [0, 1, 7, 8] | _ => none) | _ => none⟩
noncomputable def slices_IndexFunc_impl_Wait__impl_waitsOk_1 (k : Nat) (a1 : List (Int × Int × Int × Int × Unit)) (a2 : Int) (a3 : Int) (a4 : Int) (a5 : Int) : Option (Int) :=
  abody (E_slices_IndexFunc_impl_Wait__impl_waitsOk_1 k) (arun Tryz.prog (E_slices_IndexFunc_impl_Wait__impl_waitsOk_1 k) k) k 107 Tryz.f107 [.tv (.row (.pair (.int .i64) (.pair (.int .i64) (.pair (.int .i64) (.pair (.int .i64) .unit))))) a1, .fn 92 [.bp [.int .i64 a2, .int .i64 a3, .int .i64 a4, .int .i64 a5] 0]] [] (fin1 (.int .i64))
noncomputable def slices_IndexFunc_impl_Wait__impl_waitsOk_1.l2 (k n : Nat) (x0 : List (Int × Int × Int × Int × Unit)) (x1_0_0 : Int) (x1_0_1 : Int) (x1_0_2 : Int) (x1_0_3 : Int) (x7 : Int) (x8 : Int) : Option (Int) :=
  resume (E_slices_IndexFunc_impl_Wait__impl_waitsOk_1 k) 107 (acall (E_slices_IndexFunc_impl_Wait__impl_waitsOk_1 k) (arun Tryz.prog (E_slices_IndexFunc_impl_Wait__impl_waitsOk_1 k) k)) k [true, false, true, true] [n] (bodyOf Tryz.f107) ⟨[.tv (.row (.pair (.int .i64) (.pair (.int .i64) (.pair (.int .i64) (.pair (.int .i64) .unit))))) x0, .fn 92 [.bp [.int .i64 x1_0_0, .int .i64 x1_0_1, .int .i64 x1_0_2, .int .i64 x1_0_3] 0], .undef, .undef, .undef, .undef, .undef, .int .i64 x7, .int .i64 x8, .undef, .undef, .undef, .undef, .undef, .undef, .undef, .undef, .undef, .undef], []⟩ (leave (E_slices_IndexFunc_impl_Wait__impl_waitsOk_1 k) Tryz.f107 (fin1 (.int .i64)))
theorem slices_IndexFunc_impl_Wait__impl_waitsOk_1.l2_0 (k : Nat) (x0 : List (Int × Int × Int × Int × Unit)) (x1_0_0 : Int) (x1_0_1 : Int) (x1_0_2 : Int) (x1_0_3 : Int) (x7 : Int) (x8 : Int) : slices_IndexFunc_impl_Wait__impl_waitsOk_1.l2 k 0 x0 x1_0_0 x1_0_1 x1_0_2 x1_0_3 x7 x8 = none := by kernel_rfl
theorem slices_IndexFunc_impl_Wait__impl_waitsOk_1.l2_s (k n : Nat) (x0 : List (Int × Int × Int × Int × Unit)) (x1_0_0 : Int) (x1_0_1 : Int) (x1_0_2 : Int) (x1_0_3 : Int) (x7 : Int) (x8 : Int) : slices_IndexFunc_impl_Wait__impl_waitsOk_1.l2 k (n + 1) x0 x1_0_0 x1_0_1 x1_0_2 x1_0_3 x7 x8 =
  iteB (decide (x8 < x7)) (iteB (decide (0 ≤ x8)) (iteB (decide (x8 < ((List.length x0) : Int))) (bindO (impl_waitsOk_1_vbp k (List.getD x0 (Int.toNat x8) (Ty.dflt (.pair (.int .i64) (.pair (.int .i64) (.pair (.int .i64) (.pair (.int .i64) .unit)))))) x1_0_0 x1_0_1 x1_0_2 x1_0_3) fun r1 => (iteB r1 (some x8) (slices_IndexFunc_impl_Wait__impl_waitsOk_1.l2 k n x0 x1_0_0 x1_0_1 x1_0_2 x1_0_3 x7 (IntKind.wrap .i64 (x8 + 1))))) (none)) (none)) (some (-1)) := by kernel_rfl
theorem slices_IndexFunc_impl_Wait__impl_waitsOk_1_e (k : Nat) (a1 : List (Int × Int × Int × Int × Unit)) (a2 : Int) (a3 : Int) (a4 : Int) (a5 : Int) : slices_IndexFunc_impl_Wait__impl_waitsOk_1 k a1 a2 a3 a4 a5 =
  slices_IndexFunc_impl_Wait__impl_waitsOk_1.l2 k k a1 a2 a3 a4 a5 ((List.length a1) : Int) 0 := by kernel_rfl
theorem E_slices_IndexFunc_impl_Wait__impl_waitsOk_1_calls (k : Nat) : CallsOk Tryz.prog (E_slices_IndexFunc_impl_Wait__impl_waitsOk_1 k) (arun Tryz.prog (E_slices_IndexFunc_impl_Wait__impl_waitsOk_1 k) k) := by
  refine told_run (tyTOk _ _) ?_ (fun run h => regOk (tyTOk _ _) mixOk h) ?_ nameOk k
  · intro g m hg
    simp only [E_slices_IndexFunc_impl_Wait__impl_waitsOk_1] at hg
    split at hg
    · cases hg
      refine con_byVal fun ρ l K x hm => ?_
      split at hm
      · obtain ⟨c1, h1, hm⟩ := Option.bind_eq_some_iff.1 hm
        obtain ⟨c2, h2, hm⟩ := Option.bind_eq_some_iff.1 hm
        obtain ⟨c3, h3, hm⟩ := Option.bind_eq_some_iff.1 hm
        obtain ⟨c4, h4, hm⟩ := Option.bind_eq_some_iff.1 hm
        obtain ⟨c5, h5, hm⟩ := Option.bind_eq_some_iff.1 hm
        obtain ⟨r, hr, hm⟩ := Option.bind_eq_some_iff.1 hm
        exact ⟨_, hm, LawV.reads (.cons (.as h1) (.cons (.bp (.cons (.as h2) (.cons (.as h3) (.cons (.as h4) (.cons (.as h5) .nil))))) .nil)) (impl_waitsOk_1_vbp_law k c1 c2 c3 c4 c5 r hr)⟩
      · cases hm
    · cases hg; exact noCon_ok
    · cases hg
  · intro g hg r
    by_cases h : g = 107
    · subst h; simp [E_slices_IndexFunc_impl_Wait__impl_waitsOk_1] at hg
    · simp [E_slices_IndexFunc_impl_Wait__impl_waitsOk_1, h]
theorem f107_okslices_IndexFunc_impl_Wait__impl_waitsOk_1 : Tryz.prog.funcs[107]? = some Tryz.f107 := by kernel_rfl
theorem slices_IndexFunc_impl_Wait__impl_waitsOk_1_law (k : Nat) (a1 : List (Int × Int × Int × Int × Unit)) (a2 : Int) (a3 : Int) (a4 : Int) (a5 : Int) (x : Int) (h : slices_IndexFunc_impl_Wait__impl_waitsOk_1 k a1 a2 a3 a4 a5 = some x) : LawV Tryz.prog 107 [.tv (.row (.pair (.int .i64) (.pair (.int .i64) (.pair (.int .i64) (.pair (.int .i64) .unit))))) a1, .fn 92 [.bp [.int .i64 a2, .int .i64 a3, .int .i64 a4, .int .i64 a5] 0]] (tvn (.int .i64) x) := by
  unfold slices_IndexFunc_impl_Wait__impl_waitsOk_1 at h
  exact law1 (t := (.int .i64)) (tyTOk _ _) (E_slices_IndexFunc_impl_Wait__impl_waitsOk_1_calls k) mixOk f107_okslices_IndexFunc_impl_Wait__impl_waitsOk_1 (nameOk _ _ f107_okslices_IndexFunc_impl_Wait__impl_waitsOk_1) (by kernel_rfl) h
/-! slices.ContainsFunc[[]impl.Wait,impl.Wait] -/
noncomputable def E_slices_ContainsFunc_impl_Wait__impl_waitsOk_1 (k : Nat) : Env := ⟨ty, fun g => match g with
  | 107 => some (byVal fun ρ l K => match l with
    | [b1, .fn 92 [.bp [b2, b3, b4, b5] 0]] => (b1.as (.row (.pair (.int .i64) (.pair (.int .i64) (.pair (.int .i64) (.pair (.int .i64) .unit)))))).bind fun c1 => (b2.as (.int .i64)).bind fun c2 => (b3.as (.int .i64)).bind fun c3 => (b4.as (.int .i64)).bind fun c4 => (b5.as (.int .i64)).bind fun c5 => (slices_IndexFunc_impl_Wait__impl_waitsOk_1 k c1 c2 c3 c4 c5).bind fun r => K (tvn (.int .i64) r)
    | _ => none)
  | _ => none, fun _ _ => none⟩
noncomputable def slices_ContainsFunc_impl_Wait__impl_waitsOk_1 (k : Nat) (a1 : List (Int × Int × Int × Int × Unit)) (a2 : Int) (a3 : Int) (a4 : Int) (a5 : Int) : Option (Bool) :=
  abody (E_slices_ContainsFunc_impl_Wait__impl_waitsOk_1 k) (arun Tryz.prog (E_slices_ContainsFunc_impl_Wait__impl_waitsOk_1 k) k) k 91 Tryz.f91 [.tv (.row (.pair (.int .i64) (.pair (.int .i64) (.pair (.int .i64) (.pair (.int .i64) .unit))))) a1, .fn 92 [.bp [.int .i64 a2, .int .i64 a3, .int .i64 a4, .int .i64 a5] 0]] [] (fin1 .bool)
theorem slices_ContainsFunc_impl_Wait__impl_waitsOk_1_e (k : Nat) (a1 : List (Int × Int × Int × Int × Unit)) (a2 : Int) (a3 : Int) (a4 : Int) (a5 : Int) : slices_ContainsFunc_impl_Wait__impl_waitsOk_1 k a1 a2 a3 a4 a5 =
  bindO (slices_IndexFunc_impl_Wait__impl_waitsOk_1 k a1 a2 a3 a4 a5) fun r1 => (some (decide (r1 ≥ 0))) := by kernel_rfl
theorem E_slices_ContainsFunc_impl_Wait__impl_waitsOk_1_calls (k : Nat) : CallsOk Tryz.prog (E_slices_ContainsFunc_impl_Wait__impl_waitsOk_1 k) (arun Tryz.prog (E_slices_ContainsFunc_impl_Wait__impl_waitsOk_1 k) k) := by
  refine told_run (tyTOk _ _) ?_ (fun run h => regOk (tyTOk _ _) mixOk h) ?_ nameOk k
  · intro g m hg
    simp only [E_slices_ContainsFunc_impl_Wait__impl_waitsOk_1] at hg
    split at hg
    · cases hg
      refine con_byVal fun ρ l K x hm => ?_
      split at hm
      · obtain ⟨c1, h1, hm⟩ := Option.bind_eq_some_iff.1 hm
        obtain ⟨c2, h2, hm⟩ := Option.bind_eq_some_iff.1 hm
        obtain ⟨c3, h3, hm⟩ := Option.bind_eq_some_iff.1 hm
        obtain ⟨c4, h4, hm⟩ := Option.bind_eq_some_iff.1 hm
        obtain ⟨c5, h5, hm⟩ := Option.bind_eq_some_iff.1 hm
        obtain ⟨r, hr, hm⟩ := Option.bind_eq_some_iff.1 hm
        exact ⟨_, hm, LawV.reads (.cons (.as h1) (.cons (.fn (.cons (.bp (.cons (.as h2) (.cons (.as h3) (.cons (.as h4) (.cons (.as h5) .nil))))) .nil)) .nil)) (slices_IndexFunc_impl_Wait__impl_waitsOk_1_law k c1 c2 c3 c4 c5 r hr)⟩
      · cases hm
    · cases hg
  · intro g _ r; rfl
theorem f91_okslices_ContainsFunc_impl_Wait__impl_waitsOk_1 : Tryz.prog.funcs[91]? = some Tryz.f91 := by kernel_rfl
theorem slices_ContainsFunc_impl_Wait__impl_waitsOk_1_law (k : Nat) (a1 : List (Int × Int × Int × Int × Unit)) (a2 : Int) (a3 : Int) (a4 : Int) (a5 : Int) (x : Bool) (h : slices_ContainsFunc_impl_Wait__impl_waitsOk_1 k a1 a2 a3 a4 a5 = some x) : LawV Tryz.prog 91 [.tv (.row (.pair (.int .i64) (.pair (.int .i64) (.pair (.int .i64) (.pair (.int .i64) .unit))))) a1, .fn 92 [.bp [.int .i64 a2, .int .i64 a3, .int .i64 a4, .int .i64 a5] 0]] (tvn .bool x) := by
  unfold slices_ContainsFunc_impl_Wait__impl_waitsOk_1 at h
  exact law1 (t := .bool) (tyTOk _ _) (E_slices_ContainsFunc_impl_Wait__impl_waitsOk_1_calls k) mixOk f91_okslices_ContainsFunc_impl_Wait__impl_waitsOk_1 (nameOk _ _ f91_okslices_ContainsFunc_impl_Wait__impl_waitsOk_1) (by kernel_rfl) h
/-! impl.waitsOk -/
noncomputable def E_impl_waitsOk (k : Nat) : Env := ⟨ty, fun g => match g with
  | 39 => some (byVal fun ρ l K => match l with
    | [b1, b2, b3] => (b1.as (.int .i64)).bind fun c1 => (b2.as (.int .i64)).bind fun c2 => (b3.as (.int .i64)).bind fun c3 => (impl_within k c1 c2 c3).bind fun r => K (tvn .bool r)
    | _ => none)
  | 91 => some (byVal fun ρ l K => match l with
    | [b1, .fn 92 [.bp [b2, b3, b4, b5] 0]] => (b1.as (.row (.pair (.int .i64) (.pair (.int .i64) (.pair (.int .i64) (.pair (.int .i64) .unit)))))).bind fun c1 => (b2.as (.int .i64)).bind fun c2 => (b3.as (.int .i64)).bind fun c3 => (b4.as (.int .i64)).bind fun c4 => (b5.as (.int .i64)).bind fun c5 => (slices_ContainsFunc_impl_Wait__impl_waitsOk_1 k c1 c2 c3 c4 c5).bind fun r => K (tvn .bool r)
    | _ => none)
  | 47 => some (byVal fun ρ l K => match l with
    | [b1] => (b1.as (.int .i64)).bind fun c1 => (impl_WordOk k c1).bind fun r => K (tvn .bool r)
    | _ => none)
  | 69 => some noCon
  | _ => none, fun f r => match f with | 69 => (match r with | 2 => some [0, 5, 6, 7] | _ => none) | _ => none⟩
noncomputable def impl_waitsOk (k : Nat) (a1 : List (Int × Int × Int × Int × Unit)) : Option (Bool) :=
  abody (E_impl_waitsOk k) (arun Tryz.prog (E_impl_waitsOk k) k) k 69 Tryz.f69 [.tv (.row (.pair (.int .i64) (.pair (.int .i64) (.pair (.int .i64) (.pair (.int .i64) .unit))))) a1] [] (fin1 .bool)
noncomputable def impl_waitsOk.l2 (k n : Nat) (x0 : List (Int × Int × Int × Int × Unit)) (x5 : List (Int × Int × Int × Int × Unit)) (x6 : Int) (x7 : Int) : Option (Bool) :=
  resume (E_impl_waitsOk k) 69 (acall (E_impl_waitsOk k) (arun Tryz.prog (E_impl_waitsOk k) k)) k [true, false, true, true] [n] (bodyOf Tryz.f69) ⟨[.tv (.row (.pair (.int .i64) (.pair (.int .i64) (.pair (.int .i64) (.pair (.int .i64) .unit))))) x0, .undef, .undef, .undef, .undef, .tv (.row (.pair (.int .i64) (.pair (.int .i64) (.pair (.int .i64) (.pair (.int .i64) .unit))))) x5, .int .i64 x6, .int .i64 x7, .undef, .undef, .undef, .undef, .undef, .undef, .undef, .undef, .undef, .undef, .undef, .undef, .undef, .undef, .undef, .undef, .undef, .undef, .undef, .undef, .undef, .undef, .undef, .undef, .undef, .undef, .undef, .undef, .undef, .undef, .undef, .undef, .undef, .undef, .undef], []⟩ (leave (E_impl_waitsOk k) Tryz.f69 (fin1 .bool))
theorem impl_waitsOk.l2_0 (k : Nat) (x0 : List (Int × Int × Int × Int × Unit)) (x5 : List (Int × Int × Int × Int × Unit)) (x6 : Int) (x7 : Int) : impl_waitsOk.l2 k 0 x0 x5 x6 x7 = none := by kernel_rfl
theorem impl_waitsOk.l2_s (k n : Nat) (x0 : List (Int × Int × Int × Int × Unit)) (x5 : List (Int × Int × Int × Int × Unit)) (x6 : Int) (x7 : Int) : impl_waitsOk.l2 k (n + 1) x0 x5 x6 x7 =
  iteB (decide (x7 < x6)) (iteB (decide (0 ≤ x7)) (iteB (decide (x7 < ((List.length x5) : Int))) (bindO (impl_within k ((List.getD x5 (Int.toNat x7) (Ty.dflt (.pair (.int .i64) (.pair (.int .i64) (.pair (.int .i64) (.pair (.int .i64) .unit)))))).1) 0 5) fun r1 => (iteB (!(!r1)) (iteB (decide (0 ≤ x7)) (iteB (decide (x7 ≤ ((List.length x0) : Int))) (bindO (slices_ContainsFunc_impl_Wait__impl_waitsOk_1 k (List.take (Int.toNat x7) (List.drop 0 x0)) ((List.getD x5 (Int.toNat x7) (Ty.dflt (.pair (.int .i64) (.pair (.int .i64) (.pair (.int .i64) (.pair (.int .i64) .unit)))))).1) (((List.getD x5 (Int.toNat x7) (Ty.dflt (.pair (.int .i64) (.pair (.int .i64) (.pair (.int .i64) (.pair (.int .i64) .unit)))))).2).1) ((((List.getD x5 (Int.toNat x7) (Ty.dflt (.pair (.int .i64) (.pair (.int .i64) (.pair (.int .i64) (.pair (.int .i64) .unit)))))).2).2).1) (((((List.getD x5 (Int.toNat x7) (Ty.dflt (.pair (.int .i64) (.pair (.int .i64) (.pair (.int .i64) (.pair (.int .i64) .unit)))))).2).2).2).1)) fun r2 => (iteB (!r2) (bindO (impl_WordOk k ((((List.getD x5 (Int.toNat x7) (Ty.dflt (.pair (.int .i64) (.pair (.int .i64) (.pair (.int .i64) (.pair (.int .i64) .unit)))))).2).2).1)) fun r3 => (iteB (!(!r3)) (iteB (!(decide (((List.getD x5 (Int.toNat x7) (Ty.dflt (.pair (.int .i64) (.pair (.int .i64) (.pair (.int .i64) (.pair (.int .i64) .unit)))))).2).1 < 0))) (iteB (decide (((((List.getD x5 (Int.toNat x7) (Ty.dflt (.pair (.int .i64) (.pair (.int .i64) (.pair (.int .i64) (.pair (.int .i64) .unit)))))).2).2).2).1 < 0)) (some false) (impl_waitsOk.l2 k n x0 x5 x6 (IntKind.wrap .i64 (x7 + 1)))) (some false)) (some false))) (some false))) (none)) (none)) (some false))) (none)) (none)) (some (decide (((List.length x0) : Int) ≤ 6))) := by kernel_rfl
theorem impl_waitsOk_e (k : Nat) (a1 : List (Int × Int × Int × Int × Unit)) : impl_waitsOk k a1 =
  impl_waitsOk.l2 k k a1 a1 ((List.length a1) : Int) 0 := by kernel_rfl
theorem E_impl_waitsOk_calls (k : Nat) : CallsOk Tryz.prog (E_impl_waitsOk k) (arun Tryz.prog (E_impl_waitsOk k) k) := by
  refine told_run (tyTOk _ _) ?_ (fun run h => regOk (tyTOk _ _) mixOk h) ?_ nameOk k
  · intro g m hg
    simp only [E_impl_waitsOk] at hg
    split at hg
    · cases hg
      refine con_byVal fun ρ l K x hm => ?_
      split at hm
      · obtain ⟨c1, h1, hm⟩ := Option.bind_eq_some_iff.1 hm
        obtain ⟨c2, h2, hm⟩ := Option.bind_eq_some_iff.1 hm
        obtain ⟨c3, h3, hm⟩ := Option.bind_eq_some_iff.1 hm
        obtain ⟨r, hr, hm⟩ := Option.bind_eq_some_iff.1 hm
        exact ⟨_, hm, LawV.reads (.cons (.as h1) (.cons (.as h2) (.cons (.as h3) .nil))) (impl_within_law k c1 c2 c3 r hr)⟩
      · cases hm
    · cases hg
      refine con_byVal fun ρ l K x hm => ?_
      split at hm
      · obtain ⟨c1, h1, hm⟩ := Option.bind_eq_some_iff.1 hm
        obtain ⟨c2, h2, hm⟩ := Option.bind_eq_some_iff.1 hm
        obtain ⟨c3, h3, hm⟩ := Option.bind_eq_some_iff.1 hm
        obtain ⟨c4, h4, hm⟩ := Option.bind_eq_some_iff.1 hm
        obtain ⟨c5, h5, hm⟩ := Option.bind_eq_some_iff.1 hm
        obtain ⟨r, hr, hm⟩ := Option.bind_eq_some_iff.1 hm
        exact ⟨_, hm, LawV.reads (.cons (.as h1) (.cons (.fn (.cons (.bp (.cons (.as h2) (.cons (.as h3) (.cons (.as h4) (.cons (.as h5) .nil))))) .nil)) .nil)) (slices_ContainsFunc_impl_Wait__impl_waitsOk_1_law k c1 c2 c3 c4 c5 r hr)⟩
      · cases hm
    · cases hg
      refine con_byVal fun ρ l K x hm => ?_
      split at hm
      · obtain ⟨c1, h1, hm⟩ := Option.bind_eq_some_iff.1 hm
        obtain ⟨r, hr, hm⟩ := Option.bind_eq_some_iff.1 hm
        exact ⟨_, hm, LawV.reads (.cons (.as h1) .nil) (impl_WordOk_law k c1 r hr)⟩
      · cases hm
    · cases hg; exact noCon_ok
    · cases hg
  · intro g hg r
    by_cases h : g = 69
    · subst h; simp [E_impl_waitsOk] at hg
    · simp [E_impl_waitsOk, h]
theorem f69_okimpl_waitsOk : Tryz.prog.funcs[69]? = some Tryz.f69 := by kernel_rfl
theorem impl_waitsOk_law (k : Nat) (a1 : List (Int × Int × Int × Int × Unit)) (x : Bool) (h : impl_waitsOk k a1 = some x) : LawV Tryz.prog 69 [.tv (.row (.pair (.int .i64) (.pair (.int .i64) (.pair (.int .i64) (.pair (.int .i64) .unit))))) a1] (tvn .bool x) := by
  unfold impl_waitsOk at h
  exact law1 (t := .bool) (tyTOk _ _) (E_impl_waitsOk_calls k) mixOk f69_okimpl_waitsOk (nameOk _ _ f69_okimpl_waitsOk) (by kernel_rfl) h
/-! impl.ChanOk -/
noncomputable def E_impl_ChanOk (k : Nat) : Env := ⟨ty, fun g => match g with
  | 39 => some (byVal fun ρ l K => match l with
    | [b1, b2, b3] => (b1.as (.int .i64)).bind fun c1 => (b2.as (.int .i64)).bind fun c2 => (b3.as (.int .i64)).bind fun c3 => (impl_within k c1 c2 c3).bind fun r => K (tvn .bool r)
    | _ => none)
  | 46 => some (byVal fun ρ l K => match l with
    | [b1, b2] => (b1.as (.row (.int .i64))).bind fun c1 => (b2.as (.int .i64)).bind fun c2 => (impl_wordsOk k c1 c2).bind fun r => K (tvn .bool r)
    | _ => none)
  | 69 => some (byVal fun ρ l K => match l with
    | [b1] => (b1.as (.row (.pair (.int .i64) (.pair (.int .i64) (.pair (.int .i64) (.pair (.int .i64) .unit)))))).bind fun c1 => (impl_waitsOk k c1).bind fun r => K (tvn .bool r)
    | _ => none)
  | _ => none, fun _ _ => none⟩
noncomputable def impl_ChanOk (k : Nat) (a1 : Int × Bool × (List Int) × (List (Int × Int × Int × Int × Unit)) × (List (Int × Int × Int × Int × Unit)) × Unit) : Option (Bool) :=
  abody (E_impl_ChanOk k) (arun Tryz.prog (E_impl_ChanOk k) k) k 45 Tryz.f45 [.tv (.pair (.int .i64) (.pair .bool (.pair (.row (.int .i64)) (.pair (.row (.pair (.int .i64) (.pair (.int .i64) (.pair (.int .i64) (.pair (.int .i64) .unit))))) (.pair (.row (.pair (.int .i64) (.pair (.int .i64) (.pair (.int .i64) (.pair (.int .i64) .unit))))) .unit))))) a1] [] (fin1 .bool)
theorem impl_ChanOk_e (k : Nat) (a1 : Int × Bool × (List Int) × (List (Int × Int × Int × Int × Unit)) × (List (Int × Int × Int × Int × Unit)) × Unit) : impl_ChanOk k a1 =
  bindO (impl_within k a1.1 0 8) fun r1 => (iteB r1 (bindO (impl_wordsOk k a1.2.2.1 a1.1) fun r2 => (iteB r2 (bindO (impl_waitsOk k a1.2.2.2.1) fun r3 => (iteB r3 (bindO (impl_waitsOk k a1.2.2.2.2.1) fun r4 => (some r4)) (some false))) (some false))) (some false)) := by kernel_rfl
theorem E_impl_ChanOk_calls (k : Nat) : CallsOk Tryz.prog (E_impl_ChanOk k) (arun Tryz.prog (E_impl_ChanOk k) k) := by
  refine told_run (tyTOk _ _) ?_ (fun run h => regOk (tyTOk _ _) mixOk h) ?_ nameOk k
  · intro g m hg
    simp only [E_impl_ChanOk] at hg
    split at hg
    · cases hg
      refine con_byVal fun ρ l K x hm => ?_
      split at hm
      · obtain ⟨c1, h1, hm⟩ := Option.bind_eq_some_iff.1 hm
        obtain ⟨c2, h2, hm⟩ := Option.bind_eq_some_iff.1 hm
        obtain ⟨c3, h3, hm⟩ := Option.bind_eq_some_iff.1 hm
        obtain ⟨r, hr, hm⟩ := Option.bind_eq_some_iff.1 hm
        exact ⟨_, hm, LawV.reads (.cons (.as h1) (.cons (.as h2) (.cons (.as h3) .nil))) (impl_within_law k c1 c2 c3 r hr)⟩
      · cases hm
    · cases hg
      refine con_byVal fun ρ l K x hm => ?_
      split at hm
      · obtain ⟨c1, h1, hm⟩ := Option.bind_eq_some_iff.1 hm
        obtain ⟨c2, h2, hm⟩ := Option.bind_eq_some_iff.1 hm
        obtain ⟨r, hr, hm⟩ := Option.bind_eq_some_iff.1 hm
        exact ⟨_, hm, LawV.reads (.cons (.as h1) (.cons (.as h2) .nil)) (impl_wordsOk_law k c1 c2 r hr)⟩
      · cases hm
    · cases hg
      refine con_byVal fun ρ l K x hm => ?_
      split at hm
      · obtain ⟨c1, h1, hm⟩ := Option.bind_eq_some_iff.1 hm
        obtain ⟨r, hr, hm⟩ := Option.bind_eq_some_iff.1 hm
        exact ⟨_, hm, LawV.reads (.cons (.as h1) .nil) (impl_waitsOk_law k c1 r hr)⟩
      · cases hm
    · cases hg
  · intro g _ r; rfl
theorem f45_okimpl_ChanOk : Tryz.prog.funcs[45]? = some Tryz.f45 := by kernel_rfl
theorem impl_ChanOk_law (k : Nat) (a1 : Int × Bool × (List Int) × (List (Int × Int × Int × Int × Unit)) × (List (Int × Int × Int × Int × Unit)) × Unit) (x : Bool) (h : impl_ChanOk k a1 = some x) : LawV Tryz.prog 45 [.tv (.pair (.int .i64) (.pair .bool (.pair (.row (.int .i64)) (.pair (.row (.pair (.int .i64) (.pair (.int .i64) (.pair (.int .i64) (.pair (.int .i64) .unit))))) (.pair (.row (.pair (.int .i64) (.pair (.int .i64) (.pair (.int .i64) (.pair (.int .i64) .unit))))) .unit))))) a1] (tvn .bool x) := by
  unfold impl_ChanOk at h
  exact law1 (t := .bool) (tyTOk _ _) (E_impl_ChanOk_calls k) mixOk f45_okimpl_ChanOk (nameOk _ _ f45_okimpl_ChanOk) (by kernel_rfl) h
/-! impl.WorldOk$2 -/
noncomputable def E_impl_WorldOk_2 (k : Nat) : Env := ⟨ty, fun g => match g with
  | 45 => some (byVal fun ρ l K => match l with
    | [b1] => (b1.as (.pair (.int .i64) (.pair .bool (.pair (.row (.int .i64)) (.pair (.row (.pair (.int .i64) (.pair (.int .i64) (.pair (.int .i64) (.pair (.int .i64) .unit))))) (.pair (.row (.pair (.int .i64) (.pair (.int .i64) (.pair (.int .i64) (.pair (.int .i64) .unit))))) .unit)))))).bind fun c1 => (impl_ChanOk k c1).bind fun r => K (tvn .bool r)
    | _ => none)
  | _ => none, fun _ _ => none⟩
noncomputable def impl_WorldOk_2 (k : Nat) (a1 : Int × Bool × (List Int) × (List (Int × Int × Int × Int × Unit)) × (List (Int × Int × Int × Int × Unit)) × Unit) : Option (Bool) :=
  abody (E_impl_WorldOk_2 k) (arun Tryz.prog (E_impl_WorldOk_2 k) k) k 44 Tryz.f44 [.tv (.pair (.int .i64) (.pair .bool (.pair (.row (.int .i64)) (.pair (.row (.pair (.int .i64) (.pair (.int .i64) (.pair (.int .i64) (.pair (.int .i64) .unit))))) (.pair (.row (.pair (.int .i64) (.pair (.int .i64) (.pair (.int .i64) (.pair (.int .i64) .unit))))) .unit))))) a1] [] (fin1 .bool)
theorem impl_WorldOk_2_e (k : Nat) (a1 : Int × Bool × (List Int) × (List (Int × Int × Int × Int × Unit)) × (List (Int × Int × Int × Int × Unit)) × Unit) : impl_WorldOk_2 k a1 =
  bindO (impl_ChanOk k a1) fun r1 => (some (!r1)) := by kernel_rfl
theorem E_impl_WorldOk_2_calls (k : Nat) : CallsOk Tryz.prog (E_impl_WorldOk_2 k) (arun Tryz.prog (E_impl_WorldOk_2 k) k) := by
  refine told_run (tyTOk _ _) ?_ (fun run h => regOk (tyTOk _ _) mixOk h) ?_ nameOk k
  · intro g m hg
    simp only [E_impl_WorldOk_2] at hg
    split at hg
    · cases hg
      refine con_byVal fun ρ l K x hm => ?_
      split at hm
      · obtain ⟨c1, h1, hm⟩ := Option.bind_eq_some_iff.1 hm
        obtain ⟨r, hr, hm⟩ := Option.bind_eq_some_iff.1 hm
        exact ⟨_, hm, LawV.reads (.cons (.as h1) .nil) (impl_ChanOk_law k c1 r hr)⟩
      · cases hm
    · cases hg
  · intro g _ r; rfl
theorem f44_okimpl_WorldOk_2 : Tryz.prog.funcs[44]? = some Tryz.f44 := by kernel_rfl
theorem impl_WorldOk_2_law (k : Nat) (a1 : Int × Bool × (List Int) × (List (Int × Int × Int × Int × Unit)) × (List (Int × Int × Int × Int × Unit)) × Unit) (x : Bool) (h : impl_WorldOk_2 k a1 = some x) : LawV Tryz.prog 44 [.tv (.pair (.int .i64) (.pair .bool (.pair (.row (.int .i64)) (.pair (.row (.pair (.int .i64) (.pair (.int .i64) (.pair (.int .i64) (.pair (.int .i64) .unit))))) (.pair (.row (.pair (.int .i64) (.pair (.int .i64) (.pair (.int .i64) (.pair (.int .i64) .unit))))) .unit))))) a1] (tvn .bool x) := by
  unfold impl_WorldOk_2 at h
  exact law1 (t := .bool) (tyTOk _ _) (E_impl_WorldOk_2_calls k) mixOk f44_okimpl_WorldOk_2 (nameOk _ _ f44_okimpl_WorldOk_2) (by kernel_rfl) h
/-! slices.IndexFunc[[]impl.Chan,impl.Chan] -/
noncomputable def E_slices_IndexFunc_impl_Chan__impl_WorldOk_2 (k : Nat) : Env := ⟨ty, fun g => match g with
  | 44 => some (byVal fun ρ l K => match l with
    | [b1] => (b1.as (.pair (.int .i64) (.pair .bool (.pair (.row (.int .i64)) (.pair (.row (.pair (.int .i64) (.pair (.int .i64) (.pair (.int .i64) (.pair (.int .i64) .unit))))) (.pair (.row (.pair (.int .i64) (.pair (.int .i64) (.pair (.int .i64) (.pair (.int .i64) .unit))))) .unit)))))).bind fun c1 => (impl_WorldOk_2 k c1).bind fun r => K (tvn .bool r)
    | _ => none)
  | 68 => some noCon
  | _ => none, fun f r => match f with | 68 => (match r with | 2 => some [0, 1, 7, 8] | _ => none) | _ => none⟩
noncomputable def slices_IndexFunc_impl_Chan__impl_WorldOk_2 (k : Nat) (a1 : List (Int × Bool × (List Int) × (List (Int × Int × Int × Int × Unit)) × (List (Int × Int × Int × Int × Unit)) × Unit)) : Option (Int) :=
  abody (E_slices_IndexFunc_impl_Chan__impl_WorldOk_2 k) (arun Tryz.prog (E_slices_IndexFunc_impl_Chan__impl_WorldOk_2 k) k) k 68 Tryz.f68 [.tv (.row (.pair (.int .i64) (.pair .bool (.pair (.row (.int .i64)) (.pair (.row (.pair (.int .i64) (.pair (.int .i64) (.pair (.int .i64) (.pair (.int .i64) .unit))))) (.pair (.row (.pair (.int .i64) (.pair (.int .i64) (.pair (.int .i64) (.pair (.int .i64) .unit))))) .unit)))))) a1, .fn 44 []] [] (fin1 (.int .i64))
noncomputable def slices_IndexFunc_impl_Chan__impl_WorldOk_2.l2 (k n : Nat) (x0 : List (Int × Bool × (List Int) × (List (Int × Int × Int × Int × Unit)) × (List (Int × Int × Int × Int × Unit)) × Unit)) (x7 : Int) (x8 : Int) : Option (Int) :=
  resume (E_slices_IndexFunc_impl_Chan__impl_WorldOk_2 k) 68 (acall (E_slices_IndexFunc_impl_Chan__impl_WorldOk_2 k) (arun Tryz.prog (E_slices_IndexFunc_impl_Chan__impl_WorldOk_2 k) k)) k [true, false, true, true] [n] (bodyOf Tryz.f68) ⟨[.tv (.row (.pair (.int .i64) (.pair .bool (.pair (.row (.int .i64)) (.pair (.row (.pair (.int .i64) (.pair (.int .i64) (.pair (.int .i64) (.pair (.int .i64) .unit))))) (.pair (.row (.pair (.int .i64) (.pair (.int .i64) (.pair (.int .i64) (.pair (.int .i64) .unit))))) .unit)))))) x0, .fn 44 [], .undef, .undef, .undef, .undef, .undef, .int .i64 x7, .int .i64 x8, .undef, .undef, .undef, .undef, .undef, .undef, .undef, .undef, .undef, .undef], []⟩ (leave (E_slices_IndexFunc_impl_Chan__impl_WorldOk_2 k) Tryz.f68 (fin1 (.int .i64)))
theorem slices_IndexFunc_impl_Chan__impl_WorldOk_2.l2_0 (k : Nat) (x0 : List (Int × Bool × (List Int) × (List (Int × Int × Int × Int × Unit)) × (List (Int × Int × Int × Int × Unit)) × Unit)) (x7 : Int) (x8 : Int) : slices_IndexFunc_impl_Chan__impl_WorldOk_2.l2 k 0 x0 x7 x8 = none := by kernel_rfl
theorem slices_IndexFunc_impl_Chan__impl_WorldOk_2.l2_s (k n : Nat) (x0 : List (Int × Bool × (List Int) × (List (Int × Int × Int × Int × Unit)) × (List (Int × Int × Int × Int × Unit)) × Unit)) (x7 : Int) (x8 : Int) : slices_IndexFunc_impl_Chan__impl_WorldOk_2.l2 k (n + 1) x0 x7 x8 =
  iteB (decide (x8 < x7)) (iteB (decide (0 ≤ x8)) (iteB (decide (x8 < ((List.length x0) : Int))) (bindO (impl_WorldOk_2 k (List.getD x0 (Int.toNat x8) (Ty.dflt (.pair (.int .i64) (.pair .bool (.pair (.row (.int .i64)) (.pair (.row (.pair (.int .i64) (.pair (.int .i64) (.pair (.int .i64) (.pair (.int .i64) .unit))))) (.pair (.row (.pair (.int .i64) (.pair (.int .i64) (.pair (.int .i64) (.pair (.int .i64) .unit))))) .unit)))))))) fun r1 => (iteB r1 (some x8) (slices_IndexFunc_impl_Chan__impl_WorldOk_2.l2 k n x0 x7 (IntKind.wrap .i64 (x8 + 1))))) (none)) (none)) (some (-1)) := by kernel_rfl
theorem slices_IndexFunc_impl_Chan__impl_WorldOk_2_e (k : Nat) (a1 : List (Int × Bool × (List Int) × (List (Int × Int × Int × Int × Unit)) × (List (Int × Int × Int × Int × Unit)) × Unit)) : slices_IndexFunc_impl_Chan__impl_WorldOk_2 k a1 =
  slices_IndexFunc_impl_Chan__impl_WorldOk_2.l2 k k a1 ((List.length a1) : Int) 0 := by kernel_rfl
theorem E_slices_IndexFunc_impl_Chan__impl_WorldOk_2_calls (k : Nat) : CallsOk Tryz.prog (E_slices_IndexFunc_impl_Chan__impl_WorldOk_2 k) (arun Tryz.prog (E_slices_IndexFunc_impl_Chan__impl_WorldOk_2 k) k) := by
  refine told_run (tyTOk _ _) ?_ (fun run h => regOk (tyTOk _ _) mixOk h) ?_ nameOk k
  · intro g m hg
    simp only [E_slices_IndexFunc_impl_Chan__impl_WorldOk_2] at hg
    split at hg
    · cases hg
      refine con_byVal fun ρ l K x hm => ?_
      split at hm
      · obtain ⟨c1, h1, hm⟩ := Option.bind_eq_some_iff.1 hm
        obtain ⟨r, hr, hm⟩ := Option.bind_eq_some_iff.1 hm
        exact ⟨_, hm, LawV.reads (.cons (.as h1) .nil) (impl_WorldOk_2_law k c1 r hr)⟩
      · cases hm
    · cases hg; exact noCon_ok
    · cases hg
  · intro g hg r
    by_cases h : g = 68
    · subst h; simp [E_slices_IndexFunc_impl_Chan__impl_WorldOk_2] at hg
    · simp [E_slices_IndexFunc_impl_Chan__impl_WorldOk_2, h]
theorem f68_okslices_IndexFunc_impl_Chan__impl_WorldOk_2 : Tryz.prog.funcs[68]? = some Tryz.f68 := by kernel_rfl
theorem slices_IndexFunc_impl_Chan__impl_WorldOk_2_law (k : Nat) (a1 : List (Int × Bool × (List Int) × (List (Int × Int × Int × Int × Unit)) × (List (Int × Int × Int × Int × Unit)) × Unit)) (x : Int) (h : slices_IndexFunc_impl_Chan__impl_WorldOk_2 k a1 = some x) : LawV Tryz.prog 68 [.tv (.row (.pair (.int .i64) (.pair .bool (.pair (.row (.int .i64)) (.pair (.row (.pair (.int .i64) (.pair (.int .i64) (.pair (.int .i64) (.pair (.int .i64) .unit))))) (.pair (.row (.pair (.int .i64) (.pair (.int .i64) (.pair (.int .i64) (.pair (.int .i64) .unit))))) .unit)))))) a1, .fn 44 []] (tvn (.int .i64) x) := by
  unfold slices_IndexFunc_impl_Chan__impl_WorldOk_2 at h
  exact law1 (t := (.int .i64)) (tyTOk _ _) (E_slices_IndexFunc_impl_Chan__impl_WorldOk_2_calls k) mixOk f68_okslices_IndexFunc_impl_Chan__impl_WorldOk_2 (nameOk _ _ f68_okslices_IndexFunc_impl_Chan__impl_WorldOk_2) (by kernel_rfl) h
/-! slices.ContainsFunc[[]impl.Chan,impl.Chan] -/
noncomputable def E_slices_ContainsFunc_impl_Chan__impl_WorldOk_2 (k : Nat) : Env := ⟨ty, fun g => match g with
  | 68 => some (byVal fun ρ l K => match l with
    | [b1, .fn 44 []] => (b1.as (.row (.pair (.int .i64) (.pair .bool (.pair (.row (.int .i64)) (.pair (.row (.pair (.int .i64) (.pair (.int .i64) (.pair (.int .i64) (.pair (.int .i64) .unit))))) (.pair (.row (.pair (.int .i64) (.pair (.int .i64) (.pair (.int .i64) (.pair (.int .i64) .unit))))) .unit))))))).bind fun c1 => (slices_IndexFunc_impl_Chan__impl_WorldOk_2 k c1).bind fun r => K (tvn (.int .i64) r)
    | _ => none)
  | _ => none, fun _ _ => none⟩
noncomputable def slices_ContainsFunc_impl_Chan__impl_WorldOk_2 (k : Nat) (a1 : List (Int × Bool × (List Int) × (List (Int × Int × Int × Int × Unit)) × (List (Int × Int × Int × Int × Unit)) × Unit)) : Option (Bool) :=
  abody (E_slices_ContainsFunc_impl_Chan__impl_WorldOk_2 k) (arun Tryz.prog (E_slices_ContainsFunc_impl_Chan__impl_WorldOk_2 k) k) k 43 Tryz.f43 [.tv (.row (.pair (.int .i64) (.pair .bool (.pair (.row (.int .i64)) (.pair (.row (.pair (.int .i64) (.pair (.int .i64) (.pair (.int .i64) (.pair (.int .i64) .unit))))) (.pair (.row (.pair (.int .i64) (.pair (.int .i64) (.pair (.int .i64) (.pair (.int .i64) .unit))))) .unit)))))) a1, .fn 44 []] [] (fin1 .bool)
theorem slices_ContainsFunc_impl_Chan__impl_WorldOk_2_e (k : Nat) (a1 : List (Int × Bool × (List Int) × (List (Int × Int × Int × Int × Unit)) × (List (Int × Int × Int × Int × Unit)) × Unit)) : slices_ContainsFunc_impl_Chan__impl_WorldOk_2 k a1 =
  bindO (slices_IndexFunc_impl_Chan__impl_WorldOk_2 k a1) fun r1 => (some (decide (r1 ≥ 0))) := by kernel_rfl
theorem E_slices_ContainsFunc_impl_Chan__impl_WorldOk_2_calls (k : Nat) : CallsOk Tryz.prog (E_slices_ContainsFunc_impl_Chan__impl_WorldOk_2 k) (arun Tryz.prog (E_slices_ContainsFunc_impl_Chan__impl_WorldOk_2 k) k) := by
  refine told_run (tyTOk _ _) ?_ (fun run h => regOk (tyTOk _ _) mixOk h) ?_ nameOk k
  · intro g m hg
    simp only [E_slices_ContainsFunc_impl_Chan__impl_WorldOk_2] at hg
    split at hg
    · cases hg
      refine con_byVal fun ρ l K x hm => ?_
      split at hm
      · obtain ⟨c1, h1, hm⟩ := Option.bind_eq_some_iff.1 hm
        obtain ⟨r, hr, hm⟩ := Option.bind_eq_some_iff.1 hm
        exact ⟨_, hm, LawV.reads (.cons (.as h1) (.cons (.fn .nil) .nil)) (slices_IndexFunc_impl_Chan__impl_WorldOk_2_law k c1 r hr)⟩
      · cases hm
    · cases hg
  · intro g _ r; rfl
theorem f43_okslices_ContainsFunc_impl_Chan__impl_WorldOk_2 : Tryz.prog.funcs[43]? = some Tryz.f43 := by kernel_rfl
theorem slices_ContainsFunc_impl_Chan__impl_WorldOk_2_law (k : Nat) (a1 : List (Int × Bool × (List Int) × (List (Int × Int × Int × Int × Unit)) × (List (Int × Int × Int × Int × Unit)) × Unit)) (x : Bool) (h : slices_ContainsFunc_impl_Chan__impl_WorldOk_2 k a1 = some x) : LawV Tryz.prog 43 [.tv (.row (.pair (.int .i64) (.pair .bool (.pair (.row (.int .i64)) (.pair (.row (.pair (.int .i64) (.pair (.int .i64) (.pair (.int .i64) (.pair (.int .i64) .unit))))) (.pair (.row (.pair (.int .i64) (.pair (.int .i64) (.pair (.int .i64) (.pair (.int .i64) .unit))))) .unit)))))) a1, .fn 44 []] (tvn .bool x) := by
  unfold slices_ContainsFunc_impl_Chan__impl_WorldOk_2 at h
  exact law1 (t := .bool) (tyTOk _ _) (E_slices_ContainsFunc_impl_Chan__impl_WorldOk_2_calls k) mixOk f43_okslices_ContainsFunc_impl_Chan__impl_WorldOk_2 (nameOk _ _ f43_okslices_ContainsFunc_impl_Chan__impl_WorldOk_2) (by kernel_rfl) h
/-! impl.WorldOk -/
noncomputable def E_impl_WorldOk (k : Nat) : Env := ⟨ty, fun g => match g with
  | 38 => some (byVal fun ρ l K => match l with
    | [b1] => (b1.as (.row (.pair .str (.pair (.int .i64) (.pair (.int .i64) (.pair (.row (.pair (.int .i64) (.pair (.int .i64) (.pair (.int .i64) (.pair (.int .i64) (.pair (.int .i64) (.pair .str (.pair (.row (.int .i64)) .unit)))))))) .unit)))))).bind fun c1 => (impl_UnitsOk k c1).bind fun r => K (tvn .bool r)
    | _ => none)
  | 39 => some (byVal fun ρ l K => match l with
    | [b1, b2, b3] => (b1.as (.int .i64)).bind fun c1 => (b2.as (.int .i64)).bind fun c2 => (b3.as (.int .i64)).bind fun c3 => (impl_within k c1 c2 c3).bind fun r => K (tvn .bool r)
    | _ => none)
  | 40 => some (byVal fun ρ l K => match l with
    | [b1, .fn 41 [.bp [b2, b3, b4, b5, b6, b7] 0]] => (b1.as (.row (.pair (.row (.pair (.int .i64) (.pair (.int .i64) (.pair (.row (.int .i64)) (.pair (.int .i64) .unit))))) (.pair .bool (.pair .bool (.pair (.int .i64) (.pair (.int .i64) (.pair (.int .i64) (.pair (.int .i64) (.pair (.int .i64) .unit)))))))))).bind fun c1 => (b2.as (.row (.pair .str (.pair (.int .i64) (.pair (.int .i64) (.pair (.row (.pair (.int .i64) (.pair (.int .i64) (.pair (.int .i64) (.pair (.int .i64) (.pair (.int .i64) (.pair .str (.pair (.row (.int .i64)) .unit)))))))) .unit)))))).bind fun c2 => (b3.as (.row (.pair (.row (.pair (.int .i64) (.pair (.int .i64) (.pair (.row (.int .i64)) (.pair (.int .i64) .unit))))) (.pair .bool (.pair .bool (.pair (.int .i64) (.pair (.int .i64) (.pair (.int .i64) (.pair (.int .i64) (.pair (.int .i64) .unit)))))))))).bind fun c3 => (b4.as (.row (.pair (.int .i64) (.pair .bool (.pair (.row (.int .i64)) (.pair (.row (.pair (.int .i64) (.pair (.int .i64) (.pair (.int .i64) (.pair (.int .i64) .unit))))) (.pair (.row (.pair (.int .i64) (.pair (.int .i64) (.pair (.int .i64) (.pair (.int .i64) .unit))))) .unit))))))).bind fun c4 => (b5.as (.row (.int .i64))).bind fun c5 => (b6.as .bool).bind fun c6 => (b7.as (.int .i64)).bind fun c7 => (slices_ContainsFunc_impl_Body__impl_WorldOk_1 k c1 c2 c3 c4 c5 c6 c7).bind fun r => K (tvn .bool r)
    | _ => none)
  | 43 => some (byVal fun ρ l K => match l with
    | [b1, .fn 44 []] => (b1.as (.row (.pair (.int .i64) (.pair .bool (.pair (.row (.int .i64)) (.pair (.row (.pair (.int .i64) (.pair (.int .i64) (.pair (.int .i64) (.pair (.int .i64) .unit))))) (.pair (.row (.pair (.int .i64) (.pair (.int .i64) (.pair (.int .i64) (.pair (.int .i64) .unit))))) .unit))))))).bind fun c1 => (slices_ContainsFunc_impl_Chan__impl_WorldOk_2 k c1).bind fun r => K (tvn .bool r)
    | _ => none)
  | 46 => some (byVal fun ρ l K => match l with
    | [b1, b2] => (b1.as (.row (.int .i64))).bind fun c1 => (b2.as (.int .i64)).bind fun c2 => (impl_wordsOk k c1 c2).bind fun r => K (tvn .bool r)
    | _ => none)
  | 47 => some (byVal fun ρ l K => match l with
    | [b1] => (b1.as (.int .i64)).bind fun c1 => (impl_WordOk k c1).bind fun r => K (tvn .bool r)
    | _ => none)
  | 19 => some noCon
  | _ => none, fun f r => match f with | 19 => (match r with | 3 => some [1] | _ => none) | _ => none⟩
noncomputable def impl_WorldOk (k : Nat) (a1 : (List (ByteArray × Int × Int × (List (Int × Int × Int × Int × Int × ByteArray × (List Int) × Unit)) × Unit)) × (List ((List (Int × Int × (List Int) × Int × Unit)) × Bool × Bool × Int × Int × Int × Int × Int × Unit)) × (List (Int × Bool × (List Int) × (List (Int × Int × Int × Int × Unit)) × (List (Int × Int × Int × Int × Unit)) × Unit)) × (List Int) × Bool × Int × Unit) : Option (Bool) :=
  abody (E_impl_WorldOk k) (arun Tryz.prog (E_impl_WorldOk k) k) k 19 Tryz.f19 [.tv (.pair (.row (.pair .str (.pair (.int .i64) (.pair (.int .i64) (.pair (.row (.pair (.int .i64) (.pair (.int .i64) (.pair (.int .i64) (.pair (.int .i64) (.pair (.int .i64) (.pair .str (.pair (.row (.int .i64)) .unit)))))))) .unit))))) (.pair (.row (.pair (.row (.pair (.int .i64) (.pair (.int .i64) (.pair (.row (.int .i64)) (.pair (.int .i64) .unit))))) (.pair .bool (.pair .bool (.pair (.int .i64) (.pair (.int .i64) (.pair (.int .i64) (.pair (.int .i64) (.pair (.int .i64) .unit))))))))) (.pair (.row (.pair (.int .i64) (.pair .bool (.pair (.row (.int .i64)) (.pair (.row (.pair (.int .i64) (.pair (.int .i64) (.pair (.int .i64) (.pair (.int .i64) .unit))))) (.pair (.row (.pair (.int .i64) (.pair (.int .i64) (.pair (.int .i64) (.pair (.int .i64) .unit))))) .unit)))))) (.pair (.row (.int .i64)) (.pair .bool (.pair (.int .i64) .unit)))))) a1] [] (fin1 .bool)
noncomputable def impl_WorldOk.j3 (k : Nat) (y0_0 : (List (ByteArray × Int × Int × (List (Int × Int × Int × Int × Int × ByteArray × (List Int) × Unit)) × Unit)) × (List ((List (Int × Int × (List Int) × Int × Unit)) × Bool × Bool × Int × Int × Int × Int × Int × Unit)) × (List (Int × Bool × (List Int) × (List (Int × Int × Int × Int × Unit)) × (List (Int × Int × Int × Int × Unit)) × Unit)) × (List Int) × Bool × Int × Unit) : Option (Bool) :=
  resume (E_impl_WorldOk k) 19 (acall (E_impl_WorldOk k) (arun Tryz.prog (E_impl_WorldOk k) k)) k [true, true] [] (bodyOf Tryz.f19) ⟨[.undef, .ptr 0 0 0, .undef, .undef, .undef, .undef, .undef, .undef, .undef, .undef, .undef, .undef, .undef, .undef, .undef, .undef, .undef, .undef, .undef, .undef, .undef, .undef, .undef, .undef, .undef, .undef, .undef, .undef, .undef, .undef, .undef, .undef, .undef, .undef, .undef, .undef, .undef, .undef, .undef, .undef, .undef, .undef, .undef], [some ⟨.raw true 6 (.agg [.nils, .nils, .nils, .nils, .bool false, .int .i64 0]) [.tv (.pair (.row (.pair .str (.pair (.int .i64) (.pair (.int .i64) (.pair (.row (.pair (.int .i64) (.pair (.int .i64) (.pair (.int .i64) (.pair (.int .i64) (.pair (.int .i64) (.pair .str (.pair (.row (.int .i64)) .unit)))))))) .unit))))) (.pair (.row (.pair (.row (.pair (.int .i64) (.pair (.int .i64) (.pair (.row (.int .i64)) (.pair (.int .i64) .unit))))) (.pair .bool (.pair .bool (.pair (.int .i64) (.pair (.int .i64) (.pair (.int .i64) (.pair (.int .i64) (.pair (.int .i64) .unit))))))))) (.pair (.row (.pair (.int .i64) (.pair .bool (.pair (.row (.int .i64)) (.pair (.row (.pair (.int .i64) (.pair (.int .i64) (.pair (.int .i64) (.pair (.int .i64) .unit))))) (.pair (.row (.pair (.int .i64) (.pair (.int .i64) (.pair (.int .i64) (.pair (.int .i64) .unit))))) .unit)))))) (.pair (.row (.int .i64)) (.pair .bool (.pair (.int .i64) .unit)))))) y0_0], true⟩]⟩ (leave (E_impl_WorldOk k) Tryz.f19 (fin1 .bool))
theorem impl_WorldOk.j3_e (k : Nat) (y0_0 : (List (ByteArray × Int × Int × (List (Int × Int × Int × Int × Int × ByteArray × (List Int) × Unit)) × Unit)) × (List ((List (Int × Int × (List Int) × Int × Unit)) × Bool × Bool × Int × Int × Int × Int × Int × Unit)) × (List (Int × Bool × (List Int) × (List (Int × Int × Int × Int × Unit)) × (List (Int × Int × Int × Int × Unit)) × Unit)) × (List Int) × Bool × Int × Unit) : impl_WorldOk.j3 k y0_0 =
  iteB (decide (((List.length y0_0.2.2.1) : Int) ≤ 8)) (bindO (slices_ContainsFunc_impl_Chan__impl_WorldOk_2 k y0_0.2.2.1) fun r4 => (iteB (!r4) (bindO (impl_wordsOk k y0_0.2.2.2.1 ((List.length y0_0.2.2.2.1) : Int)) fun r5 => (iteB r5 (bindO (impl_WordOk k y0_0.2.2.2.2.2.1) fun r6 => (some r6)) (some false))) (some false))) (some false) := by kernel_rfl
theorem impl_WorldOk_e (k : Nat) (a1 : (List (ByteArray × Int × Int × (List (Int × Int × Int × Int × Int × ByteArray × (List Int) × Unit)) × Unit)) × (List ((List (Int × Int × (List Int) × Int × Unit)) × Bool × Bool × Int × Int × Int × Int × Int × Unit)) × (List (Int × Bool × (List Int) × (List (Int × Int × Int × Int × Unit)) × (List (Int × Int × Int × Int × Unit)) × Unit)) × (List Int) × Bool × Int × Unit) : impl_WorldOk k a1 =
  bindO (impl_UnitsOk k a1.1) fun r1 => (iteB (!(!r1)) (bindO (impl_within k ((List.length a1.2.1) : Int) 1 6) fun r2 => (iteB (!(!r2)) (bindO (slices_ContainsFunc_impl_Body__impl_WorldOk_1 k a1.2.1 a1.1 a1.2.1 a1.2.2.1 a1.2.2.2.1 a1.2.2.2.2.1 a1.2.2.2.2.2.1) fun r3 => (iteB r3 (some false) (gate k (impl_WorldOk.j3 k a1)))) (some false))) (some false)) := by kernel_rfl
theorem E_impl_WorldOk_calls (k : Nat) : CallsOk Tryz.prog (E_impl_WorldOk k) (arun Tryz.prog (E_impl_WorldOk k) k) := by
  refine told_run (tyTOk _ _) ?_ (fun run h => regOk (tyTOk _ _) mixOk h) ?_ nameOk k
  · intro g m hg
    simp only [E_impl_WorldOk] at hg
    split at hg
    · cases hg
      refine con_byVal fun ρ l K x hm => ?_
      split at hm
      · obtain ⟨c1, h1, hm⟩ := Option.bind_eq_some_iff.1 hm
        obtain ⟨r, hr, hm⟩ := Option.bind_eq_some_iff.1 hm
        exact ⟨_, hm, LawV.reads (.cons (.as h1) .nil) (impl_UnitsOk_law k c1 r hr)⟩
      · cases hm
    · cases hg
      refine con_byVal fun ρ l K x hm => ?_
      split at hm
      · obtain ⟨c1, h1, hm⟩ := Option.bind_eq_some_iff.1 hm
        obtain ⟨c2, h2, hm⟩ := Option.bind_eq_some_iff.1 hm
        obtain ⟨c3, h3, hm⟩ := Option.bind_eq_some_iff.1 hm
        obtain ⟨r, hr, hm⟩ := Option.bind_eq_some_iff.1 hm
        exact ⟨_, hm, LawV.reads (.cons (.as h1) (.cons (.as h2) (.cons (.as h3) .nil))) (impl_within_law k c1 c2 c3 r hr)⟩
      · cases hm
    · cases hg
      refine con_byVal fun ρ l K x hm => ?_
      split at hm
      · obtain ⟨c1, h1, hm⟩ := Option.bind_eq_some_iff.1 hm
        obtain ⟨c2, h2, hm⟩ := Option.bind_eq_some_iff.1 hm
        obtain ⟨c3, h3, hm⟩ := Option.bind_eq_some_iff.1 hm
        obtain ⟨c4, h4, hm⟩ := Option.bind_eq_some_iff.1 hm
        obtain ⟨c5, h5, hm⟩ := Option.bind_eq_some_iff.1 hm
        obtain ⟨c6, h6, hm⟩ := Option.bind_eq_some_iff.1 hm
        obtain ⟨c7, h7, hm⟩ := Option.bind_eq_some_iff.1 hm
        obtain ⟨r, hr, hm⟩ := Option.bind_eq_some_iff.1 hm
        exact ⟨_, hm, LawV.reads (.cons (.as h1) (.cons (.fn (.cons (.bp (.cons (.as h2) (.cons (.as h3) (.cons (.as h4) (.cons (.as h5) (.cons (.as h6) (.cons (.as h7) .nil))))))) .nil)) .nil)) (slices_ContainsFunc_impl_Body__impl_WorldOk_1_law k c1 c2 c3 c4 c5 c6 c7 r hr)⟩
      · cases hm
    · cases hg
      refine con_byVal fun ρ l K x hm => ?_
      split at hm
      · obtain ⟨c1, h1, hm⟩ := Option.bind_eq_some_iff.1 hm
        obtain ⟨r, hr, hm⟩ := Option.bind_eq_some_iff.1 hm
        exact ⟨_, hm, LawV.reads (.cons (.as h1) (.cons (.fn .nil) .nil)) (slices_ContainsFunc_impl_Chan__impl_WorldOk_2_law k c1 r hr)⟩
      · cases hm
    · cases hg
      refine con_byVal fun ρ l K x hm => ?_
      split at hm
      · obtain ⟨c1, h1, hm⟩ := Option.bind_eq_some_iff.1 hm
        obtain ⟨c2, h2, hm⟩ := Option.bind_eq_some_iff.1 hm
        obtain ⟨r, hr, hm⟩ := Option.bind_eq_some_iff.1 hm
        exact ⟨_, hm, LawV.reads (.cons (.as h1) (.cons (.as h2) .nil)) (impl_wordsOk_law k c1 c2 r hr)⟩
      · cases hm
    · cases hg
      refine con_byVal fun ρ l K x hm => ?_
      split at hm
      · obtain ⟨c1, h1, hm⟩ := Option.bind_eq_some_iff.1 hm
        obtain ⟨r, hr, hm⟩ := Option.bind_eq_some_iff.1 hm
        exact ⟨_, hm, LawV.reads (.cons (.as h1) .nil) (impl_WordOk_law k c1 r hr)⟩
      · cases hm
    · cases hg; exact noCon_ok
    · cases hg
  · intro g hg r
    by_cases h : g = 19
    · subst h; simp [E_impl_WorldOk] at hg
    · simp [E_impl_WorldOk, h]
theorem f19_okimpl_WorldOk : Tryz.prog.funcs[19]? = some Tryz.f19 := by kernel_rfl
theorem impl_WorldOk_law (k : Nat) (a1 : (List (ByteArray × Int × Int × (List (Int × Int × Int × Int × Int × ByteArray × (List Int) × Unit)) × Unit)) × (List ((List (Int × Int × (List Int) × Int × Unit)) × Bool × Bool × Int × Int × Int × Int × Int × Unit)) × (List (Int × Bool × (List Int) × (List (Int × Int × Int × Int × Unit)) × (List (Int × Int × Int × Int × Unit)) × Unit)) × (List Int) × Bool × Int × Unit) (x : Bool) (h : impl_WorldOk k a1 = some x) : LawV Tryz.prog 19 [.tv (.pair (.row (.pair .str (.pair (.int .i64) (.pair (.int .i64) (.pair (.row (.pair (.int .i64) (.pair (.int .i64) (.pair (.int .i64) (.pair (.int .i64) (.pair (.int .i64) (.pair .str (.pair (.row (.int .i64)) .unit)))))))) .unit))))) (.pair (.row (.pair (.row (.pair (.int .i64) (.pair (.int .i64) (.pair (.row (.int .i64)) (.pair (.int .i64) .unit))))) (.pair .bool (.pair .bool (.pair (.int .i64) (.pair (.int .i64) (.pair (.int .i64) (.pair (.int .i64) (.pair (.int .i64) .unit))))))))) (.pair (.row (.pair (.int .i64) (.pair .bool (.pair (.row (.int .i64)) (.pair (.row (.pair (.int .i64) (.pair (.int .i64) (.pair (.int .i64) (.pair (.int .i64) .unit))))) (.pair (.row (.pair (.int .i64) (.pair (.int .i64) (.pair (.int .i64) (.pair (.int .i64) .unit))))) .unit)))))) (.pair (.row (.int .i64)) (.pair .bool (.pair (.int .i64) .unit)))))) a1] (tvn .bool x) := by
  unfold impl_WorldOk at h
  exact law1 (t := .bool) (tyTOk _ _) (E_impl_WorldOk_calls k) mixOk f19_okimpl_WorldOk (nameOk _ _ f19_okimpl_WorldOk) (by kernel_rfl) h
/-! impl.Open -/
noncomputable def E_impl_Open (k : Nat) : Env := ⟨ty, fun g => match g with
  | 20 => some noCon
  | _ => none, fun f r => match f with | 20 => (match r with | 3 => some [1, 3, 8, 9, 10] | _ => none) | _ => none⟩
noncomputable def impl_Open (k : Nat) (a1 : (List (ByteArray × Int × Int × (List (Int × Int × Int × Int × Int × ByteArray × (List Int) × Unit)) × Unit)) × (List ((List (Int × Int × (List Int) × Int × Unit)) × Bool × Bool × Int × Int × Int × Int × Int × Unit)) × (List (Int × Bool × (List Int) × (List (Int × Int × Int × Int × Unit)) × (List (Int × Int × Int × Int × Unit)) × Unit)) × (List Int) × Bool × Int × Unit) : Option (List Int) :=
  abody (E_impl_Open k) (arun Tryz.prog (E_impl_Open k) k) k 20 Tryz.f20 [.tv (.pair (.row (.pair .str (.pair (.int .i64) (.pair (.int .i64) (.pair (.row (.pair (.int .i64) (.pair (.int .i64) (.pair (.int .i64) (.pair (.int .i64) (.pair (.int .i64) (.pair .str (.pair (.row (.int .i64)) .unit)))))))) .unit))))) (.pair (.row (.pair (.row (.pair (.int .i64) (.pair (.int .i64) (.pair (.row (.int .i64)) (.pair (.int .i64) .unit))))) (.pair .bool (.pair .bool (.pair (.int .i64) (.pair (.int .i64) (.pair (.int .i64) (.pair (.int .i64) (.pair (.int .i64) .unit))))))))) (.pair (.row (.pair (.int .i64) (.pair .bool (.pair (.row (.int .i64)) (.pair (.row (.pair (.int .i64) (.pair (.int .i64) (.pair (.int .i64) (.pair (.int .i64) .unit))))) (.pair (.row (.pair (.int .i64) (.pair (.int .i64) (.pair (.int .i64) (.pair (.int .i64) .unit))))) .unit)))))) (.pair (.row (.int .i64)) (.pair .bool (.pair (.int .i64) .unit)))))) a1] [] (fin1 (.row (.int .i64)))
noncomputable def impl_Open.l3 (k n : Nat) (x8 : List ((List (Int × Int × (List Int) × Int × Unit)) × Bool × Bool × Int × Int × Int × Int × Int × Unit)) (x9 : Int) (x10 : Int) (y0_0 : (List (ByteArray × Int × Int × (List (Int × Int × Int × Int × Int × ByteArray × (List Int) × Unit)) × Unit)) × (List ((List (Int × Int × (List Int) × Int × Unit)) × Bool × Bool × Int × Int × Int × Int × Int × Unit)) × (List (Int × Bool × (List Int) × (List (Int × Int × Int × Int × Unit)) × (List (Int × Int × Int × Int × Unit)) × Unit)) × (List Int) × Bool × Int × Unit) : Option (List Int) :=
  resume (E_impl_Open k) 20 (acall (E_impl_Open k) (arun Tryz.prog (E_impl_Open k) k)) k [true, true, false, true, true] [n] (bodyOf Tryz.f20) ⟨[.undef, .ptr 0 0 0, .undef, .sl 1, .undef, .undef, .undef, .undef, .tv (.row (.pair (.row (.pair (.int .i64) (.pair (.int .i64) (.pair (.row (.int .i64)) (.pair (.int .i64) .unit))))) (.pair .bool (.pair .bool (.pair (.int .i64) (.pair (.int .i64) (.pair (.int .i64) (.pair (.int .i64) (.pair (.int .i64) .unit))))))))) x8, .int .i64 x9, .int .i64 x10, .undef, .undef, .undef, .undef, .undef, .undef, .undef, .undef, .undef, .undef, .undef, .undef, .undef, .undef, .undef, .undef, .undef, .undef, .undef, .undef, .undef, .undef, .undef], [some ⟨.raw true 6 (.agg [.nils, .nils, .nils, .nils, .bool false, .int .i64 0]) [.tv (.pair (.row (.pair .str (.pair (.int .i64) (.pair (.int .i64) (.pair (.row (.pair (.int .i64) (.pair (.int .i64) (.pair (.int .i64) (.pair (.int .i64) (.pair (.int .i64) (.pair .str (.pair (.row (.int .i64)) .unit)))))))) .unit))))) (.pair (.row (.pair (.row (.pair (.int .i64) (.pair (.int .i64) (.pair (.row (.int .i64)) (.pair (.int .i64) .unit))))) (.pair .bool (.pair .bool (.pair (.int .i64) (.pair (.int .i64) (.pair (.int .i64) (.pair (.int .i64) (.pair (.int .i64) .unit))))))))) (.pair (.row (.pair (.int .i64) (.pair .bool (.pair (.row (.int .i64)) (.pair (.row (.pair (.int .i64) (.pair (.int .i64) (.pair (.int .i64) (.pair (.int .i64) .unit))))) (.pair (.row (.pair (.int .i64) (.pair (.int .i64) (.pair (.int .i64) (.pair (.int .i64) .unit))))) .unit)))))) (.pair (.row (.int .i64)) (.pair .bool (.pair (.int .i64) .unit)))))) y0_0], true⟩, some ⟨.typed (.int .i64) [], true⟩]⟩ (leave (E_impl_Open k) Tryz.f20 (fin1 (.row (.int .i64))))
noncomputable def impl_Open.l3b (k n : Nat) (x8 : List ((List (Int × Int × (List Int) × Int × Unit)) × Bool × Bool × Int × Int × Int × Int × Int × Unit)) (x9 : Int) (x10 : Int) (y0_0 : (List (ByteArray × Int × Int × (List (Int × Int × Int × Int × Int × ByteArray × (List Int) × Unit)) × Unit)) × (List ((List (Int × Int × (List Int) × Int × Unit)) × Bool × Bool × Int × Int × Int × Int × Int × Unit)) × (List (Int × Bool × (List Int) × (List (Int × Int × Int × Int × Unit)) × (List (Int × Int × Int × Int × Unit)) × Unit)) × (List Int) × Bool × Int × Unit) (y1 : List Int) : Option (List Int) :=
  resume (E_impl_Open k) 20 (acall (E_impl_Open k) (arun Tryz.prog (E_impl_Open k) k)) k [true, true, false, true, true] [n] (bodyOf Tryz.f20) ⟨[.undef, .ptr 0 0 0, .undef, .sl 1, .undef, .undef, .undef, .undef, .tv (.row (.pair (.row (.pair (.int .i64) (.pair (.int .i64) (.pair (.row (.int .i64)) (.pair (.int .i64) .unit))))) (.pair .bool (.pair .bool (.pair (.int .i64) (.pair (.int .i64) (.pair (.int .i64) (.pair (.int .i64) (.pair (.int .i64) .unit))))))))) x8, .int .i64 x9, .int .i64 x10, .undef, .undef, .undef, .undef, .undef, .undef, .undef, .undef, .undef, .undef, .undef, .undef, .undef, .undef, .undef, .undef, .undef, .undef, .undef, .undef, .undef, .undef, .undef], [some ⟨.raw true 6 (.agg [.nils, .nils, .nils, .nils, .bool false, .int .i64 0]) [.tv (.pair (.row (.pair .str (.pair (.int .i64) (.pair (.int .i64) (.pair (.row (.pair (.int .i64) (.pair (.int .i64) (.pair (.int .i64) (.pair (.int .i64) (.pair (.int .i64) (.pair .str (.pair (.row (.int .i64)) .unit)))))))) .unit))))) (.pair (.row (.pair (.row (.pair (.int .i64) (.pair (.int .i64) (.pair (.row (.int .i64)) (.pair (.int .i64) .unit))))) (.pair .bool (.pair .bool (.pair (.int .i64) (.pair (.int .i64) (.pair (.int .i64) (.pair (.int .i64) (.pair (.int .i64) .unit))))))))) (.pair (.row (.pair (.int .i64) (.pair .bool (.pair (.row (.int .i64)) (.pair (.row (.pair (.int .i64) (.pair (.int .i64) (.pair (.int .i64) (.pair (.int .i64) .unit))))) (.pair (.row (.pair (.int .i64) (.pair (.int .i64) (.pair (.int .i64) (.pair (.int .i64) .unit))))) .unit)))))) (.pair (.row (.int .i64)) (.pair .bool (.pair (.int .i64) .unit)))))) y0_0], true⟩, some ⟨.typed (.int .i64) y1, false⟩]⟩ (leave (E_impl_Open k) Tryz.f20 (fin1 (.row (.int .i64))))
theorem impl_Open.l3_0 (k : Nat) (x8 : List ((List (Int × Int × (List Int) × Int × Unit)) × Bool × Bool × Int × Int × Int × Int × Int × Unit)) (x9 : Int) (x10 : Int) (y0_0 : (List (ByteArray × Int × Int × (List (Int × Int × Int × Int × Int × ByteArray × (List Int) × Unit)) × Unit)) × (List ((List (Int × Int × (List Int) × Int × Unit)) × Bool × Bool × Int × Int × Int × Int × Int × Unit)) × (List (Int × Bool × (List Int) × (List (Int × Int × Int × Int × Unit)) × (List (Int × Int × Int × Int × Unit)) × Unit)) × (List Int) × Bool × Int × Unit) : impl_Open.l3 k 0 x8 x9 x10 y0_0 = none := by kernel_rfl
theorem impl_Open.l3_s (k n : Nat) (x8 : List ((List (Int × Int × (List Int) × Int × Unit)) × Bool × Bool × Int × Int × Int × Int × Int × Unit)) (x9 : Int) (x10 : Int) (y0_0 : (List (ByteArray × Int × Int × (List (Int × Int × Int × Int × Int × ByteArray × (List Int) × Unit)) × Unit)) × (List ((List (Int × Int × (List Int) × Int × Unit)) × Bool × Bool × Int × Int × Int × Int × Int × Unit)) × (List (Int × Bool × (List Int) × (List (Int × Int × Int × Int × Unit)) × (List (Int × Int × Int × Int × Unit)) × Unit)) × (List Int) × Bool × Int × Unit) : impl_Open.l3 k (n + 1) x8 x9 x10 y0_0 =
  iteB (decide (x10 < x9)) (iteB (decide (0 ≤ x10)) (iteB (decide (x10 < ((List.length x8) : Int))) (iteB (!y0_0.2.2.2.2.1) (iteB (!(((List.getD x8 (Int.toNat x10) (Ty.dflt (.pair (.row (.pair (.int .i64) (.pair (.int .i64) (.pair (.row (.int .i64)) (.pair (.int .i64) .unit))))) (.pair .bool (.pair .bool (.pair (.int .i64) (.pair (.int .i64) (.pair (.int .i64) (.pair (.int .i64) (.pair (.int .i64) .unit)))))))))).2).1)) (iteB (!((((List.getD x8 (Int.toNat x10) (Ty.dflt (.pair (.row (.pair (.int .i64) (.pair (.int .i64) (.pair (.row (.int .i64)) (.pair (.int .i64) .unit))))) (.pair .bool (.pair .bool (.pair (.int .i64) (.pair (.int .i64) (.pair (.int .i64) (.pair (.int .i64) (.pair (.int .i64) .unit)))))))))).2).2).1)) (iteB (decide ((List.length ([] ++ [x10])) * 8 ≤ lim)) (impl_Open.l3b k n x8 x9 (IntKind.wrap .i64 (x10 + 1)) y0_0 ([] ++ [x10])) (none)) (impl_Open.l3 k n x8 x9 (IntKind.wrap .i64 (x10 + 1)) y0_0)) (impl_Open.l3 k n x8 x9 (IntKind.wrap .i64 (x10 + 1)) y0_0)) (impl_Open.l3 k n x8 x9 (IntKind.wrap .i64 (x10 + 1)) y0_0)) (none)) (none)) (some []) := by kernel_rfl
theorem impl_Open.l3b_0 (k : Nat) (x8 : List ((List (Int × Int × (List Int) × Int × Unit)) × Bool × Bool × Int × Int × Int × Int × Int × Unit)) (x9 : Int) (x10 : Int) (y0_0 : (List (ByteArray × Int × Int × (List (Int × Int × Int × Int × Int × ByteArray × (List Int) × Unit)) × Unit)) × (List ((List (Int × Int × (List Int) × Int × Unit)) × Bool × Bool × Int × Int × Int × Int × Int × Unit)) × (List (Int × Bool × (List Int) × (List (Int × Int × Int × Int × Unit)) × (List (Int × Int × Int × Int × Unit)) × Unit)) × (List Int) × Bool × Int × Unit) (y1 : List Int) : impl_Open.l3b k 0 x8 x9 x10 y0_0 y1 = none := by kernel_rfl
theorem impl_Open.l3b_s (k n : Nat) (x8 : List ((List (Int × Int × (List Int) × Int × Unit)) × Bool × Bool × Int × Int × Int × Int × Int × Unit)) (x9 : Int) (x10 : Int) (y0_0 : (List (ByteArray × Int × Int × (List (Int × Int × Int × Int × Int × ByteArray × (List Int) × Unit)) × Unit)) × (List ((List (Int × Int × (List Int) × Int × Unit)) × Bool × Bool × Int × Int × Int × Int × Int × Unit)) × (List (Int × Bool × (List Int) × (List (Int × Int × Int × Int × Unit)) × (List (Int × Int × Int × Int × Unit)) × Unit)) × (List Int) × Bool × Int × Unit) (y1 : List Int) : impl_Open.l3b k (n + 1) x8 x9 x10 y0_0 y1 =
  iteB (decide (x10 < x9)) (iteB (decide (0 ≤ x10)) (iteB (decide (x10 < ((List.length x8) : Int))) (iteB (!y0_0.2.2.2.2.1) (iteB (!(((List.getD x8 (Int.toNat x10) (Ty.dflt (.pair (.row (.pair (.int .i64) (.pair (.int .i64) (.pair (.row (.int .i64)) (.pair (.int .i64) .unit))))) (.pair .bool (.pair .bool (.pair (.int .i64) (.pair (.int .i64) (.pair (.int .i64) (.pair (.int .i64) (.pair (.int .i64) .unit)))))))))).2).1)) (iteB (!((((List.getD x8 (Int.toNat x10) (Ty.dflt (.pair (.row (.pair (.int .i64) (.pair (.int .i64) (.pair (.row (.int .i64)) (.pair (.int .i64) .unit))))) (.pair .bool (.pair .bool (.pair (.int .i64) (.pair (.int .i64) (.pair (.int .i64) (.pair (.int .i64) (.pair (.int .i64) .unit)))))))))).2).2).1)) (iteB (decide ((List.length (y1 ++ [x10])) * 8 ≤ lim)) (impl_Open.l3b k n x8 x9 (IntKind.wrap .i64 (x10 + 1)) y0_0 (y1 ++ [x10])) (none)) (impl_Open.l3b k n x8 x9 (IntKind.wrap .i64 (x10 + 1)) y0_0 y1)) (impl_Open.l3b k n x8 x9 (IntKind.wrap .i64 (x10 + 1)) y0_0 y1)) (impl_Open.l3b k n x8 x9 (IntKind.wrap .i64 (x10 + 1)) y0_0 y1)) (none)) (none)) (some y1) := by kernel_rfl
theorem impl_Open_e (k : Nat) (a1 : (List (ByteArray × Int × Int × (List (Int × Int × Int × Int × Int × ByteArray × (List Int) × Unit)) × Unit)) × (List ((List (Int × Int × (List Int) × Int × Unit)) × Bool × Bool × Int × Int × Int × Int × Int × Unit)) × (List (Int × Bool × (List Int) × (List (Int × Int × Int × Int × Unit)) × (List (Int × Int × Int × Int × Unit)) × Unit)) × (List Int) × Bool × Int × Unit) : impl_Open k a1 =
  impl_Open.l3 k k a1.2.1 ((List.length a1.2.1) : Int) 0 a1 := by kernel_rfl
theorem E_impl_Open_calls (k : Nat) : CallsOk Tryz.prog (E_impl_Open k) (arun Tryz.prog (E_impl_Open k) k) := by
  refine told_run (tyTOk _ _) ?_ (fun run h => regOk (tyTOk _ _) mixOk h) ?_ nameOk k
  · intro g m hg
    simp only [E_impl_Open] at hg
    split at hg
    · cases hg; exact noCon_ok
    · cases hg
  · intro g hg r
    by_cases h : g = 20
    · subst h; simp [E_impl_Open] at hg
    · simp [E_impl_Open, h]
theorem f20_okimpl_Open : Tryz.prog.funcs[20]? = some Tryz.f20 := by kernel_rfl
theorem impl_Open_law (k : Nat) (a1 : (List (ByteArray × Int × Int × (List (Int × Int × Int × Int × Int × ByteArray × (List Int) × Unit)) × Unit)) × (List ((List (Int × Int × (List Int) × Int × Unit)) × Bool × Bool × Int × Int × Int × Int × Int × Unit)) × (List (Int × Bool × (List Int) × (List (Int × Int × Int × Int × Unit)) × (List (Int × Int × Int × Int × Unit)) × Unit)) × (List Int) × Bool × Int × Unit) (x : List Int) (h : impl_Open k a1 = some x) : LawV Tryz.prog 20 [.tv (.pair (.row (.pair .str (.pair (.int .i64) (.pair (.int .i64) (.pair (.row (.pair (.int .i64) (.pair (.int .i64) (.pair (.int .i64) (.pair (.int .i64) (.pair (.int .i64) (.pair .str (.pair (.row (.int .i64)) .unit)))))))) .unit))))) (.pair (.row (.pair (.row (.pair (.int .i64) (.pair (.int .i64) (.pair (.row (.int .i64)) (.pair (.int .i64) .unit))))) (.pair .bool (.pair .bool (.pair (.int .i64) (.pair (.int .i64) (.pair (.int .i64) (.pair (.int .i64) (.pair (.int .i64) .unit))))))))) (.pair (.row (.pair (.int .i64) (.pair .bool (.pair (.row (.int .i64)) (.pair (.row (.pair (.int .i64) (.pair (.int .i64) (.pair (.int .i64) (.pair (.int .i64) .unit))))) (.pair (.row (.pair (.int .i64) (.pair (.int .i64) (.pair (.int .i64) (.pair (.int .i64) .unit))))) .unit)))))) (.pair (.row (.int .i64)) (.pair .bool (.pair (.int .i64) .unit)))))) a1] (tvn (.row (.int .i64)) x) := by
  unfold impl_Open at h
  exact law1 (t := (.row (.int .i64))) (tyTOk _ _) (E_impl_Open_calls k) mixOk f20_okimpl_Open (nameOk _ _ f20_okimpl_Open) (by kernel_rfl) h
/-! impl.Stuck -/
noncomputable def E_impl_Stuck (k : Nat) : Env := ⟨ty, fun g => match g with
  | 19 => some (byVal fun ρ l K => match l with
    | [b1] => (b1.as (.pair (.row (.pair .str (.pair (.int .i64) (.pair (.int .i64) (.pair (.row (.pair (.int .i64) (.pair (.int .i64) (.pair (.int .i64) (.pair (.int .i64) (.pair (.int .i64) (.pair .str (.pair (.row (.int .i64)) .unit)))))))) .unit))))) (.pair (.row (.pair (.row (.pair (.int .i64) (.pair (.int .i64) (.pair (.row (.int .i64)) (.pair (.int .i64) .unit))))) (.pair .bool (.pair .bool (.pair (.int .i64) (.pair (.int .i64) (.pair (.int .i64) (.pair (.int .i64) (.pair (.int .i64) .unit))))))))) (.pair (.row (.pair (.int .i64) (.pair .bool (.pair (.row (.int .i64)) (.pair (.row (.pair (.int .i64) (.pair (.int .i64) (.pair (.int .i64) (.pair (.int .i64) .unit))))) (.pair (.row (.pair (.int .i64) (.pair (.int .i64) (.pair (.int .i64) (.pair (.int .i64) .unit))))) .unit)))))) (.pair (.row (.int .i64)) (.pair .bool (.pair (.int .i64) .unit))))))).bind fun c1 => (impl_WorldOk k c1).bind fun r => K (tvn .bool r)
    | _ => none)
  | 20 => some (byVal fun ρ l K => match l with
    | [b1] => (b1.as (.pair (.row (.pair .str (.pair (.int .i64) (.pair (.int .i64) (.pair (.row (.pair (.int .i64) (.pair (.int .i64) (.pair (.int .i64) (.pair (.int .i64) (.pair (.int .i64) (.pair .str (.pair (.row (.int .i64)) .unit)))))))) .unit))))) (.pair (.row (.pair (.row (.pair (.int .i64) (.pair (.int .i64) (.pair (.row (.int .i64)) (.pair (.int .i64) .unit))))) (.pair .bool (.pair .bool (.pair (.int .i64) (.pair (.int .i64) (.pair (.int .i64) (.pair (.int .i64) (.pair (.int .i64) .unit))))))))) (.pair (.row (.pair (.int .i64) (.pair .bool (.pair (.row (.int .i64)) (.pair (.row (.pair (.int .i64) (.pair (.int .i64) (.pair (.int .i64) (.pair (.int .i64) .unit))))) (.pair (.row (.pair (.int .i64) (.pair (.int .i64) (.pair (.int .i64) (.pair (.int .i64) .unit))))) .unit)))))) (.pair (.row (.int .i64)) (.pair .bool (.pair (.int .i64) .unit))))))).bind fun c1 => (impl_Open k c1).bind fun r => K (tvn (.row (.int .i64)) r)
    | _ => none)
  | _ => none, fun _ _ => none⟩
noncomputable def impl_Stuck (k : Nat) (a1 : (List (ByteArray × Int × Int × (List (Int × Int × Int × Int × Int × ByteArray × (List Int) × Unit)) × Unit)) × (List ((List (Int × Int × (List Int) × Int × Unit)) × Bool × Bool × Int × Int × Int × Int × Int × Unit)) × (List (Int × Bool × (List Int) × (List (Int × Int × Int × Int × Unit)) × (List (Int × Int × Int × Int × Unit)) × Unit)) × (List Int) × Bool × Int × Unit) : Option (Bool) :=
  abody (E_impl_Stuck k) (arun Tryz.prog (E_impl_Stuck k) k) k 7 Tryz.f7 [.tv (.pair (.row (.pair .str (.pair (.int .i64) (.pair (.int .i64) (.pair (.row (.pair (.int .i64) (.pair (.int .i64) (.pair (.int .i64) (.pair (.int .i64) (.pair (.int .i64) (.pair .str (.pair (.row (.int .i64)) .unit)))))))) .unit))))) (.pair (.row (.pair (.row (.pair (.int .i64) (.pair (.int .i64) (.pair (.row (.int .i64)) (.pair (.int .i64) .unit))))) (.pair .bool (.pair .bool (.pair (.int .i64) (.pair (.int .i64) (.pair (.int .i64) (.pair (.int .i64) (.pair (.int .i64) .unit))))))))) (.pair (.row (.pair (.int .i64) (.pair .bool (.pair (.row (.int .i64)) (.pair (.row (.pair (.int .i64) (.pair (.int .i64) (.pair (.int .i64) (.pair (.int .i64) .unit))))) (.pair (.row (.pair (.int .i64) (.pair (.int .i64) (.pair (.int .i64) (.pair (.int .i64) .unit))))) .unit)))))) (.pair (.row (.int .i64)) (.pair .bool (.pair (.int .i64) .unit)))))) a1] [] (fin1 .bool)
theorem impl_Stuck_e (k : Nat) (a1 : (List (ByteArray × Int × Int × (List (Int × Int × Int × Int × Int × ByteArray × (List Int) × Unit)) × Unit)) × (List ((List (Int × Int × (List Int) × Int × Unit)) × Bool × Bool × Int × Int × Int × Int × Int × Unit)) × (List (Int × Bool × (List Int) × (List (Int × Int × Int × Int × Unit)) × (List (Int × Int × Int × Int × Unit)) × Unit)) × (List Int) × Bool × Int × Unit) : impl_Stuck k a1 =
  bindO (impl_WorldOk k a1) fun r1 => (iteB r1 (iteB (!a1.2.2.2.2.1) (bindO (impl_Open k a1) fun r2 => (some (((List.length r2) : Int) == 0))) (some false)) (some false)) := by kernel_rfl
theorem E_impl_Stuck_calls (k : Nat) : CallsOk Tryz.prog (E_impl_Stuck k) (arun Tryz.prog (E_impl_Stuck k) k) := by
  refine told_run (tyTOk _ _) ?_ (fun run h => regOk (tyTOk _ _) mixOk h) ?_ nameOk k
  · intro g m hg
    simp only [E_impl_Stuck] at hg
    split at hg
    · cases hg
      refine con_byVal fun ρ l K x hm => ?_
      split at hm
      · obtain ⟨c1, h1, hm⟩ := Option.bind_eq_some_iff.1 hm
        obtain ⟨r, hr, hm⟩ := Option.bind_eq_some_iff.1 hm
        exact ⟨_, hm, LawV.reads (.cons (.as h1) .nil) (impl_WorldOk_law k c1 r hr)⟩
      · cases hm
    · cases hg
      refine con_byVal fun ρ l K x hm => ?_
      split at hm
      · obtain ⟨c1, h1, hm⟩ := Option.bind_eq_some_iff.1 hm
        obtain ⟨r, hr, hm⟩ := Option.bind_eq_some_iff.1 hm
        exact ⟨_, hm, LawV.reads (.cons (.as h1) .nil) (impl_Open_law k c1 r hr)⟩
      · cases hm
    · cases hg
  · intro g _ r; rfl
theorem f7_okimpl_Stuck : Tryz.prog.funcs[7]? = some Tryz.f7 := by kernel_rfl
theorem impl_Stuck_law (k : Nat) (a1 : (List (ByteArray × Int × Int × (List (Int × Int × Int × Int × Int × ByteArray × (List Int) × Unit)) × Unit)) × (List ((List (Int × Int × (List Int) × Int × Unit)) × Bool × Bool × Int × Int × Int × Int × Int × Unit)) × (List (Int × Bool × (List Int) × (List (Int × Int × Int × Int × Unit)) × (List (Int × Int × Int × Int × Unit)) × Unit)) × (List Int) × Bool × Int × Unit) (x : Bool) (h : impl_Stuck k a1 = some x) : LawV Tryz.prog 7 [.tv (.pair (.row (.pair .str (.pair (.int .i64) (.pair (.int .i64) (.pair (.row (.pair (.int .i64) (.pair (.int .i64) (.pair (.int .i64) (.pair (.int .i64) (.pair (.int .i64) (.pair .str (.pair (.row (.int .i64)) .unit)))))))) .unit))))) (.pair (.row (.pair (.row (.pair (.int .i64) (.pair (.int .i64) (.pair (.row (.int .i64)) (.pair (.int .i64) .unit))))) (.pair .bool (.pair .bool (.pair (.int .i64) (.pair (.int .i64) (.pair (.int .i64) (.pair (.int .i64) (.pair (.int .i64) .unit))))))))) (.pair (.row (.pair (.int .i64) (.pair .bool (.pair (.row (.int .i64)) (.pair (.row (.pair (.int .i64) (.pair (.int .i64) (.pair (.int .i64) (.pair (.int .i64) .unit))))) (.pair (.row (.pair (.int .i64) (.pair (.int .i64) (.pair (.int .i64) (.pair (.int .i64) .unit))))) .unit)))))) (.pair (.row (.int .i64)) (.pair .bool (.pair (.int .i64) .unit)))))) a1] (tvn .bool x) := by
  unfold impl_Stuck at h
  exact law1 (t := .bool) (tyTOk _ _) (E_impl_Stuck_calls k) mixOk f7_okimpl_Stuck (nameOk _ _ f7_okimpl_Stuck) (by kernel_rfl) h
/-! laws.eqIntS -/
noncomputable def E_laws_eqIntS (k : Nat) : Env := ⟨ty, fun g => match g with
  | 24 => some noCon
  | _ => none, fun f r => match f with | 24 => (match r with | 4 => some [0, 1, 5] | _ => none) | _ => none⟩
noncomputable def laws_eqIntS (k : Nat) (a1 : List Int) (a2 : List Int) : Option (Bool) :=
  abody (E_laws_eqIntS k) (arun Tryz.prog (E_laws_eqIntS k) k) k 24 Tryz.f24 [.tv (.row (.int .i64)) a1, .tv (.row (.int .i64)) a2] [] (fin1 .bool)
noncomputable def laws_eqIntS.l4 (k n : Nat) (x0 : List Int) (x1 : List Int) (x5 : Int) : Option (Bool) :=
  resume (E_laws_eqIntS k) 24 (acall (E_laws_eqIntS k) (arun Tryz.prog (E_laws_eqIntS k) k)) k [true, true, false, true, true] [n] (bodyOf Tryz.f24) ⟨[.tv (.row (.int .i64)) x0, .tv (.row (.int .i64)) x1, .undef, .undef, .undef, .int .i64 x5, .undef, .undef, .undef, .undef, .undef, .undef, .undef, .undef, .undef, .undef, .undef, .undef, .undef, .undef, .undef, .undef, .undef, .undef, .undef, .undef], []⟩ (leave (E_laws_eqIntS k) Tryz.f24 (fin1 .bool))
theorem laws_eqIntS.l4_0 (k : Nat) (x0 : List Int) (x1 : List Int) (x5 : Int) : laws_eqIntS.l4 k 0 x0 x1 x5 = none := by kernel_rfl
theorem laws_eqIntS.l4_s (k n : Nat) (x0 : List Int) (x1 : List Int) (x5 : Int) : laws_eqIntS.l4 k (n + 1) x0 x1 x5 =
  iteB (decide (x5 < ((List.length x0) : Int))) (iteB (decide (0 ≤ x5)) (iteB (decide (x5 < ((List.length x0) : Int))) (iteB (decide (0 ≤ x5)) (iteB (decide (x5 < ((List.length x1) : Int))) (iteB ((List.getD x0 (Int.toNat x5) 0) != (List.getD x1 (Int.toNat x5) 0)) (some false) (laws_eqIntS.l4 k n x0 x1 (IntKind.wrap .i64 (x5 + 1)))) (none)) (none)) (none)) (none)) (some true) := by kernel_rfl
theorem laws_eqIntS_e (k : Nat) (a1 : List Int) (a2 : List Int) : laws_eqIntS k a1 a2 =
  iteB (((List.length a1) : Int) != ((List.length a2) : Int)) (some false) (laws_eqIntS.l4 k k a1 a2 0) := by kernel_rfl
theorem E_laws_eqIntS_calls (k : Nat) : CallsOk Tryz.prog (E_laws_eqIntS k) (arun Tryz.prog (E_laws_eqIntS k) k) := by
  refine told_run (tyTOk _ _) ?_ (fun run h => regOk (tyTOk _ _) mixOk h) ?_ nameOk k
  · intro g m hg
    simp only [E_laws_eqIntS] at hg
    split at hg
    · cases hg; exact noCon_ok
    · cases hg
  · intro g hg r
    by_cases h : g = 24
    · subst h; simp [E_laws_eqIntS] at hg
    · simp [E_laws_eqIntS, h]
theorem f24_oklaws_eqIntS : Tryz.prog.funcs[24]? = some Tryz.f24 := by kernel_rfl
theorem laws_eqIntS_law (k : Nat) (a1 : List Int) (a2 : List Int) (x : Bool) (h : laws_eqIntS k a1 a2 = some x) : LawV Tryz.prog 24 [.tv (.row (.int .i64)) a1, .tv (.row (.int .i64)) a2] (tvn .bool x) := by
  unfold laws_eqIntS at h
  exact law1 (t := .bool) (tyTOk _ _) (E_laws_eqIntS_calls k) mixOk f24_oklaws_eqIntS (nameOk _ _ f24_oklaws_eqIntS) (by kernel_rfl) h
end Go.Proofs.YtcjpjgfjagfjjaaGreat.XFnExactStuck
