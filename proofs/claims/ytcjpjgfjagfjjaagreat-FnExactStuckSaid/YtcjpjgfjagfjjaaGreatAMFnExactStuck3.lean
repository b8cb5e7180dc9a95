/- Functions of the program as runs of the interpreter: equations, and a law for each. -/
import Derived.Test.YtcjpjgfjagfjjaaGreatProg
import Derived.Test.YtcjpjgfjagfjjaaGreatChecked
import Derived.KernelRfl
import Derived.Eval
import Derived.Test.YtcjpjgfjagfjjaaGreatATyOk
import Derived.Test.YtcjpjgfjagfjjaaGreatAS38
import Derived.Test.YtcjpjgfjagfjjaaGreatAMFnExactStuck2
open Go Go.AM Go.AMx Go.Proofs
namespace Go.Proofs.YtcjpjgfjagfjjaaGreat.XFnExactStuck
set_option linter.unusedVariables false
set_option linter.unusedSimpArgs false
/-! spec.Open -/
noncomputable def E_spec_Open (k : Nat) : Env := ⟨ty, fun g => match g with
  | 34 => some (byVal fun ρ l K => match l with
    | [b1, b2] => (b1.as (.pair (.row (.pair .str (.pair (.int .i64) (.pair (.int .i64) (.pair (.row (.pair (.int .i64) (.pair (.int .i64) (.pair (.int .i64) (.pair (.int .i64) (.pair (.int .i64) (.pair .str (.pair (.row (.int .i64)) .unit)))))))) .unit))))) (.pair (.row (.pair (.row (.pair (.int .i64) (.pair (.int .i64) (.pair (.row (.int .i64)) (.pair (.int .i64) .unit))))) (.pair .bool (.pair .bool (.pair (.int .i64) (.pair (.int .i64) (.pair (.int .i64) (.pair (.int .i64) (.pair (.int .i64) .unit))))))))) (.pair (.row (.pair (.int .i64) (.pair .bool (.pair (.row (.int .i64)) (.pair (.row (.pair (.int .i64) (.pair (.int .i64) (.pair (.int .i64) (.pair (.int .i64) .unit))))) (.pair (.row (.pair (.int .i64) (.pair (.int .i64) (.pair (.int .i64) (.pair (.int .i64) .unit))))) .unit)))))) (.pair (.row (.int .i64)) (.pair .bool (.pair (.int .i64) .unit))))))).bind fun c1 => (b2.as (.int .i64)).bind fun c2 => (spec_l13Open k c1 c2).bind fun r => K (tvn .bool r)
    | _ => none)
  | 14 => some noCon
  | _ => none, fun f r => match f with | 14 => (match r with | 3 => some [1, 3, 4] | _ => none) | _ => none⟩
noncomputable def spec_Open (k : Nat) (a1 : (List (ByteArray × Int × Int × (List (Int × Int × Int × Int × Int × ByteArray × (List Int) × Unit)) × Unit)) × (List ((List (Int × Int × (List Int) × Int × Unit)) × Bool × Bool × Int × Int × Int × Int × Int × Unit)) × (List (Int × Bool × (List Int) × (List (Int × Int × Int × Int × Unit)) × (List (Int × Int × Int × Int × Unit)) × Unit)) × (List Int) × Bool × Int × Unit) : Option (List Int) :=
  abody (E_spec_Open k) (arun Tryz.prog (E_spec_Open k) k) k 14 Tryz.f14 [.tv (.pair (.row (.pair .str (.pair (.int .i64) (.pair (.int .i64) (.pair (.row (.pair (.int .i64) (.pair (.int .i64) (.pair (.int .i64) (.pair (.int .i64) (.pair (.int .i64) (.pair .str (.pair (.row (.int .i64)) .unit)))))))) .unit))))) (.pair (.row (.pair (.row (.pair (.int .i64) (.pair (.int .i64) (.pair (.row (.int .i64)) (.pair (.int .i64) .unit))))) (.pair .bool (.pair .bool (.pair (.int .i64) (.pair (.int .i64) (.pair (.int .i64) (.pair (.int .i64) (.pair (.int .i64) .unit))))))))) (.pair (.row (.pair (.int .i64) (.pair .bool (.pair (.row (.int .i64)) (.pair (.row (.pair (.int .i64) (.pair (.int .i64) (.pair (.int .i64) (.pair (.int .i64) .unit))))) (.pair (.row (.pair (.int .i64) (.pair (.int .i64) (.pair (.int .i64) (.pair (.int .i64) .unit))))) .unit)))))) (.pair (.row (.int .i64)) (.pair .bool (.pair (.int .i64) .unit)))))) a1] [] (fin1 (.row (.int .i64)))
noncomputable def spec_Open.l3 (k n : Nat) (x4 : Int) (y0_0 : (List (ByteArray × Int × Int × (List (Int × Int × Int × Int × Int × ByteArray × (List Int) × Unit)) × Unit)) × (List ((List (Int × Int × (List Int) × Int × Unit)) × Bool × Bool × Int × Int × Int × Int × Int × Unit)) × (List (Int × Bool × (List Int) × (List (Int × Int × Int × Int × Unit)) × (List (Int × Int × Int × Int × Unit)) × Unit)) × (List Int) × Bool × Int × Unit) : Option (List Int) :=
  resume (E_spec_Open k) 14 (acall (E_spec_Open k) (arun Tryz.prog (E_spec_Open k) k)) k [true, true, false, true, true] [n] (bodyOf Tryz.f14) ⟨[.undef, .ptr 0 0 0, .undef, .sl 1, .int .i64 x4, .undef, .undef, .undef, .undef, .undef, .undef, .undef, .undef, .undef, .undef, .undef, .undef, .undef, .undef, .undef, .undef], [some ⟨.raw true 6 (.agg [.nils, .nils, .nils, .nils, .bool false, .int .i64 0]) [.tv (.pair (.row (.pair .str (.pair (.int .i64) (.pair (.int .i64) (.pair (.row (.pair (.int .i64) (.pair (.int .i64) (.pair (.int .i64) (.pair (.int .i64) (.pair (.int .i64) (.pair .str (.pair (.row (.int .i64)) .unit)))))))) .unit))))) (.pair (.row (.pair (.row (.pair (.int .i64) (.pair (.int .i64) (.pair (.row (.int .i64)) (.pair (.int .i64) .unit))))) (.pair .bool (.pair .bool (.pair (.int .i64) (.pair (.int .i64) (.pair (.int .i64) (.pair (.int .i64) (.pair (.int .i64) .unit))))))))) (.pair (.row (.pair (.int .i64) (.pair .bool (.pair (.row (.int .i64)) (.pair (.row (.pair (.int .i64) (.pair (.int .i64) (.pair (.int .i64) (.pair (.int .i64) .unit))))) (.pair (.row (.pair (.int .i64) (.pair (.int .i64) (.pair (.int .i64) (.pair (.int .i64) .unit))))) .unit)))))) (.pair (.row (.int .i64)) (.pair .bool (.pair (.int .i64) .unit)))))) y0_0], true⟩, some ⟨.typed (.int .i64) [], true⟩]⟩ (leave (E_spec_Open k) Tryz.f14 (fin1 (.row (.int .i64))))
noncomputable def spec_Open.l3b (k n : Nat) (x4 : Int) (y0_0 : (List (ByteArray × Int × Int × (List (Int × Int × Int × Int × Int × ByteArray × (List Int) × Unit)) × Unit)) × (List ((List (Int × Int × (List Int) × Int × Unit)) × Bool × Bool × Int × Int × Int × Int × Int × Unit)) × (List (Int × Bool × (List Int) × (List (Int × Int × Int × Int × Unit)) × (List (Int × Int × Int × Int × Unit)) × Unit)) × (List Int) × Bool × Int × Unit) (y1 : List Int) : Option (List Int) :=
  resume (E_spec_Open k) 14 (acall (E_spec_Open k) (arun Tryz.prog (E_spec_Open k) k)) k [true, true, false, true, true] [n] (bodyOf Tryz.f14) ⟨[.undef, .ptr 0 0 0, .undef, .sl 1, .int .i64 x4, .undef, .undef, .undef, .undef, .undef, .undef, .undef, .undef, .undef, .undef, .undef, .undef, .undef, .undef, .undef, .undef], [some ⟨.raw true 6 (.agg [.nils, .nils, .nils, .nils, .bool false, .int .i64 0]) [.tv (.pair (.row (.pair .str (.pair (.int .i64) (.pair (.int .i64) (.pair (.row (.pair (.int .i64) (.pair (.int .i64) (.pair (.int .i64) (.pair (.int .i64) (.pair (.int .i64) (.pair .str (.pair (.row (.int .i64)) .unit)))))))) .unit))))) (.pair (.row (.pair (.row (.pair (.int .i64) (.pair (.int .i64) (.pair (.row (.int .i64)) (.pair (.int .i64) .unit))))) (.pair .bool (.pair .bool (.pair (.int .i64) (.pair (.int .i64) (.pair (.int .i64) (.pair (.int .i64) (.pair (.int .i64) .unit))))))))) (.pair (.row (.pair (.int .i64) (.pair .bool (.pair (.row (.int .i64)) (.pair (.row (.pair (.int .i64) (.pair (.int .i64) (.pair (.int .i64) (.pair (.int .i64) .unit))))) (.pair (.row (.pair (.int .i64) (.pair (.int .i64) (.pair (.int .i64) (.pair (.int .i64) .unit))))) .unit)))))) (.pair (.row (.int .i64)) (.pair .bool (.pair (.int .i64) .unit)))))) y0_0], true⟩, some ⟨.typed (.int .i64) y1, false⟩]⟩ (leave (E_spec_Open k) Tryz.f14 (fin1 (.row (.int .i64))))
theorem spec_Open.l3_0 (k : Nat) (x4 : Int) (y0_0 : (List (ByteArray × Int × Int × (List (Int × Int × Int × Int × Int × ByteArray × (List Int) × Unit)) × Unit)) × (List ((List (Int × Int × (List Int) × Int × Unit)) × Bool × Bool × Int × Int × Int × Int × Int × Unit)) × (List (Int × Bool × (List Int) × (List (Int × Int × Int × Int × Unit)) × (List (Int × Int × Int × Int × Unit)) × Unit)) × (List Int) × Bool × Int × Unit) : spec_Open.l3 k 0 x4 y0_0 = none := by kernel_rfl
theorem spec_Open.l3_s (k n : Nat) (x4 : Int) (y0_0 : (List (ByteArray × Int × Int × (List (Int × Int × Int × Int × Int × ByteArray × (List Int) × Unit)) × Unit)) × (List ((List (Int × Int × (List Int) × Int × Unit)) × Bool × Bool × Int × Int × Int × Int × Int × Unit)) × (List (Int × Bool × (List Int) × (List (Int × Int × Int × Int × Unit)) × (List (Int × Int × Int × Int × Unit)) × Unit)) × (List Int) × Bool × Int × Unit) : spec_Open.l3 k (n + 1) x4 y0_0 =
  iteB (decide (x4 < ((List.length y0_0.2.1) : Int))) (bindO (spec_l13Open k y0_0 x4) fun r1 => (iteB r1 (iteB (decide ((List.length ([] ++ [x4])) * 8 ≤ lim)) (spec_Open.l3b k n (IntKind.wrap .i64 (x4 + 1)) y0_0 ([] ++ [x4])) (none)) (spec_Open.l3 k n (IntKind.wrap .i64 (x4 + 1)) y0_0))) (some []) := by kernel_rfl
theorem spec_Open.l3b_0 (k : Nat) (x4 : Int) (y0_0 : (List (ByteArray × Int × Int × (List (Int × Int × Int × Int × Int × ByteArray × (List Int) × Unit)) × Unit)) × (List ((List (Int × Int × (List Int) × Int × Unit)) × Bool × Bool × Int × Int × Int × Int × Int × Unit)) × (List (Int × Bool × (List Int) × (List (Int × Int × Int × Int × Unit)) × (List (Int × Int × Int × Int × Unit)) × Unit)) × (List Int) × Bool × Int × Unit) (y1 : List Int) : spec_Open.l3b k 0 x4 y0_0 y1 = none := by kernel_rfl
theorem spec_Open.l3b_s (k n : Nat) (x4 : Int) (y0_0 : (List (ByteArray × Int × Int × (List (Int × Int × Int × Int × Int × ByteArray × (List Int) × Unit)) × Unit)) × (List ((List (Int × Int × (List Int) × Int × Unit)) × Bool × Bool × Int × Int × Int × Int × Int × Unit)) × (List (Int × Bool × (List Int) × (List (Int × Int × Int × Int × Unit)) × (List (Int × Int × Int × Int × Unit)) × Unit)) × (List Int) × Bool × Int × Unit) (y1 : List Int) : spec_Open.l3b k (n + 1) x4 y0_0 y1 =
  iteB (decide (x4 < ((List.length y0_0.2.1) : Int))) (bindO (spec_l13Open k y0_0 x4) fun r2 => (iteB r2 (iteB (decide ((List.length (y1 ++ [x4])) * 8 ≤ lim)) (spec_Open.l3b k n (IntKind.wrap .i64 (x4 + 1)) y0_0 (y1 ++ [x4])) (none)) (spec_Open.l3b k n (IntKind.wrap .i64 (x4 + 1)) y0_0 y1))) (some y1) := by kernel_rfl
theorem spec_Open_e (k : Nat) (a1 : (List (ByteArray × Int × Int × (List (Int × Int × Int × Int × Int × ByteArray × (List Int) × Unit)) × Unit)) × (List ((List (Int × Int × (List Int) × Int × Unit)) × Bool × Bool × Int × Int × Int × Int × Int × Unit)) × (List (Int × Bool × (List Int) × (List (Int × Int × Int × Int × Unit)) × (List (Int × Int × Int × Int × Unit)) × Unit)) × (List Int) × Bool × Int × Unit) : spec_Open k a1 =
  spec_Open.l3 k k 0 a1 := by kernel_rfl
theorem E_spec_Open_calls (k : Nat) : CallsOk Tryz.prog (E_spec_Open k) (arun Tryz.prog (E_spec_Open k) k) := by
  refine told_run (tyTOk _ _) ?_ (fun run h => regOk (tyTOk _ _) mixOk h) ?_ nameOk k
  · intro g m hg
    simp only [E_spec_Open] at hg
    split at hg
    · cases hg
      refine con_byVal fun ρ l K x hm => ?_
      split at hm
      · obtain ⟨c1, h1, hm⟩ := Option.bind_eq_some_iff.1 hm
        obtain ⟨c2, h2, hm⟩ := Option.bind_eq_some_iff.1 hm
        obtain ⟨r, hr, hm⟩ := Option.bind_eq_some_iff.1 hm
        exact ⟨_, hm, LawV.reads (.cons (.as h1) (.cons (.as h2) .nil)) (spec_l13Open_law k c1 c2 r hr)⟩
      · cases hm
    · cases hg; exact noCon_ok
    · cases hg
  · intro g hg r
    by_cases h : g = 14
    · subst h; simp [E_spec_Open] at hg
    · simp [E_spec_Open, h]
theorem f14_okspec_Open : Tryz.prog.funcs[14]? = some Tryz.f14 := by kernel_rfl
theorem spec_Open_law (k : Nat) (a1 : (List (ByteArray × Int × Int × (List (Int × Int × Int × Int × Int × ByteArray × (List Int) × Unit)) × Unit)) × (List ((List (Int × Int × (List Int) × Int × Unit)) × Bool × Bool × Int × Int × Int × Int × Int × Unit)) × (List (Int × Bool × (List Int) × (List (Int × Int × Int × Int × Unit)) × (List (Int × Int × Int × Int × Unit)) × Unit)) × (List Int) × Bool × Int × Unit) (x : List Int) (h : spec_Open k a1 = some x) : LawV Tryz.prog 14 [.tv (.pair (.row (.pair .str (.pair (.int .i64) (.pair (.int .i64) (.pair (.row (.pair (.int .i64) (.pair (.int .i64) (.pair (.int .i64) (.pair (.int .i64) (.pair (.int .i64) (.pair .str (.pair (.row (.int .i64)) .unit)))))))) .unit))))) (.pair (.row (.pair (.row (.pair (.int .i64) (.pair (.int .i64) (.pair (.row (.int .i64)) (.pair (.int .i64) .unit))))) (.pair .bool (.pair .bool (.pair (.int .i64) (.pair (.int .i64) (.pair (.int .i64) (.pair (.int .i64) (.pair (.int .i64) .unit))))))))) (.pair (.row (.pair (.int .i64) (.pair .bool (.pair (.row (.int .i64)) (.pair (.row (.pair (.int .i64) (.pair (.int .i64) (.pair (.int .i64) (.pair (.int .i64) .unit))))) (.pair (.row (.pair (.int .i64) (.pair (.int .i64) (.pair (.int .i64) (.pair (.int .i64) .unit))))) .unit)))))) (.pair (.row (.int .i64)) (.pair .bool (.pair (.int .i64) .unit)))))) a1] (tvn (.row (.int .i64)) x) := by
  unfold spec_Open at h
  exact law1 (t := (.row (.int .i64))) (tyTOk _ _) (E_spec_Open_calls k) mixOk f14_okspec_Open (nameOk _ _ f14_okspec_Open) (by kernel_rfl) h
/-! spec.Stuck -/
noncomputable def E_spec_Stuck (k : Nat) : Env := ⟨ty, fun g => match g with
  | 13 => some (byVal fun ρ l K => match l with
    | [b1] => (b1.as (.pair (.row (.pair .str (.pair (.int .i64) (.pair (.int .i64) (.pair (.row (.pair (.int .i64) (.pair (.int .i64) (.pair (.int .i64) (.pair (.int .i64) (.pair (.int .i64) (.pair .str (.pair (.row (.int .i64)) .unit)))))))) .unit))))) (.pair (.row (.pair (.row (.pair (.int .i64) (.pair (.int .i64) (.pair (.row (.int .i64)) (.pair (.int .i64) .unit))))) (.pair .bool (.pair .bool (.pair (.int .i64) (.pair (.int .i64) (.pair (.int .i64) (.pair (.int .i64) (.pair (.int .i64) .unit))))))))) (.pair (.row (.pair (.int .i64) (.pair .bool (.pair (.row (.int .i64)) (.pair (.row (.pair (.int .i64) (.pair (.int .i64) (.pair (.int .i64) (.pair (.int .i64) .unit))))) (.pair (.row (.pair (.int .i64) (.pair (.int .i64) (.pair (.int .i64) (.pair (.int .i64) .unit))))) .unit)))))) (.pair (.row (.int .i64)) (.pair .bool (.pair (.int .i64) .unit))))))).bind fun c1 => (spec_WorldOk k c1).bind fun r => K (tvn .bool r)
    | _ => none)
  | 14 => some (byVal fun ρ l K => match l with
    | [b1] => (b1.as (.pair (.row (.pair .str (.pair (.int .i64) (.pair (.int .i64) (.pair (.row (.pair (.int .i64) (.pair (.int .i64) (.pair (.int .i64) (.pair (.int .i64) (.pair (.int .i64) (.pair .str (.pair (.row (.int .i64)) .unit)))))))) .unit))))) (.pair (.row (.pair (.row (.pair (.int .i64) (.pair (.int .i64) (.pair (.row (.int .i64)) (.pair (.int .i64) .unit))))) (.pair .bool (.pair .bool (.pair (.int .i64) (.pair (.int .i64) (.pair (.int .i64) (.pair (.int .i64) (.pair (.int .i64) .unit))))))))) (.pair (.row (.pair (.int .i64) (.pair .bool (.pair (.row (.int .i64)) (.pair (.row (.pair (.int .i64) (.pair (.int .i64) (.pair (.int .i64) (.pair (.int .i64) .unit))))) (.pair (.row (.pair (.int .i64) (.pair (.int .i64) (.pair (.int .i64) (.pair (.int .i64) .unit))))) .unit)))))) (.pair (.row (.int .i64)) (.pair .bool (.pair (.int .i64) .unit))))))).bind fun c1 => (spec_Open k c1).bind fun r => K (tvn (.row (.int .i64)) r)
    | _ => none)
  | _ => none, fun _ _ => none⟩
noncomputable def spec_Stuck (k : Nat) (a1 : (List (ByteArray × Int × Int × (List (Int × Int × Int × Int × Int × ByteArray × (List Int) × Unit)) × Unit)) × (List ((List (Int × Int × (List Int) × Int × Unit)) × Bool × Bool × Int × Int × Int × Int × Int × Unit)) × (List (Int × Bool × (List Int) × (List (Int × Int × Int × Int × Unit)) × (List (Int × Int × Int × Int × Unit)) × Unit)) × (List Int) × Bool × Int × Unit) : Option (Bool) :=
  abody (E_spec_Stuck k) (arun Tryz.prog (E_spec_Stuck k) k) k 5 Tryz.f5 [.tv (.pair (.row (.pair .str (.pair (.int .i64) (.pair (.int .i64) (.pair (.row (.pair (.int .i64) (.pair (.int .i64) (.pair (.int .i64) (.pair (.int .i64) (.pair (.int .i64) (.pair .str (.pair (.row (.int .i64)) .unit)))))))) .unit))))) (.pair (.row (.pair (.row (.pair (.int .i64) (.pair (.int .i64) (.pair (.row (.int .i64)) (.pair (.int .i64) .unit))))) (.pair .bool (.pair .bool (.pair (.int .i64) (.pair (.int .i64) (.pair (.int .i64) (.pair (.int .i64) (.pair (.int .i64) .unit))))))))) (.pair (.row (.pair (.int .i64) (.pair .bool (.pair (.row (.int .i64)) (.pair (.row (.pair (.int .i64) (.pair (.int .i64) (.pair (.int .i64) (.pair (.int .i64) .unit))))) (.pair (.row (.pair (.int .i64) (.pair (.int .i64) (.pair (.int .i64) (.pair (.int .i64) .unit))))) .unit)))))) (.pair (.row (.int .i64)) (.pair .bool (.pair (.int .i64) .unit)))))) a1] [] (fin1 .bool)
theorem spec_Stuck_e (k : Nat) (a1 : (List (ByteArray × Int × Int × (List (Int × Int × Int × Int × Int × ByteArray × (List Int) × Unit)) × Unit)) × (List ((List (Int × Int × (List Int) × Int × Unit)) × Bool × Bool × Int × Int × Int × Int × Int × Unit)) × (List (Int × Bool × (List Int) × (List (Int × Int × Int × Int × Unit)) × (List (Int × Int × Int × Int × Unit)) × Unit)) × (List Int) × Bool × Int × Unit) : spec_Stuck k a1 =
  bindO (spec_WorldOk k a1) fun r1 => (iteB r1 (iteB (!a1.2.2.2.2.1) (bindO (spec_Open k a1) fun r2 => (some (((List.length r2) : Int) == 0))) (some false)) (some false)) := by kernel_rfl
theorem E_spec_Stuck_calls (k : Nat) : CallsOk Tryz.prog (E_spec_Stuck k) (arun Tryz.prog (E_spec_Stuck k) k) := by
  refine told_run (tyTOk _ _) ?_ (fun run h => regOk (tyTOk _ _) mixOk h) ?_ nameOk k
  · intro g m hg
    simp only [E_spec_Stuck] at hg
    split at hg
    · cases hg
      refine con_byVal fun ρ l K x hm => ?_
      split at hm
      · obtain ⟨c1, h1, hm⟩ := Option.bind_eq_some_iff.1 hm
        obtain ⟨r, hr, hm⟩ := Option.bind_eq_some_iff.1 hm
        exact ⟨_, hm, LawV.reads (.cons (.as h1) .nil) (spec_WorldOk_law k c1 r hr)⟩
      · cases hm
    · cases hg
      refine con_byVal fun ρ l K x hm => ?_
      split at hm
      · obtain ⟨c1, h1, hm⟩ := Option.bind_eq_some_iff.1 hm
        obtain ⟨r, hr, hm⟩ := Option.bind_eq_some_iff.1 hm
        exact ⟨_, hm, LawV.reads (.cons (.as h1) .nil) (spec_Open_law k c1 r hr)⟩
      · cases hm
    · cases hg
  · intro g _ r; rfl
theorem f5_okspec_Stuck : Tryz.prog.funcs[5]? = some Tryz.f5 := by kernel_rfl
theorem spec_Stuck_law (k : Nat) (a1 : (List (ByteArray × Int × Int × (List (Int × Int × Int × Int × Int × ByteArray × (List Int) × Unit)) × Unit)) × (List ((List (Int × Int × (List Int) × Int × Unit)) × Bool × Bool × Int × Int × Int × Int × Int × Unit)) × (List (Int × Bool × (List Int) × (List (Int × Int × Int × Int × Unit)) × (List (Int × Int × Int × Int × Unit)) × Unit)) × (List Int) × Bool × Int × Unit) (x : Bool) (h : spec_Stuck k a1 = some x) : LawV Tryz.prog 5 [.tv (.pair (.row (.pair .str (.pair (.int .i64) (.pair (.int .i64) (.pair (.row (.pair (.int .i64) (.pair (.int .i64) (.pair (.int .i64) (.pair (.int .i64) (.pair (.int .i64) (.pair .str (.pair (.row (.int .i64)) .unit)))))))) .unit))))) (.pair (.row (.pair (.row (.pair (.int .i64) (.pair (.int .i64) (.pair (.row (.int .i64)) (.pair (.int .i64) .unit))))) (.pair .bool (.pair .bool (.pair (.int .i64) (.pair (.int .i64) (.pair (.int .i64) (.pair (.int .i64) (.pair (.int .i64) .unit))))))))) (.pair (.row (.pair (.int .i64) (.pair .bool (.pair (.row (.int .i64)) (.pair (.row (.pair (.int .i64) (.pair (.int .i64) (.pair (.int .i64) (.pair (.int .i64) .unit))))) (.pair (.row (.pair (.int .i64) (.pair (.int .i64) (.pair (.int .i64) (.pair (.int .i64) .unit))))) .unit)))))) (.pair (.row (.int .i64)) (.pair .bool (.pair (.int .i64) .unit)))))) a1] (tvn .bool x) := by
  unfold spec_Stuck at h
  exact law1 (t := .bool) (tyTOk _ _) (E_spec_Stuck_calls k) mixOk f5_okspec_Stuck (nameOk _ _ f5_okspec_Stuck) (by kernel_rfl) h
/-! impl.within -/
noncomputable def E_impl_within (k : Nat) : Env := ⟨ty, fun _ => none, fun _ _ => none⟩
noncomputable def impl_within (k : Nat) (a1 : Int) (a2 : Int) (a3 : Int) : Option (Bool) :=
  abody (E_impl_within k) (arun Tryz.prog (E_impl_within k) k) k 39 Tryz.f39 [.int .i64 a1, .int .i64 a2, .int .i64 a3] [] (fin1 .bool)
theorem impl_within_e (k : Nat) (a1 : Int) (a2 : Int) (a3 : Int) : impl_within k a1 a2 a3 =
  iteB (decide (a1 ≥ a2)) (some (decide (a1 ≤ a3))) (some false) := by kernel_rfl
theorem E_impl_within_calls (k : Nat) : CallsOk Tryz.prog (E_impl_within k) (arun Tryz.prog (E_impl_within k) k) := by
  refine told_run (tyTOk _ _) ?_ (fun run h => regOk (tyTOk _ _) mixOk h) ?_ nameOk k
  · intro g m hg
    cases hg
  · intro g _ r; rfl
theorem f39_okimpl_within : Tryz.prog.funcs[39]? = some Tryz.f39 := by kernel_rfl
theorem impl_within_law (k : Nat) (a1 : Int) (a2 : Int) (a3 : Int) (x : Bool) (h : impl_within k a1 a2 a3 = some x) : LawV Tryz.prog 39 [.int .i64 a1, .int .i64 a2, .int .i64 a3] (tvn .bool x) := by
  unfold impl_within at h
  exact law1 (t := .bool) (tyTOk _ _) (E_impl_within_calls k) mixOk f39_okimpl_within (nameOk _ _ f39_okimpl_within) (by kernel_rfl) h
/-! impl.owns -/
noncomputable def E_impl_owns (k : Nat) : Env := ⟨ty, fun _ => none, fun _ _ => none⟩
noncomputable def impl_owns (k : Nat) (a1 : Int) : Option (ByteArray) :=
  abody (E_impl_owns k) (arun Tryz.prog (E_impl_owns k) k) k 89 Tryz.f89 [.int .i64 a1] [] (fin1 .str)
theorem impl_owns_e (k : Nat) (a1 : Int) : impl_owns k a1 =
  iteB (a1 == 1) (some (⟨#[68, 78]⟩ : ByteArray)) (iteB (a1 == 2) (some (⟨#[68, 65]⟩ : ByteArray)) (iteB (a1 == 15) (some (⟨#[68, 65]⟩ : ByteArray)) (iteB (a1 == 17) (some (⟨#[68, 65]⟩ : ByteArray)) (iteB (a1 == 20) (some (⟨#[68, 65]⟩ : ByteArray)) (iteB (a1 == 3) (some (⟨#[68, 65, 66]⟩ : ByteArray)) (iteB (a1 == 4) (some (⟨#[68, 65, 66]⟩ : ByteArray)) (iteB (a1 == 5) (some (⟨#[68, 65, 66]⟩ : ByteArray)) (iteB (a1 == 6) (some (⟨#[68, 65, 66]⟩ : ByteArray)) (iteB (a1 == 7) (some (⟨#[68, 65, 66]⟩ : ByteArray)) (iteB (a1 == 8) (some (⟨#[78]⟩ : ByteArray)) (iteB (a1 == 9) (some (⟨#[78]⟩ : ByteArray)) (iteB (a1 == 10) (some (⟨#[65, 78]⟩ : ByteArray)) (iteB (a1 == 11) (some (⟨#[68, 83, 88]⟩ : ByteArray)) (iteB (a1 == 12) (some (⟨#[65]⟩ : ByteArray)) (iteB (a1 == 13) (some (⟨#[65]⟩ : ByteArray)) (iteB (a1 == 18) (some (⟨#[65]⟩ : ByteArray)) (iteB (a1 == 25) (some (⟨#[65]⟩ : ByteArray)) (iteB (a1 == 28) (some (⟨#[65]⟩ : ByteArray)) (iteB (a1 == 14) (some (⟨#[83, 88]⟩ : ByteArray)) (iteB (a1 == 16) (some (⟨#[65, 66]⟩ : ByteArray)) (iteB (a1 == 21) (some (⟨#[65, 66]⟩ : ByteArray)) (iteB (a1 == 26) (some (⟨#[65, 66]⟩ : ByteArray)) (iteB (a1 == 27) (some (⟨#[65, 66]⟩ : ByteArray)) (iteB (a1 == 19) (some (⟨#[68, 66, 78, 88]⟩ : ByteArray)) (iteB (a1 == 22) (some (⟨#[68, 65, 66, 88]⟩ : ByteArray)) (iteB (a1 == 23) (some (⟨#[68]⟩ : ByteArray)) (iteB (a1 == 24) (some (⟨#[68, 83]⟩ : ByteArray)) (some (⟨#[]⟩ : ByteArray))))))))))))))))))))))))))))) := by kernel_rfl
theorem E_impl_owns_calls (k : Nat) : CallsOk Tryz.prog (E_impl_owns k) (arun Tryz.prog (E_impl_owns k) k) := by
  refine told_run (tyTOk _ _) ?_ (fun run h => regOk (tyTOk _ _) mixOk h) ?_ nameOk k
  · intro g m hg
    cases hg
  · intro g _ r; rfl
theorem f89_okimpl_owns : Tryz.prog.funcs[89]? = some Tryz.f89 := by kernel_rfl
theorem impl_owns_law (k : Nat) (a1 : Int) (x : ByteArray) (h : impl_owns k a1 = some x) : LawV Tryz.prog 89 [.int .i64 a1] (tvn .str x) := by
  unfold impl_owns at h
  exact law1 (t := .str) (tyTOk _ _) (E_impl_owns_calls k) mixOk f89_okimpl_owns (nameOk _ _ f89_okimpl_owns) (by kernel_rfl) h
/-! impl.WordOk -/
noncomputable def E_impl_WordOk (k : Nat) : Env := ⟨ty, fun g => match g with
  | 39 => some (byVal fun ρ l K => match l with
    | [b1, b2, b3] => (b1.as (.int .i64)).bind fun c1 => (b2.as (.int .i64)).bind fun c2 => (b3.as (.int .i64)).bind fun c3 => (impl_within k c1 c2 c3).bind fun r => K (tvn .bool r)
    | _ => none)
  | _ => none, fun _ _ => none⟩
noncomputable def impl_WordOk (k : Nat) (a1 : Int) : Option (Bool) :=
  abody (E_impl_WordOk k) (arun Tryz.prog (E_impl_WordOk k) k) k 47 Tryz.f47 [.int .i64 a1] [] (fin1 .bool)
theorem impl_WordOk_e (k : Nat) (a1 : Int) : impl_WordOk k a1 =
  bindO (impl_within k a1 (-2147483648) 2147483647) fun r1 => (some r1) := by kernel_rfl
theorem E_impl_WordOk_calls (k : Nat) : CallsOk Tryz.prog (E_impl_WordOk k) (arun Tryz.prog (E_impl_WordOk k) k) := by
  refine told_run (tyTOk _ _) ?_ (fun run h => regOk (tyTOk _ _) mixOk h) ?_ nameOk k
  · intro g m hg
    simp only [E_impl_WordOk] at hg
    split at hg
    · cases hg
      refine con_byVal fun ρ l K x hm => ?_
      split at hm
      · obtain ⟨c1, h1, hm⟩ := Option.bind_eq_some_iff.1 hm
        obtain ⟨c2, h2, hm⟩ := Option.bind_eq_some_iff.1 hm
        obtain ⟨c3, h3, hm⟩ := Option.bind_eq_some_iff.1 hm
        obtain ⟨r, hr, hm⟩ := Option.bind_eq_some_iff.1 hm
        exact ⟨_, hm, LawV.reads (.cons (.as h1) (.cons (.as h2) (.cons (.as h3) .nil))) (impl_within_law k c1 c2 c3 r hr)⟩
      · cases hm
    · cases hg
  · intro g _ r; rfl
theorem f47_okimpl_WordOk : Tryz.prog.funcs[47]? = some Tryz.f47 := by kernel_rfl
theorem impl_WordOk_law (k : Nat) (a1 : Int) (x : Bool) (h : impl_WordOk k a1 = some x) : LawV Tryz.prog 47 [.int .i64 a1] (tvn .bool x) := by
  unfold impl_WordOk at h
  exact law1 (t := .bool) (tyTOk _ _) (E_impl_WordOk_calls k) mixOk f47_okimpl_WordOk (nameOk _ _ f47_okimpl_WordOk) (by kernel_rfl) h
/-! slices.Index[[]byte,byte] -/
noncomputable def E_slices_Index_byte (k : Nat) : Env := ⟨ty, fun g => match g with
  | 106 => some noCon
  | _ => none, fun f r => match f with | 106 => (match r with | 2 => some [0, 1, 7, 8] | _ => none) | _ => none⟩
noncomputable def slices_Index_byte (k : Nat) (a1 : List Int) (a2 : Int) : Option (Int) :=
  abody (E_slices_Index_byte k) (arun Tryz.prog (E_slices_Index_byte k) k) k 106 Tryz.f106 [.tv (.row (.int .u8)) a1, .int .u8 a2] [] (fin1 (.int .i64))
noncomputable def slices_Index_byte.l2 (k n : Nat) (x0 : List Int) (x1 : Int) (x7 : Int) (x8 : Int) : Option (Int) :=
  resume (E_slices_Index_byte k) 106 (acall (E_slices_Index_byte k) (arun Tryz.prog (E_slices_Index_byte k) k)) k [true, false, true, true] [n] (bodyOf Tryz.f106) ⟨[.tv (.row (.int .u8)) x0, .int .u8 x1, .undef, .undef, .undef, .undef, .undef, .int .i64 x7, .int .i64 x8, .undef, .undef, .undef, .undef, .undef, .undef, .undef, .undef, .undef, .undef], []⟩ (leave (E_slices_Index_byte k) Tryz.f106 (fin1 (.int .i64)))
theorem slices_Index_byte.l2_0 (k : Nat) (x0 : List Int) (x1 : Int) (x7 : Int) (x8 : Int) : slices_Index_byte.l2 k 0 x0 x1 x7 x8 = none := by kernel_rfl
theorem slices_Index_byte.l2_s (k n : Nat) (x0 : List Int) (x1 : Int) (x7 : Int) (x8 : Int) : slices_Index_byte.l2 k (n + 1) x0 x1 x7 x8 =
  iteB (decide (x8 < x7)) (iteB (decide (0 ≤ x8)) (iteB (decide (x8 < ((List.length x0) : Int))) (iteB (x1 == (List.getD x0 (Int.toNat x8) 0)) (some x8) (slices_Index_byte.l2 k n x0 x1 x7 (IntKind.wrap .i64 (x8 + 1)))) (none)) (none)) (some (-1)) := by kernel_rfl
theorem slices_Index_byte_e (k : Nat) (a1 : List Int) (a2 : Int) : slices_Index_byte k a1 a2 =
  slices_Index_byte.l2 k k a1 a2 ((List.length a1) : Int) 0 := by kernel_rfl
theorem E_slices_Index_byte_calls (k : Nat) : CallsOk Tryz.prog (E_slices_Index_byte k) (arun Tryz.prog (E_slices_Index_byte k) k) := by
  refine told_run (tyTOk _ _) ?_ (fun run h => regOk (tyTOk _ _) mixOk h) ?_ nameOk k
  · intro g m hg
    simp only [E_slices_Index_byte] at hg
    split at hg
    · cases hg; exact noCon_ok
    · cases hg
  · intro g hg r
    by_cases h : g = 106
    · subst h; simp [E_slices_Index_byte] at hg
    · simp [E_slices_Index_byte, h]
theorem f106_okslices_Index_byte : Tryz.prog.funcs[106]? = some Tryz.f106 := by kernel_rfl
theorem slices_Index_byte_law (k : Nat) (a1 : List Int) (a2 : Int) (x : Int) (h : slices_Index_byte k a1 a2 = some x) : LawV Tryz.prog 106 [.tv (.row (.int .u8)) a1, .int .u8 a2] (tvn (.int .i64) x) := by
  unfold slices_Index_byte at h
  exact law1 (t := (.int .i64)) (tyTOk _ _) (E_slices_Index_byte_calls k) mixOk f106_okslices_Index_byte (nameOk _ _ f106_okslices_Index_byte) (by kernel_rfl) h
/-! slices.Contains[[]byte,byte] -/
noncomputable def E_slices_Contains_byte (k : Nat) : Env := ⟨ty, fun g => match g with
  | 106 => some (byVal fun ρ l K => match l with
    | [b1, b2] => (b1.as (.row (.int .u8))).bind fun c1 => (b2.as (.int .u8)).bind fun c2 => (slices_Index_byte k c1 c2).bind fun r => K (tvn (.int .i64) r)
    | _ => none)
  | _ => none, fun _ _ => none⟩
noncomputable def slices_Contains_byte (k : Nat) (a1 : List Int) (a2 : Int) : Option (Bool) :=
  abody (E_slices_Contains_byte k) (arun Tryz.prog (E_slices_Contains_byte k) k) k 88 Tryz.f88 [.tv (.row (.int .u8)) a1, .int .u8 a2] [] (fin1 .bool)
theorem slices_Contains_byte_e (k : Nat) (a1 : List Int) (a2 : Int) : slices_Contains_byte k a1 a2 =
  bindO (slices_Index_byte k a1 a2) fun r1 => (some (decide (r1 ≥ 0))) := by kernel_rfl
theorem E_slices_Contains_byte_calls (k : Nat) : CallsOk Tryz.prog (E_slices_Contains_byte k) (arun Tryz.prog (E_slices_Contains_byte k) k) := by
  refine told_run (tyTOk _ _) ?_ (fun run h => regOk (tyTOk _ _) mixOk h) ?_ nameOk k
  · intro g m hg
    simp only [E_slices_Contains_byte] at hg
    split at hg
    · cases hg
      refine con_byVal fun ρ l K x hm => ?_
      split at hm
      · obtain ⟨c1, h1, hm⟩ := Option.bind_eq_some_iff.1 hm
        obtain ⟨c2, h2, hm⟩ := Option.bind_eq_some_iff.1 hm
        obtain ⟨r, hr, hm⟩ := Option.bind_eq_some_iff.1 hm
        exact ⟨_, hm, LawV.reads (.cons (.as h1) (.cons (.as h2) .nil)) (slices_Index_byte_law k c1 c2 r hr)⟩
      · cases hm
    · cases hg
  · intro g _ r; rfl
theorem f88_okslices_Contains_byte : Tryz.prog.funcs[88]? = some Tryz.f88 := by kernel_rfl
theorem slices_Contains_byte_law (k : Nat) (a1 : List Int) (a2 : Int) (x : Bool) (h : slices_Contains_byte k a1 a2 = some x) : LawV Tryz.prog 88 [.tv (.row (.int .u8)) a1, .int .u8 a2] (tvn .bool x) := by
  unfold slices_Contains_byte at h
  exact law1 (t := .bool) (tyTOk _ _) (E_slices_Contains_byte_calls k) mixOk f88_okslices_Contains_byte (nameOk _ _ f88_okslices_Contains_byte) (by kernel_rfl) h
/-! impl.owned -/
noncomputable def E_impl_owned (k : Nat) : Env := ⟨ty, fun g => match g with
  | 89 => some (byVal fun ρ l K => match l with
    | [b1] => (b1.as (.int .i64)).bind fun c1 => (impl_owns k c1).bind fun r => K (tvn .str r)
    | _ => none)
  | 88 => some (byVal fun ρ l K => match l with
    | [b1, b2] => (b1.as (.row (.int .u8))).bind fun c1 => (b2.as (.int .u8)).bind fun c2 => (slices_Contains_byte k c1 c2).bind fun r => K (tvn .bool r)
    | _ => none)
  | _ => none, fun _ _ => none⟩
noncomputable def impl_owned (k : Nat) (a1 : Int) (a2 : Int) : Option (Bool) :=
  abody (E_impl_owned k) (arun Tryz.prog (E_impl_owned k) k) k 62 Tryz.f62 [.int .i64 a1, .int .u8 a2] [] (fin1 .bool)
theorem impl_owned_e (k : Nat) (a1 : Int) (a2 : Int) : impl_owned k a1 a2 =
  bindO (impl_owns k a1) fun r1 => (bindO (slices_Contains_byte k (valBytes r1) a2) fun r2 => (some r2)) := by kernel_rfl
theorem E_impl_owned_calls (k : Nat) : CallsOk Tryz.prog (E_impl_owned k) (arun Tryz.prog (E_impl_owned k) k) := by
  refine told_run (tyTOk _ _) ?_ (fun run h => regOk (tyTOk _ _) mixOk h) ?_ nameOk k
  · intro g m hg
    simp only [E_impl_owned] at hg
    split at hg
    · cases hg
      refine con_byVal fun ρ l K x hm => ?_
      split at hm
      · obtain ⟨c1, h1, hm⟩ := Option.bind_eq_some_iff.1 hm
        obtain ⟨r, hr, hm⟩ := Option.bind_eq_some_iff.1 hm
        exact ⟨_, hm, LawV.reads (.cons (.as h1) .nil) (impl_owns_law k c1 r hr)⟩
      · cases hm
    · cases hg
      refine con_byVal fun ρ l K x hm => ?_
      split at hm
      · obtain ⟨c1, h1, hm⟩ := Option.bind_eq_some_iff.1 hm
        obtain ⟨c2, h2, hm⟩ := Option.bind_eq_some_iff.1 hm
        obtain ⟨r, hr, hm⟩ := Option.bind_eq_some_iff.1 hm
        exact ⟨_, hm, LawV.reads (.cons (.as h1) (.cons (.as h2) .nil)) (slices_Contains_byte_law k c1 c2 r hr)⟩
      · cases hm
    · cases hg
  · intro g _ r; rfl
theorem f62_okimpl_owned : Tryz.prog.funcs[62]? = some Tryz.f62 := by kernel_rfl
theorem impl_owned_law (k : Nat) (a1 : Int) (a2 : Int) (x : Bool) (h : impl_owned k a1 a2 = some x) : LawV Tryz.prog 62 [.int .i64 a1, .int .u8 a2] (tvn .bool x) := by
  unfold impl_owned at h
  exact law1 (t := .bool) (tyTOk _ _) (E_impl_owned_calls k) mixOk f62_okimpl_owned (nameOk _ _ f62_okimpl_owned) (by kernel_rfl) h
/-! impl.argsOk -/
noncomputable def E_impl_argsOk (k : Nat) : Env := ⟨ty, fun g => match g with
  | 62 => some (byVal fun ρ l K => match l with
    | [b1, b2] => (b1.as (.int .i64)).bind fun c1 => (b2.as (.int .u8)).bind fun c2 => (impl_owned k c1 c2).bind fun r => K (tvn .bool r)
    | _ => none)
  | 39 => some (byVal fun ρ l K => match l with
    | [b1, b2, b3] => (b1.as (.int .i64)).bind fun c1 => (b2.as (.int .i64)).bind fun c2 => (b3.as (.int .i64)).bind fun c3 => (impl_within k c1 c2 c3).bind fun r => K (tvn .bool r)
    | _ => none)
  | 100 => some noCon
  | _ => none, fun f r => match f with | 100 => (match r with | 3 => some [2, 5] | _ => none) | _ => none⟩
noncomputable def impl_argsOk (k : Nat) (a1 : Int × Int × Int × Int × Int × ByteArray × (List Int) × Unit) (a2 : Int) : Option (Bool) :=
  abody (E_impl_argsOk k) (arun Tryz.prog (E_impl_argsOk k) k) k 100 Tryz.f100 [.tv (.pair (.int .i64) (.pair (.int .i64) (.pair (.int .i64) (.pair (.int .i64) (.pair (.int .i64) (.pair .str (.pair (.row (.int .i64)) .unit))))))) a1, .int .i64 a2] [] (fin1 .bool)
noncomputable def impl_argsOk.l3 (k n : Nat) (x5 : Int) (y0_0 : Int × Int × Int × Int × Int × ByteArray × (List Int) × Unit) : Option (Bool) :=
  resume (E_impl_argsOk k) 100 (acall (E_impl_argsOk k) (arun Tryz.prog (E_impl_argsOk k) k)) k [true, false, true, true, false, false, true, true] [n] (bodyOf Tryz.f100) ⟨[.undef, .undef, .ptr 0 0 0, .undef, .undef, .int .i64 x5, .undef, .undef, .undef, .undef, .undef, .undef, .undef, .undef, .undef, .undef, .undef, .undef, .undef, .undef, .undef, .undef, .undef, .undef, .undef, .undef, .undef, .undef, .undef, .undef, .undef, .undef, .undef, .undef, .undef, .undef, .undef, .undef, .undef, .undef, .undef, .undef, .undef, .undef, .undef, .undef, .undef, .undef, .undef, .undef, .undef, .undef, .undef, .undef, .undef, .undef, .undef, .undef, .undef, .undef, .undef, .undef, .undef, .undef, .undef, .undef, .undef, .undef, .undef, .undef, .undef, .undef, .undef, .undef, .undef, .undef, .undef, .undef, .undef], [some ⟨.raw true 7 (.agg [.int .i64 0, .int .i64 0, .int .i64 0, .int .i64 0, .int .i64 0, .str ByteArray.empty, .nils]) [.tv (.pair (.int .i64) (.pair (.int .i64) (.pair (.int .i64) (.pair (.int .i64) (.pair (.int .i64) (.pair .str (.pair (.row (.int .i64)) .unit))))))) y0_0], true⟩]⟩ (leave (E_impl_argsOk k) Tryz.f100 (fin1 .bool))
theorem impl_argsOk.l3_0 (k : Nat) (x5 : Int) (y0_0 : Int × Int × Int × Int × Int × ByteArray × (List Int) × Unit) : impl_argsOk.l3 k 0 x5 y0_0 = none := by kernel_rfl
theorem impl_argsOk.l3_s (k n : Nat) (x5 : Int) (y0_0 : Int × Int × Int × Int × Int × ByteArray × (List Int) × Unit) : impl_argsOk.l3 k (n + 1) x5 y0_0 =
  iteB (decide (IntKind.wrap .i64 (x5 + 2) < ((List.length y0_0.2.2.2.2.2.2.1) : Int))) (iteB (decide (0 ≤ x5)) (iteB (decide (x5 < ((List.length y0_0.2.2.2.2.2.2.1) : Int))) (bindO (impl_within k (List.getD y0_0.2.2.2.2.2.2.1 (Int.toNat x5) 0) 1 2) fun r2 => (iteB (!(!r2)) (iteB (decide (0 ≤ x5)) (iteB (decide (x5 < ((List.length y0_0.2.2.2.2.2.2.1) : Int))) (iteB ((List.getD y0_0.2.2.2.2.2.2.1 (Int.toNat x5) 0) == 1) (iteB (decide (0 ≤ IntKind.wrap .i64 (x5 + 2))) (iteB (decide (IntKind.wrap .i64 (x5 + 2) < ((List.length y0_0.2.2.2.2.2.2.1) : Int))) (iteB ((List.getD y0_0.2.2.2.2.2.2.1 (Int.toNat (IntKind.wrap .i64 (x5 + 2))) 0) != 0) (some false) (impl_argsOk.l3 k n (IntKind.wrap .i64 (x5 + 3)) y0_0)) (none)) (none)) (impl_argsOk.l3 k n (IntKind.wrap .i64 (x5 + 3)) y0_0)) (none)) (none)) (some false))) (none)) (none)) (iteB ((Int.tmod ((List.length y0_0.2.2.2.2.2.2.1) : Int) 3) == 0) (bindO (impl_within k ((List.length y0_0.2.2.2.2.2.2.1) : Int) 3 9) fun r3 => (iteB r3 (bindO (impl_within k y0_0.2.2.2.2.1 0 1) fun r4 => (some r4)) (some false))) (some false)) := by kernel_rfl
theorem impl_argsOk_e (k : Nat) (a1 : Int × Int × Int × Int × Int × ByteArray × (List Int) × Unit) (a2 : Int) : impl_argsOk k a1 a2 =
  iteB (a1.1 == 19) (impl_argsOk.l3 k k 0 a1) (iteB (a1.1 == 22) (some (((List.length a1.2.2.2.2.2.2.1) : Int) == 1)) (bindO (impl_owned k a1.1 88) fun r1 => (iteB (!r1) (some (((List.length a1.2.2.2.2.2.2.1) : Int) == 0)) (some (decide (((List.length a1.2.2.2.2.2.2.1) : Int) ≤ 4)))))) := by kernel_rfl
theorem E_impl_argsOk_calls (k : Nat) : CallsOk Tryz.prog (E_impl_argsOk k) (arun Tryz.prog (E_impl_argsOk k) k) := by
  refine told_run (tyTOk _ _) ?_ (fun run h => regOk (tyTOk _ _) mixOk h) ?_ nameOk k
  · intro g m hg
    simp only [E_impl_argsOk] at hg
    split at hg
    · cases hg
      refine con_byVal fun ρ l K x hm => ?_
      split at hm
      · obtain ⟨c1, h1, hm⟩ := Option.bind_eq_some_iff.1 hm
        obtain ⟨c2, h2, hm⟩ := Option.bind_eq_some_iff.1 hm
        obtain ⟨r, hr, hm⟩ := Option.bind_eq_some_iff.1 hm
        exact ⟨_, hm, LawV.reads (.cons (.as h1) (.cons (.as h2) .nil)) (impl_owned_law k c1 c2 r hr)⟩
      · cases hm
    · cases hg
      refine con_byVal fun ρ l K x hm => ?_
      split at hm
      · obtain ⟨c1, h1, hm⟩ := Option.bind_eq_some_iff.1 hm
        obtain ⟨c2, h2, hm⟩ := Option.bind_eq_some_iff.1 hm
        obtain ⟨c3, h3, hm⟩ := Option.bind_eq_some_iff.1 hm
        obtain ⟨r, hr, hm⟩ := Option.bind_eq_some_iff.1 hm
        exact ⟨_, hm, LawV.reads (.cons (.as h1) (.cons (.as h2) (.cons (.as h3) .nil))) (impl_within_law k c1 c2 c3 r hr)⟩
      · cases hm
    · cases hg; exact noCon_ok
    · cases hg
  · intro g hg r
    by_cases h : g = 100
    · subst h; simp [E_impl_argsOk] at hg
    · simp [E_impl_argsOk, h]
theorem f100_okimpl_argsOk : Tryz.prog.funcs[100]? = some Tryz.f100 := by kernel_rfl
theorem impl_argsOk_law (k : Nat) (a1 : Int × Int × Int × Int × Int × ByteArray × (List Int) × Unit) (a2 : Int) (x : Bool) (h : impl_argsOk k a1 a2 = some x) : LawV Tryz.prog 100 [.tv (.pair (.int .i64) (.pair (.int .i64) (.pair (.int .i64) (.pair (.int .i64) (.pair (.int .i64) (.pair .str (.pair (.row (.int .i64)) .unit))))))) a1, .int .i64 a2] (tvn .bool x) := by
  unfold impl_argsOk at h
  exact law1 (t := .bool) (tyTOk _ _) (E_impl_argsOk_calls k) mixOk f100_okimpl_argsOk (nameOk _ _ f100_okimpl_argsOk) (by kernel_rfl) h
/-! impl.Sets -/
noncomputable def E_impl_Sets (k : Nat) : Env := ⟨ty, fun g => match g with
  | 62 => some (byVal fun ρ l K => match l with
    | [b1, b2] => (b1.as (.int .i64)).bind fun c1 => (b2.as (.int .u8)).bind fun c2 => (impl_owned k c1 c2).bind fun r => K (tvn .bool r)
    | _ => none)
  | _ => none, fun _ _ => none⟩
noncomputable def impl_Sets (k : Nat) (a1 : Int × Int × Int × Int × Int × ByteArray × (List Int) × Unit) : Option (List Int) :=
  abody (E_impl_Sets k) (arun Tryz.prog (E_impl_Sets k) k) k 101 Tryz.f101 [.tv (.pair (.int .i64) (.pair (.int .i64) (.pair (.int .i64) (.pair (.int .i64) (.pair (.int .i64) (.pair .str (.pair (.row (.int .i64)) .unit))))))) a1] [] (finF (.int .i64))
theorem impl_Sets_e (k : Nat) (a1 : Int × Int × Int × Int × Int × ByteArray × (List Int) × Unit) : impl_Sets k a1 =
  iteB (a1.1 == 19) (some [a1.2.1, a1.2.2.2.1]) (bindO (impl_owned k a1.1 68) fun r1 => (iteB r1 (some [a1.2.1]) (some []))) := by kernel_rfl
theorem E_impl_Sets_calls (k : Nat) : CallsOk Tryz.prog (E_impl_Sets k) (arun Tryz.prog (E_impl_Sets k) k) := by
  refine told_run (tyTOk _ _) ?_ (fun run h => regOk (tyTOk _ _) mixOk h) ?_ nameOk k
  · intro g m hg
    simp only [E_impl_Sets] at hg
    split at hg
    · cases hg
      refine con_byVal fun ρ l K x hm => ?_
      split at hm
      · obtain ⟨c1, h1, hm⟩ := Option.bind_eq_some_iff.1 hm
        obtain ⟨c2, h2, hm⟩ := Option.bind_eq_some_iff.1 hm
        obtain ⟨r, hr, hm⟩ := Option.bind_eq_some_iff.1 hm
        exact ⟨_, hm, LawV.reads (.cons (.as h1) (.cons (.as h2) .nil)) (impl_owned_law k c1 c2 r hr)⟩
      · cases hm
    · cases hg
  · intro g _ r; rfl
theorem f101_okimpl_Sets : Tryz.prog.funcs[101]? = some Tryz.f101 := by kernel_rfl
theorem impl_Sets_law (k : Nat) (a1 : Int × Int × Int × Int × Int × ByteArray × (List Int) × Unit) (x : List Int) (h : impl_Sets k a1 = some x) : LawF Tryz.prog 101 [.tv (.pair (.int .i64) (.pair (.int .i64) (.pair (.int .i64) (.pair (.int .i64) (.pair (.int .i64) (.pair .str (.pair (.row (.int .i64)) .unit))))))) a1] (.int .i64) x := by
  unfold impl_Sets at h
  exact lawF (e := (.int .i64)) (tyTOk _ _) (E_impl_Sets_calls k) mixOk f101_okimpl_Sets (nameOk _ _ f101_okimpl_Sets) (by kernel_rfl) h
/-! impl.Uses -/
noncomputable def E_impl_Uses (k : Nat) : Env := ⟨ty, fun g => match g with
  | 62 => some (byVal fun ρ l K => match l with
    | [b1, b2] => (b1.as (.int .i64)).bind fun c1 => (b2.as (.int .u8)).bind fun c2 => (impl_owned k c1 c2).bind fun r => K (tvn .bool r)
    | _ => none)
  | 102 => some noCon
  | _ => none, fun f r => match f with | 102 => (match r with | 4 => some [1, 3, 11, 12, 13] | 12 => some [1, 3] | 14 => some [1, 3] | _ => none) | _ => none⟩
noncomputable def impl_Uses (k : Nat) (a1 : Int × Int × Int × Int × Int × ByteArray × (List Int) × Unit) : Option (List Int) :=
  abody (E_impl_Uses k) (arun Tryz.prog (E_impl_Uses k) k) k 102 Tryz.f102 [.tv (.pair (.int .i64) (.pair (.int .i64) (.pair (.int .i64) (.pair (.int .i64) (.pair (.int .i64) (.pair .str (.pair (.row (.int .i64)) .unit))))))) a1] [] (fin1 (.row (.int .i64)))
noncomputable def impl_Uses.l4 (k n : Nat) (x11 : List Int) (x12 : Int) (x13 : Int) (y0_0 : Int × Int × Int × Int × Int × ByteArray × (List Int) × Unit) : Option (List Int) :=
  resume (E_impl_Uses k) 102 (acall (E_impl_Uses k) (arun Tryz.prog (E_impl_Uses k) k)) k [true, true, false, true, false, false, true, true] [n] (bodyOf Tryz.f102) ⟨[.undef, .ptr 0 0 0, .undef, .sl 1, .undef, .undef, .undef, .undef, .undef, .undef, .undef, .tv (.row (.int .i64)) x11, .int .i64 x12, .int .i64 x13, .undef, .undef, .undef, .undef, .undef, .undef, .undef, .undef, .undef, .undef, .undef, .undef, .undef, .undef, .undef, .undef, .undef, .undef, .undef, .undef, .undef, .undef, .undef, .undef, .undef, .undef, .undef, .undef, .undef, .undef, .undef, .undef, .undef, .undef, .undef, .undef, .undef, .undef, .undef, .undef, .undef, .undef, .undef, .undef, .undef, .undef, .undef, .undef, .undef, .undef, .undef], [some ⟨.raw true 7 (.agg [.int .i64 0, .int .i64 0, .int .i64 0, .int .i64 0, .int .i64 0, .str ByteArray.empty, .nils]) [.tv (.pair (.int .i64) (.pair (.int .i64) (.pair (.int .i64) (.pair (.int .i64) (.pair (.int .i64) (.pair .str (.pair (.row (.int .i64)) .unit))))))) y0_0], true⟩, some ⟨.typed (.int .i64) [], true⟩]⟩ (leave (E_impl_Uses k) Tryz.f102 (fin1 (.row (.int .i64))))
noncomputable def impl_Uses.j12 (k : Nat) (y0_0 : Int × Int × Int × Int × Int × ByteArray × (List Int) × Unit) (y1 : List Int) : Option (List Int) :=
  resume (E_impl_Uses k) 102 (acall (E_impl_Uses k) (arun Tryz.prog (E_impl_Uses k) k)) k [true, true, true, true] [] (bodyOf Tryz.f102) ⟨[.undef, .ptr 0 0 0, .undef, .sl 1, .undef, .undef, .undef, .undef, .undef, .undef, .undef, .undef, .undef, .undef, .undef, .undef, .undef, .undef, .undef, .undef, .undef, .undef, .undef, .undef, .undef, .undef, .undef, .undef, .undef, .undef, .undef, .undef, .undef, .undef, .undef, .undef, .undef, .undef, .undef, .undef, .undef, .undef, .undef, .undef, .undef, .undef, .undef, .undef, .undef, .undef, .undef, .undef, .undef, .undef, .undef, .undef, .undef, .undef, .undef, .undef, .undef, .undef, .undef, .undef, .undef], [some ⟨.raw true 7 (.agg [.int .i64 0, .int .i64 0, .int .i64 0, .int .i64 0, .int .i64 0, .str ByteArray.empty, .nils]) [.tv (.pair (.int .i64) (.pair (.int .i64) (.pair (.int .i64) (.pair (.int .i64) (.pair (.int .i64) (.pair .str (.pair (.row (.int .i64)) .unit))))))) y0_0], true⟩, some ⟨.typed (.int .i64) y1, false⟩]⟩ (leave (E_impl_Uses k) Tryz.f102 (fin1 (.row (.int .i64))))
noncomputable def impl_Uses.j12b (k : Nat) (y0_0 : Int × Int × Int × Int × Int × ByteArray × (List Int) × Unit) : Option (List Int) :=
  resume (E_impl_Uses k) 102 (acall (E_impl_Uses k) (arun Tryz.prog (E_impl_Uses k) k)) k [true, true, true, true] [] (bodyOf Tryz.f102) ⟨[.undef, .ptr 0 0 0, .undef, .sl 1, .undef, .undef, .undef, .undef, .undef, .undef, .undef, .undef, .undef, .undef, .undef, .undef, .undef, .undef, .undef, .undef, .undef, .undef, .undef, .undef, .undef, .undef, .undef, .undef, .undef, .undef, .undef, .undef, .undef, .undef, .undef, .undef, .undef, .undef, .undef, .undef, .undef, .undef, .undef, .undef, .undef, .undef, .undef, .undef, .undef, .undef, .undef, .undef, .undef, .undef, .undef, .undef, .undef, .undef, .undef, .undef, .undef, .undef, .undef, .undef, .undef], [some ⟨.raw true 7 (.agg [.int .i64 0, .int .i64 0, .int .i64 0, .int .i64 0, .int .i64 0, .str ByteArray.empty, .nils]) [.tv (.pair (.int .i64) (.pair (.int .i64) (.pair (.int .i64) (.pair (.int .i64) (.pair (.int .i64) (.pair .str (.pair (.row (.int .i64)) .unit))))))) y0_0], true⟩, some ⟨.typed (.int .i64) [], true⟩]⟩ (leave (E_impl_Uses k) Tryz.f102 (fin1 (.row (.int .i64))))
noncomputable def impl_Uses.l4b (k n : Nat) (x11 : List Int) (x12 : Int) (x13 : Int) (y0_0 : Int × Int × Int × Int × Int × ByteArray × (List Int) × Unit) (y1 : List Int) : Option (List Int) :=
  resume (E_impl_Uses k) 102 (acall (E_impl_Uses k) (arun Tryz.prog (E_impl_Uses k) k)) k [true, true, false, true, false, false, true, true] [n] (bodyOf Tryz.f102) ⟨[.undef, .ptr 0 0 0, .undef, .sl 1, .undef, .undef, .undef, .undef, .undef, .undef, .undef, .tv (.row (.int .i64)) x11, .int .i64 x12, .int .i64 x13, .undef, .undef, .undef, .undef, .undef, .undef, .undef, .undef, .undef, .undef, .undef, .undef, .undef, .undef, .undef, .undef, .undef, .undef, .undef, .undef, .undef, .undef, .undef, .undef, .undef, .undef, .undef, .undef, .undef, .undef, .undef, .undef, .undef, .undef, .undef, .undef, .undef, .undef, .undef, .undef, .undef, .undef, .undef, .undef, .undef, .undef, .undef, .undef, .undef, .undef, .undef], [some ⟨.raw true 7 (.agg [.int .i64 0, .int .i64 0, .int .i64 0, .int .i64 0, .int .i64 0, .str ByteArray.empty, .nils]) [.tv (.pair (.int .i64) (.pair (.int .i64) (.pair (.int .i64) (.pair (.int .i64) (.pair (.int .i64) (.pair .str (.pair (.row (.int .i64)) .unit))))))) y0_0], true⟩, some ⟨.typed (.int .i64) y1, false⟩]⟩ (leave (E_impl_Uses k) Tryz.f102 (fin1 (.row (.int .i64))))
noncomputable def impl_Uses.j14 (k : Nat) (y0_0 : Int × Int × Int × Int × Int × ByteArray × (List Int) × Unit) (y1 : List Int) : Option (List Int) :=
  resume (E_impl_Uses k) 102 (acall (E_impl_Uses k) (arun Tryz.prog (E_impl_Uses k) k)) k [true, true, true, true, true] [] (bodyOf Tryz.f102) ⟨[.undef, .ptr 0 0 0, .undef, .sl 1, .undef, .undef, .undef, .undef, .undef, .undef, .undef, .undef, .undef, .undef, .undef, .undef, .undef, .undef, .undef, .undef, .undef, .undef, .undef, .undef, .undef, .undef, .undef, .undef, .undef, .undef, .undef, .undef, .undef, .undef, .undef, .undef, .undef, .undef, .undef, .undef, .undef, .undef, .undef, .undef, .undef, .undef, .undef, .undef, .undef, .undef, .undef, .undef, .undef, .undef, .undef, .undef, .undef, .undef, .undef, .undef, .undef, .undef, .undef, .undef, .undef], [some ⟨.raw true 7 (.agg [.int .i64 0, .int .i64 0, .int .i64 0, .int .i64 0, .int .i64 0, .str ByteArray.empty, .nils]) [.tv (.pair (.int .i64) (.pair (.int .i64) (.pair (.int .i64) (.pair (.int .i64) (.pair (.int .i64) (.pair .str (.pair (.row (.int .i64)) .unit))))))) y0_0], true⟩, some ⟨.typed (.int .i64) y1, false⟩]⟩ (leave (E_impl_Uses k) Tryz.f102 (fin1 (.row (.int .i64))))
noncomputable def impl_Uses.j14b (k : Nat) (y0_0 : Int × Int × Int × Int × Int × ByteArray × (List Int) × Unit) : Option (List Int) :=
  resume (E_impl_Uses k) 102 (acall (E_impl_Uses k) (arun Tryz.prog (E_impl_Uses k) k)) k [true, true, true, true, true] [] (bodyOf Tryz.f102) ⟨[.undef, .ptr 0 0 0, .undef, .sl 1, .undef, .undef, .undef, .undef, .undef, .undef, .undef, .undef, .undef, .undef, .undef, .undef, .undef, .undef, .undef, .undef, .undef, .undef, .undef, .undef, .undef, .undef, .undef, .undef, .undef, .undef, .undef, .undef, .undef, .undef, .undef, .undef, .undef, .undef, .undef, .undef, .undef, .undef, .undef, .undef, .undef, .undef, .undef, .undef, .undef, .undef, .undef, .undef, .undef, .undef, .undef, .undef, .undef, .undef, .undef, .undef, .undef, .undef, .undef, .undef, .undef], [some ⟨.raw true 7 (.agg [.int .i64 0, .int .i64 0, .int .i64 0, .int .i64 0, .int .i64 0, .str ByteArray.empty, .nils]) [.tv (.pair (.int .i64) (.pair (.int .i64) (.pair (.int .i64) (.pair (.int .i64) (.pair (.int .i64) (.pair .str (.pair (.row (.int .i64)) .unit))))))) y0_0], true⟩, some ⟨.typed (.int .i64) [], true⟩]⟩ (leave (E_impl_Uses k) Tryz.f102 (fin1 (.row (.int .i64))))
theorem impl_Uses.l4_0 (k : Nat) (x11 : List Int) (x12 : Int) (x13 : Int) (y0_0 : Int × Int × Int × Int × Int × ByteArray × (List Int) × Unit) : impl_Uses.l4 k 0 x11 x12 x13 y0_0 = none := by kernel_rfl
theorem impl_Uses.l4_s (k n : Nat) (x11 : List Int) (x12 : Int) (x13 : Int) (y0_0 : Int × Int × Int × Int × Int × ByteArray × (List Int) × Unit) : impl_Uses.l4 k (n + 1) x11 x12 x13 y0_0 =
  iteB (decide (x13 < x12)) (iteB (decide (0 ≤ x13)) (iteB (decide (x13 < ((List.length x11) : Int))) (iteB (!((Int.tmod x13 3) == 1)) (iteB ((Int.tmod x13 3) == 2) (iteB (decide (0 ≤ IntKind.wrap .i64 (x13 - 2))) (iteB (decide (IntKind.wrap .i64 (x13 - 2) < ((List.length y0_0.2.2.2.2.2.2.1) : Int))) (iteB ((List.getD y0_0.2.2.2.2.2.2.1 (Int.toNat (IntKind.wrap .i64 (x13 - 2))) 0) == 2) (iteB (decide ((List.length ([] ++ [List.getD x11 (Int.toNat x13) 0])) * 8 ≤ lim)) (impl_Uses.l4b k n x11 x12 (IntKind.wrap .i64 (x13 + 1)) y0_0 ([] ++ [List.getD x11 (Int.toNat x13) 0])) (none)) (impl_Uses.l4 k n x11 x12 (IntKind.wrap .i64 (x13 + 1)) y0_0)) (none)) (none)) (impl_Uses.l4 k n x11 x12 (IntKind.wrap .i64 (x13 + 1)) y0_0)) (iteB (decide ((List.length ([] ++ [List.getD x11 (Int.toNat x13) 0])) * 8 ≤ lim)) (impl_Uses.l4b k n x11 x12 (IntKind.wrap .i64 (x13 + 1)) y0_0 ([] ++ [List.getD x11 (Int.toNat x13) 0])) (none))) (none)) (none)) (some []) := by kernel_rfl
theorem impl_Uses.j12_e (k : Nat) (y0_0 : Int × Int × Int × Int × Int × ByteArray × (List Int) × Unit) (y1 : List Int) : impl_Uses.j12 k y0_0 y1 =
  bindO (impl_owned k y0_0.1 66) fun r2 => (iteB r2 (iteB (decide ((List.length (y1 ++ [y0_0.2.2.2.1])) * 8 ≤ lim)) (gate k (impl_Uses.j14 k y0_0 (y1 ++ [y0_0.2.2.2.1]))) (none)) (gate k (impl_Uses.j14 k y0_0 y1))) := by kernel_rfl
theorem impl_Uses.j12b_e (k : Nat) (y0_0 : Int × Int × Int × Int × Int × ByteArray × (List Int) × Unit) : impl_Uses.j12b k y0_0 =
  bindO (impl_owned k y0_0.1 66) fun r3 => (iteB r3 (iteB (decide ((List.length ([] ++ [y0_0.2.2.2.1])) * 8 ≤ lim)) (gate k (impl_Uses.j14 k y0_0 ([] ++ [y0_0.2.2.2.1]))) (none)) (gate k (impl_Uses.j14b k y0_0))) := by kernel_rfl
theorem impl_Uses.l4b_0 (k : Nat) (x11 : List Int) (x12 : Int) (x13 : Int) (y0_0 : Int × Int × Int × Int × Int × ByteArray × (List Int) × Unit) (y1 : List Int) : impl_Uses.l4b k 0 x11 x12 x13 y0_0 y1 = none := by kernel_rfl
theorem impl_Uses.l4b_s (k n : Nat) (x11 : List Int) (x12 : Int) (x13 : Int) (y0_0 : Int × Int × Int × Int × Int × ByteArray × (List Int) × Unit) (y1 : List Int) : impl_Uses.l4b k (n + 1) x11 x12 x13 y0_0 y1 =
  iteB (decide (x13 < x12)) (iteB (decide (0 ≤ x13)) (iteB (decide (x13 < ((List.length x11) : Int))) (iteB (!((Int.tmod x13 3) == 1)) (iteB ((Int.tmod x13 3) == 2) (iteB (decide (0 ≤ IntKind.wrap .i64 (x13 - 2))) (iteB (decide (IntKind.wrap .i64 (x13 - 2) < ((List.length y0_0.2.2.2.2.2.2.1) : Int))) (iteB ((List.getD y0_0.2.2.2.2.2.2.1 (Int.toNat (IntKind.wrap .i64 (x13 - 2))) 0) == 2) (iteB (decide ((List.length (y1 ++ [List.getD x11 (Int.toNat x13) 0])) * 8 ≤ lim)) (impl_Uses.l4b k n x11 x12 (IntKind.wrap .i64 (x13 + 1)) y0_0 (y1 ++ [List.getD x11 (Int.toNat x13) 0])) (none)) (impl_Uses.l4b k n x11 x12 (IntKind.wrap .i64 (x13 + 1)) y0_0 y1)) (none)) (none)) (impl_Uses.l4b k n x11 x12 (IntKind.wrap .i64 (x13 + 1)) y0_0 y1)) (iteB (decide ((List.length (y1 ++ [List.getD x11 (Int.toNat x13) 0])) * 8 ≤ lim)) (impl_Uses.l4b k n x11 x12 (IntKind.wrap .i64 (x13 + 1)) y0_0 (y1 ++ [List.getD x11 (Int.toNat x13) 0])) (none))) (none)) (none)) (some y1) := by kernel_rfl
theorem impl_Uses.j14_e (k : Nat) (y0_0 : Int × Int × Int × Int × Int × ByteArray × (List Int) × Unit) (y1 : List Int) : impl_Uses.j14 k y0_0 y1 =
  bindO (impl_owned k y0_0.1 88) fun r4 => (iteB r4 (iteB (decide ((List.length (y1 ++ y0_0.2.2.2.2.2.2.1)) * 8 ≤ lim)) (some (y1 ++ y0_0.2.2.2.2.2.2.1)) (none)) (some y1)) := by kernel_rfl
theorem impl_Uses.j14b_e (k : Nat) (y0_0 : Int × Int × Int × Int × Int × ByteArray × (List Int) × Unit) : impl_Uses.j14b k y0_0 =
  bindO (impl_owned k y0_0.1 88) fun r5 => (iteB r5 (iteB (decide ((List.length ([] ++ y0_0.2.2.2.2.2.2.1)) * 8 ≤ lim)) (some ([] ++ y0_0.2.2.2.2.2.2.1)) (none)) (some [])) := by kernel_rfl
theorem impl_Uses_e (k : Nat) (a1 : Int × Int × Int × Int × Int × ByteArray × (List Int) × Unit) : impl_Uses k a1 =
  iteB (a1.1 == 19) (impl_Uses.l4 k k a1.2.2.2.2.2.2.1 ((List.length a1.2.2.2.2.2.2.1) : Int) 0 a1) (bindO (impl_owned k a1.1 65) fun r1 => (iteB r1 (iteB (decide ((List.length ([] ++ [a1.2.2.1])) * 8 ≤ lim)) (gate k (impl_Uses.j12 k a1 ([] ++ [a1.2.2.1]))) (none)) (gate k (impl_Uses.j12b k a1)))) := by kernel_rfl
theorem E_impl_Uses_calls (k : Nat) : CallsOk Tryz.prog (E_impl_Uses k) (arun Tryz.prog (E_impl_Uses k) k) := by
  refine told_run (tyTOk _ _) ?_ (fun run h => regOk (tyTOk _ _) mixOk h) ?_ nameOk k
  · intro g m hg
    simp only [E_impl_Uses] at hg
    split at hg
    · cases hg
      refine con_byVal fun ρ l K x hm => ?_
      split at hm
      · obtain ⟨c1, h1, hm⟩ := Option.bind_eq_some_iff.1 hm
        obtain ⟨c2, h2, hm⟩ := Option.bind_eq_some_iff.1 hm
        obtain ⟨r, hr, hm⟩ := Option.bind_eq_some_iff.1 hm
        exact ⟨_, hm, LawV.reads (.cons (.as h1) (.cons (.as h2) .nil)) (impl_owned_law k c1 c2 r hr)⟩
      · cases hm
    · cases hg; exact noCon_ok
    · cases hg
  · intro g hg r
    by_cases h : g = 102
    · subst h; simp [E_impl_Uses] at hg
    · simp [E_impl_Uses, h]
theorem f102_okimpl_Uses : Tryz.prog.funcs[102]? = some Tryz.f102 := by kernel_rfl
theorem impl_Uses_law (k : Nat) (a1 : Int × Int × Int × Int × Int × ByteArray × (List Int) × Unit) (x : List Int) (h : impl_Uses k a1 = some x) : LawV Tryz.prog 102 [.tv (.pair (.int .i64) (.pair (.int .i64) (.pair (.int .i64) (.pair (.int .i64) (.pair (.int .i64) (.pair .str (.pair (.row (.int .i64)) .unit))))))) a1] (tvn (.row (.int .i64)) x) := by
  unfold impl_Uses at h
  exact law1 (t := (.row (.int .i64))) (tyTOk _ _) (E_impl_Uses_calls k) mixOk f102_okimpl_Uses (nameOk _ _ f102_okimpl_Uses) (by kernel_rfl) h
/-! impl.tacOk$1 -/
noncomputable def E_impl_tacOk_1_vbp (k : Nat) : Env := ⟨ty, fun g => match g with
  | 39 => some (byVal fun ρ l K => match l with
    | [b1, b2, b3] => (b1.as (.int .i64)).bind fun c1 => (b2.as (.int .i64)).bind fun c2 => (b3.as (.int .i64)).bind fun c3 => (impl_within k c1 c2 c3).bind fun r => K (tvn .bool r)
    | _ => none)
  | _ => none, fun _ _ => none⟩
noncomputable def impl_tacOk_1_vbp (k : Nat) (a1 : Int) (a2 : Int) : Option (Bool) :=
  abody (E_impl_tacOk_1_vbp k) (arun Tryz.prog (E_impl_tacOk_1_vbp k) k) k 103 Tryz.f103 [.int .i64 a1, .bp [.int .i64 a2] 0] [] (fin1 .bool)
theorem impl_tacOk_1_vbp_e (k : Nat) (a1 : Int) (a2 : Int) : impl_tacOk_1_vbp k a1 a2 =
  bindO (impl_within k a1 0 (IntKind.wrap .i64 (a2 - 1))) fun r1 => (some (!r1)) := by kernel_rfl
theorem E_impl_tacOk_1_vbp_calls (k : Nat) : CallsOk Tryz.prog (E_impl_tacOk_1_vbp k) (arun Tryz.prog (E_impl_tacOk_1_vbp k) k) := by
  refine told_run (tyTOk _ _) ?_ (fun run h => regOk (tyTOk _ _) mixOk h) ?_ nameOk k
  · intro g m hg
    simp only [E_impl_tacOk_1_vbp] at hg
    split at hg
    · cases hg
      refine con_byVal fun ρ l K x hm => ?_
      split at hm
      · obtain ⟨c1, h1, hm⟩ := Option.bind_eq_some_iff.1 hm
        obtain ⟨c2, h2, hm⟩ := Option.bind_eq_some_iff.1 hm
        obtain ⟨c3, h3, hm⟩ := Option.bind_eq_some_iff.1 hm
        obtain ⟨r, hr, hm⟩ := Option.bind_eq_some_iff.1 hm
        exact ⟨_, hm, LawV.reads (.cons (.as h1) (.cons (.as h2) (.cons (.as h3) .nil))) (impl_within_law k c1 c2 c3 r hr)⟩
      · cases hm
    · cases hg
  · intro g _ r; rfl
theorem f103_okimpl_tacOk_1_vbp : Tryz.prog.funcs[103]? = some Tryz.f103 := by kernel_rfl
theorem impl_tacOk_1_vbp_law (k : Nat) (a1 : Int) (a2 : Int) (x : Bool) (h : impl_tacOk_1_vbp k a1 a2 = some x) : LawV Tryz.prog 103 [.int .i64 a1, .bp [.int .i64 a2] 0] (tvn .bool x) := by
  unfold impl_tacOk_1_vbp at h
  exact law1 (t := .bool) (tyTOk _ _) (E_impl_tacOk_1_vbp_calls k) mixOk f103_okimpl_tacOk_1_vbp (nameOk _ _ f103_okimpl_tacOk_1_vbp) (by kernel_rfl) h
/-! slices.IndexFunc[[]int,int] -/
noncomputable def E_slices_IndexFunc_int__impl_tacOk_1 (k : Nat) : Env := ⟨ty, fun g => match g with
  | 103 => some (byVal fun ρ l K => match l with
    | [b1, .bp [b2] 0] => (b1.as (.int .i64)).bind fun c1 => (b2.as (.int .i64)).bind fun c2 => (impl_tacOk_1_vbp k c1 c2).bind fun r => K (tvn .bool r)
    | _ => none)
  | 93 => some noCon
  | _ => none, fun f r => match f with | 93 => (match r with | 2 => some [0, 1, 7, 8] | _ => none) | _ => none⟩
noncomputable def slices_IndexFunc_int__impl_tacOk_1 (k : Nat) (a1 : List Int) (a2 : Int) : Option (Int) :=
  abody (E_slices_IndexFunc_int__impl_tacOk_1 k) (arun Tryz.prog (E_slices_IndexFunc_int__impl_tacOk_1 k) k) k 93 Tryz.f93 [.tv (.row (.int .i64)) a1, .fn 103 [.bp [.int .i64 a2] 0]] [] (fin1 (.int .i64))
noncomputable def slices_IndexFunc_int__impl_tacOk_1.l2 (k n : Nat) (x0 : List Int) (x1_0_0 : Int) (x7 : Int) (x8 : Int) : Option (Int) :=
  resume (E_slices_IndexFunc_int__impl_tacOk_1 k) 93 (acall (E_slices_IndexFunc_int__impl_tacOk_1 k) (arun Tryz.prog (E_slices_IndexFunc_int__impl_tacOk_1 k) k)) k [true, false, true, true] [n] (bodyOf Tryz.f93) ⟨[.tv (.row (.int .i64)) x0, .fn 103 [.bp [.int .i64 x1_0_0] 0], .undef, .undef, .undef, .undef, .undef, .int .i64 x7, .int .i64 x8, .undef, .undef, .undef, .undef, .undef, .undef, .undef, .undef, .undef, .undef], []⟩ (leave (E_slices_IndexFunc_int__impl_tacOk_1 k) Tryz.f93 (fin1 (.int .i64)))
theorem slices_IndexFunc_int__impl_tacOk_1.l2_0 (k : Nat) (x0 : List Int) (x1_0_0 : Int) (x7 : Int) (x8 : Int) : slices_IndexFunc_int__impl_tacOk_1.l2 k 0 x0 x1_0_0 x7 x8 = none := by kernel_rfl
theorem slices_IndexFunc_int__impl_tacOk_1.l2_s (k n : Nat) (x0 : List Int) (x1_0_0 : Int) (x7 : Int) (x8 : Int) : slices_IndexFunc_int__impl_tacOk_1.l2 k (n + 1) x0 x1_0_0 x7 x8 =
  iteB (decide (x8 < x7)) (iteB (decide (0 ≤ x8)) (iteB (decide (x8 < ((List.length x0) : Int))) (bindO (impl_tacOk_1_vbp k (List.getD x0 (Int.toNat x8) 0) x1_0_0) fun r1 => (iteB r1 (some x8) (slices_IndexFunc_int__impl_tacOk_1.l2 k n x0 x1_0_0 x7 (IntKind.wrap .i64 (x8 + 1))))) (none)) (none)) (some (-1)) := by kernel_rfl
theorem slices_IndexFunc_int__impl_tacOk_1_e (k : Nat) (a1 : List Int) (a2 : Int) : slices_IndexFunc_int__impl_tacOk_1 k a1 a2 =
  slices_IndexFunc_int__impl_tacOk_1.l2 k k a1 a2 ((List.length a1) : Int) 0 := by kernel_rfl
theorem E_slices_IndexFunc_int__impl_tacOk_1_calls (k : Nat) : CallsOk Tryz.prog (E_slices_IndexFunc_int__impl_tacOk_1 k) (arun Tryz.prog (E_slices_IndexFunc_int__impl_tacOk_1 k) k) := by
  refine told_run (tyTOk _ _) ?_ (fun run h => regOk (tyTOk _ _) mixOk h) ?_ nameOk k
  · intro g m hg
    simp only [E_slices_IndexFunc_int__impl_tacOk_1] at hg
    split at hg
    · cases hg
      refine con_byVal fun ρ l K x hm => ?_
      split at hm
      · obtain ⟨c1, h1, hm⟩ := Option.bind_eq_some_iff.1 hm
        obtain ⟨c2, h2, hm⟩ := Option.bind_eq_some_iff.1 hm
        obtain ⟨r, hr, hm⟩ := Option.bind_eq_some_iff.1 hm
        exact ⟨_, hm, LawV.reads (.cons (.as h1) (.cons (.bp (.cons (.as h2) .nil)) .nil)) (impl_tacOk_1_vbp_law k c1 c2 r hr)⟩
      · cases hm
    · cases hg; exact noCon_ok
    · cases hg
  · intro g hg r
    by_cases h : g = 93
    · subst h; simp [E_slices_IndexFunc_int__impl_tacOk_1] at hg
    · simp [E_slices_IndexFunc_int__impl_tacOk_1, h]
theorem f93_okslices_IndexFunc_int__impl_tacOk_1 : Tryz.prog.funcs[93]? = some Tryz.f93 := by kernel_rfl
theorem slices_IndexFunc_int__impl_tacOk_1_law (k : Nat) (a1 : List Int) (a2 : Int) (x : Int) (h : slices_IndexFunc_int__impl_tacOk_1 k a1 a2 = some x) : LawV Tryz.prog 93 [.tv (.row (.int .i64)) a1, .fn 103 [.bp [.int .i64 a2] 0]] (tvn (.int .i64) x) := by
  unfold slices_IndexFunc_int__impl_tacOk_1 at h
  exact law1 (t := (.int .i64)) (tyTOk _ _) (E_slices_IndexFunc_int__impl_tacOk_1_calls k) mixOk f93_okslices_IndexFunc_int__impl_tacOk_1 (nameOk _ _ f93_okslices_IndexFunc_int__impl_tacOk_1) (by kernel_rfl) h
/-! slices.ContainsFunc[[]int,int] -/
noncomputable def E_slices_ContainsFunc_int__impl_tacOk_1 (k : Nat) : Env := ⟨ty, fun g => match g with
  | 93 => some (byVal fun ρ l K => match l with
    | [b1, .fn 103 [.bp [b2] 0]] => (b1.as (.row (.int .i64))).bind fun c1 => (b2.as (.int .i64)).bind fun c2 => (slices_IndexFunc_int__impl_tacOk_1 k c1 c2).bind fun r => K (tvn (.int .i64) r)
    | _ => none)
  | _ => none, fun _ _ => none⟩
noncomputable def slices_ContainsFunc_int__impl_tacOk_1 (k : Nat) (a1 : List Int) (a2 : Int) : Option (Bool) :=
  abody (E_slices_ContainsFunc_int__impl_tacOk_1 k) (arun Tryz.prog (E_slices_ContainsFunc_int__impl_tacOk_1 k) k) k 70 Tryz.f70 [.tv (.row (.int .i64)) a1, .fn 103 [.bp [.int .i64 a2] 0]] [] (fin1 .bool)
theorem slices_ContainsFunc_int__impl_tacOk_1_e (k : Nat) (a1 : List Int) (a2 : Int) : slices_ContainsFunc_int__impl_tacOk_1 k a1 a2 =
  bindO (slices_IndexFunc_int__impl_tacOk_1 k a1 a2) fun r1 => (some (decide (r1 ≥ 0))) := by kernel_rfl
theorem E_slices_ContainsFunc_int__impl_tacOk_1_calls (k : Nat) : CallsOk Tryz.prog (E_slices_ContainsFunc_int__impl_tacOk_1 k) (arun Tryz.prog (E_slices_ContainsFunc_int__impl_tacOk_1 k) k) := by
  refine told_run (tyTOk _ _) ?_ (fun run h => regOk (tyTOk _ _) mixOk h) ?_ nameOk k
  · intro g m hg
    simp only [E_slices_ContainsFunc_int__impl_tacOk_1] at hg
    split at hg
    · cases hg
      refine con_byVal fun ρ l K x hm => ?_
      split at hm
      · obtain ⟨c1, h1, hm⟩ := Option.bind_eq_some_iff.1 hm
        obtain ⟨c2, h2, hm⟩ := Option.bind_eq_some_iff.1 hm
        obtain ⟨r, hr, hm⟩ := Option.bind_eq_some_iff.1 hm
        exact ⟨_, hm, LawV.reads (.cons (.as h1) (.cons (.fn (.cons (.bp (.cons (.as h2) .nil)) .nil)) .nil)) (slices_IndexFunc_int__impl_tacOk_1_law k c1 c2 r hr)⟩
      · cases hm
    · cases hg
  · intro g _ r; rfl
theorem f70_okslices_ContainsFunc_int__impl_tacOk_1 : Tryz.prog.funcs[70]? = some Tryz.f70 := by kernel_rfl
theorem slices_ContainsFunc_int__impl_tacOk_1_law (k : Nat) (a1 : List Int) (a2 : Int) (x : Bool) (h : slices_ContainsFunc_int__impl_tacOk_1 k a1 a2 = some x) : LawV Tryz.prog 70 [.tv (.row (.int .i64)) a1, .fn 103 [.bp [.int .i64 a2] 0]] (tvn .bool x) := by
  unfold slices_ContainsFunc_int__impl_tacOk_1 at h
  exact law1 (t := .bool) (tyTOk _ _) (E_slices_ContainsFunc_int__impl_tacOk_1_calls k) mixOk f70_okslices_ContainsFunc_int__impl_tacOk_1 (nameOk _ _ f70_okslices_ContainsFunc_int__impl_tacOk_1) (by kernel_rfl) h
/-! impl.tacOk -/
noncomputable def E_impl_tacOk (k : Nat) : Env := ⟨ty, fun g => match g with
  | 89 => some (byVal fun ρ l K => match l with
    | [b1] => (b1.as (.int .i64)).bind fun c1 => (impl_owns k c1).bind fun r => K (tvn .str r)
    | _ => none)
  | 47 => some (byVal fun ρ l K => match l with
    | [b1] => (b1.as (.int .i64)).bind fun c1 => (impl_WordOk k c1).bind fun r => K (tvn .bool r)
    | _ => none)
  | 100 => some (byVal fun ρ l K => match l with
    | [b1, b2] => (b1.as (.pair (.int .i64) (.pair (.int .i64) (.pair (.int .i64) (.pair (.int .i64) (.pair (.int .i64) (.pair .str (.pair (.row (.int .i64)) .unit)))))))).bind fun c1 => (b2.as (.int .i64)).bind fun c2 => (impl_argsOk k c1 c2).bind fun r => K (tvn .bool r)
    | _ => none)
  | 62 => some (byVal fun ρ l K => match l with
    | [b1, b2] => (b1.as (.int .i64)).bind fun c1 => (b2.as (.int .u8)).bind fun c2 => (impl_owned k c1 c2).bind fun r => K (tvn .bool r)
    | _ => none)
  | 101 => some (byFresh (.int .i64) fun ρ l K => match l with
    | [b1] => (b1.as (.pair (.int .i64) (.pair (.int .i64) (.pair (.int .i64) (.pair (.int .i64) (.pair (.int .i64) (.pair .str (.pair (.row (.int .i64)) .unit)))))))).bind fun c1 => (impl_Sets k c1).bind fun r => K r
    | _ => none)
  | 102 => some (byVal fun ρ l K => match l with
    | [b1] => (b1.as (.pair (.int .i64) (.pair (.int .i64) (.pair (.int .i64) (.pair (.int .i64) (.pair (.int .i64) (.pair .str (.pair (.row (.int .i64)) .unit)))))))).bind fun c1 => (impl_Uses k c1).bind fun r => K (tvn (.row (.int .i64)) r)
    | _ => none)
  | 70 => some (byVal fun ρ l K => match l with
    | [b1, .fn 103 [.bp [b2] 0]] => (b1.as (.row (.int .i64))).bind fun c1 => (b2.as (.int .i64)).bind fun c2 => (slices_ContainsFunc_int__impl_tacOk_1 k c1 c2).bind fun r => K (tvn .bool r)
    | _ => none)
  | 83 => some noCon
  | _ => none, fun f r => match f with | 83 => (match r with | 3 => some [2, 3] | 5 => some [2, 3] | _ => none) | _ => none⟩
noncomputable def impl_tacOk (k : Nat) (a1 : Int × Int × Int × Int × Int × ByteArray × (List Int) × Unit) (a2 : Int) : Option (Bool) :=
  abody (E_impl_tacOk k) (arun Tryz.prog (E_impl_tacOk k) k) k 83 Tryz.f83 [.tv (.pair (.int .i64) (.pair (.int .i64) (.pair (.int .i64) (.pair (.int .i64) (.pair (.int .i64) (.pair .str (.pair (.row (.int .i64)) .unit))))))) a1, .int .i64 a2] [] (fin1 .bool)
noncomputable def impl_tacOk.j3 (k : Nat) (y0_0 : Int × Int × Int × Int × Int × ByteArray × (List Int) × Unit) (y1_0 : Int) : Option (Bool) :=
  resume (E_impl_tacOk k) 83 (acall (E_impl_tacOk k) (arun Tryz.prog (E_impl_tacOk k) k)) k [true, true] [] (bodyOf Tryz.f83) ⟨[.undef, .undef, .ptr 0 0 0, .ptr 1 0 0, .undef, .undef, .undef, .undef, .undef, .undef, .undef, .undef, .undef, .undef, .undef, .undef, .undef, .undef, .undef, .undef, .undef, .undef, .undef, .undef, .undef, .undef, .undef, .undef, .undef, .undef, .undef, .undef, .undef, .undef, .undef, .undef, .undef, .undef, .undef, .undef, .undef, .undef, .undef, .undef, .undef, .undef, .undef, .undef, .undef, .undef, .undef, .undef, .undef, .undef, .undef, .undef, .undef, .undef, .undef, .undef, .undef, .undef, .undef, .undef, .undef, .undef, .undef, .undef, .undef, .undef, .undef, .undef, .undef, .undef, .undef, .undef, .undef, .undef, .undef, .undef, .undef, .undef], [some ⟨.raw true 7 (.agg [.int .i64 0, .int .i64 0, .int .i64 0, .int .i64 0, .int .i64 0, .str ByteArray.empty, .nils]) [.tv (.pair (.int .i64) (.pair (.int .i64) (.pair (.int .i64) (.pair (.int .i64) (.pair (.int .i64) (.pair .str (.pair (.row (.int .i64)) .unit))))))) y0_0], true⟩, some ⟨.raw false 1 (.int .i64 0) [.int .i64 y1_0], true⟩]⟩ (leave (E_impl_tacOk k) Tryz.f83 (fin1 .bool))
noncomputable def impl_tacOk.j5 (k : Nat) (y0_0 : Int × Int × Int × Int × Int × ByteArray × (List Int) × Unit) (y1_0 : Int) : Option (Bool) :=
  resume (E_impl_tacOk k) 83 (acall (E_impl_tacOk k) (arun Tryz.prog (E_impl_tacOk k) k)) k [true, true, true] [] (bodyOf Tryz.f83) ⟨[.undef, .undef, .ptr 0 0 0, .ptr 1 0 0, .undef, .undef, .undef, .undef, .undef, .undef, .undef, .undef, .undef, .undef, .undef, .undef, .undef, .undef, .undef, .undef, .undef, .undef, .undef, .undef, .undef, .undef, .undef, .undef, .undef, .undef, .undef, .undef, .undef, .undef, .undef, .undef, .undef, .undef, .undef, .undef, .undef, .undef, .undef, .undef, .undef, .undef, .undef, .undef, .undef, .undef, .undef, .undef, .undef, .undef, .undef, .undef, .undef, .undef, .undef, .undef, .undef, .undef, .undef, .undef, .undef, .undef, .undef, .undef, .undef, .undef, .undef, .undef, .undef, .undef, .undef, .undef, .undef, .undef, .undef, .undef, .undef, .undef], [some ⟨.raw true 7 (.agg [.int .i64 0, .int .i64 0, .int .i64 0, .int .i64 0, .int .i64 0, .str ByteArray.empty, .nils]) [.tv (.pair (.int .i64) (.pair (.int .i64) (.pair (.int .i64) (.pair (.int .i64) (.pair (.int .i64) (.pair .str (.pair (.row (.int .i64)) .unit))))))) y0_0], true⟩, some ⟨.raw false 1 (.int .i64 0) [.int .i64 y1_0], true⟩]⟩ (leave (E_impl_tacOk k) Tryz.f83 (fin1 .bool))
theorem impl_tacOk.j3_e (k : Nat) (y0_0 : Int × Int × Int × Int × Int × ByteArray × (List Int) × Unit) (y1_0 : Int) : impl_tacOk.j3 k y0_0 y1_0 =
  bindO (impl_owned k y0_0.1 68) fun r4 => (iteB (!r4) (iteB (!(y0_0.2.1 != 0)) (bindO (impl_owned k y0_0.1 65) fun r5 => (iteB (!r5) (iteB (!(y0_0.2.2.1 != 0)) (bindO (impl_owned k y0_0.1 66) fun r6 => (iteB (!r6) (iteB (!(y0_0.2.2.2.1 != 0)) (bindO (impl_owned k y0_0.1 78) fun r7 => (iteB (!r7) (iteB (!(y0_0.2.2.2.2.1 != 0)) (bindO (impl_owned k y0_0.1 83) fun r8 => (iteB (!r8) (iteB (!(ByteArray.toList y0_0.2.2.2.2.2.1 == ByteArray.toList (⟨#[]⟩ : ByteArray))) (some false) (gate k (impl_tacOk.j5 k y0_0 y1_0))) (gate k (impl_tacOk.j5 k y0_0 y1_0)))) (some false)) (bindO (impl_owned k y0_0.1 83) fun r9 => (iteB (!r9) (iteB (!(ByteArray.toList y0_0.2.2.2.2.2.1 == ByteArray.toList (⟨#[]⟩ : ByteArray))) (some false) (gate k (impl_tacOk.j5 k y0_0 y1_0))) (gate k (impl_tacOk.j5 k y0_0 y1_0)))))) (some false)) (bindO (impl_owned k y0_0.1 78) fun r10 => (iteB (!r10) (iteB (!(y0_0.2.2.2.2.1 != 0)) (bindO (impl_owned k y0_0.1 83) fun r11 => (iteB (!r11) (iteB (!(ByteArray.toList y0_0.2.2.2.2.2.1 == ByteArray.toList (⟨#[]⟩ : ByteArray))) (some false) (gate k (impl_tacOk.j5 k y0_0 y1_0))) (gate k (impl_tacOk.j5 k y0_0 y1_0)))) (some false)) (bindO (impl_owned k y0_0.1 83) fun r12 => (iteB (!r12) (iteB (!(ByteArray.toList y0_0.2.2.2.2.2.1 == ByteArray.toList (⟨#[]⟩ : ByteArray))) (some false) (gate k (impl_tacOk.j5 k y0_0 y1_0))) (gate k (impl_tacOk.j5 k y0_0 y1_0)))))))) (some false)) (bindO (impl_owned k y0_0.1 66) fun r13 => (iteB (!r13) (iteB (!(y0_0.2.2.2.1 != 0)) (bindO (impl_owned k y0_0.1 78) fun r14 => (iteB (!r14) (iteB (!(y0_0.2.2.2.2.1 != 0)) (bindO (impl_owned k y0_0.1 83) fun r15 => (iteB (!r15) (iteB (!(ByteArray.toList y0_0.2.2.2.2.2.1 == ByteArray.toList (⟨#[]⟩ : ByteArray))) (some false) (gate k (impl_tacOk.j5 k y0_0 y1_0))) (gate k (impl_tacOk.j5 k y0_0 y1_0)))) (some false)) (bindO (impl_owned k y0_0.1 83) fun r16 => (iteB (!r16) (iteB (!(ByteArray.toList y0_0.2.2.2.2.2.1 == ByteArray.toList (⟨#[]⟩ : ByteArray))) (some false) (gate k (impl_tacOk.j5 k y0_0 y1_0))) (gate k (impl_tacOk.j5 k y0_0 y1_0)))))) (some false)) (bindO (impl_owned k y0_0.1 78) fun r17 => (iteB (!r17) (iteB (!(y0_0.2.2.2.2.1 != 0)) (bindO (impl_owned k y0_0.1 83) fun r18 => (iteB (!r18) (iteB (!(ByteArray.toList y0_0.2.2.2.2.2.1 == ByteArray.toList (⟨#[]⟩ : ByteArray))) (some false) (gate k (impl_tacOk.j5 k y0_0 y1_0))) (gate k (impl_tacOk.j5 k y0_0 y1_0)))) (some false)) (bindO (impl_owned k y0_0.1 83) fun r19 => (iteB (!r19) (iteB (!(ByteArray.toList y0_0.2.2.2.2.2.1 == ByteArray.toList (⟨#[]⟩ : ByteArray))) (some false) (gate k (impl_tacOk.j5 k y0_0 y1_0))) (gate k (impl_tacOk.j5 k y0_0 y1_0)))))))))) (some false)) (bindO (impl_owned k y0_0.1 65) fun r20 => (iteB (!r20) (iteB (!(y0_0.2.2.1 != 0)) (bindO (impl_owned k y0_0.1 66) fun r21 => (iteB (!r21) (iteB (!(y0_0.2.2.2.1 != 0)) (bindO (impl_owned k y0_0.1 78) fun r22 => (iteB (!r22) (iteB (!(y0_0.2.2.2.2.1 != 0)) (bindO (impl_owned k y0_0.1 83) fun r23 => (iteB (!r23) (iteB (!(ByteArray.toList y0_0.2.2.2.2.2.1 == ByteArray.toList (⟨#[]⟩ : ByteArray))) (some false) (gate k (impl_tacOk.j5 k y0_0 y1_0))) (gate k (impl_tacOk.j5 k y0_0 y1_0)))) (some false)) (bindO (impl_owned k y0_0.1 83) fun r24 => (iteB (!r24) (iteB (!(ByteArray.toList y0_0.2.2.2.2.2.1 == ByteArray.toList (⟨#[]⟩ : ByteArray))) (some false) (gate k (impl_tacOk.j5 k y0_0 y1_0))) (gate k (impl_tacOk.j5 k y0_0 y1_0)))))) (some false)) (bindO (impl_owned k y0_0.1 78) fun r25 => (iteB (!r25) (iteB (!(y0_0.2.2.2.2.1 != 0)) (bindO (impl_owned k y0_0.1 83) fun r26 => (iteB (!r26) (iteB (!(ByteArray.toList y0_0.2.2.2.2.2.1 == ByteArray.toList (⟨#[]⟩ : ByteArray))) (some false) (gate k (impl_tacOk.j5 k y0_0 y1_0))) (gate k (impl_tacOk.j5 k y0_0 y1_0)))) (some false)) (bindO (impl_owned k y0_0.1 83) fun r27 => (iteB (!r27) (iteB (!(ByteArray.toList y0_0.2.2.2.2.2.1 == ByteArray.toList (⟨#[]⟩ : ByteArray))) (some false) (gate k (impl_tacOk.j5 k y0_0 y1_0))) (gate k (impl_tacOk.j5 k y0_0 y1_0)))))))) (some false)) (bindO (impl_owned k y0_0.1 66) fun r28 => (iteB (!r28) (iteB (!(y0_0.2.2.2.1 != 0)) (bindO (impl_owned k y0_0.1 78) fun r29 => (iteB (!r29) (iteB (!(y0_0.2.2.2.2.1 != 0)) (bindO (impl_owned k y0_0.1 83) fun r30 => (iteB (!r30) (iteB (!(ByteArray.toList y0_0.2.2.2.2.2.1 == ByteArray.toList (⟨#[]⟩ : ByteArray))) (some false) (gate k (impl_tacOk.j5 k y0_0 y1_0))) (gate k (impl_tacOk.j5 k y0_0 y1_0)))) (some false)) (bindO (impl_owned k y0_0.1 83) fun r31 => (iteB (!r31) (iteB (!(ByteArray.toList y0_0.2.2.2.2.2.1 == ByteArray.toList (⟨#[]⟩ : ByteArray))) (some false) (gate k (impl_tacOk.j5 k y0_0 y1_0))) (gate k (impl_tacOk.j5 k y0_0 y1_0)))))) (some false)) (bindO (impl_owned k y0_0.1 78) fun r32 => (iteB (!r32) (iteB (!(y0_0.2.2.2.2.1 != 0)) (bindO (impl_owned k y0_0.1 83) fun r33 => (iteB (!r33) (iteB (!(ByteArray.toList y0_0.2.2.2.2.2.1 == ByteArray.toList (⟨#[]⟩ : ByteArray))) (some false) (gate k (impl_tacOk.j5 k y0_0 y1_0))) (gate k (impl_tacOk.j5 k y0_0 y1_0)))) (some false)) (bindO (impl_owned k y0_0.1 83) fun r34 => (iteB (!r34) (iteB (!(ByteArray.toList y0_0.2.2.2.2.2.1 == ByteArray.toList (⟨#[]⟩ : ByteArray))) (some false) (gate k (impl_tacOk.j5 k y0_0 y1_0))) (gate k (impl_tacOk.j5 k y0_0 y1_0))))))))))) := by kernel_rfl
theorem impl_tacOk.j5_e (k : Nat) (y0_0 : Int × Int × Int × Int × Int × ByteArray × (List Int) × Unit) (y1_0 : Int) : impl_tacOk.j5 k y0_0 y1_0 =
  bindO (impl_Sets k y0_0) fun r35 => (bindO (impl_Uses k y0_0) fun r36 => (iteB (decide ((List.length (r35 ++ r36)) * 8 ≤ lim)) (bindO (slices_ContainsFunc_int__impl_tacOk_1 k (r35 ++ r36) y1_0) fun r37 => (some (!r37))) (none))) := by kernel_rfl
theorem impl_tacOk_e (k : Nat) (a1 : Int × Int × Int × Int × Int × ByteArray × (List Int) × Unit) (a2 : Int) : impl_tacOk k a1 a2 =
  bindO (impl_owns k a1.1) fun r1 => (iteB (!(ByteArray.toList r1 == ByteArray.toList (⟨#[]⟩ : ByteArray))) (bindO (impl_WordOk k a1.2.2.2.2.1) fun r2 => (iteB (!(!r2)) (bindO (impl_argsOk k a1 a2) fun r3 => (iteB (!r3) (some false) (gate k (impl_tacOk.j3 k a1 a2)))) (some false))) (some false)) := by kernel_rfl
theorem E_impl_tacOk_calls (k : Nat) : CallsOk Tryz.prog (E_impl_tacOk k) (arun Tryz.prog (E_impl_tacOk k) k) := by
  refine told_run (tyTOk _ _) ?_ (fun run h => regOk (tyTOk _ _) mixOk h) ?_ nameOk k
  · intro g m hg
    simp only [E_impl_tacOk] at hg
    split at hg
    · cases hg
      refine con_byVal fun ρ l K x hm => ?_
      split at hm
      · obtain ⟨c1, h1, hm⟩ := Option.bind_eq_some_iff.1 hm
        obtain ⟨r, hr, hm⟩ := Option.bind_eq_some_iff.1 hm
        exact ⟨_, hm, LawV.reads (.cons (.as h1) .nil) (impl_owns_law k c1 r hr)⟩
      · cases hm
    · cases hg
      refine con_byVal fun ρ l K x hm => ?_
      split at hm
      · obtain ⟨c1, h1, hm⟩ := Option.bind_eq_some_iff.1 hm
        obtain ⟨r, hr, hm⟩ := Option.bind_eq_some_iff.1 hm
        exact ⟨_, hm, LawV.reads (.cons (.as h1) .nil) (impl_WordOk_law k c1 r hr)⟩
      · cases hm
    · cases hg
      refine con_byVal fun ρ l K x hm => ?_
      split at hm
      · obtain ⟨c1, h1, hm⟩ := Option.bind_eq_some_iff.1 hm
        obtain ⟨c2, h2, hm⟩ := Option.bind_eq_some_iff.1 hm
        obtain ⟨r, hr, hm⟩ := Option.bind_eq_some_iff.1 hm
        exact ⟨_, hm, LawV.reads (.cons (.as h1) (.cons (.as h2) .nil)) (impl_argsOk_law k c1 c2 r hr)⟩
      · cases hm
    · cases hg
      refine con_byVal fun ρ l K x hm => ?_
      split at hm
      · obtain ⟨c1, h1, hm⟩ := Option.bind_eq_some_iff.1 hm
        obtain ⟨c2, h2, hm⟩ := Option.bind_eq_some_iff.1 hm
        obtain ⟨r, hr, hm⟩ := Option.bind_eq_some_iff.1 hm
        exact ⟨_, hm, LawV.reads (.cons (.as h1) (.cons (.as h2) .nil)) (impl_owned_law k c1 c2 r hr)⟩
      · cases hm
    · cases hg
      refine con_byFresh fun ρ l K x hm => ?_
      split at hm
      · obtain ⟨c1, h1, hm⟩ := Option.bind_eq_some_iff.1 hm
        obtain ⟨r, hr, hm⟩ := Option.bind_eq_some_iff.1 hm
        exact ⟨_, hm, LawF.reads (.cons (.as h1) .nil) (impl_Sets_law k c1 r hr)⟩
      · cases hm
    · cases hg
      refine con_byVal fun ρ l K x hm => ?_
      split at hm
      · obtain ⟨c1, h1, hm⟩ := Option.bind_eq_some_iff.1 hm
        obtain ⟨r, hr, hm⟩ := Option.bind_eq_some_iff.1 hm
        exact ⟨_, hm, LawV.reads (.cons (.as h1) .nil) (impl_Uses_law k c1 r hr)⟩
      · cases hm
    · cases hg
      refine con_byVal fun ρ l K x hm => ?_
      split at hm
      · obtain ⟨c1, h1, hm⟩ := Option.bind_eq_some_iff.1 hm
        obtain ⟨c2, h2, hm⟩ := Option.bind_eq_some_iff.1 hm
        obtain ⟨r, hr, hm⟩ := Option.bind_eq_some_iff.1 hm
        exact ⟨_, hm, LawV.reads (.cons (.as h1) (.cons (.fn (.cons (.bp (.cons (.as h2) .nil)) .nil)) .nil)) (slices_ContainsFunc_int__impl_tacOk_1_law k c1 c2 r hr)⟩
      · cases hm
    · cases hg; exact noCon_ok
    · cases hg
  · intro g hg r
    by_cases h : g = 83
    · subst h; simp [E_impl_tacOk] at hg
    · simp [E_impl_tacOk, h]
theorem f83_okimpl_tacOk : Tryz.prog.funcs[83]? = some Tryz.f83 := by kernel_rfl
theorem impl_tacOk_law (k : Nat) (a1 : Int × Int × Int × Int × Int × ByteArray × (List Int) × Unit) (a2 : Int) (x : Bool) (h : impl_tacOk k a1 a2 = some x) : LawV Tryz.prog 83 [.tv (.pair (.int .i64) (.pair (.int .i64) (.pair (.int .i64) (.pair (.int .i64) (.pair (.int .i64) (.pair .str (.pair (.row (.int .i64)) .unit))))))) a1, .int .i64 a2] (tvn .bool x) := by
  unfold impl_tacOk at h
  exact law1 (t := .bool) (tyTOk _ _) (E_impl_tacOk_calls k) mixOk f83_okimpl_tacOk (nameOk _ _ f83_okimpl_tacOk) (by kernel_rfl) h
/-! impl.labelAt$1 -/
noncomputable def E_impl_labelAt_1_vbp (k : Nat) : Env := ⟨ty, fun _ => none, fun _ _ => none⟩
noncomputable def impl_labelAt_1_vbp (k : Nat) (a1 : Int × Int × Int × Int × Int × ByteArray × (List Int) × Unit) (a2 : Int) : Option (Bool) :=
  abody (E_impl_labelAt_1_vbp k) (arun Tryz.prog (E_impl_labelAt_1_vbp k) k) k 105 Tryz.f105 [.tv (.pair (.int .i64) (.pair (.int .i64) (.pair (.int .i64) (.pair (.int .i64) (.pair (.int .i64) (.pair .str (.pair (.row (.int .i64)) .unit))))))) a1, .bp [.int .i64 a2] 0] [] (fin1 .bool)
theorem impl_labelAt_1_vbp_e (k : Nat) (a1 : Int × Int × Int × Int × Int × ByteArray × (List Int) × Unit) (a2 : Int) : impl_labelAt_1_vbp k a1 a2 =
  iteB (a1.1 == 8) (some (a1.2.2.2.2.1 == a2)) (some false) := by kernel_rfl
theorem E_impl_labelAt_1_vbp_calls (k : Nat) : CallsOk Tryz.prog (E_impl_labelAt_1_vbp k) (arun Tryz.prog (E_impl_labelAt_1_vbp k) k) := by
  refine told_run (tyTOk _ _) ?_ (fun run h => regOk (tyTOk _ _) mixOk h) ?_ nameOk k
  · intro g m hg
    cases hg
  · intro g _ r; rfl
theorem f105_okimpl_labelAt_1_vbp : Tryz.prog.funcs[105]? = some Tryz.f105 := by kernel_rfl
theorem impl_labelAt_1_vbp_law (k : Nat) (a1 : Int × Int × Int × Int × Int × ByteArray × (List Int) × Unit) (a2 : Int) (x : Bool) (h : impl_labelAt_1_vbp k a1 a2 = some x) : LawV Tryz.prog 105 [.tv (.pair (.int .i64) (.pair (.int .i64) (.pair (.int .i64) (.pair (.int .i64) (.pair (.int .i64) (.pair .str (.pair (.row (.int .i64)) .unit))))))) a1, .bp [.int .i64 a2] 0] (tvn .bool x) := by
  unfold impl_labelAt_1_vbp at h
  exact law1 (t := .bool) (tyTOk _ _) (E_impl_labelAt_1_vbp_calls k) mixOk f105_okimpl_labelAt_1_vbp (nameOk _ _ f105_okimpl_labelAt_1_vbp) (by kernel_rfl) h
/-! slices.IndexFunc[[]impl.Tac,impl.Tac] -/
noncomputable def E_slices_IndexFunc_impl_Tac__impl_labelAt_1 (k : Nat) : Env := ⟨ty, fun g => match g with
  | 105 => some (byVal fun ρ l K => match l with
    | [b1, .bp [b2] 0] => (b1.as (.pair (.int .i64) (.pair (.int .i64) (.pair (.int .i64) (.pair (.int .i64) (.pair (.int .i64) (.pair .str (.pair (.row (.int .i64)) .unit)))))))).bind fun c1 => (b2.as (.int .i64)).bind fun c2 => (impl_labelAt_1_vbp k c1 c2).bind fun r => K (tvn .bool r)
    | _ => none)
  | 104 => some noCon
  | _ => none, fun f r => match f with | 104 => (match r with | 2 => some [0, 1, 7, 8] | _ => none) | _ => none⟩
noncomputable def slices_IndexFunc_impl_Tac__impl_labelAt_1 (k : Nat) (a1 : List (Int × Int × Int × Int × Int × ByteArray × (List Int) × Unit)) (a2 : Int) : Option (Int) :=
  abody (E_slices_IndexFunc_impl_Tac__impl_labelAt_1 k) (arun Tryz.prog (E_slices_IndexFunc_impl_Tac__impl_labelAt_1 k) k) k 104 Tryz.f104 [.tv (.row (.pair (.int .i64) (.pair (.int .i64) (.pair (.int .i64) (.pair (.int .i64) (.pair (.int .i64) (.pair .str (.pair (.row (.int .i64)) .unit)))))))) a1, .fn 105 [.bp [.int .i64 a2] 0]] [] (fin1 (.int .i64))
noncomputable def slices_IndexFunc_impl_Tac__impl_labelAt_1.l2 (k n : Nat) (x0 : List (Int × Int × Int × Int × Int × ByteArray × (List Int) × Unit)) (x1_0_0 : Int) (x7 : Int) (x8 : Int) : Option (Int) :=
  resume (E_slices_IndexFunc_impl_Tac__impl_labelAt_1 k) 104 (acall (E_slices_IndexFunc_impl_Tac__impl_labelAt_1 k) (arun Tryz.prog (E_slices_IndexFunc_impl_Tac__impl_labelAt_1 k) k)) k [true, false, true, true] [n] (bodyOf Tryz.f104) ⟨[.tv (.row (.pair (.int .i64) (.pair (.int .i64) (.pair (.int .i64) (.pair (.int .i64) (.pair (.int .i64) (.pair .str (.pair (.row (.int .i64)) .unit)))))))) x0, .fn 105 [.bp [.int .i64 x1_0_0] 0], .undef, .undef, .undef, .undef, .undef, .int .i64 x7, .int .i64 x8, .undef, .undef, .undef, .undef, .undef, .undef, .undef, .undef, .undef, .undef], []⟩ (leave (E_slices_IndexFunc_impl_Tac__impl_labelAt_1 k) Tryz.f104 (fin1 (.int .i64)))
theorem slices_IndexFunc_impl_Tac__impl_labelAt_1.l2_0 (k : Nat) (x0 : List (Int × Int × Int × Int × Int × ByteArray × (List Int) × Unit)) (x1_0_0 : Int) (x7 : Int) (x8 : Int) : slices_IndexFunc_impl_Tac__impl_labelAt_1.l2 k 0 x0 x1_0_0 x7 x8 = none := by kernel_rfl
theorem slices_IndexFunc_impl_Tac__impl_labelAt_1.l2_s (k n : Nat) (x0 : List (Int × Int × Int × Int × Int × ByteArray × (List Int) × Unit)) (x1_0_0 : Int) (x7 : Int) (x8 : Int) : slices_IndexFunc_impl_Tac__impl_labelAt_1.l2 k (n + 1) x0 x1_0_0 x7 x8 =
  iteB (decide (x8 < x7)) (iteB (decide (0 ≤ x8)) (iteB (decide (x8 < ((List.length x0) : Int))) (bindO (impl_labelAt_1_vbp k (List.getD x0 (Int.toNat x8) (Ty.dflt (.pair (.int .i64) (.pair (.int .i64) (.pair (.int .i64) (.pair (.int .i64) (.pair (.int .i64) (.pair .str (.pair (.row (.int .i64)) .unit))))))))) x1_0_0) fun r1 => (iteB r1 (some x8) (slices_IndexFunc_impl_Tac__impl_labelAt_1.l2 k n x0 x1_0_0 x7 (IntKind.wrap .i64 (x8 + 1))))) (none)) (none)) (some (-1)) := by kernel_rfl
theorem slices_IndexFunc_impl_Tac__impl_labelAt_1_e (k : Nat) (a1 : List (Int × Int × Int × Int × Int × ByteArray × (List Int) × Unit)) (a2 : Int) : slices_IndexFunc_impl_Tac__impl_labelAt_1 k a1 a2 =
  slices_IndexFunc_impl_Tac__impl_labelAt_1.l2 k k a1 a2 ((List.length a1) : Int) 0 := by kernel_rfl
theorem E_slices_IndexFunc_impl_Tac__impl_labelAt_1_calls (k : Nat) : CallsOk Tryz.prog (E_slices_IndexFunc_impl_Tac__impl_labelAt_1 k) (arun Tryz.prog (E_slices_IndexFunc_impl_Tac__impl_labelAt_1 k) k) := by
  refine told_run (tyTOk _ _) ?_ (fun run h => regOk (tyTOk _ _) mixOk h) ?_ nameOk k
  · intro g m hg
    simp only [E_slices_IndexFunc_impl_Tac__impl_labelAt_1] at hg
    split at hg
    · cases hg
      refine con_byVal fun ρ l K x hm => ?_
      split at hm
      · obtain ⟨c1, h1, hm⟩ := Option.bind_eq_some_iff.1 hm
        obtain ⟨c2, h2, hm⟩ := Option.bind_eq_some_iff.1 hm
        obtain ⟨r, hr, hm⟩ := Option.bind_eq_some_iff.1 hm
        exact ⟨_, hm, LawV.reads (.cons (.as h1) (.cons (.bp (.cons (.as h2) .nil)) .nil)) (impl_labelAt_1_vbp_law k c1 c2 r hr)⟩
      · cases hm
    · cases hg; exact noCon_ok
    · cases hg
  · intro g hg r
    by_cases h : g = 104
    · subst h; simp [E_slices_IndexFunc_impl_Tac__impl_labelAt_1] at hg
    · simp [E_slices_IndexFunc_impl_Tac__impl_labelAt_1, h]
theorem f104_okslices_IndexFunc_impl_Tac__impl_labelAt_1 : Tryz.prog.funcs[104]? = some Tryz.f104 := by kernel_rfl
theorem slices_IndexFunc_impl_Tac__impl_labelAt_1_law (k : Nat) (a1 : List (Int × Int × Int × Int × Int × ByteArray × (List Int) × Unit)) (a2 : Int) (x : Int) (h : slices_IndexFunc_impl_Tac__impl_labelAt_1 k a1 a2 = some x) : LawV Tryz.prog 104 [.tv (.row (.pair (.int .i64) (.pair (.int .i64) (.pair (.int .i64) (.pair (.int .i64) (.pair (.int .i64) (.pair .str (.pair (.row (.int .i64)) .unit)))))))) a1, .fn 105 [.bp [.int .i64 a2] 0]] (tvn (.int .i64) x) := by
  unfold slices_IndexFunc_impl_Tac__impl_labelAt_1 at h
  exact law1 (t := (.int .i64)) (tyTOk _ _) (E_slices_IndexFunc_impl_Tac__impl_labelAt_1_calls k) mixOk f104_okslices_IndexFunc_impl_Tac__impl_labelAt_1 (nameOk _ _ f104_okslices_IndexFunc_impl_Tac__impl_labelAt_1) (by kernel_rfl) h
/-! impl.labelAt -/
noncomputable def E_impl_labelAt (k : Nat) : Env := ⟨ty, fun g => match g with
  | 104 => some (byVal fun ρ l K => match l with
    | [b1, .fn 105 [.bp [b2] 0]] => (b1.as (.row (.pair (.int .i64) (.pair (.int .i64) (.pair (.int .i64) (.pair (.int .i64) (.pair (.int .i64) (.pair .str (.pair (.row (.int .i64)) .unit))))))))).bind fun c1 => (b2.as (.int .i64)).bind fun c2 => (slices_IndexFunc_impl_Tac__impl_labelAt_1 k c1 c2).bind fun r => K (tvn (.int .i64) r)
    | _ => none)
  | _ => none, fun _ _ => none⟩
noncomputable def impl_labelAt (k : Nat) (a1 : List (Int × Int × Int × Int × Int × ByteArray × (List Int) × Unit)) (a2 : Int) : Option (Int) :=
  abody (E_impl_labelAt k) (arun Tryz.prog (E_impl_labelAt k) k) k 84 Tryz.f84 [.tv (.row (.pair (.int .i64) (.pair (.int .i64) (.pair (.int .i64) (.pair (.int .i64) (.pair (.int .i64) (.pair .str (.pair (.row (.int .i64)) .unit)))))))) a1, .int .i64 a2] [] (fin1 (.int .i64))
theorem impl_labelAt_e (k : Nat) (a1 : List (Int × Int × Int × Int × Int × ByteArray × (List Int) × Unit)) (a2 : Int) : impl_labelAt k a1 a2 =
  bindO (slices_IndexFunc_impl_Tac__impl_labelAt_1 k a1 a2) fun r1 => (some r1) := by kernel_rfl
theorem E_impl_labelAt_calls (k : Nat) : CallsOk Tryz.prog (E_impl_labelAt k) (arun Tryz.prog (E_impl_labelAt k) k) := by
  refine told_run (tyTOk _ _) ?_ (fun run h => regOk (tyTOk _ _) mixOk h) ?_ nameOk k
  · intro g m hg
    simp only [E_impl_labelAt] at hg
    split at hg
    · cases hg
      refine con_byVal fun ρ l K x hm => ?_
      split at hm
      · obtain ⟨c1, h1, hm⟩ := Option.bind_eq_some_iff.1 hm
        obtain ⟨c2, h2, hm⟩ := Option.bind_eq_some_iff.1 hm
        obtain ⟨r, hr, hm⟩ := Option.bind_eq_some_iff.1 hm
        exact ⟨_, hm, LawV.reads (.cons (.as h1) (.cons (.fn (.cons (.bp (.cons (.as h2) .nil)) .nil)) .nil)) (slices_IndexFunc_impl_Tac__impl_labelAt_1_law k c1 c2 r hr)⟩
      · cases hm
    · cases hg
  · intro g _ r; rfl
theorem f84_okimpl_labelAt : Tryz.prog.funcs[84]? = some Tryz.f84 := by kernel_rfl
theorem impl_labelAt_law (k : Nat) (a1 : List (Int × Int × Int × Int × Int × ByteArray × (List Int) × Unit)) (a2 : Int) (x : Int) (h : impl_labelAt k a1 a2 = some x) : LawV Tryz.prog 84 [.tv (.row (.pair (.int .i64) (.pair (.int .i64) (.pair (.int .i64) (.pair (.int .i64) (.pair (.int .i64) (.pair .str (.pair (.row (.int .i64)) .unit)))))))) a1, .int .i64 a2] (tvn (.int .i64) x) := by
  unfold impl_labelAt at h
  exact law1 (t := (.int .i64)) (tyTOk _ _) (E_impl_labelAt_calls k) mixOk f84_okimpl_labelAt (nameOk _ _ f84_okimpl_labelAt) (by kernel_rfl) h
/-! impl.ends -/
noncomputable def E_impl_ends (k : Nat) : Env := ⟨ty, fun _ => none, fun _ _ => none⟩
noncomputable def impl_ends (k : Nat) (a1 : Int) : Option (Bool) :=
  abody (E_impl_ends k) (arun Tryz.prog (E_impl_ends k) k) k 85 Tryz.f85 [.int .i64 a1] [] (fin1 .bool)
theorem impl_ends_e (k : Nat) (a1 : Int) : impl_ends k a1 =
  iteB (!(a1 == 12)) (iteB (!(a1 == 9)) (some (a1 == 28)) (some true)) (some true) := by kernel_rfl
theorem E_impl_ends_calls (k : Nat) : CallsOk Tryz.prog (E_impl_ends k) (arun Tryz.prog (E_impl_ends k) k) := by
  refine told_run (tyTOk _ _) ?_ (fun run h => regOk (tyTOk _ _) mixOk h) ?_ nameOk k
  · intro g m hg
    cases hg
  · intro g _ r; rfl
theorem f85_okimpl_ends : Tryz.prog.funcs[85]? = some Tryz.f85 := by kernel_rfl
theorem impl_ends_law (k : Nat) (a1 : Int) (x : Bool) (h : impl_ends k a1 = some x) : LawV Tryz.prog 85 [.int .i64 a1] (tvn .bool x) := by
  unfold impl_ends at h
  exact law1 (t := .bool) (tyTOk _ _) (E_impl_ends_calls k) mixOk f85_okimpl_ends (nameOk _ _ f85_okimpl_ends) (by kernel_rfl) h
end Go.Proofs.YtcjpjgfjagfjjaaGreat.XFnExactStuck
