/- Functions of the program as runs of the interpreter: equations, and a law for each. -/
import Derived.Test.YteojdaobpjhddaaProg
import Derived.Test.YteojdaobpjhddaaChecked
import Derived.KernelRfl
import Derived.Eval
import Derived.Test.YteojdaobpjhddaaATyOk
import Derived.Test.YteojdaobpjhddaaAS40
import Derived.Test.YteojdaobpjhddaaAMFnWaits0
open Go Go.AM Go.AMx Go.Proofs
namespace Go.Proofs.Yteojdaobpjhddaa.XFnWaits
set_option linter.unusedVariables false
set_option linter.unusedSimpArgs false
/-! impl.Live -/
noncomputable def E_impl_Live (k : Nat) : Env := ⟨ty, fun g => match g with
  | 63 => some (byVal fun ρ l K => match l with
    | [b1, b2] => (b1.as (.pair (.int .i64) (.pair (.int .i64) (.pair (.int .i64) (.pair (.int .i64) .unit))))).bind fun c1 => (b2.as (.row (.int .i64))).bind fun c2 => (impl_isLive k c1 c2).bind fun r => K (tvn .bool r)
    | _ => none)
  | 26 => some noCon
  | _ => none, fun f r => match f with | 26 => (match r with | 3 => some [1, 5, 9, 10, 11] | _ => none) | _ => none⟩
noncomputable def impl_Live (k : Nat) (a1 : List (Int × Int × Int × Int × Unit)) (a2 : List Int) : Option (List (Int × Int × Int × Int × Unit)) :=
  abody (E_impl_Live k) (arun Try.prog (E_impl_Live k) k) k 26 Try.f26 [.tv (.row (.pair (.int .i64) (.pair (.int .i64) (.pair (.int .i64) (.pair (.int .i64) .unit))))) a1, .tv (.row (.int .i64)) a2] [] (fin1 (.row (.pair (.int .i64) (.pair (.int .i64) (.pair (.int .i64) (.pair (.int .i64) .unit))))))
noncomputable def impl_Live.l3 (k n : Nat) (x1 : List Int) (x9 : List (Int × Int × Int × Int × Unit)) (x10 : Int) (x11 : Int) : Option (List (Int × Int × Int × Int × Unit)) :=
  resume (E_impl_Live k) 26 (acall (E_impl_Live k) (arun Try.prog (E_impl_Live k) k)) k [true, true, false, true, true] [n] (bodyOf Try.f26) ⟨[.undef, .tv (.row (.int .i64)) x1, .undef, .undef, .undef, .sl 0, .undef, .undef, .undef, .tv (.row (.pair (.int .i64) (.pair (.int .i64) (.pair (.int .i64) (.pair (.int .i64) .unit))))) x9, .int .i64 x10, .int .i64 x11, .undef, .undef, .undef, .undef, .undef, .undef, .undef, .undef, .undef, .undef, .undef, .undef], [some ⟨.typed (.pair (.int .i64) (.pair (.int .i64) (.pair (.int .i64) (.pair (.int .i64) .unit)))) [], true⟩]⟩ (leave (E_impl_Live k) Try.f26 (fin1 (.row (.pair (.int .i64) (.pair (.int .i64) (.pair (.int .i64) (.pair (.int .i64) .unit)))))))
noncomputable def impl_Live.l3b (k n : Nat) (x1 : List Int) (x9 : List (Int × Int × Int × Int × Unit)) (x10 : Int) (x11 : Int) (y0 : List (Int × Int × Int × Int × Unit)) : Option (List (Int × Int × Int × Int × Unit)) :=
  resume (E_impl_Live k) 26 (acall (E_impl_Live k) (arun Try.prog (E_impl_Live k) k)) k [true, true, false, true, true] [n] (bodyOf Try.f26) ⟨[.undef, .tv (.row (.int .i64)) x1, .undef, .undef, .undef, .sl 0, .undef, .undef, .undef, .tv (.row (.pair (.int .i64) (.pair (.int .i64) (.pair (.int .i64) (.pair (.int .i64) .unit))))) x9, .int .i64 x10, .int .i64 x11, .undef, .undef, .undef, .undef, .undef, .undef, .undef, .undef, .undef, .undef, .undef, .undef], [some ⟨.typed (.pair (.int .i64) (.pair (.int .i64) (.pair (.int .i64) (.pair (.int .i64) .unit)))) y0, false⟩]⟩ (leave (E_impl_Live k) Try.f26 (fin1 (.row (.pair (.int .i64) (.pair (.int .i64) (.pair (.int .i64) (.pair (.int .i64) .unit)))))))
theorem impl_Live.l3_0 (k : Nat) (x1 : List Int) (x9 : List (Int × Int × Int × Int × Unit)) (x10 : Int) (x11 : Int) : impl_Live.l3 k 0 x1 x9 x10 x11 = none := by kernel_rfl
theorem impl_Live.l3_s (k n : Nat) (x1 : List Int) (x9 : List (Int × Int × Int × Int × Unit)) (x10 : Int) (x11 : Int) : impl_Live.l3 k (n + 1) x1 x9 x10 x11 =
  iteB (decide (x11 < x10)) (iteB (decide (0 ≤ x11)) (iteB (decide (x11 < ((List.length x9) : Int))) (bindO (impl_isLive k (List.getD x9 (Int.toNat x11) (Ty.dflt (.pair (.int .i64) (.pair (.int .i64) (.pair (.int .i64) (.pair (.int .i64) .unit)))))) x1) fun r1 => (iteB r1 (iteB (decide ((List.length ([] ++ [List.getD x9 (Int.toNat x11) (Ty.dflt (.pair (.int .i64) (.pair (.int .i64) (.pair (.int .i64) (.pair (.int .i64) .unit)))))])) * 32 ≤ lim)) (impl_Live.l3b k n x1 x9 x10 (IntKind.wrap .i64 (x11 + 1)) ([] ++ [List.getD x9 (Int.toNat x11) (Ty.dflt (.pair (.int .i64) (.pair (.int .i64) (.pair (.int .i64) (.pair (.int .i64) .unit)))))])) (none)) (impl_Live.l3 k n x1 x9 x10 (IntKind.wrap .i64 (x11 + 1))))) (none)) (none)) (some []) := by kernel_rfl
theorem impl_Live.l3b_0 (k : Nat) (x1 : List Int) (x9 : List (Int × Int × Int × Int × Unit)) (x10 : Int) (x11 : Int) (y0 : List (Int × Int × Int × Int × Unit)) : impl_Live.l3b k 0 x1 x9 x10 x11 y0 = none := by kernel_rfl
theorem impl_Live.l3b_s (k n : Nat) (x1 : List Int) (x9 : List (Int × Int × Int × Int × Unit)) (x10 : Int) (x11 : Int) (y0 : List (Int × Int × Int × Int × Unit)) : impl_Live.l3b k (n + 1) x1 x9 x10 x11 y0 =
  iteB (decide (x11 < x10)) (iteB (decide (0 ≤ x11)) (iteB (decide (x11 < ((List.length x9) : Int))) (bindO (impl_isLive k (List.getD x9 (Int.toNat x11) (Ty.dflt (.pair (.int .i64) (.pair (.int .i64) (.pair (.int .i64) (.pair (.int .i64) .unit)))))) x1) fun r2 => (iteB r2 (iteB (decide ((List.length (y0 ++ [List.getD x9 (Int.toNat x11) (Ty.dflt (.pair (.int .i64) (.pair (.int .i64) (.pair (.int .i64) (.pair (.int .i64) .unit)))))])) * 32 ≤ lim)) (impl_Live.l3b k n x1 x9 x10 (IntKind.wrap .i64 (x11 + 1)) (y0 ++ [List.getD x9 (Int.toNat x11) (Ty.dflt (.pair (.int .i64) (.pair (.int .i64) (.pair (.int .i64) (.pair (.int .i64) .unit)))))])) (none)) (impl_Live.l3b k n x1 x9 x10 (IntKind.wrap .i64 (x11 + 1)) y0))) (none)) (none)) (some y0) := by kernel_rfl
theorem impl_Live_e (k : Nat) (a1 : List (Int × Int × Int × Int × Unit)) (a2 : List Int) : impl_Live k a1 a2 =
  impl_Live.l3 k k a2 a1 ((List.length a1) : Int) 0 := by kernel_rfl
theorem E_impl_Live_calls (k : Nat) : CallsOk Try.prog (E_impl_Live k) (arun Try.prog (E_impl_Live k) k) := by
  refine told_run (tyTOk _ _) ?_ (fun run h => regOk (tyTOk _ _) mixOk h) ?_ nameOk k
  · intro g m hg
    simp only [E_impl_Live] at hg
    split at hg
    · cases hg
      refine con_byVal fun ρ l K x hm => ?_
      split at hm
      · obtain ⟨c1, h1, hm⟩ := Option.bind_eq_some_iff.1 hm
        obtain ⟨c2, h2, hm⟩ := Option.bind_eq_some_iff.1 hm
        obtain ⟨r, hr, hm⟩ := Option.bind_eq_some_iff.1 hm
        exact ⟨_, hm, LawV.reads (.cons (.as h1) (.cons (.as h2) .nil)) (impl_isLive_law k c1 c2 r hr)⟩
      · cases hm
    · cases hg; exact noCon_ok
    · cases hg
  · intro g hg r
    by_cases h : g = 26
    · subst h; simp [E_impl_Live] at hg
    · simp [E_impl_Live, h]
theorem f26_okimpl_Live : Try.prog.funcs[26]? = some Try.f26 := by kernel_rfl
theorem impl_Live_law (k : Nat) (a1 : List (Int × Int × Int × Int × Unit)) (a2 : List Int) (x : List (Int × Int × Int × Int × Unit)) (h : impl_Live k a1 a2 = some x) : LawV Try.prog 26 [.tv (.row (.pair (.int .i64) (.pair (.int .i64) (.pair (.int .i64) (.pair (.int .i64) .unit))))) a1, .tv (.row (.int .i64)) a2] (tvn (.row (.pair (.int .i64) (.pair (.int .i64) (.pair (.int .i64) (.pair (.int .i64) .unit))))) x) := by
  unfold impl_Live at h
  exact law1 (t := (.row (.pair (.int .i64) (.pair (.int .i64) (.pair (.int .i64) (.pair (.int .i64) .unit)))))) (tyTOk _ _) (E_impl_Live_calls k) mixOk f26_okimpl_Live (nameOk _ _ f26_okimpl_Live) (by kernel_rfl) h
/-! spec.l1Once -/
noncomputable def E_spec_l1Once (k : Nat) : Env := ⟨ty, fun g => match g with
  | 36 => some (byMutO (.pair (.row (.int .u8)) (.pair (.int .i64) (.pair (.int .i64) .unit))) fun ρ l xs K => match l with
    | [b1] => (b1.as (.int .i64)).bind fun c1 => (spec_l1Below k xs c1).bind fun r => K (tvM (.int .i64) r.1) r.2
    | _ => none)
  | 35 => some noCon
  | _ => none, fun f r => match f with | 35 => (match r with | 999999 => some [1] | _ => none) | _ => none⟩
noncomputable def spec_l1Once (k : Nat) (a1 : (List Int) × Int × Int × Unit) (a2 : Int) : Option (Bool × ((List Int) × Int × Int × Unit)) :=
  abody (E_spec_l1Once k) (arun Try.prog (E_spec_l1Once k) k) k 35 Try.f35 [.ptr 0 0 0, .int .i64 a2] [some ⟨.raw true 3 (.tv (.pair (.row (.int .u8)) (.pair (.int .i64) (.pair (.int .i64) .unit))) (Ty.dflt (.pair (.row (.int .u8)) (.pair (.int .i64) (.pair (.int .i64) .unit))))) [.tv (.pair (.row (.int .u8)) (.pair (.int .i64) (.pair (.int .i64) .unit))) a1], false⟩] (finMo .bool (.pair (.row (.int .u8)) (.pair (.int .i64) (.pair (.int .i64) .unit))))
theorem spec_l1Once_e (k : Nat) (a1 : (List Int) × Int × Int × Unit) (a2 : Int) : spec_l1Once k a1 a2 =
  bindO (spec_l1Below k a1 a2) fun r1 => (some ((r1.1 == 0), r1.2)) := by kernel_rfl
theorem E_spec_l1Once_calls (k : Nat) : CallsOk Try.prog (E_spec_l1Once k) (arun Try.prog (E_spec_l1Once k) k) := by
  refine told_run (tyTOk _ _) ?_ (fun run h => regOk (tyTOk _ _) mixOk h) ?_ nameOk k
  · intro g m hg
    simp only [E_spec_l1Once] at hg
    split at hg
    · cases hg
      refine con_byMutO fun ρ l xs K x hm => ?_
      split at hm
      · obtain ⟨c1, h1, hm⟩ := Option.bind_eq_some_iff.1 hm
        obtain ⟨r, hr, hm⟩ := Option.bind_eq_some_iff.1 hm
        exact ⟨_, _, hm, LawMo.reads (.cons (.as h1) .nil) (spec_l1Below_law k xs c1 r hr)⟩
      · cases hm
    · cases hg; exact noCon_ok
    · cases hg
  · intro g hg r
    by_cases h : g = 35
    · subst h; simp [E_spec_l1Once] at hg
    · simp [E_spec_l1Once, h]
theorem f35_okspec_l1Once : Try.prog.funcs[35]? = some Try.f35 := by kernel_rfl
theorem spec_l1Once_law (k : Nat) (a1 : (List Int) × Int × Int × Unit) (a2 : Int) (x : (Bool) × ((List Int) × Int × Int × Unit)) (h : spec_l1Once k a1 a2 = some x) : LawMo Try.prog 35 [.int .i64 a2] (.pair (.row (.int .u8)) (.pair (.int .i64) (.pair (.int .i64) .unit))) a1 (tvM .bool x.1) x.2 := by
  unfold spec_l1Once at h
  exact lawMo (t := .bool) (T := (.pair (.row (.int .u8)) (.pair (.int .i64) (.pair (.int .i64) .unit)))) (tyTOk _ _) (E_spec_l1Once_calls k) mixOk f35_okspec_l1Once (nameOk _ _ f35_okspec_l1Once) (by kernel_rfl) (Nat.lt_of_lt_of_eq Nat.zero_lt_one (by kernel_rfl : 1 = pinsOf (E_spec_l1Once k) 35)) h
/-! spec.l1DrawAny -/
noncomputable def E_spec_l1DrawAny (k : Nat) : Env := ⟨ty, fun g => match g with
  | 44 => some (byMutR (.pair (.row (.int .u8)) (.pair (.int .i64) (.pair (.int .i64) .unit))) (.int .i64) fun ρ l xs ys K => match l with
    | [] => (spec_l1PickInt k xs ys ).bind fun r => K (tvM (.int .i64) r.1) r.2.1 r.2.2
    | _ => none)
  | 65 => some noCon
  | _ => none, fun f r => match f with | 65 => (match r with | 999999 => some [1] | _ => none) | _ => none⟩
noncomputable def spec_l1DrawAny (k : Nat) (a1 : (List Int) × Int × Int × Unit) : Option (Int × ((List Int) × Int × Int × Unit)) :=
  abody (E_spec_l1DrawAny k) (arun Try.prog (E_spec_l1DrawAny k) k) k 65 Try.f65 [.ptr 0 0 0] [some ⟨.raw true 3 (.tv (.pair (.row (.int .u8)) (.pair (.int .i64) (.pair (.int .i64) .unit))) (Ty.dflt (.pair (.row (.int .u8)) (.pair (.int .i64) (.pair (.int .i64) .unit))))) [.tv (.pair (.row (.int .u8)) (.pair (.int .i64) (.pair (.int .i64) .unit))) a1], false⟩] (finMo (.int .i64) (.pair (.row (.int .u8)) (.pair (.int .i64) (.pair (.int .i64) .unit))))
theorem spec_l1DrawAny_e (k : Nat) (a1 : (List Int) × Int × Int × Unit) : spec_l1DrawAny k a1 =
  bindO (spec_l1PickInt k a1 [0, 1, (-1), 5, 2147483647, 2147483648, (-2147483648), (-2147483649), 9223372036854775807, (-9223372036854775808)]) fun r1 => (some (r1.1, r1.2.1)) := by kernel_rfl
theorem E_spec_l1DrawAny_calls (k : Nat) : CallsOk Try.prog (E_spec_l1DrawAny k) (arun Try.prog (E_spec_l1DrawAny k) k) := by
  refine told_run (tyTOk _ _) ?_ (fun run h => regOk (tyTOk _ _) mixOk h) ?_ nameOk k
  · intro g m hg
    simp only [E_spec_l1DrawAny] at hg
    split at hg
    · cases hg
      refine con_byMutR fun ρ l xs ys K x hm => ?_
      split at hm
      · obtain ⟨r, hr, hm⟩ := Option.bind_eq_some_iff.1 hm
        exact ⟨_, _, _, hm, LawMr.reads .nil (spec_l1PickInt_law k xs ys  r hr)⟩
      · cases hm
    · cases hg; exact noCon_ok
    · cases hg
  · intro g hg r
    by_cases h : g = 65
    · subst h; simp [E_spec_l1DrawAny] at hg
    · simp [E_spec_l1DrawAny, h]
theorem f65_okspec_l1DrawAny : Try.prog.funcs[65]? = some Try.f65 := by kernel_rfl
theorem spec_l1DrawAny_law (k : Nat) (a1 : (List Int) × Int × Int × Unit) (x : (Int) × ((List Int) × Int × Int × Unit)) (h : spec_l1DrawAny k a1 = some x) : LawMo Try.prog 65 [] (.pair (.row (.int .u8)) (.pair (.int .i64) (.pair (.int .i64) .unit))) a1 (tvM (.int .i64) x.1) x.2 := by
  unfold spec_l1DrawAny at h
  exact lawMo (t := (.int .i64)) (T := (.pair (.row (.int .u8)) (.pair (.int .i64) (.pair (.int .i64) .unit)))) (tyTOk _ _) (E_spec_l1DrawAny_calls k) mixOk f65_okspec_l1DrawAny (nameOk _ _ f65_okspec_l1DrawAny) (by kernel_rfl) (Nat.lt_of_lt_of_eq Nat.zero_lt_one (by kernel_rfl : 1 = pinsOf (E_spec_l1DrawAny k) 65)) h
/-! spec.DrawChanOk -/
noncomputable def E_spec_DrawChanOk (k : Nat) : Env := ⟨ty, fun g => match g with
  | 32 => some (byFreshO (.pair (.row (.int .u8)) (.pair (.int .i64) (.pair (.int .i64) .unit))) fun ρ l K => match l with
    | [b1] => (b1.as (.row (.int .u8))).bind fun c1 => (spec_l1New k c1).bind fun r => K r
    | _ => none)
  | 36 => some (byMutO (.pair (.row (.int .u8)) (.pair (.int .i64) (.pair (.int .i64) .unit))) fun ρ l xs K => match l with
    | [b1] => (b1.as (.int .i64)).bind fun c1 => (spec_l1Below k xs c1).bind fun r => K (tvM (.int .i64) r.1) r.2
    | _ => none)
  | 35 => some (byMutO (.pair (.row (.int .u8)) (.pair (.int .i64) (.pair (.int .i64) .unit))) fun ρ l xs K => match l with
    | [b1] => (b1.as (.int .i64)).bind fun c1 => (spec_l1Once k xs c1).bind fun r => K (tvM .bool r.1) r.2
    | _ => none)
  | 57 => some (byMutOF (.pair (.row (.int .u8)) (.pair (.int .i64) (.pair (.int .i64) .unit))) (.pair (.int .i64) (.pair (.int .i64) (.pair (.int .i64) (.pair (.int .i64) .unit)))) fun ρ l xs K => match l with
    | [] => (spec_l12DrawList k xs ).bind fun r => K r.1 r.2
    | _ => none)
  | 64 => some (byMutO (.pair (.row (.int .u8)) (.pair (.int .i64) (.pair (.int .i64) .unit))) fun ρ l xs K => match l with
    | [] => (spec_l1DrawWord k xs ).bind fun r => K (tvM (.int .i64) r.1) r.2
    | _ => none)
  | 44 => some (byMutR (.pair (.row (.int .u8)) (.pair (.int .i64) (.pair (.int .i64) .unit))) (.int .i64) fun ρ l xs ys K => match l with
    | [] => (spec_l1PickInt k xs ys ).bind fun r => K (tvM (.int .i64) r.1) r.2.1 r.2.2
    | _ => none)
  | 65 => some (byMutO (.pair (.row (.int .u8)) (.pair (.int .i64) (.pair (.int .i64) .unit))) fun ρ l xs K => match l with
    | [] => (spec_l1DrawAny k xs ).bind fun r => K (tvM (.int .i64) r.1) r.2
    | _ => none)
  | 58 => some (byMutO (.pair (.row (.int .u8)) (.pair (.int .i64) (.pair (.int .i64) .unit))) fun ρ l xs K => match l with
    | [] => (spec_l12DrawWait k xs ).bind fun r => K (tvM (.pair (.int .i64) (.pair (.int .i64) (.pair (.int .i64) (.pair (.int .i64) .unit)))) r.1) r.2
    | _ => none)
  | 27 => some noCon
  | _ => none, fun f r => match f with | 27 => (match r with | 4 => some [2, 3, 4, 5] | _ => none) | _ => none⟩
noncomputable def spec_DrawChanOk (k : Nat) (a1 : List Int) : Option (Int × Bool × (List Int) × (List (Int × Int × Int × Int × Unit)) × (List (Int × Int × Int × Int × Unit)) × Unit) :=
  abody (E_spec_DrawChanOk k) (arun Try.prog (E_spec_DrawChanOk k) k) k 27 Try.f27 [.tv (.row (.int .u8)) a1] [] (fin1 (.pair (.int .i64) (.pair .bool (.pair (.row (.int .i64)) (.pair (.row (.pair (.int .i64) (.pair (.int .i64) (.pair (.int .i64) (.pair (.int .i64) .unit))))) (.pair (.row (.pair (.int .i64) (.pair (.int .i64) (.pair (.int .i64) (.pair (.int .i64) .unit))))) .unit))))))
noncomputable def spec_DrawChanOk.l4 (k n : Nat) (x5 : Int) (y0_0_0 : Int) (y0_0_1 : Bool) (y1_0 : (List Int) × Int × Int × Unit) (y2_0_0 : Int) (y2_0_1 : Bool) (y3 : List (Int × Int × Int × Int × Unit)) (y4 : List (Int × Int × Int × Int × Unit)) : Option (Int × Bool × (List Int) × (List (Int × Int × Int × Int × Unit)) × (List (Int × Int × Int × Int × Unit)) × Unit) :=
  resume (E_spec_DrawChanOk k) 27 (acall (E_spec_DrawChanOk k) (arun Try.prog (E_spec_DrawChanOk k) k)) k [true, true, true, false, true, true] [n] (bodyOf Try.f27) ⟨[.undef, .undef, .ptr 0 0 0, .ptr 1 0 0, .ptr 2 0 0, .int .i64 x5, .undef, .undef, .undef, .undef, .undef, .undef, .undef, .undef, .undef, .undef, .undef, .undef, .undef, .undef, .undef, .undef, .undef, .undef, .undef, .undef, .undef, .undef, .undef, .undef, .undef, .undef, .undef, .undef, .undef, .undef, .undef, .undef, .undef, .undef, .undef, .undef, .undef, .undef, .undef, .undef, .undef, .undef, .undef, .undef, .undef, .undef, .undef, .undef, .undef, .undef, .undef, .undef, .undef, .undef, .undef, .undef, .undef, .undef, .undef, .undef, .undef, .undef, .undef, .undef, .undef], [some ⟨.raw true 5 (.agg [.int .i64 0, .bool false, .nils, .nils, .nils]) [.agg [.int .i64 y0_0_0, .bool y0_0_1, .nils, .nils, .nils]], true⟩, some ⟨.raw true 3 (.tv (.pair (.row (.int .u8)) (.pair (.int .i64) (.pair (.int .i64) .unit))) (Ty.dflt (.pair (.row (.int .u8)) (.pair (.int .i64) (.pair (.int .i64) .unit))))) [.tv (.pair (.row (.int .u8)) (.pair (.int .i64) (.pair (.int .i64) .unit))) y1_0], false⟩, some ⟨.raw true 5 (.agg [.int .i64 0, .bool false, .nils, .nils, .nils]) [.agg [.int .i64 y2_0_0, .bool y2_0_1, .nils, .sl 3, .sl 4]], true⟩, some ⟨.typed (.pair (.int .i64) (.pair (.int .i64) (.pair (.int .i64) (.pair (.int .i64) .unit)))) y3, false⟩, some ⟨.typed (.pair (.int .i64) (.pair (.int .i64) (.pair (.int .i64) (.pair (.int .i64) .unit)))) y4, false⟩]⟩ (leave (E_spec_DrawChanOk k) Try.f27 (fin1 (.pair (.int .i64) (.pair .bool (.pair (.row (.int .i64)) (.pair (.row (.pair (.int .i64) (.pair (.int .i64) (.pair (.int .i64) (.pair (.int .i64) .unit))))) (.pair (.row (.pair (.int .i64) (.pair (.int .i64) (.pair (.int .i64) (.pair (.int .i64) .unit))))) .unit)))))))
noncomputable def spec_DrawChanOk.l4b (k n : Nat) (x5 : Int) (y0_0_0 : Int) (y0_0_1 : Bool) (y1_0 : (List Int) × Int × Int × Unit) (y2_0_0 : Int) (y2_0_1 : Bool) (y3 : List Int) (y4 : List (Int × Int × Int × Int × Unit)) (y5 : List (Int × Int × Int × Int × Unit)) : Option (Int × Bool × (List Int) × (List (Int × Int × Int × Int × Unit)) × (List (Int × Int × Int × Int × Unit)) × Unit) :=
  resume (E_spec_DrawChanOk k) 27 (acall (E_spec_DrawChanOk k) (arun Try.prog (E_spec_DrawChanOk k) k)) k [true, true, true, false, true, true] [n] (bodyOf Try.f27) ⟨[.undef, .undef, .ptr 0 0 0, .ptr 1 0 0, .ptr 2 0 0, .int .i64 x5, .undef, .undef, .undef, .undef, .undef, .undef, .undef, .undef, .undef, .undef, .undef, .undef, .undef, .undef, .undef, .undef, .undef, .undef, .undef, .undef, .undef, .undef, .undef, .undef, .undef, .undef, .undef, .undef, .undef, .undef, .undef, .undef, .undef, .undef, .undef, .undef, .undef, .undef, .undef, .undef, .undef, .undef, .undef, .undef, .undef, .undef, .undef, .undef, .undef, .undef, .undef, .undef, .undef, .undef, .undef, .undef, .undef, .undef, .undef, .undef, .undef, .undef, .undef, .undef, .undef], [some ⟨.raw true 5 (.agg [.int .i64 0, .bool false, .nils, .nils, .nils]) [.agg [.int .i64 y0_0_0, .bool y0_0_1, .nils, .nils, .nils]], true⟩, some ⟨.raw true 3 (.tv (.pair (.row (.int .u8)) (.pair (.int .i64) (.pair (.int .i64) .unit))) (Ty.dflt (.pair (.row (.int .u8)) (.pair (.int .i64) (.pair (.int .i64) .unit))))) [.tv (.pair (.row (.int .u8)) (.pair (.int .i64) (.pair (.int .i64) .unit))) y1_0], false⟩, some ⟨.raw true 5 (.agg [.int .i64 0, .bool false, .nils, .nils, .nils]) [.agg [.int .i64 y2_0_0, .bool y2_0_1, .sl 3, .sl 4, .sl 5]], true⟩, some ⟨.typed (.int .i64) y3, false⟩, some ⟨.typed (.pair (.int .i64) (.pair (.int .i64) (.pair (.int .i64) (.pair (.int .i64) .unit)))) y4, false⟩, some ⟨.typed (.pair (.int .i64) (.pair (.int .i64) (.pair (.int .i64) (.pair (.int .i64) .unit)))) y5, false⟩]⟩ (leave (E_spec_DrawChanOk k) Try.f27 (fin1 (.pair (.int .i64) (.pair .bool (.pair (.row (.int .i64)) (.pair (.row (.pair (.int .i64) (.pair (.int .i64) (.pair (.int .i64) (.pair (.int .i64) .unit))))) (.pair (.row (.pair (.int .i64) (.pair (.int .i64) (.pair (.int .i64) (.pair (.int .i64) .unit))))) .unit)))))))
theorem spec_DrawChanOk.l4_0 (k : Nat) (x5 : Int) (y0_0_0 : Int) (y0_0_1 : Bool) (y1_0 : (List Int) × Int × Int × Unit) (y2_0_0 : Int) (y2_0_1 : Bool) (y3 : List (Int × Int × Int × Int × Unit)) (y4 : List (Int × Int × Int × Int × Unit)) : spec_DrawChanOk.l4 k 0 x5 y0_0_0 y0_0_1 y1_0 y2_0_0 y2_0_1 y3 y4 = none := by kernel_rfl
theorem spec_DrawChanOk.l4_s (k n : Nat) (x5 : Int) (y0_0_0 : Int) (y0_0_1 : Bool) (y1_0 : (List Int) × Int × Int × Unit) (y2_0_0 : Int) (y2_0_1 : Bool) (y3 : List (Int × Int × Int × Int × Unit)) (y4 : List (Int × Int × Int × Int × Unit)) : spec_DrawChanOk.l4 k (n + 1) x5 y0_0_0 y0_0_1 y1_0 y2_0_0 y2_0_1 y3 y4 =
  bindO (spec_l1Below k y1_0 (IntKind.wrap .i64 (y2_0_0 + 1))) fun r6 => (iteB (decide (x5 < r6.1)) (bindO (spec_l1DrawWord k r6.2) fun r7 => (iteB (decide ((List.length ([] ++ [r7.1])) * 8 ≤ lim)) (spec_DrawChanOk.l4b k n (IntKind.wrap .i64 (x5 + 1)) y0_0_0 y0_0_1 r7.2 y2_0_0 y2_0_1 ([] ++ [r7.1]) y3 y4) (none))) (bindO (spec_l1Below k r6.2 12) fun r8 => (iteB (r8.1 == 0) (bindO (spec_l1PickInt k r8.2 [(-1), 8, 9]) fun r9 => (some (r9.1, y2_0_1, [], y3, y4, ()))) (iteB (r8.1 == 1) (bindO (spec_l1DrawAny k r8.2) fun r10 => (iteB (decide ((List.length ([] ++ [r10.1])) * 8 ≤ lim)) (some (y2_0_0, y2_0_1, [] ++ [r10.1], y3, y4, ())) (none))) (iteB (r8.1 == 2) (bindO (spec_l12DrawWait k r8.2) fun r11 => (iteB (decide ((List.length (y3 ++ [r11.1])) * 32 ≤ lim)) (some (y2_0_0, y2_0_1, [], y3 ++ [r11.1], y4, ())) (none))) (iteB (r8.1 == 3) (bindO (spec_l1PickInt k r8.2 [(-1), 6]) fun r12 => (iteB (decide ((List.length (y4 ++ [(r12.1, 0, 0, 0, ())])) * 32 ≤ lim)) (some (y2_0_0, y2_0_1, [], y3, y4 ++ [(r12.1, 0, 0, 0, ())], ())) (none))) (some (y2_0_0, y2_0_1, [], y3, y4, ())))))))) := by kernel_rfl
theorem spec_DrawChanOk.l4b_0 (k : Nat) (x5 : Int) (y0_0_0 : Int) (y0_0_1 : Bool) (y1_0 : (List Int) × Int × Int × Unit) (y2_0_0 : Int) (y2_0_1 : Bool) (y3 : List Int) (y4 : List (Int × Int × Int × Int × Unit)) (y5 : List (Int × Int × Int × Int × Unit)) : spec_DrawChanOk.l4b k 0 x5 y0_0_0 y0_0_1 y1_0 y2_0_0 y2_0_1 y3 y4 y5 = none := by kernel_rfl
theorem spec_DrawChanOk.l4b_s (k n : Nat) (x5 : Int) (y0_0_0 : Int) (y0_0_1 : Bool) (y1_0 : (List Int) × Int × Int × Unit) (y2_0_0 : Int) (y2_0_1 : Bool) (y3 : List Int) (y4 : List (Int × Int × Int × Int × Unit)) (y5 : List (Int × Int × Int × Int × Unit)) : spec_DrawChanOk.l4b k (n + 1) x5 y0_0_0 y0_0_1 y1_0 y2_0_0 y2_0_1 y3 y4 y5 =
  bindO (spec_l1Below k y1_0 (IntKind.wrap .i64 (y2_0_0 + 1))) fun r13 => (iteB (decide (x5 < r13.1)) (bindO (spec_l1DrawWord k r13.2) fun r14 => (iteB (decide ((List.length (y3 ++ [r14.1])) * 8 ≤ lim)) (spec_DrawChanOk.l4b k n (IntKind.wrap .i64 (x5 + 1)) y0_0_0 y0_0_1 r14.2 y2_0_0 y2_0_1 (y3 ++ [r14.1]) y4 y5) (none))) (bindO (spec_l1Below k r13.2 12) fun r15 => (iteB (r15.1 == 0) (bindO (spec_l1PickInt k r15.2 [(-1), 8, 9]) fun r16 => (some (r16.1, y2_0_1, y3, y4, y5, ()))) (iteB (r15.1 == 1) (bindO (spec_l1DrawAny k r15.2) fun r17 => (iteB (decide ((List.length (y3 ++ [r17.1])) * 8 ≤ lim)) (some (y2_0_0, y2_0_1, y3 ++ [r17.1], y4, y5, ())) (none))) (iteB (r15.1 == 2) (bindO (spec_l12DrawWait k r15.2) fun r18 => (iteB (decide ((List.length (y4 ++ [r18.1])) * 32 ≤ lim)) (some (y2_0_0, y2_0_1, y3, y4 ++ [r18.1], y5, ())) (none))) (iteB (r15.1 == 3) (bindO (spec_l1PickInt k r15.2 [(-1), 6]) fun r19 => (iteB (decide ((List.length (y5 ++ [(r19.1, 0, 0, 0, ())])) * 32 ≤ lim)) (some (y2_0_0, y2_0_1, y3, y4, y5 ++ [(r19.1, 0, 0, 0, ())], ())) (none))) (some (y2_0_0, y2_0_1, y3, y4, y5, ())))))))) := by kernel_rfl
theorem spec_DrawChanOk_e (k : Nat) (a1 : List Int) : spec_DrawChanOk k a1 =
  bindO (spec_l1New k a1) fun r1 => (bindO (spec_l1Below k r1 4) fun r2 => (bindO (spec_l1Once k r2.2 3) fun r3 => (bindO (spec_l12DrawList k r3.2) fun r4 => (bindO (spec_l12DrawList k r4.2) fun r5 => (spec_DrawChanOk.l4 k k 0 0 false r5.2 r2.1 r3.1 r4.1 r5.1))))) := by kernel_rfl
theorem E_spec_DrawChanOk_calls (k : Nat) : CallsOk Try.prog (E_spec_DrawChanOk k) (arun Try.prog (E_spec_DrawChanOk k) k) := by
  refine told_run (tyTOk _ _) ?_ (fun run h => regOk (tyTOk _ _) mixOk h) ?_ nameOk k
  · intro g m hg
    simp only [E_spec_DrawChanOk] at hg
    split at hg
    · cases hg
      refine con_byFreshO fun ρ l K x hm => ?_
      split at hm
      · obtain ⟨c1, h1, hm⟩ := Option.bind_eq_some_iff.1 hm
        obtain ⟨r, hr, hm⟩ := Option.bind_eq_some_iff.1 hm
        exact ⟨_, hm, LawFo.reads (.cons (.as h1) .nil) (spec_l1New_law k c1 r hr)⟩
      · cases hm
    · cases hg
      refine con_byMutO fun ρ l xs K x hm => ?_
      split at hm
      · obtain ⟨c1, h1, hm⟩ := Option.bind_eq_some_iff.1 hm
        obtain ⟨r, hr, hm⟩ := Option.bind_eq_some_iff.1 hm
        exact ⟨_, _, hm, LawMo.reads (.cons (.as h1) .nil) (spec_l1Below_law k xs c1 r hr)⟩
      · cases hm
    · cases hg
      refine con_byMutO fun ρ l xs K x hm => ?_
      split at hm
      · obtain ⟨c1, h1, hm⟩ := Option.bind_eq_some_iff.1 hm
        obtain ⟨r, hr, hm⟩ := Option.bind_eq_some_iff.1 hm
        exact ⟨_, _, hm, LawMo.reads (.cons (.as h1) .nil) (spec_l1Once_law k xs c1 r hr)⟩
      · cases hm
    · cases hg
      refine con_byMutOF fun ρ l xs K x hm => ?_
      split at hm
      · obtain ⟨r, hr, hm⟩ := Option.bind_eq_some_iff.1 hm
        exact ⟨_, _, hm, LawMof.reads .nil (spec_l12DrawList_law k xs  r hr)⟩
      · cases hm
    · cases hg
      refine con_byMutO fun ρ l xs K x hm => ?_
      split at hm
      · obtain ⟨r, hr, hm⟩ := Option.bind_eq_some_iff.1 hm
        exact ⟨_, _, hm, LawMo.reads .nil (spec_l1DrawWord_law k xs  r hr)⟩
      · cases hm
    · cases hg
      refine con_byMutR fun ρ l xs ys K x hm => ?_
      split at hm
      · obtain ⟨r, hr, hm⟩ := Option.bind_eq_some_iff.1 hm
        exact ⟨_, _, _, hm, LawMr.reads .nil (spec_l1PickInt_law k xs ys  r hr)⟩
      · cases hm
    · cases hg
      refine con_byMutO fun ρ l xs K x hm => ?_
      split at hm
      · obtain ⟨r, hr, hm⟩ := Option.bind_eq_some_iff.1 hm
        exact ⟨_, _, hm, LawMo.reads .nil (spec_l1DrawAny_law k xs  r hr)⟩
      · cases hm
    · cases hg
      refine con_byMutO fun ρ l xs K x hm => ?_
      split at hm
      · obtain ⟨r, hr, hm⟩ := Option.bind_eq_some_iff.1 hm
        exact ⟨_, _, hm, LawMo.reads .nil (spec_l12DrawWait_law k xs  r hr)⟩
      · cases hm
    · cases hg; exact noCon_ok
    · cases hg
  · intro g hg r
    by_cases h : g = 27
    · subst h; simp [E_spec_DrawChanOk] at hg
    · simp [E_spec_DrawChanOk, h]
theorem f27_okspec_DrawChanOk : Try.prog.funcs[27]? = some Try.f27 := by kernel_rfl
theorem spec_DrawChanOk_law (k : Nat) (a1 : List Int) (x : Int × Bool × (List Int) × (List (Int × Int × Int × Int × Unit)) × (List (Int × Int × Int × Int × Unit)) × Unit) (h : spec_DrawChanOk k a1 = some x) : LawV Try.prog 27 [.tv (.row (.int .u8)) a1] (tvn (.pair (.int .i64) (.pair .bool (.pair (.row (.int .i64)) (.pair (.row (.pair (.int .i64) (.pair (.int .i64) (.pair (.int .i64) (.pair (.int .i64) .unit))))) (.pair (.row (.pair (.int .i64) (.pair (.int .i64) (.pair (.int .i64) (.pair (.int .i64) .unit))))) .unit))))) x) := by
  unfold spec_DrawChanOk at h
  exact law1 (t := (.pair (.int .i64) (.pair .bool (.pair (.row (.int .i64)) (.pair (.row (.pair (.int .i64) (.pair (.int .i64) (.pair (.int .i64) (.pair (.int .i64) .unit))))) (.pair (.row (.pair (.int .i64) (.pair (.int .i64) (.pair (.int .i64) (.pair (.int .i64) .unit))))) .unit)))))) (tyTOk _ _) (E_spec_DrawChanOk_calls k) mixOk f27_okspec_DrawChanOk (nameOk _ _ f27_okspec_DrawChanOk) (by kernel_rfl) h
/-! spec.l1In -/
noncomputable def E_spec_l1In (k : Nat) : Env := ⟨ty, fun _ => none, fun _ _ => none⟩
noncomputable def spec_l1In (k : Nat) (a1 : Int) (a2 : Int) (a3 : Int) : Option (Bool) :=
  abody (E_spec_l1In k) (arun Try.prog (E_spec_l1In k) k) k 47 Try.f47 [.int .i64 a1, .int .i64 a2, .int .i64 a3] [] (fin1 .bool)
theorem spec_l1In_e (k : Nat) (a1 : Int) (a2 : Int) (a3 : Int) : spec_l1In k a1 a2 a3 =
  iteB (decide (a1 ≥ a2)) (some (decide (a1 ≤ a3))) (some false) := by kernel_rfl
theorem E_spec_l1In_calls (k : Nat) : CallsOk Try.prog (E_spec_l1In k) (arun Try.prog (E_spec_l1In k) k) := by
  refine told_run (tyTOk _ _) ?_ (fun run h => regOk (tyTOk _ _) mixOk h) ?_ nameOk k
  · intro g m hg
    cases hg
  · intro g _ r; rfl
theorem f47_okspec_l1In : Try.prog.funcs[47]? = some Try.f47 := by kernel_rfl
theorem spec_l1In_law (k : Nat) (a1 : Int) (a2 : Int) (a3 : Int) (x : Bool) (h : spec_l1In k a1 a2 a3 = some x) : LawV Try.prog 47 [.int .i64 a1, .int .i64 a2, .int .i64 a3] (tvn .bool x) := by
  unfold spec_l1In at h
  exact law1 (t := .bool) (tyTOk _ _) (E_spec_l1In_calls k) mixOk f47_okspec_l1In (nameOk _ _ f47_okspec_l1In) (by kernel_rfl) h
/-! spec.l12Live -/
noncomputable def E_spec_l12Live (k : Nat) : Env := ⟨ty, fun g => match g with
  | 47 => some (byVal fun ρ l K => match l with
    | [b1, b2, b3] => (b1.as (.int .i64)).bind fun c1 => (b2.as (.int .i64)).bind fun c2 => (b3.as (.int .i64)).bind fun c3 => (spec_l1In k c1 c2 c3).bind fun r => K (tvn .bool r)
    | _ => none)
  | _ => none, fun _ _ => none⟩
noncomputable def spec_l12Live (k : Nat) (a1 : Int × Int × Int × Int × Unit) (a2 : List Int) : Option (Bool) :=
  abody (E_spec_l12Live k) (arun Try.prog (E_spec_l12Live k) k) k 66 Try.f66 [.tv (.pair (.int .i64) (.pair (.int .i64) (.pair (.int .i64) (.pair (.int .i64) .unit)))) a1, .tv (.row (.int .i64)) a2] [] (fin1 .bool)
theorem spec_l12Live_e (k : Nat) (a1 : Int × Int × Int × Int × Unit) (a2 : List Int) : spec_l12Live k a1 a2 =
  bindO (spec_l1In k a1.1 0 (IntKind.wrap .i64 (((List.length a2) : Int) - 1))) fun r1 => (iteB r1 (iteB (decide (0 ≤ a1.1)) (iteB (decide (a1.1 < ((List.length a2) : Int))) (some ((List.getD a2 (Int.toNat a1.1) 0) == a1.2.1)) (none)) (none)) (some false)) := by kernel_rfl
theorem E_spec_l12Live_calls (k : Nat) : CallsOk Try.prog (E_spec_l12Live k) (arun Try.prog (E_spec_l12Live k) k) := by
  refine told_run (tyTOk _ _) ?_ (fun run h => regOk (tyTOk _ _) mixOk h) ?_ nameOk k
  · intro g m hg
    simp only [E_spec_l12Live] at hg
    split at hg
    · cases hg
      refine con_byVal fun ρ l K x hm => ?_
      split at hm
      · obtain ⟨c1, h1, hm⟩ := Option.bind_eq_some_iff.1 hm
        obtain ⟨c2, h2, hm⟩ := Option.bind_eq_some_iff.1 hm
        obtain ⟨c3, h3, hm⟩ := Option.bind_eq_some_iff.1 hm
        obtain ⟨r, hr, hm⟩ := Option.bind_eq_some_iff.1 hm
        exact ⟨_, hm, LawV.reads (.cons (.as h1) (.cons (.as h2) (.cons (.as h3) .nil))) (spec_l1In_law k c1 c2 c3 r hr)⟩
      · cases hm
    · cases hg
  · intro g _ r; rfl
theorem f66_okspec_l12Live : Try.prog.funcs[66]? = some Try.f66 := by kernel_rfl
theorem spec_l12Live_law (k : Nat) (a1 : Int × Int × Int × Int × Unit) (a2 : List Int) (x : Bool) (h : spec_l12Live k a1 a2 = some x) : LawV Try.prog 66 [.tv (.pair (.int .i64) (.pair (.int .i64) (.pair (.int .i64) (.pair (.int .i64) .unit)))) a1, .tv (.row (.int .i64)) a2] (tvn .bool x) := by
  unfold spec_l12Live at h
  exact law1 (t := .bool) (tyTOk _ _) (E_spec_l12Live_calls k) mixOk f66_okspec_l12Live (nameOk _ _ f66_okspec_l12Live) (by kernel_rfl) h
/-! spec.FirstWait -/
noncomputable def E_spec_FirstWait (k : Nat) : Env := ⟨ty, fun g => match g with
  | 66 => some (byVal fun ρ l K => match l with
    | [b1, b2] => (b1.as (.pair (.int .i64) (.pair (.int .i64) (.pair (.int .i64) (.pair (.int .i64) .unit))))).bind fun c1 => (b2.as (.row (.int .i64))).bind fun c2 => (spec_l12Live k c1 c2).bind fun r => K (tvn .bool r)
    | _ => none)
  | 28 => some noCon
  | _ => none, fun f r => match f with | 28 => (match r with | 2 => some [0, 1, 5] | _ => none) | _ => none⟩
noncomputable def spec_FirstWait (k : Nat) (a1 : List (Int × Int × Int × Int × Unit)) (a2 : List Int) : Option (Int) :=
  abody (E_spec_FirstWait k) (arun Try.prog (E_spec_FirstWait k) k) k 28 Try.f28 [.tv (.row (.pair (.int .i64) (.pair (.int .i64) (.pair (.int .i64) (.pair (.int .i64) .unit))))) a1, .tv (.row (.int .i64)) a2] [] (fin1 (.int .i64))
noncomputable def spec_FirstWait.l2 (k n : Nat) (x0 : List (Int × Int × Int × Int × Unit)) (x1 : List Int) (x5 : Int) : Option (Int) :=
  resume (E_spec_FirstWait k) 28 (acall (E_spec_FirstWait k) (arun Try.prog (E_spec_FirstWait k) k)) k [true, false, true, true] [n] (bodyOf Try.f28) ⟨[.tv (.row (.pair (.int .i64) (.pair (.int .i64) (.pair (.int .i64) (.pair (.int .i64) .unit))))) x0, .tv (.row (.int .i64)) x1, .undef, .undef, .undef, .int .i64 x5, .undef, .undef, .undef, .undef, .undef, .undef, .undef, .undef, .undef, .undef, .undef, .undef, .undef], []⟩ (leave (E_spec_FirstWait k) Try.f28 (fin1 (.int .i64)))
theorem spec_FirstWait.l2_0 (k : Nat) (x0 : List (Int × Int × Int × Int × Unit)) (x1 : List Int) (x5 : Int) : spec_FirstWait.l2 k 0 x0 x1 x5 = none := by kernel_rfl
theorem spec_FirstWait.l2_s (k n : Nat) (x0 : List (Int × Int × Int × Int × Unit)) (x1 : List Int) (x5 : Int) : spec_FirstWait.l2 k (n + 1) x0 x1 x5 =
  iteB (decide (x5 < ((List.length x0) : Int))) (iteB (decide (0 ≤ x5)) (iteB (decide (x5 < ((List.length x0) : Int))) (bindO (spec_l12Live k (List.getD x0 (Int.toNat x5) (Ty.dflt (.pair (.int .i64) (.pair (.int .i64) (.pair (.int .i64) (.pair (.int .i64) .unit)))))) x1) fun r1 => (iteB r1 (some x5) (spec_FirstWait.l2 k n x0 x1 (IntKind.wrap .i64 (x5 + 1))))) (none)) (none)) (some (-1)) := by kernel_rfl
theorem spec_FirstWait_e (k : Nat) (a1 : List (Int × Int × Int × Int × Unit)) (a2 : List Int) : spec_FirstWait k a1 a2 =
  spec_FirstWait.l2 k k a1 a2 0 := by kernel_rfl
theorem E_spec_FirstWait_calls (k : Nat) : CallsOk Try.prog (E_spec_FirstWait k) (arun Try.prog (E_spec_FirstWait k) k) := by
  refine told_run (tyTOk _ _) ?_ (fun run h => regOk (tyTOk _ _) mixOk h) ?_ nameOk k
  · intro g m hg
    simp only [E_spec_FirstWait] at hg
    split at hg
    · cases hg
      refine con_byVal fun ρ l K x hm => ?_
      split at hm
      · obtain ⟨c1, h1, hm⟩ := Option.bind_eq_some_iff.1 hm
        obtain ⟨c2, h2, hm⟩ := Option.bind_eq_some_iff.1 hm
        obtain ⟨r, hr, hm⟩ := Option.bind_eq_some_iff.1 hm
        exact ⟨_, hm, LawV.reads (.cons (.as h1) (.cons (.as h2) .nil)) (spec_l12Live_law k c1 c2 r hr)⟩
      · cases hm
    · cases hg; exact noCon_ok
    · cases hg
  · intro g hg r
    by_cases h : g = 28
    · subst h; simp [E_spec_FirstWait] at hg
    · simp [E_spec_FirstWait, h]
theorem f28_okspec_FirstWait : Try.prog.funcs[28]? = some Try.f28 := by kernel_rfl
theorem spec_FirstWait_law (k : Nat) (a1 : List (Int × Int × Int × Int × Unit)) (a2 : List Int) (x : Int) (h : spec_FirstWait k a1 a2 = some x) : LawV Try.prog 28 [.tv (.row (.pair (.int .i64) (.pair (.int .i64) (.pair (.int .i64) (.pair (.int .i64) .unit))))) a1, .tv (.row (.int .i64)) a2] (tvn (.int .i64) x) := by
  unfold spec_FirstWait at h
  exact law1 (t := (.int .i64)) (tyTOk _ _) (E_spec_FirstWait_calls k) mixOk f28_okspec_FirstWait (nameOk _ _ f28_okspec_FirstWait) (by kernel_rfl) h
/-! spec.Live -/
noncomputable def E_spec_Live (k : Nat) : Env := ⟨ty, fun g => match g with
  | 66 => some (byVal fun ρ l K => match l with
    | [b1, b2] => (b1.as (.pair (.int .i64) (.pair (.int .i64) (.pair (.int .i64) (.pair (.int .i64) .unit))))).bind fun c1 => (b2.as (.row (.int .i64))).bind fun c2 => (spec_l12Live k c1 c2).bind fun r => K (tvn .bool r)
    | _ => none)
  | 29 => some noCon
  | _ => none, fun f r => match f with | 29 => (match r with | 3 => some [0, 1, 5, 6] | _ => none) | _ => none⟩
noncomputable def spec_Live (k : Nat) (a1 : List (Int × Int × Int × Int × Unit)) (a2 : List Int) : Option (List (Int × Int × Int × Int × Unit)) :=
  abody (E_spec_Live k) (arun Try.prog (E_spec_Live k) k) k 29 Try.f29 [.tv (.row (.pair (.int .i64) (.pair (.int .i64) (.pair (.int .i64) (.pair (.int .i64) .unit))))) a1, .tv (.row (.int .i64)) a2] [] (fin1 (.row (.pair (.int .i64) (.pair (.int .i64) (.pair (.int .i64) (.pair (.int .i64) .unit))))))
noncomputable def spec_Live.l3 (k n : Nat) (x0 : List (Int × Int × Int × Int × Unit)) (x1 : List Int) (x6 : Int) : Option (List (Int × Int × Int × Int × Unit)) :=
  resume (E_spec_Live k) 29 (acall (E_spec_Live k) (arun Try.prog (E_spec_Live k) k)) k [true, true, false, true, true] [n] (bodyOf Try.f29) ⟨[.tv (.row (.pair (.int .i64) (.pair (.int .i64) (.pair (.int .i64) (.pair (.int .i64) .unit))))) x0, .tv (.row (.int .i64)) x1, .undef, .undef, .undef, .sl 0, .int .i64 x6, .undef, .undef, .undef, .undef, .undef, .undef, .undef, .undef, .undef, .undef, .undef, .undef, .undef, .undef, .undef, .undef, .undef, .undef, .undef, .undef, .undef], [some ⟨.typed (.pair (.int .i64) (.pair (.int .i64) (.pair (.int .i64) (.pair (.int .i64) .unit)))) [], true⟩]⟩ (leave (E_spec_Live k) Try.f29 (fin1 (.row (.pair (.int .i64) (.pair (.int .i64) (.pair (.int .i64) (.pair (.int .i64) .unit)))))))
noncomputable def spec_Live.l3b (k n : Nat) (x0 : List (Int × Int × Int × Int × Unit)) (x1 : List Int) (x6 : Int) (y0 : List (Int × Int × Int × Int × Unit)) : Option (List (Int × Int × Int × Int × Unit)) :=
  resume (E_spec_Live k) 29 (acall (E_spec_Live k) (arun Try.prog (E_spec_Live k) k)) k [true, true, false, true, true] [n] (bodyOf Try.f29) ⟨[.tv (.row (.pair (.int .i64) (.pair (.int .i64) (.pair (.int .i64) (.pair (.int .i64) .unit))))) x0, .tv (.row (.int .i64)) x1, .undef, .undef, .undef, .sl 0, .int .i64 x6, .undef, .undef, .undef, .undef, .undef, .undef, .undef, .undef, .undef, .undef, .undef, .undef, .undef, .undef, .undef, .undef, .undef, .undef, .undef, .undef, .undef], [some ⟨.typed (.pair (.int .i64) (.pair (.int .i64) (.pair (.int .i64) (.pair (.int .i64) .unit)))) y0, false⟩]⟩ (leave (E_spec_Live k) Try.f29 (fin1 (.row (.pair (.int .i64) (.pair (.int .i64) (.pair (.int .i64) (.pair (.int .i64) .unit)))))))
theorem spec_Live.l3_0 (k : Nat) (x0 : List (Int × Int × Int × Int × Unit)) (x1 : List Int) (x6 : Int) : spec_Live.l3 k 0 x0 x1 x6 = none := by kernel_rfl
theorem spec_Live.l3_s (k n : Nat) (x0 : List (Int × Int × Int × Int × Unit)) (x1 : List Int) (x6 : Int) : spec_Live.l3 k (n + 1) x0 x1 x6 =
  iteB (decide (x6 < ((List.length x0) : Int))) (iteB (decide (0 ≤ x6)) (iteB (decide (x6 < ((List.length x0) : Int))) (bindO (spec_l12Live k (List.getD x0 (Int.toNat x6) (Ty.dflt (.pair (.int .i64) (.pair (.int .i64) (.pair (.int .i64) (.pair (.int .i64) .unit)))))) x1) fun r1 => (iteB r1 (iteB (decide (0 ≤ x6)) (iteB (decide (x6 < ((List.length x0) : Int))) (iteB (decide ((List.length ([] ++ [List.getD x0 (Int.toNat x6) (Ty.dflt (.pair (.int .i64) (.pair (.int .i64) (.pair (.int .i64) (.pair (.int .i64) .unit)))))])) * 32 ≤ lim)) (spec_Live.l3b k n x0 x1 (IntKind.wrap .i64 (x6 + 1)) ([] ++ [List.getD x0 (Int.toNat x6) (Ty.dflt (.pair (.int .i64) (.pair (.int .i64) (.pair (.int .i64) (.pair (.int .i64) .unit)))))])) (none)) (none)) (none)) (spec_Live.l3 k n x0 x1 (IntKind.wrap .i64 (x6 + 1))))) (none)) (none)) (some []) := by kernel_rfl
theorem spec_Live.l3b_0 (k : Nat) (x0 : List (Int × Int × Int × Int × Unit)) (x1 : List Int) (x6 : Int) (y0 : List (Int × Int × Int × Int × Unit)) : spec_Live.l3b k 0 x0 x1 x6 y0 = none := by kernel_rfl
theorem spec_Live.l3b_s (k n : Nat) (x0 : List (Int × Int × Int × Int × Unit)) (x1 : List Int) (x6 : Int) (y0 : List (Int × Int × Int × Int × Unit)) : spec_Live.l3b k (n + 1) x0 x1 x6 y0 =
  iteB (decide (x6 < ((List.length x0) : Int))) (iteB (decide (0 ≤ x6)) (iteB (decide (x6 < ((List.length x0) : Int))) (bindO (spec_l12Live k (List.getD x0 (Int.toNat x6) (Ty.dflt (.pair (.int .i64) (.pair (.int .i64) (.pair (.int .i64) (.pair (.int .i64) .unit)))))) x1) fun r2 => (iteB r2 (iteB (decide (0 ≤ x6)) (iteB (decide (x6 < ((List.length x0) : Int))) (iteB (decide ((List.length (y0 ++ [List.getD x0 (Int.toNat x6) (Ty.dflt (.pair (.int .i64) (.pair (.int .i64) (.pair (.int .i64) (.pair (.int .i64) .unit)))))])) * 32 ≤ lim)) (spec_Live.l3b k n x0 x1 (IntKind.wrap .i64 (x6 + 1)) (y0 ++ [List.getD x0 (Int.toNat x6) (Ty.dflt (.pair (.int .i64) (.pair (.int .i64) (.pair (.int .i64) (.pair (.int .i64) .unit)))))])) (none)) (none)) (none)) (spec_Live.l3b k n x0 x1 (IntKind.wrap .i64 (x6 + 1)) y0))) (none)) (none)) (some y0) := by kernel_rfl
theorem spec_Live_e (k : Nat) (a1 : List (Int × Int × Int × Int × Unit)) (a2 : List Int) : spec_Live k a1 a2 =
  spec_Live.l3 k k a1 a2 0 := by kernel_rfl
theorem E_spec_Live_calls (k : Nat) : CallsOk Try.prog (E_spec_Live k) (arun Try.prog (E_spec_Live k) k) := by
  refine told_run (tyTOk _ _) ?_ (fun run h => regOk (tyTOk _ _) mixOk h) ?_ nameOk k
  · intro g m hg
    simp only [E_spec_Live] at hg
    split at hg
    · cases hg
      refine con_byVal fun ρ l K x hm => ?_
      split at hm
      · obtain ⟨c1, h1, hm⟩ := Option.bind_eq_some_iff.1 hm
        obtain ⟨c2, h2, hm⟩ := Option.bind_eq_some_iff.1 hm
        obtain ⟨r, hr, hm⟩ := Option.bind_eq_some_iff.1 hm
        exact ⟨_, hm, LawV.reads (.cons (.as h1) (.cons (.as h2) .nil)) (spec_l12Live_law k c1 c2 r hr)⟩
      · cases hm
    · cases hg; exact noCon_ok
    · cases hg
  · intro g hg r
    by_cases h : g = 29
    · subst h; simp [E_spec_Live] at hg
    · simp [E_spec_Live, h]
theorem f29_okspec_Live : Try.prog.funcs[29]? = some Try.f29 := by kernel_rfl
theorem spec_Live_law (k : Nat) (a1 : List (Int × Int × Int × Int × Unit)) (a2 : List Int) (x : List (Int × Int × Int × Int × Unit)) (h : spec_Live k a1 a2 = some x) : LawV Try.prog 29 [.tv (.row (.pair (.int .i64) (.pair (.int .i64) (.pair (.int .i64) (.pair (.int .i64) .unit))))) a1, .tv (.row (.int .i64)) a2] (tvn (.row (.pair (.int .i64) (.pair (.int .i64) (.pair (.int .i64) (.pair (.int .i64) .unit))))) x) := by
  unfold spec_Live at h
  exact law1 (t := (.row (.pair (.int .i64) (.pair (.int .i64) (.pair (.int .i64) (.pair (.int .i64) .unit)))))) (tyTOk _ _) (E_spec_Live_calls k) mixOk f29_okspec_Live (nameOk _ _ f29_okspec_Live) (by kernel_rfl) h
/-! impl.WordOk -/
noncomputable def E_impl_WordOk (k : Nat) : Env := ⟨ty, fun g => match g with
  | 67 => some (byVal fun ρ l K => match l with
    | [b1, b2, b3] => (b1.as (.int .i64)).bind fun c1 => (b2.as (.int .i64)).bind fun c2 => (b3.as (.int .i64)).bind fun c3 => (impl_within k c1 c2 c3).bind fun r => K (tvn .bool r)
    | _ => none)
  | _ => none, fun _ _ => none⟩
noncomputable def impl_WordOk (k : Nat) (a1 : Int) : Option (Bool) :=
  abody (E_impl_WordOk k) (arun Try.prog (E_impl_WordOk k) k) k 51 Try.f51 [.int .i64 a1] [] (fin1 .bool)
theorem impl_WordOk_e (k : Nat) (a1 : Int) : impl_WordOk k a1 =
  bindO (impl_within k a1 (-2147483648) 2147483647) fun r1 => (some r1) := by kernel_rfl
theorem E_impl_WordOk_calls (k : Nat) : CallsOk Try.prog (E_impl_WordOk k) (arun Try.prog (E_impl_WordOk k) k) := by
  refine told_run (tyTOk _ _) ?_ (fun run h => regOk (tyTOk _ _) mixOk h) ?_ nameOk k
  · intro g m hg
    simp only [E_impl_WordOk] at hg
    split at hg
    · cases hg
      refine con_byVal fun ρ l K x hm => ?_
      split at hm
      · obtain ⟨c1, h1, hm⟩ := Option.bind_eq_some_iff.1 hm
        obtain ⟨c2, h2, hm⟩ := Option.bind_eq_some_iff.1 hm
        obtain ⟨c3, h3, hm⟩ := Option.bind_eq_some_iff.1 hm
        obtain ⟨r, hr, hm⟩ := Option.bind_eq_some_iff.1 hm
        exact ⟨_, hm, LawV.reads (.cons (.as h1) (.cons (.as h2) (.cons (.as h3) .nil))) (impl_within_law k c1 c2 c3 r hr)⟩
      · cases hm
    · cases hg
  · intro g _ r; rfl
theorem f51_okimpl_WordOk : Try.prog.funcs[51]? = some Try.f51 := by kernel_rfl
theorem impl_WordOk_law (k : Nat) (a1 : Int) (x : Bool) (h : impl_WordOk k a1 = some x) : LawV Try.prog 51 [.int .i64 a1] (tvn .bool x) := by
  unfold impl_WordOk at h
  exact law1 (t := .bool) (tyTOk _ _) (E_impl_WordOk_calls k) mixOk f51_okimpl_WordOk (nameOk _ _ f51_okimpl_WordOk) (by kernel_rfl) h
/-! impl.wordsOk$1 -/
noncomputable def E_impl_wordsOk_1 (k : Nat) : Env := ⟨ty, fun g => match g with
  | 51 => some (byVal fun ρ l K => match l with
    | [b1] => (b1.as (.int .i64)).bind fun c1 => (impl_WordOk k c1).bind fun r => K (tvn .bool r)
    | _ => none)
  | _ => none, fun _ _ => none⟩
noncomputable def impl_wordsOk_1 (k : Nat) (a1 : Int) : Option (Bool) :=
  abody (E_impl_wordsOk_1 k) (arun Try.prog (E_impl_wordsOk_1 k) k) k 103 Try.f103 [.int .i64 a1] [] (fin1 .bool)
theorem impl_wordsOk_1_e (k : Nat) (a1 : Int) : impl_wordsOk_1 k a1 =
  bindO (impl_WordOk k a1) fun r1 => (some (!r1)) := by kernel_rfl
theorem E_impl_wordsOk_1_calls (k : Nat) : CallsOk Try.prog (E_impl_wordsOk_1 k) (arun Try.prog (E_impl_wordsOk_1 k) k) := by
  refine told_run (tyTOk _ _) ?_ (fun run h => regOk (tyTOk _ _) mixOk h) ?_ nameOk k
  · intro g m hg
    simp only [E_impl_wordsOk_1] at hg
    split at hg
    · cases hg
      refine con_byVal fun ρ l K x hm => ?_
      split at hm
      · obtain ⟨c1, h1, hm⟩ := Option.bind_eq_some_iff.1 hm
        obtain ⟨r, hr, hm⟩ := Option.bind_eq_some_iff.1 hm
        exact ⟨_, hm, LawV.reads (.cons (.as h1) .nil) (impl_WordOk_law k c1 r hr)⟩
      · cases hm
    · cases hg
  · intro g _ r; rfl
theorem f103_okimpl_wordsOk_1 : Try.prog.funcs[103]? = some Try.f103 := by kernel_rfl
theorem impl_wordsOk_1_law (k : Nat) (a1 : Int) (x : Bool) (h : impl_wordsOk_1 k a1 = some x) : LawV Try.prog 103 [.int .i64 a1] (tvn .bool x) := by
  unfold impl_wordsOk_1 at h
  exact law1 (t := .bool) (tyTOk _ _) (E_impl_wordsOk_1_calls k) mixOk f103_okimpl_wordsOk_1 (nameOk _ _ f103_okimpl_wordsOk_1) (by kernel_rfl) h
/-! slices.IndexFunc[[]int,int] -/
noncomputable def E_slices_IndexFunc_int__impl_wordsOk_1 (k : Nat) : Env := ⟨ty, fun g => match g with
  | 103 => some (byVal fun ρ l K => match l with
    | [b1] => (b1.as (.int .i64)).bind fun c1 => (impl_wordsOk_1 k c1).bind fun r => K (tvn .bool r)
    | _ => none)
  | 102 => some noCon
  | _ => none, fun f r => match f with | 102 => (match r with | 2 => some [0, 1, 7, 8] | _ => none) | _ => none⟩
noncomputable def slices_IndexFunc_int__impl_wordsOk_1 (k : Nat) (a1 : List Int) : Option (Int) :=
  abody (E_slices_IndexFunc_int__impl_wordsOk_1 k) (arun Try.prog (E_slices_IndexFunc_int__impl_wordsOk_1 k) k) k 102 Try.f102 [.tv (.row (.int .i64)) a1, .fn 103 []] [] (fin1 (.int .i64))
noncomputable def slices_IndexFunc_int__impl_wordsOk_1.l2 (k n : Nat) (x0 : List Int) (x7 : Int) (x8 : Int) : Option (Int) :=
  resume (E_slices_IndexFunc_int__impl_wordsOk_1 k) 102 (acall (E_slices_IndexFunc_int__impl_wordsOk_1 k) (arun Try.prog (E_slices_IndexFunc_int__impl_wordsOk_1 k) k)) k [true, false, true, true] [n] (bodyOf Try.f102) ⟨[.tv (.row (.int .i64)) x0, .fn 103 [], .undef, .undef, .undef, .undef, .undef, .int .i64 x7, .int .i64 x8, .undef, .undef, .undef, .undef, .undef, .undef, .undef, .undef, .undef, .undef], []⟩ (leave (E_slices_IndexFunc_int__impl_wordsOk_1 k) Try.f102 (fin1 (.int .i64)))
theorem slices_IndexFunc_int__impl_wordsOk_1.l2_0 (k : Nat) (x0 : List Int) (x7 : Int) (x8 : Int) : slices_IndexFunc_int__impl_wordsOk_1.l2 k 0 x0 x7 x8 = none := by kernel_rfl
theorem slices_IndexFunc_int__impl_wordsOk_1.l2_s (k n : Nat) (x0 : List Int) (x7 : Int) (x8 : Int) : slices_IndexFunc_int__impl_wordsOk_1.l2 k (n + 1) x0 x7 x8 =
  iteB (decide (x8 < x7)) (iteB (decide (0 ≤ x8)) (iteB (decide (x8 < ((List.length x0) : Int))) (bindO (impl_wordsOk_1 k (List.getD x0 (Int.toNat x8) 0)) fun r1 => (iteB r1 (some x8) (slices_IndexFunc_int__impl_wordsOk_1.l2 k n x0 x7 (IntKind.wrap .i64 (x8 + 1))))) (none)) (none)) (some (-1)) := by kernel_rfl
theorem slices_IndexFunc_int__impl_wordsOk_1_e (k : Nat) (a1 : List Int) : slices_IndexFunc_int__impl_wordsOk_1 k a1 =
  slices_IndexFunc_int__impl_wordsOk_1.l2 k k a1 ((List.length a1) : Int) 0 := by kernel_rfl
theorem E_slices_IndexFunc_int__impl_wordsOk_1_calls (k : Nat) : CallsOk Try.prog (E_slices_IndexFunc_int__impl_wordsOk_1 k) (arun Try.prog (E_slices_IndexFunc_int__impl_wordsOk_1 k) k) := by
  refine told_run (tyTOk _ _) ?_ (fun run h => regOk (tyTOk _ _) mixOk h) ?_ nameOk k
  · intro g m hg
    simp only [E_slices_IndexFunc_int__impl_wordsOk_1] at hg
    split at hg
    · cases hg
      refine con_byVal fun ρ l K x hm => ?_
      split at hm
      · obtain ⟨c1, h1, hm⟩ := Option.bind_eq_some_iff.1 hm
        obtain ⟨r, hr, hm⟩ := Option.bind_eq_some_iff.1 hm
        exact ⟨_, hm, LawV.reads (.cons (.as h1) .nil) (impl_wordsOk_1_law k c1 r hr)⟩
      · cases hm
    · cases hg; exact noCon_ok
    · cases hg
  · intro g hg r
    by_cases h : g = 102
    · subst h; simp [E_slices_IndexFunc_int__impl_wordsOk_1] at hg
    · simp [E_slices_IndexFunc_int__impl_wordsOk_1, h]
theorem f102_okslices_IndexFunc_int__impl_wordsOk_1 : Try.prog.funcs[102]? = some Try.f102 := by kernel_rfl
theorem slices_IndexFunc_int__impl_wordsOk_1_law (k : Nat) (a1 : List Int) (x : Int) (h : slices_IndexFunc_int__impl_wordsOk_1 k a1 = some x) : LawV Try.prog 102 [.tv (.row (.int .i64)) a1, .fn 103 []] (tvn (.int .i64) x) := by
  unfold slices_IndexFunc_int__impl_wordsOk_1 at h
  exact law1 (t := (.int .i64)) (tyTOk _ _) (E_slices_IndexFunc_int__impl_wordsOk_1_calls k) mixOk f102_okslices_IndexFunc_int__impl_wordsOk_1 (nameOk _ _ f102_okslices_IndexFunc_int__impl_wordsOk_1) (by kernel_rfl) h
/-! slices.ContainsFunc[[]int,int] -/
noncomputable def E_slices_ContainsFunc_int__impl_wordsOk_1 (k : Nat) : Env := ⟨ty, fun g => match g with
  | 102 => some (byVal fun ρ l K => match l with
    | [b1, .fn 103 []] => (b1.as (.row (.int .i64))).bind fun c1 => (slices_IndexFunc_int__impl_wordsOk_1 k c1).bind fun r => K (tvn (.int .i64) r)
    | _ => none)
  | _ => none, fun _ _ => none⟩
noncomputable def slices_ContainsFunc_int__impl_wordsOk_1 (k : Nat) (a1 : List Int) : Option (Bool) :=
  abody (E_slices_ContainsFunc_int__impl_wordsOk_1 k) (arun Try.prog (E_slices_ContainsFunc_int__impl_wordsOk_1 k) k) k 52 Try.f52 [.tv (.row (.int .i64)) a1, .fn 103 []] [] (fin1 .bool)
theorem slices_ContainsFunc_int__impl_wordsOk_1_e (k : Nat) (a1 : List Int) : slices_ContainsFunc_int__impl_wordsOk_1 k a1 =
  bindO (slices_IndexFunc_int__impl_wordsOk_1 k a1) fun r1 => (some (decide (r1 ≥ 0))) := by kernel_rfl
theorem E_slices_ContainsFunc_int__impl_wordsOk_1_calls (k : Nat) : CallsOk Try.prog (E_slices_ContainsFunc_int__impl_wordsOk_1 k) (arun Try.prog (E_slices_ContainsFunc_int__impl_wordsOk_1 k) k) := by
  refine told_run (tyTOk _ _) ?_ (fun run h => regOk (tyTOk _ _) mixOk h) ?_ nameOk k
  · intro g m hg
    simp only [E_slices_ContainsFunc_int__impl_wordsOk_1] at hg
    split at hg
    · cases hg
      refine con_byVal fun ρ l K x hm => ?_
      split at hm
      · obtain ⟨c1, h1, hm⟩ := Option.bind_eq_some_iff.1 hm
        obtain ⟨r, hr, hm⟩ := Option.bind_eq_some_iff.1 hm
        exact ⟨_, hm, LawV.reads (.cons (.as h1) (.cons (.fn .nil) .nil)) (slices_IndexFunc_int__impl_wordsOk_1_law k c1 r hr)⟩
      · cases hm
    · cases hg
  · intro g _ r; rfl
theorem f52_okslices_ContainsFunc_int__impl_wordsOk_1 : Try.prog.funcs[52]? = some Try.f52 := by kernel_rfl
theorem slices_ContainsFunc_int__impl_wordsOk_1_law (k : Nat) (a1 : List Int) (x : Bool) (h : slices_ContainsFunc_int__impl_wordsOk_1 k a1 = some x) : LawV Try.prog 52 [.tv (.row (.int .i64)) a1, .fn 103 []] (tvn .bool x) := by
  unfold slices_ContainsFunc_int__impl_wordsOk_1 at h
  exact law1 (t := .bool) (tyTOk _ _) (E_slices_ContainsFunc_int__impl_wordsOk_1_calls k) mixOk f52_okslices_ContainsFunc_int__impl_wordsOk_1 (nameOk _ _ f52_okslices_ContainsFunc_int__impl_wordsOk_1) (by kernel_rfl) h
/-! impl.wordsOk -/
noncomputable def E_impl_wordsOk (k : Nat) : Env := ⟨ty, fun g => match g with
  | 52 => some (byVal fun ρ l K => match l with
    | [b1, .fn 103 []] => (b1.as (.row (.int .i64))).bind fun c1 => (slices_ContainsFunc_int__impl_wordsOk_1 k c1).bind fun r => K (tvn .bool r)
    | _ => none)
  | _ => none, fun _ _ => none⟩
noncomputable def impl_wordsOk (k : Nat) (a1 : List Int) (a2 : Int) : Option (Bool) :=
  abody (E_impl_wordsOk k) (arun Try.prog (E_impl_wordsOk k) k) k 68 Try.f68 [.tv (.row (.int .i64)) a1, .int .i64 a2] [] (fin1 .bool)
theorem impl_wordsOk_e (k : Nat) (a1 : List Int) (a2 : Int) : impl_wordsOk k a1 a2 =
  iteB (decide (((List.length a1) : Int) ≤ a2)) (bindO (slices_ContainsFunc_int__impl_wordsOk_1 k a1) fun r1 => (some (!r1))) (some false) := by kernel_rfl
theorem E_impl_wordsOk_calls (k : Nat) : CallsOk Try.prog (E_impl_wordsOk k) (arun Try.prog (E_impl_wordsOk k) k) := by
  refine told_run (tyTOk _ _) ?_ (fun run h => regOk (tyTOk _ _) mixOk h) ?_ nameOk k
  · intro g m hg
    simp only [E_impl_wordsOk] at hg
    split at hg
    · cases hg
      refine con_byVal fun ρ l K x hm => ?_
      split at hm
      · obtain ⟨c1, h1, hm⟩ := Option.bind_eq_some_iff.1 hm
        obtain ⟨r, hr, hm⟩ := Option.bind_eq_some_iff.1 hm
        exact ⟨_, hm, LawV.reads (.cons (.as h1) (.cons (.fn .nil) .nil)) (slices_ContainsFunc_int__impl_wordsOk_1_law k c1 r hr)⟩
      · cases hm
    · cases hg
  · intro g _ r; rfl
theorem f68_okimpl_wordsOk : Try.prog.funcs[68]? = some Try.f68 := by kernel_rfl
theorem impl_wordsOk_law (k : Nat) (a1 : List Int) (a2 : Int) (x : Bool) (h : impl_wordsOk k a1 a2 = some x) : LawV Try.prog 68 [.tv (.row (.int .i64)) a1, .int .i64 a2] (tvn .bool x) := by
  unfold impl_wordsOk at h
  exact law1 (t := .bool) (tyTOk _ _) (E_impl_wordsOk_calls k) mixOk f68_okimpl_wordsOk (nameOk _ _ f68_okimpl_wordsOk) (by kernel_rfl) h
/-! impl.waitsOk$1 -/
noncomputable def E_impl_waitsOk_1_vbp (k : Nat) : Env := ⟨ty, fun _ => none, fun _ _ => none⟩
noncomputable def impl_waitsOk_1_vbp (k : Nat) (a1 : Int × Int × Int × Int × Unit) (a2 : Int) (a3 : Int) (a4 : Int) (a5 : Int) : Option (Bool) :=
  abody (E_impl_waitsOk_1_vbp k) (arun Try.prog (E_impl_waitsOk_1_vbp k) k) k 105 Try.f105 [.tv (.pair (.int .i64) (.pair (.int .i64) (.pair (.int .i64) (.pair (.int .i64) .unit)))) a1, .bp [.int .i64 a2, .int .i64 a3, .int .i64 a4, .int .i64 a5] 0] [] (fin1 .bool)
theorem impl_waitsOk_1_vbp_e (k : Nat) (a1 : Int × Int × Int × Int × Unit) (a2 : Int) (a3 : Int) (a4 : Int) (a5 : Int) : impl_waitsOk_1_vbp k a1 a2 a3 a4 a5 =
  some (a1.1 == a2) := by kernel_rfl
theorem E_impl_waitsOk_1_vbp_calls (k : Nat) : CallsOk Try.prog (E_impl_waitsOk_1_vbp k) (arun Try.prog (E_impl_waitsOk_1_vbp k) k) := by
  refine told_run (tyTOk _ _) ?_ (fun run h => regOk (tyTOk _ _) mixOk h) ?_ nameOk k
  · intro g m hg
    cases hg
  · intro g _ r; rfl
theorem f105_okimpl_waitsOk_1_vbp : Try.prog.funcs[105]? = some Try.f105 := by kernel_rfl
theorem impl_waitsOk_1_vbp_law (k : Nat) (a1 : Int × Int × Int × Int × Unit) (a2 : Int) (a3 : Int) (a4 : Int) (a5 : Int) (x : Bool) (h : impl_waitsOk_1_vbp k a1 a2 a3 a4 a5 = some x) : LawV Try.prog 105 [.tv (.pair (.int .i64) (.pair (.int .i64) (.pair (.int .i64) (.pair (.int .i64) .unit)))) a1, .bp [.int .i64 a2, .int .i64 a3, .int .i64 a4, .int .i64 a5] 0] (tvn .bool x) := by
  unfold impl_waitsOk_1_vbp at h
  exact law1 (t := .bool) (tyTOk _ _) (E_impl_waitsOk_1_vbp_calls k) mixOk f105_okimpl_waitsOk_1_vbp (nameOk _ _ f105_okimpl_waitsOk_1_vbp) (by kernel_rfl) h
/-! slices.IndexFunc[[]impl.Wait,impl.Wait] -/
noncomputable def E_slices_IndexFunc_impl_Wait__impl_waitsOk_1 (k : Nat) : Env := ⟨ty, fun g => match g with
  | 105 => some (byVal fun ρ l K => match l with
    | [b1, .bp [b2, b3, b4, b5] 0] => (b1.as (.pair (.int .i64) (.pair (.int .i64) (.pair (.int .i64) (.pair (.int .i64) .unit))))).bind fun c1 => (b2.as (.int .i64)).bind fun c2 => (b3.as (.int .i64)).bind fun c3 => (b4.as (.int .i64)).bind fun c4 => (b5.as (.int .i64)).bind fun c5 => (impl_waitsOk_1_vbp k c1 c2 c3 c4 c5).bind fun r => K (tvn .bool r)
    | _ => none)
  | 61 => some noCon
  | _ => none, fun f r => match f with | 61 => (match r with | 2 => some [0, 1, 7, 8] | _ => none) | _ => none⟩
noncomputable def slices_IndexFunc_impl_Wait__impl_waitsOk_1 (k : Nat) (a1 : List (Int × Int × Int × Int × Unit)) (a2 : Int) (a3 : Int) (a4 : Int) (a5 : Int) : Option (Int) :=
  abody (E_slices_IndexFunc_impl_Wait__impl_waitsOk_1 k) (arun Try.prog (E_slices_IndexFunc_impl_Wait__impl_waitsOk_1 k) k) k 61 Try.f61 [.tv (.row (.pair (.int .i64) (.pair (.int .i64) (.pair (.int .i64) (.pair (.int .i64) .unit))))) a1, .fn 105 [.bp [.int .i64 a2, .int .i64 a3, .int .i64 a4, .int .i64 a5] 0]] [] (fin1 (.int .i64))
noncomputable def slices_IndexFunc_impl_Wait__impl_waitsOk_1.l2 (k n : Nat) (x0 : List (Int × Int × Int × Int × Unit)) (x1_0_0 : Int) (x1_0_1 : Int) (x1_0_2 : Int) (x1_0_3 : Int) (x7 : Int) (x8 : Int) : Option (Int) :=
  resume (E_slices_IndexFunc_impl_Wait__impl_waitsOk_1 k) 61 (acall (E_slices_IndexFunc_impl_Wait__impl_waitsOk_1 k) (arun Try.prog (E_slices_IndexFunc_impl_Wait__impl_waitsOk_1 k) k)) k [true, false, true, true] [n] (bodyOf Try.f61) ⟨[.tv (.row (.pair (.int .i64) (.pair (.int .i64) (.pair (.int .i64) (.pair (.int .i64) .unit))))) x0, .fn 105 [.bp [.int .i64 x1_0_0, .int .i64 x1_0_1, .int .i64 x1_0_2, .int .i64 x1_0_3] 0], .undef, .undef, .undef, .undef, .undef, .int .i64 x7, .int .i64 x8, .undef, .undef, .undef, .undef, .undef, .undef, .undef, .undef, .undef, .undef], []⟩ (leave (E_slices_IndexFunc_impl_Wait__impl_waitsOk_1 k) Try.f61 (fin1 (.int .i64)))
theorem slices_IndexFunc_impl_Wait__impl_waitsOk_1.l2_0 (k : Nat) (x0 : List (Int × Int × Int × Int × Unit)) (x1_0_0 : Int) (x1_0_1 : Int) (x1_0_2 : Int) (x1_0_3 : Int) (x7 : Int) (x8 : Int) : slices_IndexFunc_impl_Wait__impl_waitsOk_1.l2 k 0 x0 x1_0_0 x1_0_1 x1_0_2 x1_0_3 x7 x8 = none := by kernel_rfl
theorem slices_IndexFunc_impl_Wait__impl_waitsOk_1.l2_s (k n : Nat) (x0 : List (Int × Int × Int × Int × Unit)) (x1_0_0 : Int) (x1_0_1 : Int) (x1_0_2 : Int) (x1_0_3 : Int) (x7 : Int) (x8 : Int) : slices_IndexFunc_impl_Wait__impl_waitsOk_1.l2 k (n + 1) x0 x1_0_0 x1_0_1 x1_0_2 x1_0_3 x7 x8 =
  iteB (decide (x8 < x7)) (iteB (decide (0 ≤ x8)) (iteB (decide (x8 < ((List.length x0) : Int))) (bindO (impl_waitsOk_1_vbp k (List.getD x0 (Int.toNat x8) (Ty.dflt (.pair (.int .i64) (.pair (.int .i64) (.pair (.int .i64) (.pair (.int .i64) .unit)))))) x1_0_0 x1_0_1 x1_0_2 x1_0_3) fun r1 => (iteB r1 (some x8) (slices_IndexFunc_impl_Wait__impl_waitsOk_1.l2 k n x0 x1_0_0 x1_0_1 x1_0_2 x1_0_3 x7 (IntKind.wrap .i64 (x8 + 1))))) (none)) (none)) (some (-1)) := by kernel_rfl
theorem slices_IndexFunc_impl_Wait__impl_waitsOk_1_e (k : Nat) (a1 : List (Int × Int × Int × Int × Unit)) (a2 : Int) (a3 : Int) (a4 : Int) (a5 : Int) : slices_IndexFunc_impl_Wait__impl_waitsOk_1 k a1 a2 a3 a4 a5 =
  slices_IndexFunc_impl_Wait__impl_waitsOk_1.l2 k k a1 a2 a3 a4 a5 ((List.length a1) : Int) 0 := by kernel_rfl
theorem E_slices_IndexFunc_impl_Wait__impl_waitsOk_1_calls (k : Nat) : CallsOk Try.prog (E_slices_IndexFunc_impl_Wait__impl_waitsOk_1 k) (arun Try.prog (E_slices_IndexFunc_impl_Wait__impl_waitsOk_1 k) k) := by
  refine told_run (tyTOk _ _) ?_ (fun run h => regOk (tyTOk _ _) mixOk h) ?_ nameOk k
  · intro g m hg
    simp only [E_slices_IndexFunc_impl_Wait__impl_waitsOk_1] at hg
    split at hg
    · cases hg
      refine con_byVal fun ρ l K x hm => ?_
      split at hm
      · obtain ⟨c1, h1, hm⟩ := Option.bind_eq_some_iff.1 hm
        obtain ⟨c2, h2, hm⟩ := Option.bind_eq_some_iff.1 hm
        obtain ⟨c3, h3, hm⟩ := Option.bind_eq_some_iff.1 hm
        obtain ⟨c4, h4, hm⟩ := Option.bind_eq_some_iff.1 hm
        obtain ⟨c5, h5, hm⟩ := Option.bind_eq_some_iff.1 hm
        obtain ⟨r, hr, hm⟩ := Option.bind_eq_some_iff.1 hm
        exact ⟨_, hm, LawV.reads (.cons (.as h1) (.cons (.bp (.cons (.as h2) (.cons (.as h3) (.cons (.as h4) (.cons (.as h5) .nil))))) .nil)) (impl_waitsOk_1_vbp_law k c1 c2 c3 c4 c5 r hr)⟩
      · cases hm
    · cases hg; exact noCon_ok
    · cases hg
  · intro g hg r
    by_cases h : g = 61
    · subst h; simp [E_slices_IndexFunc_impl_Wait__impl_waitsOk_1] at hg
    · simp [E_slices_IndexFunc_impl_Wait__impl_waitsOk_1, h]
theorem f61_okslices_IndexFunc_impl_Wait__impl_waitsOk_1 : Try.prog.funcs[61]? = some Try.f61 := by kernel_rfl
theorem slices_IndexFunc_impl_Wait__impl_waitsOk_1_law (k : Nat) (a1 : List (Int × Int × Int × Int × Unit)) (a2 : Int) (a3 : Int) (a4 : Int) (a5 : Int) (x : Int) (h : slices_IndexFunc_impl_Wait__impl_waitsOk_1 k a1 a2 a3 a4 a5 = some x) : LawV Try.prog 61 [.tv (.row (.pair (.int .i64) (.pair (.int .i64) (.pair (.int .i64) (.pair (.int .i64) .unit))))) a1, .fn 105 [.bp [.int .i64 a2, .int .i64 a3, .int .i64 a4, .int .i64 a5] 0]] (tvn (.int .i64) x) := by
  unfold slices_IndexFunc_impl_Wait__impl_waitsOk_1 at h
  exact law1 (t := (.int .i64)) (tyTOk _ _) (E_slices_IndexFunc_impl_Wait__impl_waitsOk_1_calls k) mixOk f61_okslices_IndexFunc_impl_Wait__impl_waitsOk_1 (nameOk _ _ f61_okslices_IndexFunc_impl_Wait__impl_waitsOk_1) (by kernel_rfl) h
/-! slices.ContainsFunc[[]impl.Wait,impl.Wait] -/
noncomputable def E_slices_ContainsFunc_impl_Wait__impl_waitsOk_1 (k : Nat) : Env := ⟨ty, fun g => match g with
  | 61 => some (byVal fun ρ l K => match l with
    | [b1, .fn 105 [.bp [b2, b3, b4, b5] 0]] => (b1.as (.row (.pair (.int .i64) (.pair (.int .i64) (.pair (.int .i64) (.pair (.int .i64) .unit)))))).bind fun c1 => (b2.as (.int .i64)).bind fun c2 => (b3.as (.int .i64)).bind fun c3 => (b4.as (.int .i64)).bind fun c4 => (b5.as (.int .i64)).bind fun c5 => (slices_IndexFunc_impl_Wait__impl_waitsOk_1 k c1 c2 c3 c4 c5).bind fun r => K (tvn (.int .i64) r)
    | _ => none)
  | _ => none, fun _ _ => none⟩
noncomputable def slices_ContainsFunc_impl_Wait__impl_waitsOk_1 (k : Nat) (a1 : List (Int × Int × Int × Int × Unit)) (a2 : Int) (a3 : Int) (a4 : Int) (a5 : Int) : Option (Bool) :=
  abody (E_slices_ContainsFunc_impl_Wait__impl_waitsOk_1 k) (arun Try.prog (E_slices_ContainsFunc_impl_Wait__impl_waitsOk_1 k) k) k 104 Try.f104 [.tv (.row (.pair (.int .i64) (.pair (.int .i64) (.pair (.int .i64) (.pair (.int .i64) .unit))))) a1, .fn 105 [.bp [.int .i64 a2, .int .i64 a3, .int .i64 a4, .int .i64 a5] 0]] [] (fin1 .bool)
theorem slices_ContainsFunc_impl_Wait__impl_waitsOk_1_e (k : Nat) (a1 : List (Int × Int × Int × Int × Unit)) (a2 : Int) (a3 : Int) (a4 : Int) (a5 : Int) : slices_ContainsFunc_impl_Wait__impl_waitsOk_1 k a1 a2 a3 a4 a5 =
  bindO (slices_IndexFunc_impl_Wait__impl_waitsOk_1 k a1 a2 a3 a4 a5) fun r1 => (some (decide (r1 ≥ 0))) := by kernel_rfl
theorem E_slices_ContainsFunc_impl_Wait__impl_waitsOk_1_calls (k : Nat) : CallsOk Try.prog (E_slices_ContainsFunc_impl_Wait__impl_waitsOk_1 k) (arun Try.prog (E_slices_ContainsFunc_impl_Wait__impl_waitsOk_1 k) k) := by
  refine told_run (tyTOk _ _) ?_ (fun run h => regOk (tyTOk _ _) mixOk h) ?_ nameOk k
  · intro g m hg
    simp only [E_slices_ContainsFunc_impl_Wait__impl_waitsOk_1] at hg
    split at hg
    · cases hg
      refine con_byVal fun ρ l K x hm => ?_
      split at hm
      · obtain ⟨c1, h1, hm⟩ := Option.bind_eq_some_iff.1 hm
        obtain ⟨c2, h2, hm⟩ := Option.bind_eq_some_iff.1 hm
        obtain ⟨c3, h3, hm⟩ := Option.bind_eq_some_iff.1 hm
        obtain ⟨c4, h4, hm⟩ := Option.bind_eq_some_iff.1 hm
        obtain ⟨c5, h5, hm⟩ := Option.bind_eq_some_iff.1 hm
        obtain ⟨r, hr, hm⟩ := Option.bind_eq_some_iff.1 hm
        exact ⟨_, hm, LawV.reads (.cons (.as h1) (.cons (.fn (.cons (.bp (.cons (.as h2) (.cons (.as h3) (.cons (.as h4) (.cons (.as h5) .nil))))) .nil)) .nil)) (slices_IndexFunc_impl_Wait__impl_waitsOk_1_law k c1 c2 c3 c4 c5 r hr)⟩
      · cases hm
    · cases hg
  · intro g _ r; rfl
theorem f104_okslices_ContainsFunc_impl_Wait__impl_waitsOk_1 : Try.prog.funcs[104]? = some Try.f104 := by kernel_rfl
theorem slices_ContainsFunc_impl_Wait__impl_waitsOk_1_law (k : Nat) (a1 : List (Int × Int × Int × Int × Unit)) (a2 : Int) (a3 : Int) (a4 : Int) (a5 : Int) (x : Bool) (h : slices_ContainsFunc_impl_Wait__impl_waitsOk_1 k a1 a2 a3 a4 a5 = some x) : LawV Try.prog 104 [.tv (.row (.pair (.int .i64) (.pair (.int .i64) (.pair (.int .i64) (.pair (.int .i64) .unit))))) a1, .fn 105 [.bp [.int .i64 a2, .int .i64 a3, .int .i64 a4, .int .i64 a5] 0]] (tvn .bool x) := by
  unfold slices_ContainsFunc_impl_Wait__impl_waitsOk_1 at h
  exact law1 (t := .bool) (tyTOk _ _) (E_slices_ContainsFunc_impl_Wait__impl_waitsOk_1_calls k) mixOk f104_okslices_ContainsFunc_impl_Wait__impl_waitsOk_1 (nameOk _ _ f104_okslices_ContainsFunc_impl_Wait__impl_waitsOk_1) (by kernel_rfl) h
/-! impl.waitsOk -/
noncomputable def E_impl_waitsOk (k : Nat) : Env := ⟨ty, fun g => match g with
  | 67 => some (byVal fun ρ l K => match l with
    | [b1, b2, b3] => (b1.as (.int .i64)).bind fun c1 => (b2.as (.int .i64)).bind fun c2 => (b3.as (.int .i64)).bind fun c3 => (impl_within k c1 c2 c3).bind fun r => K (tvn .bool r)
    | _ => none)
  | 104 => some (byVal fun ρ l K => match l with
    | [b1, .fn 105 [.bp [b2, b3, b4, b5] 0]] => (b1.as (.row (.pair (.int .i64) (.pair (.int .i64) (.pair (.int .i64) (.pair (.int .i64) .unit)))))).bind fun c1 => (b2.as (.int .i64)).bind fun c2 => (b3.as (.int .i64)).bind fun c3 => (b4.as (.int .i64)).bind fun c4 => (b5.as (.int .i64)).bind fun c5 => (slices_ContainsFunc_impl_Wait__impl_waitsOk_1 k c1 c2 c3 c4 c5).bind fun r => K (tvn .bool r)
    | _ => none)
  | 51 => some (byVal fun ρ l K => match l with
    | [b1] => (b1.as (.int .i64)).bind fun c1 => (impl_WordOk k c1).bind fun r => K (tvn .bool r)
    | _ => none)
  | 69 => some noCon
  | _ => none, fun f r => match f with | 69 => (match r with | 2 => some [0, 5, 6, 7] | _ => none) | _ => none⟩
noncomputable def impl_waitsOk (k : Nat) (a1 : List (Int × Int × Int × Int × Unit)) : Option (Bool) :=
  abody (E_impl_waitsOk k) (arun Try.prog (E_impl_waitsOk k) k) k 69 Try.f69 [.tv (.row (.pair (.int .i64) (.pair (.int .i64) (.pair (.int .i64) (.pair (.int .i64) .unit))))) a1] [] (fin1 .bool)
noncomputable def impl_waitsOk.l2 (k n : Nat) (x0 : List (Int × Int × Int × Int × Unit)) (x5 : List (Int × Int × Int × Int × Unit)) (x6 : Int) (x7 : Int) : Option (Bool) :=
  resume (E_impl_waitsOk k) 69 (acall (E_impl_waitsOk k) (arun Try.prog (E_impl_waitsOk k) k)) k [true, false, true, true] [n] (bodyOf Try.f69) ⟨[.tv (.row (.pair (.int .i64) (.pair (.int .i64) (.pair (.int .i64) (.pair (.int .i64) .unit))))) x0, .undef, .undef, .undef, .undef, .tv (.row (.pair (.int .i64) (.pair (.int .i64) (.pair (.int .i64) (.pair (.int .i64) .unit))))) x5, .int .i64 x6, .int .i64 x7, .undef, .undef, .undef, .undef, .undef, .undef, .undef, .undef, .undef, .undef, .undef, .undef, .undef, .undef, .undef, .undef, .undef, .undef, .undef, .undef, .undef, .undef, .undef, .undef, .undef, .undef, .undef, .undef, .undef, .undef, .undef, .undef, .undef, .undef, .undef], []⟩ (leave (E_impl_waitsOk k) Try.f69 (fin1 .bool))
theorem impl_waitsOk.l2_0 (k : Nat) (x0 : List (Int × Int × Int × Int × Unit)) (x5 : List (Int × Int × Int × Int × Unit)) (x6 : Int) (x7 : Int) : impl_waitsOk.l2 k 0 x0 x5 x6 x7 = none := by kernel_rfl
theorem impl_waitsOk.l2_s (k n : Nat) (x0 : List (Int × Int × Int × Int × Unit)) (x5 : List (Int × Int × Int × Int × Unit)) (x6 : Int) (x7 : Int) : impl_waitsOk.l2 k (n + 1) x0 x5 x6 x7 =
  iteB (decide (x7 < x6)) (iteB (decide (0 ≤ x7)) (iteB (decide (x7 < ((List.length x5) : Int))) (bindO (impl_within k ((List.getD x5 (Int.toNat x7) (Ty.dflt (.pair (.int .i64) (.pair (.int .i64) (.pair (.int .i64) (.pair (.int .i64) .unit)))))).1) 0 5) fun r1 => (iteB (!(!r1)) (iteB (decide (0 ≤ x7)) (iteB (decide (x7 ≤ ((List.length x0) : Int))) (bindO (slices_ContainsFunc_impl_Wait__impl_waitsOk_1 k (List.take (Int.toNat x7) (List.drop 0 x0)) ((List.getD x5 (Int.toNat x7) (Ty.dflt (.pair (.int .i64) (.pair (.int .i64) (.pair (.int .i64) (.pair (.int .i64) .unit)))))).1) (((List.getD x5 (Int.toNat x7) (Ty.dflt (.pair (.int .i64) (.pair (.int .i64) (.pair (.int .i64) (.pair (.int .i64) .unit)))))).2).1) ((((List.getD x5 (Int.toNat x7) (Ty.dflt (.pair (.int .i64) (.pair (.int .i64) (.pair (.int .i64) (.pair (.int .i64) .unit)))))).2).2).1) (((((List.getD x5 (Int.toNat x7) (Ty.dflt (.pair (.int .i64) (.pair (.int .i64) (.pair (.int .i64) (.pair (.int .i64) .unit)))))).2).2).2).1)) fun r2 => (iteB (!r2) (bindO (impl_WordOk k ((((List.getD x5 (Int.toNat x7) (Ty.dflt (.pair (.int .i64) (.pair (.int .i64) (.pair (.int .i64) (.pair (.int .i64) .unit)))))).2).2).1)) fun r3 => (iteB (!(!r3)) (iteB (!(decide (((List.getD x5 (Int.toNat x7) (Ty.dflt (.pair (.int .i64) (.pair (.int .i64) (.pair (.int .i64) (.pair (.int .i64) .unit)))))).2).1 < 0))) (iteB (decide (((((List.getD x5 (Int.toNat x7) (Ty.dflt (.pair (.int .i64) (.pair (.int .i64) (.pair (.int .i64) (.pair (.int .i64) .unit)))))).2).2).2).1 < 0)) (some false) (impl_waitsOk.l2 k n x0 x5 x6 (IntKind.wrap .i64 (x7 + 1)))) (some false)) (some false))) (some false))) (none)) (none)) (some false))) (none)) (none)) (some (decide (((List.length x0) : Int) ≤ 6))) := by kernel_rfl
theorem impl_waitsOk_e (k : Nat) (a1 : List (Int × Int × Int × Int × Unit)) : impl_waitsOk k a1 =
  impl_waitsOk.l2 k k a1 a1 ((List.length a1) : Int) 0 := by kernel_rfl
theorem E_impl_waitsOk_calls (k : Nat) : CallsOk Try.prog (E_impl_waitsOk k) (arun Try.prog (E_impl_waitsOk k) k) := by
  refine told_run (tyTOk _ _) ?_ (fun run h => regOk (tyTOk _ _) mixOk h) ?_ nameOk k
  · intro g m hg
    simp only [E_impl_waitsOk] at hg
    split at hg
    · cases hg
      refine con_byVal fun ρ l K x hm => ?_
      split at hm
      · obtain ⟨c1, h1, hm⟩ := Option.bind_eq_some_iff.1 hm
        obtain ⟨c2, h2, hm⟩ := Option.bind_eq_some_iff.1 hm
        obtain ⟨c3, h3, hm⟩ := Option.bind_eq_some_iff.1 hm
        obtain ⟨r, hr, hm⟩ := Option.bind_eq_some_iff.1 hm
        exact ⟨_, hm, LawV.reads (.cons (.as h1) (.cons (.as h2) (.cons (.as h3) .nil))) (impl_within_law k c1 c2 c3 r hr)⟩
      · cases hm
    · cases hg
      refine con_byVal fun ρ l K x hm => ?_
      split at hm
      · obtain ⟨c1, h1, hm⟩ := Option.bind_eq_some_iff.1 hm
        obtain ⟨c2, h2, hm⟩ := Option.bind_eq_some_iff.1 hm
        obtain ⟨c3, h3, hm⟩ := Option.bind_eq_some_iff.1 hm
        obtain ⟨c4, h4, hm⟩ := Option.bind_eq_some_iff.1 hm
        obtain ⟨c5, h5, hm⟩ := Option.bind_eq_some_iff.1 hm
        obtain ⟨r, hr, hm⟩ := Option.bind_eq_some_iff.1 hm
        exact ⟨_, hm, LawV.reads (.cons (.as h1) (.cons (.fn (.cons (.bp (.cons (.as h2) (.cons (.as h3) (.cons (.as h4) (.cons (.as h5) .nil))))) .nil)) .nil)) (slices_ContainsFunc_impl_Wait__impl_waitsOk_1_law k c1 c2 c3 c4 c5 r hr)⟩
      · cases hm
    · cases hg
      refine con_byVal fun ρ l K x hm => ?_
      split at hm
      · obtain ⟨c1, h1, hm⟩ := Option.bind_eq_some_iff.1 hm
        obtain ⟨r, hr, hm⟩ := Option.bind_eq_some_iff.1 hm
        exact ⟨_, hm, LawV.reads (.cons (.as h1) .nil) (impl_WordOk_law k c1 r hr)⟩
      · cases hm
    · cases hg; exact noCon_ok
    · cases hg
  · intro g hg r
    by_cases h : g = 69
    · subst h; simp [E_impl_waitsOk] at hg
    · simp [E_impl_waitsOk, h]
theorem f69_okimpl_waitsOk : Try.prog.funcs[69]? = some Try.f69 := by kernel_rfl
theorem impl_waitsOk_law (k : Nat) (a1 : List (Int × Int × Int × Int × Unit)) (x : Bool) (h : impl_waitsOk k a1 = some x) : LawV Try.prog 69 [.tv (.row (.pair (.int .i64) (.pair (.int .i64) (.pair (.int .i64) (.pair (.int .i64) .unit))))) a1] (tvn .bool x) := by
  unfold impl_waitsOk at h
  exact law1 (t := .bool) (tyTOk _ _) (E_impl_waitsOk_calls k) mixOk f69_okimpl_waitsOk (nameOk _ _ f69_okimpl_waitsOk) (by kernel_rfl) h
/-! impl.ChanOk -/
noncomputable def E_impl_ChanOk (k : Nat) : Env := ⟨ty, fun g => match g with
  | 67 => some (byVal fun ρ l K => match l with
    | [b1, b2, b3] => (b1.as (.int .i64)).bind fun c1 => (b2.as (.int .i64)).bind fun c2 => (b3.as (.int .i64)).bind fun c3 => (impl_within k c1 c2 c3).bind fun r => K (tvn .bool r)
    | _ => none)
  | 68 => some (byVal fun ρ l K => match l with
    | [b1, b2] => (b1.as (.row (.int .i64))).bind fun c1 => (b2.as (.int .i64)).bind fun c2 => (impl_wordsOk k c1 c2).bind fun r => K (tvn .bool r)
    | _ => none)
  | 69 => some (byVal fun ρ l K => match l with
    | [b1] => (b1.as (.row (.pair (.int .i64) (.pair (.int .i64) (.pair (.int .i64) (.pair (.int .i64) .unit)))))).bind fun c1 => (impl_waitsOk k c1).bind fun r => K (tvn .bool r)
    | _ => none)
  | _ => none, fun _ _ => none⟩
noncomputable def impl_ChanOk (k : Nat) (a1 : Int × Bool × (List Int) × (List (Int × Int × Int × Int × Unit)) × (List (Int × Int × Int × Int × Unit)) × Unit) : Option (Bool) :=
  abody (E_impl_ChanOk k) (arun Try.prog (E_impl_ChanOk k) k) k 30 Try.f30 [.tv (.pair (.int .i64) (.pair .bool (.pair (.row (.int .i64)) (.pair (.row (.pair (.int .i64) (.pair (.int .i64) (.pair (.int .i64) (.pair (.int .i64) .unit))))) (.pair (.row (.pair (.int .i64) (.pair (.int .i64) (.pair (.int .i64) (.pair (.int .i64) .unit))))) .unit))))) a1] [] (fin1 .bool)
theorem impl_ChanOk_e (k : Nat) (a1 : Int × Bool × (List Int) × (List (Int × Int × Int × Int × Unit)) × (List (Int × Int × Int × Int × Unit)) × Unit) : impl_ChanOk k a1 =
  bindO (impl_within k a1.1 0 8) fun r1 => (iteB r1 (bindO (impl_wordsOk k a1.2.2.1 a1.1) fun r2 => (iteB r2 (bindO (impl_waitsOk k a1.2.2.2.1) fun r3 => (iteB r3 (bindO (impl_waitsOk k a1.2.2.2.2.1) fun r4 => (some r4)) (some false))) (some false))) (some false)) := by kernel_rfl
theorem E_impl_ChanOk_calls (k : Nat) : CallsOk Try.prog (E_impl_ChanOk k) (arun Try.prog (E_impl_ChanOk k) k) := by
  refine told_run (tyTOk _ _) ?_ (fun run h => regOk (tyTOk _ _) mixOk h) ?_ nameOk k
  · intro g m hg
    simp only [E_impl_ChanOk] at hg
    split at hg
    · cases hg
      refine con_byVal fun ρ l K x hm => ?_
      split at hm
      · obtain ⟨c1, h1, hm⟩ := Option.bind_eq_some_iff.1 hm
        obtain ⟨c2, h2, hm⟩ := Option.bind_eq_some_iff.1 hm
        obtain ⟨c3, h3, hm⟩ := Option.bind_eq_some_iff.1 hm
        obtain ⟨r, hr, hm⟩ := Option.bind_eq_some_iff.1 hm
        exact ⟨_, hm, LawV.reads (.cons (.as h1) (.cons (.as h2) (.cons (.as h3) .nil))) (impl_within_law k c1 c2 c3 r hr)⟩
      · cases hm
    · cases hg
      refine con_byVal fun ρ l K x hm => ?_
      split at hm
      · obtain ⟨c1, h1, hm⟩ := Option.bind_eq_some_iff.1 hm
        obtain ⟨c2, h2, hm⟩ := Option.bind_eq_some_iff.1 hm
        obtain ⟨r, hr, hm⟩ := Option.bind_eq_some_iff.1 hm
        exact ⟨_, hm, LawV.reads (.cons (.as h1) (.cons (.as h2) .nil)) (impl_wordsOk_law k c1 c2 r hr)⟩
      · cases hm
    · cases hg
      refine con_byVal fun ρ l K x hm => ?_
      split at hm
      · obtain ⟨c1, h1, hm⟩ := Option.bind_eq_some_iff.1 hm
        obtain ⟨r, hr, hm⟩ := Option.bind_eq_some_iff.1 hm
        exact ⟨_, hm, LawV.reads (.cons (.as h1) .nil) (impl_waitsOk_law k c1 r hr)⟩
      · cases hm
    · cases hg
  · intro g _ r; rfl
theorem f30_okimpl_ChanOk : Try.prog.funcs[30]? = some Try.f30 := by kernel_rfl
theorem impl_ChanOk_law (k : Nat) (a1 : Int × Bool × (List Int) × (List (Int × Int × Int × Int × Unit)) × (List (Int × Int × Int × Int × Unit)) × Unit) (x : Bool) (h : impl_ChanOk k a1 = some x) : LawV Try.prog 30 [.tv (.pair (.int .i64) (.pair .bool (.pair (.row (.int .i64)) (.pair (.row (.pair (.int .i64) (.pair (.int .i64) (.pair (.int .i64) (.pair (.int .i64) .unit))))) (.pair (.row (.pair (.int .i64) (.pair (.int .i64) (.pair (.int .i64) (.pair (.int .i64) .unit))))) .unit))))) a1] (tvn .bool x) := by
  unfold impl_ChanOk at h
  exact law1 (t := .bool) (tyTOk _ _) (E_impl_ChanOk_calls k) mixOk f30_okimpl_ChanOk (nameOk _ _ f30_okimpl_ChanOk) (by kernel_rfl) h
/-! spec.WordOk -/
noncomputable def E_spec_WordOk (k : Nat) : Env := ⟨ty, fun g => match g with
  | 47 => some (byVal fun ρ l K => match l with
    | [b1, b2, b3] => (b1.as (.int .i64)).bind fun c1 => (b2.as (.int .i64)).bind fun c2 => (b3.as (.int .i64)).bind fun c3 => (spec_l1In k c1 c2 c3).bind fun r => K (tvn .bool r)
    | _ => none)
  | _ => none, fun _ _ => none⟩
noncomputable def spec_WordOk (k : Nat) (a1 : Int) : Option (Bool) :=
  abody (E_spec_WordOk k) (arun Try.prog (E_spec_WordOk k) k) k 54 Try.f54 [.int .i64 a1] [] (fin1 .bool)
theorem spec_WordOk_e (k : Nat) (a1 : Int) : spec_WordOk k a1 =
  bindO (spec_l1In k a1 (-2147483648) 2147483647) fun r1 => (some r1) := by kernel_rfl
theorem E_spec_WordOk_calls (k : Nat) : CallsOk Try.prog (E_spec_WordOk k) (arun Try.prog (E_spec_WordOk k) k) := by
  refine told_run (tyTOk _ _) ?_ (fun run h => regOk (tyTOk _ _) mixOk h) ?_ nameOk k
  · intro g m hg
    simp only [E_spec_WordOk] at hg
    split at hg
    · cases hg
      refine con_byVal fun ρ l K x hm => ?_
      split at hm
      · obtain ⟨c1, h1, hm⟩ := Option.bind_eq_some_iff.1 hm
        obtain ⟨c2, h2, hm⟩ := Option.bind_eq_some_iff.1 hm
        obtain ⟨c3, h3, hm⟩ := Option.bind_eq_some_iff.1 hm
        obtain ⟨r, hr, hm⟩ := Option.bind_eq_some_iff.1 hm
        exact ⟨_, hm, LawV.reads (.cons (.as h1) (.cons (.as h2) (.cons (.as h3) .nil))) (spec_l1In_law k c1 c2 c3 r hr)⟩
      · cases hm
    · cases hg
  · intro g _ r; rfl
theorem f54_okspec_WordOk : Try.prog.funcs[54]? = some Try.f54 := by kernel_rfl
theorem spec_WordOk_law (k : Nat) (a1 : Int) (x : Bool) (h : spec_WordOk k a1 = some x) : LawV Try.prog 54 [.int .i64 a1] (tvn .bool x) := by
  unfold spec_WordOk at h
  exact law1 (t := .bool) (tyTOk _ _) (E_spec_WordOk_calls k) mixOk f54_okspec_WordOk (nameOk _ _ f54_okspec_WordOk) (by kernel_rfl) h
/-! spec.l3Words -/
noncomputable def E_spec_l3Words (k : Nat) : Env := ⟨ty, fun g => match g with
  | 54 => some (byVal fun ρ l K => match l with
    | [b1] => (b1.as (.int .i64)).bind fun c1 => (spec_WordOk k c1).bind fun r => K (tvn .bool r)
    | _ => none)
  | 55 => some noCon
  | _ => none, fun f r => match f with | 55 => (match r with | 2 => some [0, 3] | _ => none) | _ => none⟩
noncomputable def spec_l3Words (k : Nat) (a1 : List Int) : Option (Bool) :=
  abody (E_spec_l3Words k) (arun Try.prog (E_spec_l3Words k) k) k 55 Try.f55 [.tv (.row (.int .i64)) a1] [] (fin1 .bool)
noncomputable def spec_l3Words.l2 (k n : Nat) (x0 : List Int) (x3 : Int) : Option (Bool) :=
  resume (E_spec_l3Words k) 55 (acall (E_spec_l3Words k) (arun Try.prog (E_spec_l3Words k) k)) k [true, false, true, true] [n] (bodyOf Try.f55) ⟨[.tv (.row (.int .i64)) x0, .undef, .undef, .int .i64 x3, .undef, .undef, .undef, .undef, .undef, .undef, .undef, .undef, .undef, .undef, .undef, .undef], []⟩ (leave (E_spec_l3Words k) Try.f55 (fin1 .bool))
theorem spec_l3Words.l2_0 (k : Nat) (x0 : List Int) (x3 : Int) : spec_l3Words.l2 k 0 x0 x3 = none := by kernel_rfl
theorem spec_l3Words.l2_s (k n : Nat) (x0 : List Int) (x3 : Int) : spec_l3Words.l2 k (n + 1) x0 x3 =
  iteB (decide (x3 < ((List.length x0) : Int))) (iteB (decide (0 ≤ x3)) (iteB (decide (x3 < ((List.length x0) : Int))) (bindO (spec_WordOk k (List.getD x0 (Int.toNat x3) 0)) fun r1 => (iteB (!r1) (some false) (spec_l3Words.l2 k n x0 (IntKind.wrap .i64 (x3 + 1))))) (none)) (none)) (some true) := by kernel_rfl
theorem spec_l3Words_e (k : Nat) (a1 : List Int) : spec_l3Words k a1 =
  spec_l3Words.l2 k k a1 0 := by kernel_rfl
theorem E_spec_l3Words_calls (k : Nat) : CallsOk Try.prog (E_spec_l3Words k) (arun Try.prog (E_spec_l3Words k) k) := by
  refine told_run (tyTOk _ _) ?_ (fun run h => regOk (tyTOk _ _) mixOk h) ?_ nameOk k
  · intro g m hg
    simp only [E_spec_l3Words] at hg
    split at hg
    · cases hg
      refine con_byVal fun ρ l K x hm => ?_
      split at hm
      · obtain ⟨c1, h1, hm⟩ := Option.bind_eq_some_iff.1 hm
        obtain ⟨r, hr, hm⟩ := Option.bind_eq_some_iff.1 hm
        exact ⟨_, hm, LawV.reads (.cons (.as h1) .nil) (spec_WordOk_law k c1 r hr)⟩
      · cases hm
    · cases hg; exact noCon_ok
    · cases hg
  · intro g hg r
    by_cases h : g = 55
    · subst h; simp [E_spec_l3Words] at hg
    · simp [E_spec_l3Words, h]
theorem f55_okspec_l3Words : Try.prog.funcs[55]? = some Try.f55 := by kernel_rfl
theorem spec_l3Words_law (k : Nat) (a1 : List Int) (x : Bool) (h : spec_l3Words k a1 = some x) : LawV Try.prog 55 [.tv (.row (.int .i64)) a1] (tvn .bool x) := by
  unfold spec_l3Words at h
  exact law1 (t := .bool) (tyTOk _ _) (E_spec_l3Words_calls k) mixOk f55_okspec_l3Words (nameOk _ _ f55_okspec_l3Words) (by kernel_rfl) h
/-! spec.l12Waits -/
noncomputable def E_spec_l12Waits (k : Nat) : Env := ⟨ty, fun g => match g with
  | 47 => some (byVal fun ρ l K => match l with
    | [b1, b2, b3] => (b1.as (.int .i64)).bind fun c1 => (b2.as (.int .i64)).bind fun c2 => (b3.as (.int .i64)).bind fun c3 => (spec_l1In k c1 c2 c3).bind fun r => K (tvn .bool r)
    | _ => none)
  | 54 => some (byVal fun ρ l K => match l with
    | [b1] => (b1.as (.int .i64)).bind fun c1 => (spec_WordOk k c1).bind fun r => K (tvn .bool r)
    | _ => none)
  | 70 => some noCon
  | _ => none, fun f r => match f with | 70 => (match r with | 2 => some [0, 3] | 7 => some [0, 3, 4] | 8 => some [0, 3, 4, 5] | _ => none) | _ => none⟩
noncomputable def spec_l12Waits (k : Nat) (a1 : List (Int × Int × Int × Int × Unit)) : Option (Bool) :=
  abody (E_spec_l12Waits k) (arun Try.prog (E_spec_l12Waits k) k) k 70 Try.f70 [.tv (.row (.pair (.int .i64) (.pair (.int .i64) (.pair (.int .i64) (.pair (.int .i64) .unit))))) a1] [] (fin1 .bool)
noncomputable def spec_l12Waits.l2 (k n : Nat) (x0 : List (Int × Int × Int × Int × Unit)) (x3 : Int) : Option (Bool) :=
  resume (E_spec_l12Waits k) 70 (acall (E_spec_l12Waits k) (arun Try.prog (E_spec_l12Waits k) k)) k [true, false, true, true] [n] (bodyOf Try.f70) ⟨[.tv (.row (.pair (.int .i64) (.pair (.int .i64) (.pair (.int .i64) (.pair (.int .i64) .unit))))) x0, .undef, .undef, .int .i64 x3, .undef, .undef, .undef, .undef, .undef, .undef, .undef, .undef, .undef, .undef, .undef, .undef, .undef, .undef, .undef, .undef, .undef, .undef, .undef, .undef, .undef, .undef, .undef, .undef, .undef, .undef, .undef, .undef, .undef, .undef, .undef, .undef, .undef, .undef, .undef, .undef, .undef, .undef, .undef, .undef, .undef, .undef, .undef, .undef, .undef, .undef, .undef, .undef], []⟩ (leave (E_spec_l12Waits k) Try.f70 (fin1 .bool))
noncomputable def spec_l12Waits.j7 (k m2 : Nat) (x0 : List (Int × Int × Int × Int × Unit)) (x3 : Int) (y0_0 : Int × Int × Int × Int × Unit) : Option (Bool) :=
  resume (E_spec_l12Waits k) 70 (acall (E_spec_l12Waits k) (arun Try.prog (E_spec_l12Waits k) k)) k [true, false, true, true, true, true, false, true, true, true] [m2] (bodyOf Try.f70) ⟨[.tv (.row (.pair (.int .i64) (.pair (.int .i64) (.pair (.int .i64) (.pair (.int .i64) .unit))))) x0, .undef, .undef, .int .i64 x3, .ptr 0 0 0, .undef, .undef, .undef, .undef, .undef, .undef, .undef, .undef, .undef, .undef, .undef, .undef, .undef, .undef, .undef, .undef, .undef, .undef, .undef, .undef, .undef, .undef, .undef, .undef, .undef, .undef, .undef, .undef, .undef, .undef, .undef, .undef, .undef, .undef, .undef, .undef, .undef, .undef, .undef, .undef, .undef, .undef, .undef, .undef, .undef, .undef, .undef], [some ⟨.raw true 4 (.agg [.int .i64 0, .int .i64 0, .int .i64 0, .int .i64 0]) [.tv (.pair (.int .i64) (.pair (.int .i64) (.pair (.int .i64) (.pair (.int .i64) .unit)))) y0_0], true⟩]⟩ (leave (E_spec_l12Waits k) Try.f70 (fin1 .bool))
noncomputable def spec_l12Waits.l8 (k m2 n : Nat) (x0 : List (Int × Int × Int × Int × Unit)) (x3 : Int) (x5 : Int) (y0_0 : Int × Int × Int × Int × Unit) : Option (Bool) :=
  resume (E_spec_l12Waits k) 70 (acall (E_spec_l12Waits k) (arun Try.prog (E_spec_l12Waits k) k)) k [true, false, true, true, true, true, false, true, true, true, true, true] [m2, n] (bodyOf Try.f70) ⟨[.tv (.row (.pair (.int .i64) (.pair (.int .i64) (.pair (.int .i64) (.pair (.int .i64) .unit))))) x0, .undef, .undef, .int .i64 x3, .ptr 0 0 0, .int .i64 x5, .undef, .undef, .undef, .undef, .undef, .undef, .undef, .undef, .undef, .undef, .undef, .undef, .undef, .undef, .undef, .undef, .undef, .undef, .undef, .undef, .undef, .undef, .undef, .undef, .undef, .undef, .undef, .undef, .undef, .undef, .undef, .undef, .undef, .undef, .undef, .undef, .undef, .undef, .undef, .undef, .undef, .undef, .undef, .undef, .undef, .undef], [some ⟨.raw true 4 (.agg [.int .i64 0, .int .i64 0, .int .i64 0, .int .i64 0]) [.tv (.pair (.int .i64) (.pair (.int .i64) (.pair (.int .i64) (.pair (.int .i64) .unit)))) y0_0], true⟩]⟩ (leave (E_spec_l12Waits k) Try.f70 (fin1 .bool))
theorem spec_l12Waits.l2_0 (k : Nat) (x0 : List (Int × Int × Int × Int × Unit)) (x3 : Int) : spec_l12Waits.l2 k 0 x0 x3 = none := by kernel_rfl
theorem spec_l12Waits.l2_s (k n : Nat) (x0 : List (Int × Int × Int × Int × Unit)) (x3 : Int) : spec_l12Waits.l2 k (n + 1) x0 x3 =
  iteB (decide (x3 < ((List.length x0) : Int))) (iteB (decide (0 ≤ x3)) (iteB (decide (x3 < ((List.length x0) : Int))) (bindO (spec_l1In k ((List.getD x0 (Int.toNat x3) (Ty.dflt (.pair (.int .i64) (.pair (.int .i64) (.pair (.int .i64) (.pair (.int .i64) .unit)))))).1) 0 5) fun r1 => (iteB (!(!r1)) (bindO (spec_WordOk k ((((List.getD x0 (Int.toNat x3) (Ty.dflt (.pair (.int .i64) (.pair (.int .i64) (.pair (.int .i64) (.pair (.int .i64) .unit)))))).2).2).1)) fun r2 => (iteB (!(!r2)) (iteB (!(decide (((List.getD x0 (Int.toNat x3) (Ty.dflt (.pair (.int .i64) (.pair (.int .i64) (.pair (.int .i64) (.pair (.int .i64) .unit)))))).2).1 < 0))) (iteB (decide (((((List.getD x0 (Int.toNat x3) (Ty.dflt (.pair (.int .i64) (.pair (.int .i64) (.pair (.int .i64) (.pair (.int .i64) .unit)))))).2).2).2).1 < 0)) (some false) (gate k (spec_l12Waits.j7 k n x0 x3 (List.getD x0 (Int.toNat x3) (Ty.dflt (.pair (.int .i64) (.pair (.int .i64) (.pair (.int .i64) (.pair (.int .i64) .unit))))))))) (some false)) (some false))) (some false))) (none)) (none)) (some (decide (((List.length x0) : Int) ≤ 6))) := by kernel_rfl
theorem spec_l12Waits.j7_e (k m2 : Nat) (x0 : List (Int × Int × Int × Int × Unit)) (x3 : Int) (y0_0 : Int × Int × Int × Int × Unit) : spec_l12Waits.j7 k m2 x0 x3 y0_0 =
  spec_l12Waits.l8 k m2 k x0 x3 0 y0_0 := by kernel_rfl
theorem spec_l12Waits.l8_0 (k m2 : Nat) (x0 : List (Int × Int × Int × Int × Unit)) (x3 : Int) (x5 : Int) (y0_0 : Int × Int × Int × Int × Unit) : spec_l12Waits.l8 k m2 0 x0 x3 x5 y0_0 = none := by kernel_rfl
theorem spec_l12Waits.l8_s (k m2 n : Nat) (x0 : List (Int × Int × Int × Int × Unit)) (x3 : Int) (x5 : Int) (y0_0 : Int × Int × Int × Int × Unit) : spec_l12Waits.l8 k m2 (n + 1) x0 x3 x5 y0_0 =
  iteB (decide (x5 < x3)) (iteB (decide (0 ≤ x5)) (iteB (decide (x5 < ((List.length x0) : Int))) (iteB (((List.getD x0 (Int.toNat x5) (Ty.dflt (.pair (.int .i64) (.pair (.int .i64) (.pair (.int .i64) (.pair (.int .i64) .unit)))))).1) == y0_0.1) (some false) (spec_l12Waits.l8 k m2 n x0 x3 (IntKind.wrap .i64 (x5 + 1)) y0_0)) (none)) (none)) (spec_l12Waits.l2 k m2 x0 (IntKind.wrap .i64 (x3 + 1))) := by kernel_rfl
theorem spec_l12Waits_e (k : Nat) (a1 : List (Int × Int × Int × Int × Unit)) : spec_l12Waits k a1 =
  spec_l12Waits.l2 k k a1 0 := by kernel_rfl
theorem E_spec_l12Waits_calls (k : Nat) : CallsOk Try.prog (E_spec_l12Waits k) (arun Try.prog (E_spec_l12Waits k) k) := by
  refine told_run (tyTOk _ _) ?_ (fun run h => regOk (tyTOk _ _) mixOk h) ?_ nameOk k
  · intro g m hg
    simp only [E_spec_l12Waits] at hg
    split at hg
    · cases hg
      refine con_byVal fun ρ l K x hm => ?_
      split at hm
      · obtain ⟨c1, h1, hm⟩ := Option.bind_eq_some_iff.1 hm
        obtain ⟨c2, h2, hm⟩ := Option.bind_eq_some_iff.1 hm
        obtain ⟨c3, h3, hm⟩ := Option.bind_eq_some_iff.1 hm
        obtain ⟨r, hr, hm⟩ := Option.bind_eq_some_iff.1 hm
        exact ⟨_, hm, LawV.reads (.cons (.as h1) (.cons (.as h2) (.cons (.as h3) .nil))) (spec_l1In_law k c1 c2 c3 r hr)⟩
      · cases hm
    · cases hg
      refine con_byVal fun ρ l K x hm => ?_
      split at hm
      · obtain ⟨c1, h1, hm⟩ := Option.bind_eq_some_iff.1 hm
        obtain ⟨r, hr, hm⟩ := Option.bind_eq_some_iff.1 hm
        exact ⟨_, hm, LawV.reads (.cons (.as h1) .nil) (spec_WordOk_law k c1 r hr)⟩
      · cases hm
    · cases hg; exact noCon_ok
    · cases hg
  · intro g hg r
    by_cases h : g = 70
    · subst h; simp [E_spec_l12Waits] at hg
    · simp [E_spec_l12Waits, h]
theorem f70_okspec_l12Waits : Try.prog.funcs[70]? = some Try.f70 := by kernel_rfl
theorem spec_l12Waits_law (k : Nat) (a1 : List (Int × Int × Int × Int × Unit)) (x : Bool) (h : spec_l12Waits k a1 = some x) : LawV Try.prog 70 [.tv (.row (.pair (.int .i64) (.pair (.int .i64) (.pair (.int .i64) (.pair (.int .i64) .unit))))) a1] (tvn .bool x) := by
  unfold spec_l12Waits at h
  exact law1 (t := .bool) (tyTOk _ _) (E_spec_l12Waits_calls k) mixOk f70_okspec_l12Waits (nameOk _ _ f70_okspec_l12Waits) (by kernel_rfl) h
end Go.Proofs.Yteojdaobpjhddaa.XFnWaits
