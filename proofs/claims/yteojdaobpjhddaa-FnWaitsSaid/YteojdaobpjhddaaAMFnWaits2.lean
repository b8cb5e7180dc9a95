/- Functions of the program as runs of the interpreter: equations, and a law for each. -/
import Derived.Test.YteojdaobpjhddaaProg
import Derived.Test.YteojdaobpjhddaaChecked
import Derived.KernelRfl
import Derived.Eval
import Derived.Test.YteojdaobpjhddaaATyOk
import Derived.Test.YteojdaobpjhddaaAS40
import Derived.Test.YteojdaobpjhddaaAMFnWaits0
import Derived.Test.YteojdaobpjhddaaAMFnWaits1
open Go Go.AM Go.AMx Go.Proofs
namespace Go.Proofs.Yteojdaobpjhddaa.XFnWaits
set_option linter.unusedVariables false
set_option linter.unusedSimpArgs false
/-! spec.ChanOk -/
noncomputable def E_spec_ChanOk (k : Nat) : Env := ⟨ty, fun g => match g with
  | 47 => some (byVal fun ρ l K => match l with
    | [b1, b2, b3] => (b1.as (.int .i64)).bind fun c1 => (b2.as (.int .i64)).bind fun c2 => (b3.as (.int .i64)).bind fun c3 => (spec_l1In k c1 c2 c3).bind fun r => K (tvn .bool r)
    | _ => none)
  | 55 => some (byVal fun ρ l K => match l with
    | [b1] => (b1.as (.row (.int .i64))).bind fun c1 => (spec_l3Words k c1).bind fun r => K (tvn .bool r)
    | _ => none)
  | 70 => some (byVal fun ρ l K => match l with
    | [b1] => (b1.as (.row (.pair (.int .i64) (.pair (.int .i64) (.pair (.int .i64) (.pair (.int .i64) .unit)))))).bind fun c1 => (spec_l12Waits k c1).bind fun r => K (tvn .bool r)
    | _ => none)
  | _ => none, fun _ _ => none⟩
noncomputable def spec_ChanOk (k : Nat) (a1 : Int × Bool × (List Int) × (List (Int × Int × Int × Int × Unit)) × (List (Int × Int × Int × Int × Unit)) × Unit) : Option (Bool) :=
  abody (E_spec_ChanOk k) (arun Try.prog (E_spec_ChanOk k) k) k 31 Try.f31 [.tv (.pair (.int .i64) (.pair .bool (.pair (.row (.int .i64)) (.pair (.row (.pair (.int .i64) (.pair (.int .i64) (.pair (.int .i64) (.pair (.int .i64) .unit))))) (.pair (.row (.pair (.int .i64) (.pair (.int .i64) (.pair (.int .i64) (.pair (.int .i64) .unit))))) .unit))))) a1] [] (fin1 .bool)
theorem spec_ChanOk_e (k : Nat) (a1 : Int × Bool × (List Int) × (List (Int × Int × Int × Int × Unit)) × (List (Int × Int × Int × Int × Unit)) × Unit) : spec_ChanOk k a1 =
  bindO (spec_l1In k a1.1 0 8) fun r1 => (iteB r1 (iteB (decide (((List.length a1.2.2.1) : Int) ≤ a1.1)) (bindO (spec_l3Words k a1.2.2.1) fun r2 => (iteB r2 (bindO (spec_l12Waits k a1.2.2.2.1) fun r3 => (iteB r3 (bindO (spec_l12Waits k a1.2.2.2.2.1) fun r4 => (some r4)) (some false))) (some false))) (some false)) (some false)) := by kernel_rfl
theorem E_spec_ChanOk_calls (k : Nat) : CallsOk Try.prog (E_spec_ChanOk k) (arun Try.prog (E_spec_ChanOk k) k) := by
  refine told_run (tyTOk _ _) ?_ (fun run h => regOk (tyTOk _ _) mixOk h) ?_ nameOk k
  · intro g m hg
    simp only [E_spec_ChanOk] at hg
    split at hg
    · cases hg
      refine con_byVal fun ρ l K x hm => ?_
      split at hm
      · obtain ⟨c1, h1, hm⟩ := Option.bind_eq_some_iff.1 hm
        obtain ⟨c2, h2, hm⟩ := Option.bind_eq_some_iff.1 hm
        obtain ⟨c3, h3, hm⟩ := Option.bind_eq_some_iff.1 hm
        obtain ⟨r, hr, hm⟩ := Option.bind_eq_some_iff.1 hm
        exact ⟨_, hm, LawV.reads (.cons (.as h1) (.cons (.as h2) (.cons (.as h3) .nil))) (spec_l1In_law k c1 c2 c3 r hr)⟩
      · cases hm
    · cases hg
      refine con_byVal fun ρ l K x hm => ?_
      split at hm
      · obtain ⟨c1, h1, hm⟩ := Option.bind_eq_some_iff.1 hm
        obtain ⟨r, hr, hm⟩ := Option.bind_eq_some_iff.1 hm
        exact ⟨_, hm, LawV.reads (.cons (.as h1) .nil) (spec_l3Words_law k c1 r hr)⟩
      · cases hm
    · cases hg
      refine con_byVal fun ρ l K x hm => ?_
      split at hm
      · obtain ⟨c1, h1, hm⟩ := Option.bind_eq_some_iff.1 hm
        obtain ⟨r, hr, hm⟩ := Option.bind_eq_some_iff.1 hm
        exact ⟨_, hm, LawV.reads (.cons (.as h1) .nil) (spec_l12Waits_law k c1 r hr)⟩
      · cases hm
    · cases hg
  · intro g _ r; rfl
theorem f31_okspec_ChanOk : Try.prog.funcs[31]? = some Try.f31 := by kernel_rfl
theorem spec_ChanOk_law (k : Nat) (a1 : Int × Bool × (List Int) × (List (Int × Int × Int × Int × Unit)) × (List (Int × Int × Int × Int × Unit)) × Unit) (x : Bool) (h : spec_ChanOk k a1 = some x) : LawV Try.prog 31 [.tv (.pair (.int .i64) (.pair .bool (.pair (.row (.int .i64)) (.pair (.row (.pair (.int .i64) (.pair (.int .i64) (.pair (.int .i64) (.pair (.int .i64) .unit))))) (.pair (.row (.pair (.int .i64) (.pair (.int .i64) (.pair (.int .i64) (.pair (.int .i64) .unit))))) .unit))))) a1] (tvn .bool x) := by
  unfold spec_ChanOk at h
  exact law1 (t := .bool) (tyTOk _ _) (E_spec_ChanOk_calls k) mixOk f31_okspec_ChanOk (nameOk _ _ f31_okspec_ChanOk) (by kernel_rfl) h
/-! laws.FnWaits -/
noncomputable def E_laws_FnWaits (k : Nat) : Env := ⟨ty, fun g => match g with
  | 6 => some (byVal fun ρ l K => match l with
    | [b1] => (b1.as (.row (.int .u8))).bind fun c1 => (laws_big k c1).bind fun r => K (tvn .bool r)
    | _ => none)
  | 20 => some (byVal fun ρ l K => match l with
    | [b1] => (b1.as (.row (.int .u8))).bind fun c1 => (spec_DrawAddWait k c1).bind fun r => K (.tup (outs (.pair (.row (.pair (.int .i64) (.pair (.int .i64) (.pair (.int .i64) (.pair (.int .i64) .unit))))) (.pair (.pair (.int .i64) (.pair (.int .i64) (.pair (.int .i64) (.pair (.int .i64) .unit)))) .unit)) r))
    | _ => none)
  | 21 => some (byFresh (.pair (.int .i64) (.pair (.int .i64) (.pair (.int .i64) (.pair (.int .i64) .unit)))) fun ρ l K => match l with
    | [b1, b2] => (b1.as (.row (.pair (.int .i64) (.pair (.int .i64) (.pair (.int .i64) (.pair (.int .i64) .unit)))))).bind fun c1 => (b2.as (.pair (.int .i64) (.pair (.int .i64) (.pair (.int .i64) (.pair (.int .i64) .unit))))).bind fun c2 => (impl_AddWait k c1 c2).bind fun r => K r
    | _ => none)
  | 23 => some (byFresh (.pair (.int .i64) (.pair (.int .i64) (.pair (.int .i64) (.pair (.int .i64) .unit)))) fun ρ l K => match l with
    | [b1, b2] => (b1.as (.row (.pair (.int .i64) (.pair (.int .i64) (.pair (.int .i64) (.pair (.int .i64) .unit)))))).bind fun c1 => (b2.as (.pair (.int .i64) (.pair (.int .i64) (.pair (.int .i64) (.pair (.int .i64) .unit))))).bind fun c2 => (spec_AddWait k c1 c2).bind fun r => K r
    | _ => none)
  | 22 => some (byVal fun ρ l K => match l with
    | [b1, b2] => (b1.as (.row (.pair (.int .i64) (.pair (.int .i64) (.pair (.int .i64) (.pair (.int .i64) .unit)))))).bind fun c1 => (b2.as (.row (.pair (.int .i64) (.pair (.int .i64) (.pair (.int .i64) (.pair (.int .i64) .unit)))))).bind fun c2 => (laws_sameWaits k c1 c2).bind fun r => K (tvn .bool r)
    | _ => none)
  | 24 => some (byVal fun ρ l K => match l with
    | [b1] => (b1.as (.row (.int .u8))).bind fun c1 => (spec_DrawFirstWait k c1).bind fun r => K (.tup (outs (.pair (.row (.pair (.int .i64) (.pair (.int .i64) (.pair (.int .i64) (.pair (.int .i64) .unit))))) (.pair (.row (.int .i64)) .unit)) r))
    | _ => none)
  | 25 => some (byVal fun ρ l K => match l with
    | [b1, b2] => (b1.as (.row (.pair (.int .i64) (.pair (.int .i64) (.pair (.int .i64) (.pair (.int .i64) .unit)))))).bind fun c1 => (b2.as (.row (.int .i64))).bind fun c2 => (impl_FirstWait k c1 c2).bind fun r => K (tvn (.int .i64) r)
    | _ => none)
  | 26 => some (byVal fun ρ l K => match l with
    | [b1, b2] => (b1.as (.row (.pair (.int .i64) (.pair (.int .i64) (.pair (.int .i64) (.pair (.int .i64) .unit)))))).bind fun c1 => (b2.as (.row (.int .i64))).bind fun c2 => (impl_Live k c1 c2).bind fun r => K (tvn (.row (.pair (.int .i64) (.pair (.int .i64) (.pair (.int .i64) (.pair (.int .i64) .unit))))) r)
    | _ => none)
  | 27 => some (byVal fun ρ l K => match l with
    | [b1] => (b1.as (.row (.int .u8))).bind fun c1 => (spec_DrawChanOk k c1).bind fun r => K (tvn (.pair (.int .i64) (.pair .bool (.pair (.row (.int .i64)) (.pair (.row (.pair (.int .i64) (.pair (.int .i64) (.pair (.int .i64) (.pair (.int .i64) .unit))))) (.pair (.row (.pair (.int .i64) (.pair (.int .i64) (.pair (.int .i64) (.pair (.int .i64) .unit))))) .unit))))) r)
    | _ => none)
  | 28 => some (byVal fun ρ l K => match l with
    | [b1, b2] => (b1.as (.row (.pair (.int .i64) (.pair (.int .i64) (.pair (.int .i64) (.pair (.int .i64) .unit)))))).bind fun c1 => (b2.as (.row (.int .i64))).bind fun c2 => (spec_FirstWait k c1 c2).bind fun r => K (tvn (.int .i64) r)
    | _ => none)
  | 29 => some (byVal fun ρ l K => match l with
    | [b1, b2] => (b1.as (.row (.pair (.int .i64) (.pair (.int .i64) (.pair (.int .i64) (.pair (.int .i64) .unit)))))).bind fun c1 => (b2.as (.row (.int .i64))).bind fun c2 => (spec_Live k c1 c2).bind fun r => K (tvn (.row (.pair (.int .i64) (.pair (.int .i64) (.pair (.int .i64) (.pair (.int .i64) .unit))))) r)
    | _ => none)
  | 30 => some (byVal fun ρ l K => match l with
    | [b1] => (b1.as (.pair (.int .i64) (.pair .bool (.pair (.row (.int .i64)) (.pair (.row (.pair (.int .i64) (.pair (.int .i64) (.pair (.int .i64) (.pair (.int .i64) .unit))))) (.pair (.row (.pair (.int .i64) (.pair (.int .i64) (.pair (.int .i64) (.pair (.int .i64) .unit))))) .unit)))))).bind fun c1 => (impl_ChanOk k c1).bind fun r => K (tvn .bool r)
    | _ => none)
  | 31 => some (byVal fun ρ l K => match l with
    | [b1] => (b1.as (.pair (.int .i64) (.pair .bool (.pair (.row (.int .i64)) (.pair (.row (.pair (.int .i64) (.pair (.int .i64) (.pair (.int .i64) (.pair (.int .i64) .unit))))) (.pair (.row (.pair (.int .i64) (.pair (.int .i64) (.pair (.int .i64) (.pair (.int .i64) .unit))))) .unit)))))).bind fun c1 => (spec_ChanOk k c1).bind fun r => K (tvn .bool r)
    | _ => none)
  | 5 => some noCon
  | _ => none, fun f r => match f with | 5 => (match r with | 13 => some [4, 5, 6, 8, 9] | 15 => some [4, 5] | 17 => some [4, 5, 11, 12] | _ => none) | _ => none⟩
noncomputable def laws_FnWaits (k : Nat) (a1 : List Int) : Option (Bool) :=
  abody (E_laws_FnWaits k) (arun Try.prog (E_laws_FnWaits k) k) k 5 Try.f5 [.tv (.row (.int .u8)) a1] [] (fin1 .bool)
noncomputable def laws_FnWaits.j13 (k : Nat) (x6 : List (Int × Int × Int × Int × Unit)) (x8 : Int) (x9 : List (Int × Int × Int × Int × Unit)) (y0_0 : Int × Int × Int × Int × Unit) (y1 : List (Int × Int × Int × Int × Unit)) : Option (Bool) :=
  resume (E_laws_FnWaits k) 5 (acall (E_laws_FnWaits k) (arun Try.prog (E_laws_FnWaits k) k)) k [true, true, true, true, true, true, true, true, true, true] [] (bodyOf Try.f5) ⟨[.undef, .undef, .undef, .undef, .ptr 0 0 0, .sl 1, .tv (.row (.pair (.int .i64) (.pair (.int .i64) (.pair (.int .i64) (.pair (.int .i64) .unit))))) x6, .undef, .int .i64 x8, .tv (.row (.pair (.int .i64) (.pair (.int .i64) (.pair (.int .i64) (.pair (.int .i64) .unit))))) x9, .undef, .undef, .undef, .undef, .undef, .undef, .undef, .undef, .undef, .undef, .undef, .undef, .undef, .undef, .undef, .undef, .undef, .undef, .undef, .undef, .undef, .undef, .undef, .undef, .undef, .undef, .undef, .undef, .undef, .undef, .undef, .undef, .undef, .undef, .undef, .undef, .undef, .undef, .undef, .undef, .undef, .undef, .undef, .undef, .undef, .undef, .undef, .undef, .undef, .undef, .undef, .undef, .undef, .undef, .undef, .undef, .undef, .undef, .undef, .undef, .undef, .undef, .undef, .undef, .undef, .undef, .undef, .undef, .undef, .undef, .undef, .undef, .undef, .undef, .undef, .undef, .undef, .undef, .undef, .undef, .undef, .undef, .undef, .undef, .undef, .undef, .undef, .undef, .undef, .undef, .undef, .undef, .undef, .undef, .undef, .undef, .undef], [some ⟨.raw true 4 (.agg [.int .i64 0, .int .i64 0, .int .i64 0, .int .i64 0]) [.tv (.pair (.int .i64) (.pair (.int .i64) (.pair (.int .i64) (.pair (.int .i64) .unit)))) y0_0], true⟩, some ⟨.typed (.pair (.int .i64) (.pair (.int .i64) (.pair (.int .i64) (.pair (.int .i64) .unit)))) y1, false⟩]⟩ (leave (E_laws_FnWaits k) Try.f5 (fin1 .bool))
noncomputable def laws_FnWaits.j15 (k : Nat) (y0_0 : Int × Int × Int × Int × Unit) (y1 : List (Int × Int × Int × Int × Unit)) : Option (Bool) :=
  resume (E_laws_FnWaits k) 5 (acall (E_laws_FnWaits k) (arun Try.prog (E_laws_FnWaits k) k)) k [true, true, true, true, true, true, true, true, true, true, true] [] (bodyOf Try.f5) ⟨[.undef, .undef, .undef, .undef, .ptr 0 0 0, .sl 1, .undef, .undef, .undef, .undef, .undef, .undef, .undef, .undef, .undef, .undef, .undef, .undef, .undef, .undef, .undef, .undef, .undef, .undef, .undef, .undef, .undef, .undef, .undef, .undef, .undef, .undef, .undef, .undef, .undef, .undef, .undef, .undef, .undef, .undef, .undef, .undef, .undef, .undef, .undef, .undef, .undef, .undef, .undef, .undef, .undef, .undef, .undef, .undef, .undef, .undef, .undef, .undef, .undef, .undef, .undef, .undef, .undef, .undef, .undef, .undef, .undef, .undef, .undef, .undef, .undef, .undef, .undef, .undef, .undef, .undef, .undef, .undef, .undef, .undef, .undef, .undef, .undef, .undef, .undef, .undef, .undef, .undef, .undef, .undef, .undef, .undef, .undef, .undef, .undef, .undef, .undef, .undef, .undef, .undef, .undef, .undef, .undef, .undef, .undef, .undef, .undef], [some ⟨.raw true 4 (.agg [.int .i64 0, .int .i64 0, .int .i64 0, .int .i64 0]) [.tv (.pair (.int .i64) (.pair (.int .i64) (.pair (.int .i64) (.pair (.int .i64) .unit)))) y0_0], true⟩, some ⟨.typed (.pair (.int .i64) (.pair (.int .i64) (.pair (.int .i64) (.pair (.int .i64) .unit)))) y1, false⟩]⟩ (leave (E_laws_FnWaits k) Try.f5 (fin1 .bool))
noncomputable def laws_FnWaits.l17 (k n : Nat) (x11 : Int) (x12 : Int) (y0_0 : Int × Int × Int × Int × Unit) (y1 : List (Int × Int × Int × Int × Unit)) : Option (Bool) :=
  resume (E_laws_FnWaits k) 5 (acall (E_laws_FnWaits k) (arun Try.prog (E_laws_FnWaits k) k)) k [true, true, true, true, true, true, true, true, true, true, true, true, false, true, true] [n] (bodyOf Try.f5) ⟨[.undef, .undef, .undef, .undef, .ptr 0 0 0, .sl 1, .undef, .undef, .undef, .undef, .undef, .int .i64 x11, .int .i64 x12, .undef, .undef, .undef, .undef, .undef, .undef, .undef, .undef, .undef, .undef, .undef, .undef, .undef, .undef, .undef, .undef, .undef, .undef, .undef, .undef, .undef, .undef, .undef, .undef, .undef, .undef, .undef, .undef, .undef, .undef, .undef, .undef, .undef, .undef, .undef, .undef, .undef, .undef, .undef, .undef, .undef, .undef, .undef, .undef, .undef, .undef, .undef, .undef, .undef, .undef, .undef, .undef, .undef, .undef, .undef, .undef, .undef, .undef, .undef, .undef, .undef, .undef, .undef, .undef, .undef, .undef, .undef, .undef, .undef, .undef, .undef, .undef, .undef, .undef, .undef, .undef, .undef, .undef, .undef, .undef, .undef, .undef, .undef, .undef, .undef, .undef, .undef, .undef, .undef, .undef, .undef, .undef, .undef, .undef], [some ⟨.raw true 4 (.agg [.int .i64 0, .int .i64 0, .int .i64 0, .int .i64 0]) [.tv (.pair (.int .i64) (.pair (.int .i64) (.pair (.int .i64) (.pair (.int .i64) .unit)))) y0_0], true⟩, some ⟨.typed (.pair (.int .i64) (.pair (.int .i64) (.pair (.int .i64) (.pair (.int .i64) .unit)))) y1, false⟩]⟩ (leave (E_laws_FnWaits k) Try.f5 (fin1 .bool))
theorem laws_FnWaits.j13_e (k : Nat) (x6 : List (Int × Int × Int × Int × Unit)) (x8 : Int) (x9 : List (Int × Int × Int × Int × Unit)) (y0_0 : Int × Int × Int × Int × Unit) (y1 : List (Int × Int × Int × Int × Unit)) : laws_FnWaits.j13 k x6 x8 x9 y0_0 y1 =
  iteB (!(!((decide (x8 < 0)) == (((List.length x9) : Int) == 0)))) (iteB (decide (x8 ≥ 0)) (iteB (decide (0 < ((List.length x9) : Int))) (iteB (decide (0 ≤ x8)) (iteB (decide (x8 < ((List.length x6) : Int))) (iteB (!((((List.getD x9 0 (Ty.dflt (.pair (.int .i64) (.pair (.int .i64) (.pair (.int .i64) (.pair (.int .i64) .unit)))))).1) == ((List.getD x6 (Int.toNat x8) (Ty.dflt (.pair (.int .i64) (.pair (.int .i64) (.pair (.int .i64) (.pair (.int .i64) .unit)))))).1)) && (((((List.getD x9 0 (Ty.dflt (.pair (.int .i64) (.pair (.int .i64) (.pair (.int .i64) (.pair (.int .i64) .unit)))))).2).1) == (((List.getD x6 (Int.toNat x8) (Ty.dflt (.pair (.int .i64) (.pair (.int .i64) (.pair (.int .i64) (.pair (.int .i64) .unit)))))).2).1)) && ((((((List.getD x9 0 (Ty.dflt (.pair (.int .i64) (.pair (.int .i64) (.pair (.int .i64) (.pair (.int .i64) .unit)))))).2).2).1) == ((((List.getD x6 (Int.toNat x8) (Ty.dflt (.pair (.int .i64) (.pair (.int .i64) (.pair (.int .i64) (.pair (.int .i64) .unit)))))).2).2).1)) && (((((((List.getD x9 0 (Ty.dflt (.pair (.int .i64) (.pair (.int .i64) (.pair (.int .i64) (.pair (.int .i64) .unit)))))).2).2).2).1) == (((((List.getD x6 (Int.toNat x8) (Ty.dflt (.pair (.int .i64) (.pair (.int .i64) (.pair (.int .i64) (.pair (.int .i64) .unit)))))).2).2).2).1)) && true))))) (some false) (gate k (laws_FnWaits.j15 k y0_0 y1))) (none)) (none)) (none)) (gate k (laws_FnWaits.j15 k y0_0 y1))) (some false) := by kernel_rfl
theorem laws_FnWaits.j15_e (k : Nat) (y0_0 : Int × Int × Int × Int × Unit) (y1 : List (Int × Int × Int × Int × Unit)) : laws_FnWaits.j15 k y0_0 y1 =
  laws_FnWaits.l17 k k 0 0 y0_0 y1 := by kernel_rfl
theorem laws_FnWaits.l17_0 (k : Nat) (x11 : Int) (x12 : Int) (y0_0 : Int × Int × Int × Int × Unit) (y1 : List (Int × Int × Int × Int × Unit)) : laws_FnWaits.l17 k 0 x11 x12 y0_0 y1 = none := by kernel_rfl
theorem laws_FnWaits.l17_s (k n : Nat) (x11 : Int) (x12 : Int) (y0_0 : Int × Int × Int × Int × Unit) (y1 : List (Int × Int × Int × Int × Unit)) : laws_FnWaits.l17 k (n + 1) x11 x12 y0_0 y1 =
  iteB (decide (x12 < ((List.length y1) : Int))) (iteB (decide (0 ≤ x12)) (iteB (decide (x12 < ((List.length y1) : Int))) (iteB (((List.getD y1 (Int.toNat x12) (Ty.dflt (.pair (.int .i64) (.pair (.int .i64) (.pair (.int .i64) (.pair (.int .i64) .unit)))))).1) == y0_0.1) (laws_FnWaits.l17 k n (IntKind.wrap .i64 (x11 + 1)) (IntKind.wrap .i64 (x12 + 1)) y0_0 y1) (laws_FnWaits.l17 k n x11 (IntKind.wrap .i64 (x12 + 1)) y0_0 y1)) (none)) (none)) (iteB (x11 == 1) (bindO (impl_AddWait k y1 y0_0) fun r15 => (bindO (laws_sameWaits k r15 y1) fun r16 => (some r16))) (some false)) := by kernel_rfl
theorem laws_FnWaits_e (k : Nat) (a1 : List Int) : laws_FnWaits k a1 =
  bindO (laws_big k a1) fun r1 => (iteB r1 (some true) (bindO (spec_DrawAddWait k a1) fun r2 => (bindO (impl_AddWait k r2.1 r2.2.1) fun r3 => (bindO (spec_AddWait k r2.1 r2.2.1) fun r4 => (bindO (laws_sameWaits k r3 r4) fun r5 => (iteB (!r5) (some false) (bindO (spec_DrawFirstWait k a1) fun r6 => (bindO (impl_FirstWait k r6.1 r6.2.1) fun r7 => (bindO (impl_Live k r6.1 r6.2.1) fun r8 => (bindO (spec_DrawChanOk k a1) fun r9 => (bindO (spec_FirstWait k r6.1 r6.2.1) fun r10 => (iteB (!(r7 != r10)) (bindO (spec_Live k r6.1 r6.2.1) fun r11 => (bindO (laws_sameWaits k r8 r11) fun r12 => (iteB (!(!r12)) (bindO (impl_ChanOk k r9) fun r13 => (bindO (spec_ChanOk k r9) fun r14 => (iteB (!(r13 == r14)) (some false) (gate k (laws_FnWaits.j13 k r6.1 r7 r8 r2.2.1 r3))))) (some false)))) (some false))))))))))))) := by kernel_rfl
theorem E_laws_FnWaits_calls (k : Nat) : CallsOk Try.prog (E_laws_FnWaits k) (arun Try.prog (E_laws_FnWaits k) k) := by
  refine told_run (tyTOk _ _) ?_ (fun run h => regOk (tyTOk _ _) mixOk h) ?_ nameOk k
  · intro g m hg
    simp only [E_laws_FnWaits] at hg
    split at hg
    · cases hg
      refine con_byVal fun ρ l K x hm => ?_
      split at hm
      · obtain ⟨c1, h1, hm⟩ := Option.bind_eq_some_iff.1 hm
        obtain ⟨r, hr, hm⟩ := Option.bind_eq_some_iff.1 hm
        exact ⟨_, hm, LawV.reads (.cons (.as h1) .nil) (laws_big_law k c1 r hr)⟩
      · cases hm
    · cases hg
      refine con_byVal fun ρ l K x hm => ?_
      split at hm
      · obtain ⟨c1, h1, hm⟩ := Option.bind_eq_some_iff.1 hm
        obtain ⟨r, hr, hm⟩ := Option.bind_eq_some_iff.1 hm
        exact ⟨_, hm, LawV.reads (.cons (.as h1) .nil) (spec_DrawAddWait_law k c1 r hr)⟩
      · cases hm
    · cases hg
      refine con_byFresh fun ρ l K x hm => ?_
      split at hm
      · obtain ⟨c1, h1, hm⟩ := Option.bind_eq_some_iff.1 hm
        obtain ⟨c2, h2, hm⟩ := Option.bind_eq_some_iff.1 hm
        obtain ⟨r, hr, hm⟩ := Option.bind_eq_some_iff.1 hm
        exact ⟨_, hm, LawF.reads (.cons (.as h1) (.cons (.as h2) .nil)) (impl_AddWait_law k c1 c2 r hr)⟩
      · cases hm
    · cases hg
      refine con_byFresh fun ρ l K x hm => ?_
      split at hm
      · obtain ⟨c1, h1, hm⟩ := Option.bind_eq_some_iff.1 hm
        obtain ⟨c2, h2, hm⟩ := Option.bind_eq_some_iff.1 hm
        obtain ⟨r, hr, hm⟩ := Option.bind_eq_some_iff.1 hm
        exact ⟨_, hm, LawF.reads (.cons (.as h1) (.cons (.as h2) .nil)) (spec_AddWait_law k c1 c2 r hr)⟩
      · cases hm
    · cases hg
      refine con_byVal fun ρ l K x hm => ?_
      split at hm
      · obtain ⟨c1, h1, hm⟩ := Option.bind_eq_some_iff.1 hm
        obtain ⟨c2, h2, hm⟩ := Option.bind_eq_some_iff.1 hm
        obtain ⟨r, hr, hm⟩ := Option.bind_eq_some_iff.1 hm
        exact ⟨_, hm, LawV.reads (.cons (.as h1) (.cons (.as h2) .nil)) (laws_sameWaits_law k c1 c2 r hr)⟩
      · cases hm
    · cases hg
      refine con_byVal fun ρ l K x hm => ?_
      split at hm
      · obtain ⟨c1, h1, hm⟩ := Option.bind_eq_some_iff.1 hm
        obtain ⟨r, hr, hm⟩ := Option.bind_eq_some_iff.1 hm
        exact ⟨_, hm, LawV.reads (.cons (.as h1) .nil) (spec_DrawFirstWait_law k c1 r hr)⟩
      · cases hm
    · cases hg
      refine con_byVal fun ρ l K x hm => ?_
      split at hm
      · obtain ⟨c1, h1, hm⟩ := Option.bind_eq_some_iff.1 hm
        obtain ⟨c2, h2, hm⟩ := Option.bind_eq_some_iff.1 hm
        obtain ⟨r, hr, hm⟩ := Option.bind_eq_some_iff.1 hm
        exact ⟨_, hm, LawV.reads (.cons (.as h1) (.cons (.as h2) .nil)) (impl_FirstWait_law k c1 c2 r hr)⟩
      · cases hm
    · cases hg
      refine con_byVal fun ρ l K x hm => ?_
      split at hm
      · obtain ⟨c1, h1, hm⟩ := Option.bind_eq_some_iff.1 hm
        obtain ⟨c2, h2, hm⟩ := Option.bind_eq_some_iff.1 hm
        obtain ⟨r, hr, hm⟩ := Option.bind_eq_some_iff.1 hm
        exact ⟨_, hm, LawV.reads (.cons (.as h1) (.cons (.as h2) .nil)) (impl_Live_law k c1 c2 r hr)⟩
      · cases hm
    · cases hg
      refine con_byVal fun ρ l K x hm => ?_
      split at hm
      · obtain ⟨c1, h1, hm⟩ := Option.bind_eq_some_iff.1 hm
        obtain ⟨r, hr, hm⟩ := Option.bind_eq_some_iff.1 hm
        exact ⟨_, hm, LawV.reads (.cons (.as h1) .nil) (spec_DrawChanOk_law k c1 r hr)⟩
      · cases hm
    · cases hg
      refine con_byVal fun ρ l K x hm => ?_
      split at hm
      · obtain ⟨c1, h1, hm⟩ := Option.bind_eq_some_iff.1 hm
        obtain ⟨c2, h2, hm⟩ := Option.bind_eq_some_iff.1 hm
        obtain ⟨r, hr, hm⟩ := Option.bind_eq_some_iff.1 hm
        exact ⟨_, hm, LawV.reads (.cons (.as h1) (.cons (.as h2) .nil)) (spec_FirstWait_law k c1 c2 r hr)⟩
      · cases hm
    · cases hg
      refine con_byVal fun ρ l K x hm => ?_
      split at hm
      · obtain ⟨c1, h1, hm⟩ := Option.bind_eq_some_iff.1 hm
        obtain ⟨c2, h2, hm⟩ := Option.bind_eq_some_iff.1 hm
        obtain ⟨r, hr, hm⟩ := Option.bind_eq_some_iff.1 hm
        exact ⟨_, hm, LawV.reads (.cons (.as h1) (.cons (.as h2) .nil)) (spec_Live_law k c1 c2 r hr)⟩
      · cases hm
    · cases hg
      refine con_byVal fun ρ l K x hm => ?_
      split at hm
      · obtain ⟨c1, h1, hm⟩ := Option.bind_eq_some_iff.1 hm
        obtain ⟨r, hr, hm⟩ := Option.bind_eq_some_iff.1 hm
        exact ⟨_, hm, LawV.reads (.cons (.as h1) .nil) (impl_ChanOk_law k c1 r hr)⟩
      · cases hm
    · cases hg
      refine con_byVal fun ρ l K x hm => ?_
      split at hm
      · obtain ⟨c1, h1, hm⟩ := Option.bind_eq_some_iff.1 hm
        obtain ⟨r, hr, hm⟩ := Option.bind_eq_some_iff.1 hm
        exact ⟨_, hm, LawV.reads (.cons (.as h1) .nil) (spec_ChanOk_law k c1 r hr)⟩
      · cases hm
    · cases hg; exact noCon_ok
    · cases hg
  · intro g hg r
    by_cases h : g = 5
    · subst h; simp [E_laws_FnWaits] at hg
    · simp [E_laws_FnWaits, h]
theorem f5_oklaws_FnWaits : Try.prog.funcs[5]? = some Try.f5 := by kernel_rfl
theorem laws_FnWaits_law (k : Nat) (a1 : List Int) (x : Bool) (h : laws_FnWaits k a1 = some x) : LawV Try.prog 5 [.tv (.row (.int .u8)) a1] (tvn .bool x) := by
  unfold laws_FnWaits at h
  exact law1 (t := .bool) (tyTOk _ _) (E_laws_FnWaits_calls k) mixOk f5_oklaws_FnWaits (nameOk _ _ f5_oklaws_FnWaits) (by kernel_rfl) h
end Go.Proofs.Yteojdaobpjhddaa.XFnWaits
