/- Functions of the program as runs of the interpreter: equations, and a law for each. -/
import Derived.Test.YtampamlgkfhliaaProg
import Derived.Test.YtampamlgkfhliaaChecked
import Derived.KernelRfl
import Derived.Eval
import Derived.Test.YtampamlgkfhliaaATyOk
import Derived.Test.YtampamlgkfhliaaAS40
import Derived.Test.YtampamlgkfhliaaAS41
import Derived.Test.YtampamlgkfhliaaAShelf
import Derived.Lib.RowBridge
import Derived.Test.YtampamlgkfhliaaAMFnExactNext0
import Derived.Test.YtampamlgkfhliaaAMFnExactNext1
open Go Go.AM Go.AMx Go.Proofs
namespace Go.Proofs.Ytampamlgkfhliaa.XFnExactNext
set_option linter.unusedVariables false
set_option linter.unusedSimpArgs false
/-! impl.UnitOk -/
noncomputable def E_impl_UnitOk (k : Nat) : Env := ⟨ty, fun g => match g with
  | 55 => some (byVal fun ρ l K => match l with
    | [b1, b2, b3] => (b1.as (.int .i64)).bind fun c1 => (b2.as (.int .i64)).bind fun c2 => (b3.as (.int .i64)).bind fun c3 => (impl_within k c1 c2 c3).bind fun r => K (tvn .bool r)
    | _ => none)
  | 103 => some (byVal fun ρ l K => match l with
    | [b1, b2] => (b1.as (.pair (.int .i64) (.pair (.int .i64) (.pair (.int .i64) (.pair (.int .i64) (.pair (.int .i64) (.pair .str (.pair (.row (.int .i64)) .unit)))))))).bind fun c1 => (b2.as (.int .i64)).bind fun c2 => (impl_tacOk k c1 c2).bind fun r => K (tvn .bool r)
    | _ => none)
  | 104 => some (byVal fun ρ l K => match l with
    | [b1, b2] => (b1.as (.row (.pair (.int .i64) (.pair (.int .i64) (.pair (.int .i64) (.pair (.int .i64) (.pair (.int .i64) (.pair .str (.pair (.row (.int .i64)) .unit))))))))).bind fun c1 => (b2.as (.int .i64)).bind fun c2 => (impl_labelAt k c1 c2).bind fun r => K (tvn (.int .i64) r)
    | _ => none)
  | 74 => some (byVal fun ρ l K => match l with
    | [b1] => (b1.as (.int .i64)).bind fun c1 => (impl_ends k c1).bind fun r => K (tvn .bool r)
    | _ => none)
  | 54 => some noCon
  | _ => none, fun f r => match f with | 54 => (match r with | 3 => some [1] | 4 => some [1, 26, 27, 28] | _ => none) | _ => none⟩
noncomputable def impl_UnitOk (k : Nat) (a1 : ByteArray × Int × Int × (List (Int × Int × Int × Int × Int × ByteArray × (List Int) × Unit)) × Unit) : Option (Bool) :=
  abody (E_impl_UnitOk k) (arun Try.prog (E_impl_UnitOk k) k) k 54 Try.f54 [.tv (.pair .str (.pair (.int .i64) (.pair (.int .i64) (.pair (.row (.pair (.int .i64) (.pair (.int .i64) (.pair (.int .i64) (.pair (.int .i64) (.pair (.int .i64) (.pair .str (.pair (.row (.int .i64)) .unit)))))))) .unit)))) a1] [] (fin1 .bool)
noncomputable def impl_UnitOk.j3 (k : Nat) (y0_0 : ByteArray × Int × Int × (List (Int × Int × Int × Int × Int × ByteArray × (List Int) × Unit)) × Unit) : Option (Bool) :=
  resume (E_impl_UnitOk k) 54 (acall (E_impl_UnitOk k) (arun Try.prog (E_impl_UnitOk k) k)) k [true, true] [] (bodyOf Try.f54) ⟨[.undef, .ptr 0 0 0, .undef, .undef, .undef, .undef, .undef, .undef, .undef, .undef, .undef, .undef, .undef, .undef, .undef, .undef, .undef, .undef, .undef, .undef, .undef, .undef, .undef, .undef, .undef, .undef, .undef, .undef, .undef, .undef, .undef, .undef, .undef, .undef, .undef, .undef, .undef, .undef, .undef, .undef, .undef, .undef, .undef, .undef, .undef, .undef, .undef, .undef, .undef, .undef, .undef, .undef, .undef, .undef, .undef, .undef, .undef, .undef, .undef, .undef, .undef, .undef, .undef, .undef, .undef, .undef, .undef, .undef, .undef, .undef, .undef, .undef, .undef, .undef, .undef, .undef, .undef, .undef, .undef, .undef, .undef, .undef, .undef, .undef, .undef, .undef], [some ⟨.raw true 4 (.agg [.str ByteArray.empty, .int .i64 0, .int .i64 0, .nils]) [.tv (.pair .str (.pair (.int .i64) (.pair (.int .i64) (.pair (.row (.pair (.int .i64) (.pair (.int .i64) (.pair (.int .i64) (.pair (.int .i64) (.pair (.int .i64) (.pair .str (.pair (.row (.int .i64)) .unit)))))))) .unit)))) y0_0], true⟩]⟩ (leave (E_impl_UnitOk k) Try.f54 (fin1 .bool))
noncomputable def impl_UnitOk.l4 (k n : Nat) (x26 : List (Int × Int × Int × Int × Int × ByteArray × (List Int) × Unit)) (x27 : Int) (x28 : Int) (y0_0 : ByteArray × Int × Int × (List (Int × Int × Int × Int × Int × ByteArray × (List Int) × Unit)) × Unit) : Option (Bool) :=
  resume (E_impl_UnitOk k) 54 (acall (E_impl_UnitOk k) (arun Try.prog (E_impl_UnitOk k) k)) k [true, true, false, true, true] [n] (bodyOf Try.f54) ⟨[.undef, .ptr 0 0 0, .undef, .undef, .undef, .undef, .undef, .undef, .undef, .undef, .undef, .undef, .undef, .undef, .undef, .undef, .undef, .undef, .undef, .undef, .undef, .undef, .undef, .undef, .undef, .undef, .tv (.row (.pair (.int .i64) (.pair (.int .i64) (.pair (.int .i64) (.pair (.int .i64) (.pair (.int .i64) (.pair .str (.pair (.row (.int .i64)) .unit)))))))) x26, .int .i64 x27, .int .i64 x28, .undef, .undef, .undef, .undef, .undef, .undef, .undef, .undef, .undef, .undef, .undef, .undef, .undef, .undef, .undef, .undef, .undef, .undef, .undef, .undef, .undef, .undef, .undef, .undef, .undef, .undef, .undef, .undef, .undef, .undef, .undef, .undef, .undef, .undef, .undef, .undef, .undef, .undef, .undef, .undef, .undef, .undef, .undef, .undef, .undef, .undef, .undef, .undef, .undef, .undef, .undef, .undef, .undef, .undef, .undef, .undef, .undef], [some ⟨.raw true 4 (.agg [.str ByteArray.empty, .int .i64 0, .int .i64 0, .nils]) [.tv (.pair .str (.pair (.int .i64) (.pair (.int .i64) (.pair (.row (.pair (.int .i64) (.pair (.int .i64) (.pair (.int .i64) (.pair (.int .i64) (.pair (.int .i64) (.pair .str (.pair (.row (.int .i64)) .unit)))))))) .unit)))) y0_0], true⟩]⟩ (leave (E_impl_UnitOk k) Try.f54 (fin1 .bool))
theorem impl_UnitOk.j3_e (k : Nat) (y0_0 : ByteArray × Int × Int × (List (Int × Int × Int × Int × Int × ByteArray × (List Int) × Unit)) × Unit) : impl_UnitOk.j3 k y0_0 =
  impl_UnitOk.l4 k k y0_0.2.2.2.1 ((List.length y0_0.2.2.2.1) : Int) 0 y0_0 := by kernel_rfl
theorem impl_UnitOk.l4_0 (k : Nat) (x26 : List (Int × Int × Int × Int × Int × ByteArray × (List Int) × Unit)) (x27 : Int) (x28 : Int) (y0_0 : ByteArray × Int × Int × (List (Int × Int × Int × Int × Int × ByteArray × (List Int) × Unit)) × Unit) : impl_UnitOk.l4 k 0 x26 x27 x28 y0_0 = none := by kernel_rfl
theorem impl_UnitOk.l4_s (k n : Nat) (x26 : List (Int × Int × Int × Int × Int × ByteArray × (List Int) × Unit)) (x27 : Int) (x28 : Int) (y0_0 : ByteArray × Int × Int × (List (Int × Int × Int × Int × Int × ByteArray × (List Int) × Unit)) × Unit) : impl_UnitOk.l4 k (n + 1) x26 x27 x28 y0_0 =
  iteB (decide (x28 < x27)) (iteB (decide (0 ≤ x28)) (iteB (decide (x28 < ((List.length x26) : Int))) (bindO (impl_tacOk k (List.getD x26 (Int.toNat x28) (Ty.dflt (.pair (.int .i64) (.pair (.int .i64) (.pair (.int .i64) (.pair (.int .i64) (.pair (.int .i64) (.pair .str (.pair (.row (.int .i64)) .unit))))))))) y0_0.2.2.1) fun r4 => (iteB (!r4) (some false) (iteB (((List.getD x26 (Int.toNat x28) (Ty.dflt (.pair (.int .i64) (.pair (.int .i64) (.pair (.int .i64) (.pair (.int .i64) (.pair (.int .i64) (.pair .str (.pair (.row (.int .i64)) .unit))))))))).1) == 8) (bindO (impl_within k ((((((List.getD x26 (Int.toNat x28) (Ty.dflt (.pair (.int .i64) (.pair (.int .i64) (.pair (.int .i64) (.pair (.int .i64) (.pair (.int .i64) (.pair .str (.pair (.row (.int .i64)) .unit))))))))).2).2).2).2).1) 0 900) fun r5 => (iteB (!(!r5)) (bindO (impl_labelAt k y0_0.2.2.2.1 ((((((List.getD x26 (Int.toNat x28) (Ty.dflt (.pair (.int .i64) (.pair (.int .i64) (.pair (.int .i64) (.pair (.int .i64) (.pair (.int .i64) (.pair .str (.pair (.row (.int .i64)) .unit))))))))).2).2).2).2).1)) fun r6 => (iteB (r6 != x28) (some false) (iteB (!(((List.getD x26 (Int.toNat x28) (Ty.dflt (.pair (.int .i64) (.pair (.int .i64) (.pair (.int .i64) (.pair (.int .i64) (.pair (.int .i64) (.pair .str (.pair (.row (.int .i64)) .unit))))))))).1) == 9)) (iteB (((List.getD x26 (Int.toNat x28) (Ty.dflt (.pair (.int .i64) (.pair (.int .i64) (.pair (.int .i64) (.pair (.int .i64) (.pair (.int .i64) (.pair .str (.pair (.row (.int .i64)) .unit))))))))).1) == 10) (bindO (impl_labelAt k y0_0.2.2.2.1 ((((((List.getD x26 (Int.toNat x28) (Ty.dflt (.pair (.int .i64) (.pair (.int .i64) (.pair (.int .i64) (.pair (.int .i64) (.pair (.int .i64) (.pair .str (.pair (.row (.int .i64)) .unit))))))))).2).2).2).2).1)) fun r7 => (iteB (decide (r7 < 0)) (some false) (impl_UnitOk.l4 k n x26 x27 (IntKind.wrap .i64 (x28 + 1)) y0_0))) (impl_UnitOk.l4 k n x26 x27 (IntKind.wrap .i64 (x28 + 1)) y0_0)) (bindO (impl_labelAt k y0_0.2.2.2.1 ((((((List.getD x26 (Int.toNat x28) (Ty.dflt (.pair (.int .i64) (.pair (.int .i64) (.pair (.int .i64) (.pair (.int .i64) (.pair (.int .i64) (.pair .str (.pair (.row (.int .i64)) .unit))))))))).2).2).2).2).1)) fun r8 => (iteB (decide (r8 < 0)) (some false) (impl_UnitOk.l4 k n x26 x27 (IntKind.wrap .i64 (x28 + 1)) y0_0)))))) (some false))) (iteB (!(((List.getD x26 (Int.toNat x28) (Ty.dflt (.pair (.int .i64) (.pair (.int .i64) (.pair (.int .i64) (.pair (.int .i64) (.pair (.int .i64) (.pair .str (.pair (.row (.int .i64)) .unit))))))))).1) == 9)) (iteB (((List.getD x26 (Int.toNat x28) (Ty.dflt (.pair (.int .i64) (.pair (.int .i64) (.pair (.int .i64) (.pair (.int .i64) (.pair (.int .i64) (.pair .str (.pair (.row (.int .i64)) .unit))))))))).1) == 10) (bindO (impl_labelAt k y0_0.2.2.2.1 ((((((List.getD x26 (Int.toNat x28) (Ty.dflt (.pair (.int .i64) (.pair (.int .i64) (.pair (.int .i64) (.pair (.int .i64) (.pair (.int .i64) (.pair .str (.pair (.row (.int .i64)) .unit))))))))).2).2).2).2).1)) fun r9 => (iteB (decide (r9 < 0)) (some false) (impl_UnitOk.l4 k n x26 x27 (IntKind.wrap .i64 (x28 + 1)) y0_0))) (impl_UnitOk.l4 k n x26 x27 (IntKind.wrap .i64 (x28 + 1)) y0_0)) (bindO (impl_labelAt k y0_0.2.2.2.1 ((((((List.getD x26 (Int.toNat x28) (Ty.dflt (.pair (.int .i64) (.pair (.int .i64) (.pair (.int .i64) (.pair (.int .i64) (.pair (.int .i64) (.pair .str (.pair (.row (.int .i64)) .unit))))))))).2).2).2).2).1)) fun r10 => (iteB (decide (r10 < 0)) (some false) (impl_UnitOk.l4 k n x26 x27 (IntKind.wrap .i64 (x28 + 1)) y0_0))))))) (none)) (none)) (iteB (decide (0 ≤ IntKind.wrap .i64 (((List.length y0_0.2.2.2.1) : Int) - 1))) (iteB (decide (IntKind.wrap .i64 (((List.length y0_0.2.2.2.1) : Int) - 1) < ((List.length y0_0.2.2.2.1) : Int))) (bindO (impl_ends k ((List.getD y0_0.2.2.2.1 (Int.toNat (IntKind.wrap .i64 (((List.length y0_0.2.2.2.1) : Int) - 1))) (Ty.dflt (.pair (.int .i64) (.pair (.int .i64) (.pair (.int .i64) (.pair (.int .i64) (.pair (.int .i64) (.pair .str (.pair (.row (.int .i64)) .unit))))))))).1)) fun r11 => (some r11)) (none)) (none)) := by kernel_rfl
theorem impl_UnitOk_e (k : Nat) (a1 : ByteArray × Int × Int × (List (Int × Int × Int × Int × Int × ByteArray × (List Int) × Unit)) × Unit) : impl_UnitOk k a1 =
  bindO (impl_within k a1.2.2.1 0 250) fun r1 => (iteB (!(!r1)) (bindO (impl_within k a1.2.1 0 (mn 4 a1.2.2.1)) fun r2 => (iteB (!(!r2)) (bindO (impl_within k ((List.length a1.2.2.2.1) : Int) 1 900) fun r3 => (iteB (!r3) (some false) (gate k (impl_UnitOk.j3 k a1)))) (some false))) (some false)) := by kernel_rfl
theorem E_impl_UnitOk_calls (k : Nat) : CallsOk Try.prog (E_impl_UnitOk k) (arun Try.prog (E_impl_UnitOk k) k) := by
  refine told_run (tyTOk _ _) ?_ (fun run h => regOk (tyTOk _ _) mixOk h) ?_ nameOk k
  · intro g m hg
    simp only [E_impl_UnitOk] at hg
    split at hg
    · cases hg
      refine con_byVal fun ρ l K x hm => ?_
      split at hm
      · obtain ⟨c1, h1, hm⟩ := Option.bind_eq_some_iff.1 hm
        obtain ⟨c2, h2, hm⟩ := Option.bind_eq_some_iff.1 hm
        obtain ⟨c3, h3, hm⟩ := Option.bind_eq_some_iff.1 hm
        obtain ⟨r, hr, hm⟩ := Option.bind_eq_some_iff.1 hm
        exact ⟨_, hm, LawV.reads (.cons (.as h1) (.cons (.as h2) (.cons (.as h3) .nil))) (impl_within_law k c1 c2 c3 r hr)⟩
      · cases hm
    · cases hg
      refine con_byVal fun ρ l K x hm => ?_
      split at hm
      · obtain ⟨c1, h1, hm⟩ := Option.bind_eq_some_iff.1 hm
        obtain ⟨c2, h2, hm⟩ := Option.bind_eq_some_iff.1 hm
        obtain ⟨r, hr, hm⟩ := Option.bind_eq_some_iff.1 hm
        exact ⟨_, hm, LawV.reads (.cons (.as h1) (.cons (.as h2) .nil)) (impl_tacOk_law k c1 c2 r hr)⟩
      · cases hm
    · cases hg
      refine con_byVal fun ρ l K x hm => ?_
      split at hm
      · obtain ⟨c1, h1, hm⟩ := Option.bind_eq_some_iff.1 hm
        obtain ⟨c2, h2, hm⟩ := Option.bind_eq_some_iff.1 hm
        obtain ⟨r, hr, hm⟩ := Option.bind_eq_some_iff.1 hm
        exact ⟨_, hm, LawV.reads (.cons (.as h1) (.cons (.as h2) .nil)) (impl_labelAt_law k c1 c2 r hr)⟩
      · cases hm
    · cases hg
      refine con_byVal fun ρ l K x hm => ?_
      split at hm
      · obtain ⟨c1, h1, hm⟩ := Option.bind_eq_some_iff.1 hm
        obtain ⟨r, hr, hm⟩ := Option.bind_eq_some_iff.1 hm
        exact ⟨_, hm, LawV.reads (.cons (.as h1) .nil) (impl_ends_law k c1 r hr)⟩
      · cases hm
    · cases hg; exact noCon_ok
    · cases hg
  · intro g hg r
    by_cases h : g = 54
    · subst h; simp [E_impl_UnitOk] at hg
    · simp [E_impl_UnitOk, h]
theorem f54_okimpl_UnitOk : Try.prog.funcs[54]? = some Try.f54 := by kernel_rfl
theorem impl_UnitOk_law (k : Nat) (a1 : ByteArray × Int × Int × (List (Int × Int × Int × Int × Int × ByteArray × (List Int) × Unit)) × Unit) (x : Bool) (h : impl_UnitOk k a1 = some x) : LawV Try.prog 54 [.tv (.pair .str (.pair (.int .i64) (.pair (.int .i64) (.pair (.row (.pair (.int .i64) (.pair (.int .i64) (.pair (.int .i64) (.pair (.int .i64) (.pair (.int .i64) (.pair .str (.pair (.row (.int .i64)) .unit)))))))) .unit)))) a1] (tvn .bool x) := by
  unfold impl_UnitOk at h
  exact law1 (t := .bool) (tyTOk _ _) (E_impl_UnitOk_calls k) mixOk f54_okimpl_UnitOk (nameOk _ _ f54_okimpl_UnitOk) (by kernel_rfl) h
/-! slices.Sort[[]int,int] -/
noncomputable def slices_Sort_int (k : Nat) (a1 : List Int) : Option (Unit × List Int) := bif decide (List.length a1 < 4611686018427387904) then some (((), List.mergeSort a1 fun x y => decide (x ≤ y))) else none
theorem slices_Sort_int_e (k : Nat) (a1 : List Int) : slices_Sort_int k a1 = iteB (decide (List.length a1 < 4611686018427387904)) (some (((), List.mergeSort a1 fun x y => decide (x ≤ y)))) none := by unfold slices_Sort_int; cases decide (List.length a1 < 4611686018427387904) <;> rfl
theorem f105_okslices_Sort_int : Try.prog.funcs[105]? = some Try.f105 := by kernel_rfl
theorem slices_Sort_int_law (k : Nat) (a1 : List Int) (x : Unit × List Int) (h : slices_Sort_int k a1 = some x) : LawM Try.prog 105 [] (.int .i64) a1 (tvM .unit x.1) x.2 := by
  unfold slices_Sort_int at h
  cases hb : decide (List.length a1 < 4611686018427387904) with
  | false => rw [hb] at h; cases h
  | true => rw [hb] at h; cases h; exact law_sort ⟨_, f105_okslices_Sort_int, nameOk _ _ f105_okslices_Sort_int, by kernel_rfl⟩ (fun blk off cap zs w h1 h2 h3 => Try.slices_Sort_int blk off cap zs w h1 h2 h3) (fun p cap w => Try.slices_Sort_int_none p cap w) a1 (of_decide_eq_true hb)
/-! slices.Compact[[]int,int] -/
noncomputable def slices_Compact_int (k : Nat) (a1 : List Int) : Option (Nat × List Int) := bif decide (List.length a1 ≤ 9223372036854775807) then some (((Lib.compact a1).length, Lib.compact a1 ++ List.replicate (List.length a1 - (Lib.compact a1).length) 0)) else none
theorem slices_Compact_int_e (k : Nat) (a1 : List Int) : slices_Compact_int k a1 = iteB (decide (List.length a1 ≤ 9223372036854775807)) (some (((Lib.compact a1).length, Lib.compact a1 ++ List.replicate (List.length a1 - (Lib.compact a1).length) 0))) none := by unfold slices_Compact_int; cases decide (List.length a1 ≤ 9223372036854775807) <;> rfl
theorem f106_okslices_Compact_int : Try.prog.funcs[106]? = some Try.f106 := by kernel_rfl
theorem slices_Compact_int_law (k : Nat) (a1 : List Int) (x : Nat × List Int) (h : slices_Compact_int k a1 = some x) : LawMp Try.prog 106 (.int .i64) a1 x.1 x.2 := by
  unfold slices_Compact_int at h
  cases hb : decide (List.length a1 ≤ 9223372036854775807) with
  | false => rw [hb] at h; cases h
  | true => rw [hb] at h; cases h; exact law_compact (cmp := Lib.compact) ⟨_, f106_okslices_Compact_int, nameOk _ _ f106_okslices_Compact_int, by kernel_rfl⟩ Lib.compact_length_le (fun blk off cap zs w h1 h2 h3 => Try.slices_Compact_int blk off cap zs w h1 h2 h3) (fun p cap w => Try.slices_Compact_int_empty p cap w) a1 (of_decide_eq_true hb)
/-! impl.next -/
noncomputable def E_impl_next (k : Nat) : Env := ⟨ty, fun g => match g with
  | 105 => some (byMut (.int .i64) fun ρ l xs K => match l with
    | [] => (slices_Sort_int k xs ).bind fun r => K (tvM .unit r.1) r.2
    | _ => none)
  | 106 => some (byMutP (.int .i64) fun ρ xs K => (slices_Compact_int k xs).bind fun r => K r.1 r.2)
  | 104 => some (byVal fun ρ l K => match l with
    | [b1, b2] => (b1.as (.row (.pair (.int .i64) (.pair (.int .i64) (.pair (.int .i64) (.pair (.int .i64) (.pair (.int .i64) (.pair .str (.pair (.row (.int .i64)) .unit))))))))).bind fun c1 => (b2.as (.int .i64)).bind fun c2 => (impl_labelAt k c1 c2).bind fun r => K (tvn (.int .i64) r)
    | _ => none)
  | _ => none, fun _ _ => none⟩
noncomputable def impl_next (k : Nat) (a1 : List (Int × Int × Int × Int × Int × ByteArray × (List Int) × Unit)) (a2 : Int) : Option (List Int) :=
  abody (E_impl_next k) (arun Try.prog (E_impl_next k) k) k 56 Try.f56 [.tv (.row (.pair (.int .i64) (.pair (.int .i64) (.pair (.int .i64) (.pair (.int .i64) (.pair (.int .i64) (.pair .str (.pair (.row (.int .i64)) .unit)))))))) a1, .int .i64 a2] [] (finF (.int .i64))
theorem impl_next_e (k : Nat) (a1 : List (Int × Int × Int × Int × Int × ByteArray × (List Int) × Unit)) (a2 : Int) : impl_next k a1 a2 =
  iteB (decide (0 ≤ a2)) (iteB (decide (a2 < ((List.length a1) : Int))) (iteB (((List.getD a1 (Int.toNat a2) (Ty.dflt (.pair (.int .i64) (.pair (.int .i64) (.pair (.int .i64) (.pair (.int .i64) (.pair (.int .i64) (.pair .str (.pair (.row (.int .i64)) .unit))))))))).1) == 12) (bindO (slices_Sort_int k []) fun r1 => (bindO (slices_Compact_int k r1.2) fun r2 => (some (List.take r2.1 (List.drop 0 r2.2))))) (iteB (((List.getD a1 (Int.toNat a2) (Ty.dflt (.pair (.int .i64) (.pair (.int .i64) (.pair (.int .i64) (.pair (.int .i64) (.pair (.int .i64) (.pair .str (.pair (.row (.int .i64)) .unit))))))))).1) == 28) (bindO (slices_Sort_int k []) fun r3 => (bindO (slices_Compact_int k r3.2) fun r4 => (some (List.take r4.1 (List.drop 0 r4.2))))) (iteB (((List.getD a1 (Int.toNat a2) (Ty.dflt (.pair (.int .i64) (.pair (.int .i64) (.pair (.int .i64) (.pair (.int .i64) (.pair (.int .i64) (.pair .str (.pair (.row (.int .i64)) .unit))))))))).1) == 9) (bindO (impl_labelAt k a1 ((((((List.getD a1 (Int.toNat a2) (Ty.dflt (.pair (.int .i64) (.pair (.int .i64) (.pair (.int .i64) (.pair (.int .i64) (.pair (.int .i64) (.pair .str (.pair (.row (.int .i64)) .unit))))))))).2).2).2).2).1)) fun r5 => (iteB (decide ((List.length ([] ++ [r5])) * 8 ≤ lim)) (bindO (slices_Sort_int k ([] ++ [r5])) fun r6 => (bindO (slices_Compact_int k r6.2) fun r7 => (some (List.take r7.1 (List.drop 0 r7.2))))) (none))) (iteB (((List.getD a1 (Int.toNat a2) (Ty.dflt (.pair (.int .i64) (.pair (.int .i64) (.pair (.int .i64) (.pair (.int .i64) (.pair (.int .i64) (.pair .str (.pair (.row (.int .i64)) .unit))))))))).1) == 10) (bindO (impl_labelAt k a1 ((((((List.getD a1 (Int.toNat a2) (Ty.dflt (.pair (.int .i64) (.pair (.int .i64) (.pair (.int .i64) (.pair (.int .i64) (.pair (.int .i64) (.pair .str (.pair (.row (.int .i64)) .unit))))))))).2).2).2).2).1)) fun r8 => (iteB (decide ((List.length ([] ++ [IntKind.wrap .i64 (a2 + 1), r8])) * 8 ≤ lim)) (bindO (slices_Sort_int k ([] ++ [IntKind.wrap .i64 (a2 + 1), r8])) fun r9 => (bindO (slices_Compact_int k r9.2) fun r10 => (some (List.take r10.1 (List.drop 0 r10.2))))) (none))) (iteB (decide ((List.length ([] ++ [IntKind.wrap .i64 (a2 + 1)])) * 8 ≤ lim)) (bindO (slices_Sort_int k ([] ++ [IntKind.wrap .i64 (a2 + 1)])) fun r11 => (bindO (slices_Compact_int k r11.2) fun r12 => (some (List.take r12.1 (List.drop 0 r12.2))))) (none)))))) (none)) (none) := by kernel_rfl
theorem E_impl_next_calls (k : Nat) : CallsOk Try.prog (E_impl_next k) (arun Try.prog (E_impl_next k) k) := by
  refine told_run (tyTOk _ _) ?_ (fun run h => regOk (tyTOk _ _) mixOk h) ?_ nameOk k
  · intro g m hg
    simp only [E_impl_next] at hg
    split at hg
    · cases hg
      refine con_byMut fun ρ l xs K x hm => ?_
      split at hm
      · obtain ⟨r, hr, hm⟩ := Option.bind_eq_some_iff.1 hm
        exact ⟨_, _, hm, LawM.reads .nil (slices_Sort_int_law k xs  r hr)⟩
      · cases hm
    · cases hg
      refine con_byMutP fun ρ xs K x hm => ?_
      obtain ⟨r, hr, hm⟩ := Option.bind_eq_some_iff.1 hm
      exact ⟨_, _, hm, slices_Compact_int_law k xs r hr⟩
    · cases hg
      refine con_byVal fun ρ l K x hm => ?_
      split at hm
      · obtain ⟨c1, h1, hm⟩ := Option.bind_eq_some_iff.1 hm
        obtain ⟨c2, h2, hm⟩ := Option.bind_eq_some_iff.1 hm
        obtain ⟨r, hr, hm⟩ := Option.bind_eq_some_iff.1 hm
        exact ⟨_, hm, LawV.reads (.cons (.as h1) (.cons (.as h2) .nil)) (impl_labelAt_law k c1 c2 r hr)⟩
      · cases hm
    · cases hg
  · intro g _ r; rfl
theorem f56_okimpl_next : Try.prog.funcs[56]? = some Try.f56 := by kernel_rfl
theorem impl_next_law (k : Nat) (a1 : List (Int × Int × Int × Int × Int × ByteArray × (List Int) × Unit)) (a2 : Int) (x : List Int) (h : impl_next k a1 a2 = some x) : LawF Try.prog 56 [.tv (.row (.pair (.int .i64) (.pair (.int .i64) (.pair (.int .i64) (.pair (.int .i64) (.pair (.int .i64) (.pair .str (.pair (.row (.int .i64)) .unit)))))))) a1, .int .i64 a2] (.int .i64) x := by
  unfold impl_next at h
  exact lawF (e := (.int .i64)) (tyTOk _ _) (E_impl_next_calls k) mixOk f56_okimpl_next (nameOk _ _ f56_okimpl_next) (by kernel_rfl) h
/-! impl.Next -/
noncomputable def E_impl_Next (k : Nat) : Env := ⟨ty, fun g => match g with
  | 54 => some (byVal fun ρ l K => match l with
    | [b1] => (b1.as (.pair .str (.pair (.int .i64) (.pair (.int .i64) (.pair (.row (.pair (.int .i64) (.pair (.int .i64) (.pair (.int .i64) (.pair (.int .i64) (.pair (.int .i64) (.pair .str (.pair (.row (.int .i64)) .unit)))))))) .unit))))).bind fun c1 => (impl_UnitOk k c1).bind fun r => K (tvn .bool r)
    | _ => none)
  | 55 => some (byVal fun ρ l K => match l with
    | [b1, b2, b3] => (b1.as (.int .i64)).bind fun c1 => (b2.as (.int .i64)).bind fun c2 => (b3.as (.int .i64)).bind fun c3 => (impl_within k c1 c2 c3).bind fun r => K (tvn .bool r)
    | _ => none)
  | 56 => some (byFresh (.int .i64) fun ρ l K => match l with
    | [b1, b2] => (b1.as (.row (.pair (.int .i64) (.pair (.int .i64) (.pair (.int .i64) (.pair (.int .i64) (.pair (.int .i64) (.pair .str (.pair (.row (.int .i64)) .unit))))))))).bind fun c1 => (b2.as (.int .i64)).bind fun c2 => (impl_next k c1 c2).bind fun r => K r
    | _ => none)
  | _ => none, fun _ _ => none⟩
noncomputable def impl_Next (k : Nat) (a1 : ByteArray × Int × Int × (List (Int × Int × Int × Int × Int × ByteArray × (List Int) × Unit)) × Unit) (a2 : Int) : Option (List Int) :=
  abody (E_impl_Next k) (arun Try.prog (E_impl_Next k) k) k 21 Try.f21 [.tv (.pair .str (.pair (.int .i64) (.pair (.int .i64) (.pair (.row (.pair (.int .i64) (.pair (.int .i64) (.pair (.int .i64) (.pair (.int .i64) (.pair (.int .i64) (.pair .str (.pair (.row (.int .i64)) .unit)))))))) .unit)))) a1, .int .i64 a2] [] (finF (.int .i64))
theorem impl_Next_e (k : Nat) (a1 : ByteArray × Int × Int × (List (Int × Int × Int × Int × Int × ByteArray × (List Int) × Unit)) × Unit) (a2 : Int) : impl_Next k a1 a2 =
  bindO (impl_UnitOk k a1) fun r1 => (iteB (!(!r1)) (bindO (impl_within k a2 0 (IntKind.wrap .i64 (((List.length a1.2.2.2.1) : Int) - 1))) fun r2 => (iteB (!r2) (some []) (bindO (impl_next k a1.2.2.2.1 a2) fun r3 => (some r3)))) (some [])) := by kernel_rfl
theorem E_impl_Next_calls (k : Nat) : CallsOk Try.prog (E_impl_Next k) (arun Try.prog (E_impl_Next k) k) := by
  refine told_run (tyTOk _ _) ?_ (fun run h => regOk (tyTOk _ _) mixOk h) ?_ nameOk k
  · intro g m hg
    simp only [E_impl_Next] at hg
    split at hg
    · cases hg
      refine con_byVal fun ρ l K x hm => ?_
      split at hm
      · obtain ⟨c1, h1, hm⟩ := Option.bind_eq_some_iff.1 hm
        obtain ⟨r, hr, hm⟩ := Option.bind_eq_some_iff.1 hm
        exact ⟨_, hm, LawV.reads (.cons (.as h1) .nil) (impl_UnitOk_law k c1 r hr)⟩
      · cases hm
    · cases hg
      refine con_byVal fun ρ l K x hm => ?_
      split at hm
      · obtain ⟨c1, h1, hm⟩ := Option.bind_eq_some_iff.1 hm
        obtain ⟨c2, h2, hm⟩ := Option.bind_eq_some_iff.1 hm
        obtain ⟨c3, h3, hm⟩ := Option.bind_eq_some_iff.1 hm
        obtain ⟨r, hr, hm⟩ := Option.bind_eq_some_iff.1 hm
        exact ⟨_, hm, LawV.reads (.cons (.as h1) (.cons (.as h2) (.cons (.as h3) .nil))) (impl_within_law k c1 c2 c3 r hr)⟩
      · cases hm
    · cases hg
      refine con_byFresh fun ρ l K x hm => ?_
      split at hm
      · obtain ⟨c1, h1, hm⟩ := Option.bind_eq_some_iff.1 hm
        obtain ⟨c2, h2, hm⟩ := Option.bind_eq_some_iff.1 hm
        obtain ⟨r, hr, hm⟩ := Option.bind_eq_some_iff.1 hm
        exact ⟨_, hm, LawF.reads (.cons (.as h1) (.cons (.as h2) .nil)) (impl_next_law k c1 c2 r hr)⟩
      · cases hm
    · cases hg
  · intro g _ r; rfl
theorem f21_okimpl_Next : Try.prog.funcs[21]? = some Try.f21 := by kernel_rfl
theorem impl_Next_law (k : Nat) (a1 : ByteArray × Int × Int × (List (Int × Int × Int × Int × Int × ByteArray × (List Int) × Unit)) × Unit) (a2 : Int) (x : List Int) (h : impl_Next k a1 a2 = some x) : LawF Try.prog 21 [.tv (.pair .str (.pair (.int .i64) (.pair (.int .i64) (.pair (.row (.pair (.int .i64) (.pair (.int .i64) (.pair (.int .i64) (.pair (.int .i64) (.pair (.int .i64) (.pair .str (.pair (.row (.int .i64)) .unit)))))))) .unit)))) a1, .int .i64 a2] (.int .i64) x := by
  unfold impl_Next at h
  exact lawF (e := (.int .i64)) (tyTOk _ _) (E_impl_Next_calls k) mixOk f21_okimpl_Next (nameOk _ _ f21_okimpl_Next) (by kernel_rfl) h
/-! laws.eqIntS -/
noncomputable def E_laws_eqIntS (k : Nat) : Env := ⟨ty, fun g => match g with
  | 13 => some noCon
  | _ => none, fun f r => match f with | 13 => (match r with | 4 => some [0, 1, 5] | _ => none) | _ => none⟩
noncomputable def laws_eqIntS (k : Nat) (a1 : List Int) (a2 : List Int) : Option (Bool) :=
  abody (E_laws_eqIntS k) (arun Try.prog (E_laws_eqIntS k) k) k 13 Try.f13 [.tv (.row (.int .i64)) a1, .tv (.row (.int .i64)) a2] [] (fin1 .bool)
noncomputable def laws_eqIntS.l4 (k n : Nat) (x0 : List Int) (x1 : List Int) (x5 : Int) : Option (Bool) :=
  resume (E_laws_eqIntS k) 13 (acall (E_laws_eqIntS k) (arun Try.prog (E_laws_eqIntS k) k)) k [true, true, false, true, true] [n] (bodyOf Try.f13) ⟨[.tv (.row (.int .i64)) x0, .tv (.row (.int .i64)) x1, .undef, .undef, .undef, .int .i64 x5, .undef, .undef, .undef, .undef, .undef, .undef, .undef, .undef, .undef, .undef, .undef, .undef, .undef, .undef, .undef, .undef, .undef, .undef, .undef, .undef], []⟩ (leave (E_laws_eqIntS k) Try.f13 (fin1 .bool))
theorem laws_eqIntS.l4_0 (k : Nat) (x0 : List Int) (x1 : List Int) (x5 : Int) : laws_eqIntS.l4 k 0 x0 x1 x5 = none := by kernel_rfl
theorem laws_eqIntS.l4_s (k n : Nat) (x0 : List Int) (x1 : List Int) (x5 : Int) : laws_eqIntS.l4 k (n + 1) x0 x1 x5 =
  iteB (decide (x5 < ((List.length x0) : Int))) (iteB (decide (0 ≤ x5)) (iteB (decide (x5 < ((List.length x0) : Int))) (iteB (decide (0 ≤ x5)) (iteB (decide (x5 < ((List.length x1) : Int))) (iteB ((List.getD x0 (Int.toNat x5) 0) != (List.getD x1 (Int.toNat x5) 0)) (some false) (laws_eqIntS.l4 k n x0 x1 (IntKind.wrap .i64 (x5 + 1)))) (none)) (none)) (none)) (none)) (some true) := by kernel_rfl
theorem laws_eqIntS_e (k : Nat) (a1 : List Int) (a2 : List Int) : laws_eqIntS k a1 a2 =
  iteB (((List.length a1) : Int) != ((List.length a2) : Int)) (some false) (laws_eqIntS.l4 k k a1 a2 0) := by kernel_rfl
theorem E_laws_eqIntS_calls (k : Nat) : CallsOk Try.prog (E_laws_eqIntS k) (arun Try.prog (E_laws_eqIntS k) k) := by
  refine told_run (tyTOk _ _) ?_ (fun run h => regOk (tyTOk _ _) mixOk h) ?_ nameOk k
  · intro g m hg
    simp only [E_laws_eqIntS] at hg
    split at hg
    · cases hg; exact noCon_ok
    · cases hg
  · intro g hg r
    by_cases h : g = 13
    · subst h; simp [E_laws_eqIntS] at hg
    · simp [E_laws_eqIntS, h]
theorem f13_oklaws_eqIntS : Try.prog.funcs[13]? = some Try.f13 := by kernel_rfl
theorem laws_eqIntS_law (k : Nat) (a1 : List Int) (a2 : List Int) (x : Bool) (h : laws_eqIntS k a1 a2 = some x) : LawV Try.prog 13 [.tv (.row (.int .i64)) a1, .tv (.row (.int .i64)) a2] (tvn .bool x) := by
  unfold laws_eqIntS at h
  exact law1 (t := .bool) (tyTOk _ _) (E_laws_eqIntS_calls k) mixOk f13_oklaws_eqIntS (nameOk _ _ f13_oklaws_eqIntS) (by kernel_rfl) h
/-! laws.eqTac -/
noncomputable def E_laws_eqTac (k : Nat) : Env := ⟨ty, fun g => match g with
  | 13 => some (byVal fun ρ l K => match l with
    | [b1, b2] => (b1.as (.row (.int .i64))).bind fun c1 => (b2.as (.row (.int .i64))).bind fun c2 => (laws_eqIntS k c1 c2).bind fun r => K (tvn .bool r)
    | _ => none)
  | _ => none, fun _ _ => none⟩
noncomputable def laws_eqTac (k : Nat) (a1 : Int × Int × Int × Int × Int × ByteArray × (List Int) × Unit) (a2 : Int × Int × Int × Int × Int × ByteArray × (List Int) × Unit) : Option (Bool) :=
  abody (E_laws_eqTac k) (arun Try.prog (E_laws_eqTac k) k) k 107 Try.f107 [.tv (.pair (.int .i64) (.pair (.int .i64) (.pair (.int .i64) (.pair (.int .i64) (.pair (.int .i64) (.pair .str (.pair (.row (.int .i64)) .unit))))))) a1, .tv (.pair (.int .i64) (.pair (.int .i64) (.pair (.int .i64) (.pair (.int .i64) (.pair (.int .i64) (.pair .str (.pair (.row (.int .i64)) .unit))))))) a2] [] (fin1 .bool)
theorem laws_eqTac_e (k : Nat) (a1 : Int × Int × Int × Int × Int × ByteArray × (List Int) × Unit) (a2 : Int × Int × Int × Int × Int × ByteArray × (List Int) × Unit) : laws_eqTac k a1 a2 =
  iteB (a1.1 != a2.1) (some false) (iteB (a1.2.1 != a2.2.1) (some false) (iteB (a1.2.2.1 != a2.2.2.1) (some false) (iteB (a1.2.2.2.1 != a2.2.2.2.1) (some false) (iteB (a1.2.2.2.2.1 != a2.2.2.2.2.1) (some false) (iteB (!(ByteArray.toList a1.2.2.2.2.2.1 == ByteArray.toList a2.2.2.2.2.2.1)) (some false) (bindO (laws_eqIntS k a1.2.2.2.2.2.2.1 a2.2.2.2.2.2.2.1) fun r1 => (iteB (!r1) (some false) (some true)))))))) := by kernel_rfl
theorem E_laws_eqTac_calls (k : Nat) : CallsOk Try.prog (E_laws_eqTac k) (arun Try.prog (E_laws_eqTac k) k) := by
  refine told_run (tyTOk _ _) ?_ (fun run h => regOk (tyTOk _ _) mixOk h) ?_ nameOk k
  · intro g m hg
    simp only [E_laws_eqTac] at hg
    split at hg
    · cases hg
      refine con_byVal fun ρ l K x hm => ?_
      split at hm
      · obtain ⟨c1, h1, hm⟩ := Option.bind_eq_some_iff.1 hm
        obtain ⟨c2, h2, hm⟩ := Option.bind_eq_some_iff.1 hm
        obtain ⟨r, hr, hm⟩ := Option.bind_eq_some_iff.1 hm
        exact ⟨_, hm, LawV.reads (.cons (.as h1) (.cons (.as h2) .nil)) (laws_eqIntS_law k c1 c2 r hr)⟩
      · cases hm
    · cases hg
  · intro g _ r; rfl
theorem f107_oklaws_eqTac : Try.prog.funcs[107]? = some Try.f107 := by kernel_rfl
theorem laws_eqTac_law (k : Nat) (a1 : Int × Int × Int × Int × Int × ByteArray × (List Int) × Unit) (a2 : Int × Int × Int × Int × Int × ByteArray × (List Int) × Unit) (x : Bool) (h : laws_eqTac k a1 a2 = some x) : LawV Try.prog 107 [.tv (.pair (.int .i64) (.pair (.int .i64) (.pair (.int .i64) (.pair (.int .i64) (.pair (.int .i64) (.pair .str (.pair (.row (.int .i64)) .unit))))))) a1, .tv (.pair (.int .i64) (.pair (.int .i64) (.pair (.int .i64) (.pair (.int .i64) (.pair (.int .i64) (.pair .str (.pair (.row (.int .i64)) .unit))))))) a2] (tvn .bool x) := by
  unfold laws_eqTac at h
  exact law1 (t := .bool) (tyTOk _ _) (E_laws_eqTac_calls k) mixOk f107_oklaws_eqTac (nameOk _ _ f107_oklaws_eqTac) (by kernel_rfl) h
/-! laws.eqTacS -/
noncomputable def E_laws_eqTacS (k : Nat) : Env := ⟨ty, fun g => match g with
  | 107 => some (byVal fun ρ l K => match l with
    | [b1, b2] => (b1.as (.pair (.int .i64) (.pair (.int .i64) (.pair (.int .i64) (.pair (.int .i64) (.pair (.int .i64) (.pair .str (.pair (.row (.int .i64)) .unit)))))))).bind fun c1 => (b2.as (.pair (.int .i64) (.pair (.int .i64) (.pair (.int .i64) (.pair (.int .i64) (.pair (.int .i64) (.pair .str (.pair (.row (.int .i64)) .unit)))))))).bind fun c2 => (laws_eqTac k c1 c2).bind fun r => K (tvn .bool r)
    | _ => none)
  | 57 => some noCon
  | _ => none, fun f r => match f with | 57 => (match r with | 4 => some [0, 1, 5] | _ => none) | _ => none⟩
noncomputable def laws_eqTacS (k : Nat) (a1 : List (Int × Int × Int × Int × Int × ByteArray × (List Int) × Unit)) (a2 : List (Int × Int × Int × Int × Int × ByteArray × (List Int) × Unit)) : Option (Bool) :=
  abody (E_laws_eqTacS k) (arun Try.prog (E_laws_eqTacS k) k) k 57 Try.f57 [.tv (.row (.pair (.int .i64) (.pair (.int .i64) (.pair (.int .i64) (.pair (.int .i64) (.pair (.int .i64) (.pair .str (.pair (.row (.int .i64)) .unit)))))))) a1, .tv (.row (.pair (.int .i64) (.pair (.int .i64) (.pair (.int .i64) (.pair (.int .i64) (.pair (.int .i64) (.pair .str (.pair (.row (.int .i64)) .unit)))))))) a2] [] (fin1 .bool)
noncomputable def laws_eqTacS.l4 (k n : Nat) (x0 : List (Int × Int × Int × Int × Int × ByteArray × (List Int) × Unit)) (x1 : List (Int × Int × Int × Int × Int × ByteArray × (List Int) × Unit)) (x5 : Int) : Option (Bool) :=
  resume (E_laws_eqTacS k) 57 (acall (E_laws_eqTacS k) (arun Try.prog (E_laws_eqTacS k) k)) k [true, true, false, true, true] [n] (bodyOf Try.f57) ⟨[.tv (.row (.pair (.int .i64) (.pair (.int .i64) (.pair (.int .i64) (.pair (.int .i64) (.pair (.int .i64) (.pair .str (.pair (.row (.int .i64)) .unit)))))))) x0, .tv (.row (.pair (.int .i64) (.pair (.int .i64) (.pair (.int .i64) (.pair (.int .i64) (.pair (.int .i64) (.pair .str (.pair (.row (.int .i64)) .unit)))))))) x1, .undef, .undef, .undef, .int .i64 x5, .undef, .undef, .undef, .undef, .undef, .undef, .undef, .undef, .undef, .undef, .undef, .undef, .undef, .undef, .undef, .undef, .undef, .undef, .undef, .undef, .undef], []⟩ (leave (E_laws_eqTacS k) Try.f57 (fin1 .bool))
theorem laws_eqTacS.l4_0 (k : Nat) (x0 : List (Int × Int × Int × Int × Int × ByteArray × (List Int) × Unit)) (x1 : List (Int × Int × Int × Int × Int × ByteArray × (List Int) × Unit)) (x5 : Int) : laws_eqTacS.l4 k 0 x0 x1 x5 = none := by kernel_rfl
theorem laws_eqTacS.l4_s (k n : Nat) (x0 : List (Int × Int × Int × Int × Int × ByteArray × (List Int) × Unit)) (x1 : List (Int × Int × Int × Int × Int × ByteArray × (List Int) × Unit)) (x5 : Int) : laws_eqTacS.l4 k (n + 1) x0 x1 x5 =
  iteB (decide (x5 < ((List.length x0) : Int))) (iteB (decide (0 ≤ x5)) (iteB (decide (x5 < ((List.length x0) : Int))) (iteB (decide (0 ≤ x5)) (iteB (decide (x5 < ((List.length x1) : Int))) (bindO (laws_eqTac k (List.getD x0 (Int.toNat x5) (Ty.dflt (.pair (.int .i64) (.pair (.int .i64) (.pair (.int .i64) (.pair (.int .i64) (.pair (.int .i64) (.pair .str (.pair (.row (.int .i64)) .unit))))))))) (List.getD x1 (Int.toNat x5) (Ty.dflt (.pair (.int .i64) (.pair (.int .i64) (.pair (.int .i64) (.pair (.int .i64) (.pair (.int .i64) (.pair .str (.pair (.row (.int .i64)) .unit)))))))))) fun r1 => (iteB (!r1) (some false) (laws_eqTacS.l4 k n x0 x1 (IntKind.wrap .i64 (x5 + 1))))) (none)) (none)) (none)) (none)) (some true) := by kernel_rfl
theorem laws_eqTacS_e (k : Nat) (a1 : List (Int × Int × Int × Int × Int × ByteArray × (List Int) × Unit)) (a2 : List (Int × Int × Int × Int × Int × ByteArray × (List Int) × Unit)) : laws_eqTacS k a1 a2 =
  iteB (((List.length a1) : Int) != ((List.length a2) : Int)) (some false) (laws_eqTacS.l4 k k a1 a2 0) := by kernel_rfl
theorem E_laws_eqTacS_calls (k : Nat) : CallsOk Try.prog (E_laws_eqTacS k) (arun Try.prog (E_laws_eqTacS k) k) := by
  refine told_run (tyTOk _ _) ?_ (fun run h => regOk (tyTOk _ _) mixOk h) ?_ nameOk k
  · intro g m hg
    simp only [E_laws_eqTacS] at hg
    split at hg
    · cases hg
      refine con_byVal fun ρ l K x hm => ?_
      split at hm
      · obtain ⟨c1, h1, hm⟩ := Option.bind_eq_some_iff.1 hm
        obtain ⟨c2, h2, hm⟩ := Option.bind_eq_some_iff.1 hm
        obtain ⟨r, hr, hm⟩ := Option.bind_eq_some_iff.1 hm
        exact ⟨_, hm, LawV.reads (.cons (.as h1) (.cons (.as h2) .nil)) (laws_eqTac_law k c1 c2 r hr)⟩
      · cases hm
    · cases hg; exact noCon_ok
    · cases hg
  · intro g hg r
    by_cases h : g = 57
    · subst h; simp [E_laws_eqTacS] at hg
    · simp [E_laws_eqTacS, h]
theorem f57_oklaws_eqTacS : Try.prog.funcs[57]? = some Try.f57 := by kernel_rfl
theorem laws_eqTacS_law (k : Nat) (a1 : List (Int × Int × Int × Int × Int × ByteArray × (List Int) × Unit)) (a2 : List (Int × Int × Int × Int × Int × ByteArray × (List Int) × Unit)) (x : Bool) (h : laws_eqTacS k a1 a2 = some x) : LawV Try.prog 57 [.tv (.row (.pair (.int .i64) (.pair (.int .i64) (.pair (.int .i64) (.pair (.int .i64) (.pair (.int .i64) (.pair .str (.pair (.row (.int .i64)) .unit)))))))) a1, .tv (.row (.pair (.int .i64) (.pair (.int .i64) (.pair (.int .i64) (.pair (.int .i64) (.pair (.int .i64) (.pair .str (.pair (.row (.int .i64)) .unit)))))))) a2] (tvn .bool x) := by
  unfold laws_eqTacS at h
  exact law1 (t := .bool) (tyTOk _ _) (E_laws_eqTacS_calls k) mixOk f57_oklaws_eqTacS (nameOk _ _ f57_oklaws_eqTacS) (by kernel_rfl) h
/-! laws.eqUnit -/
noncomputable def E_laws_eqUnit (k : Nat) : Env := ⟨ty, fun g => match g with
  | 57 => some (byVal fun ρ l K => match l with
    | [b1, b2] => (b1.as (.row (.pair (.int .i64) (.pair (.int .i64) (.pair (.int .i64) (.pair (.int .i64) (.pair (.int .i64) (.pair .str (.pair (.row (.int .i64)) .unit))))))))).bind fun c1 => (b2.as (.row (.pair (.int .i64) (.pair (.int .i64) (.pair (.int .i64) (.pair (.int .i64) (.pair (.int .i64) (.pair .str (.pair (.row (.int .i64)) .unit))))))))).bind fun c2 => (laws_eqTacS k c1 c2).bind fun r => K (tvn .bool r)
    | _ => none)
  | _ => none, fun _ _ => none⟩
noncomputable def laws_eqUnit (k : Nat) (a1 : ByteArray × Int × Int × (List (Int × Int × Int × Int × Int × ByteArray × (List Int) × Unit)) × Unit) (a2 : ByteArray × Int × Int × (List (Int × Int × Int × Int × Int × ByteArray × (List Int) × Unit)) × Unit) : Option (Bool) :=
  abody (E_laws_eqUnit k) (arun Try.prog (E_laws_eqUnit k) k) k 22 Try.f22 [.tv (.pair .str (.pair (.int .i64) (.pair (.int .i64) (.pair (.row (.pair (.int .i64) (.pair (.int .i64) (.pair (.int .i64) (.pair (.int .i64) (.pair (.int .i64) (.pair .str (.pair (.row (.int .i64)) .unit)))))))) .unit)))) a1, .tv (.pair .str (.pair (.int .i64) (.pair (.int .i64) (.pair (.row (.pair (.int .i64) (.pair (.int .i64) (.pair (.int .i64) (.pair (.int .i64) (.pair (.int .i64) (.pair .str (.pair (.row (.int .i64)) .unit)))))))) .unit)))) a2] [] (fin1 .bool)
theorem laws_eqUnit_e (k : Nat) (a1 : ByteArray × Int × Int × (List (Int × Int × Int × Int × Int × ByteArray × (List Int) × Unit)) × Unit) (a2 : ByteArray × Int × Int × (List (Int × Int × Int × Int × Int × ByteArray × (List Int) × Unit)) × Unit) : laws_eqUnit k a1 a2 =
  iteB (!(ByteArray.toList a1.1 == ByteArray.toList a2.1)) (some false) (iteB (a1.2.1 != a2.2.1) (some false) (iteB (a1.2.2.1 != a2.2.2.1) (some false) (bindO (laws_eqTacS k a1.2.2.2.1 a2.2.2.2.1) fun r1 => (iteB (!r1) (some false) (some true))))) := by kernel_rfl
theorem E_laws_eqUnit_calls (k : Nat) : CallsOk Try.prog (E_laws_eqUnit k) (arun Try.prog (E_laws_eqUnit k) k) := by
  refine told_run (tyTOk _ _) ?_ (fun run h => regOk (tyTOk _ _) mixOk h) ?_ nameOk k
  · intro g m hg
    simp only [E_laws_eqUnit] at hg
    split at hg
    · cases hg
      refine con_byVal fun ρ l K x hm => ?_
      split at hm
      · obtain ⟨c1, h1, hm⟩ := Option.bind_eq_some_iff.1 hm
        obtain ⟨c2, h2, hm⟩ := Option.bind_eq_some_iff.1 hm
        obtain ⟨r, hr, hm⟩ := Option.bind_eq_some_iff.1 hm
        exact ⟨_, hm, LawV.reads (.cons (.as h1) (.cons (.as h2) .nil)) (laws_eqTacS_law k c1 c2 r hr)⟩
      · cases hm
    · cases hg
  · intro g _ r; rfl
theorem f22_oklaws_eqUnit : Try.prog.funcs[22]? = some Try.f22 := by kernel_rfl
theorem laws_eqUnit_law (k : Nat) (a1 : ByteArray × Int × Int × (List (Int × Int × Int × Int × Int × ByteArray × (List Int) × Unit)) × Unit) (a2 : ByteArray × Int × Int × (List (Int × Int × Int × Int × Int × ByteArray × (List Int) × Unit)) × Unit) (x : Bool) (h : laws_eqUnit k a1 a2 = some x) : LawV Try.prog 22 [.tv (.pair .str (.pair (.int .i64) (.pair (.int .i64) (.pair (.row (.pair (.int .i64) (.pair (.int .i64) (.pair (.int .i64) (.pair (.int .i64) (.pair (.int .i64) (.pair .str (.pair (.row (.int .i64)) .unit)))))))) .unit)))) a1, .tv (.pair .str (.pair (.int .i64) (.pair (.int .i64) (.pair (.row (.pair (.int .i64) (.pair (.int .i64) (.pair (.int .i64) (.pair (.int .i64) (.pair (.int .i64) (.pair .str (.pair (.row (.int .i64)) .unit)))))))) .unit)))) a2] (tvn .bool x) := by
  unfold laws_eqUnit at h
  exact law1 (t := .bool) (tyTOk _ _) (E_laws_eqUnit_calls k) mixOk f22_oklaws_eqUnit (nameOk _ _ f22_oklaws_eqUnit) (by kernel_rfl) h
/-! laws.markText -/
noncomputable def E_laws_markText (k : Nat) : Env := ⟨ty, fun g => match g with
  | 86 => some noCon
  | _ => none, fun f r => match f with | 86 => (match r with | 4 => some [0, 3] | _ => none) | _ => none⟩
noncomputable def laws_markText (k : Nat) (a1 : Int) : Option (ByteArray) :=
  abody (E_laws_markText k) (arun Try.prog (E_laws_markText k) k) k 86 Try.f86 [.int .i64 a1] [] (fin1 .str)
noncomputable def laws_markText.l4 (k n : Nat) (x0 : Int) (x3 : ByteArray) : Option (ByteArray) :=
  resume (E_laws_markText k) 86 (acall (E_laws_markText k) (arun Try.prog (E_laws_markText k) k)) k [true, true, true, false, true] [n] (bodyOf Try.f86) ⟨[.int .i64 x0, .undef, .undef, .str x3, .undef, .undef, .undef, .undef, .undef, .undef, .undef, .undef, .undef, .undef, .undef, .undef, .undef, .undef, .undef, .undef], []⟩ (leave (E_laws_markText k) Try.f86 (fin1 .str))
theorem laws_markText.l4_0 (k : Nat) (x0 : Int) (x3 : ByteArray) : laws_markText.l4 k 0 x0 x3 = none := by kernel_rfl
theorem laws_markText.l4_s (k n : Nat) (x0 : Int) (x3 : ByteArray) : laws_markText.l4 k (n + 1) x0 x3 =
  iteB (decide (x0 > 0)) (iteB (decide (ByteArray.size (bytesVal [IntKind.wrap .u8 (IntKind.wrap .i64 (48 + (Int.tmod x0 10)))]) + ByteArray.size x3 ≤ 9223372036854775807)) (laws_markText.l4 k n (IntKind.wrap .i64 (Int.tdiv x0 10)) ((bytesVal [IntKind.wrap .u8 (IntKind.wrap .i64 (48 + (Int.tmod x0 10)))]) ++ x3)) (none)) (iteB (decide (ByteArray.size (⟨#[109]⟩ : ByteArray) + ByteArray.size x3 ≤ 9223372036854775807)) (some ((⟨#[109]⟩ : ByteArray) ++ x3)) (none)) := by kernel_rfl
theorem laws_markText_e (k : Nat) (a1 : Int) : laws_markText k a1 =
  iteB (decide (a1 ≤ 0)) (some (⟨#[109, 48]⟩ : ByteArray)) (laws_markText.l4 k k a1 (⟨#[]⟩ : ByteArray)) := by kernel_rfl
theorem E_laws_markText_calls (k : Nat) : CallsOk Try.prog (E_laws_markText k) (arun Try.prog (E_laws_markText k) k) := by
  refine told_run (tyTOk _ _) ?_ (fun run h => regOk (tyTOk _ _) mixOk h) ?_ nameOk k
  · intro g m hg
    simp only [E_laws_markText] at hg
    split at hg
    · cases hg; exact noCon_ok
    · cases hg
  · intro g hg r
    by_cases h : g = 86
    · subst h; simp [E_laws_markText] at hg
    · simp [E_laws_markText, h]
theorem f86_oklaws_markText : Try.prog.funcs[86]? = some Try.f86 := by kernel_rfl
theorem laws_markText_law (k : Nat) (a1 : Int) (x : ByteArray) (h : laws_markText k a1 = some x) : LawV Try.prog 86 [.int .i64 a1] (tvn .str x) := by
  unfold laws_markText at h
  exact law1 (t := .str) (tyTOk _ _) (E_laws_markText_calls k) mixOk f86_oklaws_markText (nameOk _ _ f86_oklaws_markText) (by kernel_rfl) h
/-! laws.markIntS -/
noncomputable def E_laws_markIntS (k : Nat) : Env := ⟨ty, fun g => match g with
  | 16 => some noCon
  | _ => none, fun f r => match f with | 16 => (match r with | 2 => some [0, 1, 5] | 999999 => some [1] | _ => none) | _ => none⟩
noncomputable def laws_markIntS (k : Nat) (a1 : List Int) (a2 : Int) : Option (Int × (List (Int))) :=
  abody (E_laws_markIntS k) (arun Try.prog (E_laws_markIntS k) k) k 16 Try.f16 [.sl 0, .int .i64 a2] [some ⟨.typed (.int .i64) a1, false⟩] (finMd (.int .i64) (.int .i64))
noncomputable def laws_markIntS.l2 (k n : Nat) (x1 : Int) (x5 : Int) (y0 : List Int) : Option (Int × (List (Int))) :=
  resume (E_laws_markIntS k) 16 (acall (E_laws_markIntS k) (arun Try.prog (E_laws_markIntS k) k)) k [true, false, true, true] [n] (bodyOf Try.f16) ⟨[.sl 0, .int .i64 x1, .undef, .undef, .undef, .int .i64 x5, .undef, .undef, .undef, .undef, .undef, .undef, .undef, .undef, .undef, .undef, .undef, .undef, .undef], [some ⟨.typed (.int .i64) y0, false⟩]⟩ (leave (E_laws_markIntS k) Try.f16 (finMd (.int .i64) (.int .i64)))
theorem laws_markIntS.l2_0 (k : Nat) (x1 : Int) (x5 : Int) (y0 : List Int) : laws_markIntS.l2 k 0 x1 x5 y0 = none := by kernel_rfl
theorem laws_markIntS.l2_s (k n : Nat) (x1 : Int) (x5 : Int) (y0 : List Int) : laws_markIntS.l2 k (n + 1) x1 x5 y0 =
  iteB (decide (x5 < ((List.length y0) : Int))) (iteB (decide (0 ≤ x5)) (iteB (decide (x5 < ((List.length y0) : Int))) (laws_markIntS.l2 k n (IntKind.wrap .i64 (x1 + 1)) (IntKind.wrap .i64 (x5 + 1)) (List.set y0 (Int.toNat x5) x1)) (none)) (none)) (some (x1, y0)) := by kernel_rfl
theorem laws_markIntS_e (k : Nat) (a1 : List Int) (a2 : Int) : laws_markIntS k a1 a2 =
  laws_markIntS.l2 k k a2 0 a1 := by kernel_rfl
theorem E_laws_markIntS_calls (k : Nat) : CallsOk Try.prog (E_laws_markIntS k) (arun Try.prog (E_laws_markIntS k) k) := by
  refine told_run (tyTOk _ _) ?_ (fun run h => regOk (tyTOk _ _) mixOk h) ?_ nameOk k
  · intro g m hg
    simp only [E_laws_markIntS] at hg
    split at hg
    · cases hg; exact noCon_ok
    · cases hg
  · intro g hg r
    by_cases h : g = 16
    · subst h; simp [E_laws_markIntS] at hg
    · simp [E_laws_markIntS, h]
theorem f16_oklaws_markIntS : Try.prog.funcs[16]? = some Try.f16 := by kernel_rfl
theorem laws_markIntS_law (k : Nat) (a1 : List Int) (a2 : Int) (x : (Int) × (List (Int))) (h : laws_markIntS k a1 a2 = some x) : LawMd Try.prog 16 (.int .i64) a1 [.int .i64 a2] (tvM (.int .i64) x.1) x.2 := by
  unfold laws_markIntS at h
  exact lawMd (t := (.int .i64)) (e := (.int .i64)) (tyTOk _ _) (E_laws_markIntS_calls k) mixOk f16_oklaws_markIntS (nameOk _ _ f16_oklaws_markIntS) (by kernel_rfl) (Nat.lt_of_lt_of_eq Nat.zero_lt_one (by kernel_rfl : 1 = pinsOf (E_laws_markIntS k) 16)) (by kernel_rfl) (fun _ => rfl) h
/-! laws.markTacS -/
noncomputable def E_laws_markTacS (k : Nat) : Env := ⟨ty, fun g => match g with
  | 86 => some (byVal fun ρ l K => match l with
    | [b1] => (b1.as (.int .i64)).bind fun c1 => (laws_markText k c1).bind fun r => K (tvn .str r)
    | _ => none)
  | 16 => some (byMutD (.int .i64) fun ρ xs l K => match l with
    | [b1] => (b1.as (.int .i64)).bind fun c1 => (laws_markIntS k xs c1).bind fun r => K (tvM (.int .i64) r.1) r.2
    | _ => none)
  | 58 => some noCon
  | _ => none, fun f r => match f with | 58 => (match r with | 2 => some [0, 1, 5] | 999999 => some [1] | _ => none) | _ => none⟩
noncomputable def laws_markTacS (k : Nat) (a1 : List (Int × Int × Int × Int × Int × ByteArray × (List Int) × Unit)) (a2 : Int) : Option (Int × (List (Int × Int × Int × Int × Int × ByteArray × (List Int) × Unit))) :=
  abody (E_laws_markTacS k) (arun Try.prog (E_laws_markTacS k) k) k 58 Try.f58 [.sl 0, .int .i64 a2] [some ⟨.deep true (.pair (.int .i64) (.pair (.int .i64) (.pair (.int .i64) (.pair (.int .i64) (.pair (.int .i64) (.pair .str (.pair (.row (.int .i64)) .unit))))))) a1, false⟩] (finMd (.int .i64) (.pair (.int .i64) (.pair (.int .i64) (.pair (.int .i64) (.pair (.int .i64) (.pair (.int .i64) (.pair .str (.pair (.row (.int .i64)) .unit))))))))
noncomputable def laws_markTacS.l2 (k n : Nat) (x1 : Int) (x5 : Int) (y0 : List (Int × Int × Int × Int × Int × ByteArray × (List Int) × Unit)) : Option (Int × (List (Int × Int × Int × Int × Int × ByteArray × (List Int) × Unit))) :=
  resume (E_laws_markTacS k) 58 (acall (E_laws_markTacS k) (arun Try.prog (E_laws_markTacS k) k)) k [true, false, true, true] [n] (bodyOf Try.f58) ⟨[.sl 0, .int .i64 x1, .undef, .undef, .undef, .int .i64 x5, .undef, .undef, .undef, .undef, .undef, .undef, .undef, .undef, .undef, .undef, .undef, .undef, .undef, .undef, .undef, .undef, .undef, .undef, .undef, .undef, .undef, .undef, .undef, .undef, .undef, .undef, .undef, .undef, .undef, .undef, .undef, .undef, .undef, .undef, .undef, .undef, .undef, .undef, .undef, .undef, .undef, .undef, .undef, .undef, .undef, .undef, .undef, .undef, .undef, .undef, .undef, .undef, .undef, .undef, .undef, .undef, .undef], [some ⟨.deep true (.pair (.int .i64) (.pair (.int .i64) (.pair (.int .i64) (.pair (.int .i64) (.pair (.int .i64) (.pair .str (.pair (.row (.int .i64)) .unit))))))) y0, false⟩]⟩ (leave (E_laws_markTacS k) Try.f58 (finMd (.int .i64) (.pair (.int .i64) (.pair (.int .i64) (.pair (.int .i64) (.pair (.int .i64) (.pair (.int .i64) (.pair .str (.pair (.row (.int .i64)) .unit)))))))))
theorem laws_markTacS.l2_0 (k : Nat) (x1 : Int) (x5 : Int) (y0 : List (Int × Int × Int × Int × Int × ByteArray × (List Int) × Unit)) : laws_markTacS.l2 k 0 x1 x5 y0 = none := by kernel_rfl
theorem laws_markTacS.l2_s (k n : Nat) (x1 : Int) (x5 : Int) (y0 : List (Int × Int × Int × Int × Int × ByteArray × (List Int) × Unit)) : laws_markTacS.l2 k (n + 1) x1 x5 y0 =
  iteB (decide (x5 < ((List.length y0) : Int))) (iteB (decide (0 ≤ x5)) (iteB (decide (x5 < ((List.length y0) : Int))) (iteB (decide (0 ≤ x5)) (iteB (decide (x5 < ((List.length ((fun (l_ : List (Int × Int × Int × Int × Int × ByteArray × (List Int) × Unit)) => List.set l_ (Int.toNat x5) ((fun (z_ : Int × Int × Int × Int × Int × ByteArray × (List Int) × Unit) => (x1, z_.2)) (List.getD l_ (Int.toNat x5) (Ty.dflt (.pair (.int .i64) (.pair (.int .i64) (.pair (.int .i64) (.pair (.int .i64) (.pair (.int .i64) (.pair .str (.pair (.row (.int .i64)) .unit))))))))))) y0)) : Int))) (iteB (decide (0 ≤ x5)) (iteB (decide (x5 < ((List.length ((fun (l_ : List (Int × Int × Int × Int × Int × ByteArray × (List Int) × Unit)) => List.set l_ (Int.toNat x5) ((fun (z_ : Int × Int × Int × Int × Int × ByteArray × (List Int) × Unit) => (z_.1, IntKind.wrap .i64 (x1 + 1), z_.2.2)) (List.getD l_ (Int.toNat x5) (Ty.dflt (.pair (.int .i64) (.pair (.int .i64) (.pair (.int .i64) (.pair (.int .i64) (.pair (.int .i64) (.pair .str (.pair (.row (.int .i64)) .unit))))))))))) ((fun (l_ : List (Int × Int × Int × Int × Int × ByteArray × (List Int) × Unit)) => List.set l_ (Int.toNat x5) ((fun (z_ : Int × Int × Int × Int × Int × ByteArray × (List Int) × Unit) => (x1, z_.2)) (List.getD l_ (Int.toNat x5) (Ty.dflt (.pair (.int .i64) (.pair (.int .i64) (.pair (.int .i64) (.pair (.int .i64) (.pair (.int .i64) (.pair .str (.pair (.row (.int .i64)) .unit))))))))))) y0))) : Int))) (iteB (decide (0 ≤ x5)) (iteB (decide (x5 < ((List.length ((fun (l_ : List (Int × Int × Int × Int × Int × ByteArray × (List Int) × Unit)) => List.set l_ (Int.toNat x5) ((fun (z_ : Int × Int × Int × Int × Int × ByteArray × (List Int) × Unit) => (z_.1, z_.2.1, IntKind.wrap .i64 ((IntKind.wrap .i64 (x1 + 1)) + 1), z_.2.2.2)) (List.getD l_ (Int.toNat x5) (Ty.dflt (.pair (.int .i64) (.pair (.int .i64) (.pair (.int .i64) (.pair (.int .i64) (.pair (.int .i64) (.pair .str (.pair (.row (.int .i64)) .unit))))))))))) ((fun (l_ : List (Int × Int × Int × Int × Int × ByteArray × (List Int) × Unit)) => List.set l_ (Int.toNat x5) ((fun (z_ : Int × Int × Int × Int × Int × ByteArray × (List Int) × Unit) => (z_.1, IntKind.wrap .i64 (x1 + 1), z_.2.2)) (List.getD l_ (Int.toNat x5) (Ty.dflt (.pair (.int .i64) (.pair (.int .i64) (.pair (.int .i64) (.pair (.int .i64) (.pair (.int .i64) (.pair .str (.pair (.row (.int .i64)) .unit))))))))))) ((fun (l_ : List (Int × Int × Int × Int × Int × ByteArray × (List Int) × Unit)) => List.set l_ (Int.toNat x5) ((fun (z_ : Int × Int × Int × Int × Int × ByteArray × (List Int) × Unit) => (x1, z_.2)) (List.getD l_ (Int.toNat x5) (Ty.dflt (.pair (.int .i64) (.pair (.int .i64) (.pair (.int .i64) (.pair (.int .i64) (.pair (.int .i64) (.pair .str (.pair (.row (.int .i64)) .unit))))))))))) y0)))) : Int))) (iteB (decide (0 ≤ x5)) (iteB (decide (x5 < ((List.length ((fun (l_ : List (Int × Int × Int × Int × Int × ByteArray × (List Int) × Unit)) => List.set l_ (Int.toNat x5) ((fun (z_ : Int × Int × Int × Int × Int × ByteArray × (List Int) × Unit) => (z_.1, z_.2.1, z_.2.2.1, IntKind.wrap .i64 ((IntKind.wrap .i64 ((IntKind.wrap .i64 (x1 + 1)) + 1)) + 1), z_.2.2.2.2)) (List.getD l_ (Int.toNat x5) (Ty.dflt (.pair (.int .i64) (.pair (.int .i64) (.pair (.int .i64) (.pair (.int .i64) (.pair (.int .i64) (.pair .str (.pair (.row (.int .i64)) .unit))))))))))) ((fun (l_ : List (Int × Int × Int × Int × Int × ByteArray × (List Int) × Unit)) => List.set l_ (Int.toNat x5) ((fun (z_ : Int × Int × Int × Int × Int × ByteArray × (List Int) × Unit) => (z_.1, z_.2.1, IntKind.wrap .i64 ((IntKind.wrap .i64 (x1 + 1)) + 1), z_.2.2.2)) (List.getD l_ (Int.toNat x5) (Ty.dflt (.pair (.int .i64) (.pair (.int .i64) (.pair (.int .i64) (.pair (.int .i64) (.pair (.int .i64) (.pair .str (.pair (.row (.int .i64)) .unit))))))))))) ((fun (l_ : List (Int × Int × Int × Int × Int × ByteArray × (List Int) × Unit)) => List.set l_ (Int.toNat x5) ((fun (z_ : Int × Int × Int × Int × Int × ByteArray × (List Int) × Unit) => (z_.1, IntKind.wrap .i64 (x1 + 1), z_.2.2)) (List.getD l_ (Int.toNat x5) (Ty.dflt (.pair (.int .i64) (.pair (.int .i64) (.pair (.int .i64) (.pair (.int .i64) (.pair (.int .i64) (.pair .str (.pair (.row (.int .i64)) .unit))))))))))) ((fun (l_ : List (Int × Int × Int × Int × Int × ByteArray × (List Int) × Unit)) => List.set l_ (Int.toNat x5) ((fun (z_ : Int × Int × Int × Int × Int × ByteArray × (List Int) × Unit) => (x1, z_.2)) (List.getD l_ (Int.toNat x5) (Ty.dflt (.pair (.int .i64) (.pair (.int .i64) (.pair (.int .i64) (.pair (.int .i64) (.pair (.int .i64) (.pair .str (.pair (.row (.int .i64)) .unit))))))))))) y0))))) : Int))) (bindO (laws_markText k (IntKind.wrap .i64 ((IntKind.wrap .i64 ((IntKind.wrap .i64 ((IntKind.wrap .i64 ((IntKind.wrap .i64 (x1 + 1)) + 1)) + 1)) + 1)) + 1))) fun r1 => (iteB (decide (0 ≤ x5)) (iteB (decide (x5 < ((List.length ((fun (l_ : List (Int × Int × Int × Int × Int × ByteArray × (List Int) × Unit)) => List.set l_ (Int.toNat x5) ((fun (z_ : Int × Int × Int × Int × Int × ByteArray × (List Int) × Unit) => (z_.1, z_.2.1, z_.2.2.1, z_.2.2.2.1, IntKind.wrap .i64 ((IntKind.wrap .i64 ((IntKind.wrap .i64 ((IntKind.wrap .i64 (x1 + 1)) + 1)) + 1)) + 1), z_.2.2.2.2.2)) (List.getD l_ (Int.toNat x5) (Ty.dflt (.pair (.int .i64) (.pair (.int .i64) (.pair (.int .i64) (.pair (.int .i64) (.pair (.int .i64) (.pair .str (.pair (.row (.int .i64)) .unit))))))))))) ((fun (l_ : List (Int × Int × Int × Int × Int × ByteArray × (List Int) × Unit)) => List.set l_ (Int.toNat x5) ((fun (z_ : Int × Int × Int × Int × Int × ByteArray × (List Int) × Unit) => (z_.1, z_.2.1, z_.2.2.1, IntKind.wrap .i64 ((IntKind.wrap .i64 ((IntKind.wrap .i64 (x1 + 1)) + 1)) + 1), z_.2.2.2.2)) (List.getD l_ (Int.toNat x5) (Ty.dflt (.pair (.int .i64) (.pair (.int .i64) (.pair (.int .i64) (.pair (.int .i64) (.pair (.int .i64) (.pair .str (.pair (.row (.int .i64)) .unit))))))))))) ((fun (l_ : List (Int × Int × Int × Int × Int × ByteArray × (List Int) × Unit)) => List.set l_ (Int.toNat x5) ((fun (z_ : Int × Int × Int × Int × Int × ByteArray × (List Int) × Unit) => (z_.1, z_.2.1, IntKind.wrap .i64 ((IntKind.wrap .i64 (x1 + 1)) + 1), z_.2.2.2)) (List.getD l_ (Int.toNat x5) (Ty.dflt (.pair (.int .i64) (.pair (.int .i64) (.pair (.int .i64) (.pair (.int .i64) (.pair (.int .i64) (.pair .str (.pair (.row (.int .i64)) .unit))))))))))) ((fun (l_ : List (Int × Int × Int × Int × Int × ByteArray × (List Int) × Unit)) => List.set l_ (Int.toNat x5) ((fun (z_ : Int × Int × Int × Int × Int × ByteArray × (List Int) × Unit) => (z_.1, IntKind.wrap .i64 (x1 + 1), z_.2.2)) (List.getD l_ (Int.toNat x5) (Ty.dflt (.pair (.int .i64) (.pair (.int .i64) (.pair (.int .i64) (.pair (.int .i64) (.pair (.int .i64) (.pair .str (.pair (.row (.int .i64)) .unit))))))))))) ((fun (l_ : List (Int × Int × Int × Int × Int × ByteArray × (List Int) × Unit)) => List.set l_ (Int.toNat x5) ((fun (z_ : Int × Int × Int × Int × Int × ByteArray × (List Int) × Unit) => (x1, z_.2)) (List.getD l_ (Int.toNat x5) (Ty.dflt (.pair (.int .i64) (.pair (.int .i64) (.pair (.int .i64) (.pair (.int .i64) (.pair (.int .i64) (.pair .str (.pair (.row (.int .i64)) .unit))))))))))) y0)))))) : Int))) (iteB (decide (0 ≤ x5)) (iteB (decide (x5 < ((List.length ((fun (l_ : List (Int × Int × Int × Int × Int × ByteArray × (List Int) × Unit)) => List.set l_ (Int.toNat x5) ((fun (z_ : Int × Int × Int × Int × Int × ByteArray × (List Int) × Unit) => (z_.1, z_.2.1, z_.2.2.1, z_.2.2.2.1, z_.2.2.2.2.1, r1, z_.2.2.2.2.2.2)) (List.getD l_ (Int.toNat x5) (Ty.dflt (.pair (.int .i64) (.pair (.int .i64) (.pair (.int .i64) (.pair (.int .i64) (.pair (.int .i64) (.pair .str (.pair (.row (.int .i64)) .unit))))))))))) ((fun (l_ : List (Int × Int × Int × Int × Int × ByteArray × (List Int) × Unit)) => List.set l_ (Int.toNat x5) ((fun (z_ : Int × Int × Int × Int × Int × ByteArray × (List Int) × Unit) => (z_.1, z_.2.1, z_.2.2.1, z_.2.2.2.1, IntKind.wrap .i64 ((IntKind.wrap .i64 ((IntKind.wrap .i64 ((IntKind.wrap .i64 (x1 + 1)) + 1)) + 1)) + 1), z_.2.2.2.2.2)) (List.getD l_ (Int.toNat x5) (Ty.dflt (.pair (.int .i64) (.pair (.int .i64) (.pair (.int .i64) (.pair (.int .i64) (.pair (.int .i64) (.pair .str (.pair (.row (.int .i64)) .unit))))))))))) ((fun (l_ : List (Int × Int × Int × Int × Int × ByteArray × (List Int) × Unit)) => List.set l_ (Int.toNat x5) ((fun (z_ : Int × Int × Int × Int × Int × ByteArray × (List Int) × Unit) => (z_.1, z_.2.1, z_.2.2.1, IntKind.wrap .i64 ((IntKind.wrap .i64 ((IntKind.wrap .i64 (x1 + 1)) + 1)) + 1), z_.2.2.2.2)) (List.getD l_ (Int.toNat x5) (Ty.dflt (.pair (.int .i64) (.pair (.int .i64) (.pair (.int .i64) (.pair (.int .i64) (.pair (.int .i64) (.pair .str (.pair (.row (.int .i64)) .unit))))))))))) ((fun (l_ : List (Int × Int × Int × Int × Int × ByteArray × (List Int) × Unit)) => List.set l_ (Int.toNat x5) ((fun (z_ : Int × Int × Int × Int × Int × ByteArray × (List Int) × Unit) => (z_.1, z_.2.1, IntKind.wrap .i64 ((IntKind.wrap .i64 (x1 + 1)) + 1), z_.2.2.2)) (List.getD l_ (Int.toNat x5) (Ty.dflt (.pair (.int .i64) (.pair (.int .i64) (.pair (.int .i64) (.pair (.int .i64) (.pair (.int .i64) (.pair .str (.pair (.row (.int .i64)) .unit))))))))))) ((fun (l_ : List (Int × Int × Int × Int × Int × ByteArray × (List Int) × Unit)) => List.set l_ (Int.toNat x5) ((fun (z_ : Int × Int × Int × Int × Int × ByteArray × (List Int) × Unit) => (z_.1, IntKind.wrap .i64 (x1 + 1), z_.2.2)) (List.getD l_ (Int.toNat x5) (Ty.dflt (.pair (.int .i64) (.pair (.int .i64) (.pair (.int .i64) (.pair (.int .i64) (.pair (.int .i64) (.pair .str (.pair (.row (.int .i64)) .unit))))))))))) ((fun (l_ : List (Int × Int × Int × Int × Int × ByteArray × (List Int) × Unit)) => List.set l_ (Int.toNat x5) ((fun (z_ : Int × Int × Int × Int × Int × ByteArray × (List Int) × Unit) => (x1, z_.2)) (List.getD l_ (Int.toNat x5) (Ty.dflt (.pair (.int .i64) (.pair (.int .i64) (.pair (.int .i64) (.pair (.int .i64) (.pair (.int .i64) (.pair .str (.pair (.row (.int .i64)) .unit))))))))))) y0))))))) : Int))) (bindO (laws_markIntS k ((((((((List.getD ((fun (l_ : List (Int × Int × Int × Int × Int × ByteArray × (List Int) × Unit)) => List.set l_ (Int.toNat x5) ((fun (z_ : Int × Int × Int × Int × Int × ByteArray × (List Int) × Unit) => (z_.1, z_.2.1, z_.2.2.1, z_.2.2.2.1, z_.2.2.2.2.1, r1, z_.2.2.2.2.2.2)) (List.getD l_ (Int.toNat x5) (Ty.dflt (.pair (.int .i64) (.pair (.int .i64) (.pair (.int .i64) (.pair (.int .i64) (.pair (.int .i64) (.pair .str (.pair (.row (.int .i64)) .unit))))))))))) ((fun (l_ : List (Int × Int × Int × Int × Int × ByteArray × (List Int) × Unit)) => List.set l_ (Int.toNat x5) ((fun (z_ : Int × Int × Int × Int × Int × ByteArray × (List Int) × Unit) => (z_.1, z_.2.1, z_.2.2.1, z_.2.2.2.1, IntKind.wrap .i64 ((IntKind.wrap .i64 ((IntKind.wrap .i64 ((IntKind.wrap .i64 (x1 + 1)) + 1)) + 1)) + 1), z_.2.2.2.2.2)) (List.getD l_ (Int.toNat x5) (Ty.dflt (.pair (.int .i64) (.pair (.int .i64) (.pair (.int .i64) (.pair (.int .i64) (.pair (.int .i64) (.pair .str (.pair (.row (.int .i64)) .unit))))))))))) ((fun (l_ : List (Int × Int × Int × Int × Int × ByteArray × (List Int) × Unit)) => List.set l_ (Int.toNat x5) ((fun (z_ : Int × Int × Int × Int × Int × ByteArray × (List Int) × Unit) => (z_.1, z_.2.1, z_.2.2.1, IntKind.wrap .i64 ((IntKind.wrap .i64 ((IntKind.wrap .i64 (x1 + 1)) + 1)) + 1), z_.2.2.2.2)) (List.getD l_ (Int.toNat x5) (Ty.dflt (.pair (.int .i64) (.pair (.int .i64) (.pair (.int .i64) (.pair (.int .i64) (.pair (.int .i64) (.pair .str (.pair (.row (.int .i64)) .unit))))))))))) ((fun (l_ : List (Int × Int × Int × Int × Int × ByteArray × (List Int) × Unit)) => List.set l_ (Int.toNat x5) ((fun (z_ : Int × Int × Int × Int × Int × ByteArray × (List Int) × Unit) => (z_.1, z_.2.1, IntKind.wrap .i64 ((IntKind.wrap .i64 (x1 + 1)) + 1), z_.2.2.2)) (List.getD l_ (Int.toNat x5) (Ty.dflt (.pair (.int .i64) (.pair (.int .i64) (.pair (.int .i64) (.pair (.int .i64) (.pair (.int .i64) (.pair .str (.pair (.row (.int .i64)) .unit))))))))))) ((fun (l_ : List (Int × Int × Int × Int × Int × ByteArray × (List Int) × Unit)) => List.set l_ (Int.toNat x5) ((fun (z_ : Int × Int × Int × Int × Int × ByteArray × (List Int) × Unit) => (z_.1, IntKind.wrap .i64 (x1 + 1), z_.2.2)) (List.getD l_ (Int.toNat x5) (Ty.dflt (.pair (.int .i64) (.pair (.int .i64) (.pair (.int .i64) (.pair (.int .i64) (.pair (.int .i64) (.pair .str (.pair (.row (.int .i64)) .unit))))))))))) ((fun (l_ : List (Int × Int × Int × Int × Int × ByteArray × (List Int) × Unit)) => List.set l_ (Int.toNat x5) ((fun (z_ : Int × Int × Int × Int × Int × ByteArray × (List Int) × Unit) => (x1, z_.2)) (List.getD l_ (Int.toNat x5) (Ty.dflt (.pair (.int .i64) (.pair (.int .i64) (.pair (.int .i64) (.pair (.int .i64) (.pair (.int .i64) (.pair .str (.pair (.row (.int .i64)) .unit))))))))))) y0)))))) (Int.toNat x5) (Ty.dflt (.pair (.int .i64) (.pair (.int .i64) (.pair (.int .i64) (.pair (.int .i64) (.pair (.int .i64) (.pair .str (.pair (.row (.int .i64)) .unit))))))))).2).2).2).2).2).2).1) (IntKind.wrap .i64 ((IntKind.wrap .i64 ((IntKind.wrap .i64 ((IntKind.wrap .i64 ((IntKind.wrap .i64 ((IntKind.wrap .i64 (x1 + 1)) + 1)) + 1)) + 1)) + 1)) + 1))) fun r2 => (laws_markTacS.l2 k n r2.1 (IntKind.wrap .i64 (x5 + 1)) ((fun (l_ : List (Int × Int × Int × Int × Int × ByteArray × (List Int) × Unit)) => List.set l_ (Int.toNat x5) ((fun (z_ : Int × Int × Int × Int × Int × ByteArray × (List Int) × Unit) => (z_.1, z_.2.1, z_.2.2.1, z_.2.2.2.1, z_.2.2.2.2.1, z_.2.2.2.2.2.1, r2.2, z_.2.2.2.2.2.2.2)) (List.getD l_ (Int.toNat x5) (Ty.dflt (.pair (.int .i64) (.pair (.int .i64) (.pair (.int .i64) (.pair (.int .i64) (.pair (.int .i64) (.pair .str (.pair (.row (.int .i64)) .unit))))))))))) ((fun (l_ : List (Int × Int × Int × Int × Int × ByteArray × (List Int) × Unit)) => List.set l_ (Int.toNat x5) ((fun (z_ : Int × Int × Int × Int × Int × ByteArray × (List Int) × Unit) => (z_.1, z_.2.1, z_.2.2.1, z_.2.2.2.1, z_.2.2.2.2.1, r1, z_.2.2.2.2.2.2)) (List.getD l_ (Int.toNat x5) (Ty.dflt (.pair (.int .i64) (.pair (.int .i64) (.pair (.int .i64) (.pair (.int .i64) (.pair (.int .i64) (.pair .str (.pair (.row (.int .i64)) .unit))))))))))) ((fun (l_ : List (Int × Int × Int × Int × Int × ByteArray × (List Int) × Unit)) => List.set l_ (Int.toNat x5) ((fun (z_ : Int × Int × Int × Int × Int × ByteArray × (List Int) × Unit) => (z_.1, z_.2.1, z_.2.2.1, z_.2.2.2.1, IntKind.wrap .i64 ((IntKind.wrap .i64 ((IntKind.wrap .i64 ((IntKind.wrap .i64 (x1 + 1)) + 1)) + 1)) + 1), z_.2.2.2.2.2)) (List.getD l_ (Int.toNat x5) (Ty.dflt (.pair (.int .i64) (.pair (.int .i64) (.pair (.int .i64) (.pair (.int .i64) (.pair (.int .i64) (.pair .str (.pair (.row (.int .i64)) .unit))))))))))) ((fun (l_ : List (Int × Int × Int × Int × Int × ByteArray × (List Int) × Unit)) => List.set l_ (Int.toNat x5) ((fun (z_ : Int × Int × Int × Int × Int × ByteArray × (List Int) × Unit) => (z_.1, z_.2.1, z_.2.2.1, IntKind.wrap .i64 ((IntKind.wrap .i64 ((IntKind.wrap .i64 (x1 + 1)) + 1)) + 1), z_.2.2.2.2)) (List.getD l_ (Int.toNat x5) (Ty.dflt (.pair (.int .i64) (.pair (.int .i64) (.pair (.int .i64) (.pair (.int .i64) (.pair (.int .i64) (.pair .str (.pair (.row (.int .i64)) .unit))))))))))) ((fun (l_ : List (Int × Int × Int × Int × Int × ByteArray × (List Int) × Unit)) => List.set l_ (Int.toNat x5) ((fun (z_ : Int × Int × Int × Int × Int × ByteArray × (List Int) × Unit) => (z_.1, z_.2.1, IntKind.wrap .i64 ((IntKind.wrap .i64 (x1 + 1)) + 1), z_.2.2.2)) (List.getD l_ (Int.toNat x5) (Ty.dflt (.pair (.int .i64) (.pair (.int .i64) (.pair (.int .i64) (.pair (.int .i64) (.pair (.int .i64) (.pair .str (.pair (.row (.int .i64)) .unit))))))))))) ((fun (l_ : List (Int × Int × Int × Int × Int × ByteArray × (List Int) × Unit)) => List.set l_ (Int.toNat x5) ((fun (z_ : Int × Int × Int × Int × Int × ByteArray × (List Int) × Unit) => (z_.1, IntKind.wrap .i64 (x1 + 1), z_.2.2)) (List.getD l_ (Int.toNat x5) (Ty.dflt (.pair (.int .i64) (.pair (.int .i64) (.pair (.int .i64) (.pair (.int .i64) (.pair (.int .i64) (.pair .str (.pair (.row (.int .i64)) .unit))))))))))) ((fun (l_ : List (Int × Int × Int × Int × Int × ByteArray × (List Int) × Unit)) => List.set l_ (Int.toNat x5) ((fun (z_ : Int × Int × Int × Int × Int × ByteArray × (List Int) × Unit) => (x1, z_.2)) (List.getD l_ (Int.toNat x5) (Ty.dflt (.pair (.int .i64) (.pair (.int .i64) (.pair (.int .i64) (.pair (.int .i64) (.pair (.int .i64) (.pair .str (.pair (.row (.int .i64)) .unit))))))))))) y0))))))))) (none)) (none)) (none)) (none))) (none)) (none)) (none)) (none)) (none)) (none)) (none)) (none)) (none)) (none)) (some (x1, y0)) := by kernel_rfl
theorem laws_markTacS_e (k : Nat) (a1 : List (Int × Int × Int × Int × Int × ByteArray × (List Int) × Unit)) (a2 : Int) : laws_markTacS k a1 a2 =
  laws_markTacS.l2 k k a2 0 a1 := by kernel_rfl
theorem E_laws_markTacS_calls (k : Nat) : CallsOk Try.prog (E_laws_markTacS k) (arun Try.prog (E_laws_markTacS k) k) := by
  refine told_run (tyTOk _ _) ?_ (fun run h => regOk (tyTOk _ _) mixOk h) ?_ nameOk k
  · intro g m hg
    simp only [E_laws_markTacS] at hg
    split at hg
    · cases hg
      refine con_byVal fun ρ l K x hm => ?_
      split at hm
      · obtain ⟨c1, h1, hm⟩ := Option.bind_eq_some_iff.1 hm
        obtain ⟨r, hr, hm⟩ := Option.bind_eq_some_iff.1 hm
        exact ⟨_, hm, LawV.reads (.cons (.as h1) .nil) (laws_markText_law k c1 r hr)⟩
      · cases hm
    · cases hg
      refine con_byMutD fun ρ xs l K x hm => ?_
      split at hm
      · obtain ⟨c1, h1, hm⟩ := Option.bind_eq_some_iff.1 hm
        obtain ⟨r, hr, hm⟩ := Option.bind_eq_some_iff.1 hm
        exact ⟨_, _, hm, LawMd.reads (.cons (.as h1) .nil) (laws_markIntS_law k xs c1 r hr)⟩
      · cases hm
    · cases hg; exact noCon_ok
    · cases hg
  · intro g hg r
    by_cases h : g = 58
    · subst h; simp [E_laws_markTacS] at hg
    · simp [E_laws_markTacS, h]
theorem f58_oklaws_markTacS : Try.prog.funcs[58]? = some Try.f58 := by kernel_rfl
theorem laws_markTacS_law (k : Nat) (a1 : List (Int × Int × Int × Int × Int × ByteArray × (List Int) × Unit)) (a2 : Int) (x : (Int) × (List (Int × Int × Int × Int × Int × ByteArray × (List Int) × Unit))) (h : laws_markTacS k a1 a2 = some x) : LawMd Try.prog 58 (.pair (.int .i64) (.pair (.int .i64) (.pair (.int .i64) (.pair (.int .i64) (.pair (.int .i64) (.pair .str (.pair (.row (.int .i64)) .unit))))))) a1 [.int .i64 a2] (tvM (.int .i64) x.1) x.2 := by
  unfold laws_markTacS at h
  exact lawMd (t := (.int .i64)) (e := (.pair (.int .i64) (.pair (.int .i64) (.pair (.int .i64) (.pair (.int .i64) (.pair (.int .i64) (.pair .str (.pair (.row (.int .i64)) .unit)))))))) (tyTOk _ _) (E_laws_markTacS_calls k) mixOk f58_oklaws_markTacS (nameOk _ _ f58_oklaws_markTacS) (by kernel_rfl) (Nat.lt_of_lt_of_eq Nat.zero_lt_one (by kernel_rfl : 1 = pinsOf (E_laws_markTacS k) 58)) (by kernel_rfl) (fun _ => rfl) h
/-! laws.heldIntS -/
noncomputable def E_laws_heldIntS (k : Nat) : Env := ⟨ty, fun g => match g with
  | 17 => some noCon
  | _ => none, fun f r => match f with | 17 => (match r with | 2 => some [0, 1, 5] | _ => none) | _ => none⟩
noncomputable def laws_heldIntS (k : Nat) (a1 : List Int) (a2 : Int) : Option (Int) :=
  abody (E_laws_heldIntS k) (arun Try.prog (E_laws_heldIntS k) k) k 17 Try.f17 [.tv (.row (.int .i64)) a1, .int .i64 a2] [] (fin1 (.int .i64))
noncomputable def laws_heldIntS.l2 (k n : Nat) (x0 : List Int) (x1 : Int) (x5 : Int) : Option (Int) :=
  resume (E_laws_heldIntS k) 17 (acall (E_laws_heldIntS k) (arun Try.prog (E_laws_heldIntS k) k)) k [true, false, true, true] [n] (bodyOf Try.f17) ⟨[.tv (.row (.int .i64)) x0, .int .i64 x1, .undef, .undef, .undef, .int .i64 x5, .undef, .undef, .undef, .undef, .undef, .undef, .undef, .undef, .undef, .undef, .undef, .undef, .undef, .undef, .undef], []⟩ (leave (E_laws_heldIntS k) Try.f17 (fin1 (.int .i64)))
theorem laws_heldIntS.l2_0 (k : Nat) (x0 : List Int) (x1 : Int) (x5 : Int) : laws_heldIntS.l2 k 0 x0 x1 x5 = none := by kernel_rfl
theorem laws_heldIntS.l2_s (k n : Nat) (x0 : List Int) (x1 : Int) (x5 : Int) : laws_heldIntS.l2 k (n + 1) x0 x1 x5 =
  iteB (decide (x5 < ((List.length x0) : Int))) (iteB (decide (0 ≤ x5)) (iteB (decide (x5 < ((List.length x0) : Int))) (iteB ((List.getD x0 (Int.toNat x5) 0) != x1) (some (-1)) (laws_heldIntS.l2 k n x0 (IntKind.wrap .i64 (x1 + 1)) (IntKind.wrap .i64 (x5 + 1)))) (none)) (none)) (some x1) := by kernel_rfl
theorem laws_heldIntS_e (k : Nat) (a1 : List Int) (a2 : Int) : laws_heldIntS k a1 a2 =
  laws_heldIntS.l2 k k a1 a2 0 := by kernel_rfl
theorem E_laws_heldIntS_calls (k : Nat) : CallsOk Try.prog (E_laws_heldIntS k) (arun Try.prog (E_laws_heldIntS k) k) := by
  refine told_run (tyTOk _ _) ?_ (fun run h => regOk (tyTOk _ _) mixOk h) ?_ nameOk k
  · intro g m hg
    simp only [E_laws_heldIntS] at hg
    split at hg
    · cases hg; exact noCon_ok
    · cases hg
  · intro g hg r
    by_cases h : g = 17
    · subst h; simp [E_laws_heldIntS] at hg
    · simp [E_laws_heldIntS, h]
theorem f17_oklaws_heldIntS : Try.prog.funcs[17]? = some Try.f17 := by kernel_rfl
theorem laws_heldIntS_law (k : Nat) (a1 : List Int) (a2 : Int) (x : Int) (h : laws_heldIntS k a1 a2 = some x) : LawV Try.prog 17 [.tv (.row (.int .i64)) a1, .int .i64 a2] (tvn (.int .i64) x) := by
  unfold laws_heldIntS at h
  exact law1 (t := (.int .i64)) (tyTOk _ _) (E_laws_heldIntS_calls k) mixOk f17_oklaws_heldIntS (nameOk _ _ f17_oklaws_heldIntS) (by kernel_rfl) h
/-! laws.FnExactNext -/
noncomputable def E_laws_FnExactNext (k : Nat) : Env := ⟨ty, fun g => match g with
  | 18 => some (byVal fun ρ l K => match l with
    | [b1, b2] => (b1.as (.pair .str (.pair (.int .i64) (.pair (.int .i64) (.pair (.row (.pair (.int .i64) (.pair (.int .i64) (.pair (.int .i64) (.pair (.int .i64) (.pair (.int .i64) (.pair .str (.pair (.row (.int .i64)) .unit)))))))) .unit))))).bind fun c1 => (b2.as (.int .i64)).bind fun c2 => (laws_szUnit k c1 c2).bind fun r => K (tvn (.int .i64) r)
    | _ => none)
  | 20 => some (byNew (.pair .str (.pair (.int .i64) (.pair (.int .i64) (.pair (.row (.pair (.int .i64) (.pair (.int .i64) (.pair (.int .i64) (.pair (.int .i64) (.pair (.int .i64) (.pair .str (.pair (.row (.int .i64)) .unit)))))))) .unit)))) fun ρ l K => match l with
    | [b1] => (b1.as (.pair .str (.pair (.int .i64) (.pair (.int .i64) (.pair (.row (.pair (.int .i64) (.pair (.int .i64) (.pair (.int .i64) (.pair (.int .i64) (.pair (.int .i64) (.pair .str (.pair (.row (.int .i64)) .unit)))))))) .unit))))).bind fun c1 => (laws_toUnit k c1).bind fun r => K r
    | _ => none)
  | 19 => some (byFresh (.int .i64) fun ρ l K => match l with
    | [b1, b2] => (b1.as (.pair .str (.pair (.int .i64) (.pair (.int .i64) (.pair (.row (.pair (.int .i64) (.pair (.int .i64) (.pair (.int .i64) (.pair (.int .i64) (.pair (.int .i64) (.pair .str (.pair (.row (.int .i64)) .unit)))))))) .unit))))).bind fun c1 => (b2.as (.int .i64)).bind fun c2 => (spec_Next k c1 c2).bind fun r => K r
    | _ => none)
  | 21 => some (byFresh (.int .i64) fun ρ l K => match l with
    | [b1, b2] => (b1.as (.pair .str (.pair (.int .i64) (.pair (.int .i64) (.pair (.row (.pair (.int .i64) (.pair (.int .i64) (.pair (.int .i64) (.pair (.int .i64) (.pair (.int .i64) (.pair .str (.pair (.row (.int .i64)) .unit)))))))) .unit))))).bind fun c1 => (b2.as (.int .i64)).bind fun c2 => (impl_Next k c1 c2).bind fun r => K r
    | _ => none)
  | 13 => some (byVal fun ρ l K => match l with
    | [b1, b2] => (b1.as (.row (.int .i64))).bind fun c1 => (b2.as (.row (.int .i64))).bind fun c2 => (laws_eqIntS k c1 c2).bind fun r => K (tvn .bool r)
    | _ => none)
  | 22 => some (byVal fun ρ l K => match l with
    | [b1, b2] => (b1.as (.pair .str (.pair (.int .i64) (.pair (.int .i64) (.pair (.row (.pair (.int .i64) (.pair (.int .i64) (.pair (.int .i64) (.pair (.int .i64) (.pair (.int .i64) (.pair .str (.pair (.row (.int .i64)) .unit)))))))) .unit))))).bind fun c1 => (b2.as (.pair .str (.pair (.int .i64) (.pair (.int .i64) (.pair (.row (.pair (.int .i64) (.pair (.int .i64) (.pair (.int .i64) (.pair (.int .i64) (.pair (.int .i64) (.pair .str (.pair (.row (.int .i64)) .unit)))))))) .unit))))).bind fun c2 => (laws_eqUnit k c1 c2).bind fun r => K (tvn .bool r)
    | _ => none)
  | 58 => some (byMutD (.pair (.int .i64) (.pair (.int .i64) (.pair (.int .i64) (.pair (.int .i64) (.pair (.int .i64) (.pair .str (.pair (.row (.int .i64)) .unit))))))) fun ρ xs l K => match l with
    | [b1] => (b1.as (.int .i64)).bind fun c1 => (laws_markTacS k xs c1).bind fun r => K (tvM (.int .i64) r.1) r.2
    | _ => none)
  | 16 => some (byMutD (.int .i64) fun ρ xs l K => match l with
    | [b1] => (b1.as (.int .i64)).bind fun c1 => (laws_markIntS k xs c1).bind fun r => K (tvM (.int .i64) r.1) r.2
    | _ => none)
  | 17 => some (byVal fun ρ l K => match l with
    | [b1, b2] => (b1.as (.row (.int .i64))).bind fun c1 => (b2.as (.int .i64)).bind fun c2 => (laws_heldIntS k c1 c2).bind fun r => K (tvn (.int .i64) r)
    | _ => none)
  | 4 => some noCon
  | _ => none, fun f r => match f with | 4 => (match r with | 16 => some [1, 2, 6, 8] | _ => none) | _ => none⟩
noncomputable def laws_FnExactNext (k : Nat) (a1 : ByteArray × Int × Int × (List (Int × Int × Int × Int × Int × ByteArray × (List Int) × Unit)) × Unit) (a2 : Int) : Option (Bool) :=
  abody (E_laws_FnExactNext k) (arun Try.prog (E_laws_FnExactNext k) 9) k 4 Try.f4 [.tv (.pair .str (.pair (.int .i64) (.pair (.int .i64) (.pair (.row (.pair (.int .i64) (.pair (.int .i64) (.pair (.int .i64) (.pair (.int .i64) (.pair (.int .i64) (.pair .str (.pair (.row (.int .i64)) .unit)))))))) .unit)))) a1, .int .i64 a2] [] (fin1 .bool)
noncomputable def laws_FnExactNext.j16 (k : Nat) (x1 : Int) (y0_0 : ByteArray × Int × Int × (List (Int × Int × Int × Int × Int × ByteArray × (List Int) × Unit)) × Unit) (y1 : List Int) (y2 : List Int) : Option (Bool) :=
  resume (E_laws_FnExactNext k) 4 (acall (E_laws_FnExactNext k) (arun Try.prog (E_laws_FnExactNext k) 9)) k [true, true, true, true, true, true, true, true, true, true, true, true] [] (bodyOf Try.f4) ⟨[.undef, .int .i64 x1, .ptr 0 0 0, .undef, .undef, .undef, .sl 1, .undef, .sl 2, .undef, .undef, .undef, .undef, .undef, .undef, .undef, .undef, .undef, .undef, .undef, .undef, .undef, .undef, .undef, .undef, .undef, .undef, .undef, .undef, .undef, .undef, .undef, .undef, .undef, .undef, .undef, .undef, .undef, .undef, .undef, .undef, .undef, .undef, .undef, .undef, .undef, .undef, .undef, .undef, .undef, .undef, .undef, .undef, .undef, .undef, .undef, .undef, .undef, .undef, .undef, .undef, .undef, .undef, .undef, .undef, .undef, .undef, .undef, .undef, .undef, .undef, .undef, .undef, .undef], [some ⟨.raw true 4 (.agg [.str ByteArray.empty, .int .i64 0, .int .i64 0, .nils]) [.tv (.pair .str (.pair (.int .i64) (.pair (.int .i64) (.pair (.row (.pair (.int .i64) (.pair (.int .i64) (.pair (.int .i64) (.pair (.int .i64) (.pair (.int .i64) (.pair .str (.pair (.row (.int .i64)) .unit)))))))) .unit)))) y0_0], true⟩, some ⟨.typed (.int .i64) y1, false⟩, some ⟨.typed (.int .i64) y2, false⟩]⟩ (leave (E_laws_FnExactNext k) Try.f4 (fin1 .bool))
theorem laws_FnExactNext.j16_e (k : Nat) (x1 : Int) (y0_0 : ByteArray × Int × Int × (List (Int × Int × Int × Int × Int × ByteArray × (List Int) × Unit)) × Unit) (y1 : List Int) (y2 : List Int) : laws_FnExactNext.j16 k x1 y0_0 y1 y2 =
  bindO (laws_markIntS k y2 1) fun r11 => (bindO (laws_heldIntS k r11.2 1) fun r12 => (iteB (decide (r12 < 0)) (some false) (iteB (r12 != r11.1) (some false) (bindO (laws_toUnit k y0_0) fun r13 => (bindO (impl_Next k (r13.1, r13.2.1, r13.2.2.1, r13.2.2.2.1, ()) x1) fun r14 => (bindO (laws_eqIntS k r14 y1) fun r15 => (iteB (!r15) (some false) (bindO (laws_heldIntS k r11.2 1) fun r16 => (iteB (decide (r16 < 0)) (some false) (iteB (r16 != r11.1) (some false) (some true))))))))))) := by kernel_rfl
theorem laws_FnExactNext_e (k : Nat) (a1 : ByteArray × Int × Int × (List (Int × Int × Int × Int × Int × ByteArray × (List Int) × Unit)) × Unit) (a2 : Int) : laws_FnExactNext k a1 a2 =
  bindO (laws_szUnit k a1 1048576) fun r1 => (iteB (decide (r1 < 0)) (some true) (bindO (laws_toUnit k a1) fun r2 => (bindO (spec_Next k (r2.1, r2.2.1, r2.2.2.1, r2.2.2.2.1, ()) a2) fun r3 => (bindO (laws_toUnit k a1) fun r4 => (bindO (impl_Next k (r4.1, r4.2.1, r4.2.2.1, r4.2.2.2.1, ()) a2) fun r5 => (bindO (laws_eqIntS k r5 r3) fun r6 => (iteB (!r6) (some false) (bindO (laws_toUnit k a1) fun r7 => (bindO (laws_eqUnit k (r4.1, r4.2.1, r4.2.2.1, r4.2.2.2.1, ()) (r7.1, r7.2.1, r7.2.2.1, r7.2.2.2.1, ())) fun r8 => (iteB (!r8) (some false) (bindO (laws_markTacS k r4.2.2.2.1 1) fun r9 => (iteB (!(decide (r9.1 < 0))) (bindO (laws_eqIntS k r5 r3) fun r10 => (iteB (!r10) (some false) (gate k (laws_FnExactNext.j16 k a2 a1 r3 r5)))) (some false))))))))))))) := by kernel_rfl
theorem E_laws_FnExactNext_calls (k : Nat) : CallsOk Try.prog (E_laws_FnExactNext k) (arun Try.prog (E_laws_FnExactNext k) 9) := by
  refine told_run (tyTOk _ _) ?_ (fun run h => regOk (tyTOk _ _) mixOk h) ?_ nameOk 9
  · intro g m hg
    simp only [E_laws_FnExactNext] at hg
    split at hg
    · cases hg
      refine con_byVal fun ρ l K x hm => ?_
      split at hm
      · obtain ⟨c1, h1, hm⟩ := Option.bind_eq_some_iff.1 hm
        obtain ⟨c2, h2, hm⟩ := Option.bind_eq_some_iff.1 hm
        obtain ⟨r, hr, hm⟩ := Option.bind_eq_some_iff.1 hm
        exact ⟨_, hm, LawV.reads (.cons (.as h1) (.cons (.as h2) .nil)) (laws_szUnit_law k c1 c2 r hr)⟩
      · cases hm
    · cases hg
      refine con_byNew fun ρ l K x hm => ?_
      split at hm
      · obtain ⟨c1, h1, hm⟩ := Option.bind_eq_some_iff.1 hm
        obtain ⟨r, hr, hm⟩ := Option.bind_eq_some_iff.1 hm
        exact ⟨_, hm, LawD.reads (.cons (.as h1) .nil) (laws_toUnit_law k c1 r hr)⟩
      · cases hm
    · cases hg
      refine con_byFresh fun ρ l K x hm => ?_
      split at hm
      · obtain ⟨c1, h1, hm⟩ := Option.bind_eq_some_iff.1 hm
        obtain ⟨c2, h2, hm⟩ := Option.bind_eq_some_iff.1 hm
        obtain ⟨r, hr, hm⟩ := Option.bind_eq_some_iff.1 hm
        exact ⟨_, hm, LawF.reads (.cons (.as h1) (.cons (.as h2) .nil)) (spec_Next_law k c1 c2 r hr)⟩
      · cases hm
    · cases hg
      refine con_byFresh fun ρ l K x hm => ?_
      split at hm
      · obtain ⟨c1, h1, hm⟩ := Option.bind_eq_some_iff.1 hm
        obtain ⟨c2, h2, hm⟩ := Option.bind_eq_some_iff.1 hm
        obtain ⟨r, hr, hm⟩ := Option.bind_eq_some_iff.1 hm
        exact ⟨_, hm, LawF.reads (.cons (.as h1) (.cons (.as h2) .nil)) (impl_Next_law k c1 c2 r hr)⟩
      · cases hm
    · cases hg
      refine con_byVal fun ρ l K x hm => ?_
      split at hm
      · obtain ⟨c1, h1, hm⟩ := Option.bind_eq_some_iff.1 hm
        obtain ⟨c2, h2, hm⟩ := Option.bind_eq_some_iff.1 hm
        obtain ⟨r, hr, hm⟩ := Option.bind_eq_some_iff.1 hm
        exact ⟨_, hm, LawV.reads (.cons (.as h1) (.cons (.as h2) .nil)) (laws_eqIntS_law k c1 c2 r hr)⟩
      · cases hm
    · cases hg
      refine con_byVal fun ρ l K x hm => ?_
      split at hm
      · obtain ⟨c1, h1, hm⟩ := Option.bind_eq_some_iff.1 hm
        obtain ⟨c2, h2, hm⟩ := Option.bind_eq_some_iff.1 hm
        obtain ⟨r, hr, hm⟩ := Option.bind_eq_some_iff.1 hm
        exact ⟨_, hm, LawV.reads (.cons (.as h1) (.cons (.as h2) .nil)) (laws_eqUnit_law k c1 c2 r hr)⟩
      · cases hm
    · cases hg
      refine con_byMutD fun ρ xs l K x hm => ?_
      split at hm
      · obtain ⟨c1, h1, hm⟩ := Option.bind_eq_some_iff.1 hm
        obtain ⟨r, hr, hm⟩ := Option.bind_eq_some_iff.1 hm
        exact ⟨_, _, hm, LawMd.reads (.cons (.as h1) .nil) (laws_markTacS_law k xs c1 r hr)⟩
      · cases hm
    · cases hg
      refine con_byMutD fun ρ xs l K x hm => ?_
      split at hm
      · obtain ⟨c1, h1, hm⟩ := Option.bind_eq_some_iff.1 hm
        obtain ⟨r, hr, hm⟩ := Option.bind_eq_some_iff.1 hm
        exact ⟨_, _, hm, LawMd.reads (.cons (.as h1) .nil) (laws_markIntS_law k xs c1 r hr)⟩
      · cases hm
    · cases hg
      refine con_byVal fun ρ l K x hm => ?_
      split at hm
      · obtain ⟨c1, h1, hm⟩ := Option.bind_eq_some_iff.1 hm
        obtain ⟨c2, h2, hm⟩ := Option.bind_eq_some_iff.1 hm
        obtain ⟨r, hr, hm⟩ := Option.bind_eq_some_iff.1 hm
        exact ⟨_, hm, LawV.reads (.cons (.as h1) (.cons (.as h2) .nil)) (laws_heldIntS_law k c1 c2 r hr)⟩
      · cases hm
    · cases hg; exact noCon_ok
    · cases hg
  · intro g hg r
    by_cases h : g = 4
    · subst h; simp [E_laws_FnExactNext] at hg
    · simp [E_laws_FnExactNext, h]
theorem f4_oklaws_FnExactNext : Try.prog.funcs[4]? = some Try.f4 := by kernel_rfl
theorem laws_FnExactNext_law (k : Nat) (a1 : ByteArray × Int × Int × (List (Int × Int × Int × Int × Int × ByteArray × (List Int) × Unit)) × Unit) (a2 : Int) (x : Bool) (h : laws_FnExactNext k a1 a2 = some x) : LawV Try.prog 4 [.tv (.pair .str (.pair (.int .i64) (.pair (.int .i64) (.pair (.row (.pair (.int .i64) (.pair (.int .i64) (.pair (.int .i64) (.pair (.int .i64) (.pair (.int .i64) (.pair .str (.pair (.row (.int .i64)) .unit)))))))) .unit)))) a1, .int .i64 a2] (tvn .bool x) := by
  unfold laws_FnExactNext at h
  exact law1 (t := .bool) (tyTOk _ _) (E_laws_FnExactNext_calls k) mixOk f4_oklaws_FnExactNext (nameOk _ _ f4_oklaws_FnExactNext) (by kernel_rfl) h
end Go.Proofs.Ytampamlgkfhliaa.XFnExactNext
