/- Functions of the program as runs of the interpreter: equations, and a law for each. -/
import Derived.Test.YtapijpjgfpjahaaProg
import Derived.Test.YtapijpjgfpjahaaChecked
import Derived.KernelRfl
import Derived.Eval
import Derived.Test.YtapijpjgfpjahaaATyOk
import Derived.Test.YtapijpjgfpjahaaAS33
import Derived.Test.YtapijpjgfpjahaaAMFnExactUnitsOk3
open Go Go.AM Go.AMx Go.Proofs
namespace Go.Proofs.Ytapijpjgfpjahaa.XFnExactUnitsOk
set_option linter.unusedVariables false
set_option linter.unusedSimpArgs false
/-! impl.Uses -/
noncomputable def E_impl_Uses (k : Nat) : Env := ⟨ty, fun g => match g with
  | 103 => some (byVal fun ρ l K => match l with
    | [b1, b2] => (b1.as (.int .i64)).bind fun c1 => (b2.as (.int .u8)).bind fun c2 => (impl_owned k c1 c2).bind fun r => K (tvn .bool r)
    | _ => none)
  | 163 => some noCon
  | _ => none, fun f r => match f with | 163 => (match r with | 4 => some [1, 3, 11, 12, 13] | 12 => some [1, 3] | 14 => some [1, 3] | _ => none) | _ => none⟩
noncomputable def impl_Uses (k : Nat) (a1 : Int × Int × Int × Int × Int × ByteArray × (List Int) × Unit) : Option (List Int) :=
  abody (E_impl_Uses k) (arun Try.prog (E_impl_Uses k) k) k 163 Try.f163 [.tv (.pair (.int .i64) (.pair (.int .i64) (.pair (.int .i64) (.pair (.int .i64) (.pair (.int .i64) (.pair .str (.pair (.row (.int .i64)) .unit))))))) a1] [] (fin1 (.row (.int .i64)))
noncomputable def impl_Uses.l4 (k n : Nat) (x11 : List Int) (x12 : Int) (x13 : Int) (y0_0 : Int × Int × Int × Int × Int × ByteArray × (List Int) × Unit) : Option (List Int) :=
  resume (E_impl_Uses k) 163 (acall (E_impl_Uses k) (arun Try.prog (E_impl_Uses k) k)) k [true, true, false, true, false, false, true, true] [n] (bodyOf Try.f163) ⟨[.undef, .ptr 0 0 0, .undef, .sl 1, .undef, .undef, .undef, .undef, .undef, .undef, .undef, .tv (.row (.int .i64)) x11, .int .i64 x12, .int .i64 x13, .undef, .undef, .undef, .undef, .undef, .undef, .undef, .undef, .undef, .undef, .undef, .undef, .undef, .undef, .undef, .undef, .undef, .undef, .undef, .undef, .undef, .undef, .undef, .undef, .undef, .undef, .undef, .undef, .undef, .undef, .undef, .undef, .undef, .undef, .undef, .undef, .undef, .undef, .undef, .undef, .undef, .undef, .undef, .undef, .undef, .undef, .undef, .undef, .undef, .undef, .undef], [some ⟨.raw true 7 (.agg [.int .i64 0, .int .i64 0, .int .i64 0, .int .i64 0, .int .i64 0, .str ByteArray.empty, .nils]) [.tv (.pair (.int .i64) (.pair (.int .i64) (.pair (.int .i64) (.pair (.int .i64) (.pair (.int .i64) (.pair .str (.pair (.row (.int .i64)) .unit))))))) y0_0], true⟩, some ⟨.typed (.int .i64) [], true⟩]⟩ (leave (E_impl_Uses k) Try.f163 (fin1 (.row (.int .i64))))
noncomputable def impl_Uses.j12 (k : Nat) (y0_0 : Int × Int × Int × Int × Int × ByteArray × (List Int) × Unit) (y1 : List Int) : Option (List Int) :=
  resume (E_impl_Uses k) 163 (acall (E_impl_Uses k) (arun Try.prog (E_impl_Uses k) k)) k [true, true, true, true] [] (bodyOf Try.f163) ⟨[.undef, .ptr 0 0 0, .undef, .sl 1, .undef, .undef, .undef, .undef, .undef, .undef, .undef, .undef, .undef, .undef, .undef, .undef, .undef, .undef, .undef, .undef, .undef, .undef, .undef, .undef, .undef, .undef, .undef, .undef, .undef, .undef, .undef, .undef, .undef, .undef, .undef, .undef, .undef, .undef, .undef, .undef, .undef, .undef, .undef, .undef, .undef, .undef, .undef, .undef, .undef, .undef, .undef, .undef, .undef, .undef, .undef, .undef, .undef, .undef, .undef, .undef, .undef, .undef, .undef, .undef, .undef], [some ⟨.raw true 7 (.agg [.int .i64 0, .int .i64 0, .int .i64 0, .int .i64 0, .int .i64 0, .str ByteArray.empty, .nils]) [.tv (.pair (.int .i64) (.pair (.int .i64) (.pair (.int .i64) (.pair (.int .i64) (.pair (.int .i64) (.pair .str (.pair (.row (.int .i64)) .unit))))))) y0_0], true⟩, some ⟨.typed (.int .i64) y1, false⟩]⟩ (leave (E_impl_Uses k) Try.f163 (fin1 (.row (.int .i64))))
noncomputable def impl_Uses.j12b (k : Nat) (y0_0 : Int × Int × Int × Int × Int × ByteArray × (List Int) × Unit) : Option (List Int) :=
  resume (E_impl_Uses k) 163 (acall (E_impl_Uses k) (arun Try.prog (E_impl_Uses k) k)) k [true, true, true, true] [] (bodyOf Try.f163) ⟨[.undef, .ptr 0 0 0, .undef, .sl 1, .undef, .undef, .undef, .undef, .undef, .undef, .undef, .undef, .undef, .undef, .undef, .undef, .undef, .undef, .undef, .undef, .undef, .undef, .undef, .undef, .undef, .undef, .undef, .undef, .undef, .undef, .undef, .undef, .undef, .undef, .undef, .undef, .undef, .undef, .undef, .undef, .undef, .undef, .undef, .undef, .undef, .undef, .undef, .undef, .undef, .undef, .undef, .undef, .undef, .undef, .undef, .undef, .undef, .undef, .undef, .undef, .undef, .undef, .undef, .undef, .undef], [some ⟨.raw true 7 (.agg [.int .i64 0, .int .i64 0, .int .i64 0, .int .i64 0, .int .i64 0, .str ByteArray.empty, .nils]) [.tv (.pair (.int .i64) (.pair (.int .i64) (.pair (.int .i64) (.pair (.int .i64) (.pair (.int .i64) (.pair .str (.pair (.row (.int .i64)) .unit))))))) y0_0], true⟩, some ⟨.typed (.int .i64) [], true⟩]⟩ (leave (E_impl_Uses k) Try.f163 (fin1 (.row (.int .i64))))
noncomputable def impl_Uses.l4b (k n : Nat) (x11 : List Int) (x12 : Int) (x13 : Int) (y0_0 : Int × Int × Int × Int × Int × ByteArray × (List Int) × Unit) (y1 : List Int) : Option (List Int) :=
  resume (E_impl_Uses k) 163 (acall (E_impl_Uses k) (arun Try.prog (E_impl_Uses k) k)) k [true, true, false, true, false, false, true, true] [n] (bodyOf Try.f163) ⟨[.undef, .ptr 0 0 0, .undef, .sl 1, .undef, .undef, .undef, .undef, .undef, .undef, .undef, .tv (.row (.int .i64)) x11, .int .i64 x12, .int .i64 x13, .undef, .undef, .undef, .undef, .undef, .undef, .undef, .undef, .undef, .undef, .undef, .undef, .undef, .undef, .undef, .undef, .undef, .undef, .undef, .undef, .undef, .undef, .undef, .undef, .undef, .undef, .undef, .undef, .undef, .undef, .undef, .undef, .undef, .undef, .undef, .undef, .undef, .undef, .undef, .undef, .undef, .undef, .undef, .undef, .undef, .undef, .undef, .undef, .undef, .undef, .undef], [some ⟨.raw true 7 (.agg [.int .i64 0, .int .i64 0, .int .i64 0, .int .i64 0, .int .i64 0, .str ByteArray.empty, .nils]) [.tv (.pair (.int .i64) (.pair (.int .i64) (.pair (.int .i64) (.pair (.int .i64) (.pair (.int .i64) (.pair .str (.pair (.row (.int .i64)) .unit))))))) y0_0], true⟩, some ⟨.typed (.int .i64) y1, false⟩]⟩ (leave (E_impl_Uses k) Try.f163 (fin1 (.row (.int .i64))))
noncomputable def impl_Uses.j14 (k : Nat) (y0_0 : Int × Int × Int × Int × Int × ByteArray × (List Int) × Unit) (y1 : List Int) : Option (List Int) :=
  resume (E_impl_Uses k) 163 (acall (E_impl_Uses k) (arun Try.prog (E_impl_Uses k) k)) k [true, true, true, true, true] [] (bodyOf Try.f163) ⟨[.undef, .ptr 0 0 0, .undef, .sl 1, .undef, .undef, .undef, .undef, .undef, .undef, .undef, .undef, .undef, .undef, .undef, .undef, .undef, .undef, .undef, .undef, .undef, .undef, .undef, .undef, .undef, .undef, .undef, .undef, .undef, .undef, .undef, .undef, .undef, .undef, .undef, .undef, .undef, .undef, .undef, .undef, .undef, .undef, .undef, .undef, .undef, .undef, .undef, .undef, .undef, .undef, .undef, .undef, .undef, .undef, .undef, .undef, .undef, .undef, .undef, .undef, .undef, .undef, .undef, .undef, .undef], [some ⟨.raw true 7 (.agg [.int .i64 0, .int .i64 0, .int .i64 0, .int .i64 0, .int .i64 0, .str ByteArray.empty, .nils]) [.tv (.pair (.int .i64) (.pair (.int .i64) (.pair (.int .i64) (.pair (.int .i64) (.pair (.int .i64) (.pair .str (.pair (.row (.int .i64)) .unit))))))) y0_0], true⟩, some ⟨.typed (.int .i64) y1, false⟩]⟩ (leave (E_impl_Uses k) Try.f163 (fin1 (.row (.int .i64))))
noncomputable def impl_Uses.j14b (k : Nat) (y0_0 : Int × Int × Int × Int × Int × ByteArray × (List Int) × Unit) : Option (List Int) :=
  resume (E_impl_Uses k) 163 (acall (E_impl_Uses k) (arun Try.prog (E_impl_Uses k) k)) k [true, true, true, true, true] [] (bodyOf Try.f163) ⟨[.undef, .ptr 0 0 0, .undef, .sl 1, .undef, .undef, .undef, .undef, .undef, .undef, .undef, .undef, .undef, .undef, .undef, .undef, .undef, .undef, .undef, .undef, .undef, .undef, .undef, .undef, .undef, .undef, .undef, .undef, .undef, .undef, .undef, .undef, .undef, .undef, .undef, .undef, .undef, .undef, .undef, .undef, .undef, .undef, .undef, .undef, .undef, .undef, .undef, .undef, .undef, .undef, .undef, .undef, .undef, .undef, .undef, .undef, .undef, .undef, .undef, .undef, .undef, .undef, .undef, .undef, .undef], [some ⟨.raw true 7 (.agg [.int .i64 0, .int .i64 0, .int .i64 0, .int .i64 0, .int .i64 0, .str ByteArray.empty, .nils]) [.tv (.pair (.int .i64) (.pair (.int .i64) (.pair (.int .i64) (.pair (.int .i64) (.pair (.int .i64) (.pair .str (.pair (.row (.int .i64)) .unit))))))) y0_0], true⟩, some ⟨.typed (.int .i64) [], true⟩]⟩ (leave (E_impl_Uses k) Try.f163 (fin1 (.row (.int .i64))))
theorem impl_Uses.l4_0 (k : Nat) (x11 : List Int) (x12 : Int) (x13 : Int) (y0_0 : Int × Int × Int × Int × Int × ByteArray × (List Int) × Unit) : impl_Uses.l4 k 0 x11 x12 x13 y0_0 = none := by kernel_rfl
theorem impl_Uses.l4_s (k n : Nat) (x11 : List Int) (x12 : Int) (x13 : Int) (y0_0 : Int × Int × Int × Int × Int × ByteArray × (List Int) × Unit) : impl_Uses.l4 k (n + 1) x11 x12 x13 y0_0 =
  iteB (decide (x13 < x12)) (iteB (decide (0 ≤ x13)) (iteB (decide (x13 < ((List.length x11) : Int))) (iteB (!((Int.tmod x13 3) == 1)) (iteB ((Int.tmod x13 3) == 2) (iteB (decide (0 ≤ IntKind.wrap .i64 (x13 - 2))) (iteB (decide (IntKind.wrap .i64 (x13 - 2) < ((List.length y0_0.2.2.2.2.2.2.1) : Int))) (iteB ((List.getD y0_0.2.2.2.2.2.2.1 (Int.toNat (IntKind.wrap .i64 (x13 - 2))) 0) == 2) (iteB (decide ((List.length ([] ++ [List.getD x11 (Int.toNat x13) 0])) * 8 ≤ lim)) (impl_Uses.l4b k n x11 x12 (IntKind.wrap .i64 (x13 + 1)) y0_0 ([] ++ [List.getD x11 (Int.toNat x13) 0])) (none)) (impl_Uses.l4 k n x11 x12 (IntKind.wrap .i64 (x13 + 1)) y0_0)) (none)) (none)) (impl_Uses.l4 k n x11 x12 (IntKind.wrap .i64 (x13 + 1)) y0_0)) (iteB (decide ((List.length ([] ++ [List.getD x11 (Int.toNat x13) 0])) * 8 ≤ lim)) (impl_Uses.l4b k n x11 x12 (IntKind.wrap .i64 (x13 + 1)) y0_0 ([] ++ [List.getD x11 (Int.toNat x13) 0])) (none))) (none)) (none)) (some []) := by kernel_rfl
theorem impl_Uses.j12_e (k : Nat) (y0_0 : Int × Int × Int × Int × Int × ByteArray × (List Int) × Unit) (y1 : List Int) : impl_Uses.j12 k y0_0 y1 =
  bindO (impl_owned k y0_0.1 66) fun r2 => (iteB r2 (iteB (decide ((List.length (y1 ++ [y0_0.2.2.2.1])) * 8 ≤ lim)) (gate k (impl_Uses.j14 k y0_0 (y1 ++ [y0_0.2.2.2.1]))) (none)) (gate k (impl_Uses.j14 k y0_0 y1))) := by kernel_rfl
theorem impl_Uses.j12b_e (k : Nat) (y0_0 : Int × Int × Int × Int × Int × ByteArray × (List Int) × Unit) : impl_Uses.j12b k y0_0 =
  bindO (impl_owned k y0_0.1 66) fun r3 => (iteB r3 (iteB (decide ((List.length ([] ++ [y0_0.2.2.2.1])) * 8 ≤ lim)) (gate k (impl_Uses.j14 k y0_0 ([] ++ [y0_0.2.2.2.1]))) (none)) (gate k (impl_Uses.j14b k y0_0))) := by kernel_rfl
theorem impl_Uses.l4b_0 (k : Nat) (x11 : List Int) (x12 : Int) (x13 : Int) (y0_0 : Int × Int × Int × Int × Int × ByteArray × (List Int) × Unit) (y1 : List Int) : impl_Uses.l4b k 0 x11 x12 x13 y0_0 y1 = none := by kernel_rfl
theorem impl_Uses.l4b_s (k n : Nat) (x11 : List Int) (x12 : Int) (x13 : Int) (y0_0 : Int × Int × Int × Int × Int × ByteArray × (List Int) × Unit) (y1 : List Int) : impl_Uses.l4b k (n + 1) x11 x12 x13 y0_0 y1 =
  iteB (decide (x13 < x12)) (iteB (decide (0 ≤ x13)) (iteB (decide (x13 < ((List.length x11) : Int))) (iteB (!((Int.tmod x13 3) == 1)) (iteB ((Int.tmod x13 3) == 2) (iteB (decide (0 ≤ IntKind.wrap .i64 (x13 - 2))) (iteB (decide (IntKind.wrap .i64 (x13 - 2) < ((List.length y0_0.2.2.2.2.2.2.1) : Int))) (iteB ((List.getD y0_0.2.2.2.2.2.2.1 (Int.toNat (IntKind.wrap .i64 (x13 - 2))) 0) == 2) (iteB (decide ((List.length (y1 ++ [List.getD x11 (Int.toNat x13) 0])) * 8 ≤ lim)) (impl_Uses.l4b k n x11 x12 (IntKind.wrap .i64 (x13 + 1)) y0_0 (y1 ++ [List.getD x11 (Int.toNat x13) 0])) (none)) (impl_Uses.l4b k n x11 x12 (IntKind.wrap .i64 (x13 + 1)) y0_0 y1)) (none)) (none)) (impl_Uses.l4b k n x11 x12 (IntKind.wrap .i64 (x13 + 1)) y0_0 y1)) (iteB (decide ((List.length (y1 ++ [List.getD x11 (Int.toNat x13) 0])) * 8 ≤ lim)) (impl_Uses.l4b k n x11 x12 (IntKind.wrap .i64 (x13 + 1)) y0_0 (y1 ++ [List.getD x11 (Int.toNat x13) 0])) (none))) (none)) (none)) (some y1) := by kernel_rfl
theorem impl_Uses.j14_e (k : Nat) (y0_0 : Int × Int × Int × Int × Int × ByteArray × (List Int) × Unit) (y1 : List Int) : impl_Uses.j14 k y0_0 y1 =
  bindO (impl_owned k y0_0.1 88) fun r4 => (iteB r4 (iteB (decide ((List.length (y1 ++ y0_0.2.2.2.2.2.2.1)) * 8 ≤ lim)) (some (y1 ++ y0_0.2.2.2.2.2.2.1)) (none)) (some y1)) := by kernel_rfl
theorem impl_Uses.j14b_e (k : Nat) (y0_0 : Int × Int × Int × Int × Int × ByteArray × (List Int) × Unit) : impl_Uses.j14b k y0_0 =
  bindO (impl_owned k y0_0.1 88) fun r5 => (iteB r5 (iteB (decide ((List.length ([] ++ y0_0.2.2.2.2.2.2.1)) * 8 ≤ lim)) (some ([] ++ y0_0.2.2.2.2.2.2.1)) (none)) (some [])) := by kernel_rfl
theorem impl_Uses_e (k : Nat) (a1 : Int × Int × Int × Int × Int × ByteArray × (List Int) × Unit) : impl_Uses k a1 =
  iteB (a1.1 == 19) (impl_Uses.l4 k k a1.2.2.2.2.2.2.1 ((List.length a1.2.2.2.2.2.2.1) : Int) 0 a1) (bindO (impl_owned k a1.1 65) fun r1 => (iteB r1 (iteB (decide ((List.length ([] ++ [a1.2.2.1])) * 8 ≤ lim)) (gate k (impl_Uses.j12 k a1 ([] ++ [a1.2.2.1]))) (none)) (gate k (impl_Uses.j12b k a1)))) := by kernel_rfl
theorem E_impl_Uses_calls (k : Nat) : CallsOk Try.prog (E_impl_Uses k) (arun Try.prog (E_impl_Uses k) k) := by
  refine told_run (tyTOk _ _) ?_ (fun run h => regOk (tyTOk _ _) mixOk h) ?_ nameOk k
  · intro g m hg
    simp only [E_impl_Uses] at hg
    split at hg
    · cases hg
      refine con_byVal fun ρ l K x hm => ?_
      split at hm
      · obtain ⟨c1, h1, hm⟩ := Option.bind_eq_some_iff.1 hm
        obtain ⟨c2, h2, hm⟩ := Option.bind_eq_some_iff.1 hm
        obtain ⟨r, hr, hm⟩ := Option.bind_eq_some_iff.1 hm
        exact ⟨_, hm, LawV.reads (.cons (.as h1) (.cons (.as h2) .nil)) (impl_owned_law k c1 c2 r hr)⟩
      · cases hm
    · cases hg; exact noCon_ok
    · cases hg
  · intro g hg r
    by_cases h : g = 163
    · subst h; simp [E_impl_Uses] at hg
    · simp [E_impl_Uses, h]
theorem f163_okimpl_Uses : Try.prog.funcs[163]? = some Try.f163 := by kernel_rfl
theorem impl_Uses_law (k : Nat) (a1 : Int × Int × Int × Int × Int × ByteArray × (List Int) × Unit) (x : List Int) (h : impl_Uses k a1 = some x) : LawV Try.prog 163 [.tv (.pair (.int .i64) (.pair (.int .i64) (.pair (.int .i64) (.pair (.int .i64) (.pair (.int .i64) (.pair .str (.pair (.row (.int .i64)) .unit))))))) a1] (tvn (.row (.int .i64)) x) := by
  unfold impl_Uses at h
  exact law1 (t := (.row (.int .i64))) (tyTOk _ _) (E_impl_Uses_calls k) mixOk f163_okimpl_Uses (nameOk _ _ f163_okimpl_Uses) (by kernel_rfl) h
/-! impl.tacOk$1 -/
noncomputable def E_impl_tacOk_1_vbp (k : Nat) : Env := ⟨ty, fun g => match g with
  | 78 => some (byVal fun ρ l K => match l with
    | [b1, b2, b3] => (b1.as (.int .i64)).bind fun c1 => (b2.as (.int .i64)).bind fun c2 => (b3.as (.int .i64)).bind fun c3 => (impl_within k c1 c2 c3).bind fun r => K (tvn .bool r)
    | _ => none)
  | _ => none, fun _ _ => none⟩
noncomputable def impl_tacOk_1_vbp (k : Nat) (a1 : Int) (a2 : Int) : Option (Bool) :=
  abody (E_impl_tacOk_1_vbp k) (arun Try.prog (E_impl_tacOk_1_vbp k) k) k 164 Try.f164 [.int .i64 a1, .bp [.int .i64 a2] 0] [] (fin1 .bool)
theorem impl_tacOk_1_vbp_e (k : Nat) (a1 : Int) (a2 : Int) : impl_tacOk_1_vbp k a1 a2 =
  bindO (impl_within k a1 0 (IntKind.wrap .i64 (a2 - 1))) fun r1 => (some (!r1)) := by kernel_rfl
theorem E_impl_tacOk_1_vbp_calls (k : Nat) : CallsOk Try.prog (E_impl_tacOk_1_vbp k) (arun Try.prog (E_impl_tacOk_1_vbp k) k) := by
  refine told_run (tyTOk _ _) ?_ (fun run h => regOk (tyTOk _ _) mixOk h) ?_ nameOk k
  · intro g m hg
    simp only [E_impl_tacOk_1_vbp] at hg
    split at hg
    · cases hg
      refine con_byVal fun ρ l K x hm => ?_
      split at hm
      · obtain ⟨c1, h1, hm⟩ := Option.bind_eq_some_iff.1 hm
        obtain ⟨c2, h2, hm⟩ := Option.bind_eq_some_iff.1 hm
        obtain ⟨c3, h3, hm⟩ := Option.bind_eq_some_iff.1 hm
        obtain ⟨r, hr, hm⟩ := Option.bind_eq_some_iff.1 hm
        exact ⟨_, hm, LawV.reads (.cons (.as h1) (.cons (.as h2) (.cons (.as h3) .nil))) (impl_within_law k c1 c2 c3 r hr)⟩
      · cases hm
    · cases hg
  · intro g _ r; rfl
theorem f164_okimpl_tacOk_1_vbp : Try.prog.funcs[164]? = some Try.f164 := by kernel_rfl
theorem impl_tacOk_1_vbp_law (k : Nat) (a1 : Int) (a2 : Int) (x : Bool) (h : impl_tacOk_1_vbp k a1 a2 = some x) : LawV Try.prog 164 [.int .i64 a1, .bp [.int .i64 a2] 0] (tvn .bool x) := by
  unfold impl_tacOk_1_vbp at h
  exact law1 (t := .bool) (tyTOk _ _) (E_impl_tacOk_1_vbp_calls k) mixOk f164_okimpl_tacOk_1_vbp (nameOk _ _ f164_okimpl_tacOk_1_vbp) (by kernel_rfl) h
/-! slices.IndexFunc[[]int,int] -/
noncomputable def E_slices_IndexFunc_int__impl_tacOk_1 (k : Nat) : Env := ⟨ty, fun g => match g with
  | 164 => some (byVal fun ρ l K => match l with
    | [b1, .bp [b2] 0] => (b1.as (.int .i64)).bind fun c1 => (b2.as (.int .i64)).bind fun c2 => (impl_tacOk_1_vbp k c1 c2).bind fun r => K (tvn .bool r)
    | _ => none)
  | 191 => some noCon
  | _ => none, fun f r => match f with | 191 => (match r with | 2 => some [0, 1, 7, 8] | _ => none) | _ => none⟩
noncomputable def slices_IndexFunc_int__impl_tacOk_1 (k : Nat) (a1 : List Int) (a2 : Int) : Option (Int) :=
  abody (E_slices_IndexFunc_int__impl_tacOk_1 k) (arun Try.prog (E_slices_IndexFunc_int__impl_tacOk_1 k) k) k 191 Try.f191 [.tv (.row (.int .i64)) a1, .fn 164 [.bp [.int .i64 a2] 0]] [] (fin1 (.int .i64))
noncomputable def slices_IndexFunc_int__impl_tacOk_1.l2 (k n : Nat) (x0 : List Int) (x1_0_0 : Int) (x7 : Int) (x8 : Int) : Option (Int) :=
  resume (E_slices_IndexFunc_int__impl_tacOk_1 k) 191 (acall (E_slices_IndexFunc_int__impl_tacOk_1 k) (arun Try.prog (E_slices_IndexFunc_int__impl_tacOk_1 k) k)) k [true, false, true, true] [n] (bodyOf Try.f191) ⟨[.tv (.row (.int .i64)) x0, .fn 164 [.bp [.int .i64 x1_0_0] 0], .undef, .undef, .undef, .undef, .undef, .int .i64 x7, .int .i64 x8, .undef, .undef, .undef, .undef, .undef, .undef, .undef, .undef, .undef, .undef], []⟩ (leave (E_slices_IndexFunc_int__impl_tacOk_1 k) Try.f191 (fin1 (.int .i64)))
theorem slices_IndexFunc_int__impl_tacOk_1.l2_0 (k : Nat) (x0 : List Int) (x1_0_0 : Int) (x7 : Int) (x8 : Int) : slices_IndexFunc_int__impl_tacOk_1.l2 k 0 x0 x1_0_0 x7 x8 = none := by kernel_rfl
theorem slices_IndexFunc_int__impl_tacOk_1.l2_s (k n : Nat) (x0 : List Int) (x1_0_0 : Int) (x7 : Int) (x8 : Int) : slices_IndexFunc_int__impl_tacOk_1.l2 k (n + 1) x0 x1_0_0 x7 x8 =
  iteB (decide (x8 < x7)) (iteB (decide (0 ≤ x8)) (iteB (decide (x8 < ((List.length x0) : Int))) (bindO (impl_tacOk_1_vbp k (List.getD x0 (Int.toNat x8) 0) x1_0_0) fun r1 => (iteB r1 (some x8) (slices_IndexFunc_int__impl_tacOk_1.l2 k n x0 x1_0_0 x7 (IntKind.wrap .i64 (x8 + 1))))) (none)) (none)) (some (-1)) := by kernel_rfl
theorem slices_IndexFunc_int__impl_tacOk_1_e (k : Nat) (a1 : List Int) (a2 : Int) : slices_IndexFunc_int__impl_tacOk_1 k a1 a2 =
  slices_IndexFunc_int__impl_tacOk_1.l2 k k a1 a2 ((List.length a1) : Int) 0 := by kernel_rfl
theorem E_slices_IndexFunc_int__impl_tacOk_1_calls (k : Nat) : CallsOk Try.prog (E_slices_IndexFunc_int__impl_tacOk_1 k) (arun Try.prog (E_slices_IndexFunc_int__impl_tacOk_1 k) k) := by
  refine told_run (tyTOk _ _) ?_ (fun run h => regOk (tyTOk _ _) mixOk h) ?_ nameOk k
  · intro g m hg
    simp only [E_slices_IndexFunc_int__impl_tacOk_1] at hg
    split at hg
    · cases hg
      refine con_byVal fun ρ l K x hm => ?_
      split at hm
      · obtain ⟨c1, h1, hm⟩ := Option.bind_eq_some_iff.1 hm
        obtain ⟨c2, h2, hm⟩ := Option.bind_eq_some_iff.1 hm
        obtain ⟨r, hr, hm⟩ := Option.bind_eq_some_iff.1 hm
        exact ⟨_, hm, LawV.reads (.cons (.as h1) (.cons (.bp (.cons (.as h2) .nil)) .nil)) (impl_tacOk_1_vbp_law k c1 c2 r hr)⟩
      · cases hm
    · cases hg; exact noCon_ok
    · cases hg
  · intro g hg r
    by_cases h : g = 191
    · subst h; simp [E_slices_IndexFunc_int__impl_tacOk_1] at hg
    · simp [E_slices_IndexFunc_int__impl_tacOk_1, h]
theorem f191_okslices_IndexFunc_int__impl_tacOk_1 : Try.prog.funcs[191]? = some Try.f191 := by kernel_rfl
theorem slices_IndexFunc_int__impl_tacOk_1_law (k : Nat) (a1 : List Int) (a2 : Int) (x : Int) (h : slices_IndexFunc_int__impl_tacOk_1 k a1 a2 = some x) : LawV Try.prog 191 [.tv (.row (.int .i64)) a1, .fn 164 [.bp [.int .i64 a2] 0]] (tvn (.int .i64) x) := by
  unfold slices_IndexFunc_int__impl_tacOk_1 at h
  exact law1 (t := (.int .i64)) (tyTOk _ _) (E_slices_IndexFunc_int__impl_tacOk_1_calls k) mixOk f191_okslices_IndexFunc_int__impl_tacOk_1 (nameOk _ _ f191_okslices_IndexFunc_int__impl_tacOk_1) (by kernel_rfl) h
/-! slices.ContainsFunc[[]int,int] -/
noncomputable def E_slices_ContainsFunc_int__impl_tacOk_1 (k : Nat) : Env := ⟨ty, fun g => match g with
  | 191 => some (byVal fun ρ l K => match l with
    | [b1, .fn 164 [.bp [b2] 0]] => (b1.as (.row (.int .i64))).bind fun c1 => (b2.as (.int .i64)).bind fun c2 => (slices_IndexFunc_int__impl_tacOk_1 k c1 c2).bind fun r => K (tvn (.int .i64) r)
    | _ => none)
  | _ => none, fun _ _ => none⟩
noncomputable def slices_ContainsFunc_int__impl_tacOk_1 (k : Nat) (a1 : List Int) (a2 : Int) : Option (Bool) :=
  abody (E_slices_ContainsFunc_int__impl_tacOk_1 k) (arun Try.prog (E_slices_ContainsFunc_int__impl_tacOk_1 k) k) k 148 Try.f148 [.tv (.row (.int .i64)) a1, .fn 164 [.bp [.int .i64 a2] 0]] [] (fin1 .bool)
theorem slices_ContainsFunc_int__impl_tacOk_1_e (k : Nat) (a1 : List Int) (a2 : Int) : slices_ContainsFunc_int__impl_tacOk_1 k a1 a2 =
  bindO (slices_IndexFunc_int__impl_tacOk_1 k a1 a2) fun r1 => (some (decide (r1 ≥ 0))) := by kernel_rfl
theorem E_slices_ContainsFunc_int__impl_tacOk_1_calls (k : Nat) : CallsOk Try.prog (E_slices_ContainsFunc_int__impl_tacOk_1 k) (arun Try.prog (E_slices_ContainsFunc_int__impl_tacOk_1 k) k) := by
  refine told_run (tyTOk _ _) ?_ (fun run h => regOk (tyTOk _ _) mixOk h) ?_ nameOk k
  · intro g m hg
    simp only [E_slices_ContainsFunc_int__impl_tacOk_1] at hg
    split at hg
    · cases hg
      refine con_byVal fun ρ l K x hm => ?_
      split at hm
      · obtain ⟨c1, h1, hm⟩ := Option.bind_eq_some_iff.1 hm
        obtain ⟨c2, h2, hm⟩ := Option.bind_eq_some_iff.1 hm
        obtain ⟨r, hr, hm⟩ := Option.bind_eq_some_iff.1 hm
        exact ⟨_, hm, LawV.reads (.cons (.as h1) (.cons (.fn (.cons (.bp (.cons (.as h2) .nil)) .nil)) .nil)) (slices_IndexFunc_int__impl_tacOk_1_law k c1 c2 r hr)⟩
      · cases hm
    · cases hg
  · intro g _ r; rfl
theorem f148_okslices_ContainsFunc_int__impl_tacOk_1 : Try.prog.funcs[148]? = some Try.f148 := by kernel_rfl
theorem slices_ContainsFunc_int__impl_tacOk_1_law (k : Nat) (a1 : List Int) (a2 : Int) (x : Bool) (h : slices_ContainsFunc_int__impl_tacOk_1 k a1 a2 = some x) : LawV Try.prog 148 [.tv (.row (.int .i64)) a1, .fn 164 [.bp [.int .i64 a2] 0]] (tvn .bool x) := by
  unfold slices_ContainsFunc_int__impl_tacOk_1 at h
  exact law1 (t := .bool) (tyTOk _ _) (E_slices_ContainsFunc_int__impl_tacOk_1_calls k) mixOk f148_okslices_ContainsFunc_int__impl_tacOk_1 (nameOk _ _ f148_okslices_ContainsFunc_int__impl_tacOk_1) (by kernel_rfl) h
/-! impl.tacOk -/
noncomputable def E_impl_tacOk (k : Nat) : Env := ⟨ty, fun g => match g with
  | 160 => some (byVal fun ρ l K => match l with
    | [b1] => (b1.as (.int .i64)).bind fun c1 => (impl_owns k c1).bind fun r => K (tvn .str r)
    | _ => none)
  | 88 => some (byVal fun ρ l K => match l with
    | [b1] => (b1.as (.int .i64)).bind fun c1 => (impl_WordOk k c1).bind fun r => K (tvn .bool r)
    | _ => none)
  | 161 => some (byVal fun ρ l K => match l with
    | [b1, b2] => (b1.as (.pair (.int .i64) (.pair (.int .i64) (.pair (.int .i64) (.pair (.int .i64) (.pair (.int .i64) (.pair .str (.pair (.row (.int .i64)) .unit)))))))).bind fun c1 => (b2.as (.int .i64)).bind fun c2 => (impl_argsOk k c1 c2).bind fun r => K (tvn .bool r)
    | _ => none)
  | 103 => some (byVal fun ρ l K => match l with
    | [b1, b2] => (b1.as (.int .i64)).bind fun c1 => (b2.as (.int .u8)).bind fun c2 => (impl_owned k c1 c2).bind fun r => K (tvn .bool r)
    | _ => none)
  | 162 => some (byFresh (.int .i64) fun ρ l K => match l with
    | [b1] => (b1.as (.pair (.int .i64) (.pair (.int .i64) (.pair (.int .i64) (.pair (.int .i64) (.pair (.int .i64) (.pair .str (.pair (.row (.int .i64)) .unit)))))))).bind fun c1 => (impl_Sets k c1).bind fun r => K r
    | _ => none)
  | 163 => some (byVal fun ρ l K => match l with
    | [b1] => (b1.as (.pair (.int .i64) (.pair (.int .i64) (.pair (.int .i64) (.pair (.int .i64) (.pair (.int .i64) (.pair .str (.pair (.row (.int .i64)) .unit)))))))).bind fun c1 => (impl_Uses k c1).bind fun r => K (tvn (.row (.int .i64)) r)
    | _ => none)
  | 148 => some (byVal fun ρ l K => match l with
    | [b1, .fn 164 [.bp [b2] 0]] => (b1.as (.row (.int .i64))).bind fun c1 => (b2.as (.int .i64)).bind fun c2 => (slices_ContainsFunc_int__impl_tacOk_1 k c1 c2).bind fun r => K (tvn .bool r)
    | _ => none)
  | 97 => some noCon
  | _ => none, fun f r => match f with | 97 => (match r with | 3 => some [2, 3] | 5 => some [2, 3] | _ => none) | _ => none⟩
noncomputable def impl_tacOk (k : Nat) (a1 : Int × Int × Int × Int × Int × ByteArray × (List Int) × Unit) (a2 : Int) : Option (Bool) :=
  abody (E_impl_tacOk k) (arun Try.prog (E_impl_tacOk k) k) k 97 Try.f97 [.tv (.pair (.int .i64) (.pair (.int .i64) (.pair (.int .i64) (.pair (.int .i64) (.pair (.int .i64) (.pair .str (.pair (.row (.int .i64)) .unit))))))) a1, .int .i64 a2] [] (fin1 .bool)
noncomputable def impl_tacOk.j3 (k : Nat) (y0_0 : Int × Int × Int × Int × Int × ByteArray × (List Int) × Unit) (y1_0 : Int) : Option (Bool) :=
  resume (E_impl_tacOk k) 97 (acall (E_impl_tacOk k) (arun Try.prog (E_impl_tacOk k) k)) k [true, true] [] (bodyOf Try.f97) ⟨[.undef, .undef, .ptr 0 0 0, .ptr 1 0 0, .undef, .undef, .undef, .undef, .undef, .undef, .undef, .undef, .undef, .undef, .undef, .undef, .undef, .undef, .undef, .undef, .undef, .undef, .undef, .undef, .undef, .undef, .undef, .undef, .undef, .undef, .undef, .undef, .undef, .undef, .undef, .undef, .undef, .undef, .undef, .undef, .undef, .undef, .undef, .undef, .undef, .undef, .undef, .undef, .undef, .undef, .undef, .undef, .undef, .undef, .undef, .undef, .undef, .undef, .undef, .undef, .undef, .undef, .undef, .undef, .undef, .undef, .undef, .undef, .undef, .undef, .undef, .undef, .undef, .undef, .undef, .undef, .undef, .undef, .undef, .undef, .undef, .undef], [some ⟨.raw true 7 (.agg [.int .i64 0, .int .i64 0, .int .i64 0, .int .i64 0, .int .i64 0, .str ByteArray.empty, .nils]) [.tv (.pair (.int .i64) (.pair (.int .i64) (.pair (.int .i64) (.pair (.int .i64) (.pair (.int .i64) (.pair .str (.pair (.row (.int .i64)) .unit))))))) y0_0], true⟩, some ⟨.raw false 1 (.int .i64 0) [.int .i64 y1_0], true⟩]⟩ (leave (E_impl_tacOk k) Try.f97 (fin1 .bool))
noncomputable def impl_tacOk.j5 (k : Nat) (y0_0 : Int × Int × Int × Int × Int × ByteArray × (List Int) × Unit) (y1_0 : Int) : Option (Bool) :=
  resume (E_impl_tacOk k) 97 (acall (E_impl_tacOk k) (arun Try.prog (E_impl_tacOk k) k)) k [true, true, true] [] (bodyOf Try.f97) ⟨[.undef, .undef, .ptr 0 0 0, .ptr 1 0 0, .undef, .undef, .undef, .undef, .undef, .undef, .undef, .undef, .undef, .undef, .undef, .undef, .undef, .undef, .undef, .undef, .undef, .undef, .undef, .undef, .undef, .undef, .undef, .undef, .undef, .undef, .undef, .undef, .undef, .undef, .undef, .undef, .undef, .undef, .undef, .undef, .undef, .undef, .undef, .undef, .undef, .undef, .undef, .undef, .undef, .undef, .undef, .undef, .undef, .undef, .undef, .undef, .undef, .undef, .undef, .undef, .undef, .undef, .undef, .undef, .undef, .undef, .undef, .undef, .undef, .undef, .undef, .undef, .undef, .undef, .undef, .undef, .undef, .undef, .undef, .undef, .undef, .undef], [some ⟨.raw true 7 (.agg [.int .i64 0, .int .i64 0, .int .i64 0, .int .i64 0, .int .i64 0, .str ByteArray.empty, .nils]) [.tv (.pair (.int .i64) (.pair (.int .i64) (.pair (.int .i64) (.pair (.int .i64) (.pair (.int .i64) (.pair .str (.pair (.row (.int .i64)) .unit))))))) y0_0], true⟩, some ⟨.raw false 1 (.int .i64 0) [.int .i64 y1_0], true⟩]⟩ (leave (E_impl_tacOk k) Try.f97 (fin1 .bool))
theorem impl_tacOk.j3_e (k : Nat) (y0_0 : Int × Int × Int × Int × Int × ByteArray × (List Int) × Unit) (y1_0 : Int) : impl_tacOk.j3 k y0_0 y1_0 =
  bindO (impl_owned k y0_0.1 68) fun r4 => (iteB (!r4) (iteB (!(y0_0.2.1 != 0)) (bindO (impl_owned k y0_0.1 65) fun r5 => (iteB (!r5) (iteB (!(y0_0.2.2.1 != 0)) (bindO (impl_owned k y0_0.1 66) fun r6 => (iteB (!r6) (iteB (!(y0_0.2.2.2.1 != 0)) (bindO (impl_owned k y0_0.1 78) fun r7 => (iteB (!r7) (iteB (!(y0_0.2.2.2.2.1 != 0)) (bindO (impl_owned k y0_0.1 83) fun r8 => (iteB (!r8) (iteB (!(ByteArray.toList y0_0.2.2.2.2.2.1 == ByteArray.toList (⟨#[]⟩ : ByteArray))) (some false) (gate k (impl_tacOk.j5 k y0_0 y1_0))) (gate k (impl_tacOk.j5 k y0_0 y1_0)))) (some false)) (bindO (impl_owned k y0_0.1 83) fun r9 => (iteB (!r9) (iteB (!(ByteArray.toList y0_0.2.2.2.2.2.1 == ByteArray.toList (⟨#[]⟩ : ByteArray))) (some false) (gate k (impl_tacOk.j5 k y0_0 y1_0))) (gate k (impl_tacOk.j5 k y0_0 y1_0)))))) (some false)) (bindO (impl_owned k y0_0.1 78) fun r10 => (iteB (!r10) (iteB (!(y0_0.2.2.2.2.1 != 0)) (bindO (impl_owned k y0_0.1 83) fun r11 => (iteB (!r11) (iteB (!(ByteArray.toList y0_0.2.2.2.2.2.1 == ByteArray.toList (⟨#[]⟩ : ByteArray))) (some false) (gate k (impl_tacOk.j5 k y0_0 y1_0))) (gate k (impl_tacOk.j5 k y0_0 y1_0)))) (some false)) (bindO (impl_owned k y0_0.1 83) fun r12 => (iteB (!r12) (iteB (!(ByteArray.toList y0_0.2.2.2.2.2.1 == ByteArray.toList (⟨#[]⟩ : ByteArray))) (some false) (gate k (impl_tacOk.j5 k y0_0 y1_0))) (gate k (impl_tacOk.j5 k y0_0 y1_0)))))))) (some false)) (bindO (impl_owned k y0_0.1 66) fun r13 => (iteB (!r13) (iteB (!(y0_0.2.2.2.1 != 0)) (bindO (impl_owned k y0_0.1 78) fun r14 => (iteB (!r14) (iteB (!(y0_0.2.2.2.2.1 != 0)) (bindO (impl_owned k y0_0.1 83) fun r15 => (iteB (!r15) (iteB (!(ByteArray.toList y0_0.2.2.2.2.2.1 == ByteArray.toList (⟨#[]⟩ : ByteArray))) (some false) (gate k (impl_tacOk.j5 k y0_0 y1_0))) (gate k (impl_tacOk.j5 k y0_0 y1_0)))) (some false)) (bindO (impl_owned k y0_0.1 83) fun r16 => (iteB (!r16) (iteB (!(ByteArray.toList y0_0.2.2.2.2.2.1 == ByteArray.toList (⟨#[]⟩ : ByteArray))) (some false) (gate k (impl_tacOk.j5 k y0_0 y1_0))) (gate k (impl_tacOk.j5 k y0_0 y1_0)))))) (some false)) (bindO (impl_owned k y0_0.1 78) fun r17 => (iteB (!r17) (iteB (!(y0_0.2.2.2.2.1 != 0)) (bindO (impl_owned k y0_0.1 83) fun r18 => (iteB (!r18) (iteB (!(ByteArray.toList y0_0.2.2.2.2.2.1 == ByteArray.toList (⟨#[]⟩ : ByteArray))) (some false) (gate k (impl_tacOk.j5 k y0_0 y1_0))) (gate k (impl_tacOk.j5 k y0_0 y1_0)))) (some false)) (bindO (impl_owned k y0_0.1 83) fun r19 => (iteB (!r19) (iteB (!(ByteArray.toList y0_0.2.2.2.2.2.1 == ByteArray.toList (⟨#[]⟩ : ByteArray))) (some false) (gate k (impl_tacOk.j5 k y0_0 y1_0))) (gate k (impl_tacOk.j5 k y0_0 y1_0)))))))))) (some false)) (bindO (impl_owned k y0_0.1 65) fun r20 => (iteB (!r20) (iteB (!(y0_0.2.2.1 != 0)) (bindO (impl_owned k y0_0.1 66) fun r21 => (iteB (!r21) (iteB (!(y0_0.2.2.2.1 != 0)) (bindO (impl_owned k y0_0.1 78) fun r22 => (iteB (!r22) (iteB (!(y0_0.2.2.2.2.1 != 0)) (bindO (impl_owned k y0_0.1 83) fun r23 => (iteB (!r23) (iteB (!(ByteArray.toList y0_0.2.2.2.2.2.1 == ByteArray.toList (⟨#[]⟩ : ByteArray))) (some false) (gate k (impl_tacOk.j5 k y0_0 y1_0))) (gate k (impl_tacOk.j5 k y0_0 y1_0)))) (some false)) (bindO (impl_owned k y0_0.1 83) fun r24 => (iteB (!r24) (iteB (!(ByteArray.toList y0_0.2.2.2.2.2.1 == ByteArray.toList (⟨#[]⟩ : ByteArray))) (some false) (gate k (impl_tacOk.j5 k y0_0 y1_0))) (gate k (impl_tacOk.j5 k y0_0 y1_0)))))) (some false)) (bindO (impl_owned k y0_0.1 78) fun r25 => (iteB (!r25) (iteB (!(y0_0.2.2.2.2.1 != 0)) (bindO (impl_owned k y0_0.1 83) fun r26 => (iteB (!r26) (iteB (!(ByteArray.toList y0_0.2.2.2.2.2.1 == ByteArray.toList (⟨#[]⟩ : ByteArray))) (some false) (gate k (impl_tacOk.j5 k y0_0 y1_0))) (gate k (impl_tacOk.j5 k y0_0 y1_0)))) (some false)) (bindO (impl_owned k y0_0.1 83) fun r27 => (iteB (!r27) (iteB (!(ByteArray.toList y0_0.2.2.2.2.2.1 == ByteArray.toList (⟨#[]⟩ : ByteArray))) (some false) (gate k (impl_tacOk.j5 k y0_0 y1_0))) (gate k (impl_tacOk.j5 k y0_0 y1_0)))))))) (some false)) (bindO (impl_owned k y0_0.1 66) fun r28 => (iteB (!r28) (iteB (!(y0_0.2.2.2.1 != 0)) (bindO (impl_owned k y0_0.1 78) fun r29 => (iteB (!r29) (iteB (!(y0_0.2.2.2.2.1 != 0)) (bindO (impl_owned k y0_0.1 83) fun r30 => (iteB (!r30) (iteB (!(ByteArray.toList y0_0.2.2.2.2.2.1 == ByteArray.toList (⟨#[]⟩ : ByteArray))) (some false) (gate k (impl_tacOk.j5 k y0_0 y1_0))) (gate k (impl_tacOk.j5 k y0_0 y1_0)))) (some false)) (bindO (impl_owned k y0_0.1 83) fun r31 => (iteB (!r31) (iteB (!(ByteArray.toList y0_0.2.2.2.2.2.1 == ByteArray.toList (⟨#[]⟩ : ByteArray))) (some false) (gate k (impl_tacOk.j5 k y0_0 y1_0))) (gate k (impl_tacOk.j5 k y0_0 y1_0)))))) (some false)) (bindO (impl_owned k y0_0.1 78) fun r32 => (iteB (!r32) (iteB (!(y0_0.2.2.2.2.1 != 0)) (bindO (impl_owned k y0_0.1 83) fun r33 => (iteB (!r33) (iteB (!(ByteArray.toList y0_0.2.2.2.2.2.1 == ByteArray.toList (⟨#[]⟩ : ByteArray))) (some false) (gate k (impl_tacOk.j5 k y0_0 y1_0))) (gate k (impl_tacOk.j5 k y0_0 y1_0)))) (some false)) (bindO (impl_owned k y0_0.1 83) fun r34 => (iteB (!r34) (iteB (!(ByteArray.toList y0_0.2.2.2.2.2.1 == ByteArray.toList (⟨#[]⟩ : ByteArray))) (some false) (gate k (impl_tacOk.j5 k y0_0 y1_0))) (gate k (impl_tacOk.j5 k y0_0 y1_0))))))))))) := by kernel_rfl
theorem impl_tacOk.j5_e (k : Nat) (y0_0 : Int × Int × Int × Int × Int × ByteArray × (List Int) × Unit) (y1_0 : Int) : impl_tacOk.j5 k y0_0 y1_0 =
  bindO (impl_Sets k y0_0) fun r35 => (bindO (impl_Uses k y0_0) fun r36 => (iteB (decide ((List.length (r35 ++ r36)) * 8 ≤ lim)) (bindO (slices_ContainsFunc_int__impl_tacOk_1 k (r35 ++ r36) y1_0) fun r37 => (some (!r37))) (none))) := by kernel_rfl
theorem impl_tacOk_e (k : Nat) (a1 : Int × Int × Int × Int × Int × ByteArray × (List Int) × Unit) (a2 : Int) : impl_tacOk k a1 a2 =
  bindO (impl_owns k a1.1) fun r1 => (iteB (!(ByteArray.toList r1 == ByteArray.toList (⟨#[]⟩ : ByteArray))) (bindO (impl_WordOk k a1.2.2.2.2.1) fun r2 => (iteB (!(!r2)) (bindO (impl_argsOk k a1 a2) fun r3 => (iteB (!r3) (some false) (gate k (impl_tacOk.j3 k a1 a2)))) (some false))) (some false)) := by kernel_rfl
theorem E_impl_tacOk_calls (k : Nat) : CallsOk Try.prog (E_impl_tacOk k) (arun Try.prog (E_impl_tacOk k) k) := by
  refine told_run (tyTOk _ _) ?_ (fun run h => regOk (tyTOk _ _) mixOk h) ?_ nameOk k
  · intro g m hg
    simp only [E_impl_tacOk] at hg
    split at hg
    · cases hg
      refine con_byVal fun ρ l K x hm => ?_
      split at hm
      · obtain ⟨c1, h1, hm⟩ := Option.bind_eq_some_iff.1 hm
        obtain ⟨r, hr, hm⟩ := Option.bind_eq_some_iff.1 hm
        exact ⟨_, hm, LawV.reads (.cons (.as h1) .nil) (impl_owns_law k c1 r hr)⟩
      · cases hm
    · cases hg
      refine con_byVal fun ρ l K x hm => ?_
      split at hm
      · obtain ⟨c1, h1, hm⟩ := Option.bind_eq_some_iff.1 hm
        obtain ⟨r, hr, hm⟩ := Option.bind_eq_some_iff.1 hm
        exact ⟨_, hm, LawV.reads (.cons (.as h1) .nil) (impl_WordOk_law k c1 r hr)⟩
      · cases hm
    · cases hg
      refine con_byVal fun ρ l K x hm => ?_
      split at hm
      · obtain ⟨c1, h1, hm⟩ := Option.bind_eq_some_iff.1 hm
        obtain ⟨c2, h2, hm⟩ := Option.bind_eq_some_iff.1 hm
        obtain ⟨r, hr, hm⟩ := Option.bind_eq_some_iff.1 hm
        exact ⟨_, hm, LawV.reads (.cons (.as h1) (.cons (.as h2) .nil)) (impl_argsOk_law k c1 c2 r hr)⟩
      · cases hm
    · cases hg
      refine con_byVal fun ρ l K x hm => ?_
      split at hm
      · obtain ⟨c1, h1, hm⟩ := Option.bind_eq_some_iff.1 hm
        obtain ⟨c2, h2, hm⟩ := Option.bind_eq_some_iff.1 hm
        obtain ⟨r, hr, hm⟩ := Option.bind_eq_some_iff.1 hm
        exact ⟨_, hm, LawV.reads (.cons (.as h1) (.cons (.as h2) .nil)) (impl_owned_law k c1 c2 r hr)⟩
      · cases hm
    · cases hg
      refine con_byFresh fun ρ l K x hm => ?_
      split at hm
      · obtain ⟨c1, h1, hm⟩ := Option.bind_eq_some_iff.1 hm
        obtain ⟨r, hr, hm⟩ := Option.bind_eq_some_iff.1 hm
        exact ⟨_, hm, LawF.reads (.cons (.as h1) .nil) (impl_Sets_law k c1 r hr)⟩
      · cases hm
    · cases hg
      refine con_byVal fun ρ l K x hm => ?_
      split at hm
      · obtain ⟨c1, h1, hm⟩ := Option.bind_eq_some_iff.1 hm
        obtain ⟨r, hr, hm⟩ := Option.bind_eq_some_iff.1 hm
        exact ⟨_, hm, LawV.reads (.cons (.as h1) .nil) (impl_Uses_law k c1 r hr)⟩
      · cases hm
    · cases hg
      refine con_byVal fun ρ l K x hm => ?_
      split at hm
      · obtain ⟨c1, h1, hm⟩ := Option.bind_eq_some_iff.1 hm
        obtain ⟨c2, h2, hm⟩ := Option.bind_eq_some_iff.1 hm
        obtain ⟨r, hr, hm⟩ := Option.bind_eq_some_iff.1 hm
        exact ⟨_, hm, LawV.reads (.cons (.as h1) (.cons (.fn (.cons (.bp (.cons (.as h2) .nil)) .nil)) .nil)) (slices_ContainsFunc_int__impl_tacOk_1_law k c1 c2 r hr)⟩
      · cases hm
    · cases hg; exact noCon_ok
    · cases hg
  · intro g hg r
    by_cases h : g = 97
    · subst h; simp [E_impl_tacOk] at hg
    · simp [E_impl_tacOk, h]
theorem f97_okimpl_tacOk : Try.prog.funcs[97]? = some Try.f97 := by kernel_rfl
theorem impl_tacOk_law (k : Nat) (a1 : Int × Int × Int × Int × Int × ByteArray × (List Int) × Unit) (a2 : Int) (x : Bool) (h : impl_tacOk k a1 a2 = some x) : LawV Try.prog 97 [.tv (.pair (.int .i64) (.pair (.int .i64) (.pair (.int .i64) (.pair (.int .i64) (.pair (.int .i64) (.pair .str (.pair (.row (.int .i64)) .unit))))))) a1, .int .i64 a2] (tvn .bool x) := by
  unfold impl_tacOk at h
  exact law1 (t := .bool) (tyTOk _ _) (E_impl_tacOk_calls k) mixOk f97_okimpl_tacOk (nameOk _ _ f97_okimpl_tacOk) (by kernel_rfl) h
/-! impl.labelAt$1 -/
noncomputable def E_impl_labelAt_1_vbp (k : Nat) : Env := ⟨ty, fun _ => none, fun _ _ => none⟩
noncomputable def impl_labelAt_1_vbp (k : Nat) (a1 : Int × Int × Int × Int × Int × ByteArray × (List Int) × Unit) (a2 : Int) : Option (Bool) :=
  abody (E_impl_labelAt_1_vbp k) (arun Try.prog (E_impl_labelAt_1_vbp k) k) k 166 Try.f166 [.tv (.pair (.int .i64) (.pair (.int .i64) (.pair (.int .i64) (.pair (.int .i64) (.pair (.int .i64) (.pair .str (.pair (.row (.int .i64)) .unit))))))) a1, .bp [.int .i64 a2] 0] [] (fin1 .bool)
theorem impl_labelAt_1_vbp_e (k : Nat) (a1 : Int × Int × Int × Int × Int × ByteArray × (List Int) × Unit) (a2 : Int) : impl_labelAt_1_vbp k a1 a2 =
  iteB (a1.1 == 8) (some (a1.2.2.2.2.1 == a2)) (some false) := by kernel_rfl
theorem E_impl_labelAt_1_vbp_calls (k : Nat) : CallsOk Try.prog (E_impl_labelAt_1_vbp k) (arun Try.prog (E_impl_labelAt_1_vbp k) k) := by
  refine told_run (tyTOk _ _) ?_ (fun run h => regOk (tyTOk _ _) mixOk h) ?_ nameOk k
  · intro g m hg
    cases hg
  · intro g _ r; rfl
theorem f166_okimpl_labelAt_1_vbp : Try.prog.funcs[166]? = some Try.f166 := by kernel_rfl
theorem impl_labelAt_1_vbp_law (k : Nat) (a1 : Int × Int × Int × Int × Int × ByteArray × (List Int) × Unit) (a2 : Int) (x : Bool) (h : impl_labelAt_1_vbp k a1 a2 = some x) : LawV Try.prog 166 [.tv (.pair (.int .i64) (.pair (.int .i64) (.pair (.int .i64) (.pair (.int .i64) (.pair (.int .i64) (.pair .str (.pair (.row (.int .i64)) .unit))))))) a1, .bp [.int .i64 a2] 0] (tvn .bool x) := by
  unfold impl_labelAt_1_vbp at h
  exact law1 (t := .bool) (tyTOk _ _) (E_impl_labelAt_1_vbp_calls k) mixOk f166_okimpl_labelAt_1_vbp (nameOk _ _ f166_okimpl_labelAt_1_vbp) (by kernel_rfl) h
end Go.Proofs.Ytapijpjgfpjahaa.XFnExactUnitsOk
