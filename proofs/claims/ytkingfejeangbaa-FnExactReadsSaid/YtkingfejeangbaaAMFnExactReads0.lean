/- Functions of the program as runs of the interpreter: equations, and a law for each. -/
import Derived.Test.YtkingfejeangbaaProg
import Derived.Test.YtkingfejeangbaaChecked
import Derived.KernelRfl
import Derived.Eval
import Derived.Test.YtkingfejeangbaaATyOk
import Derived.Test.YtkingfejeangbaaAS40
import Derived.Test.YtkingfejeangbaaAS41
import Derived.Test.YtkingfejeangbaaAShelf
import Derived.Lib.RowBridge
open Go Go.AM Go.AMx Go.Proofs
namespace Go.Proofs.Ytkingfejeangbaa.XFnExactReads
set_option linter.unusedVariables false
set_option linter.unusedSimpArgs false
/-! laws.toIns -/
noncomputable def E_laws_toIns (k : Nat) : Env := ⟨tyD, fun _ => none, fun _ _ => none⟩
noncomputable def laws_toIns (k : Nat) (a1 : Int × Int × Int × Int × Int × Int × Unit) : Option (Int × Int × Int × Int × Int × Int × Unit) :=
  abody (E_laws_toIns k) (arun Try.prog (E_laws_toIns k) k) k 7 Try.f7 [.tv (.pair (.int .i64) (.pair (.int .i64) (.pair (.int .i64) (.pair (.int .i64) (.pair (.int .i64) (.pair (.int .i64) .unit)))))) a1] [] (finD (.pair (.int .i64) (.pair (.int .i64) (.pair (.int .i64) (.pair (.int .i64) (.pair (.int .i64) (.pair (.int .i64) .unit)))))))
theorem laws_toIns_e (k : Nat) (a1 : Int × Int × Int × Int × Int × Int × Unit) : laws_toIns k a1 =
  some (a1.1, a1.2.1, a1.2.2.1, a1.2.2.2.1, a1.2.2.2.2.1, a1.2.2.2.2.2.1, ()) := by kernel_rfl
theorem E_laws_toIns_calls (k : Nat) : CallsOk Try.prog (E_laws_toIns k) (arun Try.prog (E_laws_toIns k) k) := by
  refine told_run (tyDTOk _ _) ?_ (fun run h => regOk (tyDTOk _ _) mixOk h) ?_ nameOk k
  · intro g m hg
    cases hg
  · intro g _ r; rfl
theorem f7_oklaws_toIns : Try.prog.funcs[7]? = some Try.f7 := by kernel_rfl
theorem laws_toIns_law (k : Nat) (a1 : Int × Int × Int × Int × Int × Int × Unit) (x : Int × Int × Int × Int × Int × Int × Unit) (h : laws_toIns k a1 = some x) : LawD Try.prog 7 [.tv (.pair (.int .i64) (.pair (.int .i64) (.pair (.int .i64) (.pair (.int .i64) (.pair (.int .i64) (.pair (.int .i64) .unit)))))) a1] (.pair (.int .i64) (.pair (.int .i64) (.pair (.int .i64) (.pair (.int .i64) (.pair (.int .i64) (.pair (.int .i64) .unit)))))) x := by
  unfold laws_toIns at h
  exact lawD (t := (.pair (.int .i64) (.pair (.int .i64) (.pair (.int .i64) (.pair (.int .i64) (.pair (.int .i64) (.pair (.int .i64) .unit))))))) (tyDTOk _ _) (E_laws_toIns_calls k) mixOk f7_oklaws_toIns (nameOk _ _ f7_oklaws_toIns) (by kernel_rfl) h
/-! spec.l1In -/
noncomputable def E_spec_l1In (k : Nat) : Env := ⟨ty, fun _ => none, fun _ _ => none⟩
noncomputable def spec_l1In (k : Nat) (a1 : Int) (a2 : Int) (a3 : Int) : Option (Bool) :=
  abody (E_spec_l1In k) (arun Try.prog (E_spec_l1In k) k) k 35 Try.f35 [.int .i64 a1, .int .i64 a2, .int .i64 a3] [] (fin1 .bool)
theorem spec_l1In_e (k : Nat) (a1 : Int) (a2 : Int) (a3 : Int) : spec_l1In k a1 a2 a3 =
  iteB (decide (a1 ≥ a2)) (some (decide (a1 ≤ a3))) (some false) := by kernel_rfl
theorem E_spec_l1In_calls (k : Nat) : CallsOk Try.prog (E_spec_l1In k) (arun Try.prog (E_spec_l1In k) k) := by
  refine told_run (tyTOk _ _) ?_ (fun run h => regOk (tyTOk _ _) mixOk h) ?_ nameOk k
  · intro g m hg
    cases hg
  · intro g _ r; rfl
theorem f35_okspec_l1In : Try.prog.funcs[35]? = some Try.f35 := by kernel_rfl
theorem spec_l1In_law (k : Nat) (a1 : Int) (a2 : Int) (a3 : Int) (x : Bool) (h : spec_l1In k a1 a2 a3 = some x) : LawV Try.prog 35 [.int .i64 a1, .int .i64 a2, .int .i64 a3] (tvn .bool x) := by
  unfold spec_l1In at h
  exact law1 (t := .bool) (tyTOk _ _) (E_spec_l1In_calls k) mixOk f35_okspec_l1In (nameOk _ _ f35_okspec_l1In) (by kernel_rfl) h
/-! spec.l2Has -/
noncomputable def E_spec_l2Has (k : Nat) : Env := ⟨ty, fun g => match g with
  | 35 => some (byVal fun ρ l K => match l with
    | [b1, b2, b3] => (b1.as (.int .i64)).bind fun c1 => (b2.as (.int .i64)).bind fun c2 => (b3.as (.int .i64)).bind fun c3 => (spec_l1In k c1 c2 c3).bind fun r => K (tvn .bool r)
    | _ => none)
  | _ => none, fun _ _ => none⟩
noncomputable def spec_l2Has (k : Nat) (a1 : Int) : Option (Int) :=
  abody (E_spec_l2Has k) (arun Try.prog (E_spec_l2Has k) k) k 26 Try.f26 [.int .i64 a1] [] (fin1 (.int .i64))
theorem spec_l2Has_e (k : Nat) (a1 : Int) : spec_l2Has k a1 =
  bindO (spec_l1In k a1 1 19) fun r1 => (iteB (!r1) (some 0) (iteB (decide (0 ≤ a1)) (iteB (decide (a1 < ((List.length [0, 9, 3, 7, 7, 7, 7, 7, 11, 14, 7, 8, 10, 24, 0, 2, 6, 6, 1, 2]) : Int))) (some (List.getD [0, 9, 3, 7, 7, 7, 7, 7, 11, 14, 7, 8, 10, 24, 0, 2, 6, 6, 1, 2] (Int.toNat a1) 0)) (none)) (none))) := by kernel_rfl
theorem E_spec_l2Has_calls (k : Nat) : CallsOk Try.prog (E_spec_l2Has k) (arun Try.prog (E_spec_l2Has k) k) := by
  refine told_run (tyTOk _ _) ?_ (fun run h => regOk (tyTOk _ _) mixOk h) ?_ nameOk k
  · intro g m hg
    simp only [E_spec_l2Has] at hg
    split at hg
    · cases hg
      refine con_byVal fun ρ l K x hm => ?_
      split at hm
      · obtain ⟨c1, h1, hm⟩ := Option.bind_eq_some_iff.1 hm
        obtain ⟨c2, h2, hm⟩ := Option.bind_eq_some_iff.1 hm
        obtain ⟨c3, h3, hm⟩ := Option.bind_eq_some_iff.1 hm
        obtain ⟨r, hr, hm⟩ := Option.bind_eq_some_iff.1 hm
        exact ⟨_, hm, LawV.reads (.cons (.as h1) (.cons (.as h2) (.cons (.as h3) .nil))) (spec_l1In_law k c1 c2 c3 r hr)⟩
      · cases hm
    · cases hg
  · intro g _ r; rfl
theorem f26_okspec_l2Has : Try.prog.funcs[26]? = some Try.f26 := by kernel_rfl
theorem spec_l2Has_law (k : Nat) (a1 : Int) (x : Int) (h : spec_l2Has k a1 = some x) : LawV Try.prog 26 [.int .i64 a1] (tvn (.int .i64) x) := by
  unfold spec_l2Has at h
  exact law1 (t := (.int .i64)) (tyTOk _ _) (E_spec_l2Has_calls k) mixOk f26_okspec_l2Has (nameOk _ _ f26_okspec_l2Has) (by kernel_rfl) h
/-! spec.Reads -/
noncomputable def E_spec_Reads (k : Nat) : Env := ⟨ty, fun g => match g with
  | 26 => some (byVal fun ρ l K => match l with
    | [b1] => (b1.as (.int .i64)).bind fun c1 => (spec_l2Has k c1).bind fun r => K (tvn (.int .i64) r)
    | _ => none)
  | 6 => some noCon
  | _ => none, fun f r => match f with | 6 => (match r with | 4 => some [1, 3, 4, 5] | _ => none) | _ => none⟩
noncomputable def spec_Reads (k : Nat) (a1 : Int × Int × Int × Int × Int × Int × Unit) : Option (List Int) :=
  abody (E_spec_Reads k) (arun Try.prog (E_spec_Reads k) k) k 6 Try.f6 [.tv (.pair (.int .i64) (.pair (.int .i64) (.pair (.int .i64) (.pair (.int .i64) (.pair (.int .i64) (.pair (.int .i64) .unit)))))) a1] [] (fin1 (.row (.int .i64)))
noncomputable def spec_Reads.l4 (k n : Nat) (x4 : Int) (x5 : Int) (y0_0 : Int × Int × Int × Int × Int × Int × Unit) : Option (List Int) :=
  resume (E_spec_Reads k) 6 (acall (E_spec_Reads k) (arun Try.prog (E_spec_Reads k) k)) k [true, true, true, false, true, true] [n] (bodyOf Try.f6) ⟨[.undef, .ptr 0 0 0, .undef, .sl 1, .int .i64 x4, .int .i64 x5, .undef, .undef, .undef, .undef, .undef, .undef, .undef, .undef, .undef, .undef, .undef, .undef, .undef, .undef, .undef, .undef, .undef, .undef, .undef, .undef, .undef, .undef, .undef, .undef, .undef, .undef, .undef, .undef, .undef, .undef, .undef, .undef, .undef, .undef, .undef, .undef, .undef, .undef, .undef, .undef, .undef, .undef, .undef, .undef], [some ⟨.raw true 6 (.agg [.int .i64 0, .int .i64 0, .int .i64 0, .int .i64 0, .int .i64 0, .int .i64 0]) [.tv (.pair (.int .i64) (.pair (.int .i64) (.pair (.int .i64) (.pair (.int .i64) (.pair (.int .i64) (.pair (.int .i64) .unit)))))) y0_0], true⟩, some ⟨.typed (.int .i64) [], true⟩]⟩ (leave (E_spec_Reads k) Try.f6 (fin1 (.row (.int .i64))))
noncomputable def spec_Reads.l4b (k n : Nat) (x4 : Int) (x5 : Int) (y0_0 : Int × Int × Int × Int × Int × Int × Unit) (y1 : List Int) : Option (List Int) :=
  resume (E_spec_Reads k) 6 (acall (E_spec_Reads k) (arun Try.prog (E_spec_Reads k) k)) k [true, true, true, false, true, true] [n] (bodyOf Try.f6) ⟨[.undef, .ptr 0 0 0, .undef, .sl 1, .int .i64 x4, .int .i64 x5, .undef, .undef, .undef, .undef, .undef, .undef, .undef, .undef, .undef, .undef, .undef, .undef, .undef, .undef, .undef, .undef, .undef, .undef, .undef, .undef, .undef, .undef, .undef, .undef, .undef, .undef, .undef, .undef, .undef, .undef, .undef, .undef, .undef, .undef, .undef, .undef, .undef, .undef, .undef, .undef, .undef, .undef, .undef, .undef], [some ⟨.raw true 6 (.agg [.int .i64 0, .int .i64 0, .int .i64 0, .int .i64 0, .int .i64 0, .int .i64 0]) [.tv (.pair (.int .i64) (.pair (.int .i64) (.pair (.int .i64) (.pair (.int .i64) (.pair (.int .i64) (.pair (.int .i64) .unit)))))) y0_0], true⟩, some ⟨.typed (.int .i64) y1, false⟩]⟩ (leave (E_spec_Reads k) Try.f6 (fin1 (.row (.int .i64))))
theorem spec_Reads.l4_0 (k : Nat) (x4 : Int) (x5 : Int) (y0_0 : Int × Int × Int × Int × Int × Int × Unit) : spec_Reads.l4 k 0 x4 x5 y0_0 = none := by kernel_rfl
theorem spec_Reads.l4_s (k n : Nat) (x4 : Int) (x5 : Int) (y0_0 : Int × Int × Int × Int × Int × Int × Unit) : spec_Reads.l4 k (n + 1) x4 x5 y0_0 =
  iteB (decide (x5 < 6)) (iteB ((IntKind.wrap .i64 ((BitVec.ofInt (IntKind.bits .i64) x4 &&& BitVec.ofInt (IntKind.bits .i64) 2).toNat : Int)) != 0) (iteB (!(y0_0.2.2.1 == x5)) (iteB ((IntKind.wrap .i64 ((BitVec.ofInt (IntKind.bits .i64) x4 &&& BitVec.ofInt (IntKind.bits .i64) 4).toNat : Int)) != 0) (iteB (!(y0_0.2.2.2.1 == x5)) (iteB (y0_0.1 == 10) (iteB (y0_0.2.1 == x5) (iteB (decide ((List.length ([] ++ [x5])) * 8 ≤ lim)) (spec_Reads.l4b k n x4 (IntKind.wrap .i64 (x5 + 1)) y0_0 ([] ++ [x5])) (none)) (spec_Reads.l4 k n x4 (IntKind.wrap .i64 (x5 + 1)) y0_0)) (spec_Reads.l4 k n x4 (IntKind.wrap .i64 (x5 + 1)) y0_0)) (iteB (decide ((List.length ([] ++ [x5])) * 8 ≤ lim)) (spec_Reads.l4b k n x4 (IntKind.wrap .i64 (x5 + 1)) y0_0 ([] ++ [x5])) (none))) (iteB (y0_0.1 == 10) (iteB (y0_0.2.1 == x5) (iteB (decide ((List.length ([] ++ [x5])) * 8 ≤ lim)) (spec_Reads.l4b k n x4 (IntKind.wrap .i64 (x5 + 1)) y0_0 ([] ++ [x5])) (none)) (spec_Reads.l4 k n x4 (IntKind.wrap .i64 (x5 + 1)) y0_0)) (spec_Reads.l4 k n x4 (IntKind.wrap .i64 (x5 + 1)) y0_0))) (iteB (decide ((List.length ([] ++ [x5])) * 8 ≤ lim)) (spec_Reads.l4b k n x4 (IntKind.wrap .i64 (x5 + 1)) y0_0 ([] ++ [x5])) (none))) (iteB ((IntKind.wrap .i64 ((BitVec.ofInt (IntKind.bits .i64) x4 &&& BitVec.ofInt (IntKind.bits .i64) 4).toNat : Int)) != 0) (iteB (!(y0_0.2.2.2.1 == x5)) (iteB (y0_0.1 == 10) (iteB (y0_0.2.1 == x5) (iteB (decide ((List.length ([] ++ [x5])) * 8 ≤ lim)) (spec_Reads.l4b k n x4 (IntKind.wrap .i64 (x5 + 1)) y0_0 ([] ++ [x5])) (none)) (spec_Reads.l4 k n x4 (IntKind.wrap .i64 (x5 + 1)) y0_0)) (spec_Reads.l4 k n x4 (IntKind.wrap .i64 (x5 + 1)) y0_0)) (iteB (decide ((List.length ([] ++ [x5])) * 8 ≤ lim)) (spec_Reads.l4b k n x4 (IntKind.wrap .i64 (x5 + 1)) y0_0 ([] ++ [x5])) (none))) (iteB (y0_0.1 == 10) (iteB (y0_0.2.1 == x5) (iteB (decide ((List.length ([] ++ [x5])) * 8 ≤ lim)) (spec_Reads.l4b k n x4 (IntKind.wrap .i64 (x5 + 1)) y0_0 ([] ++ [x5])) (none)) (spec_Reads.l4 k n x4 (IntKind.wrap .i64 (x5 + 1)) y0_0)) (spec_Reads.l4 k n x4 (IntKind.wrap .i64 (x5 + 1)) y0_0)))) (some []) := by kernel_rfl
theorem spec_Reads.l4b_0 (k : Nat) (x4 : Int) (x5 : Int) (y0_0 : Int × Int × Int × Int × Int × Int × Unit) (y1 : List Int) : spec_Reads.l4b k 0 x4 x5 y0_0 y1 = none := by kernel_rfl
theorem spec_Reads.l4b_s (k n : Nat) (x4 : Int) (x5 : Int) (y0_0 : Int × Int × Int × Int × Int × Int × Unit) (y1 : List Int) : spec_Reads.l4b k (n + 1) x4 x5 y0_0 y1 =
  iteB (decide (x5 < 6)) (iteB ((IntKind.wrap .i64 ((BitVec.ofInt (IntKind.bits .i64) x4 &&& BitVec.ofInt (IntKind.bits .i64) 2).toNat : Int)) != 0) (iteB (!(y0_0.2.2.1 == x5)) (iteB ((IntKind.wrap .i64 ((BitVec.ofInt (IntKind.bits .i64) x4 &&& BitVec.ofInt (IntKind.bits .i64) 4).toNat : Int)) != 0) (iteB (!(y0_0.2.2.2.1 == x5)) (iteB (y0_0.1 == 10) (iteB (y0_0.2.1 == x5) (iteB (decide ((List.length (y1 ++ [x5])) * 8 ≤ lim)) (spec_Reads.l4b k n x4 (IntKind.wrap .i64 (x5 + 1)) y0_0 (y1 ++ [x5])) (none)) (spec_Reads.l4b k n x4 (IntKind.wrap .i64 (x5 + 1)) y0_0 y1)) (spec_Reads.l4b k n x4 (IntKind.wrap .i64 (x5 + 1)) y0_0 y1)) (iteB (decide ((List.length (y1 ++ [x5])) * 8 ≤ lim)) (spec_Reads.l4b k n x4 (IntKind.wrap .i64 (x5 + 1)) y0_0 (y1 ++ [x5])) (none))) (iteB (y0_0.1 == 10) (iteB (y0_0.2.1 == x5) (iteB (decide ((List.length (y1 ++ [x5])) * 8 ≤ lim)) (spec_Reads.l4b k n x4 (IntKind.wrap .i64 (x5 + 1)) y0_0 (y1 ++ [x5])) (none)) (spec_Reads.l4b k n x4 (IntKind.wrap .i64 (x5 + 1)) y0_0 y1)) (spec_Reads.l4b k n x4 (IntKind.wrap .i64 (x5 + 1)) y0_0 y1))) (iteB (decide ((List.length (y1 ++ [x5])) * 8 ≤ lim)) (spec_Reads.l4b k n x4 (IntKind.wrap .i64 (x5 + 1)) y0_0 (y1 ++ [x5])) (none))) (iteB ((IntKind.wrap .i64 ((BitVec.ofInt (IntKind.bits .i64) x4 &&& BitVec.ofInt (IntKind.bits .i64) 4).toNat : Int)) != 0) (iteB (!(y0_0.2.2.2.1 == x5)) (iteB (y0_0.1 == 10) (iteB (y0_0.2.1 == x5) (iteB (decide ((List.length (y1 ++ [x5])) * 8 ≤ lim)) (spec_Reads.l4b k n x4 (IntKind.wrap .i64 (x5 + 1)) y0_0 (y1 ++ [x5])) (none)) (spec_Reads.l4b k n x4 (IntKind.wrap .i64 (x5 + 1)) y0_0 y1)) (spec_Reads.l4b k n x4 (IntKind.wrap .i64 (x5 + 1)) y0_0 y1)) (iteB (decide ((List.length (y1 ++ [x5])) * 8 ≤ lim)) (spec_Reads.l4b k n x4 (IntKind.wrap .i64 (x5 + 1)) y0_0 (y1 ++ [x5])) (none))) (iteB (y0_0.1 == 10) (iteB (y0_0.2.1 == x5) (iteB (decide ((List.length (y1 ++ [x5])) * 8 ≤ lim)) (spec_Reads.l4b k n x4 (IntKind.wrap .i64 (x5 + 1)) y0_0 (y1 ++ [x5])) (none)) (spec_Reads.l4b k n x4 (IntKind.wrap .i64 (x5 + 1)) y0_0 y1)) (spec_Reads.l4b k n x4 (IntKind.wrap .i64 (x5 + 1)) y0_0 y1)))) (some y1) := by kernel_rfl
theorem spec_Reads_e (k : Nat) (a1 : Int × Int × Int × Int × Int × Int × Unit) : spec_Reads k a1 =
  bindO (spec_l2Has k a1.1) fun r1 => (spec_Reads.l4 k k r1 0 a1) := by kernel_rfl
theorem E_spec_Reads_calls (k : Nat) : CallsOk Try.prog (E_spec_Reads k) (arun Try.prog (E_spec_Reads k) k) := by
  refine told_run (tyTOk _ _) ?_ (fun run h => regOk (tyTOk _ _) mixOk h) ?_ nameOk k
  · intro g m hg
    simp only [E_spec_Reads] at hg
    split at hg
    · cases hg
      refine con_byVal fun ρ l K x hm => ?_
      split at hm
      · obtain ⟨c1, h1, hm⟩ := Option.bind_eq_some_iff.1 hm
        obtain ⟨r, hr, hm⟩ := Option.bind_eq_some_iff.1 hm
        exact ⟨_, hm, LawV.reads (.cons (.as h1) .nil) (spec_l2Has_law k c1 r hr)⟩
      · cases hm
    · cases hg; exact noCon_ok
    · cases hg
  · intro g hg r
    by_cases h : g = 6
    · subst h; simp [E_spec_Reads] at hg
    · simp [E_spec_Reads, h]
theorem f6_okspec_Reads : Try.prog.funcs[6]? = some Try.f6 := by kernel_rfl
theorem spec_Reads_law (k : Nat) (a1 : Int × Int × Int × Int × Int × Int × Unit) (x : List Int) (h : spec_Reads k a1 = some x) : LawV Try.prog 6 [.tv (.pair (.int .i64) (.pair (.int .i64) (.pair (.int .i64) (.pair (.int .i64) (.pair (.int .i64) (.pair (.int .i64) .unit)))))) a1] (tvn (.row (.int .i64)) x) := by
  unfold spec_Reads at h
  exact law1 (t := (.row (.int .i64))) (tyTOk _ _) (E_spec_Reads_calls k) mixOk f6_okspec_Reads (nameOk _ _ f6_okspec_Reads) (by kernel_rfl) h
/-! impl.has -/
noncomputable def E_impl_has (k : Nat) : Env := ⟨ty, fun _ => none, fun _ _ => none⟩
noncomputable def impl_has (k : Nat) (a1 : Int) : Option (ByteArray) :=
  abody (E_impl_has k) (arun Try.prog (E_impl_has k) k) k 27 Try.f27 [.int .i64 a1] [] (fin1 .str)
theorem impl_has_e (k : Nat) (a1 : Int) : impl_has k a1 =
  iteB (a1 == 1) (some (⟨#[82, 78]⟩ : ByteArray)) (iteB (a1 == 2) (some (⟨#[82, 65]⟩ : ByteArray)) (iteB (a1 == 3) (some (⟨#[82, 65, 66]⟩ : ByteArray)) (iteB (a1 == 4) (some (⟨#[82, 65, 66]⟩ : ByteArray)) (iteB (a1 == 5) (some (⟨#[82, 65, 66]⟩ : ByteArray)) (iteB (a1 == 6) (some (⟨#[82, 65, 66]⟩ : ByteArray)) (iteB (a1 == 7) (some (⟨#[82, 65, 66]⟩ : ByteArray)) (iteB (a1 == 10) (some (⟨#[82, 65, 66]⟩ : ByteArray)) (iteB (a1 == 8) (some (⟨#[82, 65, 78]⟩ : ByteArray)) (iteB (a1 == 9) (some (⟨#[65, 66, 78]⟩ : ByteArray)) (iteB (a1 == 11) (some (⟨#[78]⟩ : ByteArray)) (iteB (a1 == 12) (some (⟨#[65, 78]⟩ : ByteArray)) (iteB (a1 == 13) (some (⟨#[78, 77]⟩ : ByteArray)) (iteB (a1 == 14) (some (⟨#[45]⟩ : ByteArray)) (iteB (a1 == 15) (some (⟨#[65]⟩ : ByteArray)) (iteB (a1 == 19) (some (⟨#[65]⟩ : ByteArray)) (iteB (a1 == 16) (some (⟨#[65, 66]⟩ : ByteArray)) (iteB (a1 == 17) (some (⟨#[65, 66]⟩ : ByteArray)) (iteB (a1 == 18) (some (⟨#[82]⟩ : ByteArray)) (some (⟨#[]⟩ : ByteArray)))))))))))))))))))) := by kernel_rfl
theorem E_impl_has_calls (k : Nat) : CallsOk Try.prog (E_impl_has k) (arun Try.prog (E_impl_has k) k) := by
  refine told_run (tyTOk _ _) ?_ (fun run h => regOk (tyTOk _ _) mixOk h) ?_ nameOk k
  · intro g m hg
    cases hg
  · intro g _ r; rfl
theorem f27_okimpl_has : Try.prog.funcs[27]? = some Try.f27 := by kernel_rfl
theorem impl_has_law (k : Nat) (a1 : Int) (x : ByteArray) (h : impl_has k a1 = some x) : LawV Try.prog 27 [.int .i64 a1] (tvn .str x) := by
  unfold impl_has at h
  exact law1 (t := .str) (tyTOk _ _) (E_impl_has_calls k) mixOk f27_okimpl_has (nameOk _ _ f27_okimpl_has) (by kernel_rfl) h
/-! impl.within -/
noncomputable def E_impl_within (k : Nat) : Env := ⟨ty, fun _ => none, fun _ _ => none⟩
noncomputable def impl_within (k : Nat) (a1 : Int) (a2 : Int) (a3 : Int) : Option (Bool) :=
  abody (E_impl_within k) (arun Try.prog (E_impl_within k) k) k 34 Try.f34 [.int .i64 a1, .int .i64 a2, .int .i64 a3] [] (fin1 .bool)
theorem impl_within_e (k : Nat) (a1 : Int) (a2 : Int) (a3 : Int) : impl_within k a1 a2 a3 =
  iteB (decide (a1 ≥ a2)) (some (decide (a1 ≤ a3))) (some false) := by kernel_rfl
theorem E_impl_within_calls (k : Nat) : CallsOk Try.prog (E_impl_within k) (arun Try.prog (E_impl_within k) k) := by
  refine told_run (tyTOk _ _) ?_ (fun run h => regOk (tyTOk _ _) mixOk h) ?_ nameOk k
  · intro g m hg
    cases hg
  · intro g _ r; rfl
theorem f34_okimpl_within : Try.prog.funcs[34]? = some Try.f34 := by kernel_rfl
theorem impl_within_law (k : Nat) (a1 : Int) (a2 : Int) (a3 : Int) (x : Bool) (h : impl_within k a1 a2 a3 = some x) : LawV Try.prog 34 [.int .i64 a1, .int .i64 a2, .int .i64 a3] (tvn .bool x) := by
  unfold impl_within at h
  exact law1 (t := .bool) (tyTOk _ _) (E_impl_within_calls k) mixOk f34_okimpl_within (nameOk _ _ f34_okimpl_within) (by kernel_rfl) h
/-! impl.isReg -/
noncomputable def E_impl_isReg (k : Nat) : Env := ⟨ty, fun g => match g with
  | 34 => some (byVal fun ρ l K => match l with
    | [b1, b2, b3] => (b1.as (.int .i64)).bind fun c1 => (b2.as (.int .i64)).bind fun c2 => (b3.as (.int .i64)).bind fun c3 => (impl_within k c1 c2 c3).bind fun r => K (tvn .bool r)
    | _ => none)
  | _ => none, fun _ _ => none⟩
noncomputable def impl_isReg (k : Nat) (a1 : Int) : Option (Bool) :=
  abody (E_impl_isReg k) (arun Try.prog (E_impl_isReg k) k) k 28 Try.f28 [.int .i64 a1] [] (fin1 .bool)
theorem impl_isReg_e (k : Nat) (a1 : Int) : impl_isReg k a1 =
  bindO (impl_within k a1 0 5) fun r1 => (some r1) := by kernel_rfl
theorem E_impl_isReg_calls (k : Nat) : CallsOk Try.prog (E_impl_isReg k) (arun Try.prog (E_impl_isReg k) k) := by
  refine told_run (tyTOk _ _) ?_ (fun run h => regOk (tyTOk _ _) mixOk h) ?_ nameOk k
  · intro g m hg
    simp only [E_impl_isReg] at hg
    split at hg
    · cases hg
      refine con_byVal fun ρ l K x hm => ?_
      split at hm
      · obtain ⟨c1, h1, hm⟩ := Option.bind_eq_some_iff.1 hm
        obtain ⟨c2, h2, hm⟩ := Option.bind_eq_some_iff.1 hm
        obtain ⟨c3, h3, hm⟩ := Option.bind_eq_some_iff.1 hm
        obtain ⟨r, hr, hm⟩ := Option.bind_eq_some_iff.1 hm
        exact ⟨_, hm, LawV.reads (.cons (.as h1) (.cons (.as h2) (.cons (.as h3) .nil))) (impl_within_law k c1 c2 c3 r hr)⟩
      · cases hm
    · cases hg
  · intro g _ r; rfl
theorem f28_okimpl_isReg : Try.prog.funcs[28]? = some Try.f28 := by kernel_rfl
theorem impl_isReg_law (k : Nat) (a1 : Int) (x : Bool) (h : impl_isReg k a1 = some x) : LawV Try.prog 28 [.int .i64 a1] (tvn .bool x) := by
  unfold impl_isReg at h
  exact law1 (t := .bool) (tyTOk _ _) (E_impl_isReg_calls k) mixOk f28_okimpl_isReg (nameOk _ _ f28_okimpl_isReg) (by kernel_rfl) h
/-! slices.Sort[[]int,int] -/
noncomputable def slices_Sort_int (k : Nat) (a1 : List Int) : Option (Unit × List Int) := bif decide (List.length a1 < 4611686018427387904) then some (((), List.mergeSort a1 fun x y => decide (x ≤ y))) else none
theorem slices_Sort_int_e (k : Nat) (a1 : List Int) : slices_Sort_int k a1 = iteB (decide (List.length a1 < 4611686018427387904)) (some (((), List.mergeSort a1 fun x y => decide (x ≤ y)))) none := by unfold slices_Sort_int; cases decide (List.length a1 < 4611686018427387904) <;> rfl
theorem f29_okslices_Sort_int : Try.prog.funcs[29]? = some Try.f29 := by kernel_rfl
theorem slices_Sort_int_law (k : Nat) (a1 : List Int) (x : Unit × List Int) (h : slices_Sort_int k a1 = some x) : LawM Try.prog 29 [] (.int .i64) a1 (tvM .unit x.1) x.2 := by
  unfold slices_Sort_int at h
  cases hb : decide (List.length a1 < 4611686018427387904) with
  | false => rw [hb] at h; cases h
  | true => rw [hb] at h; cases h; exact law_sort ⟨_, f29_okslices_Sort_int, nameOk _ _ f29_okslices_Sort_int, by kernel_rfl⟩ (fun blk off cap zs w h1 h2 h3 => Try.slices_Sort_int blk off cap zs w h1 h2 h3) (fun p cap w => Try.slices_Sort_int_none p cap w) a1 (of_decide_eq_true hb)
/-! slices.Compact[[]int,int] -/
noncomputable def slices_Compact_int (k : Nat) (a1 : List Int) : Option (Nat × List Int) := bif decide (List.length a1 ≤ 9223372036854775807) then some (((Lib.compact a1).length, Lib.compact a1 ++ List.replicate (List.length a1 - (Lib.compact a1).length) 0)) else none
theorem slices_Compact_int_e (k : Nat) (a1 : List Int) : slices_Compact_int k a1 = iteB (decide (List.length a1 ≤ 9223372036854775807)) (some (((Lib.compact a1).length, Lib.compact a1 ++ List.replicate (List.length a1 - (Lib.compact a1).length) 0))) none := by unfold slices_Compact_int; cases decide (List.length a1 ≤ 9223372036854775807) <;> rfl
theorem f30_okslices_Compact_int : Try.prog.funcs[30]? = some Try.f30 := by kernel_rfl
theorem slices_Compact_int_law (k : Nat) (a1 : List Int) (x : Nat × List Int) (h : slices_Compact_int k a1 = some x) : LawMp Try.prog 30 (.int .i64) a1 x.1 x.2 := by
  unfold slices_Compact_int at h
  cases hb : decide (List.length a1 ≤ 9223372036854775807) with
  | false => rw [hb] at h; cases h
  | true => rw [hb] at h; cases h; exact law_compact (cmp := Lib.compact) ⟨_, f30_okslices_Compact_int, nameOk _ _ f30_okslices_Compact_int, by kernel_rfl⟩ Lib.compact_length_le (fun blk off cap zs w h1 h2 h3 => Try.slices_Compact_int blk off cap zs w h1 h2 h3) (fun p cap w => Try.slices_Compact_int_empty p cap w) a1 (of_decide_eq_true hb)
/-! impl.Reads -/
noncomputable def E_impl_Reads (k : Nat) : Env := ⟨ty, fun g => match g with
  | 27 => some (byVal fun ρ l K => match l with
    | [b1] => (b1.as (.int .i64)).bind fun c1 => (impl_has k c1).bind fun r => K (tvn .str r)
    | _ => none)
  | 28 => some (byVal fun ρ l K => match l with
    | [b1] => (b1.as (.int .i64)).bind fun c1 => (impl_isReg k c1).bind fun r => K (tvn .bool r)
    | _ => none)
  | 29 => some (byMut (.int .i64) fun ρ l xs K => match l with
    | [] => (slices_Sort_int k xs ).bind fun r => K (tvM .unit r.1) r.2
    | _ => none)
  | 30 => some (byMutP (.int .i64) fun ρ xs K => (slices_Compact_int k xs).bind fun r => K r.1 r.2)
  | 8 => some noCon
  | _ => none, fun f r => match f with | 8 => (match r with | 4 => some [1, 3, 4, 11, 12] | _ => none) | _ => none⟩
noncomputable def impl_Reads (k : Nat) (a1 : Int × Int × Int × Int × Int × Int × Unit) : Option (List Int) :=
  abody (E_impl_Reads k) (arun Try.prog (E_impl_Reads k) k) k 8 Try.f8 [.tv (.pair (.int .i64) (.pair (.int .i64) (.pair (.int .i64) (.pair (.int .i64) (.pair (.int .i64) (.pair (.int .i64) .unit)))))) a1] [] (finF (.int .i64))
noncomputable def impl_Reads.l4 (k n : Nat) (x4 : ByteArray) (x11 : Int) (x12 : Int) (y0_0 : Int × Int × Int × Int × Int × Int × Unit) : Option (List Int) :=
  resume (E_impl_Reads k) 8 (acall (E_impl_Reads k) (arun Try.prog (E_impl_Reads k) k)) k [true, true, true, false, true, true] [n] (bodyOf Try.f8) ⟨[.undef, .ptr 0 0 0, .undef, .sl 1, .str x4, .undef, .undef, .undef, .undef, .undef, .undef, .int .i64 x11, .int .i64 x12, .undef, .undef, .undef, .undef, .undef, .undef, .undef, .undef, .undef, .undef, .undef, .undef, .undef, .undef, .undef, .undef, .undef, .undef, .undef, .undef, .undef, .undef, .undef, .undef, .undef, .undef, .undef, .undef, .undef, .undef, .undef, .undef, .undef, .undef, .undef, .undef, .undef, .undef, .undef, .undef, .undef, .undef, .undef, .undef, .undef, .undef, .undef, .undef, .undef, .undef, .undef, .undef, .undef, .undef, .undef, .undef, .undef], [some ⟨.raw true 6 (.agg [.int .i64 0, .int .i64 0, .int .i64 0, .int .i64 0, .int .i64 0, .int .i64 0]) [.tv (.pair (.int .i64) (.pair (.int .i64) (.pair (.int .i64) (.pair (.int .i64) (.pair (.int .i64) (.pair (.int .i64) .unit)))))) y0_0], true⟩, some ⟨.typed (.int .i64) [], true⟩]⟩ (leave (E_impl_Reads k) Try.f8 (finF (.int .i64)))
noncomputable def impl_Reads.l4b (k n : Nat) (x4 : ByteArray) (x11 : Int) (x12 : Int) (y0_0 : Int × Int × Int × Int × Int × Int × Unit) (y1 : List Int) : Option (List Int) :=
  resume (E_impl_Reads k) 8 (acall (E_impl_Reads k) (arun Try.prog (E_impl_Reads k) k)) k [true, true, true, false, true, true] [n] (bodyOf Try.f8) ⟨[.undef, .ptr 0 0 0, .undef, .sl 1, .str x4, .undef, .undef, .undef, .undef, .undef, .undef, .int .i64 x11, .int .i64 x12, .undef, .undef, .undef, .undef, .undef, .undef, .undef, .undef, .undef, .undef, .undef, .undef, .undef, .undef, .undef, .undef, .undef, .undef, .undef, .undef, .undef, .undef, .undef, .undef, .undef, .undef, .undef, .undef, .undef, .undef, .undef, .undef, .undef, .undef, .undef, .undef, .undef, .undef, .undef, .undef, .undef, .undef, .undef, .undef, .undef, .undef, .undef, .undef, .undef, .undef, .undef, .undef, .undef, .undef, .undef, .undef, .undef], [some ⟨.raw true 6 (.agg [.int .i64 0, .int .i64 0, .int .i64 0, .int .i64 0, .int .i64 0, .int .i64 0]) [.tv (.pair (.int .i64) (.pair (.int .i64) (.pair (.int .i64) (.pair (.int .i64) (.pair (.int .i64) (.pair (.int .i64) .unit)))))) y0_0], true⟩, some ⟨.typed (.int .i64) y1, false⟩]⟩ (leave (E_impl_Reads k) Try.f8 (finF (.int .i64)))
theorem impl_Reads.l4_0 (k : Nat) (x4 : ByteArray) (x11 : Int) (x12 : Int) (y0_0 : Int × Int × Int × Int × Int × Int × Unit) : impl_Reads.l4 k 0 x4 x11 x12 y0_0 = none := by kernel_rfl
theorem impl_Reads.l4_s (k n : Nat) (x4 : ByteArray) (x11 : Int) (x12 : Int) (y0_0 : Int × Int × Int × Int × Int × Int × Unit) : impl_Reads.l4 k (n + 1) x4 x11 x12 y0_0 =
  iteB (decide (x12 < x11)) (iteB (decide (0 ≤ x12)) (iteB (decide (x12 < (ByteArray.size x4 : Int))) (iteB ((byteAt x4 (Int.toNat x12)) == 65) (bindO (impl_isReg k y0_0.2.2.1) fun r2 => (iteB r2 (iteB (decide ((List.length ([] ++ [y0_0.2.2.1])) * 8 ≤ lim)) (impl_Reads.l4b k n x4 x11 (IntKind.wrap .i64 (x12 + 1)) y0_0 ([] ++ [y0_0.2.2.1])) (none)) (iteB (decide (0 ≤ x12)) (iteB (decide (x12 < (ByteArray.size x4 : Int))) (iteB ((byteAt x4 (Int.toNat x12)) == 66) (bindO (impl_isReg k y0_0.2.2.2.1) fun r3 => (iteB r3 (iteB (decide ((List.length ([] ++ [y0_0.2.2.2.1])) * 8 ≤ lim)) (impl_Reads.l4b k n x4 x11 (IntKind.wrap .i64 (x12 + 1)) y0_0 ([] ++ [y0_0.2.2.2.1])) (none)) (iteB (decide (0 ≤ x12)) (iteB (decide (x12 < (ByteArray.size x4 : Int))) (iteB ((byteAt x4 (Int.toNat x12)) == 82) (iteB (y0_0.1 == 10) (bindO (impl_isReg k y0_0.2.1) fun r4 => (iteB r4 (iteB (decide ((List.length ([] ++ [y0_0.2.1])) * 8 ≤ lim)) (impl_Reads.l4b k n x4 x11 (IntKind.wrap .i64 (x12 + 1)) y0_0 ([] ++ [y0_0.2.1])) (none)) (impl_Reads.l4 k n x4 x11 (IntKind.wrap .i64 (x12 + 1)) y0_0))) (impl_Reads.l4 k n x4 x11 (IntKind.wrap .i64 (x12 + 1)) y0_0)) (impl_Reads.l4 k n x4 x11 (IntKind.wrap .i64 (x12 + 1)) y0_0)) (none)) (none)))) (iteB (decide (0 ≤ x12)) (iteB (decide (x12 < (ByteArray.size x4 : Int))) (iteB ((byteAt x4 (Int.toNat x12)) == 82) (iteB (y0_0.1 == 10) (bindO (impl_isReg k y0_0.2.1) fun r5 => (iteB r5 (iteB (decide ((List.length ([] ++ [y0_0.2.1])) * 8 ≤ lim)) (impl_Reads.l4b k n x4 x11 (IntKind.wrap .i64 (x12 + 1)) y0_0 ([] ++ [y0_0.2.1])) (none)) (impl_Reads.l4 k n x4 x11 (IntKind.wrap .i64 (x12 + 1)) y0_0))) (impl_Reads.l4 k n x4 x11 (IntKind.wrap .i64 (x12 + 1)) y0_0)) (impl_Reads.l4 k n x4 x11 (IntKind.wrap .i64 (x12 + 1)) y0_0)) (none)) (none))) (none)) (none)))) (iteB (decide (0 ≤ x12)) (iteB (decide (x12 < (ByteArray.size x4 : Int))) (iteB ((byteAt x4 (Int.toNat x12)) == 66) (bindO (impl_isReg k y0_0.2.2.2.1) fun r6 => (iteB r6 (iteB (decide ((List.length ([] ++ [y0_0.2.2.2.1])) * 8 ≤ lim)) (impl_Reads.l4b k n x4 x11 (IntKind.wrap .i64 (x12 + 1)) y0_0 ([] ++ [y0_0.2.2.2.1])) (none)) (iteB (decide (0 ≤ x12)) (iteB (decide (x12 < (ByteArray.size x4 : Int))) (iteB ((byteAt x4 (Int.toNat x12)) == 82) (iteB (y0_0.1 == 10) (bindO (impl_isReg k y0_0.2.1) fun r7 => (iteB r7 (iteB (decide ((List.length ([] ++ [y0_0.2.1])) * 8 ≤ lim)) (impl_Reads.l4b k n x4 x11 (IntKind.wrap .i64 (x12 + 1)) y0_0 ([] ++ [y0_0.2.1])) (none)) (impl_Reads.l4 k n x4 x11 (IntKind.wrap .i64 (x12 + 1)) y0_0))) (impl_Reads.l4 k n x4 x11 (IntKind.wrap .i64 (x12 + 1)) y0_0)) (impl_Reads.l4 k n x4 x11 (IntKind.wrap .i64 (x12 + 1)) y0_0)) (none)) (none)))) (iteB (decide (0 ≤ x12)) (iteB (decide (x12 < (ByteArray.size x4 : Int))) (iteB ((byteAt x4 (Int.toNat x12)) == 82) (iteB (y0_0.1 == 10) (bindO (impl_isReg k y0_0.2.1) fun r8 => (iteB r8 (iteB (decide ((List.length ([] ++ [y0_0.2.1])) * 8 ≤ lim)) (impl_Reads.l4b k n x4 x11 (IntKind.wrap .i64 (x12 + 1)) y0_0 ([] ++ [y0_0.2.1])) (none)) (impl_Reads.l4 k n x4 x11 (IntKind.wrap .i64 (x12 + 1)) y0_0))) (impl_Reads.l4 k n x4 x11 (IntKind.wrap .i64 (x12 + 1)) y0_0)) (impl_Reads.l4 k n x4 x11 (IntKind.wrap .i64 (x12 + 1)) y0_0)) (none)) (none))) (none)) (none))) (none)) (none)) (bindO (slices_Sort_int k []) fun r9 => (bindO (slices_Compact_int k r9.2) fun r10 => (some (List.take r10.1 (List.drop 0 r10.2))))) := by kernel_rfl
theorem impl_Reads.l4b_0 (k : Nat) (x4 : ByteArray) (x11 : Int) (x12 : Int) (y0_0 : Int × Int × Int × Int × Int × Int × Unit) (y1 : List Int) : impl_Reads.l4b k 0 x4 x11 x12 y0_0 y1 = none := by kernel_rfl
theorem impl_Reads.l4b_s (k n : Nat) (x4 : ByteArray) (x11 : Int) (x12 : Int) (y0_0 : Int × Int × Int × Int × Int × Int × Unit) (y1 : List Int) : impl_Reads.l4b k (n + 1) x4 x11 x12 y0_0 y1 =
  iteB (decide (x12 < x11)) (iteB (decide (0 ≤ x12)) (iteB (decide (x12 < (ByteArray.size x4 : Int))) (iteB ((byteAt x4 (Int.toNat x12)) == 65) (bindO (impl_isReg k y0_0.2.2.1) fun r11 => (iteB r11 (iteB (decide ((List.length (y1 ++ [y0_0.2.2.1])) * 8 ≤ lim)) (impl_Reads.l4b k n x4 x11 (IntKind.wrap .i64 (x12 + 1)) y0_0 (y1 ++ [y0_0.2.2.1])) (none)) (iteB (decide (0 ≤ x12)) (iteB (decide (x12 < (ByteArray.size x4 : Int))) (iteB ((byteAt x4 (Int.toNat x12)) == 66) (bindO (impl_isReg k y0_0.2.2.2.1) fun r12 => (iteB r12 (iteB (decide ((List.length (y1 ++ [y0_0.2.2.2.1])) * 8 ≤ lim)) (impl_Reads.l4b k n x4 x11 (IntKind.wrap .i64 (x12 + 1)) y0_0 (y1 ++ [y0_0.2.2.2.1])) (none)) (iteB (decide (0 ≤ x12)) (iteB (decide (x12 < (ByteArray.size x4 : Int))) (iteB ((byteAt x4 (Int.toNat x12)) == 82) (iteB (y0_0.1 == 10) (bindO (impl_isReg k y0_0.2.1) fun r13 => (iteB r13 (iteB (decide ((List.length (y1 ++ [y0_0.2.1])) * 8 ≤ lim)) (impl_Reads.l4b k n x4 x11 (IntKind.wrap .i64 (x12 + 1)) y0_0 (y1 ++ [y0_0.2.1])) (none)) (impl_Reads.l4b k n x4 x11 (IntKind.wrap .i64 (x12 + 1)) y0_0 y1))) (impl_Reads.l4b k n x4 x11 (IntKind.wrap .i64 (x12 + 1)) y0_0 y1)) (impl_Reads.l4b k n x4 x11 (IntKind.wrap .i64 (x12 + 1)) y0_0 y1)) (none)) (none)))) (iteB (decide (0 ≤ x12)) (iteB (decide (x12 < (ByteArray.size x4 : Int))) (iteB ((byteAt x4 (Int.toNat x12)) == 82) (iteB (y0_0.1 == 10) (bindO (impl_isReg k y0_0.2.1) fun r14 => (iteB r14 (iteB (decide ((List.length (y1 ++ [y0_0.2.1])) * 8 ≤ lim)) (impl_Reads.l4b k n x4 x11 (IntKind.wrap .i64 (x12 + 1)) y0_0 (y1 ++ [y0_0.2.1])) (none)) (impl_Reads.l4b k n x4 x11 (IntKind.wrap .i64 (x12 + 1)) y0_0 y1))) (impl_Reads.l4b k n x4 x11 (IntKind.wrap .i64 (x12 + 1)) y0_0 y1)) (impl_Reads.l4b k n x4 x11 (IntKind.wrap .i64 (x12 + 1)) y0_0 y1)) (none)) (none))) (none)) (none)))) (iteB (decide (0 ≤ x12)) (iteB (decide (x12 < (ByteArray.size x4 : Int))) (iteB ((byteAt x4 (Int.toNat x12)) == 66) (bindO (impl_isReg k y0_0.2.2.2.1) fun r15 => (iteB r15 (iteB (decide ((List.length (y1 ++ [y0_0.2.2.2.1])) * 8 ≤ lim)) (impl_Reads.l4b k n x4 x11 (IntKind.wrap .i64 (x12 + 1)) y0_0 (y1 ++ [y0_0.2.2.2.1])) (none)) (iteB (decide (0 ≤ x12)) (iteB (decide (x12 < (ByteArray.size x4 : Int))) (iteB ((byteAt x4 (Int.toNat x12)) == 82) (iteB (y0_0.1 == 10) (bindO (impl_isReg k y0_0.2.1) fun r16 => (iteB r16 (iteB (decide ((List.length (y1 ++ [y0_0.2.1])) * 8 ≤ lim)) (impl_Reads.l4b k n x4 x11 (IntKind.wrap .i64 (x12 + 1)) y0_0 (y1 ++ [y0_0.2.1])) (none)) (impl_Reads.l4b k n x4 x11 (IntKind.wrap .i64 (x12 + 1)) y0_0 y1))) (impl_Reads.l4b k n x4 x11 (IntKind.wrap .i64 (x12 + 1)) y0_0 y1)) (impl_Reads.l4b k n x4 x11 (IntKind.wrap .i64 (x12 + 1)) y0_0 y1)) (none)) (none)))) (iteB (decide (0 ≤ x12)) (iteB (decide (x12 < (ByteArray.size x4 : Int))) (iteB ((byteAt x4 (Int.toNat x12)) == 82) (iteB (y0_0.1 == 10) (bindO (impl_isReg k y0_0.2.1) fun r17 => (iteB r17 (iteB (decide ((List.length (y1 ++ [y0_0.2.1])) * 8 ≤ lim)) (impl_Reads.l4b k n x4 x11 (IntKind.wrap .i64 (x12 + 1)) y0_0 (y1 ++ [y0_0.2.1])) (none)) (impl_Reads.l4b k n x4 x11 (IntKind.wrap .i64 (x12 + 1)) y0_0 y1))) (impl_Reads.l4b k n x4 x11 (IntKind.wrap .i64 (x12 + 1)) y0_0 y1)) (impl_Reads.l4b k n x4 x11 (IntKind.wrap .i64 (x12 + 1)) y0_0 y1)) (none)) (none))) (none)) (none))) (none)) (none)) (bindO (slices_Sort_int k y1) fun r18 => (bindO (slices_Compact_int k r18.2) fun r19 => (some (List.take r19.1 (List.drop 0 r19.2))))) := by kernel_rfl
theorem impl_Reads_e (k : Nat) (a1 : Int × Int × Int × Int × Int × Int × Unit) : impl_Reads k a1 =
  bindO (impl_has k a1.1) fun r1 => (impl_Reads.l4 k k r1 (ByteArray.size r1 : Int) 0 a1) := by kernel_rfl
theorem E_impl_Reads_calls (k : Nat) : CallsOk Try.prog (E_impl_Reads k) (arun Try.prog (E_impl_Reads k) k) := by
  refine told_run (tyTOk _ _) ?_ (fun run h => regOk (tyTOk _ _) mixOk h) ?_ nameOk k
  · intro g m hg
    simp only [E_impl_Reads] at hg
    split at hg
    · cases hg
      refine con_byVal fun ρ l K x hm => ?_
      split at hm
      · obtain ⟨c1, h1, hm⟩ := Option.bind_eq_some_iff.1 hm
        obtain ⟨r, hr, hm⟩ := Option.bind_eq_some_iff.1 hm
        exact ⟨_, hm, LawV.reads (.cons (.as h1) .nil) (impl_has_law k c1 r hr)⟩
      · cases hm
    · cases hg
      refine con_byVal fun ρ l K x hm => ?_
      split at hm
      · obtain ⟨c1, h1, hm⟩ := Option.bind_eq_some_iff.1 hm
        obtain ⟨r, hr, hm⟩ := Option.bind_eq_some_iff.1 hm
        exact ⟨_, hm, LawV.reads (.cons (.as h1) .nil) (impl_isReg_law k c1 r hr)⟩
      · cases hm
    · cases hg
      refine con_byMut fun ρ l xs K x hm => ?_
      split at hm
      · obtain ⟨r, hr, hm⟩ := Option.bind_eq_some_iff.1 hm
        exact ⟨_, _, hm, LawM.reads .nil (slices_Sort_int_law k xs  r hr)⟩
      · cases hm
    · cases hg
      refine con_byMutP fun ρ xs K x hm => ?_
      obtain ⟨r, hr, hm⟩ := Option.bind_eq_some_iff.1 hm
      exact ⟨_, _, hm, slices_Compact_int_law k xs r hr⟩
    · cases hg; exact noCon_ok
    · cases hg
  · intro g hg r
    by_cases h : g = 8
    · subst h; simp [E_impl_Reads] at hg
    · simp [E_impl_Reads, h]
theorem f8_okimpl_Reads : Try.prog.funcs[8]? = some Try.f8 := by kernel_rfl
theorem impl_Reads_law (k : Nat) (a1 : Int × Int × Int × Int × Int × Int × Unit) (x : List Int) (h : impl_Reads k a1 = some x) : LawF Try.prog 8 [.tv (.pair (.int .i64) (.pair (.int .i64) (.pair (.int .i64) (.pair (.int .i64) (.pair (.int .i64) (.pair (.int .i64) .unit)))))) a1] (.int .i64) x := by
  unfold impl_Reads at h
  exact lawF (e := (.int .i64)) (tyTOk _ _) (E_impl_Reads_calls k) mixOk f8_okimpl_Reads (nameOk _ _ f8_okimpl_Reads) (by kernel_rfl) h
/-! laws.eqIntS -/
noncomputable def E_laws_eqIntS (k : Nat) : Env := ⟨ty, fun g => match g with
  | 9 => some noCon
  | _ => none, fun f r => match f with | 9 => (match r with | 4 => some [0, 1, 5] | _ => none) | _ => none⟩
noncomputable def laws_eqIntS (k : Nat) (a1 : List Int) (a2 : List Int) : Option (Bool) :=
  abody (E_laws_eqIntS k) (arun Try.prog (E_laws_eqIntS k) k) k 9 Try.f9 [.tv (.row (.int .i64)) a1, .tv (.row (.int .i64)) a2] [] (fin1 .bool)
noncomputable def laws_eqIntS.l4 (k n : Nat) (x0 : List Int) (x1 : List Int) (x5 : Int) : Option (Bool) :=
  resume (E_laws_eqIntS k) 9 (acall (E_laws_eqIntS k) (arun Try.prog (E_laws_eqIntS k) k)) k [true, true, false, true, true] [n] (bodyOf Try.f9) ⟨[.tv (.row (.int .i64)) x0, .tv (.row (.int .i64)) x1, .undef, .undef, .undef, .int .i64 x5, .undef, .undef, .undef, .undef, .undef, .undef, .undef, .undef, .undef, .undef, .undef, .undef, .undef, .undef, .undef, .undef, .undef, .undef, .undef, .undef], []⟩ (leave (E_laws_eqIntS k) Try.f9 (fin1 .bool))
theorem laws_eqIntS.l4_0 (k : Nat) (x0 : List Int) (x1 : List Int) (x5 : Int) : laws_eqIntS.l4 k 0 x0 x1 x5 = none := by kernel_rfl
theorem laws_eqIntS.l4_s (k n : Nat) (x0 : List Int) (x1 : List Int) (x5 : Int) : laws_eqIntS.l4 k (n + 1) x0 x1 x5 =
  iteB (decide (x5 < ((List.length x0) : Int))) (iteB (decide (0 ≤ x5)) (iteB (decide (x5 < ((List.length x0) : Int))) (iteB (decide (0 ≤ x5)) (iteB (decide (x5 < ((List.length x1) : Int))) (iteB ((List.getD x0 (Int.toNat x5) 0) != (List.getD x1 (Int.toNat x5) 0)) (some false) (laws_eqIntS.l4 k n x0 x1 (IntKind.wrap .i64 (x5 + 1)))) (none)) (none)) (none)) (none)) (some true) := by kernel_rfl
theorem laws_eqIntS_e (k : Nat) (a1 : List Int) (a2 : List Int) : laws_eqIntS k a1 a2 =
  iteB (((List.length a1) : Int) != ((List.length a2) : Int)) (some false) (laws_eqIntS.l4 k k a1 a2 0) := by kernel_rfl
theorem E_laws_eqIntS_calls (k : Nat) : CallsOk Try.prog (E_laws_eqIntS k) (arun Try.prog (E_laws_eqIntS k) k) := by
  refine told_run (tyTOk _ _) ?_ (fun run h => regOk (tyTOk _ _) mixOk h) ?_ nameOk k
  · intro g m hg
    simp only [E_laws_eqIntS] at hg
    split at hg
    · cases hg; exact noCon_ok
    · cases hg
  · intro g hg r
    by_cases h : g = 9
    · subst h; simp [E_laws_eqIntS] at hg
    · simp [E_laws_eqIntS, h]
theorem f9_oklaws_eqIntS : Try.prog.funcs[9]? = some Try.f9 := by kernel_rfl
theorem laws_eqIntS_law (k : Nat) (a1 : List Int) (a2 : List Int) (x : Bool) (h : laws_eqIntS k a1 a2 = some x) : LawV Try.prog 9 [.tv (.row (.int .i64)) a1, .tv (.row (.int .i64)) a2] (tvn .bool x) := by
  unfold laws_eqIntS at h
  exact law1 (t := .bool) (tyTOk _ _) (E_laws_eqIntS_calls k) mixOk f9_oklaws_eqIntS (nameOk _ _ f9_oklaws_eqIntS) (by kernel_rfl) h
/-! laws.markIntS -/
noncomputable def E_laws_markIntS (k : Nat) : Env := ⟨ty, fun g => match g with
  | 10 => some noCon
  | _ => none, fun f r => match f with | 10 => (match r with | 2 => some [0, 1, 5] | 999999 => some [1] | _ => none) | _ => none⟩
noncomputable def laws_markIntS (k : Nat) (a1 : List Int) (a2 : Int) : Option (Int × (List (Int))) :=
  abody (E_laws_markIntS k) (arun Try.prog (E_laws_markIntS k) k) k 10 Try.f10 [.sl 0, .int .i64 a2] [some ⟨.typed (.int .i64) a1, false⟩] (finMd (.int .i64) (.int .i64))
noncomputable def laws_markIntS.l2 (k n : Nat) (x1 : Int) (x5 : Int) (y0 : List Int) : Option (Int × (List (Int))) :=
  resume (E_laws_markIntS k) 10 (acall (E_laws_markIntS k) (arun Try.prog (E_laws_markIntS k) k)) k [true, false, true, true] [n] (bodyOf Try.f10) ⟨[.sl 0, .int .i64 x1, .undef, .undef, .undef, .int .i64 x5, .undef, .undef, .undef, .undef, .undef, .undef, .undef, .undef, .undef, .undef, .undef, .undef, .undef], [some ⟨.typed (.int .i64) y0, false⟩]⟩ (leave (E_laws_markIntS k) Try.f10 (finMd (.int .i64) (.int .i64)))
theorem laws_markIntS.l2_0 (k : Nat) (x1 : Int) (x5 : Int) (y0 : List Int) : laws_markIntS.l2 k 0 x1 x5 y0 = none := by kernel_rfl
theorem laws_markIntS.l2_s (k n : Nat) (x1 : Int) (x5 : Int) (y0 : List Int) : laws_markIntS.l2 k (n + 1) x1 x5 y0 =
  iteB (decide (x5 < ((List.length y0) : Int))) (iteB (decide (0 ≤ x5)) (iteB (decide (x5 < ((List.length y0) : Int))) (laws_markIntS.l2 k n (IntKind.wrap .i64 (x1 + 1)) (IntKind.wrap .i64 (x5 + 1)) (List.set y0 (Int.toNat x5) x1)) (none)) (none)) (some (x1, y0)) := by kernel_rfl
theorem laws_markIntS_e (k : Nat) (a1 : List Int) (a2 : Int) : laws_markIntS k a1 a2 =
  laws_markIntS.l2 k k a2 0 a1 := by kernel_rfl
theorem E_laws_markIntS_calls (k : Nat) : CallsOk Try.prog (E_laws_markIntS k) (arun Try.prog (E_laws_markIntS k) k) := by
  refine told_run (tyTOk _ _) ?_ (fun run h => regOk (tyTOk _ _) mixOk h) ?_ nameOk k
  · intro g m hg
    simp only [E_laws_markIntS] at hg
    split at hg
    · cases hg; exact noCon_ok
    · cases hg
  · intro g hg r
    by_cases h : g = 10
    · subst h; simp [E_laws_markIntS] at hg
    · simp [E_laws_markIntS, h]
theorem f10_oklaws_markIntS : Try.prog.funcs[10]? = some Try.f10 := by kernel_rfl
theorem laws_markIntS_law (k : Nat) (a1 : List Int) (a2 : Int) (x : (Int) × (List (Int))) (h : laws_markIntS k a1 a2 = some x) : LawMd Try.prog 10 (.int .i64) a1 [.int .i64 a2] (tvM (.int .i64) x.1) x.2 := by
  unfold laws_markIntS at h
  exact lawMd (t := (.int .i64)) (e := (.int .i64)) (tyTOk _ _) (E_laws_markIntS_calls k) mixOk f10_oklaws_markIntS (nameOk _ _ f10_oklaws_markIntS) (by kernel_rfl) (Nat.lt_of_lt_of_eq Nat.zero_lt_one (by kernel_rfl : 1 = pinsOf (E_laws_markIntS k) 10)) (by kernel_rfl) (fun _ => rfl) h
/-! laws.heldIntS -/
noncomputable def E_laws_heldIntS (k : Nat) : Env := ⟨ty, fun g => match g with
  | 11 => some noCon
  | _ => none, fun f r => match f with | 11 => (match r with | 2 => some [0, 1, 5] | _ => none) | _ => none⟩
noncomputable def laws_heldIntS (k : Nat) (a1 : List Int) (a2 : Int) : Option (Int) :=
  abody (E_laws_heldIntS k) (arun Try.prog (E_laws_heldIntS k) k) k 11 Try.f11 [.tv (.row (.int .i64)) a1, .int .i64 a2] [] (fin1 (.int .i64))
noncomputable def laws_heldIntS.l2 (k n : Nat) (x0 : List Int) (x1 : Int) (x5 : Int) : Option (Int) :=
  resume (E_laws_heldIntS k) 11 (acall (E_laws_heldIntS k) (arun Try.prog (E_laws_heldIntS k) k)) k [true, false, true, true] [n] (bodyOf Try.f11) ⟨[.tv (.row (.int .i64)) x0, .int .i64 x1, .undef, .undef, .undef, .int .i64 x5, .undef, .undef, .undef, .undef, .undef, .undef, .undef, .undef, .undef, .undef, .undef, .undef, .undef, .undef, .undef], []⟩ (leave (E_laws_heldIntS k) Try.f11 (fin1 (.int .i64)))
theorem laws_heldIntS.l2_0 (k : Nat) (x0 : List Int) (x1 : Int) (x5 : Int) : laws_heldIntS.l2 k 0 x0 x1 x5 = none := by kernel_rfl
theorem laws_heldIntS.l2_s (k n : Nat) (x0 : List Int) (x1 : Int) (x5 : Int) : laws_heldIntS.l2 k (n + 1) x0 x1 x5 =
  iteB (decide (x5 < ((List.length x0) : Int))) (iteB (decide (0 ≤ x5)) (iteB (decide (x5 < ((List.length x0) : Int))) (iteB ((List.getD x0 (Int.toNat x5) 0) != x1) (some (-1)) (laws_heldIntS.l2 k n x0 (IntKind.wrap .i64 (x1 + 1)) (IntKind.wrap .i64 (x5 + 1)))) (none)) (none)) (some x1) := by kernel_rfl
theorem laws_heldIntS_e (k : Nat) (a1 : List Int) (a2 : Int) : laws_heldIntS k a1 a2 =
  laws_heldIntS.l2 k k a1 a2 0 := by kernel_rfl
theorem E_laws_heldIntS_calls (k : Nat) : CallsOk Try.prog (E_laws_heldIntS k) (arun Try.prog (E_laws_heldIntS k) k) := by
  refine told_run (tyTOk _ _) ?_ (fun run h => regOk (tyTOk _ _) mixOk h) ?_ nameOk k
  · intro g m hg
    simp only [E_laws_heldIntS] at hg
    split at hg
    · cases hg; exact noCon_ok
    · cases hg
  · intro g hg r
    by_cases h : g = 11
    · subst h; simp [E_laws_heldIntS] at hg
    · simp [E_laws_heldIntS, h]
theorem f11_oklaws_heldIntS : Try.prog.funcs[11]? = some Try.f11 := by kernel_rfl
theorem laws_heldIntS_law (k : Nat) (a1 : List Int) (a2 : Int) (x : Int) (h : laws_heldIntS k a1 a2 = some x) : LawV Try.prog 11 [.tv (.row (.int .i64)) a1, .int .i64 a2] (tvn (.int .i64) x) := by
  unfold laws_heldIntS at h
  exact law1 (t := (.int .i64)) (tyTOk _ _) (E_laws_heldIntS_calls k) mixOk f11_oklaws_heldIntS (nameOk _ _ f11_oklaws_heldIntS) (by kernel_rfl) h
/-! laws.FnExactReads -/
noncomputable def E_laws_FnExactReads (k : Nat) : Env := ⟨ty, fun g => match g with
  | 7 => some (byNew (.pair (.int .i64) (.pair (.int .i64) (.pair (.int .i64) (.pair (.int .i64) (.pair (.int .i64) (.pair (.int .i64) .unit)))))) fun ρ l K => match l with
    | [b1] => (b1.as (.pair (.int .i64) (.pair (.int .i64) (.pair (.int .i64) (.pair (.int .i64) (.pair (.int .i64) (.pair (.int .i64) .unit))))))).bind fun c1 => (laws_toIns k c1).bind fun r => K r
    | _ => none)
  | 6 => some (byVal fun ρ l K => match l with
    | [b1] => (b1.as (.pair (.int .i64) (.pair (.int .i64) (.pair (.int .i64) (.pair (.int .i64) (.pair (.int .i64) (.pair (.int .i64) .unit))))))).bind fun c1 => (spec_Reads k c1).bind fun r => K (tvn (.row (.int .i64)) r)
    | _ => none)
  | 8 => some (byFresh (.int .i64) fun ρ l K => match l with
    | [b1] => (b1.as (.pair (.int .i64) (.pair (.int .i64) (.pair (.int .i64) (.pair (.int .i64) (.pair (.int .i64) (.pair (.int .i64) .unit))))))).bind fun c1 => (impl_Reads k c1).bind fun r => K r
    | _ => none)
  | 9 => some (byVal fun ρ l K => match l with
    | [b1, b2] => (b1.as (.row (.int .i64))).bind fun c1 => (b2.as (.row (.int .i64))).bind fun c2 => (laws_eqIntS k c1 c2).bind fun r => K (tvn .bool r)
    | _ => none)
  | 10 => some (byMutD (.int .i64) fun ρ xs l K => match l with
    | [b1] => (b1.as (.int .i64)).bind fun c1 => (laws_markIntS k xs c1).bind fun r => K (tvM (.int .i64) r.1) r.2
    | _ => none)
  | 11 => some (byVal fun ρ l K => match l with
    | [b1, b2] => (b1.as (.row (.int .i64))).bind fun c1 => (b2.as (.int .i64)).bind fun c2 => (laws_heldIntS k c1 c2).bind fun r => K (tvn (.int .i64) r)
    | _ => none)
  | _ => none, fun _ _ => none⟩
noncomputable def laws_FnExactReads (k : Nat) (a1 : Int × Int × Int × Int × Int × Int × Unit) : Option (Bool) :=
  abody (E_laws_FnExactReads k) (arun Try.prog (E_laws_FnExactReads k) k) k 3 Try.f3 [.tv (.pair (.int .i64) (.pair (.int .i64) (.pair (.int .i64) (.pair (.int .i64) (.pair (.int .i64) (.pair (.int .i64) .unit)))))) a1] [] (fin1 .bool)
theorem laws_FnExactReads_e (k : Nat) (a1 : Int × Int × Int × Int × Int × Int × Unit) : laws_FnExactReads k a1 =
  bindO (laws_toIns k a1) fun r1 => (bindO (spec_Reads k (r1.1, r1.2.1, r1.2.2.1, r1.2.2.2.1, r1.2.2.2.2.1, r1.2.2.2.2.2.1, ())) fun r2 => (bindO (laws_toIns k a1) fun r3 => (bindO (impl_Reads k (r3.1, r3.2.1, r3.2.2.1, r3.2.2.2.1, r3.2.2.2.2.1, r3.2.2.2.2.2.1, ())) fun r4 => (bindO (laws_eqIntS k r4 r2) fun r5 => (iteB (!r5) (some false) (bindO (laws_markIntS k r4 1) fun r6 => (bindO (laws_heldIntS k r6.2 1) fun r7 => (iteB (decide (r7 < 0)) (some false) (iteB (r7 != r6.1) (some false) (bindO (laws_toIns k a1) fun r8 => (bindO (impl_Reads k (r8.1, r8.2.1, r8.2.2.1, r8.2.2.2.1, r8.2.2.2.2.1, r8.2.2.2.2.2.1, ())) fun r9 => (bindO (laws_eqIntS k r9 r2) fun r10 => (iteB (!r10) (some false) (bindO (laws_heldIntS k r6.2 1) fun r11 => (iteB (decide (r11 < 0)) (some false) (iteB (r11 != r6.1) (some false) (some true))))))))))))))))) := by kernel_rfl
theorem E_laws_FnExactReads_calls (k : Nat) : CallsOk Try.prog (E_laws_FnExactReads k) (arun Try.prog (E_laws_FnExactReads k) k) := by
  refine told_run (tyTOk _ _) ?_ (fun run h => regOk (tyTOk _ _) mixOk h) ?_ nameOk k
  · intro g m hg
    simp only [E_laws_FnExactReads] at hg
    split at hg
    · cases hg
      refine con_byNew fun ρ l K x hm => ?_
      split at hm
      · obtain ⟨c1, h1, hm⟩ := Option.bind_eq_some_iff.1 hm
        obtain ⟨r, hr, hm⟩ := Option.bind_eq_some_iff.1 hm
        exact ⟨_, hm, LawD.reads (.cons (.as h1) .nil) (laws_toIns_law k c1 r hr)⟩
      · cases hm
    · cases hg
      refine con_byVal fun ρ l K x hm => ?_
      split at hm
      · obtain ⟨c1, h1, hm⟩ := Option.bind_eq_some_iff.1 hm
        obtain ⟨r, hr, hm⟩ := Option.bind_eq_some_iff.1 hm
        exact ⟨_, hm, LawV.reads (.cons (.as h1) .nil) (spec_Reads_law k c1 r hr)⟩
      · cases hm
    · cases hg
      refine con_byFresh fun ρ l K x hm => ?_
      split at hm
      · obtain ⟨c1, h1, hm⟩ := Option.bind_eq_some_iff.1 hm
        obtain ⟨r, hr, hm⟩ := Option.bind_eq_some_iff.1 hm
        exact ⟨_, hm, LawF.reads (.cons (.as h1) .nil) (impl_Reads_law k c1 r hr)⟩
      · cases hm
    · cases hg
      refine con_byVal fun ρ l K x hm => ?_
      split at hm
      · obtain ⟨c1, h1, hm⟩ := Option.bind_eq_some_iff.1 hm
        obtain ⟨c2, h2, hm⟩ := Option.bind_eq_some_iff.1 hm
        obtain ⟨r, hr, hm⟩ := Option.bind_eq_some_iff.1 hm
        exact ⟨_, hm, LawV.reads (.cons (.as h1) (.cons (.as h2) .nil)) (laws_eqIntS_law k c1 c2 r hr)⟩
      · cases hm
    · cases hg
      refine con_byMutD fun ρ xs l K x hm => ?_
      split at hm
      · obtain ⟨c1, h1, hm⟩ := Option.bind_eq_some_iff.1 hm
        obtain ⟨r, hr, hm⟩ := Option.bind_eq_some_iff.1 hm
        exact ⟨_, _, hm, LawMd.reads (.cons (.as h1) .nil) (laws_markIntS_law k xs c1 r hr)⟩
      · cases hm
    · cases hg
      refine con_byVal fun ρ l K x hm => ?_
      split at hm
      · obtain ⟨c1, h1, hm⟩ := Option.bind_eq_some_iff.1 hm
        obtain ⟨c2, h2, hm⟩ := Option.bind_eq_some_iff.1 hm
        obtain ⟨r, hr, hm⟩ := Option.bind_eq_some_iff.1 hm
        exact ⟨_, hm, LawV.reads (.cons (.as h1) (.cons (.as h2) .nil)) (laws_heldIntS_law k c1 c2 r hr)⟩
      · cases hm
    · cases hg
  · intro g _ r; rfl
theorem f3_oklaws_FnExactReads : Try.prog.funcs[3]? = some Try.f3 := by kernel_rfl
theorem laws_FnExactReads_law (k : Nat) (a1 : Int × Int × Int × Int × Int × Int × Unit) (x : Bool) (h : laws_FnExactReads k a1 = some x) : LawV Try.prog 3 [.tv (.pair (.int .i64) (.pair (.int .i64) (.pair (.int .i64) (.pair (.int .i64) (.pair (.int .i64) (.pair (.int .i64) .unit)))))) a1] (tvn .bool x) := by
  unfold laws_FnExactReads at h
  exact law1 (t := .bool) (tyTOk _ _) (E_laws_FnExactReads_calls k) mixOk f3_oklaws_FnExactReads (nameOk _ _ f3_oklaws_FnExactReads) (by kernel_rfl) h
end Go.Proofs.Ytkingfejeangbaa.XFnExactReads
