/- Functions of the program as runs of the interpreter: equations, and a law for each. -/
import Derived.Test.YtapijpjgfpjahaaProg
import Derived.Test.YtapijpjgfpjahaaChecked
import Derived.KernelRfl
import Derived.Eval
import Derived.Test.YtapijpjgfpjahaaATyOk
import Derived.Test.YtapijpjgfpjahaaAS32
import Derived.Test.YtapijpjgfpjahaaAMFnExactSize0
open Go Go.AM Go.AMx Go.Proofs
namespace Go.Proofs.Ytapijpjgfpjahaa.XFnExactSize
set_option linter.unusedVariables false
set_option linter.unusedSimpArgs false
/-! laws.toFuncS -/
noncomputable def E_laws_toFuncS (k : Nat) : Env := ⟨ty, fun g => match g with
  | 124 => some (byVal fun ρ l K => match l with
    | [b1] => (b1.as (.pair .str (.pair (.row (.pair .str (.pair .bool .unit))) (.pair .node .unit)))).bind fun c1 => (laws_toFunc k c1).bind fun r => K (tvn (.pair .str (.pair (.row (.pair .str (.pair .bool .unit))) (.pair .node .unit))) r)
    | _ => none)
  | 47 => some noCon
  | _ => none, fun f r => match f with | 47 => (match r with | 3 => some [0, 3, 4] | _ => none) | _ => none⟩
noncomputable def laws_toFuncS (k : Nat) (a1 : List (ByteArray × (List (ByteArray × Bool × Unit)) × AM.Node × Unit)) : Option (List (ByteArray × (List (ByteArray × Bool × Unit)) × AM.Node × Unit)) :=
  abody (E_laws_toFuncS k) (arun Try.prog (E_laws_toFuncS k) k) k 47 Try.f47 [.tv (.row (.pair .str (.pair (.row (.pair .str (.pair .bool .unit))) (.pair .node .unit)))) a1] [] (fin1 (.row (.pair .str (.pair (.row (.pair .str (.pair .bool .unit))) (.pair .node .unit)))))
noncomputable def laws_toFuncS.l3 (k n : Nat) (x0 : List (ByteArray × (List (ByteArray × Bool × Unit)) × AM.Node × Unit)) (x4 : Int) (y0 : List (ByteArray × (List (ByteArray × Bool × Unit)) × AM.Node × Unit)) : Option (List (ByteArray × (List (ByteArray × Bool × Unit)) × AM.Node × Unit)) :=
  resume (E_laws_toFuncS k) 47 (acall (E_laws_toFuncS k) (arun Try.prog (E_laws_toFuncS k) k)) k [true, true, false, true, true] [n] (bodyOf Try.f47) ⟨[.tv (.row (.pair .str (.pair (.row (.pair .str (.pair .bool .unit))) (.pair .node .unit)))) x0, .undef, .undef, .sl 0, .int .i64 x4, .undef, .undef, .undef, .undef, .undef, .undef, .undef, .undef, .undef, .undef, .undef, .undef, .undef, .undef, .undef, .undef, .undef, .undef], [some ⟨.typed (.pair .str (.pair (.row (.pair .str (.pair .bool .unit))) (.pair .node .unit))) y0, false⟩]⟩ (leave (E_laws_toFuncS k) Try.f47 (fin1 (.row (.pair .str (.pair (.row (.pair .str (.pair .bool .unit))) (.pair .node .unit))))))
theorem laws_toFuncS.l3_0 (k : Nat) (x0 : List (ByteArray × (List (ByteArray × Bool × Unit)) × AM.Node × Unit)) (x4 : Int) (y0 : List (ByteArray × (List (ByteArray × Bool × Unit)) × AM.Node × Unit)) : laws_toFuncS.l3 k 0 x0 x4 y0 = none := by kernel_rfl
theorem laws_toFuncS.l3_s (k n : Nat) (x0 : List (ByteArray × (List (ByteArray × Bool × Unit)) × AM.Node × Unit)) (x4 : Int) (y0 : List (ByteArray × (List (ByteArray × Bool × Unit)) × AM.Node × Unit)) : laws_toFuncS.l3 k (n + 1) x0 x4 y0 =
  iteB (decide (x4 < ((List.length x0) : Int))) (iteB (decide (0 ≤ x4)) (iteB (decide (x4 < ((List.length x0) : Int))) (bindO (laws_toFunc k (List.getD x0 (Int.toNat x4) (Ty.dflt (.pair .str (.pair (.row (.pair .str (.pair .bool .unit))) (.pair .node .unit)))))) fun r1 => (iteB (decide (0 ≤ x4)) (iteB (decide (x4 < ((List.length y0) : Int))) (laws_toFuncS.l3 k n x0 (IntKind.wrap .i64 (x4 + 1)) (List.set y0 (Int.toNat x4) r1)) (none)) (none))) (none)) (none)) (some y0) := by kernel_rfl
theorem laws_toFuncS_e (k : Nat) (a1 : List (ByteArray × (List (ByteArray × Bool × Unit)) × AM.Node × Unit)) : laws_toFuncS k a1 =
  iteB (decide (0 ≤ ((List.length a1) : Int))) (iteB (decide (((List.length a1) : Int) ≤ ((List.length a1) : Int))) (iteB (decide (((List.length a1) : Int) * 96 ≤ (lim : Int))) (iteB (decide (((List.length a1) : Int) ≤ (lim : Int)) && true) (laws_toFuncS.l3 k k a1 0 (List.replicate (Int.toNat ((List.length a1) : Int)) (Ty.dflt (.pair .str (.pair (.row (.pair .str (.pair .bool .unit))) (.pair .node .unit)))))) (none)) (none)) (none)) (none) := by kernel_rfl
theorem E_laws_toFuncS_calls (k : Nat) : CallsOk Try.prog (E_laws_toFuncS k) (arun Try.prog (E_laws_toFuncS k) k) := by
  refine told_run (tyTOk _ _) ?_ (fun run h => regOk (tyTOk _ _) mixOk h) ?_ nameOk k
  · intro g m hg
    simp only [E_laws_toFuncS] at hg
    split at hg
    · cases hg
      refine con_byVal fun ρ l K x hm => ?_
      split at hm
      · obtain ⟨c1, h1, hm⟩ := Option.bind_eq_some_iff.1 hm
        obtain ⟨r, hr, hm⟩ := Option.bind_eq_some_iff.1 hm
        exact ⟨_, hm, LawV.reads (.cons (.as h1) .nil) (laws_toFunc_law k c1 r hr)⟩
      · cases hm
    · cases hg; exact noCon_ok
    · cases hg
  · intro g hg r
    by_cases h : g = 47
    · subst h; simp [E_laws_toFuncS] at hg
    · simp [E_laws_toFuncS, h]
theorem f47_oklaws_toFuncS : Try.prog.funcs[47]? = some Try.f47 := by kernel_rfl
theorem laws_toFuncS_law (k : Nat) (a1 : List (ByteArray × (List (ByteArray × Bool × Unit)) × AM.Node × Unit)) (x : List (ByteArray × (List (ByteArray × Bool × Unit)) × AM.Node × Unit)) (h : laws_toFuncS k a1 = some x) : LawV Try.prog 47 [.tv (.row (.pair .str (.pair (.row (.pair .str (.pair .bool .unit))) (.pair .node .unit)))) a1] (tvn (.row (.pair .str (.pair (.row (.pair .str (.pair .bool .unit))) (.pair .node .unit)))) x) := by
  unfold laws_toFuncS at h
  exact law1 (t := (.row (.pair .str (.pair (.row (.pair .str (.pair .bool .unit))) (.pair .node .unit))))) (tyTOk _ _) (E_laws_toFuncS_calls k) mixOk f47_oklaws_toFuncS (nameOk _ _ f47_oklaws_toFuncS) (by kernel_rfl) h
/-! spec.l6Size -/
noncomputable def G_spec_l6Size (r0 : AM.Node → Option Int) (k : Nat) : Env := ⟨ty, fun g => match g with
  | 123 => some (byVal fun ρ l K => match l with
    | [b1] => (b1.as .node).bind fun c1 => (r0 c1).bind fun r => K (tvn (.int .i64) r)
    | _ => none)
  | _ => none, fun f r => match f with | 123 => (match r with | 3 => some [1, 3, 4] | _ => none) | _ => none⟩
noncomputable def grp_spec_l6Size : Nat → (AM.Node → Option Int) := fun k => Nat.rec (motive := fun _ => (AM.Node → Option Int)) (fun _ => none) (fun k ih => (fun a1 => abody (G_spec_l6Size ih k) (arun Try.prog (G_spec_l6Size ih k) k) k 123 Try.f123 [.tv .node a1] [] (fin1 (.int .i64)))) k
noncomputable def E_spec_l6Size (k : Nat) : Env := G_spec_l6Size (grp_spec_l6Size k) k
noncomputable def spec_l6Size (k : Nat) (a1 : AM.Node) : Option (Int) := (grp_spec_l6Size k) a1
noncomputable def spec_l6Size.l3 (k n : Nat) (x3 : Int) (x4 : Int) (y0_0 : AM.Node) : Option (Int) :=
  resume (E_spec_l6Size k) 123 (acall (E_spec_l6Size k) (arun Try.prog (E_spec_l6Size k) k)) k [true, true, false, true, true] [n] (bodyOf Try.f123) ⟨[.undef, .ptr 0 0 0, .undef, .int .i64 x3, .int .i64 x4, .undef, .undef, .undef, .undef, .undef, .undef, .undef, .undef, .undef, .undef, .undef, .undef, .undef, .undef, .undef, .undef], [some ⟨.raw true 4 (.agg [.int .i64 0, .str ByteArray.empty, .int .i64 0, .nils]) [.tv .node y0_0], true⟩]⟩ (leave (E_spec_l6Size k) Try.f123 (fin1 (.int .i64)))
theorem spec_l6Size.l3_0 (k : Nat) (x3 : Int) (x4 : Int) (y0_0 : AM.Node) : spec_l6Size.l3 k 0 x3 x4 y0_0 = none := by kernel_rfl
theorem spec_l6Size.l3_s (k n : Nat) (x3 : Int) (x4 : Int) (y0_0 : AM.Node) : spec_l6Size.l3 k (n + 1) x3 x4 y0_0 =
  iteB (decide (x4 < ((List.length (AM.Node.kids y0_0)) : Int))) (iteB (decide (0 ≤ x4)) (iteB (decide (x4 < ((List.length (AM.Node.kids y0_0)) : Int))) (bindO (spec_l6Size k (List.getD (AM.Node.kids y0_0) (Int.toNat x4) (Ty.dflt .node))) fun r1 => (spec_l6Size.l3 k n (IntKind.wrap .i64 (x3 + r1)) (IntKind.wrap .i64 (x4 + 1)) y0_0)) (none)) (none)) (some x3) := by kernel_rfl
theorem spec_l6Size_0 (a1 : AM.Node) : spec_l6Size 0 a1 = none := by kernel_rfl
theorem spec_l6Size_e (k : Nat) (a1 : AM.Node) : spec_l6Size (k + 1) a1 =
  spec_l6Size.l3 k k 1 0 a1 := by kernel_rfl
theorem E_spec_l6Size_calls (k : Nat) (q0 : ∀ (a1 : AM.Node) (x : Int), spec_l6Size k a1 = some x → LawV Try.prog 123 [.tv .node a1] (tvn (.int .i64) x)) : CallsOk Try.prog (E_spec_l6Size k) (arun Try.prog (E_spec_l6Size k) k) := by
  refine told_run (tyTOk _ _) ?_ (fun run h => regOk (tyTOk _ _) mixOk h) ?_ nameOk k
  · intro g m hg
    simp only [E_spec_l6Size, G_spec_l6Size] at hg
    split at hg
    · cases hg
      refine con_byVal fun ρ l K x hm => ?_
      split at hm
      · obtain ⟨c1, h1, hm⟩ := Option.bind_eq_some_iff.1 hm
        obtain ⟨r, hr, hm⟩ := Option.bind_eq_some_iff.1 hm
        exact ⟨_, hm, LawV.reads (.cons (.as h1) .nil) (q0 c1 r hr)⟩
      · cases hm
    · cases hg
  · intro g hg r
    by_cases h : g = 123
    · subst h; simp [E_spec_l6Size, G_spec_l6Size] at hg
    · simp [E_spec_l6Size, G_spec_l6Size, h]
theorem f123_okspec_l6Size : Try.prog.funcs[123]? = some Try.f123 := by kernel_rfl
theorem spec_l6Size_u (k : Nat) (a1 : AM.Node) : abody (E_spec_l6Size k) (arun Try.prog (E_spec_l6Size k) k) k 123 Try.f123 [.tv .node a1] [] (fin1 (.int .i64)) = spec_l6Size (k + 1) a1 := by kernel_rfl
theorem grp_spec_l6Size_law (k : Nat) : (∀ (a1 : AM.Node) (x : Int), spec_l6Size k a1 = some x → LawV Try.prog 123 [.tv .node a1] (tvn (.int .i64) x)) := by
  induction k with
  | zero => exact fun a1 x h => by rw [spec_l6Size_0] at h; cases h
  | succ k ih =>
    exact (fun a1 x h => law1 (t := (.int .i64)) (tyTOk _ _) (E_spec_l6Size_calls k ih) mixOk f123_okspec_l6Size (nameOk _ _ f123_okspec_l6Size) (by kernel_rfl) ((spec_l6Size_u k a1).trans h))
theorem spec_l6Size_law (k : Nat) (a1 : AM.Node) (x : Int) (h : spec_l6Size k a1 = some x) : LawV Try.prog 123 [.tv .node a1] (tvn (.int .i64) x) := (grp_spec_l6Size_law k) a1 x h
/-! spec.Size -/
noncomputable def E_spec_Size (k : Nat) : Env := ⟨ty, fun g => match g with
  | 123 => some (byVal fun ρ l K => match l with
    | [b1] => (b1.as .node).bind fun c1 => (spec_l6Size k c1).bind fun r => K (tvn (.int .i64) r)
    | _ => none)
  | 46 => some noCon
  | _ => none, fun f r => match f with | 46 => (match r with | 3 => some [0, 3, 4] | _ => none) | _ => none⟩
noncomputable def spec_Size (k : Nat) (a1 : List (ByteArray × (List (ByteArray × Bool × Unit)) × AM.Node × Unit)) : Option (Int) :=
  abody (E_spec_Size k) (arun Try.prog (E_spec_Size k) k) k 46 Try.f46 [.tv (.row (.pair .str (.pair (.row (.pair .str (.pair .bool .unit))) (.pair .node .unit)))) a1] [] (fin1 (.int .i64))
noncomputable def spec_Size.l3 (k n : Nat) (x0 : List (ByteArray × (List (ByteArray × Bool × Unit)) × AM.Node × Unit)) (x3 : Int) (x4 : Int) : Option (Int) :=
  resume (E_spec_Size k) 46 (acall (E_spec_Size k) (arun Try.prog (E_spec_Size k) k)) k [true, true, false, true, true] [n] (bodyOf Try.f46) ⟨[.tv (.row (.pair .str (.pair (.row (.pair .str (.pair .bool .unit))) (.pair .node .unit)))) x0, .undef, .undef, .int .i64 x3, .int .i64 x4, .undef, .undef, .undef, .undef, .undef, .undef, .undef, .undef, .undef, .undef, .undef, .undef, .undef, .undef, .undef], []⟩ (leave (E_spec_Size k) Try.f46 (fin1 (.int .i64)))
theorem spec_Size.l3_0 (k : Nat) (x0 : List (ByteArray × (List (ByteArray × Bool × Unit)) × AM.Node × Unit)) (x3 : Int) (x4 : Int) : spec_Size.l3 k 0 x0 x3 x4 = none := by kernel_rfl
theorem spec_Size.l3_s (k n : Nat) (x0 : List (ByteArray × (List (ByteArray × Bool × Unit)) × AM.Node × Unit)) (x3 : Int) (x4 : Int) : spec_Size.l3 k (n + 1) x0 x3 x4 =
  iteB (decide (x4 < ((List.length x0) : Int))) (iteB (decide (0 ≤ x4)) (iteB (decide (x4 < ((List.length x0) : Int))) (bindO (spec_l6Size k ((((List.getD x0 (Int.toNat x4) (Ty.dflt (.pair .str (.pair (.row (.pair .str (.pair .bool .unit))) (.pair .node .unit))))).2).2).1)) fun r1 => (spec_Size.l3 k n x0 (IntKind.wrap .i64 (x3 + r1)) (IntKind.wrap .i64 (x4 + 1)))) (none)) (none)) (some x3) := by kernel_rfl
theorem spec_Size_e (k : Nat) (a1 : List (ByteArray × (List (ByteArray × Bool × Unit)) × AM.Node × Unit)) : spec_Size k a1 =
  spec_Size.l3 k k a1 0 0 := by kernel_rfl
theorem E_spec_Size_calls (k : Nat) : CallsOk Try.prog (E_spec_Size k) (arun Try.prog (E_spec_Size k) k) := by
  refine told_run (tyTOk _ _) ?_ (fun run h => regOk (tyTOk _ _) mixOk h) ?_ nameOk k
  · intro g m hg
    simp only [E_spec_Size] at hg
    split at hg
    · cases hg
      refine con_byVal fun ρ l K x hm => ?_
      split at hm
      · obtain ⟨c1, h1, hm⟩ := Option.bind_eq_some_iff.1 hm
        obtain ⟨r, hr, hm⟩ := Option.bind_eq_some_iff.1 hm
        exact ⟨_, hm, LawV.reads (.cons (.as h1) .nil) (spec_l6Size_law k c1 r hr)⟩
      · cases hm
    · cases hg; exact noCon_ok
    · cases hg
  · intro g hg r
    by_cases h : g = 46
    · subst h; simp [E_spec_Size] at hg
    · simp [E_spec_Size, h]
theorem f46_okspec_Size : Try.prog.funcs[46]? = some Try.f46 := by kernel_rfl
theorem spec_Size_law (k : Nat) (a1 : List (ByteArray × (List (ByteArray × Bool × Unit)) × AM.Node × Unit)) (x : Int) (h : spec_Size k a1 = some x) : LawV Try.prog 46 [.tv (.row (.pair .str (.pair (.row (.pair .str (.pair .bool .unit))) (.pair .node .unit)))) a1] (tvn (.int .i64) x) := by
  unfold spec_Size at h
  exact law1 (t := (.int .i64)) (tyTOk _ _) (E_spec_Size_calls k) mixOk f46_okspec_Size (nameOk _ _ f46_okspec_Size) (by kernel_rfl) h
/-! impl.nodes -/
noncomputable def G_impl_nodes (r0 : AM.Node → Option Int) (k : Nat) : Env := ⟨ty, fun g => match g with
  | 125 => some (byVal fun ρ l K => match l with
    | [b1] => (b1.as .node).bind fun c1 => (r0 c1).bind fun r => K (tvn (.int .i64) r)
    | _ => none)
  | _ => none, fun f r => match f with | 125 => (match r with | 3 => some [3, 7, 8, 9] | _ => none) | _ => none⟩
noncomputable def grp_impl_nodes : Nat → (AM.Node → Option Int) := fun k => Nat.rec (motive := fun _ => (AM.Node → Option Int)) (fun _ => none) (fun k ih => (fun a1 => abody (G_impl_nodes ih k) (arun Try.prog (G_impl_nodes ih k) k) k 125 Try.f125 [.tv .node a1] [] (fin1 (.int .i64)))) k
noncomputable def E_impl_nodes (k : Nat) : Env := G_impl_nodes (grp_impl_nodes k) k
noncomputable def impl_nodes (k : Nat) (a1 : AM.Node) : Option (Int) := (grp_impl_nodes k) a1
noncomputable def impl_nodes.l3 (k n : Nat) (x3 : Int) (x7 : List AM.Node) (x8 : Int) (x9 : Int) : Option (Int) :=
  resume (E_impl_nodes k) 125 (acall (E_impl_nodes k) (arun Try.prog (E_impl_nodes k) k)) k [true, true, false, true, true] [n] (bodyOf Try.f125) ⟨[.undef, .undef, .undef, .int .i64 x3, .undef, .undef, .undef, .tv (.row .node) x7, .int .i64 x8, .int .i64 x9, .undef, .undef, .undef, .undef, .undef, .undef, .undef, .undef, .undef], []⟩ (leave (E_impl_nodes k) Try.f125 (fin1 (.int .i64)))
theorem impl_nodes.l3_0 (k : Nat) (x3 : Int) (x7 : List AM.Node) (x8 : Int) (x9 : Int) : impl_nodes.l3 k 0 x3 x7 x8 x9 = none := by kernel_rfl
theorem impl_nodes.l3_s (k n : Nat) (x3 : Int) (x7 : List AM.Node) (x8 : Int) (x9 : Int) : impl_nodes.l3 k (n + 1) x3 x7 x8 x9 =
  iteB (decide (x9 < x8)) (iteB (decide (0 ≤ x9)) (iteB (decide (x9 < ((List.length x7) : Int))) (bindO (impl_nodes k (List.getD x7 (Int.toNat x9) (Ty.dflt .node))) fun r1 => (impl_nodes.l3 k n (IntKind.wrap .i64 (x3 + r1)) x7 x8 (IntKind.wrap .i64 (x9 + 1)))) (none)) (none)) (some x3) := by kernel_rfl
theorem impl_nodes_0 (a1 : AM.Node) : impl_nodes 0 a1 = none := by kernel_rfl
theorem impl_nodes_e (k : Nat) (a1 : AM.Node) : impl_nodes (k + 1) a1 =
  impl_nodes.l3 k k 1 (AM.Node.kids a1) ((List.length (AM.Node.kids a1)) : Int) 0 := by kernel_rfl
theorem E_impl_nodes_calls (k : Nat) (q0 : ∀ (a1 : AM.Node) (x : Int), impl_nodes k a1 = some x → LawV Try.prog 125 [.tv .node a1] (tvn (.int .i64) x)) : CallsOk Try.prog (E_impl_nodes k) (arun Try.prog (E_impl_nodes k) k) := by
  refine told_run (tyTOk _ _) ?_ (fun run h => regOk (tyTOk _ _) mixOk h) ?_ nameOk k
  · intro g m hg
    simp only [E_impl_nodes, G_impl_nodes] at hg
    split at hg
    · cases hg
      refine con_byVal fun ρ l K x hm => ?_
      split at hm
      · obtain ⟨c1, h1, hm⟩ := Option.bind_eq_some_iff.1 hm
        obtain ⟨r, hr, hm⟩ := Option.bind_eq_some_iff.1 hm
        exact ⟨_, hm, LawV.reads (.cons (.as h1) .nil) (q0 c1 r hr)⟩
      · cases hm
    · cases hg
  · intro g hg r
    by_cases h : g = 125
    · subst h; simp [E_impl_nodes, G_impl_nodes] at hg
    · simp [E_impl_nodes, G_impl_nodes, h]
theorem f125_okimpl_nodes : Try.prog.funcs[125]? = some Try.f125 := by kernel_rfl
theorem impl_nodes_u (k : Nat) (a1 : AM.Node) : abody (E_impl_nodes k) (arun Try.prog (E_impl_nodes k) k) k 125 Try.f125 [.tv .node a1] [] (fin1 (.int .i64)) = impl_nodes (k + 1) a1 := by kernel_rfl
theorem grp_impl_nodes_law (k : Nat) : (∀ (a1 : AM.Node) (x : Int), impl_nodes k a1 = some x → LawV Try.prog 125 [.tv .node a1] (tvn (.int .i64) x)) := by
  induction k with
  | zero => exact fun a1 x h => by rw [impl_nodes_0] at h; cases h
  | succ k ih =>
    exact (fun a1 x h => law1 (t := (.int .i64)) (tyTOk _ _) (E_impl_nodes_calls k ih) mixOk f125_okimpl_nodes (nameOk _ _ f125_okimpl_nodes) (by kernel_rfl) ((impl_nodes_u k a1).trans h))
theorem impl_nodes_law (k : Nat) (a1 : AM.Node) (x : Int) (h : impl_nodes k a1 = some x) : LawV Try.prog 125 [.tv .node a1] (tvn (.int .i64) x) := (grp_impl_nodes_law k) a1 x h
/-! impl.Size -/
noncomputable def E_impl_Size (k : Nat) : Env := ⟨ty, fun g => match g with
  | 125 => some (byVal fun ρ l K => match l with
    | [b1] => (b1.as .node).bind fun c1 => (impl_nodes k c1).bind fun r => K (tvn (.int .i64) r)
    | _ => none)
  | 48 => some noCon
  | _ => none, fun f r => match f with | 48 => (match r with | 3 => some [3, 6, 7, 8] | _ => none) | _ => none⟩
noncomputable def impl_Size (k : Nat) (a1 : List (ByteArray × (List (ByteArray × Bool × Unit)) × AM.Node × Unit)) : Option (Int) :=
  abody (E_impl_Size k) (arun Try.prog (E_impl_Size k) k) k 48 Try.f48 [.tv (.row (.pair .str (.pair (.row (.pair .str (.pair .bool .unit))) (.pair .node .unit)))) a1] [] (fin1 (.int .i64))
noncomputable def impl_Size.l3 (k n : Nat) (x3 : Int) (x6 : List (ByteArray × (List (ByteArray × Bool × Unit)) × AM.Node × Unit)) (x7 : Int) (x8 : Int) : Option (Int) :=
  resume (E_impl_Size k) 48 (acall (E_impl_Size k) (arun Try.prog (E_impl_Size k) k)) k [true, true, false, true, true] [n] (bodyOf Try.f48) ⟨[.undef, .undef, .undef, .int .i64 x3, .undef, .undef, .tv (.row (.pair .str (.pair (.row (.pair .str (.pair .bool .unit))) (.pair .node .unit)))) x6, .int .i64 x7, .int .i64 x8, .undef, .undef, .undef, .undef, .undef, .undef, .undef, .undef, .undef, .undef], []⟩ (leave (E_impl_Size k) Try.f48 (fin1 (.int .i64)))
theorem impl_Size.l3_0 (k : Nat) (x3 : Int) (x6 : List (ByteArray × (List (ByteArray × Bool × Unit)) × AM.Node × Unit)) (x7 : Int) (x8 : Int) : impl_Size.l3 k 0 x3 x6 x7 x8 = none := by kernel_rfl
theorem impl_Size.l3_s (k n : Nat) (x3 : Int) (x6 : List (ByteArray × (List (ByteArray × Bool × Unit)) × AM.Node × Unit)) (x7 : Int) (x8 : Int) : impl_Size.l3 k (n + 1) x3 x6 x7 x8 =
  iteB (decide (x8 < x7)) (iteB (decide (0 ≤ x8)) (iteB (decide (x8 < ((List.length x6) : Int))) (bindO (impl_nodes k (AM.Node.mk (AM.Node.op ((((List.getD x6 (Int.toNat x8) (Ty.dflt (.pair .str (.pair (.row (.pair .str (.pair .bool .unit))) (.pair .node .unit))))).2).2).1)) (AM.Node.s ((((List.getD x6 (Int.toNat x8) (Ty.dflt (.pair .str (.pair (.row (.pair .str (.pair .bool .unit))) (.pair .node .unit))))).2).2).1)) (AM.Node.n ((((List.getD x6 (Int.toNat x8) (Ty.dflt (.pair .str (.pair (.row (.pair .str (.pair .bool .unit))) (.pair .node .unit))))).2).2).1)) (AM.Node.kids ((((List.getD x6 (Int.toNat x8) (Ty.dflt (.pair .str (.pair (.row (.pair .str (.pair .bool .unit))) (.pair .node .unit))))).2).2).1)))) fun r1 => (impl_Size.l3 k n (IntKind.wrap .i64 (x3 + r1)) x6 x7 (IntKind.wrap .i64 (x8 + 1)))) (none)) (none)) (some x3) := by kernel_rfl
theorem impl_Size_e (k : Nat) (a1 : List (ByteArray × (List (ByteArray × Bool × Unit)) × AM.Node × Unit)) : impl_Size k a1 =
  impl_Size.l3 k k 0 a1 ((List.length a1) : Int) 0 := by kernel_rfl
theorem E_impl_Size_calls (k : Nat) : CallsOk Try.prog (E_impl_Size k) (arun Try.prog (E_impl_Size k) k) := by
  refine told_run (tyTOk _ _) ?_ (fun run h => regOk (tyTOk _ _) mixOk h) ?_ nameOk k
  · intro g m hg
    simp only [E_impl_Size] at hg
    split at hg
    · cases hg
      refine con_byVal fun ρ l K x hm => ?_
      split at hm
      · obtain ⟨c1, h1, hm⟩ := Option.bind_eq_some_iff.1 hm
        obtain ⟨r, hr, hm⟩ := Option.bind_eq_some_iff.1 hm
        exact ⟨_, hm, LawV.reads (.cons (.as h1) .nil) (impl_nodes_law k c1 r hr)⟩
      · cases hm
    · cases hg; exact noCon_ok
    · cases hg
  · intro g hg r
    by_cases h : g = 48
    · subst h; simp [E_impl_Size] at hg
    · simp [E_impl_Size, h]
theorem f48_okimpl_Size : Try.prog.funcs[48]? = some Try.f48 := by kernel_rfl
theorem impl_Size_law (k : Nat) (a1 : List (ByteArray × (List (ByteArray × Bool × Unit)) × AM.Node × Unit)) (x : Int) (h : impl_Size k a1 = some x) : LawV Try.prog 48 [.tv (.row (.pair .str (.pair (.row (.pair .str (.pair .bool .unit))) (.pair .node .unit)))) a1] (tvn (.int .i64) x) := by
  unfold impl_Size at h
  exact law1 (t := (.int .i64)) (tyTOk _ _) (E_impl_Size_calls k) mixOk f48_okimpl_Size (nameOk _ _ f48_okimpl_Size) (by kernel_rfl) h
/-! laws.eqParam -/
noncomputable def E_laws_eqParam (k : Nat) : Env := ⟨ty, fun _ => none, fun _ _ => none⟩
noncomputable def laws_eqParam (k : Nat) (a1 : ByteArray × Bool × Unit) (a2 : ByteArray × Bool × Unit) : Option (Bool) :=
  abody (E_laws_eqParam k) (arun Try.prog (E_laws_eqParam k) k) k 212 Try.f212 [.tv (.pair .str (.pair .bool .unit)) a1, .tv (.pair .str (.pair .bool .unit)) a2] [] (fin1 .bool)
theorem laws_eqParam_e (k : Nat) (a1 : ByteArray × Bool × Unit) (a2 : ByteArray × Bool × Unit) : laws_eqParam k a1 a2 =
  iteB (!(ByteArray.toList a1.1 == ByteArray.toList a2.1)) (some false) (iteB (!(a1.2.1 == a2.2.1)) (some false) (some true)) := by kernel_rfl
theorem E_laws_eqParam_calls (k : Nat) : CallsOk Try.prog (E_laws_eqParam k) (arun Try.prog (E_laws_eqParam k) k) := by
  refine told_run (tyTOk _ _) ?_ (fun run h => regOk (tyTOk _ _) mixOk h) ?_ nameOk k
  · intro g m hg
    cases hg
  · intro g _ r; rfl
theorem f212_oklaws_eqParam : Try.prog.funcs[212]? = some Try.f212 := by kernel_rfl
theorem laws_eqParam_law (k : Nat) (a1 : ByteArray × Bool × Unit) (a2 : ByteArray × Bool × Unit) (x : Bool) (h : laws_eqParam k a1 a2 = some x) : LawV Try.prog 212 [.tv (.pair .str (.pair .bool .unit)) a1, .tv (.pair .str (.pair .bool .unit)) a2] (tvn .bool x) := by
  unfold laws_eqParam at h
  exact law1 (t := .bool) (tyTOk _ _) (E_laws_eqParam_calls k) mixOk f212_oklaws_eqParam (nameOk _ _ f212_oklaws_eqParam) (by kernel_rfl) h
/-! laws.eqParamS -/
noncomputable def E_laws_eqParamS (k : Nat) : Env := ⟨ty, fun g => match g with
  | 212 => some (byVal fun ρ l K => match l with
    | [b1, b2] => (b1.as (.pair .str (.pair .bool .unit))).bind fun c1 => (b2.as (.pair .str (.pair .bool .unit))).bind fun c2 => (laws_eqParam k c1 c2).bind fun r => K (tvn .bool r)
    | _ => none)
  | 188 => some noCon
  | _ => none, fun f r => match f with | 188 => (match r with | 4 => some [0, 1, 5] | _ => none) | _ => none⟩
noncomputable def laws_eqParamS (k : Nat) (a1 : List (ByteArray × Bool × Unit)) (a2 : List (ByteArray × Bool × Unit)) : Option (Bool) :=
  abody (E_laws_eqParamS k) (arun Try.prog (E_laws_eqParamS k) k) k 188 Try.f188 [.tv (.row (.pair .str (.pair .bool .unit))) a1, .tv (.row (.pair .str (.pair .bool .unit))) a2] [] (fin1 .bool)
noncomputable def laws_eqParamS.l4 (k n : Nat) (x0 : List (ByteArray × Bool × Unit)) (x1 : List (ByteArray × Bool × Unit)) (x5 : Int) : Option (Bool) :=
  resume (E_laws_eqParamS k) 188 (acall (E_laws_eqParamS k) (arun Try.prog (E_laws_eqParamS k) k)) k [true, true, false, true, true] [n] (bodyOf Try.f188) ⟨[.tv (.row (.pair .str (.pair .bool .unit))) x0, .tv (.row (.pair .str (.pair .bool .unit))) x1, .undef, .undef, .undef, .int .i64 x5, .undef, .undef, .undef, .undef, .undef, .undef, .undef, .undef, .undef, .undef, .undef, .undef, .undef, .undef, .undef, .undef, .undef, .undef, .undef, .undef, .undef], []⟩ (leave (E_laws_eqParamS k) Try.f188 (fin1 .bool))
theorem laws_eqParamS.l4_0 (k : Nat) (x0 : List (ByteArray × Bool × Unit)) (x1 : List (ByteArray × Bool × Unit)) (x5 : Int) : laws_eqParamS.l4 k 0 x0 x1 x5 = none := by kernel_rfl
theorem laws_eqParamS.l4_s (k n : Nat) (x0 : List (ByteArray × Bool × Unit)) (x1 : List (ByteArray × Bool × Unit)) (x5 : Int) : laws_eqParamS.l4 k (n + 1) x0 x1 x5 =
  iteB (decide (x5 < ((List.length x0) : Int))) (iteB (decide (0 ≤ x5)) (iteB (decide (x5 < ((List.length x0) : Int))) (iteB (decide (0 ≤ x5)) (iteB (decide (x5 < ((List.length x1) : Int))) (bindO (laws_eqParam k (List.getD x0 (Int.toNat x5) (Ty.dflt (.pair .str (.pair .bool .unit)))) (List.getD x1 (Int.toNat x5) (Ty.dflt (.pair .str (.pair .bool .unit))))) fun r1 => (iteB (!r1) (some false) (laws_eqParamS.l4 k n x0 x1 (IntKind.wrap .i64 (x5 + 1))))) (none)) (none)) (none)) (none)) (some true) := by kernel_rfl
theorem laws_eqParamS_e (k : Nat) (a1 : List (ByteArray × Bool × Unit)) (a2 : List (ByteArray × Bool × Unit)) : laws_eqParamS k a1 a2 =
  iteB (((List.length a1) : Int) != ((List.length a2) : Int)) (some false) (laws_eqParamS.l4 k k a1 a2 0) := by kernel_rfl
theorem E_laws_eqParamS_calls (k : Nat) : CallsOk Try.prog (E_laws_eqParamS k) (arun Try.prog (E_laws_eqParamS k) k) := by
  refine told_run (tyTOk _ _) ?_ (fun run h => regOk (tyTOk _ _) mixOk h) ?_ nameOk k
  · intro g m hg
    simp only [E_laws_eqParamS] at hg
    split at hg
    · cases hg
      refine con_byVal fun ρ l K x hm => ?_
      split at hm
      · obtain ⟨c1, h1, hm⟩ := Option.bind_eq_some_iff.1 hm
        obtain ⟨c2, h2, hm⟩ := Option.bind_eq_some_iff.1 hm
        obtain ⟨r, hr, hm⟩ := Option.bind_eq_some_iff.1 hm
        exact ⟨_, hm, LawV.reads (.cons (.as h1) (.cons (.as h2) .nil)) (laws_eqParam_law k c1 c2 r hr)⟩
      · cases hm
    · cases hg; exact noCon_ok
    · cases hg
  · intro g hg r
    by_cases h : g = 188
    · subst h; simp [E_laws_eqParamS] at hg
    · simp [E_laws_eqParamS, h]
theorem f188_oklaws_eqParamS : Try.prog.funcs[188]? = some Try.f188 := by kernel_rfl
theorem laws_eqParamS_law (k : Nat) (a1 : List (ByteArray × Bool × Unit)) (a2 : List (ByteArray × Bool × Unit)) (x : Bool) (h : laws_eqParamS k a1 a2 = some x) : LawV Try.prog 188 [.tv (.row (.pair .str (.pair .bool .unit))) a1, .tv (.row (.pair .str (.pair .bool .unit))) a2] (tvn .bool x) := by
  unfold laws_eqParamS at h
  exact law1 (t := .bool) (tyTOk _ _) (E_laws_eqParamS_calls k) mixOk f188_oklaws_eqParamS (nameOk _ _ f188_oklaws_eqParamS) (by kernel_rfl) h
/-! laws.eqNode, laws.eqNodeS -/
noncomputable def G_laws_eqNode (r0 : AM.Node → AM.Node → Option Bool) (r1 : (List AM.Node) → (List AM.Node) → Option Bool) (k : Nat) : Env := ⟨ty, fun g => match g with
  | 121 => some (byVal fun ρ l K => match l with
    | [b1, b2] => (b1.as (.row .node)).bind fun c1 => (b2.as (.row .node)).bind fun c2 => (r1 c1 c2).bind fun r => K (tvn .bool r)
    | _ => none)
  | _ => none, fun _ _ => none⟩
noncomputable def G_laws_eqNodeS (r0 : AM.Node → AM.Node → Option Bool) (r1 : (List AM.Node) → (List AM.Node) → Option Bool) (k : Nat) : Env := ⟨ty, fun g => match g with
  | 44 => some (byVal fun ρ l K => match l with
    | [b1, b2] => (b1.as .node).bind fun c1 => (b2.as .node).bind fun c2 => (r0 c1 c2).bind fun r => K (tvn .bool r)
    | _ => none)
  | 121 => some noCon
  | _ => none, fun f r => match f with | 121 => (match r with | 4 => some [0, 1, 5] | _ => none) | _ => none⟩
noncomputable def grp_laws_eqNode : Nat → (AM.Node → AM.Node → Option Bool) × ((List AM.Node) → (List AM.Node) → Option Bool) := fun k => Nat.rec (motive := fun _ => (AM.Node → AM.Node → Option Bool) × ((List AM.Node) → (List AM.Node) → Option Bool)) (fun _ _ => none, fun _ _ => none) (fun k ih => (fun a1 a2 => abody (G_laws_eqNode ih.1 ih.2 k) (arun Try.prog (G_laws_eqNode ih.1 ih.2 k) k) k 44 Try.f44 [.tv .node a1, .tv .node a2] [] (fin1 .bool), fun a1 a2 => abody (G_laws_eqNodeS ih.1 ih.2 k) (arun Try.prog (G_laws_eqNodeS ih.1 ih.2 k) k) k 121 Try.f121 [.tv (.row .node) a1, .tv (.row .node) a2] [] (fin1 .bool))) k
noncomputable def E_laws_eqNode (k : Nat) : Env := G_laws_eqNode (grp_laws_eqNode k).1 (grp_laws_eqNode k).2 k
noncomputable def laws_eqNode (k : Nat) (a1 : AM.Node) (a2 : AM.Node) : Option (Bool) := (grp_laws_eqNode k).1 a1 a2
noncomputable def E_laws_eqNodeS (k : Nat) : Env := G_laws_eqNodeS (grp_laws_eqNode k).1 (grp_laws_eqNode k).2 k
noncomputable def laws_eqNodeS (k : Nat) (a1 : List AM.Node) (a2 : List AM.Node) : Option (Bool) := (grp_laws_eqNode k).2 a1 a2
noncomputable def laws_eqNodeS.l4 (k n : Nat) (x0 : List AM.Node) (x1 : List AM.Node) (x5 : Int) : Option (Bool) :=
  resume (E_laws_eqNodeS k) 121 (acall (E_laws_eqNodeS k) (arun Try.prog (E_laws_eqNodeS k) k)) k [true, true, false, true, true] [n] (bodyOf Try.f121) ⟨[.tv (.row .node) x0, .tv (.row .node) x1, .undef, .undef, .undef, .int .i64 x5, .undef, .undef, .undef, .undef, .undef, .undef, .undef, .undef, .undef, .undef, .undef, .undef, .undef, .undef, .undef, .undef, .undef, .undef, .undef, .undef, .undef], []⟩ (leave (E_laws_eqNodeS k) Try.f121 (fin1 .bool))
theorem laws_eqNode_0 (a1 : AM.Node) (a2 : AM.Node) : laws_eqNode 0 a1 a2 = none := by kernel_rfl
theorem laws_eqNode_e (k : Nat) (a1 : AM.Node) (a2 : AM.Node) : laws_eqNode (k + 1) a1 a2 =
  iteB ((AM.Node.op a1) != (AM.Node.op a2)) (some false) (iteB (!(ByteArray.toList (AM.Node.s a1) == ByteArray.toList (AM.Node.s a2))) (some false) (iteB ((AM.Node.n a1) != (AM.Node.n a2)) (some false) (bindO (laws_eqNodeS k (AM.Node.kids a1) (AM.Node.kids a2)) fun r1 => (iteB (!r1) (some false) (some true))))) := by kernel_rfl
theorem laws_eqNodeS.l4_0 (k : Nat) (x0 : List AM.Node) (x1 : List AM.Node) (x5 : Int) : laws_eqNodeS.l4 k 0 x0 x1 x5 = none := by kernel_rfl
theorem laws_eqNodeS.l4_s (k n : Nat) (x0 : List AM.Node) (x1 : List AM.Node) (x5 : Int) : laws_eqNodeS.l4 k (n + 1) x0 x1 x5 =
  iteB (decide (x5 < ((List.length x0) : Int))) (iteB (decide (0 ≤ x5)) (iteB (decide (x5 < ((List.length x0) : Int))) (iteB (decide (0 ≤ x5)) (iteB (decide (x5 < ((List.length x1) : Int))) (bindO (laws_eqNode k (List.getD x0 (Int.toNat x5) (Ty.dflt .node)) (List.getD x1 (Int.toNat x5) (Ty.dflt .node))) fun r1 => (iteB (!r1) (some false) (laws_eqNodeS.l4 k n x0 x1 (IntKind.wrap .i64 (x5 + 1))))) (none)) (none)) (none)) (none)) (some true) := by kernel_rfl
theorem laws_eqNodeS_0 (a1 : List AM.Node) (a2 : List AM.Node) : laws_eqNodeS 0 a1 a2 = none := by kernel_rfl
theorem laws_eqNodeS_e (k : Nat) (a1 : List AM.Node) (a2 : List AM.Node) : laws_eqNodeS (k + 1) a1 a2 =
  iteB (((List.length a1) : Int) != ((List.length a2) : Int)) (some false) (laws_eqNodeS.l4 k k a1 a2 0) := by kernel_rfl
theorem E_laws_eqNode_calls (k : Nat) (q0 : ∀ (a1 : AM.Node) (a2 : AM.Node) (x : Bool), laws_eqNode k a1 a2 = some x → LawV Try.prog 44 [.tv .node a1, .tv .node a2] (tvn .bool x)) (q1 : ∀ (a1 : List AM.Node) (a2 : List AM.Node) (x : Bool), laws_eqNodeS k a1 a2 = some x → LawV Try.prog 121 [.tv (.row .node) a1, .tv (.row .node) a2] (tvn .bool x)) : CallsOk Try.prog (E_laws_eqNode k) (arun Try.prog (E_laws_eqNode k) k) := by
  refine told_run (tyTOk _ _) ?_ (fun run h => regOk (tyTOk _ _) mixOk h) ?_ nameOk k
  · intro g m hg
    simp only [E_laws_eqNode, G_laws_eqNode] at hg
    split at hg
    · cases hg
      refine con_byVal fun ρ l K x hm => ?_
      split at hm
      · obtain ⟨c1, h1, hm⟩ := Option.bind_eq_some_iff.1 hm
        obtain ⟨c2, h2, hm⟩ := Option.bind_eq_some_iff.1 hm
        obtain ⟨r, hr, hm⟩ := Option.bind_eq_some_iff.1 hm
        exact ⟨_, hm, LawV.reads (.cons (.as h1) (.cons (.as h2) .nil)) (q1 c1 c2 r hr)⟩
      · cases hm
    · cases hg
  · intro g _ r; rfl
theorem f44_oklaws_eqNode : Try.prog.funcs[44]? = some Try.f44 := by kernel_rfl
theorem E_laws_eqNodeS_calls (k : Nat) (q0 : ∀ (a1 : AM.Node) (a2 : AM.Node) (x : Bool), laws_eqNode k a1 a2 = some x → LawV Try.prog 44 [.tv .node a1, .tv .node a2] (tvn .bool x)) (q1 : ∀ (a1 : List AM.Node) (a2 : List AM.Node) (x : Bool), laws_eqNodeS k a1 a2 = some x → LawV Try.prog 121 [.tv (.row .node) a1, .tv (.row .node) a2] (tvn .bool x)) : CallsOk Try.prog (E_laws_eqNodeS k) (arun Try.prog (E_laws_eqNodeS k) k) := by
  refine told_run (tyTOk _ _) ?_ (fun run h => regOk (tyTOk _ _) mixOk h) ?_ nameOk k
  · intro g m hg
    simp only [E_laws_eqNodeS, G_laws_eqNodeS] at hg
    split at hg
    · cases hg
      refine con_byVal fun ρ l K x hm => ?_
      split at hm
      · obtain ⟨c1, h1, hm⟩ := Option.bind_eq_some_iff.1 hm
        obtain ⟨c2, h2, hm⟩ := Option.bind_eq_some_iff.1 hm
        obtain ⟨r, hr, hm⟩ := Option.bind_eq_some_iff.1 hm
        exact ⟨_, hm, LawV.reads (.cons (.as h1) (.cons (.as h2) .nil)) (q0 c1 c2 r hr)⟩
      · cases hm
    · cases hg; exact noCon_ok
    · cases hg
  · intro g hg r
    by_cases h : g = 121
    · subst h; simp [E_laws_eqNodeS, G_laws_eqNodeS] at hg
    · simp [E_laws_eqNodeS, G_laws_eqNodeS, h]
theorem f121_oklaws_eqNodeS : Try.prog.funcs[121]? = some Try.f121 := by kernel_rfl
theorem laws_eqNode_u (k : Nat) (a1 : AM.Node) (a2 : AM.Node) : abody (E_laws_eqNode k) (arun Try.prog (E_laws_eqNode k) k) k 44 Try.f44 [.tv .node a1, .tv .node a2] [] (fin1 .bool) = laws_eqNode (k + 1) a1 a2 := by kernel_rfl
theorem laws_eqNodeS_u (k : Nat) (a1 : List AM.Node) (a2 : List AM.Node) : abody (E_laws_eqNodeS k) (arun Try.prog (E_laws_eqNodeS k) k) k 121 Try.f121 [.tv (.row .node) a1, .tv (.row .node) a2] [] (fin1 .bool) = laws_eqNodeS (k + 1) a1 a2 := by kernel_rfl
theorem grp_laws_eqNode_law (k : Nat) : (∀ (a1 : AM.Node) (a2 : AM.Node) (x : Bool), laws_eqNode k a1 a2 = some x → LawV Try.prog 44 [.tv .node a1, .tv .node a2] (tvn .bool x)) ∧ (∀ (a1 : List AM.Node) (a2 : List AM.Node) (x : Bool), laws_eqNodeS k a1 a2 = some x → LawV Try.prog 121 [.tv (.row .node) a1, .tv (.row .node) a2] (tvn .bool x)) := by
  induction k with
  | zero => exact ⟨(fun a1 a2 x h => by rw [laws_eqNode_0] at h; cases h), (fun a1 a2 x h => by rw [laws_eqNodeS_0] at h; cases h)⟩
  | succ k ih =>
    exact ⟨(fun a1 a2 x h => law1 (t := .bool) (tyTOk _ _) (E_laws_eqNode_calls k ih.1 ih.2) mixOk f44_oklaws_eqNode (nameOk _ _ f44_oklaws_eqNode) (by kernel_rfl) ((laws_eqNode_u k a1 a2).trans h)), (fun a1 a2 x h => law1 (t := .bool) (tyTOk _ _) (E_laws_eqNodeS_calls k ih.1 ih.2) mixOk f121_oklaws_eqNodeS (nameOk _ _ f121_oklaws_eqNodeS) (by kernel_rfl) ((laws_eqNodeS_u k a1 a2).trans h))⟩
theorem laws_eqNode_law (k : Nat) (a1 : AM.Node) (a2 : AM.Node) (x : Bool) (h : laws_eqNode k a1 a2 = some x) : LawV Try.prog 44 [.tv .node a1, .tv .node a2] (tvn .bool x) := (grp_laws_eqNode_law k).1 a1 a2 x h
theorem laws_eqNodeS_law (k : Nat) (a1 : List AM.Node) (a2 : List AM.Node) (x : Bool) (h : laws_eqNodeS k a1 a2 = some x) : LawV Try.prog 121 [.tv (.row .node) a1, .tv (.row .node) a2] (tvn .bool x) := (grp_laws_eqNode_law k).2 a1 a2 x h
/-! laws.eqFunc -/
noncomputable def E_laws_eqFunc (k : Nat) : Env := ⟨ty, fun g => match g with
  | 188 => some (byVal fun ρ l K => match l with
    | [b1, b2] => (b1.as (.row (.pair .str (.pair .bool .unit)))).bind fun c1 => (b2.as (.row (.pair .str (.pair .bool .unit)))).bind fun c2 => (laws_eqParamS k c1 c2).bind fun r => K (tvn .bool r)
    | _ => none)
  | 44 => some (byVal fun ρ l K => match l with
    | [b1, b2] => (b1.as .node).bind fun c1 => (b2.as .node).bind fun c2 => (laws_eqNode k c1 c2).bind fun r => K (tvn .bool r)
    | _ => none)
  | _ => none, fun _ _ => none⟩
noncomputable def laws_eqFunc (k : Nat) (a1 : ByteArray × (List (ByteArray × Bool × Unit)) × AM.Node × Unit) (a2 : ByteArray × (List (ByteArray × Bool × Unit)) × AM.Node × Unit) : Option (Bool) :=
  abody (E_laws_eqFunc k) (arun Try.prog (E_laws_eqFunc k) k) k 126 Try.f126 [.tv (.pair .str (.pair (.row (.pair .str (.pair .bool .unit))) (.pair .node .unit))) a1, .tv (.pair .str (.pair (.row (.pair .str (.pair .bool .unit))) (.pair .node .unit))) a2] [] (fin1 .bool)
theorem laws_eqFunc_e (k : Nat) (a1 : ByteArray × (List (ByteArray × Bool × Unit)) × AM.Node × Unit) (a2 : ByteArray × (List (ByteArray × Bool × Unit)) × AM.Node × Unit) : laws_eqFunc k a1 a2 =
  iteB (!(ByteArray.toList a1.1 == ByteArray.toList a2.1)) (some false) (bindO (laws_eqParamS k a1.2.1 a2.2.1) fun r1 => (iteB (!r1) (some false) (bindO (laws_eqNode k (AM.Node.mk (AM.Node.op a1.2.2.1) (AM.Node.s a1.2.2.1) (AM.Node.n a1.2.2.1) (AM.Node.kids a1.2.2.1)) (AM.Node.mk (AM.Node.op a2.2.2.1) (AM.Node.s a2.2.2.1) (AM.Node.n a2.2.2.1) (AM.Node.kids a2.2.2.1))) fun r2 => (iteB (!r2) (some false) (some true))))) := by kernel_rfl
theorem E_laws_eqFunc_calls (k : Nat) : CallsOk Try.prog (E_laws_eqFunc k) (arun Try.prog (E_laws_eqFunc k) k) := by
  refine told_run (tyTOk _ _) ?_ (fun run h => regOk (tyTOk _ _) mixOk h) ?_ nameOk k
  · intro g m hg
    simp only [E_laws_eqFunc] at hg
    split at hg
    · cases hg
      refine con_byVal fun ρ l K x hm => ?_
      split at hm
      · obtain ⟨c1, h1, hm⟩ := Option.bind_eq_some_iff.1 hm
        obtain ⟨c2, h2, hm⟩ := Option.bind_eq_some_iff.1 hm
        obtain ⟨r, hr, hm⟩ := Option.bind_eq_some_iff.1 hm
        exact ⟨_, hm, LawV.reads (.cons (.as h1) (.cons (.as h2) .nil)) (laws_eqParamS_law k c1 c2 r hr)⟩
      · cases hm
    · cases hg
      refine con_byVal fun ρ l K x hm => ?_
      split at hm
      · obtain ⟨c1, h1, hm⟩ := Option.bind_eq_some_iff.1 hm
        obtain ⟨c2, h2, hm⟩ := Option.bind_eq_some_iff.1 hm
        obtain ⟨r, hr, hm⟩ := Option.bind_eq_some_iff.1 hm
        exact ⟨_, hm, LawV.reads (.cons (.as h1) (.cons (.as h2) .nil)) (laws_eqNode_law k c1 c2 r hr)⟩
      · cases hm
    · cases hg
  · intro g _ r; rfl
theorem f126_oklaws_eqFunc : Try.prog.funcs[126]? = some Try.f126 := by kernel_rfl
theorem laws_eqFunc_law (k : Nat) (a1 : ByteArray × (List (ByteArray × Bool × Unit)) × AM.Node × Unit) (a2 : ByteArray × (List (ByteArray × Bool × Unit)) × AM.Node × Unit) (x : Bool) (h : laws_eqFunc k a1 a2 = some x) : LawV Try.prog 126 [.tv (.pair .str (.pair (.row (.pair .str (.pair .bool .unit))) (.pair .node .unit))) a1, .tv (.pair .str (.pair (.row (.pair .str (.pair .bool .unit))) (.pair .node .unit))) a2] (tvn .bool x) := by
  unfold laws_eqFunc at h
  exact law1 (t := .bool) (tyTOk _ _) (E_laws_eqFunc_calls k) mixOk f126_oklaws_eqFunc (nameOk _ _ f126_oklaws_eqFunc) (by kernel_rfl) h
end Go.Proofs.Ytapijpjgfpjahaa.XFnExactSize
