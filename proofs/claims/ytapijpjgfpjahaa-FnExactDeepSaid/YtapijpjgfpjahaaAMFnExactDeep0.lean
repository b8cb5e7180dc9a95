/- Functions of the program as runs of the interpreter: equations, and a law for each. -/
import Derived.Test.YtapijpjgfpjahaaProg
import Derived.Test.YtapijpjgfpjahaaChecked
import Derived.KernelRfl
import Derived.Eval
import Derived.Test.YtapijpjgfpjahaaATyOk
import Derived.Test.YtapijpjgfpjahaaAS32
open Go Go.AM Go.AMx Go.Proofs
namespace Go.Proofs.Ytapijpjgfpjahaa.XFnExactDeep
set_option linter.unusedVariables false
set_option linter.unusedSimpArgs false
/-! laws.szNode, laws.szNodeS -/
noncomputable def G_laws_szNode (r0 : AM.Node → Int → Option Int) (r1 : (List AM.Node) → Int → Option Int) (k : Nat) : Env := ⟨ty, fun g => match g with
  | 118 => some (byVal fun ρ l K => match l with
    | [b1, b2] => (b1.as (.row .node)).bind fun c1 => (b2.as (.int .i64)).bind fun c2 => (r1 c1 c2).bind fun r => K (tvn (.int .i64) r)
    | _ => none)
  | _ => none, fun _ _ => none⟩
noncomputable def G_laws_szNodeS (r0 : AM.Node → Int → Option Int) (r1 : (List AM.Node) → Int → Option Int) (k : Nat) : Env := ⟨ty, fun g => match g with
  | 40 => some (byVal fun ρ l K => match l with
    | [b1, b2] => (b1.as .node).bind fun c1 => (b2.as (.int .i64)).bind fun c2 => (r0 c1 c2).bind fun r => K (tvn (.int .i64) r)
    | _ => none)
  | 118 => some noCon
  | _ => none, fun f r => match f with | 118 => (match r with | 5 => some [0, 1, 5] | _ => none) | _ => none⟩
noncomputable def grp_laws_szNode : Nat → (AM.Node → Int → Option Int) × ((List AM.Node) → Int → Option Int) := fun k => Nat.rec (motive := fun _ => (AM.Node → Int → Option Int) × ((List AM.Node) → Int → Option Int)) (fun _ _ => none, fun _ _ => none) (fun k ih => (fun a1 a2 => abody (G_laws_szNode ih.1 ih.2 k) (arun Try.prog (G_laws_szNode ih.1 ih.2 k) k) k 40 Try.f40 [.tv .node a1, .int .i64 a2] [] (fin1 (.int .i64)), fun a1 a2 => abody (G_laws_szNodeS ih.1 ih.2 k) (arun Try.prog (G_laws_szNodeS ih.1 ih.2 k) k) k 118 Try.f118 [.tv (.row .node) a1, .int .i64 a2] [] (fin1 (.int .i64)))) k
noncomputable def E_laws_szNode (k : Nat) : Env := G_laws_szNode (grp_laws_szNode k).1 (grp_laws_szNode k).2 k
noncomputable def laws_szNode (k : Nat) (a1 : AM.Node) (a2 : Int) : Option (Int) := (grp_laws_szNode k).1 a1 a2
noncomputable def E_laws_szNodeS (k : Nat) : Env := G_laws_szNodeS (grp_laws_szNode k).1 (grp_laws_szNode k).2 k
noncomputable def laws_szNodeS (k : Nat) (a1 : List AM.Node) (a2 : Int) : Option (Int) := (grp_laws_szNode k).2 a1 a2
noncomputable def laws_szNodeS.l5 (k n : Nat) (x0 : List AM.Node) (x1 : Int) (x5 : Int) : Option (Int) :=
  resume (E_laws_szNodeS k) 118 (acall (E_laws_szNodeS k) (arun Try.prog (E_laws_szNodeS k) k)) k [true, true, true, false, true, true] [n] (bodyOf Try.f118) ⟨[.tv (.row .node) x0, .int .i64 x1, .undef, .undef, .undef, .int .i64 x5, .undef, .undef, .undef, .undef, .undef, .undef, .undef, .undef, .undef, .undef, .undef, .undef, .undef, .undef, .undef, .undef, .undef, .undef, .undef, .undef, .undef], []⟩ (leave (E_laws_szNodeS k) Try.f118 (fin1 (.int .i64)))
theorem laws_szNode_0 (a1 : AM.Node) (a2 : Int) : laws_szNode 0 a1 a2 = none := by kernel_rfl
theorem laws_szNode_e (k : Nat) (a1 : AM.Node) (a2 : Int) : laws_szNode (k + 1) a1 a2 =
  iteB (decide (IntKind.wrap .i64 (a2 - (ByteArray.size (AM.Node.s a1) : Int)) < 0)) (some (-1)) (bindO (laws_szNodeS k (AM.Node.kids a1) (IntKind.wrap .i64 (a2 - (ByteArray.size (AM.Node.s a1) : Int)))) fun r1 => (iteB (decide (r1 < 0)) (some (-1)) (some r1))) := by kernel_rfl
theorem laws_szNodeS.l5_0 (k : Nat) (x0 : List AM.Node) (x1 : Int) (x5 : Int) : laws_szNodeS.l5 k 0 x0 x1 x5 = none := by kernel_rfl
theorem laws_szNodeS.l5_s (k n : Nat) (x0 : List AM.Node) (x1 : Int) (x5 : Int) : laws_szNodeS.l5 k (n + 1) x0 x1 x5 =
  iteB (decide (x5 < ((List.length x0) : Int))) (iteB (decide (0 ≤ x5)) (iteB (decide (x5 < ((List.length x0) : Int))) (bindO (laws_szNode k (List.getD x0 (Int.toNat x5) (Ty.dflt .node)) x1) fun r1 => (iteB (decide (r1 < 0)) (some (-1)) (laws_szNodeS.l5 k n x0 r1 (IntKind.wrap .i64 (x5 + 1))))) (none)) (none)) (some x1) := by kernel_rfl
theorem laws_szNodeS_0 (a1 : List AM.Node) (a2 : Int) : laws_szNodeS 0 a1 a2 = none := by kernel_rfl
theorem laws_szNodeS_e (k : Nat) (a1 : List AM.Node) (a2 : Int) : laws_szNodeS (k + 1) a1 a2 =
  iteB (decide (IntKind.wrap .i64 (a2 - ((List.length a1) : Int)) < 0)) (some (-1)) (laws_szNodeS.l5 k k a1 (IntKind.wrap .i64 (a2 - ((List.length a1) : Int))) 0) := by kernel_rfl
theorem E_laws_szNode_calls (k : Nat) (q0 : ∀ (a1 : AM.Node) (a2 : Int) (x : Int), laws_szNode k a1 a2 = some x → LawV Try.prog 40 [.tv .node a1, .int .i64 a2] (tvn (.int .i64) x)) (q1 : ∀ (a1 : List AM.Node) (a2 : Int) (x : Int), laws_szNodeS k a1 a2 = some x → LawV Try.prog 118 [.tv (.row .node) a1, .int .i64 a2] (tvn (.int .i64) x)) : CallsOk Try.prog (E_laws_szNode k) (arun Try.prog (E_laws_szNode k) k) := by
  refine told_run (tyTOk _ _) ?_ (fun run h => regOk (tyTOk _ _) mixOk h) ?_ nameOk k
  · intro g m hg
    simp only [E_laws_szNode, G_laws_szNode] at hg
    split at hg
    · cases hg
      refine con_byVal fun ρ l K x hm => ?_
      split at hm
      · obtain ⟨c1, h1, hm⟩ := Option.bind_eq_some_iff.1 hm
        obtain ⟨c2, h2, hm⟩ := Option.bind_eq_some_iff.1 hm
        obtain ⟨r, hr, hm⟩ := Option.bind_eq_some_iff.1 hm
        exact ⟨_, hm, LawV.reads (.cons (.as h1) (.cons (.as h2) .nil)) (q1 c1 c2 r hr)⟩
      · cases hm
    · cases hg
  · intro g _ r; rfl
theorem f40_oklaws_szNode : Try.prog.funcs[40]? = some Try.f40 := by kernel_rfl
theorem E_laws_szNodeS_calls (k : Nat) (q0 : ∀ (a1 : AM.Node) (a2 : Int) (x : Int), laws_szNode k a1 a2 = some x → LawV Try.prog 40 [.tv .node a1, .int .i64 a2] (tvn (.int .i64) x)) (q1 : ∀ (a1 : List AM.Node) (a2 : Int) (x : Int), laws_szNodeS k a1 a2 = some x → LawV Try.prog 118 [.tv (.row .node) a1, .int .i64 a2] (tvn (.int .i64) x)) : CallsOk Try.prog (E_laws_szNodeS k) (arun Try.prog (E_laws_szNodeS k) k) := by
  refine told_run (tyTOk _ _) ?_ (fun run h => regOk (tyTOk _ _) mixOk h) ?_ nameOk k
  · intro g m hg
    simp only [E_laws_szNodeS, G_laws_szNodeS] at hg
    split at hg
    · cases hg
      refine con_byVal fun ρ l K x hm => ?_
      split at hm
      · obtain ⟨c1, h1, hm⟩ := Option.bind_eq_some_iff.1 hm
        obtain ⟨c2, h2, hm⟩ := Option.bind_eq_some_iff.1 hm
        obtain ⟨r, hr, hm⟩ := Option.bind_eq_some_iff.1 hm
        exact ⟨_, hm, LawV.reads (.cons (.as h1) (.cons (.as h2) .nil)) (q0 c1 c2 r hr)⟩
      · cases hm
    · cases hg; exact noCon_ok
    · cases hg
  · intro g hg r
    by_cases h : g = 118
    · subst h; simp [E_laws_szNodeS, G_laws_szNodeS] at hg
    · simp [E_laws_szNodeS, G_laws_szNodeS, h]
theorem f118_oklaws_szNodeS : Try.prog.funcs[118]? = some Try.f118 := by kernel_rfl
theorem laws_szNode_u (k : Nat) (a1 : AM.Node) (a2 : Int) : abody (E_laws_szNode k) (arun Try.prog (E_laws_szNode k) k) k 40 Try.f40 [.tv .node a1, .int .i64 a2] [] (fin1 (.int .i64)) = laws_szNode (k + 1) a1 a2 := by kernel_rfl
theorem laws_szNodeS_u (k : Nat) (a1 : List AM.Node) (a2 : Int) : abody (E_laws_szNodeS k) (arun Try.prog (E_laws_szNodeS k) k) k 118 Try.f118 [.tv (.row .node) a1, .int .i64 a2] [] (fin1 (.int .i64)) = laws_szNodeS (k + 1) a1 a2 := by kernel_rfl
theorem grp_laws_szNode_law (k : Nat) : (∀ (a1 : AM.Node) (a2 : Int) (x : Int), laws_szNode k a1 a2 = some x → LawV Try.prog 40 [.tv .node a1, .int .i64 a2] (tvn (.int .i64) x)) ∧ (∀ (a1 : List AM.Node) (a2 : Int) (x : Int), laws_szNodeS k a1 a2 = some x → LawV Try.prog 118 [.tv (.row .node) a1, .int .i64 a2] (tvn (.int .i64) x)) := by
  induction k with
  | zero => exact ⟨(fun a1 a2 x h => by rw [laws_szNode_0] at h; cases h), (fun a1 a2 x h => by rw [laws_szNodeS_0] at h; cases h)⟩
  | succ k ih =>
    exact ⟨(fun a1 a2 x h => law1 (t := (.int .i64)) (tyTOk _ _) (E_laws_szNode_calls k ih.1 ih.2) mixOk f40_oklaws_szNode (nameOk _ _ f40_oklaws_szNode) (by kernel_rfl) ((laws_szNode_u k a1 a2).trans h)), (fun a1 a2 x h => law1 (t := (.int .i64)) (tyTOk _ _) (E_laws_szNodeS_calls k ih.1 ih.2) mixOk f118_oklaws_szNodeS (nameOk _ _ f118_oklaws_szNodeS) (by kernel_rfl) ((laws_szNodeS_u k a1 a2).trans h))⟩
theorem laws_szNode_law (k : Nat) (a1 : AM.Node) (a2 : Int) (x : Int) (h : laws_szNode k a1 a2 = some x) : LawV Try.prog 40 [.tv .node a1, .int .i64 a2] (tvn (.int .i64) x) := (grp_laws_szNode_law k).1 a1 a2 x h
theorem laws_szNodeS_law (k : Nat) (a1 : List AM.Node) (a2 : Int) (x : Int) (h : laws_szNodeS k a1 a2 = some x) : LawV Try.prog 118 [.tv (.row .node) a1, .int .i64 a2] (tvn (.int .i64) x) := (grp_laws_szNode_law k).2 a1 a2 x h
/-! laws.toNode, laws.toNodeS -/
noncomputable def G_laws_toNode (r0 : AM.Node → Option AM.Node) (r1 : (List AM.Node) → Option (List AM.Node)) (k : Nat) : Env := ⟨ty, fun g => match g with
  | 120 => some (byVal fun ρ l K => match l with
    | [b1] => (b1.as (.row .node)).bind fun c1 => (r1 c1).bind fun r => K (tvn (.row .node) r)
    | _ => none)
  | _ => none, fun _ _ => none⟩
noncomputable def G_laws_toNodeS (r0 : AM.Node → Option AM.Node) (r1 : (List AM.Node) → Option (List AM.Node)) (k : Nat) : Env := ⟨ty, fun g => match g with
  | 42 => some (byVal fun ρ l K => match l with
    | [b1] => (b1.as .node).bind fun c1 => (r0 c1).bind fun r => K (tvn .node r)
    | _ => none)
  | 120 => some noCon
  | _ => none, fun f r => match f with | 120 => (match r with | 3 => some [0, 3, 4] | _ => none) | _ => none⟩
noncomputable def grp_laws_toNode : Nat → (AM.Node → Option AM.Node) × ((List AM.Node) → Option (List AM.Node)) := fun k => Nat.rec (motive := fun _ => (AM.Node → Option AM.Node) × ((List AM.Node) → Option (List AM.Node))) (fun _ => none, fun _ => none) (fun k ih => (fun a1 => abody (G_laws_toNode ih.1 ih.2 k) (arun Try.prog (G_laws_toNode ih.1 ih.2 k) k) k 42 Try.f42 [.tv .node a1] [] (fin1 .node), fun a1 => abody (G_laws_toNodeS ih.1 ih.2 k) (arun Try.prog (G_laws_toNodeS ih.1 ih.2 k) k) k 120 Try.f120 [.tv (.row .node) a1] [] (fin1 (.row .node)))) k
noncomputable def E_laws_toNode (k : Nat) : Env := G_laws_toNode (grp_laws_toNode k).1 (grp_laws_toNode k).2 k
noncomputable def laws_toNode (k : Nat) (a1 : AM.Node) : Option (AM.Node) := (grp_laws_toNode k).1 a1
noncomputable def E_laws_toNodeS (k : Nat) : Env := G_laws_toNodeS (grp_laws_toNode k).1 (grp_laws_toNode k).2 k
noncomputable def laws_toNodeS (k : Nat) (a1 : List AM.Node) : Option (List AM.Node) := (grp_laws_toNode k).2 a1
noncomputable def laws_toNodeS.l3 (k n : Nat) (x0 : List AM.Node) (x4 : Int) (y0 : List AM.Node) : Option (List AM.Node) :=
  resume (E_laws_toNodeS k) 120 (acall (E_laws_toNodeS k) (arun Try.prog (E_laws_toNodeS k) k)) k [true, true, false, true, true] [n] (bodyOf Try.f120) ⟨[.tv (.row .node) x0, .undef, .undef, .sl 0, .int .i64 x4, .undef, .undef, .undef, .undef, .undef, .undef, .undef, .undef, .undef, .undef, .undef, .undef, .undef, .undef, .undef, .undef, .undef, .undef], [some ⟨.typed .node y0, false⟩]⟩ (leave (E_laws_toNodeS k) Try.f120 (fin1 (.row .node)))
theorem laws_toNode_0 (a1 : AM.Node) : laws_toNode 0 a1 = none := by kernel_rfl
theorem laws_toNode_e (k : Nat) (a1 : AM.Node) : laws_toNode (k + 1) a1 =
  bindO (laws_toNodeS k (AM.Node.kids a1)) fun r1 => (some (AM.Node.mk (AM.Node.op a1) (AM.Node.s a1) (AM.Node.n a1) r1)) := by kernel_rfl
theorem laws_toNodeS.l3_0 (k : Nat) (x0 : List AM.Node) (x4 : Int) (y0 : List AM.Node) : laws_toNodeS.l3 k 0 x0 x4 y0 = none := by kernel_rfl
theorem laws_toNodeS.l3_s (k n : Nat) (x0 : List AM.Node) (x4 : Int) (y0 : List AM.Node) : laws_toNodeS.l3 k (n + 1) x0 x4 y0 =
  iteB (decide (x4 < ((List.length x0) : Int))) (iteB (decide (0 ≤ x4)) (iteB (decide (x4 < ((List.length x0) : Int))) (bindO (laws_toNode k (List.getD x0 (Int.toNat x4) (Ty.dflt .node))) fun r1 => (iteB (decide (0 ≤ x4)) (iteB (decide (x4 < ((List.length y0) : Int))) (laws_toNodeS.l3 k n x0 (IntKind.wrap .i64 (x4 + 1)) (List.set y0 (Int.toNat x4) r1)) (none)) (none))) (none)) (none)) (some y0) := by kernel_rfl
theorem laws_toNodeS_0 (a1 : List AM.Node) : laws_toNodeS 0 a1 = none := by kernel_rfl
theorem laws_toNodeS_e (k : Nat) (a1 : List AM.Node) : laws_toNodeS (k + 1) a1 =
  iteB (decide (0 ≤ ((List.length a1) : Int))) (iteB (decide (((List.length a1) : Int) ≤ ((List.length a1) : Int))) (iteB (decide (((List.length a1) : Int) * 56 ≤ (lim : Int))) (iteB (decide (((List.length a1) : Int) ≤ (lim : Int)) && true) (laws_toNodeS.l3 k k a1 0 (List.replicate (Int.toNat ((List.length a1) : Int)) (Ty.dflt .node))) (none)) (none)) (none)) (none) := by kernel_rfl
theorem E_laws_toNode_calls (k : Nat) (q0 : ∀ (a1 : AM.Node) (x : AM.Node), laws_toNode k a1 = some x → LawV Try.prog 42 [.tv .node a1] (tvn .node x)) (q1 : ∀ (a1 : List AM.Node) (x : List AM.Node), laws_toNodeS k a1 = some x → LawV Try.prog 120 [.tv (.row .node) a1] (tvn (.row .node) x)) : CallsOk Try.prog (E_laws_toNode k) (arun Try.prog (E_laws_toNode k) k) := by
  refine told_run (tyTOk _ _) ?_ (fun run h => regOk (tyTOk _ _) mixOk h) ?_ nameOk k
  · intro g m hg
    simp only [E_laws_toNode, G_laws_toNode] at hg
    split at hg
    · cases hg
      refine con_byVal fun ρ l K x hm => ?_
      split at hm
      · obtain ⟨c1, h1, hm⟩ := Option.bind_eq_some_iff.1 hm
        obtain ⟨r, hr, hm⟩ := Option.bind_eq_some_iff.1 hm
        exact ⟨_, hm, LawV.reads (.cons (.as h1) .nil) (q1 c1 r hr)⟩
      · cases hm
    · cases hg
  · intro g _ r; rfl
theorem f42_oklaws_toNode : Try.prog.funcs[42]? = some Try.f42 := by kernel_rfl
theorem E_laws_toNodeS_calls (k : Nat) (q0 : ∀ (a1 : AM.Node) (x : AM.Node), laws_toNode k a1 = some x → LawV Try.prog 42 [.tv .node a1] (tvn .node x)) (q1 : ∀ (a1 : List AM.Node) (x : List AM.Node), laws_toNodeS k a1 = some x → LawV Try.prog 120 [.tv (.row .node) a1] (tvn (.row .node) x)) : CallsOk Try.prog (E_laws_toNodeS k) (arun Try.prog (E_laws_toNodeS k) k) := by
  refine told_run (tyTOk _ _) ?_ (fun run h => regOk (tyTOk _ _) mixOk h) ?_ nameOk k
  · intro g m hg
    simp only [E_laws_toNodeS, G_laws_toNodeS] at hg
    split at hg
    · cases hg
      refine con_byVal fun ρ l K x hm => ?_
      split at hm
      · obtain ⟨c1, h1, hm⟩ := Option.bind_eq_some_iff.1 hm
        obtain ⟨r, hr, hm⟩ := Option.bind_eq_some_iff.1 hm
        exact ⟨_, hm, LawV.reads (.cons (.as h1) .nil) (q0 c1 r hr)⟩
      · cases hm
    · cases hg; exact noCon_ok
    · cases hg
  · intro g hg r
    by_cases h : g = 120
    · subst h; simp [E_laws_toNodeS, G_laws_toNodeS] at hg
    · simp [E_laws_toNodeS, G_laws_toNodeS, h]
theorem f120_oklaws_toNodeS : Try.prog.funcs[120]? = some Try.f120 := by kernel_rfl
theorem laws_toNode_u (k : Nat) (a1 : AM.Node) : abody (E_laws_toNode k) (arun Try.prog (E_laws_toNode k) k) k 42 Try.f42 [.tv .node a1] [] (fin1 .node) = laws_toNode (k + 1) a1 := by kernel_rfl
theorem laws_toNodeS_u (k : Nat) (a1 : List AM.Node) : abody (E_laws_toNodeS k) (arun Try.prog (E_laws_toNodeS k) k) k 120 Try.f120 [.tv (.row .node) a1] [] (fin1 (.row .node)) = laws_toNodeS (k + 1) a1 := by kernel_rfl
theorem grp_laws_toNode_law (k : Nat) : (∀ (a1 : AM.Node) (x : AM.Node), laws_toNode k a1 = some x → LawV Try.prog 42 [.tv .node a1] (tvn .node x)) ∧ (∀ (a1 : List AM.Node) (x : List AM.Node), laws_toNodeS k a1 = some x → LawV Try.prog 120 [.tv (.row .node) a1] (tvn (.row .node) x)) := by
  induction k with
  | zero => exact ⟨(fun a1 x h => by rw [laws_toNode_0] at h; cases h), (fun a1 x h => by rw [laws_toNodeS_0] at h; cases h)⟩
  | succ k ih =>
    exact ⟨(fun a1 x h => law1 (t := .node) (tyTOk _ _) (E_laws_toNode_calls k ih.1 ih.2) mixOk f42_oklaws_toNode (nameOk _ _ f42_oklaws_toNode) (by kernel_rfl) ((laws_toNode_u k a1).trans h)), (fun a1 x h => law1 (t := (.row .node)) (tyTOk _ _) (E_laws_toNodeS_calls k ih.1 ih.2) mixOk f120_oklaws_toNodeS (nameOk _ _ f120_oklaws_toNodeS) (by kernel_rfl) ((laws_toNodeS_u k a1).trans h))⟩
theorem laws_toNode_law (k : Nat) (a1 : AM.Node) (x : AM.Node) (h : laws_toNode k a1 = some x) : LawV Try.prog 42 [.tv .node a1] (tvn .node x) := (grp_laws_toNode_law k).1 a1 x h
theorem laws_toNodeS_law (k : Nat) (a1 : List AM.Node) (x : List AM.Node) (h : laws_toNodeS k a1 = some x) : LawV Try.prog 120 [.tv (.row .node) a1] (tvn (.row .node) x) := (grp_laws_toNode_law k).2 a1 x h
/-! spec.l1Max -/
noncomputable def E_spec_l1Max (k : Nat) : Env := ⟨ty, fun _ => none, fun _ _ => none⟩
noncomputable def spec_l1Max (k : Nat) (a1 : Int) (a2 : Int) : Option (Int) :=
  abody (E_spec_l1Max k) (arun Try.prog (E_spec_l1Max k) k) k 119 Try.f119 [.int .i64 a1, .int .i64 a2] [] (fin1 (.int .i64))
theorem spec_l1Max_e (k : Nat) (a1 : Int) (a2 : Int) : spec_l1Max k a1 a2 =
  iteB (decide (a1 > a2)) (some a1) (some a2) := by kernel_rfl
theorem E_spec_l1Max_calls (k : Nat) : CallsOk Try.prog (E_spec_l1Max k) (arun Try.prog (E_spec_l1Max k) k) := by
  refine told_run (tyTOk _ _) ?_ (fun run h => regOk (tyTOk _ _) mixOk h) ?_ nameOk k
  · intro g m hg
    cases hg
  · intro g _ r; rfl
theorem f119_okspec_l1Max : Try.prog.funcs[119]? = some Try.f119 := by kernel_rfl
theorem spec_l1Max_law (k : Nat) (a1 : Int) (a2 : Int) (x : Int) (h : spec_l1Max k a1 a2 = some x) : LawV Try.prog 119 [.int .i64 a1, .int .i64 a2] (tvn (.int .i64) x) := by
  unfold spec_l1Max at h
  exact law1 (t := (.int .i64)) (tyTOk _ _) (E_spec_l1Max_calls k) mixOk f119_okspec_l1Max (nameOk _ _ f119_okspec_l1Max) (by kernel_rfl) h
/-! spec.Deep -/
noncomputable def G_spec_Deep (r0 : AM.Node → Option Int) (k : Nat) : Env := ⟨ty, fun g => match g with
  | 41 => some (byVal fun ρ l K => match l with
    | [b1] => (b1.as .node).bind fun c1 => (r0 c1).bind fun r => K (tvn (.int .i64) r)
    | _ => none)
  | 119 => some (byVal fun ρ l K => match l with
    | [b1, b2] => (b1.as (.int .i64)).bind fun c1 => (b2.as (.int .i64)).bind fun c2 => (spec_l1Max k c1 c2).bind fun r => K (tvn (.int .i64) r)
    | _ => none)
  | _ => none, fun f r => match f with | 41 => (match r with | 3 => some [1, 3, 4] | _ => none) | _ => none⟩
noncomputable def grp_spec_Deep : Nat → (AM.Node → Option Int) := fun k => Nat.rec (motive := fun _ => (AM.Node → Option Int)) (fun _ => none) (fun k ih => (fun a1 => abody (G_spec_Deep ih k) (arun Try.prog (G_spec_Deep ih k) k) k 41 Try.f41 [.tv .node a1] [] (fin1 (.int .i64)))) k
noncomputable def E_spec_Deep (k : Nat) : Env := G_spec_Deep (grp_spec_Deep k) k
noncomputable def spec_Deep (k : Nat) (a1 : AM.Node) : Option (Int) := (grp_spec_Deep k) a1
noncomputable def spec_Deep.l3 (k n : Nat) (x3 : Int) (x4 : Int) (y0_0 : AM.Node) : Option (Int) :=
  resume (E_spec_Deep k) 41 (acall (E_spec_Deep k) (arun Try.prog (E_spec_Deep k) k)) k [true, true, false, true, true] [n] (bodyOf Try.f41) ⟨[.undef, .ptr 0 0 0, .undef, .int .i64 x3, .int .i64 x4, .undef, .undef, .undef, .undef, .undef, .undef, .undef, .undef, .undef, .undef, .undef, .undef, .undef, .undef, .undef, .undef, .undef], [some ⟨.raw true 4 (.agg [.int .i64 0, .str ByteArray.empty, .int .i64 0, .nils]) [.tv .node y0_0], true⟩]⟩ (leave (E_spec_Deep k) Try.f41 (fin1 (.int .i64)))
theorem spec_Deep.l3_0 (k : Nat) (x3 : Int) (x4 : Int) (y0_0 : AM.Node) : spec_Deep.l3 k 0 x3 x4 y0_0 = none := by kernel_rfl
theorem spec_Deep.l3_s (k n : Nat) (x3 : Int) (x4 : Int) (y0_0 : AM.Node) : spec_Deep.l3 k (n + 1) x3 x4 y0_0 =
  iteB (decide (x4 < ((List.length (AM.Node.kids y0_0)) : Int))) (iteB (decide (0 ≤ x4)) (iteB (decide (x4 < ((List.length (AM.Node.kids y0_0)) : Int))) (bindO (spec_Deep k (List.getD (AM.Node.kids y0_0) (Int.toNat x4) (Ty.dflt .node))) fun r1 => (bindO (spec_l1Max k x3 r1) fun r2 => (spec_Deep.l3 k n r2 (IntKind.wrap .i64 (x4 + 1)) y0_0))) (none)) (none)) (some (IntKind.wrap .i64 (x3 + 1))) := by kernel_rfl
theorem spec_Deep_0 (a1 : AM.Node) : spec_Deep 0 a1 = none := by kernel_rfl
theorem spec_Deep_e (k : Nat) (a1 : AM.Node) : spec_Deep (k + 1) a1 =
  spec_Deep.l3 k k 0 0 a1 := by kernel_rfl
theorem E_spec_Deep_calls (k : Nat) (q0 : ∀ (a1 : AM.Node) (x : Int), spec_Deep k a1 = some x → LawV Try.prog 41 [.tv .node a1] (tvn (.int .i64) x)) : CallsOk Try.prog (E_spec_Deep k) (arun Try.prog (E_spec_Deep k) k) := by
  refine told_run (tyTOk _ _) ?_ (fun run h => regOk (tyTOk _ _) mixOk h) ?_ nameOk k
  · intro g m hg
    simp only [E_spec_Deep, G_spec_Deep] at hg
    split at hg
    · cases hg
      refine con_byVal fun ρ l K x hm => ?_
      split at hm
      · obtain ⟨c1, h1, hm⟩ := Option.bind_eq_some_iff.1 hm
        obtain ⟨r, hr, hm⟩ := Option.bind_eq_some_iff.1 hm
        exact ⟨_, hm, LawV.reads (.cons (.as h1) .nil) (q0 c1 r hr)⟩
      · cases hm
    · cases hg
      refine con_byVal fun ρ l K x hm => ?_
      split at hm
      · obtain ⟨c1, h1, hm⟩ := Option.bind_eq_some_iff.1 hm
        obtain ⟨c2, h2, hm⟩ := Option.bind_eq_some_iff.1 hm
        obtain ⟨r, hr, hm⟩ := Option.bind_eq_some_iff.1 hm
        exact ⟨_, hm, LawV.reads (.cons (.as h1) (.cons (.as h2) .nil)) (spec_l1Max_law k c1 c2 r hr)⟩
      · cases hm
    · cases hg
  · intro g hg r
    by_cases h : g = 41
    · subst h; simp [E_spec_Deep, G_spec_Deep] at hg
    · simp [E_spec_Deep, G_spec_Deep, h]
theorem f41_okspec_Deep : Try.prog.funcs[41]? = some Try.f41 := by kernel_rfl
theorem spec_Deep_u (k : Nat) (a1 : AM.Node) : abody (E_spec_Deep k) (arun Try.prog (E_spec_Deep k) k) k 41 Try.f41 [.tv .node a1] [] (fin1 (.int .i64)) = spec_Deep (k + 1) a1 := by kernel_rfl
theorem grp_spec_Deep_law (k : Nat) : (∀ (a1 : AM.Node) (x : Int), spec_Deep k a1 = some x → LawV Try.prog 41 [.tv .node a1] (tvn (.int .i64) x)) := by
  induction k with
  | zero => exact fun a1 x h => by rw [spec_Deep_0] at h; cases h
  | succ k ih =>
    exact (fun a1 x h => law1 (t := (.int .i64)) (tyTOk _ _) (E_spec_Deep_calls k ih) mixOk f41_okspec_Deep (nameOk _ _ f41_okspec_Deep) (by kernel_rfl) ((spec_Deep_u k a1).trans h))
theorem spec_Deep_law (k : Nat) (a1 : AM.Node) (x : Int) (h : spec_Deep k a1 = some x) : LawV Try.prog 41 [.tv .node a1] (tvn (.int .i64) x) := (grp_spec_Deep_law k) a1 x h
/-! impl.Deep -/
noncomputable def G_impl_Deep (r0 : AM.Node → Option Int) (k : Nat) : Env := ⟨ty, fun g => match g with
  | 43 => some (byVal fun ρ l K => match l with
    | [b1] => (b1.as .node).bind fun c1 => (r0 c1).bind fun r => K (tvn (.int .i64) r)
    | _ => none)
  | _ => none, fun f r => match f with | 43 => (match r with | 3 => some [3, 7, 8, 9] | _ => none) | _ => none⟩
noncomputable def grp_impl_Deep : Nat → (AM.Node → Option Int) := fun k => Nat.rec (motive := fun _ => (AM.Node → Option Int)) (fun _ => none) (fun k ih => (fun a1 => abody (G_impl_Deep ih k) (arun Try.prog (G_impl_Deep ih k) k) k 43 Try.f43 [.tv .node a1] [] (fin1 (.int .i64)))) k
noncomputable def E_impl_Deep (k : Nat) : Env := G_impl_Deep (grp_impl_Deep k) k
noncomputable def impl_Deep (k : Nat) (a1 : AM.Node) : Option (Int) := (grp_impl_Deep k) a1
noncomputable def impl_Deep.l3 (k n : Nat) (x3 : Int) (x7 : List AM.Node) (x8 : Int) (x9 : Int) : Option (Int) :=
  resume (E_impl_Deep k) 43 (acall (E_impl_Deep k) (arun Try.prog (E_impl_Deep k) k)) k [true, true, false, true, true] [n] (bodyOf Try.f43) ⟨[.undef, .undef, .undef, .int .i64 x3, .undef, .undef, .undef, .tv (.row .node) x7, .int .i64 x8, .int .i64 x9, .undef, .undef, .undef, .undef, .undef, .undef, .undef, .undef, .undef, .undef], []⟩ (leave (E_impl_Deep k) Try.f43 (fin1 (.int .i64)))
theorem impl_Deep.l3_0 (k : Nat) (x3 : Int) (x7 : List AM.Node) (x8 : Int) (x9 : Int) : impl_Deep.l3 k 0 x3 x7 x8 x9 = none := by kernel_rfl
theorem impl_Deep.l3_s (k n : Nat) (x3 : Int) (x7 : List AM.Node) (x8 : Int) (x9 : Int) : impl_Deep.l3 k (n + 1) x3 x7 x8 x9 =
  iteB (decide (x9 < x8)) (iteB (decide (0 ≤ x9)) (iteB (decide (x9 < ((List.length x7) : Int))) (bindO (impl_Deep k (List.getD x7 (Int.toNat x9) (Ty.dflt .node))) fun r1 => (impl_Deep.l3 k n (mx x3 r1) x7 x8 (IntKind.wrap .i64 (x9 + 1)))) (none)) (none)) (some (IntKind.wrap .i64 (x3 + 1))) := by kernel_rfl
theorem impl_Deep_0 (a1 : AM.Node) : impl_Deep 0 a1 = none := by kernel_rfl
theorem impl_Deep_e (k : Nat) (a1 : AM.Node) : impl_Deep (k + 1) a1 =
  impl_Deep.l3 k k 0 (AM.Node.kids a1) ((List.length (AM.Node.kids a1)) : Int) 0 := by kernel_rfl
theorem E_impl_Deep_calls (k : Nat) (q0 : ∀ (a1 : AM.Node) (x : Int), impl_Deep k a1 = some x → LawV Try.prog 43 [.tv .node a1] (tvn (.int .i64) x)) : CallsOk Try.prog (E_impl_Deep k) (arun Try.prog (E_impl_Deep k) k) := by
  refine told_run (tyTOk _ _) ?_ (fun run h => regOk (tyTOk _ _) mixOk h) ?_ nameOk k
  · intro g m hg
    simp only [E_impl_Deep, G_impl_Deep] at hg
    split at hg
    · cases hg
      refine con_byVal fun ρ l K x hm => ?_
      split at hm
      · obtain ⟨c1, h1, hm⟩ := Option.bind_eq_some_iff.1 hm
        obtain ⟨r, hr, hm⟩ := Option.bind_eq_some_iff.1 hm
        exact ⟨_, hm, LawV.reads (.cons (.as h1) .nil) (q0 c1 r hr)⟩
      · cases hm
    · cases hg
  · intro g hg r
    by_cases h : g = 43
    · subst h; simp [E_impl_Deep, G_impl_Deep] at hg
    · simp [E_impl_Deep, G_impl_Deep, h]
theorem f43_okimpl_Deep : Try.prog.funcs[43]? = some Try.f43 := by kernel_rfl
theorem impl_Deep_u (k : Nat) (a1 : AM.Node) : abody (E_impl_Deep k) (arun Try.prog (E_impl_Deep k) k) k 43 Try.f43 [.tv .node a1] [] (fin1 (.int .i64)) = impl_Deep (k + 1) a1 := by kernel_rfl
theorem grp_impl_Deep_law (k : Nat) : (∀ (a1 : AM.Node) (x : Int), impl_Deep k a1 = some x → LawV Try.prog 43 [.tv .node a1] (tvn (.int .i64) x)) := by
  induction k with
  | zero => exact fun a1 x h => by rw [impl_Deep_0] at h; cases h
  | succ k ih =>
    exact (fun a1 x h => law1 (t := (.int .i64)) (tyTOk _ _) (E_impl_Deep_calls k ih) mixOk f43_okimpl_Deep (nameOk _ _ f43_okimpl_Deep) (by kernel_rfl) ((impl_Deep_u k a1).trans h))
theorem impl_Deep_law (k : Nat) (a1 : AM.Node) (x : Int) (h : impl_Deep k a1 = some x) : LawV Try.prog 43 [.tv .node a1] (tvn (.int .i64) x) := (grp_impl_Deep_law k) a1 x h
/-! laws.eqNode, laws.eqNodeS -/
noncomputable def G_laws_eqNode (r0 : AM.Node → AM.Node → Option Bool) (r1 : (List AM.Node) → (List AM.Node) → Option Bool) (k : Nat) : Env := ⟨ty, fun g => match g with
  | 121 => some (byVal fun ρ l K => match l with
    | [b1, b2] => (b1.as (.row .node)).bind fun c1 => (b2.as (.row .node)).bind fun c2 => (r1 c1 c2).bind fun r => K (tvn .bool r)
    | _ => none)
  | _ => none, fun _ _ => none⟩
noncomputable def G_laws_eqNodeS (r0 : AM.Node → AM.Node → Option Bool) (r1 : (List AM.Node) → (List AM.Node) → Option Bool) (k : Nat) : Env := ⟨ty, fun g => match g with
  | 44 => some (byVal fun ρ l K => match l with
    | [b1, b2] => (b1.as .node).bind fun c1 => (b2.as .node).bind fun c2 => (r0 c1 c2).bind fun r => K (tvn .bool r)
    | _ => none)
  | 121 => some noCon
  | _ => none, fun f r => match f with | 121 => (match r with | 4 => some [0, 1, 5] | _ => none) | _ => none⟩
noncomputable def grp_laws_eqNode : Nat → (AM.Node → AM.Node → Option Bool) × ((List AM.Node) → (List AM.Node) → Option Bool) := fun k => Nat.rec (motive := fun _ => (AM.Node → AM.Node → Option Bool) × ((List AM.Node) → (List AM.Node) → Option Bool)) (fun _ _ => none, fun _ _ => none) (fun k ih => (fun a1 a2 => abody (G_laws_eqNode ih.1 ih.2 k) (arun Try.prog (G_laws_eqNode ih.1 ih.2 k) k) k 44 Try.f44 [.tv .node a1, .tv .node a2] [] (fin1 .bool), fun a1 a2 => abody (G_laws_eqNodeS ih.1 ih.2 k) (arun Try.prog (G_laws_eqNodeS ih.1 ih.2 k) k) k 121 Try.f121 [.tv (.row .node) a1, .tv (.row .node) a2] [] (fin1 .bool))) k
noncomputable def E_laws_eqNode (k : Nat) : Env := G_laws_eqNode (grp_laws_eqNode k).1 (grp_laws_eqNode k).2 k
noncomputable def laws_eqNode (k : Nat) (a1 : AM.Node) (a2 : AM.Node) : Option (Bool) := (grp_laws_eqNode k).1 a1 a2
noncomputable def E_laws_eqNodeS (k : Nat) : Env := G_laws_eqNodeS (grp_laws_eqNode k).1 (grp_laws_eqNode k).2 k
noncomputable def laws_eqNodeS (k : Nat) (a1 : List AM.Node) (a2 : List AM.Node) : Option (Bool) := (grp_laws_eqNode k).2 a1 a2
noncomputable def laws_eqNodeS.l4 (k n : Nat) (x0 : List AM.Node) (x1 : List AM.Node) (x5 : Int) : Option (Bool) :=
  resume (E_laws_eqNodeS k) 121 (acall (E_laws_eqNodeS k) (arun Try.prog (E_laws_eqNodeS k) k)) k [true, true, false, true, true] [n] (bodyOf Try.f121) ⟨[.tv (.row .node) x0, .tv (.row .node) x1, .undef, .undef, .undef, .int .i64 x5, .undef, .undef, .undef, .undef, .undef, .undef, .undef, .undef, .undef, .undef, .undef, .undef, .undef, .undef, .undef, .undef, .undef, .undef, .undef, .undef, .undef], []⟩ (leave (E_laws_eqNodeS k) Try.f121 (fin1 .bool))
theorem laws_eqNode_0 (a1 : AM.Node) (a2 : AM.Node) : laws_eqNode 0 a1 a2 = none := by kernel_rfl
theorem laws_eqNode_e (k : Nat) (a1 : AM.Node) (a2 : AM.Node) : laws_eqNode (k + 1) a1 a2 =
  iteB ((AM.Node.op a1) != (AM.Node.op a2)) (some false) (iteB (!(ByteArray.toList (AM.Node.s a1) == ByteArray.toList (AM.Node.s a2))) (some false) (iteB ((AM.Node.n a1) != (AM.Node.n a2)) (some false) (bindO (laws_eqNodeS k (AM.Node.kids a1) (AM.Node.kids a2)) fun r1 => (iteB (!r1) (some false) (some true))))) := by kernel_rfl
theorem laws_eqNodeS.l4_0 (k : Nat) (x0 : List AM.Node) (x1 : List AM.Node) (x5 : Int) : laws_eqNodeS.l4 k 0 x0 x1 x5 = none := by kernel_rfl
theorem laws_eqNodeS.l4_s (k n : Nat) (x0 : List AM.Node) (x1 : List AM.Node) (x5 : Int) : laws_eqNodeS.l4 k (n + 1) x0 x1 x5 =
  iteB (decide (x5 < ((List.length x0) : Int))) (iteB (decide (0 ≤ x5)) (iteB (decide (x5 < ((List.length x0) : Int))) (iteB (decide (0 ≤ x5)) (iteB (decide (x5 < ((List.length x1) : Int))) (bindO (laws_eqNode k (List.getD x0 (Int.toNat x5) (Ty.dflt .node)) (List.getD x1 (Int.toNat x5) (Ty.dflt .node))) fun r1 => (iteB (!r1) (some false) (laws_eqNodeS.l4 k n x0 x1 (IntKind.wrap .i64 (x5 + 1))))) (none)) (none)) (none)) (none)) (some true) := by kernel_rfl
theorem laws_eqNodeS_0 (a1 : List AM.Node) (a2 : List AM.Node) : laws_eqNodeS 0 a1 a2 = none := by kernel_rfl
theorem laws_eqNodeS_e (k : Nat) (a1 : List AM.Node) (a2 : List AM.Node) : laws_eqNodeS (k + 1) a1 a2 =
  iteB (((List.length a1) : Int) != ((List.length a2) : Int)) (some false) (laws_eqNodeS.l4 k k a1 a2 0) := by kernel_rfl
theorem E_laws_eqNode_calls (k : Nat) (q0 : ∀ (a1 : AM.Node) (a2 : AM.Node) (x : Bool), laws_eqNode k a1 a2 = some x → LawV Try.prog 44 [.tv .node a1, .tv .node a2] (tvn .bool x)) (q1 : ∀ (a1 : List AM.Node) (a2 : List AM.Node) (x : Bool), laws_eqNodeS k a1 a2 = some x → LawV Try.prog 121 [.tv (.row .node) a1, .tv (.row .node) a2] (tvn .bool x)) : CallsOk Try.prog (E_laws_eqNode k) (arun Try.prog (E_laws_eqNode k) k) := by
  refine told_run (tyTOk _ _) ?_ (fun run h => regOk (tyTOk _ _) mixOk h) ?_ nameOk k
  · intro g m hg
    simp only [E_laws_eqNode, G_laws_eqNode] at hg
    split at hg
    · cases hg
      refine con_byVal fun ρ l K x hm => ?_
      split at hm
      · obtain ⟨c1, h1, hm⟩ := Option.bind_eq_some_iff.1 hm
        obtain ⟨c2, h2, hm⟩ := Option.bind_eq_some_iff.1 hm
        obtain ⟨r, hr, hm⟩ := Option.bind_eq_some_iff.1 hm
        exact ⟨_, hm, LawV.reads (.cons (.as h1) (.cons (.as h2) .nil)) (q1 c1 c2 r hr)⟩
      · cases hm
    · cases hg
  · intro g _ r; rfl
theorem f44_oklaws_eqNode : Try.prog.funcs[44]? = some Try.f44 := by kernel_rfl
theorem E_laws_eqNodeS_calls (k : Nat) (q0 : ∀ (a1 : AM.Node) (a2 : AM.Node) (x : Bool), laws_eqNode k a1 a2 = some x → LawV Try.prog 44 [.tv .node a1, .tv .node a2] (tvn .bool x)) (q1 : ∀ (a1 : List AM.Node) (a2 : List AM.Node) (x : Bool), laws_eqNodeS k a1 a2 = some x → LawV Try.prog 121 [.tv (.row .node) a1, .tv (.row .node) a2] (tvn .bool x)) : CallsOk Try.prog (E_laws_eqNodeS k) (arun Try.prog (E_laws_eqNodeS k) k) := by
  refine told_run (tyTOk _ _) ?_ (fun run h => regOk (tyTOk _ _) mixOk h) ?_ nameOk k
  · intro g m hg
    simp only [E_laws_eqNodeS, G_laws_eqNodeS] at hg
    split at hg
    · cases hg
      refine con_byVal fun ρ l K x hm => ?_
      split at hm
      · obtain ⟨c1, h1, hm⟩ := Option.bind_eq_some_iff.1 hm
        obtain ⟨c2, h2, hm⟩ := Option.bind_eq_some_iff.1 hm
        obtain ⟨r, hr, hm⟩ := Option.bind_eq_some_iff.1 hm
        exact ⟨_, hm, LawV.reads (.cons (.as h1) (.cons (.as h2) .nil)) (q0 c1 c2 r hr)⟩
      · cases hm
    · cases hg; exact noCon_ok
    · cases hg
  · intro g hg r
    by_cases h : g = 121
    · subst h; simp [E_laws_eqNodeS, G_laws_eqNodeS] at hg
    · simp [E_laws_eqNodeS, G_laws_eqNodeS, h]
theorem f121_oklaws_eqNodeS : Try.prog.funcs[121]? = some Try.f121 := by kernel_rfl
theorem laws_eqNode_u (k : Nat) (a1 : AM.Node) (a2 : AM.Node) : abody (E_laws_eqNode k) (arun Try.prog (E_laws_eqNode k) k) k 44 Try.f44 [.tv .node a1, .tv .node a2] [] (fin1 .bool) = laws_eqNode (k + 1) a1 a2 := by kernel_rfl
theorem laws_eqNodeS_u (k : Nat) (a1 : List AM.Node) (a2 : List AM.Node) : abody (E_laws_eqNodeS k) (arun Try.prog (E_laws_eqNodeS k) k) k 121 Try.f121 [.tv (.row .node) a1, .tv (.row .node) a2] [] (fin1 .bool) = laws_eqNodeS (k + 1) a1 a2 := by kernel_rfl
theorem grp_laws_eqNode_law (k : Nat) : (∀ (a1 : AM.Node) (a2 : AM.Node) (x : Bool), laws_eqNode k a1 a2 = some x → LawV Try.prog 44 [.tv .node a1, .tv .node a2] (tvn .bool x)) ∧ (∀ (a1 : List AM.Node) (a2 : List AM.Node) (x : Bool), laws_eqNodeS k a1 a2 = some x → LawV Try.prog 121 [.tv (.row .node) a1, .tv (.row .node) a2] (tvn .bool x)) := by
  induction k with
  | zero => exact ⟨(fun a1 a2 x h => by rw [laws_eqNode_0] at h; cases h), (fun a1 a2 x h => by rw [laws_eqNodeS_0] at h; cases h)⟩
  | succ k ih =>
    exact ⟨(fun a1 a2 x h => law1 (t := .bool) (tyTOk _ _) (E_laws_eqNode_calls k ih.1 ih.2) mixOk f44_oklaws_eqNode (nameOk _ _ f44_oklaws_eqNode) (by kernel_rfl) ((laws_eqNode_u k a1 a2).trans h)), (fun a1 a2 x h => law1 (t := .bool) (tyTOk _ _) (E_laws_eqNodeS_calls k ih.1 ih.2) mixOk f121_oklaws_eqNodeS (nameOk _ _ f121_oklaws_eqNodeS) (by kernel_rfl) ((laws_eqNodeS_u k a1 a2).trans h))⟩
theorem laws_eqNode_law (k : Nat) (a1 : AM.Node) (a2 : AM.Node) (x : Bool) (h : laws_eqNode k a1 a2 = some x) : LawV Try.prog 44 [.tv .node a1, .tv .node a2] (tvn .bool x) := (grp_laws_eqNode_law k).1 a1 a2 x h
theorem laws_eqNodeS_law (k : Nat) (a1 : List AM.Node) (a2 : List AM.Node) (x : Bool) (h : laws_eqNodeS k a1 a2 = some x) : LawV Try.prog 121 [.tv (.row .node) a1, .tv (.row .node) a2] (tvn .bool x) := (grp_laws_eqNode_law k).2 a1 a2 x h
/-! laws.FnExactDeep -/
noncomputable def E_laws_FnExactDeep (k : Nat) : Env := ⟨ty, fun g => match g with
  | 40 => some (byVal fun ρ l K => match l with
    | [b1, b2] => (b1.as .node).bind fun c1 => (b2.as (.int .i64)).bind fun c2 => (laws_szNode k c1 c2).bind fun r => K (tvn (.int .i64) r)
    | _ => none)
  | 42 => some (byVal fun ρ l K => match l with
    | [b1] => (b1.as .node).bind fun c1 => (laws_toNode k c1).bind fun r => K (tvn .node r)
    | _ => none)
  | 41 => some (byVal fun ρ l K => match l with
    | [b1] => (b1.as .node).bind fun c1 => (spec_Deep k c1).bind fun r => K (tvn (.int .i64) r)
    | _ => none)
  | 43 => some (byVal fun ρ l K => match l with
    | [b1] => (b1.as .node).bind fun c1 => (impl_Deep k c1).bind fun r => K (tvn (.int .i64) r)
    | _ => none)
  | 44 => some (byVal fun ρ l K => match l with
    | [b1, b2] => (b1.as .node).bind fun c1 => (b2.as .node).bind fun c2 => (laws_eqNode k c1 c2).bind fun r => K (tvn .bool r)
    | _ => none)
  | _ => none, fun _ _ => none⟩
noncomputable def laws_FnExactDeep (k : Nat) (a1 : AM.Node) : Option (Bool) :=
  abody (E_laws_FnExactDeep k) (arun Try.prog (E_laws_FnExactDeep k) k) k 8 Try.f8 [.tv .node a1] [] (fin1 .bool)
theorem laws_FnExactDeep_e (k : Nat) (a1 : AM.Node) : laws_FnExactDeep k a1 =
  bindO (laws_szNode k a1 1048576) fun r1 => (iteB (decide (r1 < 0)) (some true) (bindO (laws_toNode k a1) fun r2 => (bindO (spec_Deep k r2) fun r3 => (bindO (laws_toNode k a1) fun r4 => (bindO (impl_Deep k r4) fun r5 => (iteB (r5 != r3) (some false) (bindO (laws_toNode k a1) fun r6 => (bindO (laws_eqNode k r4 r6) fun r7 => (iteB (!r7) (some false) (some true)))))))))) := by kernel_rfl
theorem E_laws_FnExactDeep_calls (k : Nat) : CallsOk Try.prog (E_laws_FnExactDeep k) (arun Try.prog (E_laws_FnExactDeep k) k) := by
  refine told_run (tyTOk _ _) ?_ (fun run h => regOk (tyTOk _ _) mixOk h) ?_ nameOk k
  · intro g m hg
    simp only [E_laws_FnExactDeep] at hg
    split at hg
    · cases hg
      refine con_byVal fun ρ l K x hm => ?_
      split at hm
      · obtain ⟨c1, h1, hm⟩ := Option.bind_eq_some_iff.1 hm
        obtain ⟨c2, h2, hm⟩ := Option.bind_eq_some_iff.1 hm
        obtain ⟨r, hr, hm⟩ := Option.bind_eq_some_iff.1 hm
        exact ⟨_, hm, LawV.reads (.cons (.as h1) (.cons (.as h2) .nil)) (laws_szNode_law k c1 c2 r hr)⟩
      · cases hm
    · cases hg
      refine con_byVal fun ρ l K x hm => ?_
      split at hm
      · obtain ⟨c1, h1, hm⟩ := Option.bind_eq_some_iff.1 hm
        obtain ⟨r, hr, hm⟩ := Option.bind_eq_some_iff.1 hm
        exact ⟨_, hm, LawV.reads (.cons (.as h1) .nil) (laws_toNode_law k c1 r hr)⟩
      · cases hm
    · cases hg
      refine con_byVal fun ρ l K x hm => ?_
      split at hm
      · obtain ⟨c1, h1, hm⟩ := Option.bind_eq_some_iff.1 hm
        obtain ⟨r, hr, hm⟩ := Option.bind_eq_some_iff.1 hm
        exact ⟨_, hm, LawV.reads (.cons (.as h1) .nil) (spec_Deep_law k c1 r hr)⟩
      · cases hm
    · cases hg
      refine con_byVal fun ρ l K x hm => ?_
      split at hm
      · obtain ⟨c1, h1, hm⟩ := Option.bind_eq_some_iff.1 hm
        obtain ⟨r, hr, hm⟩ := Option.bind_eq_some_iff.1 hm
        exact ⟨_, hm, LawV.reads (.cons (.as h1) .nil) (impl_Deep_law k c1 r hr)⟩
      · cases hm
    · cases hg
      refine con_byVal fun ρ l K x hm => ?_
      split at hm
      · obtain ⟨c1, h1, hm⟩ := Option.bind_eq_some_iff.1 hm
        obtain ⟨c2, h2, hm⟩ := Option.bind_eq_some_iff.1 hm
        obtain ⟨r, hr, hm⟩ := Option.bind_eq_some_iff.1 hm
        exact ⟨_, hm, LawV.reads (.cons (.as h1) (.cons (.as h2) .nil)) (laws_eqNode_law k c1 c2 r hr)⟩
      · cases hm
    · cases hg
  · intro g _ r; rfl
theorem f8_oklaws_FnExactDeep : Try.prog.funcs[8]? = some Try.f8 := by kernel_rfl
theorem laws_FnExactDeep_law (k : Nat) (a1 : AM.Node) (x : Bool) (h : laws_FnExactDeep k a1 = some x) : LawV Try.prog 8 [.tv .node a1] (tvn .bool x) := by
  unfold laws_FnExactDeep at h
  exact law1 (t := .bool) (tyTOk _ _) (E_laws_FnExactDeep_calls k) mixOk f8_oklaws_FnExactDeep (nameOk _ _ f8_oklaws_FnExactDeep) (by kernel_rfl) h
end Go.Proofs.Ytapijpjgfpjahaa.XFnExactDeep
