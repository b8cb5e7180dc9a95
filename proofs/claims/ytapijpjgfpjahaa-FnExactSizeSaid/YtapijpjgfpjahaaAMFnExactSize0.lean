/- Functions of the program as runs of the interpreter: equations, and a law for each. -/
import Derived.Test.YtapijpjgfpjahaaProg
import Derived.Test.YtapijpjgfpjahaaChecked
import Derived.KernelRfl
import Derived.Eval
import Derived.Test.YtapijpjgfpjahaaATyOk
import Derived.Test.YtapijpjgfpjahaaAS32
open Go Go.AM Go.AMx Go.Proofs
namespace Go.Proofs.Ytapijpjgfpjahaa.XFnExactSize
set_option linter.unusedVariables false
set_option linter.unusedSimpArgs false
/-! laws.szParam -/
noncomputable def E_laws_szParam (k : Nat) : Env := ⟨ty, fun _ => none, fun _ _ => none⟩
noncomputable def laws_szParam (k : Nat) (a1 : ByteArray × Bool × Unit) (a2 : Int) : Option (Int) :=
  abody (E_laws_szParam k) (arun Try.prog (E_laws_szParam k) k) k 210 Try.f210 [.tv (.pair .str (.pair .bool .unit)) a1, .int .i64 a2] [] (fin1 (.int .i64))
theorem laws_szParam_e (k : Nat) (a1 : ByteArray × Bool × Unit) (a2 : Int) : laws_szParam k a1 a2 =
  iteB (decide (IntKind.wrap .i64 (a2 - (ByteArray.size a1.1 : Int)) < 0)) (some (-1)) (some (IntKind.wrap .i64 (a2 - (ByteArray.size a1.1 : Int)))) := by kernel_rfl
theorem E_laws_szParam_calls (k : Nat) : CallsOk Try.prog (E_laws_szParam k) (arun Try.prog (E_laws_szParam k) k) := by
  refine told_run (tyTOk _ _) ?_ (fun run h => regOk (tyTOk _ _) mixOk h) ?_ nameOk k
  · intro g m hg
    cases hg
  · intro g _ r; rfl
theorem f210_oklaws_szParam : Try.prog.funcs[210]? = some Try.f210 := by kernel_rfl
theorem laws_szParam_law (k : Nat) (a1 : ByteArray × Bool × Unit) (a2 : Int) (x : Int) (h : laws_szParam k a1 a2 = some x) : LawV Try.prog 210 [.tv (.pair .str (.pair .bool .unit)) a1, .int .i64 a2] (tvn (.int .i64) x) := by
  unfold laws_szParam at h
  exact law1 (t := (.int .i64)) (tyTOk _ _) (E_laws_szParam_calls k) mixOk f210_oklaws_szParam (nameOk _ _ f210_oklaws_szParam) (by kernel_rfl) h
/-! laws.szParamS -/
noncomputable def E_laws_szParamS (k : Nat) : Env := ⟨ty, fun g => match g with
  | 210 => some (byVal fun ρ l K => match l with
    | [b1, b2] => (b1.as (.pair .str (.pair .bool .unit))).bind fun c1 => (b2.as (.int .i64)).bind fun c2 => (laws_szParam k c1 c2).bind fun r => K (tvn (.int .i64) r)
    | _ => none)
  | 186 => some noCon
  | _ => none, fun f r => match f with | 186 => (match r with | 5 => some [0, 1, 5] | _ => none) | _ => none⟩
noncomputable def laws_szParamS (k : Nat) (a1 : List (ByteArray × Bool × Unit)) (a2 : Int) : Option (Int) :=
  abody (E_laws_szParamS k) (arun Try.prog (E_laws_szParamS k) k) k 186 Try.f186 [.tv (.row (.pair .str (.pair .bool .unit))) a1, .int .i64 a2] [] (fin1 (.int .i64))
noncomputable def laws_szParamS.l5 (k n : Nat) (x0 : List (ByteArray × Bool × Unit)) (x1 : Int) (x5 : Int) : Option (Int) :=
  resume (E_laws_szParamS k) 186 (acall (E_laws_szParamS k) (arun Try.prog (E_laws_szParamS k) k)) k [true, true, true, false, true, true] [n] (bodyOf Try.f186) ⟨[.tv (.row (.pair .str (.pair .bool .unit))) x0, .int .i64 x1, .undef, .undef, .undef, .int .i64 x5, .undef, .undef, .undef, .undef, .undef, .undef, .undef, .undef, .undef, .undef, .undef, .undef, .undef, .undef, .undef, .undef, .undef, .undef, .undef, .undef, .undef], []⟩ (leave (E_laws_szParamS k) Try.f186 (fin1 (.int .i64)))
theorem laws_szParamS.l5_0 (k : Nat) (x0 : List (ByteArray × Bool × Unit)) (x1 : Int) (x5 : Int) : laws_szParamS.l5 k 0 x0 x1 x5 = none := by kernel_rfl
theorem laws_szParamS.l5_s (k n : Nat) (x0 : List (ByteArray × Bool × Unit)) (x1 : Int) (x5 : Int) : laws_szParamS.l5 k (n + 1) x0 x1 x5 =
  iteB (decide (x5 < ((List.length x0) : Int))) (iteB (decide (0 ≤ x5)) (iteB (decide (x5 < ((List.length x0) : Int))) (bindO (laws_szParam k (List.getD x0 (Int.toNat x5) (Ty.dflt (.pair .str (.pair .bool .unit)))) x1) fun r1 => (iteB (decide (r1 < 0)) (some (-1)) (laws_szParamS.l5 k n x0 r1 (IntKind.wrap .i64 (x5 + 1))))) (none)) (none)) (some x1) := by kernel_rfl
theorem laws_szParamS_e (k : Nat) (a1 : List (ByteArray × Bool × Unit)) (a2 : Int) : laws_szParamS k a1 a2 =
  iteB (decide (IntKind.wrap .i64 (a2 - ((List.length a1) : Int)) < 0)) (some (-1)) (laws_szParamS.l5 k k a1 (IntKind.wrap .i64 (a2 - ((List.length a1) : Int))) 0) := by kernel_rfl
theorem E_laws_szParamS_calls (k : Nat) : CallsOk Try.prog (E_laws_szParamS k) (arun Try.prog (E_laws_szParamS k) k) := by
  refine told_run (tyTOk _ _) ?_ (fun run h => regOk (tyTOk _ _) mixOk h) ?_ nameOk k
  · intro g m hg
    simp only [E_laws_szParamS] at hg
    split at hg
    · cases hg
      refine con_byVal fun ρ l K x hm => ?_
      split at hm
      · obtain ⟨c1, h1, hm⟩ := Option.bind_eq_some_iff.1 hm
        obtain ⟨c2, h2, hm⟩ := Option.bind_eq_some_iff.1 hm
        obtain ⟨r, hr, hm⟩ := Option.bind_eq_some_iff.1 hm
        exact ⟨_, hm, LawV.reads (.cons (.as h1) (.cons (.as h2) .nil)) (laws_szParam_law k c1 c2 r hr)⟩
      · cases hm
    · cases hg; exact noCon_ok
    · cases hg
  · intro g hg r
    by_cases h : g = 186
    · subst h; simp [E_laws_szParamS] at hg
    · simp [E_laws_szParamS, h]
theorem f186_oklaws_szParamS : Try.prog.funcs[186]? = some Try.f186 := by kernel_rfl
theorem laws_szParamS_law (k : Nat) (a1 : List (ByteArray × Bool × Unit)) (a2 : Int) (x : Int) (h : laws_szParamS k a1 a2 = some x) : LawV Try.prog 186 [.tv (.row (.pair .str (.pair .bool .unit))) a1, .int .i64 a2] (tvn (.int .i64) x) := by
  unfold laws_szParamS at h
  exact law1 (t := (.int .i64)) (tyTOk _ _) (E_laws_szParamS_calls k) mixOk f186_oklaws_szParamS (nameOk _ _ f186_oklaws_szParamS) (by kernel_rfl) h
/-! laws.szNode, laws.szNodeS -/
noncomputable def G_laws_szNode (r0 : AM.Node → Int → Option Int) (r1 : (List AM.Node) → Int → Option Int) (k : Nat) : Env := ⟨ty, fun g => match g with
  | 118 => some (byVal fun ρ l K => match l with
    | [b1, b2] => (b1.as (.row .node)).bind fun c1 => (b2.as (.int .i64)).bind fun c2 => (r1 c1 c2).bind fun r => K (tvn (.int .i64) r)
    | _ => none)
  | _ => none, fun _ _ => none⟩
noncomputable def G_laws_szNodeS (r0 : AM.Node → Int → Option Int) (r1 : (List AM.Node) → Int → Option Int) (k : Nat) : Env := ⟨ty, fun g => match g with
  | 40 => some (byVal fun ρ l K => match l with
    | [b1, b2] => (b1.as .node).bind fun c1 => (b2.as (.int .i64)).bind fun c2 => (r0 c1 c2).bind fun r => K (tvn (.int .i64) r)
    | _ => none)
  | 118 => some noCon
  | _ => none, fun f r => match f with | 118 => (match r with | 5 => some [0, 1, 5] | _ => none) | _ => none⟩
noncomputable def grp_laws_szNode : Nat → (AM.Node → Int → Option Int) × ((List AM.Node) → Int → Option Int) := fun k => Nat.rec (motive := fun _ => (AM.Node → Int → Option Int) × ((List AM.Node) → Int → Option Int)) (fun _ _ => none, fun _ _ => none) (fun k ih => (fun a1 a2 => abody (G_laws_szNode ih.1 ih.2 k) (arun Try.prog (G_laws_szNode ih.1 ih.2 k) k) k 40 Try.f40 [.tv .node a1, .int .i64 a2] [] (fin1 (.int .i64)), fun a1 a2 => abody (G_laws_szNodeS ih.1 ih.2 k) (arun Try.prog (G_laws_szNodeS ih.1 ih.2 k) k) k 118 Try.f118 [.tv (.row .node) a1, .int .i64 a2] [] (fin1 (.int .i64)))) k
noncomputable def E_laws_szNode (k : Nat) : Env := G_laws_szNode (grp_laws_szNode k).1 (grp_laws_szNode k).2 k
noncomputable def laws_szNode (k : Nat) (a1 : AM.Node) (a2 : Int) : Option (Int) := (grp_laws_szNode k).1 a1 a2
noncomputable def E_laws_szNodeS (k : Nat) : Env := G_laws_szNodeS (grp_laws_szNode k).1 (grp_laws_szNode k).2 k
noncomputable def laws_szNodeS (k : Nat) (a1 : List AM.Node) (a2 : Int) : Option (Int) := (grp_laws_szNode k).2 a1 a2
noncomputable def laws_szNodeS.l5 (k n : Nat) (x0 : List AM.Node) (x1 : Int) (x5 : Int) : Option (Int) :=
  resume (E_laws_szNodeS k) 118 (acall (E_laws_szNodeS k) (arun Try.prog (E_laws_szNodeS k) k)) k [true, true, true, false, true, true] [n] (bodyOf Try.f118) ⟨[.tv (.row .node) x0, .int .i64 x1, .undef, .undef, .undef, .int .i64 x5, .undef, .undef, .undef, .undef, .undef, .undef, .undef, .undef, .undef, .undef, .undef, .undef, .undef, .undef, .undef, .undef, .undef, .undef, .undef, .undef, .undef], []⟩ (leave (E_laws_szNodeS k) Try.f118 (fin1 (.int .i64)))
theorem laws_szNode_0 (a1 : AM.Node) (a2 : Int) : laws_szNode 0 a1 a2 = none := by kernel_rfl
theorem laws_szNode_e (k : Nat) (a1 : AM.Node) (a2 : Int) : laws_szNode (k + 1) a1 a2 =
  iteB (decide (IntKind.wrap .i64 (a2 - (ByteArray.size (AM.Node.s a1) : Int)) < 0)) (some (-1)) (bindO (laws_szNodeS k (AM.Node.kids a1) (IntKind.wrap .i64 (a2 - (ByteArray.size (AM.Node.s a1) : Int)))) fun r1 => (iteB (decide (r1 < 0)) (some (-1)) (some r1))) := by kernel_rfl
theorem laws_szNodeS.l5_0 (k : Nat) (x0 : List AM.Node) (x1 : Int) (x5 : Int) : laws_szNodeS.l5 k 0 x0 x1 x5 = none := by kernel_rfl
theorem laws_szNodeS.l5_s (k n : Nat) (x0 : List AM.Node) (x1 : Int) (x5 : Int) : laws_szNodeS.l5 k (n + 1) x0 x1 x5 =
  iteB (decide (x5 < ((List.length x0) : Int))) (iteB (decide (0 ≤ x5)) (iteB (decide (x5 < ((List.length x0) : Int))) (bindO (laws_szNode k (List.getD x0 (Int.toNat x5) (Ty.dflt .node)) x1) fun r1 => (iteB (decide (r1 < 0)) (some (-1)) (laws_szNodeS.l5 k n x0 r1 (IntKind.wrap .i64 (x5 + 1))))) (none)) (none)) (some x1) := by kernel_rfl
theorem laws_szNodeS_0 (a1 : List AM.Node) (a2 : Int) : laws_szNodeS 0 a1 a2 = none := by kernel_rfl
theorem laws_szNodeS_e (k : Nat) (a1 : List AM.Node) (a2 : Int) : laws_szNodeS (k + 1) a1 a2 =
  iteB (decide (IntKind.wrap .i64 (a2 - ((List.length a1) : Int)) < 0)) (some (-1)) (laws_szNodeS.l5 k k a1 (IntKind.wrap .i64 (a2 - ((List.length a1) : Int))) 0) := by kernel_rfl
theorem E_laws_szNode_calls (k : Nat) (q0 : ∀ (a1 : AM.Node) (a2 : Int) (x : Int), laws_szNode k a1 a2 = some x → LawV Try.prog 40 [.tv .node a1, .int .i64 a2] (tvn (.int .i64) x)) (q1 : ∀ (a1 : List AM.Node) (a2 : Int) (x : Int), laws_szNodeS k a1 a2 = some x → LawV Try.prog 118 [.tv (.row .node) a1, .int .i64 a2] (tvn (.int .i64) x)) : CallsOk Try.prog (E_laws_szNode k) (arun Try.prog (E_laws_szNode k) k) := by
  refine told_run (tyTOk _ _) ?_ (fun run h => regOk (tyTOk _ _) mixOk h) ?_ nameOk k
  · intro g m hg
    simp only [E_laws_szNode, G_laws_szNode] at hg
    split at hg
    · cases hg
      refine con_byVal fun ρ l K x hm => ?_
      split at hm
      · obtain ⟨c1, h1, hm⟩ := Option.bind_eq_some_iff.1 hm
        obtain ⟨c2, h2, hm⟩ := Option.bind_eq_some_iff.1 hm
        obtain ⟨r, hr, hm⟩ := Option.bind_eq_some_iff.1 hm
        exact ⟨_, hm, LawV.reads (.cons (.as h1) (.cons (.as h2) .nil)) (q1 c1 c2 r hr)⟩
      · cases hm
    · cases hg
  · intro g _ r; rfl
theorem f40_oklaws_szNode : Try.prog.funcs[40]? = some Try.f40 := by kernel_rfl
theorem E_laws_szNodeS_calls (k : Nat) (q0 : ∀ (a1 : AM.Node) (a2 : Int) (x : Int), laws_szNode k a1 a2 = some x → LawV Try.prog 40 [.tv .node a1, .int .i64 a2] (tvn (.int .i64) x)) (q1 : ∀ (a1 : List AM.Node) (a2 : Int) (x : Int), laws_szNodeS k a1 a2 = some x → LawV Try.prog 118 [.tv (.row .node) a1, .int .i64 a2] (tvn (.int .i64) x)) : CallsOk Try.prog (E_laws_szNodeS k) (arun Try.prog (E_laws_szNodeS k) k) := by
  refine told_run (tyTOk _ _) ?_ (fun run h => regOk (tyTOk _ _) mixOk h) ?_ nameOk k
  · intro g m hg
    simp only [E_laws_szNodeS, G_laws_szNodeS] at hg
    split at hg
    · cases hg
      refine con_byVal fun ρ l K x hm => ?_
      split at hm
      · obtain ⟨c1, h1, hm⟩ := Option.bind_eq_some_iff.1 hm
        obtain ⟨c2, h2, hm⟩ := Option.bind_eq_some_iff.1 hm
        obtain ⟨r, hr, hm⟩ := Option.bind_eq_some_iff.1 hm
        exact ⟨_, hm, LawV.reads (.cons (.as h1) (.cons (.as h2) .nil)) (q0 c1 c2 r hr)⟩
      · cases hm
    · cases hg; exact noCon_ok
    · cases hg
  · intro g hg r
    by_cases h : g = 118
    · subst h; simp [E_laws_szNodeS, G_laws_szNodeS] at hg
    · simp [E_laws_szNodeS, G_laws_szNodeS, h]
theorem f118_oklaws_szNodeS : Try.prog.funcs[118]? = some Try.f118 := by kernel_rfl
theorem laws_szNode_u (k : Nat) (a1 : AM.Node) (a2 : Int) : abody (E_laws_szNode k) (arun Try.prog (E_laws_szNode k) k) k 40 Try.f40 [.tv .node a1, .int .i64 a2] [] (fin1 (.int .i64)) = laws_szNode (k + 1) a1 a2 := by kernel_rfl
theorem laws_szNodeS_u (k : Nat) (a1 : List AM.Node) (a2 : Int) : abody (E_laws_szNodeS k) (arun Try.prog (E_laws_szNodeS k) k) k 118 Try.f118 [.tv (.row .node) a1, .int .i64 a2] [] (fin1 (.int .i64)) = laws_szNodeS (k + 1) a1 a2 := by kernel_rfl
theorem grp_laws_szNode_law (k : Nat) : (∀ (a1 : AM.Node) (a2 : Int) (x : Int), laws_szNode k a1 a2 = some x → LawV Try.prog 40 [.tv .node a1, .int .i64 a2] (tvn (.int .i64) x)) ∧ (∀ (a1 : List AM.Node) (a2 : Int) (x : Int), laws_szNodeS k a1 a2 = some x → LawV Try.prog 118 [.tv (.row .node) a1, .int .i64 a2] (tvn (.int .i64) x)) := by
  induction k with
  | zero => exact ⟨(fun a1 a2 x h => by rw [laws_szNode_0] at h; cases h), (fun a1 a2 x h => by rw [laws_szNodeS_0] at h; cases h)⟩
  | succ k ih =>
    exact ⟨(fun a1 a2 x h => law1 (t := (.int .i64)) (tyTOk _ _) (E_laws_szNode_calls k ih.1 ih.2) mixOk f40_oklaws_szNode (nameOk _ _ f40_oklaws_szNode) (by kernel_rfl) ((laws_szNode_u k a1 a2).trans h)), (fun a1 a2 x h => law1 (t := (.int .i64)) (tyTOk _ _) (E_laws_szNodeS_calls k ih.1 ih.2) mixOk f118_oklaws_szNodeS (nameOk _ _ f118_oklaws_szNodeS) (by kernel_rfl) ((laws_szNodeS_u k a1 a2).trans h))⟩
theorem laws_szNode_law (k : Nat) (a1 : AM.Node) (a2 : Int) (x : Int) (h : laws_szNode k a1 a2 = some x) : LawV Try.prog 40 [.tv .node a1, .int .i64 a2] (tvn (.int .i64) x) := (grp_laws_szNode_law k).1 a1 a2 x h
theorem laws_szNodeS_law (k : Nat) (a1 : List AM.Node) (a2 : Int) (x : Int) (h : laws_szNodeS k a1 a2 = some x) : LawV Try.prog 118 [.tv (.row .node) a1, .int .i64 a2] (tvn (.int .i64) x) := (grp_laws_szNode_law k).2 a1 a2 x h
/-! laws.szFunc -/
noncomputable def E_laws_szFunc (k : Nat) : Env := ⟨ty, fun g => match g with
  | 186 => some (byVal fun ρ l K => match l with
    | [b1, b2] => (b1.as (.row (.pair .str (.pair .bool .unit)))).bind fun c1 => (b2.as (.int .i64)).bind fun c2 => (laws_szParamS k c1 c2).bind fun r => K (tvn (.int .i64) r)
    | _ => none)
  | 40 => some (byVal fun ρ l K => match l with
    | [b1, b2] => (b1.as .node).bind fun c1 => (b2.as (.int .i64)).bind fun c2 => (laws_szNode k c1 c2).bind fun r => K (tvn (.int .i64) r)
    | _ => none)
  | _ => none, fun _ _ => none⟩
noncomputable def laws_szFunc (k : Nat) (a1 : ByteArray × (List (ByteArray × Bool × Unit)) × AM.Node × Unit) (a2 : Int) : Option (Int) :=
  abody (E_laws_szFunc k) (arun Try.prog (E_laws_szFunc k) k) k 122 Try.f122 [.tv (.pair .str (.pair (.row (.pair .str (.pair .bool .unit))) (.pair .node .unit))) a1, .int .i64 a2] [] (fin1 (.int .i64))
theorem laws_szFunc_e (k : Nat) (a1 : ByteArray × (List (ByteArray × Bool × Unit)) × AM.Node × Unit) (a2 : Int) : laws_szFunc k a1 a2 =
  iteB (decide (IntKind.wrap .i64 (a2 - (ByteArray.size a1.1 : Int)) < 0)) (some (-1)) (bindO (laws_szParamS k a1.2.1 (IntKind.wrap .i64 (a2 - (ByteArray.size a1.1 : Int)))) fun r1 => (iteB (decide (r1 < 0)) (some (-1)) (bindO (laws_szNode k (AM.Node.mk (AM.Node.op a1.2.2.1) (AM.Node.s a1.2.2.1) (AM.Node.n a1.2.2.1) (AM.Node.kids a1.2.2.1)) r1) fun r2 => (iteB (decide (r2 < 0)) (some (-1)) (some r2))))) := by kernel_rfl
theorem E_laws_szFunc_calls (k : Nat) : CallsOk Try.prog (E_laws_szFunc k) (arun Try.prog (E_laws_szFunc k) k) := by
  refine told_run (tyTOk _ _) ?_ (fun run h => regOk (tyTOk _ _) mixOk h) ?_ nameOk k
  · intro g m hg
    simp only [E_laws_szFunc] at hg
    split at hg
    · cases hg
      refine con_byVal fun ρ l K x hm => ?_
      split at hm
      · obtain ⟨c1, h1, hm⟩ := Option.bind_eq_some_iff.1 hm
        obtain ⟨c2, h2, hm⟩ := Option.bind_eq_some_iff.1 hm
        obtain ⟨r, hr, hm⟩ := Option.bind_eq_some_iff.1 hm
        exact ⟨_, hm, LawV.reads (.cons (.as h1) (.cons (.as h2) .nil)) (laws_szParamS_law k c1 c2 r hr)⟩
      · cases hm
    · cases hg
      refine con_byVal fun ρ l K x hm => ?_
      split at hm
      · obtain ⟨c1, h1, hm⟩ := Option.bind_eq_some_iff.1 hm
        obtain ⟨c2, h2, hm⟩ := Option.bind_eq_some_iff.1 hm
        obtain ⟨r, hr, hm⟩ := Option.bind_eq_some_iff.1 hm
        exact ⟨_, hm, LawV.reads (.cons (.as h1) (.cons (.as h2) .nil)) (laws_szNode_law k c1 c2 r hr)⟩
      · cases hm
    · cases hg
  · intro g _ r; rfl
theorem f122_oklaws_szFunc : Try.prog.funcs[122]? = some Try.f122 := by kernel_rfl
theorem laws_szFunc_law (k : Nat) (a1 : ByteArray × (List (ByteArray × Bool × Unit)) × AM.Node × Unit) (a2 : Int) (x : Int) (h : laws_szFunc k a1 a2 = some x) : LawV Try.prog 122 [.tv (.pair .str (.pair (.row (.pair .str (.pair .bool .unit))) (.pair .node .unit))) a1, .int .i64 a2] (tvn (.int .i64) x) := by
  unfold laws_szFunc at h
  exact law1 (t := (.int .i64)) (tyTOk _ _) (E_laws_szFunc_calls k) mixOk f122_oklaws_szFunc (nameOk _ _ f122_oklaws_szFunc) (by kernel_rfl) h
/-! laws.szFuncS -/
noncomputable def E_laws_szFuncS (k : Nat) : Env := ⟨ty, fun g => match g with
  | 122 => some (byVal fun ρ l K => match l with
    | [b1, b2] => (b1.as (.pair .str (.pair (.row (.pair .str (.pair .bool .unit))) (.pair .node .unit)))).bind fun c1 => (b2.as (.int .i64)).bind fun c2 => (laws_szFunc k c1 c2).bind fun r => K (tvn (.int .i64) r)
    | _ => none)
  | 45 => some noCon
  | _ => none, fun f r => match f with | 45 => (match r with | 5 => some [0, 1, 5] | _ => none) | _ => none⟩
noncomputable def laws_szFuncS (k : Nat) (a1 : List (ByteArray × (List (ByteArray × Bool × Unit)) × AM.Node × Unit)) (a2 : Int) : Option (Int) :=
  abody (E_laws_szFuncS k) (arun Try.prog (E_laws_szFuncS k) k) k 45 Try.f45 [.tv (.row (.pair .str (.pair (.row (.pair .str (.pair .bool .unit))) (.pair .node .unit)))) a1, .int .i64 a2] [] (fin1 (.int .i64))
noncomputable def laws_szFuncS.l5 (k n : Nat) (x0 : List (ByteArray × (List (ByteArray × Bool × Unit)) × AM.Node × Unit)) (x1 : Int) (x5 : Int) : Option (Int) :=
  resume (E_laws_szFuncS k) 45 (acall (E_laws_szFuncS k) (arun Try.prog (E_laws_szFuncS k) k)) k [true, true, true, false, true, true] [n] (bodyOf Try.f45) ⟨[.tv (.row (.pair .str (.pair (.row (.pair .str (.pair .bool .unit))) (.pair .node .unit)))) x0, .int .i64 x1, .undef, .undef, .undef, .int .i64 x5, .undef, .undef, .undef, .undef, .undef, .undef, .undef, .undef, .undef, .undef, .undef, .undef, .undef, .undef, .undef, .undef, .undef, .undef, .undef, .undef, .undef], []⟩ (leave (E_laws_szFuncS k) Try.f45 (fin1 (.int .i64)))
theorem laws_szFuncS.l5_0 (k : Nat) (x0 : List (ByteArray × (List (ByteArray × Bool × Unit)) × AM.Node × Unit)) (x1 : Int) (x5 : Int) : laws_szFuncS.l5 k 0 x0 x1 x5 = none := by kernel_rfl
theorem laws_szFuncS.l5_s (k n : Nat) (x0 : List (ByteArray × (List (ByteArray × Bool × Unit)) × AM.Node × Unit)) (x1 : Int) (x5 : Int) : laws_szFuncS.l5 k (n + 1) x0 x1 x5 =
  iteB (decide (x5 < ((List.length x0) : Int))) (iteB (decide (0 ≤ x5)) (iteB (decide (x5 < ((List.length x0) : Int))) (bindO (laws_szFunc k (List.getD x0 (Int.toNat x5) (Ty.dflt (.pair .str (.pair (.row (.pair .str (.pair .bool .unit))) (.pair .node .unit))))) x1) fun r1 => (iteB (decide (r1 < 0)) (some (-1)) (laws_szFuncS.l5 k n x0 r1 (IntKind.wrap .i64 (x5 + 1))))) (none)) (none)) (some x1) := by kernel_rfl
theorem laws_szFuncS_e (k : Nat) (a1 : List (ByteArray × (List (ByteArray × Bool × Unit)) × AM.Node × Unit)) (a2 : Int) : laws_szFuncS k a1 a2 =
  iteB (decide (IntKind.wrap .i64 (a2 - ((List.length a1) : Int)) < 0)) (some (-1)) (laws_szFuncS.l5 k k a1 (IntKind.wrap .i64 (a2 - ((List.length a1) : Int))) 0) := by kernel_rfl
theorem E_laws_szFuncS_calls (k : Nat) : CallsOk Try.prog (E_laws_szFuncS k) (arun Try.prog (E_laws_szFuncS k) k) := by
  refine told_run (tyTOk _ _) ?_ (fun run h => regOk (tyTOk _ _) mixOk h) ?_ nameOk k
  · intro g m hg
    simp only [E_laws_szFuncS] at hg
    split at hg
    · cases hg
      refine con_byVal fun ρ l K x hm => ?_
      split at hm
      · obtain ⟨c1, h1, hm⟩ := Option.bind_eq_some_iff.1 hm
        obtain ⟨c2, h2, hm⟩ := Option.bind_eq_some_iff.1 hm
        obtain ⟨r, hr, hm⟩ := Option.bind_eq_some_iff.1 hm
        exact ⟨_, hm, LawV.reads (.cons (.as h1) (.cons (.as h2) .nil)) (laws_szFunc_law k c1 c2 r hr)⟩
      · cases hm
    · cases hg; exact noCon_ok
    · cases hg
  · intro g hg r
    by_cases h : g = 45
    · subst h; simp [E_laws_szFuncS] at hg
    · simp [E_laws_szFuncS, h]
theorem f45_oklaws_szFuncS : Try.prog.funcs[45]? = some Try.f45 := by kernel_rfl
theorem laws_szFuncS_law (k : Nat) (a1 : List (ByteArray × (List (ByteArray × Bool × Unit)) × AM.Node × Unit)) (a2 : Int) (x : Int) (h : laws_szFuncS k a1 a2 = some x) : LawV Try.prog 45 [.tv (.row (.pair .str (.pair (.row (.pair .str (.pair .bool .unit))) (.pair .node .unit)))) a1, .int .i64 a2] (tvn (.int .i64) x) := by
  unfold laws_szFuncS at h
  exact law1 (t := (.int .i64)) (tyTOk _ _) (E_laws_szFuncS_calls k) mixOk f45_oklaws_szFuncS (nameOk _ _ f45_oklaws_szFuncS) (by kernel_rfl) h
/-! laws.toParam -/
noncomputable def E_laws_toParam (k : Nat) : Env := ⟨ty, fun _ => none, fun _ _ => none⟩
noncomputable def laws_toParam (k : Nat) (a1 : ByteArray × Bool × Unit) : Option (ByteArray × Bool × Unit) :=
  abody (E_laws_toParam k) (arun Try.prog (E_laws_toParam k) k) k 211 Try.f211 [.tv (.pair .str (.pair .bool .unit)) a1] [] (fin1 (.pair .str (.pair .bool .unit)))
theorem laws_toParam_e (k : Nat) (a1 : ByteArray × Bool × Unit) : laws_toParam k a1 =
  some (a1.1, a1.2.1, ()) := by kernel_rfl
theorem E_laws_toParam_calls (k : Nat) : CallsOk Try.prog (E_laws_toParam k) (arun Try.prog (E_laws_toParam k) k) := by
  refine told_run (tyTOk _ _) ?_ (fun run h => regOk (tyTOk _ _) mixOk h) ?_ nameOk k
  · intro g m hg
    cases hg
  · intro g _ r; rfl
theorem f211_oklaws_toParam : Try.prog.funcs[211]? = some Try.f211 := by kernel_rfl
theorem laws_toParam_law (k : Nat) (a1 : ByteArray × Bool × Unit) (x : ByteArray × Bool × Unit) (h : laws_toParam k a1 = some x) : LawV Try.prog 211 [.tv (.pair .str (.pair .bool .unit)) a1] (tvn (.pair .str (.pair .bool .unit)) x) := by
  unfold laws_toParam at h
  exact law1 (t := (.pair .str (.pair .bool .unit))) (tyTOk _ _) (E_laws_toParam_calls k) mixOk f211_oklaws_toParam (nameOk _ _ f211_oklaws_toParam) (by kernel_rfl) h
/-! laws.toParamS -/
noncomputable def E_laws_toParamS (k : Nat) : Env := ⟨ty, fun g => match g with
  | 211 => some (byVal fun ρ l K => match l with
    | [b1] => (b1.as (.pair .str (.pair .bool .unit))).bind fun c1 => (laws_toParam k c1).bind fun r => K (tvn (.pair .str (.pair .bool .unit)) r)
    | _ => none)
  | 187 => some noCon
  | _ => none, fun f r => match f with | 187 => (match r with | 3 => some [0, 3, 4] | _ => none) | _ => none⟩
noncomputable def laws_toParamS (k : Nat) (a1 : List (ByteArray × Bool × Unit)) : Option (List (ByteArray × Bool × Unit)) :=
  abody (E_laws_toParamS k) (arun Try.prog (E_laws_toParamS k) k) k 187 Try.f187 [.tv (.row (.pair .str (.pair .bool .unit))) a1] [] (fin1 (.row (.pair .str (.pair .bool .unit))))
noncomputable def laws_toParamS.l3 (k n : Nat) (x0 : List (ByteArray × Bool × Unit)) (x4 : Int) (y0 : List (ByteArray × Bool × Unit)) : Option (List (ByteArray × Bool × Unit)) :=
  resume (E_laws_toParamS k) 187 (acall (E_laws_toParamS k) (arun Try.prog (E_laws_toParamS k) k)) k [true, true, false, true, true] [n] (bodyOf Try.f187) ⟨[.tv (.row (.pair .str (.pair .bool .unit))) x0, .undef, .undef, .sl 0, .int .i64 x4, .undef, .undef, .undef, .undef, .undef, .undef, .undef, .undef, .undef, .undef, .undef, .undef, .undef, .undef, .undef, .undef, .undef, .undef], [some ⟨.typed (.pair .str (.pair .bool .unit)) y0, false⟩]⟩ (leave (E_laws_toParamS k) Try.f187 (fin1 (.row (.pair .str (.pair .bool .unit)))))
theorem laws_toParamS.l3_0 (k : Nat) (x0 : List (ByteArray × Bool × Unit)) (x4 : Int) (y0 : List (ByteArray × Bool × Unit)) : laws_toParamS.l3 k 0 x0 x4 y0 = none := by kernel_rfl
theorem laws_toParamS.l3_s (k n : Nat) (x0 : List (ByteArray × Bool × Unit)) (x4 : Int) (y0 : List (ByteArray × Bool × Unit)) : laws_toParamS.l3 k (n + 1) x0 x4 y0 =
  iteB (decide (x4 < ((List.length x0) : Int))) (iteB (decide (0 ≤ x4)) (iteB (decide (x4 < ((List.length x0) : Int))) (bindO (laws_toParam k (List.getD x0 (Int.toNat x4) (Ty.dflt (.pair .str (.pair .bool .unit))))) fun r1 => (iteB (decide (0 ≤ x4)) (iteB (decide (x4 < ((List.length y0) : Int))) (laws_toParamS.l3 k n x0 (IntKind.wrap .i64 (x4 + 1)) (List.set y0 (Int.toNat x4) r1)) (none)) (none))) (none)) (none)) (some y0) := by kernel_rfl
theorem laws_toParamS_e (k : Nat) (a1 : List (ByteArray × Bool × Unit)) : laws_toParamS k a1 =
  iteB (decide (0 ≤ ((List.length a1) : Int))) (iteB (decide (((List.length a1) : Int) ≤ ((List.length a1) : Int))) (iteB (decide (((List.length a1) : Int) * 24 ≤ (lim : Int))) (iteB (decide (((List.length a1) : Int) ≤ (lim : Int)) && true) (laws_toParamS.l3 k k a1 0 (List.replicate (Int.toNat ((List.length a1) : Int)) (Ty.dflt (.pair .str (.pair .bool .unit))))) (none)) (none)) (none)) (none) := by kernel_rfl
theorem E_laws_toParamS_calls (k : Nat) : CallsOk Try.prog (E_laws_toParamS k) (arun Try.prog (E_laws_toParamS k) k) := by
  refine told_run (tyTOk _ _) ?_ (fun run h => regOk (tyTOk _ _) mixOk h) ?_ nameOk k
  · intro g m hg
    simp only [E_laws_toParamS] at hg
    split at hg
    · cases hg
      refine con_byVal fun ρ l K x hm => ?_
      split at hm
      · obtain ⟨c1, h1, hm⟩ := Option.bind_eq_some_iff.1 hm
        obtain ⟨r, hr, hm⟩ := Option.bind_eq_some_iff.1 hm
        exact ⟨_, hm, LawV.reads (.cons (.as h1) .nil) (laws_toParam_law k c1 r hr)⟩
      · cases hm
    · cases hg; exact noCon_ok
    · cases hg
  · intro g hg r
    by_cases h : g = 187
    · subst h; simp [E_laws_toParamS] at hg
    · simp [E_laws_toParamS, h]
theorem f187_oklaws_toParamS : Try.prog.funcs[187]? = some Try.f187 := by kernel_rfl
theorem laws_toParamS_law (k : Nat) (a1 : List (ByteArray × Bool × Unit)) (x : List (ByteArray × Bool × Unit)) (h : laws_toParamS k a1 = some x) : LawV Try.prog 187 [.tv (.row (.pair .str (.pair .bool .unit))) a1] (tvn (.row (.pair .str (.pair .bool .unit))) x) := by
  unfold laws_toParamS at h
  exact law1 (t := (.row (.pair .str (.pair .bool .unit)))) (tyTOk _ _) (E_laws_toParamS_calls k) mixOk f187_oklaws_toParamS (nameOk _ _ f187_oklaws_toParamS) (by kernel_rfl) h
/-! laws.toNode, laws.toNodeS -/
noncomputable def G_laws_toNode (r0 : AM.Node → Option AM.Node) (r1 : (List AM.Node) → Option (List AM.Node)) (k : Nat) : Env := ⟨ty, fun g => match g with
  | 120 => some (byVal fun ρ l K => match l with
    | [b1] => (b1.as (.row .node)).bind fun c1 => (r1 c1).bind fun r => K (tvn (.row .node) r)
    | _ => none)
  | _ => none, fun _ _ => none⟩
noncomputable def G_laws_toNodeS (r0 : AM.Node → Option AM.Node) (r1 : (List AM.Node) → Option (List AM.Node)) (k : Nat) : Env := ⟨ty, fun g => match g with
  | 42 => some (byVal fun ρ l K => match l with
    | [b1] => (b1.as .node).bind fun c1 => (r0 c1).bind fun r => K (tvn .node r)
    | _ => none)
  | 120 => some noCon
  | _ => none, fun f r => match f with | 120 => (match r with | 3 => some [0, 3, 4] | _ => none) | _ => none⟩
noncomputable def grp_laws_toNode : Nat → (AM.Node → Option AM.Node) × ((List AM.Node) → Option (List AM.Node)) := fun k => Nat.rec (motive := fun _ => (AM.Node → Option AM.Node) × ((List AM.Node) → Option (List AM.Node))) (fun _ => none, fun _ => none) (fun k ih => (fun a1 => abody (G_laws_toNode ih.1 ih.2 k) (arun Try.prog (G_laws_toNode ih.1 ih.2 k) k) k 42 Try.f42 [.tv .node a1] [] (fin1 .node), fun a1 => abody (G_laws_toNodeS ih.1 ih.2 k) (arun Try.prog (G_laws_toNodeS ih.1 ih.2 k) k) k 120 Try.f120 [.tv (.row .node) a1] [] (fin1 (.row .node)))) k
noncomputable def E_laws_toNode (k : Nat) : Env := G_laws_toNode (grp_laws_toNode k).1 (grp_laws_toNode k).2 k
noncomputable def laws_toNode (k : Nat) (a1 : AM.Node) : Option (AM.Node) := (grp_laws_toNode k).1 a1
noncomputable def E_laws_toNodeS (k : Nat) : Env := G_laws_toNodeS (grp_laws_toNode k).1 (grp_laws_toNode k).2 k
noncomputable def laws_toNodeS (k : Nat) (a1 : List AM.Node) : Option (List AM.Node) := (grp_laws_toNode k).2 a1
noncomputable def laws_toNodeS.l3 (k n : Nat) (x0 : List AM.Node) (x4 : Int) (y0 : List AM.Node) : Option (List AM.Node) :=
  resume (E_laws_toNodeS k) 120 (acall (E_laws_toNodeS k) (arun Try.prog (E_laws_toNodeS k) k)) k [true, true, false, true, true] [n] (bodyOf Try.f120) ⟨[.tv (.row .node) x0, .undef, .undef, .sl 0, .int .i64 x4, .undef, .undef, .undef, .undef, .undef, .undef, .undef, .undef, .undef, .undef, .undef, .undef, .undef, .undef, .undef, .undef, .undef, .undef], [some ⟨.typed .node y0, false⟩]⟩ (leave (E_laws_toNodeS k) Try.f120 (fin1 (.row .node)))
theorem laws_toNode_0 (a1 : AM.Node) : laws_toNode 0 a1 = none := by kernel_rfl
theorem laws_toNode_e (k : Nat) (a1 : AM.Node) : laws_toNode (k + 1) a1 =
  bindO (laws_toNodeS k (AM.Node.kids a1)) fun r1 => (some (AM.Node.mk (AM.Node.op a1) (AM.Node.s a1) (AM.Node.n a1) r1)) := by kernel_rfl
theorem laws_toNodeS.l3_0 (k : Nat) (x0 : List AM.Node) (x4 : Int) (y0 : List AM.Node) : laws_toNodeS.l3 k 0 x0 x4 y0 = none := by kernel_rfl
theorem laws_toNodeS.l3_s (k n : Nat) (x0 : List AM.Node) (x4 : Int) (y0 : List AM.Node) : laws_toNodeS.l3 k (n + 1) x0 x4 y0 =
  iteB (decide (x4 < ((List.length x0) : Int))) (iteB (decide (0 ≤ x4)) (iteB (decide (x4 < ((List.length x0) : Int))) (bindO (laws_toNode k (List.getD x0 (Int.toNat x4) (Ty.dflt .node))) fun r1 => (iteB (decide (0 ≤ x4)) (iteB (decide (x4 < ((List.length y0) : Int))) (laws_toNodeS.l3 k n x0 (IntKind.wrap .i64 (x4 + 1)) (List.set y0 (Int.toNat x4) r1)) (none)) (none))) (none)) (none)) (some y0) := by kernel_rfl
theorem laws_toNodeS_0 (a1 : List AM.Node) : laws_toNodeS 0 a1 = none := by kernel_rfl
theorem laws_toNodeS_e (k : Nat) (a1 : List AM.Node) : laws_toNodeS (k + 1) a1 =
  iteB (decide (0 ≤ ((List.length a1) : Int))) (iteB (decide (((List.length a1) : Int) ≤ ((List.length a1) : Int))) (iteB (decide (((List.length a1) : Int) * 56 ≤ (lim : Int))) (iteB (decide (((List.length a1) : Int) ≤ (lim : Int)) && true) (laws_toNodeS.l3 k k a1 0 (List.replicate (Int.toNat ((List.length a1) : Int)) (Ty.dflt .node))) (none)) (none)) (none)) (none) := by kernel_rfl
theorem E_laws_toNode_calls (k : Nat) (q0 : ∀ (a1 : AM.Node) (x : AM.Node), laws_toNode k a1 = some x → LawV Try.prog 42 [.tv .node a1] (tvn .node x)) (q1 : ∀ (a1 : List AM.Node) (x : List AM.Node), laws_toNodeS k a1 = some x → LawV Try.prog 120 [.tv (.row .node) a1] (tvn (.row .node) x)) : CallsOk Try.prog (E_laws_toNode k) (arun Try.prog (E_laws_toNode k) k) := by
  refine told_run (tyTOk _ _) ?_ (fun run h => regOk (tyTOk _ _) mixOk h) ?_ nameOk k
  · intro g m hg
    simp only [E_laws_toNode, G_laws_toNode] at hg
    split at hg
    · cases hg
      refine con_byVal fun ρ l K x hm => ?_
      split at hm
      · obtain ⟨c1, h1, hm⟩ := Option.bind_eq_some_iff.1 hm
        obtain ⟨r, hr, hm⟩ := Option.bind_eq_some_iff.1 hm
        exact ⟨_, hm, LawV.reads (.cons (.as h1) .nil) (q1 c1 r hr)⟩
      · cases hm
    · cases hg
  · intro g _ r; rfl
theorem f42_oklaws_toNode : Try.prog.funcs[42]? = some Try.f42 := by kernel_rfl
theorem E_laws_toNodeS_calls (k : Nat) (q0 : ∀ (a1 : AM.Node) (x : AM.Node), laws_toNode k a1 = some x → LawV Try.prog 42 [.tv .node a1] (tvn .node x)) (q1 : ∀ (a1 : List AM.Node) (x : List AM.Node), laws_toNodeS k a1 = some x → LawV Try.prog 120 [.tv (.row .node) a1] (tvn (.row .node) x)) : CallsOk Try.prog (E_laws_toNodeS k) (arun Try.prog (E_laws_toNodeS k) k) := by
  refine told_run (tyTOk _ _) ?_ (fun run h => regOk (tyTOk _ _) mixOk h) ?_ nameOk k
  · intro g m hg
    simp only [E_laws_toNodeS, G_laws_toNodeS] at hg
    split at hg
    · cases hg
      refine con_byVal fun ρ l K x hm => ?_
      split at hm
      · obtain ⟨c1, h1, hm⟩ := Option.bind_eq_some_iff.1 hm
        obtain ⟨r, hr, hm⟩ := Option.bind_eq_some_iff.1 hm
        exact ⟨_, hm, LawV.reads (.cons (.as h1) .nil) (q0 c1 r hr)⟩
      · cases hm
    · cases hg; exact noCon_ok
    · cases hg
  · intro g hg r
    by_cases h : g = 120
    · subst h; simp [E_laws_toNodeS, G_laws_toNodeS] at hg
    · simp [E_laws_toNodeS, G_laws_toNodeS, h]
theorem f120_oklaws_toNodeS : Try.prog.funcs[120]? = some Try.f120 := by kernel_rfl
theorem laws_toNode_u (k : Nat) (a1 : AM.Node) : abody (E_laws_toNode k) (arun Try.prog (E_laws_toNode k) k) k 42 Try.f42 [.tv .node a1] [] (fin1 .node) = laws_toNode (k + 1) a1 := by kernel_rfl
theorem laws_toNodeS_u (k : Nat) (a1 : List AM.Node) : abody (E_laws_toNodeS k) (arun Try.prog (E_laws_toNodeS k) k) k 120 Try.f120 [.tv (.row .node) a1] [] (fin1 (.row .node)) = laws_toNodeS (k + 1) a1 := by kernel_rfl
theorem grp_laws_toNode_law (k : Nat) : (∀ (a1 : AM.Node) (x : AM.Node), laws_toNode k a1 = some x → LawV Try.prog 42 [.tv .node a1] (tvn .node x)) ∧ (∀ (a1 : List AM.Node) (x : List AM.Node), laws_toNodeS k a1 = some x → LawV Try.prog 120 [.tv (.row .node) a1] (tvn (.row .node) x)) := by
  induction k with
  | zero => exact ⟨(fun a1 x h => by rw [laws_toNode_0] at h; cases h), (fun a1 x h => by rw [laws_toNodeS_0] at h; cases h)⟩
  | succ k ih =>
    exact ⟨(fun a1 x h => law1 (t := .node) (tyTOk _ _) (E_laws_toNode_calls k ih.1 ih.2) mixOk f42_oklaws_toNode (nameOk _ _ f42_oklaws_toNode) (by kernel_rfl) ((laws_toNode_u k a1).trans h)), (fun a1 x h => law1 (t := (.row .node)) (tyTOk _ _) (E_laws_toNodeS_calls k ih.1 ih.2) mixOk f120_oklaws_toNodeS (nameOk _ _ f120_oklaws_toNodeS) (by kernel_rfl) ((laws_toNodeS_u k a1).trans h))⟩
theorem laws_toNode_law (k : Nat) (a1 : AM.Node) (x : AM.Node) (h : laws_toNode k a1 = some x) : LawV Try.prog 42 [.tv .node a1] (tvn .node x) := (grp_laws_toNode_law k).1 a1 x h
theorem laws_toNodeS_law (k : Nat) (a1 : List AM.Node) (x : List AM.Node) (h : laws_toNodeS k a1 = some x) : LawV Try.prog 120 [.tv (.row .node) a1] (tvn (.row .node) x) := (grp_laws_toNode_law k).2 a1 x h
/-! laws.toFunc -/
noncomputable def E_laws_toFunc (k : Nat) : Env := ⟨ty, fun g => match g with
  | 187 => some (byVal fun ρ l K => match l with
    | [b1] => (b1.as (.row (.pair .str (.pair .bool .unit)))).bind fun c1 => (laws_toParamS k c1).bind fun r => K (tvn (.row (.pair .str (.pair .bool .unit))) r)
    | _ => none)
  | 42 => some (byVal fun ρ l K => match l with
    | [b1] => (b1.as .node).bind fun c1 => (laws_toNode k c1).bind fun r => K (tvn .node r)
    | _ => none)
  | _ => none, fun _ _ => none⟩
noncomputable def laws_toFunc (k : Nat) (a1 : ByteArray × (List (ByteArray × Bool × Unit)) × AM.Node × Unit) : Option (ByteArray × (List (ByteArray × Bool × Unit)) × AM.Node × Unit) :=
  abody (E_laws_toFunc k) (arun Try.prog (E_laws_toFunc k) k) k 124 Try.f124 [.tv (.pair .str (.pair (.row (.pair .str (.pair .bool .unit))) (.pair .node .unit))) a1] [] (fin1 (.pair .str (.pair (.row (.pair .str (.pair .bool .unit))) (.pair .node .unit))))
theorem laws_toFunc_e (k : Nat) (a1 : ByteArray × (List (ByteArray × Bool × Unit)) × AM.Node × Unit) : laws_toFunc k a1 =
  bindO (laws_toParamS k a1.2.1) fun r1 => (bindO (laws_toNode k (AM.Node.mk (AM.Node.op a1.2.2.1) (AM.Node.s a1.2.2.1) (AM.Node.n a1.2.2.1) (AM.Node.kids a1.2.2.1))) fun r2 => (some (a1.1, r1, AM.Node.mk (AM.Node.op r2) (AM.Node.s r2) (AM.Node.n r2) (AM.Node.kids r2), ()))) := by kernel_rfl
theorem E_laws_toFunc_calls (k : Nat) : CallsOk Try.prog (E_laws_toFunc k) (arun Try.prog (E_laws_toFunc k) k) := by
  refine told_run (tyTOk _ _) ?_ (fun run h => regOk (tyTOk _ _) mixOk h) ?_ nameOk k
  · intro g m hg
    simp only [E_laws_toFunc] at hg
    split at hg
    · cases hg
      refine con_byVal fun ρ l K x hm => ?_
      split at hm
      · obtain ⟨c1, h1, hm⟩ := Option.bind_eq_some_iff.1 hm
        obtain ⟨r, hr, hm⟩ := Option.bind_eq_some_iff.1 hm
        exact ⟨_, hm, LawV.reads (.cons (.as h1) .nil) (laws_toParamS_law k c1 r hr)⟩
      · cases hm
    · cases hg
      refine con_byVal fun ρ l K x hm => ?_
      split at hm
      · obtain ⟨c1, h1, hm⟩ := Option.bind_eq_some_iff.1 hm
        obtain ⟨r, hr, hm⟩ := Option.bind_eq_some_iff.1 hm
        exact ⟨_, hm, LawV.reads (.cons (.as h1) .nil) (laws_toNode_law k c1 r hr)⟩
      · cases hm
    · cases hg
  · intro g _ r; rfl
theorem f124_oklaws_toFunc : Try.prog.funcs[124]? = some Try.f124 := by kernel_rfl
theorem laws_toFunc_law (k : Nat) (a1 : ByteArray × (List (ByteArray × Bool × Unit)) × AM.Node × Unit) (x : ByteArray × (List (ByteArray × Bool × Unit)) × AM.Node × Unit) (h : laws_toFunc k a1 = some x) : LawV Try.prog 124 [.tv (.pair .str (.pair (.row (.pair .str (.pair .bool .unit))) (.pair .node .unit))) a1] (tvn (.pair .str (.pair (.row (.pair .str (.pair .bool .unit))) (.pair .node .unit))) x) := by
  unfold laws_toFunc at h
  exact law1 (t := (.pair .str (.pair (.row (.pair .str (.pair .bool .unit))) (.pair .node .unit)))) (tyTOk _ _) (E_laws_toFunc_calls k) mixOk f124_oklaws_toFunc (nameOk _ _ f124_oklaws_toFunc) (by kernel_rfl) h
end Go.Proofs.Ytapijpjgfpjahaa.XFnExactSize
