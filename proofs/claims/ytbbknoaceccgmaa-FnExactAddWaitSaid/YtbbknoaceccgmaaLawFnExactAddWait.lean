-- Written by wip/xprint, a program of this session over the kit's print. Lean checks it.
import Derived.Test.YtbbknoaceccgmaaRows
import Derived.Test.YtbbknoaceccgmaaXFnExactAddWaitx4
import Derived.Test.YtbbknoaceccgmaaOpen
import Derived.Test.YtbbknoaceccgmaaPureFnExactAddWait
import Derived.WalkKit
import Derived.ProofKit
import Derived.OpenShut
import Derived.ShutString
import Derived.ChangeOld
import Derived.Below
import Derived.SizedLaws
import Derived.Carry
namespace Go.Proofs.Ytbbknoaceccgmaa.fnExactAddWait
open Go.ChangeShapes Go.WideShapes Go.ChangeAt Go.RowKit Go.Proofs.Ytbbknoaceccgmaa.XFnExactAddWait Go.Proofs.Ytbbknoaceccgmaa.Open Go.Proofs.YtbbknoaceccgmaaW.PrintWords
open Go.ChangeMaps (open_string shut_string)
set_option linter.unusedVariables false
theorem own : ownKnob Try.prog.godebug = none := by kernel_rfl
theorem laidOut : laidOutB Try.prog = true := by kernel_rfl
theorem opens_k58 {H : Type} {enc : TypeId × Value → H} {w : World} {spare : Nat → Bool} {held : Bool} (n : Nat) : OpensAt enc Try.prog w spare held n k58 58 wf58 :=
  opens_mono (fun _ h => h) (opens_iso (g := (fun p => ⟨p.1, p.2.1, p.2.2.1, p.2.2.2⟩)) (fun _ => rfl) (opens_struct Try.underlying58 (by kernel_rfl) (fun m hm => (opens_cons rfl (by kernel_rfl) (opens_int Try.underlying3 m) (opens_cons rfl (by kernel_rfl) (opens_int Try.underlying3 m) (opens_cons rfl (by kernel_rfl) (opens_int Try.underlying3 m) (opens_one rfl (by kernel_rfl) (opens_int Try.underlying3 m))))))))
set_option maxRecDepth 100000 in
theorem lifted (os : Os) (started : os.Started) (H : Type) (enc : TypeId × Value → H) :
    ReturnsInHanded {} Try.checked os 7 .any (Rows.fnExactAddWaitSpec.pre6 enc Try.prog Try.f7 Rows.fnExactAddWaitRow.domain false) (Rows.fnExactAddWaitSpec.post enc Try.prog Try.f7 false true false false) := by
  refine returnsInHanded_of_change_sized (C := Try.checked) own started (by kernel_rfl) Try.func7
    (ChangeSpec.witness6 (enc := enc) (C := Try.checked) false ⟨#[], #[.slice none 0 0, .agg #[.int .i64 0, .int .i64 0, .int .i64 0, .int .i64 0]], []⟩ 12 (by kernel_rfl) (by kernel_rfl) (by kernel_rfl) (by kernel_rfl)) ?_
  intro W base args ds gs before hval0 hW hcnd hsz0 _
  have hval : ∀ (j : Nat) t v, Try.f7.params[j]? = some t → args[j]? = some v → Value.okWide Try.prog W .any base t v := hval0
  have hW' := hW
  obtain ⟨p, q, hA0, hV, rfl, hfz, hnd⟩ := hW
  have hA : DataW.TrodAll enc Try.prog W 0 (fun _ => true) true Try.f7.params.toList args.toList ds p := hA0
  rw [Try.params7] at hA hval
  obtain ⟨v0, vs0, d0, ds0, p0, q0, hargs, rfl, rfl, h0, r0⟩ := trodAll_cons hA
  obtain ⟨v1, vs1, d1, ds1, p1, q1, rfl, rfl, rfl, h1, r1⟩ := trodAll_cons r0
  obtain ⟨rfl, rfl, rfl⟩ := trodAll_nil r1
  obtain rfl : args = #[v0, v1] := by cases args; simp_all
  obtain ⟨rfl, rfl⟩ := trodVars_none hV
  have k0 := h0
  have lt0 : ∀ x ∈ p0, x.block < W.heap.size := by obtain ⟨m, hm⟩ := k0; exact DataW.trod_lt m _ _ _ hm
  obtain ⟨A0, len0, cap0, rfl⟩ := okWide_slice Try.underlying48 (hval 0 48 v0 rfl rfl)
  obtain ⟨m0, hm0⟩ := h0
  obtain ⟨l0, ⟨A0', c0', e0, hc0, hr0⟩, w0⟩ := (show OpensAt enc Try.prog W (fun _ => true) true m0 (Kd.slice 58 k58) 48 _ from (opens_slice Try.underlying48 (by kernel_rfl) (fun mq2_ _ => (opens_k58 mq2_)))) _ _ hm0
  obtain ⟨rfl, rfl, rfl⟩ : A0' = A0 ∧ l0.length = len0 ∧ c0' = cap0 := by simp [Value.cells] at e0; exact ⟨e0.1.symm, e0.2.1.symm, e0.2.2.symm⟩
  have k1 := h1
  have lt1 : ∀ x ∈ p1, x.block < W.heap.size := by obtain ⟨m, hm⟩ := k1; exact DataW.trod_lt m _ _ _ hm
  obtain ⟨m1, hm1⟩ := h1
  obtain ⟨x1, hK1, w1⟩ := (opens_k58 m1) _ _ hm1
  obtain e1 := k58_open hK1
  obtain ⟨cs1, rfl⟩ : ∃ cs, v1 = .agg cs := by have hv_ := (hval 1 58 v1 rfl rfl); simp only [Value.okWide, Try.underlying58] at hv_; obtain ⟨cs, hcs, _⟩ := hv_; exact ⟨cs, hcs⟩
  obtain rfl : cs1 = #[.int .i64 x1.f0, .int .i64 x1.f1, .int .i64 x1.f2, .int .i64 x1.f3] := by have he_ : cs1.toList = _ := e1; cases cs1; simp_all
  clear hA0 hval0 hsz0
  obtain ⟨k, hk⟩ := Pure.FnExactAddWait l0 x1.f0 x1.f1 x1.f2 x1.f3 w0 w1.1 w1.2.1 w1.2.2.1 w1.2.2.2
  refine (laws_FnExactAddWait.calls k _ _ l0 x1.f0 x1.f1 x1.f2 x1.f3 true W hr0 hc0 hk).mono fun e W' ⟨he, hd⟩ => ?_
  have bel : Below W.heap.size W W' := hd
  subst he
  exact ⟨_, rfl, _, _, _, [], _, [], hW', trodAll_mk1 (shut_bool Try.underlying4 _), (trodAll_cons_mk (Below.trod laidOut (by kernel_rfl) (of_decide_eq_true (by kernel_rfl)) k0 bel lt0) (trodAll_cons_mk (Below.trod laidOut (by kernel_rfl) (of_decide_eq_true (by kernel_rfl)) k1 bel lt1) trodAll_mk0)), rfl, bel.frame _, fun h => by cases h⟩
theorem over : Rows.fnExactAddWaitRow.holds Try.pinned (OpenSpec.ofChange Rows.fnExactAddWaitSpec) :=
  OpenClaim.holds_of_wide 7 Try.f7 rfl rfl rfl rfl rfl rfl rfl ⟨rfl, rfl, rfl, rfl, rfl⟩ rfl rfl rfl rfl rfl (by kernel_rfl) Try.func7 (by kernel_rfl)
    (of_decide_eq_true (by kernel_rfl)) (by unfold Func.isWrapper; first | (rw [if_pos (by decide +kernel)]; kernel_rfl) | (rw [if_neg (by decide +kernel)]; exact ⟨rfl, rfl⟩))
    (fun os started H enc _ => lifted os started H enc)
theorem proved : Rows.FnExactAddWaitSaid := over
#print axioms proved
end Go.Proofs.Ytbbknoaceccgmaa.fnExactAddWait
namespace Go.Proofs.Ytbbknoaceccgmaa
/-- The row, under a short name, for the claim. -/
theorem fnExactAddWait_holds : Rows.FnExactAddWaitSaid := fnExactAddWait.proved
end Go.Proofs.Ytbbknoaceccgmaa
