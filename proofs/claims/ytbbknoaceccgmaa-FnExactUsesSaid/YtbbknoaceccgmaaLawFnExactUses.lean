-- Written by wip/xprint, a program of this session over the kit's print. Lean checks it.
import Derived.Test.YtbbknoaceccgmaaRows
import Derived.Test.YtbbknoaceccgmaaXFnExactUsesx6
import Derived.Test.YtbbknoaceccgmaaOpen
import Derived.Test.YtbbknoaceccgmaaPureFnExactUses
import Derived.WalkKit
import Derived.ProofKit
import Derived.OpenShut
import Derived.ShutString
import Derived.ChangeOld
import Derived.Below
import Derived.SizedLaws
import Derived.Carry
namespace Go.Proofs.Ytbbknoaceccgmaa.fnExactUses
open Go.ChangeShapes Go.WideShapes Go.ChangeAt Go.RowKit Go.Proofs.Ytbbknoaceccgmaa.XFnExactUses Go.Proofs.Ytbbknoaceccgmaa.Open Go.Proofs.YtbbknoaceccgmaaW.PrintWords
open Go.ChangeMaps (open_string shut_string)
set_option linter.unusedVariables false
theorem own : ownKnob Try.prog.godebug = none := by kernel_rfl
theorem laidOut : laidOutB Try.prog = true := by kernel_rfl
theorem opens_k76 {H : Type} {enc : TypeId × Value → H} {w : World} {spare : Nat → Bool} {held : Bool} (n : Nat) : OpensAt enc Try.prog w spare held n k76 76 wf76 :=
  opens_mono (fun _ h => h) (opens_iso (g := (fun p => ⟨p.1, p.2.1, p.2.2.1, p.2.2.2.1, p.2.2.2.2.1, p.2.2.2.2.2.1, p.2.2.2.2.2.2⟩)) (fun _ => rfl) (opens_struct Try.underlying76 (by kernel_rfl) (fun m hm => (opens_cons rfl (by kernel_rfl) (opens_int Try.underlying3 m) (opens_cons rfl (by kernel_rfl) (opens_int Try.underlying3 m) (opens_cons rfl (by kernel_rfl) (opens_int Try.underlying3 m) (opens_cons rfl (by kernel_rfl) (opens_int Try.underlying3 m) (opens_cons rfl (by kernel_rfl) (opens_int Try.underlying3 m) (opens_cons rfl (by kernel_rfl) (opens_string Try.underlying9 m) (opens_one rfl (by kernel_rfl) (opens_slice Try.underlying22 (by kernel_rfl) (fun mq1_ _ => (opens_int Try.underlying3 mq1_)))))))))))))
set_option maxRecDepth 100000 in
theorem lifted (os : Os) (started : os.Started) (H : Type) (enc : TypeId × Value → H) :
    ReturnsInHanded {} Try.checked os 13 .any (Rows.fnExactUsesSpec.pre6 enc Try.prog Try.f13 Rows.fnExactUsesRow.domain false) (Rows.fnExactUsesSpec.post enc Try.prog Try.f13 false true false false) := by
  refine returnsInHanded_of_change_sized (C := Try.checked) own started (by kernel_rfl) Try.func13
    (ChangeSpec.witness6 (enc := enc) (C := Try.checked) false ⟨#[], #[.agg #[.int .i64 0, .int .i64 0, .int .i64 0, .int .i64 0, .int .i64 0, .string ByteArray.empty, .slice none 0 0]], []⟩ 12 (by kernel_rfl) (by kernel_rfl) (by kernel_rfl) (by kernel_rfl)) ?_
  intro W base args ds gs before hval0 hW hcnd hsz0 _
  have hval : ∀ (j : Nat) t v, Try.f13.params[j]? = some t → args[j]? = some v → Value.okWide Try.prog W .any base t v := hval0
  have hW' := hW
  obtain ⟨p, q, hA0, hV, rfl, hfz, hnd⟩ := hW
  have hA : DataW.TrodAll enc Try.prog W 0 (fun _ => true) true Try.f13.params.toList args.toList ds p := hA0
  rw [Try.params13] at hA hval
  obtain ⟨v0, vs0, d0, ds0, p0, q0, hargs, rfl, rfl, h0, r0⟩ := trodAll_cons hA
  obtain ⟨rfl, rfl, rfl⟩ := trodAll_nil r0
  obtain rfl : args = #[v0] := by cases args; simp_all
  obtain ⟨rfl, rfl⟩ := trodVars_none hV
  have k0 := h0
  have lt0 : ∀ x ∈ p0, x.block < W.heap.size := by obtain ⟨m, hm⟩ := k0; exact DataW.trod_lt m _ _ _ hm
  obtain ⟨m0, hm0⟩ := h0
  obtain ⟨x0, hK0, w0⟩ := (opens_k76 m0) _ _ hm0
  obtain ⟨A0_6, c0_6, e0, hc0_6, hr0_6⟩ := k76_open hK0
  obtain ⟨cs0, rfl⟩ : ∃ cs, v0 = .agg cs := by have hv_ := (hval 0 76 v0 rfl rfl); simp only [Value.okWide, Try.underlying76] at hv_; obtain ⟨cs, hcs, _⟩ := hv_; exact ⟨cs, hcs⟩
  obtain rfl : cs0 = #[.int .i64 x0.f0, .int .i64 x0.f1, .int .i64 x0.f2, .int .i64 x0.f3, .int .i64 x0.f4, .string x0.f5, .slice A0_6 x0.f6.length c0_6] := by have he_ : cs0.toList = _ := e0; cases cs0; simp_all
  clear hA0 hval0 hsz0
  obtain ⟨k, hk⟩ := Pure.FnExactUses x0.f0 x0.f1 x0.f2 x0.f3 x0.f4 x0.f5 x0.f6 w0.1 w0.2.1 w0.2.2.1 w0.2.2.2.1 w0.2.2.2.2.1 w0.2.2.2.2.2.1 w0.2.2.2.2.2.2
  refine (laws_FnExactUses.calls k x0.f0 x0.f1 x0.f2 x0.f3 x0.f4 x0.f5 _ _ x0.f6 true W hr0_6 hc0_6 hk).mono fun e W' ⟨he, hd⟩ => ?_
  have bel : Below W.heap.size W W' := hd
  subst he
  exact ⟨_, rfl, _, _, _, [], _, [], hW', trodAll_mk1 (shut_bool Try.underlying4 _), (trodAll_cons_mk (Below.trod laidOut (by kernel_rfl) (of_decide_eq_true (by kernel_rfl)) k0 bel lt0) trodAll_mk0), rfl, bel.frame _, fun h => by cases h⟩
theorem over : Rows.fnExactUsesRow.holds Try.pinned (OpenSpec.ofChange Rows.fnExactUsesSpec) :=
  OpenClaim.holds_of_wide 13 Try.f13 rfl rfl rfl rfl rfl rfl rfl ⟨rfl, rfl, rfl, rfl, rfl⟩ rfl rfl rfl rfl rfl (by kernel_rfl) Try.func13 (by kernel_rfl)
    (of_decide_eq_true (by kernel_rfl)) (by unfold Func.isWrapper; first | (rw [if_pos (by decide +kernel)]; kernel_rfl) | (rw [if_neg (by decide +kernel)]; exact ⟨rfl, rfl⟩))
    (fun os started H enc _ => lifted os started H enc)
theorem proved : Rows.FnExactUsesSaid := over
#print axioms proved
end Go.Proofs.Ytbbknoaceccgmaa.fnExactUses
namespace Go.Proofs.Ytbbknoaceccgmaa
/-- The row, under a short name, for the claim. -/
theorem fnExactUses_holds : Rows.FnExactUsesSaid := fnExactUses.proved
end Go.Proofs.Ytbbknoaceccgmaa
