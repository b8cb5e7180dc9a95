-- Written by wip/xprint, a program of this session over the kit's print. Lean checks it.
import Derived.Test.YtbbknoaceccgmaaRows
import Derived.Test.YtbbknoaceccgmaaXFnExactChanOkx4
import Derived.Test.YtbbknoaceccgmaaOpen
import Derived.Test.YtbbknoaceccgmaaPureFnExactChanOk
import Derived.WalkKit
import Derived.ProofKit
import Derived.OpenShut
import Derived.ShutString
import Derived.ChangeOld
import Derived.Below
import Derived.SizedLaws
import Derived.Carry
namespace Go.Proofs.Ytbbknoaceccgmaa.fnExactChanOk
open Go.ChangeShapes Go.WideShapes Go.ChangeAt Go.RowKit Go.Proofs.Ytbbknoaceccgmaa.XFnExactChanOk Go.Proofs.Ytbbknoaceccgmaa.Open Go.Proofs.YtbbknoaceccgmaaW.PrintWords
open Go.ChangeMaps (open_string shut_string)
set_option linter.unusedVariables false
theorem own : ownKnob Try.prog.godebug = none := by kernel_rfl
theorem laidOut : laidOutB Try.prog = true := by kernel_rfl
theorem opens_k58 {H : Type} {enc : TypeId × Value → H} {w : World} {spare : Nat → Bool} {held : Bool} (n : Nat) : OpensAt enc Try.prog w spare held n k58 58 wf58 :=
  opens_mono (fun _ h => h) (opens_iso (g := (fun p => ⟨p.1, p.2.1, p.2.2.1, p.2.2.2⟩)) (fun _ => rfl) (opens_struct Try.underlying58 (by kernel_rfl) (fun m hm => (opens_cons rfl (by kernel_rfl) (opens_int Try.underlying3 m) (opens_cons rfl (by kernel_rfl) (opens_int Try.underlying3 m) (opens_cons rfl (by kernel_rfl) (opens_int Try.underlying3 m) (opens_one rfl (by kernel_rfl) (opens_int Try.underlying3 m))))))))
theorem opens_k85 {H : Type} {enc : TypeId × Value → H} {w : World} {spare : Nat → Bool} {held : Bool} (n : Nat) : OpensAt enc Try.prog w spare held n k85 85 wf85 :=
  opens_mono (fun _ h => h) (opens_iso (g := (fun p => ⟨p.1, p.2.1, p.2.2.1, p.2.2.2.1, p.2.2.2.2⟩)) (fun _ => rfl) (opens_struct Try.underlying85 (by kernel_rfl) (fun m hm => (opens_cons rfl (by kernel_rfl) (opens_int Try.underlying3 m) (opens_cons rfl (by kernel_rfl) (opens_bool Try.underlying4 m) (opens_cons rfl (by kernel_rfl) (opens_slice Try.underlying22 (by kernel_rfl) (fun mq1_ _ => (opens_int Try.underlying3 mq1_))) (opens_cons rfl (by kernel_rfl) (opens_slice Try.underlying48 (by kernel_rfl) (fun mq1_ _ => (opens_k58 mq1_))) (opens_one rfl (by kernel_rfl) (opens_slice Try.underlying48 (by kernel_rfl) (fun mq1_ _ => (opens_k58 mq1_)))))))))))
set_option maxRecDepth 100000 in
theorem lifted (os : Os) (started : os.Started) (H : Type) (enc : TypeId × Value → H) :
    ReturnsInHanded {} Try.checked os 11 .any (Rows.fnExactChanOkSpec.pre6 enc Try.prog Try.f11 Rows.fnExactChanOkRow.domain false) (Rows.fnExactChanOkSpec.post enc Try.prog Try.f11 false true false false) := by
  refine returnsInHanded_of_change_sized (C := Try.checked) own started (by kernel_rfl) Try.func11
    (ChangeSpec.witness6 (enc := enc) (C := Try.checked) false ⟨#[], #[.agg #[.int .i64 0, .bool false, .slice none 0 0, .slice none 0 0, .slice none 0 0]], []⟩ 12 (by kernel_rfl) (by kernel_rfl) (by kernel_rfl) (by kernel_rfl)) ?_
  intro W base args ds gs before hval0 hW hcnd hsz0 _
  have hval : ∀ (j : Nat) t v, Try.f11.params[j]? = some t → args[j]? = some v → Value.okWide Try.prog W .any base t v := hval0
  have hW' := hW
  obtain ⟨p, q, hA0, hV, rfl, hfz, hnd⟩ := hW
  have hA : DataW.TrodAll enc Try.prog W 0 (fun _ => true) true Try.f11.params.toList args.toList ds p := hA0
  rw [Try.params11] at hA hval
  obtain ⟨v0, vs0, d0, ds0, p0, q0, hargs, rfl, rfl, h0, r0⟩ := trodAll_cons hA
  obtain ⟨rfl, rfl, rfl⟩ := trodAll_nil r0
  obtain rfl : args = #[v0] := by cases args; simp_all
  obtain ⟨rfl, rfl⟩ := trodVars_none hV
  have k0 := h0
  have lt0 : ∀ x ∈ p0, x.block < W.heap.size := by obtain ⟨m, hm⟩ := k0; exact DataW.trod_lt m _ _ _ hm
  obtain ⟨m0, hm0⟩ := h0
  obtain ⟨x0, hK0, w0⟩ := (opens_k85 m0) _ _ hm0
  obtain ⟨A0_2, c0_2, A0_3, c0_3, A0_4, c0_4, e0, hc0_2, hr0_2, hc0_3, hr0_3, hc0_4, hr0_4⟩ := k85_open hK0
  obtain ⟨cs0, rfl⟩ : ∃ cs, v0 = .agg cs := by have hv_ := (hval 0 85 v0 rfl rfl); simp only [Value.okWide, Try.underlying85] at hv_; obtain ⟨cs, hcs, _⟩ := hv_; exact ⟨cs, hcs⟩
  obtain rfl : cs0 = #[.int .i64 x0.f0, .bool x0.f1, .slice A0_2 x0.f2.length c0_2, .slice A0_3 x0.f3.length c0_3, .slice A0_4 x0.f4.length c0_4] := by have he_ : cs0.toList = _ := e0; cases cs0; simp_all
  clear hA0 hval0 hsz0
  obtain ⟨k, hk⟩ := Pure.FnExactChanOk x0.f0 x0.f1 x0.f2 x0.f3 x0.f4 w0.1 w0.2.2.1 w0.2.2.2.1 w0.2.2.2.2
  refine (laws_FnExactChanOk.calls k x0.f0 x0.f1 _ _ x0.f2 _ _ x0.f3 _ _ x0.f4 true W hr0_2 hc0_2 hr0_3 hc0_3 hr0_4 hc0_4 hk).mono fun e W' ⟨he, hd⟩ => ?_
  have bel : Below W.heap.size W W' := hd
  subst he
  exact ⟨_, rfl, _, _, _, [], _, [], hW', trodAll_mk1 (shut_bool Try.underlying4 _), (trodAll_cons_mk (Below.trod laidOut (by kernel_rfl) (of_decide_eq_true (by kernel_rfl)) k0 bel lt0) trodAll_mk0), rfl, bel.frame _, fun h => by cases h⟩
theorem over : Rows.fnExactChanOkRow.holds Try.pinned (OpenSpec.ofChange Rows.fnExactChanOkSpec) :=
  OpenClaim.holds_of_wide 11 Try.f11 rfl rfl rfl rfl rfl rfl rfl ⟨rfl, rfl, rfl, rfl, rfl⟩ rfl rfl rfl rfl rfl (by kernel_rfl) Try.func11 (by kernel_rfl)
    (of_decide_eq_true (by kernel_rfl)) (by unfold Func.isWrapper; first | (rw [if_pos (by decide +kernel)]; kernel_rfl) | (rw [if_neg (by decide +kernel)]; exact ⟨rfl, rfl⟩))
    (fun os started H enc _ => lifted os started H enc)
theorem proved : Rows.FnExactChanOkSaid := over
#print axioms proved
end Go.Proofs.Ytbbknoaceccgmaa.fnExactChanOk
namespace Go.Proofs.Ytbbknoaceccgmaa
/-- The row, under a short name, for the claim. -/
theorem fnExactChanOk_holds : Rows.FnExactChanOkSaid := fnExactChanOk.proved
end Go.Proofs.Ytbbknoaceccgmaa
