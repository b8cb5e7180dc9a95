/- What the functions that FnExactSize runs come to, and that the law's own run comes to true. -/
import Derived.Test.YtapijpjgfpjahaaAC
import Derived.Test.YtapijpjgfpjahaaAMFnExactSize0
import Derived.Test.YtapijpjgfpjahaaAMFnExactSize1
import Derived.Test.YtapijpjgfpjahaaAMFnExactSize2
namespace Go.Proofs.Ytapijpjgfpjahaa.Pure
open Go Go.AM Go.AMx Go.Proofs.Ytapijpjgfpjahaa.XFnExactSize
set_option linter.unusedVariables false
set_option linter.unusedSimpArgs false
/-! Trees: their size, their copy, their sameness. -/
theorem szNode_ok : SzOk .node laws_szNode := by
  intro x
  change AM.Node at x
  intro hx
  induction x using Node.ind with
  | h o s n kids ih =>
    intro left h0 h1
    cases hx with
    | mk _ _ _ _ wo ws wn wl wk =>
      have hS : ∀ lf, 0 ≤ lf → lf ≤ 1048576 → SzE (fun k => laws_szNodeS k kids lf) lf (kids.length ≤ 1048576 ∧ ∀ y ∈ kids, Fit y) := fun lf g0 g1 =>
        SzE.succ (fun k => laws_szNodeS_e k kids lf) (SzE.sub (G := fun k r => laws_szNodeS.l5 k k kids r 0) g0 g1 wl fun r p q =>
          sz_part kids (fun y m w => ih y m w) wk wl (fun k n lf i => laws_szNodeS.l5_s k n kids lf i) r p (by omega))
      exact (SzE.succ (fun k => laws_szNode_e k (.mk o s n kids) left) (SzE.sub (n := s.size) (G := fun k r => bindO (laws_szNodeS k kids r) fun r1 => iteB (decide (r1 < 0)) (some (-1)) (some r1)) h0 h1 ws fun r p q =>
        SzE.call p (hS r p (by omega)) fun r1 p1 q1 => SzE.done (Int.le_refl _))).to fun h => .mk _ _ _ _ h.2.1.1 h.2.1.2
theorem toNode_ok : ToOk .node laws_toNode := by
  intro x
  change AM.Node at x
  intro hx
  induction x using Node.ind with
  | h o s n kids ih =>
    cases hx with
    | mk _ _ _ _ hl hk =>
      have hS : Ev fun k => laws_toNodeS k kids = some kids := by
        refine Ev.succ ((to_part kids hl (fun y m => ih y m (hk y m)) (fun k n i ys => laws_toNodeS.l3_s k n kids i ys) (Ty.dflt .node)).mono fun k h => ?_)
        have c1 : (kids.length : Int) * 56 ≤ (lim : Int) := by unfold lim; omega
        have c2 : (decide ((kids.length : Int) ≤ (lim : Int)) && true) = true := by rw [Bool.and_true]; exact decide_eq_true (by unfold lim; omega)
        rw [laws_toNodeS_e, iteB_pos (by omega), iteB_pos (by omega), iteB_pos c1, c2, iteB_true, h]
      refine Ev.succ (hS.mono fun k h => ?_)
      rw [laws_toNode_e]
      show bindO (laws_toNodeS k kids) _ = _
      rw [h, bindO_some]
      rfl
theorem eqNode_ok : EqOk .node laws_eqNode := by
  intro x
  change AM.Node at x
  intro hx
  induction x using Node.ind with
  | h o s n kids ih =>
    cases hx with
    | mk _ _ _ _ hl hk =>
      have hS : Ev fun k => laws_eqNodeS k kids kids = some true := by
        refine Ev.succ ((eq_part kids hl (fun y m => ih y m (hk y m)) (fun k n i => laws_eqNodeS.l4_s k n kids kids i)).mono fun k h => ?_)
        have : (((kids.length : Int)) != ((kids.length : Int))) = false := by simp
        rw [laws_eqNodeS_e, this, iteB_false, h]
      refine Ev.succ (hS.mono fun k h => ?_)
      rw [laws_eqNode_e]
      show iteB (o != o) _ (iteB (!(s.toList == s.toList)) _ (iteB (n != n) _ (bindO (laws_eqNodeS k kids kids) _))) = _
      have a1 : (o != o) = false := by simp
      have a2 : (n != n) = false := by simp
      have a3 : (!(s.toList == s.toList)) = false := by simp
      rw [a1, a2, a3, iteB_false, iteB_false, iteB_false, h]
      rfl

theorem szParam_ok : SzOk (.pair .str (.pair .bool .unit)) laws_szParam := fun (a1 : ByteArray × Bool × Unit) (hx : WfT (.pair .str (.pair .bool .unit)) a1) a2 h0 h1 => ((SzE.sub (n := ByteArray.size a1.1) (G := fun k r => some (r)) h0 h1 hx.1 fun r0_ p0_ q0_ => SzE.done (Int.le_refl _)).to fun h => ⟨h.1, trivial, trivial⟩).eq fun k => laws_szParam_e k a1 a2
theorem szParamS_ok : SzOk (.row (.pair .str (.pair .bool .unit))) laws_szParamS := sz_row (α := (ByteArray × Bool × Unit)) (W := WfT (.pair .str (.pair .bool .unit))) (F := FitT (.pair .str (.pair .bool .unit))) (d := (Ty.dflt (.pair .str (.pair .bool .unit)))) (S := laws_szParamS) (L := laws_szParamS.l5) (f := laws_szParam) szParam_ok laws_szParamS.l5_s laws_szParamS_e
theorem laws_szFunc_n (k : Nat) (a1 : ByteArray × (List (ByteArray × Bool × Unit)) × AM.Node × Unit) (a2 : Int) : laws_szFunc k a1 a2 =
  iteB (decide (IntKind.wrap .i64 (a2 - (ByteArray.size a1.1 : Int)) < 0)) (some (-1)) (bindO (laws_szParamS k a1.2.1 (IntKind.wrap .i64 (a2 - (ByteArray.size a1.1 : Int)))) fun r1 => (iteB (decide (r1 < 0)) (some (-1)) (bindO (laws_szNode k a1.2.2.1 r1) fun r2 => (iteB (decide (r2 < 0)) (some (-1)) (some r2))))) := by rw [laws_szFunc_e]; simp only [AM.Node.eta]
theorem szFunc_ok : SzOk (.pair .str (.pair (.row (.pair .str (.pair .bool .unit))) (.pair .node .unit))) laws_szFunc := fun (a1 : ByteArray × (List (ByteArray × Bool × Unit)) × AM.Node × Unit) (hx : WfT (.pair .str (.pair (.row (.pair .str (.pair .bool .unit))) (.pair .node .unit))) a1) a2 h0 h1 => ((SzE.sub (n := ByteArray.size a1.1) (G := fun k r => bindO (laws_szParamS k a1.2.1 (r)) fun r1 => (iteB (decide (r1 < 0)) (some (-1)) (bindO (laws_szNode k a1.2.2.1 r1) fun r2 => (iteB (decide (r2 < 0)) (some (-1)) (some r2))))) h0 h1 hx.1 fun r0_ p0_ q0_ => SzE.call p0_ (szParamS_ok a1.2.1 hx.2.1 _ p0_ (by omega)) fun r1 p1_ q1_ => SzE.call p1_ (szNode_ok a1.2.2.1 hx.2.2.1 _ p1_ (by omega)) fun r2 p2_ q2_ => SzE.done (Int.le_refl _)).to fun h => ⟨h.1, h.2.1, h.2.2.1, trivial⟩).eq fun k => laws_szFunc_n k a1 a2
theorem szFuncS_ok : SzOk (.row (.pair .str (.pair (.row (.pair .str (.pair .bool .unit))) (.pair .node .unit)))) laws_szFuncS := sz_row (α := (ByteArray × (List (ByteArray × Bool × Unit)) × AM.Node × Unit)) (W := WfT (.pair .str (.pair (.row (.pair .str (.pair .bool .unit))) (.pair .node .unit)))) (F := FitT (.pair .str (.pair (.row (.pair .str (.pair .bool .unit))) (.pair .node .unit)))) (d := (Ty.dflt (.pair .str (.pair (.row (.pair .str (.pair .bool .unit))) (.pair .node .unit))))) (S := laws_szFuncS) (L := laws_szFuncS.l5) (f := laws_szFunc) szFunc_ok laws_szFuncS.l5_s laws_szFuncS_e
theorem toParam_ok : ToOk (.pair .str (.pair .bool .unit)) laws_toParam := fun (a1 : ByteArray × Bool × Unit) (hx : FitT (.pair .str (.pair .bool .unit)) a1) => (show Ev fun k => (some (a1.1, a1.2.1, ())) = some a1 from Ev.of fun _ => rfl).mono fun k h => (laws_toParam_e k a1).trans h
theorem toParamS_ok : ToOk (.row (.pair .str (.pair .bool .unit))) laws_toParamS := to_row (α := (ByteArray × Bool × Unit)) (c := 24) (F := FitT (.pair .str (.pair .bool .unit))) (d := (Ty.dflt (.pair .str (.pair .bool .unit)))) (d' := (Ty.dflt (.pair .str (.pair .bool .unit)))) (S := laws_toParamS) (L := laws_toParamS.l3) (f := laws_toParam) toParam_ok laws_toParamS.l3_s laws_toParamS_e (by decide)
theorem laws_toFunc_n (k : Nat) (a1 : ByteArray × (List (ByteArray × Bool × Unit)) × AM.Node × Unit) : laws_toFunc k a1 =
  bindO (laws_toParamS k a1.2.1) fun r1 => (bindO (laws_toNode k a1.2.2.1) fun r2 => (some (a1.1, r1, r2, ()))) := by rw [laws_toFunc_e]; simp only [AM.Node.eta]
theorem toFunc_ok : ToOk (.pair .str (.pair (.row (.pair .str (.pair .bool .unit))) (.pair .node .unit))) laws_toFunc := fun (a1 : ByteArray × (List (ByteArray × Bool × Unit)) × AM.Node × Unit) (hx : FitT (.pair .str (.pair (.row (.pair .str (.pair .bool .unit))) (.pair .node .unit))) a1) => (show Ev fun k => (bindO (laws_toParamS k a1.2.1) fun r1 => (bindO (laws_toNode k a1.2.2.1) fun r2 => (some (a1.1, r1, r2, ())))) = some a1 from To.call (toParamS_ok a1.2.1 hx.2.1) (To.call (toNode_ok a1.2.2.1 hx.2.2.1) (Ev.of fun _ => rfl))).mono fun k h => (laws_toFunc_n k a1).trans h
theorem toFuncS_ok : ToOk (.row (.pair .str (.pair (.row (.pair .str (.pair .bool .unit))) (.pair .node .unit)))) laws_toFuncS := to_row (α := (ByteArray × (List (ByteArray × Bool × Unit)) × AM.Node × Unit)) (c := 96) (F := FitT (.pair .str (.pair (.row (.pair .str (.pair .bool .unit))) (.pair .node .unit)))) (d := (Ty.dflt (.pair .str (.pair (.row (.pair .str (.pair .bool .unit))) (.pair .node .unit))))) (d' := (Ty.dflt (.pair .str (.pair (.row (.pair .str (.pair .bool .unit))) (.pair .node .unit))))) (S := laws_toFuncS) (L := laws_toFuncS.l3) (f := laws_toFunc) toFunc_ok laws_toFuncS.l3_s laws_toFuncS_e (by decide)
theorem eqParam_ok : EqOk (.pair .str (.pair .bool .unit)) laws_eqParam := fun (a1 : ByteArray × Bool × Unit) (hx : FitT (.pair .str (.pair .bool .unit)) a1) => EqE.eq (fun k => laws_eqParam_e k a1 a1) (EqE.word (by simp) (EqE.word (by simp) (EqE.done)))
theorem eqParamS_ok : EqOk (.row (.pair .str (.pair .bool .unit))) laws_eqParamS := eq_row (α := (ByteArray × Bool × Unit)) (F := FitT (.pair .str (.pair .bool .unit))) (d := (Ty.dflt (.pair .str (.pair .bool .unit)))) (S := laws_eqParamS) (L := laws_eqParamS.l4) (f := laws_eqParam) eqParam_ok laws_eqParamS.l4_s laws_eqParamS_e
theorem laws_eqFunc_n (k : Nat) (a1 : ByteArray × (List (ByteArray × Bool × Unit)) × AM.Node × Unit) (a2 : ByteArray × (List (ByteArray × Bool × Unit)) × AM.Node × Unit) : laws_eqFunc k a1 a2 =
  iteB (!(ByteArray.toList a1.1 == ByteArray.toList a2.1)) (some false) (bindO (laws_eqParamS k a1.2.1 a2.2.1) fun r1 => (iteB (!r1) (some false) (bindO (laws_eqNode k a1.2.2.1 a2.2.2.1) fun r2 => (iteB (!r2) (some false) (some true))))) := by rw [laws_eqFunc_e]; simp only [AM.Node.eta]
theorem eqFunc_ok : EqOk (.pair .str (.pair (.row (.pair .str (.pair .bool .unit))) (.pair .node .unit))) laws_eqFunc := fun (a1 : ByteArray × (List (ByteArray × Bool × Unit)) × AM.Node × Unit) (hx : FitT (.pair .str (.pair (.row (.pair .str (.pair .bool .unit))) (.pair .node .unit))) a1) => EqE.eq (fun k => laws_eqFunc_n k a1 a1) (EqE.word (by simp) (EqE.call (eqParamS_ok a1.2.1 hx.2.1) (EqE.call (eqNode_ok a1.2.2.1 hx.2.2.1) (EqE.done))))
theorem eqFuncS_ok : EqOk (.row (.pair .str (.pair (.row (.pair .str (.pair .bool .unit))) (.pair .node .unit)))) laws_eqFuncS := eq_row (α := (ByteArray × (List (ByteArray × Bool × Unit)) × AM.Node × Unit)) (F := FitT (.pair .str (.pair (.row (.pair .str (.pair .bool .unit))) (.pair .node .unit)))) (d := (Ty.dflt (.pair .str (.pair (.row (.pair .str (.pair .bool .unit))) (.pair .node .unit))))) (S := laws_eqFuncS) (L := laws_eqFuncS.l4) (f := laws_eqFunc) eqFunc_ok laws_eqFuncS.l4_s laws_eqFuncS_e

/-! How many nodes. -/
theorem nodes_ev (x : AM.Node) (hx : Fit x) : ∃ v : Int, (Ev fun k => spec_l6Size k x = some v) ∧ (Ev fun k => impl_nodes k x = some v) := by
  induction x using Node.ind with
  | h o s n kids ih =>
    cases hx with
    | mk _ _ _ _ hl hk =>
      obtain ⟨p, hp⟩ := pick_fn fun y hy => ih y hy (hk y hy)
      refine ⟨kids.foldl (fun s x => IntKind.wrap .i64 (s + p x)) 1, Ev.succ ?_, Ev.succ ?_⟩
      · refine (fold_rounds (ρ := Int) kids (Ty.dflt .node) (f := spec_l6Size) (g := fun s r => IntKind.wrap .i64 (s + r)) (e := some) (L := fun k m a i => spec_l6Size.l3 k m a i (.mk o s n kids)) (fun y hy => (hp y hy).1) (fun k m a i h0 h1 => ?_) (fun k m a i h => ?_) 1).mono fun k h => (spec_l6Size_e k _).trans h
        · show spec_l6Size.l3 k (m + 1) a i (.mk o s n kids) = _
          rw [spec_l6Size.l3_s]
          show iteB (decide (i < (kids.length : Int))) (iteB _ (iteB (decide (i < (kids.length : Int))) (bindO (spec_l6Size k (kids.getD i.toNat (Ty.dflt .node))) _) _) _) _ = _
          rw [iteB_pos h1, iteB_pos h0, iteB_pos h1, next_i h0 h1 (by omega)]
        · show spec_l6Size.l3 k (m + 1) a i (.mk o s n kids) = _
          rw [spec_l6Size.l3_s]
          show iteB (decide (i < (kids.length : Int))) _ _ = _
          rw [iteB_neg (by omega)]
      · refine (fold_rounds (ρ := Int) kids (Ty.dflt .node) (f := impl_nodes) (g := fun s r => IntKind.wrap .i64 (s + r)) (e := some) (L := fun k m a i => impl_nodes.l3 k m a kids (kids.length : Int) i) (fun y hy => (hp y hy).2) (fun k m a i h0 h1 => ?_) (fun k m a i h => ?_) 1).mono fun k h => (impl_nodes_e k _).trans h
        · show impl_nodes.l3 k (m + 1) a kids (kids.length : Int) i = _
          rw [impl_nodes.l3_s, iteB_pos h1, iteB_pos h0, iteB_pos h1, next_i h0 h1 (by omega)]
        · show impl_nodes.l3 k (m + 1) a kids (kids.length : Int) i = _
          rw [impl_nodes.l3_s, iteB_neg (by omega)]
abbrev TF : Type := ByteArray × (List (ByteArray × Bool × Unit)) × AM.Node × Unit
theorem size_ev (xs : List TF) (hl : xs.length ≤ 1048576) (hx : ∀ x ∈ xs, Fit x.2.2.1) : ∃ v : Int, (Ev fun k => spec_Size k xs = some v) ∧ (Ev fun k => impl_Size k xs = some v) := by
  obtain ⟨p, hp⟩ := pick_fn fun x m => nodes_ev x.2.2.1 (hx x m)
  refine ⟨xs.foldl (fun s x => IntKind.wrap .i64 (s + p x)) 0, ?_, ?_⟩
  · refine (fold_rounds (ρ := Int) xs (Ty.dflt (.pair .str (.pair (.row (.pair .str (.pair .bool .unit))) (.pair .node .unit)))) (f := fun k x => spec_l6Size k x.2.2.1) (g := fun s r => IntKind.wrap .i64 (s + r)) (e := some) (L := fun k m a i => spec_Size.l3 k m xs a i) (fun y hy => (hp y hy).1) (fun k m a i h0 h1 => ?_) (fun k m a i h => ?_) 0).mono fun k h => (spec_Size_e k _).trans h
    · show spec_Size.l3 k (m + 1) xs a i = _
      rw [spec_Size.l3_s, iteB_pos h1, iteB_pos h0, iteB_pos h1, next_i h0 h1 (by omega)]
    · show spec_Size.l3 k (m + 1) xs a i = _
      rw [spec_Size.l3_s, iteB_neg (by omega)]
  · refine (fold_rounds (ρ := Int) xs (Ty.dflt (.pair .str (.pair (.row (.pair .str (.pair .bool .unit))) (.pair .node .unit)))) (f := fun k x => impl_nodes k x.2.2.1) (g := fun s r => IntKind.wrap .i64 (s + r)) (e := some) (L := fun k m a i => impl_Size.l3 k m a xs (xs.length : Int) i) (fun y hy => (hp y hy).2) (fun k m a i h0 h1 => ?_) (fun k m a i h => ?_) 0).mono fun k h => (impl_Size_e k _).trans h
    · show impl_Size.l3 k (m + 1) a xs (xs.length : Int) i = _
      rw [impl_Size.l3_s, iteB_pos h1, iteB_pos h0, iteB_pos h1, next_i h0 h1 (by omega)]
      simp only [AM.Node.eta]
    · show impl_Size.l3 k (m + 1) a xs (xs.length : Int) i = _
      rw [impl_Size.l3_s, iteB_neg (by omega)]
theorem FnExactSize : ∀ (x0 : List TF), WfT (.row (.pair .str (.pair (.row (.pair .str (.pair .bool .unit))) (.pair .node .unit)))) x0 → ∃ k, laws_FnExactSize k x0 = some true := by
  intro x hx
  refine Ev.get ?_
  obtain ⟨r, ev, le, fit⟩ := szFuncS_ok x hx 1048576 (by omega) (by omega)
  by_cases c : r < 0
  · exact ev.mono fun k h => by
      replace h : laws_szFuncS k x 1048576 = some r := h
      rw [laws_FnExactSize_e, h, bindO_some, iteB_pos c]
  · have hf := fit (by omega)
    obtain ⟨v, ev1, ev2⟩ := size_ev x hf.1 fun y m => (hf.2 y m).2.2.1
    refine (ev.and (toFuncS_ok x hf)).two ((ev1.and ev2).and (eqFuncS_ok x hf)) fun k h1 h2 => ?_
    obtain ⟨a1, a2⟩ := h1
    obtain ⟨⟨a3, a4⟩, a5⟩ := h2
    have a6 : (v != v) = false := by simp
    replace a1 : laws_szFuncS k x 1048576 = some r := a1
    rw [laws_FnExactSize_e, a1, bindO_some, iteB_neg c, a2, bindO_some, a3, bindO_some, bindO_some, a4, bindO_some, a6, iteB_false, bindO_some, a5]
    rfl

end Go.Proofs.Ytapijpjgfpjahaa.Pure
