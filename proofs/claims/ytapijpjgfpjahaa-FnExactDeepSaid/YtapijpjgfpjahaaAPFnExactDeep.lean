/- What the functions that FnExactDeep runs come to, and that the law's own run comes to true. -/
import Derived.Test.YtapijpjgfpjahaaAL
import Derived.Test.YtapijpjgfpjahaaAMFnExactDeep0
namespace Go.Proofs.Ytapijpjgfpjahaa.Pure
open Go Go.AM Go.AMx Go.Proofs.Ytapijpjgfpjahaa.XFnExactDeep
set_option linter.unusedVariables false
set_option linter.unusedSimpArgs false
/-! Trees: their conversion, their size, their sameness. -/
/-- Rows no longer than the bound, all the way down. -/
inductive Fit : AM.Node → Prop
  | mk (o : Int) (s : ByteArray) (n : Int) (kids : List AM.Node) : kids.length ≤ 1048576 → (∀ y ∈ kids, Fit y) → Fit (.mk o s n kids)
theorem toNodeS_ev (l : List AM.Node) (hl : l.length ≤ 1048576) (h : ∀ y ∈ l, Ev fun k => laws_toNode k y = some y) : Ev fun k => laws_toNodeS k l = some l := by
  refine Ev.succ ((Ev.all h).two (Ev.gt l.length) fun k h1 h2 => ?_)
  have c1 : (l.length : Int) * 56 ≤ (lim : Int) := by unfold lim; omega
  rw [laws_toNodeS_e, iteB_pos (by omega), iteB_pos (by omega), iteB_pos c1]
  have h3 : (decide ((l.length : Int) ≤ (lim : Int)) && true) = true := by rw [Bool.and_true]; exact decide_eq_true (by unfold lim; omega)
  rw [h3, iteB_true]
  have e : ((l.length : Int)).toNat = l.length := by omega
  rw [e]
  have := fill_all (α := AM.Node) (β := AM.Node) l (Ty.dflt .node) (Ty.dflt .node) (fun x => x) (fun n x i => laws_toNodeS.l3 k n l i x) (by
    intro n x i g0 g1 g2
    show laws_toNodeS.l3 k (n + 1) l i x = _
    rw [laws_toNodeS.l3_s, iteB_pos g1, iteB_pos g0, iteB_pos g1, h1 _ (getD_mem l (Ty.dflt .node) g0 g1), bindO_some, iteB_pos g0, iteB_pos g2, next_i g0 g1 (by omega)]) (by
    intro n x i g
    show laws_toNodeS.l3 k (n + 1) l i x = _
    rw [laws_toNodeS.l3_s, iteB_neg (by omega)]) k h2
  rw [this]; simp
theorem toNode_ev (x : AM.Node) (hx : Fit x) : Ev fun k => laws_toNode k x = some x := by
  induction x using Node.ind with
  | h o s n kids ih =>
    cases hx with
    | mk _ _ _ _ hl hk =>
      refine Ev.succ ((toNodeS_ev kids hl fun y hy => ih y hy (hk y hy)).mono fun k h => ?_)
      rw [laws_toNode_e]
      show bindO (laws_toNodeS k kids) _ = _
      rw [h, bindO_some]
      rfl
theorem szNode_ev (x : AM.Node) (hx : NodeWf x) : ∀ left : Int, 0 ≤ left → left ≤ 1048576 → ∃ r : Int, (Ev fun k => laws_szNode k x left = some r) ∧ r ≤ left ∧ (0 ≤ r → Fit x) := by
  induction x using Node.ind with
  | h o s n kids ih =>
    intro left h0 h1
    cases hx with
    | mk _ _ _ _ wo ws wn wl wk =>
      have hs : s.size ≤ 9223372036854775807 := by simpa [maxLen] using ws
      have hl : kids.length ≤ 9223372036854775807 := by simpa [maxLen] using wl
      have e1 : IntKind.wrap .i64 (left - (s.size : Int)) = left - s.size := wrap_id (by omega) (by omega)
      by_cases c1 : left - (s.size : Int) < 0
      · refine ⟨-1, Ev.succ (Ev.of fun k => ?_), by omega, fun h => by omega⟩
        rw [laws_szNode_e]
        show iteB (decide (IntKind.wrap .i64 (left - (s.size : Int)) < 0)) _ _ = _
        rw [e1, iteB_pos c1]
      · have key : ∃ r : Int, (Ev fun k => laws_szNodeS k kids (left - s.size) = some r) ∧ r ≤ left - s.size ∧ (0 ≤ r → kids.length ≤ 1048576 ∧ ∀ y ∈ kids, Fit y) := by
          have e2 : IntKind.wrap .i64 (left - s.size - (kids.length : Int)) = left - s.size - kids.length := wrap_id (by omega) (by omega)
          by_cases c2 : left - s.size - (kids.length : Int) < 0
          · exact ⟨-1, Ev.succ (Ev.of fun k => by rw [laws_szNodeS_e, e2, iteB_pos c2]), by omega, fun h => by omega⟩
          · -- one by one
            have loop : ∀ (m : Nat) (i : Int) (lf : Int), 0 ≤ i → (kids.length : Int) - i = m → 0 ≤ lf → lf ≤ 1048576 →
                ∃ r : Int, (Ev fun k => ∀ q, m < q → laws_szNodeS.l5 k q kids lf i = some r) ∧ r ≤ lf ∧ (0 ≤ r → ∀ y ∈ kids.drop i.toNat, Fit y) := by
              intro m
              induction m with
              | zero =>
                intro i lf hi hm hlf hlf2
                refine ⟨lf, Ev.of fun k q hq => ?_, by omega, fun _ y hy => ?_⟩
                · obtain ⟨q, rfl⟩ : ∃ p, q = p + 1 := ⟨q - 1, by omega⟩
                  rw [laws_szNodeS.l5_s, iteB_neg (by omega)]
                · rw [List.drop_eq_nil_of_le (by omega)] at hy; simp at hy
              | succ m ihm =>
                intro i lf hi hm hlf hlf2
                have hlt : i < (kids.length : Int) := by omega
                have hmem := getD_mem kids (Ty.dflt .node) hi hlt
                obtain ⟨r1, ev1, le1, fit1⟩ := ih _ hmem (wk _ hmem) lf hlf hlf2
                by_cases c3 : r1 < 0
                · refine ⟨-1, ev1.mono fun k hk q hq => ?_, by omega, fun h => by omega⟩
                  obtain ⟨q, rfl⟩ : ∃ p, q = p + 1 := ⟨q - 1, by omega⟩
                  rw [laws_szNodeS.l5_s, iteB_pos hlt, iteB_pos hi, iteB_pos hlt, hk, bindO_some, iteB_pos c3]
                · obtain ⟨r, ev, le, fit⟩ := ihm (i + 1) r1 (by omega) (by omega) (by omega) (by omega)
                  refine ⟨r, ev1.two ev fun k hk hk2 q hq => ?_, by omega, fun hr y hy => ?_⟩
                  · obtain ⟨q, rfl⟩ : ∃ p, q = p + 1 := ⟨q - 1, by omega⟩
                    rw [laws_szNodeS.l5_s, iteB_pos hlt, iteB_pos hi, iteB_pos hlt, hk, bindO_some, iteB_neg c3, next_i hi hlt hl, hk2 q (by omega)]
                  · rw [drop_at (α := AM.Node) kids (Ty.dflt .node) i hi hlt] at hy
                    rcases List.mem_cons.1 hy with rfl | hy
                    · exact fit1 (by omega)
                    · exact fit hr y hy
            obtain ⟨r, ev, le, fit⟩ := loop kids.length 0 (left - s.size - kids.length) (by omega) (by omega) (by omega) (by omega)
            refine ⟨r, Ev.succ (ev.two (Ev.gt kids.length) fun k hk hk2 => ?_), by omega, fun hr => ⟨by omega, fun y hy => fit hr y (by simpa using hy)⟩⟩
            rw [laws_szNodeS_e, e2, iteB_neg c2, hk k hk2]
        obtain ⟨r, ev, le, fit⟩ := key
        refine ⟨if r < 0 then -1 else r, Ev.succ (ev.mono fun k hk => ?_), by split <;> omega, fun hr => ?_⟩
        · rw [laws_szNode_e]
          show iteB (decide (IntKind.wrap .i64 (left - (s.size : Int)) < 0)) (some (-1)) (bindO (laws_szNodeS k kids (IntKind.wrap .i64 (left - (s.size : Int)))) fun r1 => iteB (decide (r1 < 0)) (some (-1)) (some r1)) = _
          rw [e1, iteB_neg c1, hk, bindO_some]
          by_cases c4 : r < 0
          · rw [iteB_pos c4, if_pos c4]
          · rw [iteB_neg c4, if_neg c4]
        · have : ¬ r < 0 := fun h => by rw [if_pos h] at hr; omega
          obtain ⟨a, b⟩ := fit (by omega)
          exact .mk _ _ _ _ a b
theorem eqNode_ev (x : AM.Node) (hx : Fit x) : Ev fun k => laws_eqNode k x x = some true := by
  induction x using Node.ind with
  | h o s n kids ih =>
    cases hx with
    | mk _ _ _ _ hl hk =>
      have hS : Ev fun k => laws_eqNodeS k kids kids = some true := by
        refine Ev.succ ((Ev.all fun y hy => ih y hy (hk y hy)).two (Ev.gt kids.length) fun k h1 h2 => ?_)
        rw [laws_eqNodeS_e]
        have : (((kids.length : Int)) != ((kids.length : Int))) = false := by simp
        rw [this, iteB_false, loop_all (α := AM.Node) kids (Ty.dflt .node) (fun n i => laws_eqNodeS.l4 k n kids kids i) (fun _ x r => bif (fun _ => true) x then r else some false) (some true) (by
          intro n i g0 g1
          show laws_eqNodeS.l4 k (n + 1) kids kids i = _
          rw [laws_eqNodeS.l4_s, iteB_pos g1, iteB_pos g0, iteB_pos g1, iteB_pos g0, iteB_pos g1, h1 _ (getD_mem kids (Ty.dflt .node) g0 g1), bindO_some, next_i g0 g1 (by omega)]
          rfl) (by
          intro n i g
          show laws_eqNodeS.l4 k (n + 1) kids kids i = _
          rw [laws_eqNodeS.l4_s, iteB_neg (by omega)]) k h2, run_all]
        simp
      refine Ev.succ (hS.mono fun k h => ?_)
      rw [laws_eqNode_e]
      show iteB (o != o) _ (iteB (!(s.toList == s.toList)) _ (iteB (n != n) _ (bindO (laws_eqNodeS k kids kids) _))) = _
      have a1 : (o != o) = false := by simp
      have a2 : (n != n) = false := by simp
      have a3 : (!(s.toList == s.toList)) = false := by simp
      rw [a1, a2, a3, iteB_false, iteB_false, iteB_false, h]
      rfl

/-! How deep. -/
/-- The rest of a row's greatest depth. -/
def deepest (d : AM.Node → Int) : List AM.Node → Int → Int
  | [], m => m
  | x :: r, m => deepest d r (mx m (d x))
theorem deep_ev (x : AM.Node) (hx : Fit x) : ∃ v : Int, (Ev fun k => spec_Deep k x = some v) ∧ (Ev fun k => impl_Deep k x = some v) := by
  induction x using Node.ind with
  | h o s n kids ih =>
    cases hx with
    | mk _ _ _ _ hl hk =>
      have one : ∀ (m : Nat) (i : Int) (d : Int), 0 ≤ i → (kids.length : Int) - i = m → ∃ v : Int, (Ev fun k => ∀ q, m < q → spec_Deep.l3 k q d i (.mk o s n kids) = some v) ∧ (Ev fun k => ∀ q, m < q → impl_Deep.l3 k q d kids (kids.length : Int) i = some v) := by
        intro m
        induction m with
        | zero =>
          intro i d hi hm
          refine ⟨IntKind.wrap .i64 (d + 1), Ev.of fun k q hq => ?_, Ev.of fun k q hq => ?_⟩
          · obtain ⟨q, rfl⟩ : ∃ p, q = p + 1 := ⟨q - 1, by omega⟩
            rw [spec_Deep.l3_s]
            show iteB (decide (i < (kids.length : Int))) _ _ = _
            rw [iteB_neg (by omega)]
          · obtain ⟨q, rfl⟩ : ∃ p, q = p + 1 := ⟨q - 1, by omega⟩
            rw [impl_Deep.l3_s, iteB_neg (by omega)]
        | succ m ihm =>
          intro i d hi hm
          have hlt : i < (kids.length : Int) := by omega
          have hmem := getD_mem kids (Ty.dflt .node) hi hlt
          obtain ⟨w, ev1, ev2⟩ := ih _ hmem (hk _ hmem)
          obtain ⟨v, ev3, ev4⟩ := ihm (i + 1) (mx d w) (by omega) (by omega)
          refine ⟨v, ev1.two ev3 fun k a b q hq => ?_, ev2.two ev4 fun k a b q hq => ?_⟩
          · obtain ⟨q, rfl⟩ : ∃ p, q = p + 1 := ⟨q - 1, by omega⟩
            rw [spec_Deep.l3_s]
            show iteB (decide (i < (kids.length : Int))) (iteB _ (iteB (decide (i < (kids.length : Int))) (bindO (spec_Deep k (kids.getD i.toNat (Ty.dflt .node))) _) _) _) _ = _
            have hmax : spec_l1Max k d w = some (mx d w) := by
              rw [spec_l1Max_e]
              by_cases c : d > w
              · rw [iteB_pos c]; unfold mx; rw [decide_eq_false (by omega)]; rfl
              · rw [iteB_neg c]; unfold mx
                by_cases c2 : w > d
                · rw [decide_eq_true c2]; rfl
                · rw [decide_eq_false c2]; simp; omega
            rw [iteB_pos hlt, iteB_pos hi, iteB_pos hlt, a, bindO_some, hmax, bindO_some, next_i hi hlt (by omega), b q (by omega)]
          · obtain ⟨q, rfl⟩ : ∃ p, q = p + 1 := ⟨q - 1, by omega⟩
            rw [impl_Deep.l3_s, iteB_pos hlt, iteB_pos hi, iteB_pos hlt, a, bindO_some, next_i hi hlt (by omega), b q (by omega)]
      obtain ⟨v, ev1, ev2⟩ := one kids.length 0 0 (by omega) (by omega)
      refine ⟨v, Ev.succ (ev1.two (Ev.gt kids.length) fun k a b => ?_), Ev.succ (ev2.two (Ev.gt kids.length) fun k a b => ?_)⟩
      · rw [spec_Deep_e]; exact a k b
      · rw [impl_Deep_e]; exact a k b
theorem FnExactDeep : ∀ (x0 : AM.Node), WfT .node x0 → ∃ k, laws_FnExactDeep k x0 = some true := by
  intro x hx
  refine Ev.get ?_
  obtain ⟨r, ev, le, fit⟩ := szNode_ev x hx 1048576 (by omega) (by omega)
  by_cases c : r < 0
  · exact ev.mono fun k h => by rw [laws_FnExactDeep_e, h, bindO_some, iteB_pos c]
  · have hf := fit (by omega)
    obtain ⟨v, ev1, ev2⟩ := deep_ev x hf
    refine (ev.and (toNode_ev x hf)).two ((ev1.and ev2).and (eqNode_ev x hf)) fun k h1 h2 => ?_
    obtain ⟨a1, a2⟩ := h1
    obtain ⟨⟨a3, a4⟩, a5⟩ := h2
    have a6 : (v != v) = false := by simp
    rw [laws_FnExactDeep_e, a1, bindO_some, iteB_neg c, a2, bindO_some, a3, bindO_some, bindO_some, a4, bindO_some, a6, iteB_false, bindO_some, a5]
    rfl

end Go.Proofs.Ytapijpjgfpjahaa.Pure
