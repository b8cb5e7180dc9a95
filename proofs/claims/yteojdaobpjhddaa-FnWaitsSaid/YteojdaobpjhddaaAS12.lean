/- An interpreter of the model's code over values that are told, and its soundness. -/
import Derived.Test.YteojdaobpjhddaaAS11
namespace Go.AM

/-! Soundness: cuts. -/
section
variable {ρ : Type} {P : Program} {E : Env} {s : List AV} {h : Heap} {o : Oper} {x : ρ}

/-- A cut of a slice. -/
theorem run_cut {t e : TypeId} (hu : P.underlying t = some (.slice e)) {size : Nat} (hsz : ∀ w, (sizeOf e).run P w = .ok size w) {ac : Act} {y : Operand} {lo hi mx : Option Operand} (ho : o.op = .slice t y lo hi mx) {A : Option Addr} {len cap a b m : Nat}
    (hy : ac.eval y = .slice A len cap) (w : World) (hb : (Instr.sliceBounds true len cap (lo.map ac.eval) (hi.map ac.eval) (mx.map ac.eval)).run P w = .ok (a, b, m) w) :
    (execOp ac.eval o).run P w = .ok (.value (.slice (if m = a then A else A.map (·.add (a * size))) (b - a) (m - a))) w := by
  simp [execOp, ho, hy, Instr.sliceAt, Instr.slice, run_underlying hu, hb, hsz]

theorem isZero_some {v : Option AV} (hz : isZero v = true) : ∃ k, v = some (.int k 0) := by
  unfold isZero at hz
  split at hz
  · exact ⟨_, rfl⟩
  · cases hz

theorem lenOf_rep {c : Ctx} {a : AV} {n : Nat} {v : Value} (hl : lenOf h a = some n) (hr : VRep c a v) : ∃ A m k, v = .slice A m k := by
  unfold lenOf at hl
  split at hl
  · simp only [VRep, slRep] at hr; exact hr.1
  · simp only [VRep, ssRep] at hr; exact hr.1
  · simp only [VRep, TRep, Ty.isAgg, Bool.false_eq_true, if_false, CellsRep] at hr
    obtain ⟨v', hv, A, cap, rfl, _⟩ := hr
    simp only [List.cons.injEq, and_true] at hv
    exact ⟨_, _, _, hv⟩
  · simp only [VRep] at hr; obtain ⟨A, hA⟩ := hr; exact ⟨_, _, _, hA⟩
  · cases hl

theorem VRep.row {c : Ctx} {e : Ty} {xs : List e.C} {v : Value} (hr : VRep c (.tv (.row e) xs) v) : RowG c.pr c.w e.size (CellsRep c.pr c.w e) xs v := by
  simp only [VRep, TRep, Ty.isAgg, Bool.false_eq_true, if_false, CellsRep] at hr
  obtain ⟨v', hv, h⟩ := hr
  simp only [List.cons.injEq, and_true] at hv
  subst hv; exact h

theorem VRep.of_row {c : Ctx} {e : Ty} {xs : List e.C} {v : Value} (h : RowG c.pr c.w e.size (CellsRep c.pr c.w e) xs v) : VRep c (.tv (.row e) xs) v := by
  simp only [VRep, TRep, Ty.isAgg, Bool.false_eq_true, if_false, CellsRep]
  exact ⟨v, rfl, h⟩

theorem RowG.cut {pr : Nat → Prop} {w : World} {size : Nat} {α : Type} {R : α → List Value → Prop} {xs : List α} {A : Option Addr} {cap a b : Nat} (hr : RowG pr w size R xs (.slice A xs.length cap)) (hab : a ≤ b) (hb : b ≤ xs.length) :
    RowG pr w size R (List.take (b - a) (List.drop a xs)) (.slice (if cap = a then A else A.map (·.add (a * size))) (b - a) (cap - a)) := by
  obtain ⟨A', cap', hv, hle, hnone, hx⟩ := hr
  cases hv
  have hlen : (List.take (b - a) (List.drop a xs)).length = b - a := by simp; omega
  refine ⟨_, cap - a, by rw [hlen], by omega, ?_, ?_⟩
  · intro hn
    by_cases hca : cap = a
    · omega
    · rw [if_neg hca] at hn
      cases A with
      | none => have := hnone rfl; omega
      | some A => cases hn
  · intro hne
    have hpos : 0 < b - a := by rw [← hlen]; exact List.length_pos_iff.2 hne
    obtain ⟨bl, off, hA, hp, hcells⟩ := hx (by rintro rfl; simp at hb; omega)
    subst hA
    rw [if_neg (by omega)]
    refine ⟨bl, off + a * size, by simp [add_none], hp, fun i y hi => ?_⟩
    rw [List.getElem?_take] at hi
    split at hi
    · rw [List.getElem?_drop] at hi
      obtain ⟨vs, h1, h2, h3⟩ := hcells _ y hi
      refine ⟨vs, h1, ?_, h3⟩
      rwa [Nat.add_mul, ← Nat.add_assoc] at h2
    · cases hi

theorem told_slice (hT : TOk P E) {t : TypeId} {y : Operand} {lo hi mx : Option Operand} (ho : o.op = .slice t y lo hi mx) {K : AV → Heap → Bool → Option ρ}
    (hk : aslice E t (aeval s y) (lo.map (aeval s)) (hi.map (aeval s)) (mx.map (aeval s)) h K = some x) : Told P s h o K x := by
  have vint : ∀ {c : Ctx} {ac : Act}, Slots c s ac → ∀ (y : Operand) (k : IntKind) (n : Int), aeval s y = .int k n → ac.eval y = .int k n := fun hsl y k n hy => by
    have := hsl.eval y; rw [hy] at this; exact this.int
  generalize hya : aeval s y = a at hk
  unfold aslice at hk
  split at hk
  · rename_i t' b hkt
    cases mx with
    | some m => simp at hk
    | none =>
      simp only [Option.map_none, Option.isNone_none, cond_true] at hk
      obtain ⟨i, j, hK, hij, hj, g1, g2, g3, g4⟩ := bounds_ok hk
      refine told_pure hK fun c ac hs hsl => ⟨.string (b.extract i j), ?_, by simp only [VRep]⟩
      have hr := hsl.eval y; rw [hya] at hr
      have hbd := run_bounds (P := P) hsl false (lo := lo) (hi := hi) (.inr ⟨rfl, rfl⟩) hij hj g1 g2 g3 g4 c.w
      simp [execOp, ho, hr.str, Instr.sliceAt, Instr.slice, run_underlying (hT.str hkt), hbd]
  · rename_i t' e hkt
    have hu := hT.slice hkt
    cases hte : E.ty e with
    | none => simp [hte] at hk
    | some te =>
    simp only [hte, Option.isNone_some, cond_false] at hk
    have hesz := fun w => (hT.is hte).size w
    by_cases hz : isZero (mx.map (aeval s)) = true
    · simp only [hz, cond_true] at hk
      by_cases hb : ((lo.map (aeval s)).isNone && isZero (hi.map (aeval s))) = true
      · simp only [hb, cond_true] at hk
        simp only [Bool.and_eq_true] at hb
        split at hk
        · rename_i n hn
          obtain ⟨km, hm⟩ := isZero_some hz
          obtain ⟨kh, hh⟩ := isZero_some hb.2
          cases mx with
          | none => simp at hm
          | some m =>
            cases hi with
            | none => simp at hh
            | some hi =>
              cases lo with
              | some l => simp at hb
              | none =>
                simp only [Option.map_some, Option.some.injEq] at hm hh
                refine told_pure hk fun c ac hs hsl => ?_
                have hr := hsl.eval y; rw [hya] at hr
                obtain ⟨A, len, cap, hv⟩ := lenOf_rep hn hr
                have em := vint hsl m _ _ hm
                have eh := vint hsl hi _ _ hh
                have hbd : (Instr.sliceBounds true len cap ((none : Option Operand).map ac.eval) ((some hi).map ac.eval) ((some m).map ac.eval)).run P c.w = .ok (0, 0, 0) c.w := by
                  simp [Instr.sliceBounds, Instr.sliceBound, asIntOf, em, eh]
                refine ⟨.slice A 0 0, ?_, by simp only [VRep]; exact ⟨A, rfl⟩⟩
                have := run_cut hu hesz ho hv c.w hbd
                simpa using this
        · cases hk
      · simp only [Bool.not_eq_true] at hb; simp only [hb, cond_false, reduceCtorEq] at hk
    · simp only [Bool.not_eq_true] at hz
      simp only [hz, cond_false] at hk
      cases mx with
      | some m => simp at hk
      | none =>
        simp only [Option.map_none, Option.isNone_none, cond_true] at hk
        split at hk
        · rename_i id
          split at hk
          · rename_i ob hob
            cases hf : fits E t (.sl id) h with
            | false => simp [hf] at hk
            | true =>
              simp only [hf, cond_true] at hk
              obtain ⟨e', ti, es, hkt', hti, hes, hts⟩ := fits_some hf
              rw [hkt] at hkt'; cases hkt'
              have hes' : ob.c.es = es := by simpa [esOf, hob] using hes
              have hsz := fun w => (hT.is hti).size w
              obtain ⟨i, j, hK, hij, hj, g1, g2, g3, g4⟩ := bounds_ok hk
              refine told_pure hK fun c ac hs hsl => ?_
              have hr := hsl.eval y; rw [hya] at hr
              simp only [VRep, slRep] at hr
              obtain ⟨inf, hi', hr⟩ := hr.2.resolve_left (hs.alive hob)
              have rep := hs.rep hob hi'
              have hlen := rep.len
              have hese := rep.es
              rcases hr with ⟨hl, cap, n, hv, hle, hb, hbn, _⟩ | ⟨hl, h0, A, hv⟩
              · have hbd := run_bounds (P := P) hsl true (lo := lo) (hi := hi) (len := inf.len) (cap := cap) (.inl hle) hij (by omega) g1 (fun h => by have := g2 h; omega) g3 g4 c.w
                refine ⟨_, run_cut hu hsz ho hv c.w hbd, ?_⟩
                simp only [VRep, ssRep]
                refine ⟨⟨_, _, _, rfl⟩, .inr ⟨inf, hi', by omega, ?_⟩⟩
                by_cases hca : cap = i
                · exact .inr ⟨by omega, _, by rw [show j - i = 0 by omega, show cap - i = 0 by omega]⟩
                · refine .inl ⟨hl, cap - i, n, ?_, by omega, hb, by rw [show i + (cap - i) = cap by omega]; exact hbn⟩
                  rw [if_neg hca, Option.map_some, add_none, hese, hes', hts]
              · have hbd := run_bounds (P := P) hsl true (lo := lo) (hi := hi) (len := 0) (cap := 0) (.inl (Nat.le_refl _)) hij (by omega) g1 (fun h => by have := g2 h; omega) g3 g4 c.w
                refine ⟨_, run_cut hu hsz ho hv c.w hbd, ?_⟩
                simp only [VRep, ssRep]
                exact ⟨⟨_, _, _, rfl⟩, .inr ⟨inf, hi', by omega, .inr ⟨by omega, _, by rw [show j - i = 0 by omega, show 0 - i = 0 by omega]⟩⟩⟩
          · cases hk
        · rename_i id off n
          cases hf : fits E t (.ss id off n) h with
          | false => simp [hf] at hk
          | true =>
            simp only [hf, cond_true] at hk
            obtain ⟨e', ti, es, hkt', hti, hes, hts⟩ := fits_some hf
            rw [hkt] at hkt'; cases hkt'
            simp only [esOf, Option.map_eq_some_iff] at hes
            obtain ⟨ob, hob, hes'⟩ := hes
            have hsz := fun w => (hT.is hti).size w
            obtain ⟨i, j, hK, hij, hj, g1, g2, g3, g4⟩ := bounds_ok hk
            refine told_pure hK fun c ac hs hsl => ?_
            have hr := hsl.eval y; rw [hya] at hr
            simp only [VRep, ssRep] at hr
            obtain ⟨inf, hi', hon, hr⟩ := hr.2.resolve_left (hs.alive hob)
            have rep := hs.rep hob hi'
            have hese := rep.es
            rcases hr with ⟨hl, cap, m, hv, hle, hb, hbn⟩ | ⟨h0, A, hv⟩
            · have hbd := run_bounds (P := P) hsl true (lo := lo) (hi := hi) (len := n) (cap := cap) (.inl hle) hij hj g1 g2 g3 g4 c.w
              refine ⟨_, run_cut hu hsz ho hv c.w hbd, ?_⟩
              simp only [VRep, ssRep]
              refine ⟨⟨_, _, _, rfl⟩, .inr ⟨inf, hi', by omega, ?_⟩⟩
              by_cases hca : cap = i
              · exact .inr ⟨by omega, _, by rw [show j - i = 0 by omega, show cap - i = 0 by omega]⟩
              · refine .inl ⟨hl, cap - i, m, ?_, by omega, hb, by rw [show off + i + (cap - i) = off + cap by omega]; exact hbn⟩
                rw [if_neg hca, Option.map_some, add_none, hese, hes', hts, Nat.add_mul, Nat.add_assoc]
            · subst h0
              have hbd := run_bounds (P := P) hsl true (lo := lo) (hi := hi) (len := 0) (cap := 0) (.inl (Nat.le_refl _)) hij hj g1 g2 g3 g4 c.w
              refine ⟨_, run_cut hu hsz ho hv c.w hbd, ?_⟩
              simp only [VRep, ssRep]
              exact ⟨⟨_, _, _, rfl⟩, .inr ⟨inf, hi', by omega, .inr ⟨by omega, _, by rw [show j - i = 0 by omega, show 0 - i = 0 by omega]⟩⟩⟩
        · rename_i e' xs
          cases hf : fits E t (.tv (.row e') xs) h with
          | false => simp [hf] at hk
          | true =>
            simp only [hf, cond_true] at hk
            obtain ⟨e'', ti, es, hkt', hti, hes, hts⟩ := fits_some hf
            rw [hkt] at hkt'; cases hkt'
            have hes' : e'.size = es := by simpa [esOf] using hes
            have hsz := fun w => (hT.is hti).size w
            obtain ⟨i, j, hK, hij, hj, g1, g2, g3, g4⟩ := bounds_ok hk
            change List e'.C at xs
            refine told_pure hK fun c ac hs hsl => ?_
            have hr := hsl.eval y; rw [hya] at hr
            have hrow := hr.row
            have hrow' := hrow
            obtain ⟨A, cap, hv, hle, _⟩ := hrow'
            rw [hv] at hrow
            have hbd := run_bounds (P := P) hsl true (lo := lo) (hi := hi) (len := xs.length) (cap := cap) (.inl hle) hij hj g1 g2 g3 g4 c.w
            have hcut := hrow.cut hij hj
            rw [hes', ← hts] at hcut
            refine ⟨_, run_cut hu hsz ho hv c.w hbd, VRep.of_row (e := e') ?_⟩
            rw [hes', ← hts]
            exact hcut
        · obtain ⟨i, j, hK, hij, hj, g1, g2, g3, g4⟩ := bounds_ok hk
          refine told_pure hK fun c ac hs hsl => ?_
          have hr := hsl.eval y; rw [hya] at hr
          simp only [VRep] at hr
          obtain ⟨A, hv⟩ := hr
          have hbd := run_bounds (P := P) hsl true (lo := lo) (hi := hi) (len := 0) (cap := 0) (.inl (Nat.le_refl _)) hij hj g1 g2 g3 g4 c.w
          refine ⟨_, run_cut hu hesz ho hv c.w hbd, ?_⟩
          simp only [VRep]
          exact ⟨_, by rw [show j - i = 0 by omega, show 0 - i = 0 by omega]⟩
        · cases hk
  · cases hk
end
end Go.AM
