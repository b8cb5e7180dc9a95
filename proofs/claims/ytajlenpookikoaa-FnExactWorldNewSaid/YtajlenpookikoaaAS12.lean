/- An interpreter of the model's code over values that are told, and its soundness. -/
import Derived.Test.YtajlenpookikoaaAS7b
namespace Go.AM

/-! Soundness: cuts. -/
section
variable {ρ : Type} {P : Program} {E : Env} {s : List AV} {h : Heap} {o : Oper} {x : ρ}

/-- A cut of a slice. -/
theorem run_cut {t e : TypeId} (hu : P.underlying t = some (.slice e)) {size : Nat} (hsz : ∀ w, (sizeOf e).run P w = .ok size w) {ac : Act} {y : Operand} {lo hi mx : Option Operand} (ho : o.op = .slice t y lo hi mx) {A : Option Addr} {len cap a b m : Nat}
    (hy : ac.eval y = .slice A len cap) (w : World) (hb : (Instr.sliceBounds true len cap (lo.map ac.eval) (hi.map ac.eval) (mx.map ac.eval)).run P w = .ok (a, b, m) w) :
    (execOp ac.eval o).run P w = .ok (.value (.slice (if m = a then A else A.map (·.add (a * size))) (b - a) (m - a))) w := by
  simp [execOp, ho, hy, Instr.sliceAt, Instr.slice, run_underlying hu, hb, hsz]

theorem isZero_some {v : Option AV} (hz : isZero v = true) : ∃ k, v = some (.int k 0) := by
  unfold isZero at hz
  split at hz
  · exact ⟨_, rfl⟩
  · cases hz

theorem lenOf_rep {c : Ctx} {a : AV} {n : Nat} {v : Value} (hl : lenOf h a = some n) (hr : VRep c a v) : ∃ A m k, v = .slice A m k := by
  unfold lenOf at hl
  split at hl
  · simp only [VRep, slRep] at hr; exact hr.1
  · simp only [VRep, ssRep] at hr; exact hr.1
  · simp only [VRep, TRep, Ty.isAgg, Bool.false_eq_true, if_false, CellsRep] at hr
    obtain ⟨v', hv, A, cap, rfl, _⟩ := hr
    simp only [List.cons.injEq, and_true] at hv
    exact ⟨_, _, _, hv⟩
  · simp only [VRep] at hr; obtain ⟨A, hA⟩ := hr; exact ⟨_, _, _, hA⟩
  · cases hl

theorem VRep.row {c : Ctx} {e : Ty} {xs : List e.C} {v : Value} (hr : VRep c (.tv (.row e) xs) v) : RowG c.pr c.w e.size (CellsRep c.pr c.w e) xs v := by
  simp only [VRep, TRep, Ty.isAgg, Bool.false_eq_true, if_false, CellsRep] at hr
  obtain ⟨v', hv, h⟩ := hr
  simp only [List.cons.injEq, and_true] at hv
  subst hv; exact h

theorem VRep.of_row {c : Ctx} {e : Ty} {xs : List e.C} {v : Value} (h : RowG c.pr c.w e.size (CellsRep c.pr c.w e) xs v) : VRep c (.tv (.row e) xs) v := by
  simp only [VRep, TRep, Ty.isAgg, Bool.false_eq_true, if_false, CellsRep]
  exact ⟨v, rfl, h⟩

theorem RowG.cut {pr : Nat → Prop} {w : World} {size : Nat} {α : Type} {R : α → List Value → Prop} {xs : List α} {A : Option Addr} {cap a b : Nat} (hr : RowG pr w size R xs (.slice A xs.length cap)) (hab : a ≤ b) (hb : b ≤ xs.length) :
    RowG pr w size R (List.take (b - a) (List.drop a xs)) (.slice (if cap = a then A else A.map (·.add (a * size))) (b - a) (cap - a)) := by
  obtain ⟨A', cap', hv, hle, hnone, hx⟩ := hr
  cases hv
  have hlen : (List.take (b - a) (List.drop a xs)).length = b - a := by simp; omega
  refine ⟨_, cap - a, by rw [hlen], by omega, ?_, ?_⟩
  · intro hn
    by_cases hca : cap = a
    · omega
    · rw [if_neg hca] at hn
      cases A with
      | none => have := hnone rfl; omega
      | some A => cases hn
  · intro hne
    have hpos : 0 < b - a := by rw [← hlen]; exact List.length_pos_iff.2 hne
    obtain ⟨bl, off, hA, hp, hcells⟩ := hx (by rintro rfl; simp at hb; omega)
    subst hA
    rw [if_neg (by omega)]
    refine ⟨bl, off + a * size, by simp [add_none], hp, fun i y hi => ?_⟩
    rw [List.getElem?_take] at hi
    split at hi
    · rw [List.getElem?_drop] at hi
      obtain ⟨vs, h1, h2, h3⟩ := hcells _ y hi
      refine ⟨vs, h1, ?_, h3⟩
      rwa [Nat.add_mul, ← Nat.add_assoc] at h2
    · cases hi

theorem told_slice (hT : TOk P E) {t : TypeId} {y : Operand} {lo hi mx : Option Operand} (ho : o.op = .slice t y lo hi mx) {K : AV → Heap → Bool → Option ρ}
    (hk : aslice E t (aeval s y) (lo.map (aeval s)) (hi.map (aeval s)) (mx.map (aeval s)) h K = some x) : Told P s h o K x := by
  have vint : ∀ {c : Ctx} {ac : Act}, Slots c s ac → ∀ (y : Operand) (k : IntKind) (n : Int), aeval s y = .int k n → ac.eval y = .int k n := fun hsl y k n hy => by
    have := hsl.eval y; rw [hy] at this; exact this.int
  generalize hya : aeval s y = a at hk
  unfold aslice at hk
  split at hk
  · rename_i t' b hkt
    cases mx with
    | some m => simp at hk
    | none =>
      simp only [Option.map_none, Option.isNone_none, cond_true] at hk
      obtain ⟨i, j, hK, hij, hj, g1, g2, g3, g4⟩ := bounds_ok hk
      refine told_pure hK fun c ac hs hsl => ⟨.string (b.extract i j), ?_, by simp only [VRep]⟩
      have hr := hsl.eval y; rw [hya] at hr
      have hbd := run_bounds (P := P) hsl false (lo := lo) (hi := hi) (.inr ⟨rfl, rfl⟩) hij hj g1 g2 g3 g4 c.w
      simp [execOp, ho, hr.str, Instr.sliceAt, Instr.slice, run_underlying (hT.str hkt), hbd]
  · rename_i t' e hkt
    have hu := hT.slice hkt
    cases hte : E.ty e with
    | none => simp [hte] at hk
    | some te =>
    simp only [hte, Option.isNone_some, cond_false] at hk
    have hesz := fun w => (hT.is hte).size w
    by_cases hz : isZero (mx.map (aeval s)) = true
    · simp only [hz, cond_true] at hk
      by_cases hb : ((lo.map (aeval s)).isNone && isZero (hi.map (aeval s))) = true
      · simp only [hb, cond_true] at hk
        simp only [Bool.and_eq_true] at hb
        split at hk
        · rename_i n hn
          obtain ⟨km, hm⟩ := isZero_some hz
          obtain ⟨kh, hh⟩ := isZero_some hb.2
          cases mx with
          | none => simp at hm
          | some m =>
            cases hi with
            | none => simp at hh
            | some hi =>
              cases lo with
              | some l => simp at hb
              | none =>
                simp only [Option.map_some, Option.some.injEq] at hm hh
                refine told_pure hk fun c ac hs hsl => ?_
                have hr := hsl.eval y; rw [hya] at hr
                obtain ⟨A, len, cap, hv⟩ := lenOf_rep hn hr
                have em := vint hsl m _ _ hm
                have eh := vint hsl hi _ _ hh
                have hbd : (Instr.sliceBounds true len cap ((none : Option Operand).map ac.eval) ((some hi).map ac.eval) ((some m).map ac.eval)).run P c.w = .ok (0, 0, 0) c.w := by
                  simp [Instr.sliceBounds, Instr.sliceBound, asIntOf, em, eh]
                refine ⟨.slice A 0 0, ?_, by simp only [VRep]; exact ⟨A, rfl⟩⟩
                have := run_cut hu hesz ho hv c.w hbd
                simpa using this
        · cases hk
      · simp only [Bool.not_eq_true] at hb; simp only [hb, cond_false, reduceCtorEq] at hk
    · simp only [Bool.not_eq_true] at hz
      simp only [hz, cond_false] at hk
      cases mx with
      | some m => simp at hk
      | none =>
        simp only [Option.map_none, Option.isNone_none, cond_true] at hk
        split at hk
        · rename_i id
          split at hk
          · rename_i ob hob
            cases hf : fits E t (.sl id) h with
            | false => simp [hf] at hk
            | true =>
              simp only [hf, cond_true] at hk
              obtain ⟨e', ti, es, hkt', hti, hes, hts⟩ := fits_some hf
              rw [hkt] at hkt'; cases hkt'
              have hes' : ob.c.es = es := by simpa [esOf, hob] using hes
              have hsz := fun w => (hT.is hti).size w
              obtain ⟨i, j, hK, hij, hj, g1, g2, g3, g4⟩ := bounds_ok hk
              refine told_pure hK fun c ac hs hsl => ?_
              have hr := hsl.eval y; rw [hya] at hr
              simp only [VRep, slRep] at hr
              obtain ⟨inf, hi', hr⟩ := hr.2.resolve_left (hs.alive hob)
              have rep := hs.rep hob hi'
              have hlen := rep.len
              have hese := rep.es
              rcases hr with ⟨hl, cap, n, hv, hle, hb, hbn, _⟩ | ⟨hl, h0, A, hv⟩
              · have hbd := run_bounds (P := P) hsl true (lo := lo) (hi := hi) (len := inf.len) (cap := cap) (.inl hle) hij (by omega) g1 (fun h => by have := g2 h; omega) g3 g4 c.w
                refine ⟨_, run_cut hu hsz ho hv c.w hbd, ?_⟩
                simp only [VRep, ssRep]
                refine ⟨⟨_, _, _, rfl⟩, .inr ⟨inf, hi', by omega, ?_⟩⟩
                by_cases hca : cap = i
                · exact .inr ⟨by omega, _, by rw [show j - i = 0 by omega, show cap - i = 0 by omega]⟩
                · refine .inl ⟨hl, cap - i, n, ?_, by omega, hb, by rw [show i + (cap - i) = cap by omega]; exact hbn⟩
                  rw [if_neg hca, Option.map_some, add_none, hese, hes', hts]
              · have hbd := run_bounds (P := P) hsl true (lo := lo) (hi := hi) (len := 0) (cap := 0) (.inl (Nat.le_refl _)) hij (by omega) g1 (fun h => by have := g2 h; omega) g3 g4 c.w
                refine ⟨_, run_cut hu hsz ho hv c.w hbd, ?_⟩
                simp only [VRep, ssRep]
                exact ⟨⟨_, _, _, rfl⟩, .inr ⟨inf, hi', by omega, .inr ⟨by omega, _, by rw [show j - i = 0 by omega, show 0 - i = 0 by omega]⟩⟩⟩
          · cases hk
        · rename_i id off n
          cases hf : fits E t (.ss id off n) h with
          | false => simp [hf] at hk
          | true =>
            simp only [hf, cond_true] at hk
            obtain ⟨e', ti, es, hkt', hti, hes, hts⟩ := fits_some hf
            rw [hkt] at hkt'; cases hkt'
            simp only [esOf, Option.map_eq_some_iff] at hes
            obtain ⟨ob, hob, hes'⟩ := hes
            have hsz := fun w => (hT.is hti).size w
            obtain ⟨i, j, hK, hij, hj, g1, g2, g3, g4⟩ := bounds_ok hk
            refine told_pure hK fun c ac hs hsl => ?_
            have hr := hsl.eval y; rw [hya] at hr
            simp only [VRep, ssRep] at hr
            obtain ⟨inf, hi', hon, hr⟩ := hr.2.resolve_left (hs.alive hob)
            have rep := hs.rep hob hi'
            have hese := rep.es
            rcases hr with ⟨hl, cap, m, hv, hle, hb, hbn⟩ | ⟨h0, A, hv⟩
            · have hbd := run_bounds (P := P) hsl true (lo := lo) (hi := hi) (len := n) (cap := cap) (.inl hle) hij hj g1 g2 g3 g4 c.w
              refine ⟨_, run_cut hu hsz ho hv c.w hbd, ?_⟩
              simp only [VRep, ssRep]
              refine ⟨⟨_, _, _, rfl⟩, .inr ⟨inf, hi', by omega, ?_⟩⟩
              by_cases hca : cap = i
              · exact .inr ⟨by omega, _, by rw [show j - i = 0 by omega, show cap - i = 0 by omega]⟩
              · refine .inl ⟨hl, cap - i, m, ?_, by omega, hb, by rw [show off + i + (cap - i) = off + cap by omega]; exact hbn⟩
                rw [if_neg hca, Option.map_some, add_none, hese, hes', hts, Nat.add_mul, Nat.add_assoc]
            · subst h0
              have hbd := run_bounds (P := P) hsl true (lo := lo) (hi := hi) (len := 0) (cap := 0) (.inl (Nat.le_refl _)) hij hj g1 g2 g3 g4 c.w
              refine ⟨_, run_cut hu hsz ho hv c.w hbd, ?_⟩
              simp only [VRep, ssRep]
              exact ⟨⟨_, _, _, rfl⟩, .inr ⟨inf, hi', by omega, .inr ⟨by omega, _, by rw [show j - i = 0 by omega, show 0 - i = 0 by omega]⟩⟩⟩
        · rename_i e' xs
          cases hf : fits E t (.tv (.row e') xs) h with
          | false => simp [hf] at hk
          | true =>
            simp only [hf, cond_true] at hk
            obtain ⟨e'', ti, es, hkt', hti, hes, hts⟩ := fits_some hf
            rw [hkt] at hkt'; cases hkt'
            have hes' : e'.size = es := by simpa [esOf] using hes
            have hsz := fun w => (hT.is hti).size w
            obtain ⟨i, j, hK, hij, hj, g1, g2, g3, g4⟩ := bounds_ok hk
            change List e'.C at xs
            refine told_pure hK fun c ac hs hsl => ?_
            have hr := hsl.eval y; rw [hya] at hr
            have hrow := hr.row
            have hrow' := hrow
            obtain ⟨A, cap, hv, hle, _⟩ := hrow'
            rw [hv] at hrow
            have hbd := run_bounds (P := P) hsl true (lo := lo) (hi := hi) (len := xs.length) (cap := cap) (.inl hle) hij hj g1 g2 g3 g4 c.w
            have hcut := hrow.cut hij hj
            rw [hes', ← hts] at hcut
            refine ⟨_, run_cut hu hsz ho hv c.w hbd, VRep.of_row (e := e') ?_⟩
            rw [hes', ← hts]
            exact hcut
        · obtain ⟨i, j, hK, hij, hj, g1, g2, g3, g4⟩ := bounds_ok hk
          refine told_pure hK fun c ac hs hsl => ?_
          have hr := hsl.eval y; rw [hya] at hr
          simp only [VRep] at hr
          obtain ⟨A, hv⟩ := hr
          have hbd := run_bounds (P := P) hsl true (lo := lo) (hi := hi) (len := 0) (cap := 0) (.inl (Nat.le_refl _)) hij hj g1 g2 g3 g4 c.w
          refine ⟨_, run_cut hu hesz ho hv c.w hbd, ?_⟩
          simp only [VRep]
          exact ⟨_, by rw [show j - i = 0 by omega, show 0 - i = 0 by omega]⟩
        · cases hk
  · cases hk
end
end Go.AM
namespace Go.AM

/-! Soundness: what rows hold, told; conversions; lengths. -/
section
variable {ρ : Type} {P : Program} {E : Env} {s : List AV} {h : Heap} {o : Oper} {x : ρ}

theorem RowG.all2 {w : World} {size : Nat} {α : Type} {R : α → List Value → Prop} {xs : List α} {b o : Nat}
    (hx : ∀ (i : Nat) (x : α), xs[i]? = some x → ∃ vs, vs.length = size ∧ Lies w b (o + i * size) vs ∧ R x vs) : ∃ L : List (List Value), All2 (fun x vs => vs.length = size ∧ R x vs) xs L ∧ Lies w b o L.flatten := by
  induction xs generalizing o with
  | nil => exact ⟨[], trivial, by simp [Lies]⟩
  | cons x xs ih =>
    obtain ⟨vs, h1, h2, h3⟩ := hx 0 x (by simp)
    obtain ⟨L, hL, hl⟩ := ih (o := o + size) (fun i y hy => by
      have := hx (i + 1) y (by simpa using hy)
      rwa [show o + (i + 1) * size = o + size + i * size by rw [Nat.add_mul]; omega] at this)
    exact ⟨vs :: L, ⟨⟨h1, h3⟩, hL⟩, by rw [List.flatten_cons]; exact Lies.append (by simpa using h2) (by rw [h1]; exact hl)⟩

theorem ContV.cut {c : Ctx} {ct : Cont} {L : List (List Value)} (h : ContV c ct L) (lo n : Nat) : ContV c (ct.cut lo n) ((L.drop lo).take n) := by
  cases ct with
  | typed e xs => exact All2.take n (All2.drop (R := ElemT c e) lo h)
  | raw a es d xs => exact ⟨h.1, h.2.1, (h.2.2.drop lo).take n⟩
  | deep fx e xs => exact All2.take n (All2.drop (R := ElemD e.size) lo h)

theorem cut_len (ct : Cont) (lo n : Nat) (hle : lo + n ≤ ct.len) : (ct.cut lo n).len = n ∧ (ct.cut lo n).es = ct.es := by
  cases ct with
  | typed e xs => simp only [Cont.len] at hle; exact ⟨by simp [Cont.cut, Cont.len]; omega, rfl⟩
  | raw a es d xs => simp only [Cont.len] at hle; exact ⟨by simp [Cont.cut, Cont.len]; omega, rfl⟩
  | deep fx e xs => simp only [Cont.len] at hle; exact ⟨by simp [Cont.cut, Cont.len]; omega, rfl⟩

/-- What a slice value's row holds. -/
theorem rowOf_rep {c : Ctx} (hs : Sim c h) {a : AV} {v : Value} {ct : Cont} (hr : VRep c a v) (ho : rowOf h a = some ct) :
    ∃ A cap L, v = .slice A ct.len cap ∧ ct.len ≤ cap ∧ ContV c ct L ∧ (0 < ct.len → ∃ b o, A = some ⟨b, o, none⟩ ∧ Lies c.w b o L.flatten) := by
  unfold rowOf at ho
  split at ho
  · rename_i id
    simp only [Option.map_eq_some_iff] at ho
    obtain ⟨ob, hob, rfl⟩ := ho
    simp only [VRep, slRep] at hr
    obtain ⟨i, hi, hr⟩ := hr.2.resolve_left (hs.alive hob)
    have rep := hs.rep hob hi
    obtain ⟨L, hL, hl⟩ := contRep_iff.1 rep.cont
    rw [← rep.len]
    rcases hr with ⟨hloc, cap, n, hv, hle, _⟩ | ⟨hloc, h0, A, hv⟩
    · exact ⟨_, cap, L, hv, hle, hL, fun _ => ⟨_, _, rfl, hl⟩⟩
    · exact ⟨A, 0, L, by rw [h0]; exact hv, by omega, hL, fun h => by omega⟩
  · rename_i id off n
    simp only [Option.map_eq_some_iff] at ho
    obtain ⟨ob, hob, rfl⟩ := ho
    simp only [VRep, ssRep] at hr
    obtain ⟨i, hi, hon, hr⟩ := hr.2.resolve_left (hs.alive hob)
    have rep := hs.rep hob hi
    obtain ⟨L, hL, hl⟩ := contRep_iff.1 rep.cont
    have hcl := cut_len ob.c off n (by rw [← rep.len]; exact hon)
    rw [hcl.1]
    rcases hr with ⟨hloc, cap, m, hv, hle, _⟩ | ⟨h0, A, hv⟩
    · refine ⟨_, cap, _, hv, hle, hL.cut off n, fun _ => ⟨_, _, rfl, ?_⟩⟩
      have hes : ∀ vs ∈ L, vs.length = i.es := by intro vs hv; rw [hL.es vs hv, rep.es]
      have h1 := (hl.drop (off * i.es)).take (n * i.es)
      rw [flat_drop off hes, flat_take n (fun vs hv => hes vs (List.mem_of_mem_drop hv))] at h1
      exact h1
    · exact ⟨A, 0, _, by rw [h0]; exact hv, by omega, hL.cut off n, fun h => by omega⟩
  · rename_i e xs
    simp only [Option.some.injEq] at ho
    subst ho
    obtain ⟨A, cap, hv, hle, hnone, hx⟩ := hr.row
    by_cases hne : (xs : List e.C) = []
    · refine ⟨A, cap, [], hv, hle, ?_, fun h => ?_⟩
      · rw [hne]; trivial
      · rw [hne] at h; exact absurd h (Nat.lt_irrefl 0)
    · obtain ⟨b, off, hA, hp, hcells⟩ := hx hne
      obtain ⟨L, hL, hl⟩ := RowG.all2 hcells
      exact ⟨A, cap, L, hv, hle, hL, fun _ => ⟨b, off, hA, hl⟩⟩
  · cases ho

theorem run_load0 (w : World) (a : Addr) : (loadCells a 0).run P w = .ok #[] w := by simpa using run_loadCells_list (P := P) w a [] (by simp)

/-- The first elements of a slice. -/
theorem run_first {w : World} {A : Option Addr} {len cap es n : Nat} {L : List (List Value)} (hes : ∀ vs ∈ L, vs.length = es) (hl : L.length = len) (hn : n ≤ len) (hlie : 0 < len → ∃ b o, A = some ⟨b, o, none⟩ ∧ Lies w b o L.flatten) :
    (Builtin.firstCells es n (.slice A len cap)).run P w = .ok (L.take n).flatten.toArray w := by
  by_cases h0 : n = 0
  · subst h0
    cases A with
    | none => simp [Builtin.firstCells]
    | some A => simp [Builtin.firstCells, run_load0]
  · obtain ⟨b, off, hA, hlies⟩ := hlie (by omega)
    subst hA
    have h1 := hlies.take (n * es)
    rw [flat_take n hes] at h1
    have hlen : (L.take n).flatten.length = n * es := by
      rw [flat_len (es := es) (fun vs hv => hes vs (List.mem_of_mem_take hv)), List.length_take]
      congr 1; omega
    have := run_loadLies (P := P) w b off _ h1
    rw [hlen] at this
    simp [Builtin.firstCells, this]

theorem told_convert (hT : TOk P E) {src dst : TypeId} {y : Operand} (ho : o.op = .convert src dst y) {K : AV → Heap → Bool → Option ρ}
    (hk : aconv E src dst (aeval s y) h K = some x) : Told P s h o K x := by
  generalize hya : aeval s y = a at hk
  unfold aconv at hk
  split at hk
  · rename_i k' k _ n h1 h2
    refine told_pure hk fun c ac hs hsl => ⟨.int k (k.wrap n), ?_, by simp only [VRep]⟩
    have hr := hsl.eval y; rw [hya] at hr
    simp [execOp, ho, hr.int, convert, run_underlying (hT.int h1), run_underlying (hT.int h2), Conv.intToInt]
  · rename_i k' _ n h1 h2
    refine told_pure hk fun c ac hs hsl => ⟨.string (Utf8.encode n), ?_, by simp only [VRep]⟩
    have hr := hsl.eval y; rw [hya] at hr
    simp [execOp, ho, hr.int, convert, run_underlying (hT.int h1), run_underlying (hT.str h2), Conv.intToString]
  · rename_i b h1 h2
    refine told_pure hk fun c ac hs hsl => ⟨.string b, ?_, by simp only [VRep]⟩
    have hr := hsl.eval y; rw [hya] at hr
    simp [execOp, ho, hr.str, convert, run_underlying (hT.str h1), run_underlying (hT.str h2)]
  · rename_i e b h1 h2
    split at hk
    · rename_i h3
      refine ⟨_, _, _, hk, OpOk.grow (hpos := by simp [Cont.es, Ty.size]) rfl fun c ac hs hsl => ?_⟩
      have hr := hsl.eval y; rw [hya] at hr
      have hrun := run_bytes_of_string (P := P) c.w src dst e b (hT.str h1) (hT.slice h2) (hT.int h3)
      have hsz : (valBytes b).length = b.size := by simp [valBytes]
      have hfl : (bytesRow b (grownCap c.w b.size 0 e)).toList = ((valBytes b).map fun n => [Value.int .u8 n]).flatten ++ List.replicate (grownCap c.w b.size 0 e - b.size) (.int .u8 0) := by
        have : ((valBytes b).map fun n => [Value.int .u8 n]).flatten = (b.data.toList).map fun b => Value.int .u8 b.toNat := by
          simp only [valBytes]
          induction b.data.toList with
          | nil => rfl
          | cons u l ih => simp only [List.map_cons, List.flatten_cons, ih]; rfl
        rw [this]
        simp [bytesRow]
      have hbl : (bytesRow b (grownCap c.w b.size 0 e)).size = grownCap c.w b.size 0 e := by
        have := grownCap_ge c.w b.size 0 e
        have h' : b.data.size = b.size := rfl
        simp [bytesRow, h']; omega
      have hp : Pushed c.w (c.w.drew.alloc (.cells (bytesRow b (grownCap c.w b.size 0 e)) e ((bytesRow b (grownCap c.w b.size 0 e)).size, (bytesRow b (grownCap c.w b.size 0 e)).size + 1)))
          (((valBytes b).map fun n => [Value.int .u8 n]).flatten ++ List.replicate (grownCap c.w b.size 0 e - b.size) (.int .u8 0)) := by
        rw [← hfl]
        refine ⟨by simp, fun k hk => heap_alloc_old c.w.drew _ k hk, ⟨e, _, by simpa using heap_alloc_new c.w.drew _⟩, fun i hi => ?_, rfl, rfl, rfl⟩
        have hnew := heap_alloc_new c.w.drew (.cells (bytesRow b (grownCap c.w b.size 0 e)) e ((bytesRow b (grownCap c.w b.size 0 e)).size, (bytesRow b (grownCap c.w b.size 0 e)).size + 1))
        rw [Array.length_toList] at hi
        simp only [World.frozen?]
        have e1 : c.w.drew.heap.size = c.w.heap.size := rfl
        rw [e1] at hnew
        rw [hnew]
        simp
        omega
      refine ⟨.slice (some ⟨c.w.heap.size, 0, none⟩) b.size (grownCap c.w b.size 0 e), _, _, _, ?_, hp, ?_, fun c' _ hw hm' => ?_⟩
      · simp [execOp, ho, hr.str, hrun]
      · have all : ∀ l : List Int, All2 (ElemT c (.int .u8)) l (l.map fun n => [Value.int .u8 n]) := by
          intro l
          induction l with
          | nil => trivial
          | cons n l ih => exact ⟨⟨rfl, rfl⟩, ih⟩
        exact all _
      · simp only [Cont.len, Cont.es, Ty.size] at hm'
        have hcl := grownCap_ge c.w b.size 0 e
        have hm2 : c'.m h.length = some (inf true c.w.heap.size 0 b.size 1 false) := by rw [hm', ← hsz]; rfl
        exact sl_new hp hw hm2 hcl (by rw [← hfl, Array.length_toList, hbl]; omega) (by simp)
    · cases hk
  · rename_i e a' _ h1 h2
    split at hk
    · rename_i xs h3 h4
      refine told_pure hk fun c ac hs hsl => ⟨.string (bytesVal xs), ?_, by simp only [VRep]⟩
      have hr := hsl.eval y; rw [hya] at hr
      obtain ⟨A, cap, L, hv, hle, hL, hlie⟩ := rowOf_rep hs hr h4
      have hu1 := hT.slice h1
      have hu2 := hT.str h2
      have hu3 := hT.int h3
      change All2 (ElemT c (.int .u8)) xs L at hL
      have hfl : ∀ (xs : List Int) (L : List (List Value)), All2 (ElemT c (.int .u8)) xs L → L.flatten = xs.map (Value.int .u8) := by
        intro xs
        induction xs with
        | nil => intro L h; cases L with
          | nil => rfl
          | cons _ _ => exact absurd h (by simp [All2])
        | cons n xs ih => intro L h; cases L with
          | nil => exact absurd h (by simp [All2])
          | cons vs L =>
            have h1 := h.1.2
            simp only [CellsRep] at h1
            simp [h1, ih L h.2]
      have hbytes : ∀ (ns : List Int) (r : ByteArray), ns.foldl (fun r n => r.push (UInt8.ofNat n.toNat)) r = ⟨r.data ++ (ns.map fun n => UInt8.ofNat n.toNat).toArray⟩ := by
        intro ns
        induction ns with
        | nil => intro r; simp
        | cons n ns ih =>
          intro r
          rw [List.foldl_cons, ih]
          congr 1
          apply Array.ext'
          simp [ByteArray.push]
      change List Int at xs
      by_cases h0 : 0 < xs.length
      · obtain ⟨b, off, hA, hlies⟩ := hlie h0
        subst hA
        have hl := run_loadLies (P := P) c.w b off _ hlies
        rw [hfl xs L hL, List.length_map] at hl
        have hb := run_bytesToString (P := P) c.w ⟨b, off, none⟩ xs.length cap xs hl
        have hbv : xs.foldl (fun r n => r.push (UInt8.ofNat n.toNat)) ByteArray.empty = bytesVal xs := by
          rw [hbytes]; simp [bytesVal]
        rw [hbv] at hb
        have hv' : ac.eval y = .slice (some ⟨b, off, none⟩) xs.length cap := hv
        simp [execOp, ho, hv', convert, run_underlying hu1, run_underlying hu2, run_underlying hu3, hb]
      · have hxe : xs = [] := List.eq_nil_of_length_eq_zero (by omega)
        have hv' : ac.eval y = .slice A 0 cap := by rw [hxe] at hv; exact hv
        have hbv : bytesVal xs = ByteArray.empty := by rw [hxe]; rfl
        rw [hbv]
        cases A with
        | none => simp [execOp, ho, hv', convert, run_underlying hu1, run_underlying hu2, run_underlying hu3, Conv.bytesToString]
        | some A =>
          have hb := run_bytesToString (P := P) c.w A 0 cap [] (by simpa using run_load0 (P := P) c.w A)
          simp only [List.foldl_nil] at hb
          simp [execOp, ho, hv', convert, run_underlying hu1, run_underlying hu2, run_underlying hu3, hb]
    · cases hk
  · cases hk
end
end Go.AM
namespace Go.AM

/-! Soundness: append. -/
section
variable {ρ : Type} {P : Program} {E : Env} {s : List AV} {h : Heap} {o : Oper} {x : ρ}

theorem ContV.app {c : Ctx} {a b ct : Cont} {L M : List (List Value)} (h : ContV c a L) (h' : ContV c b M) (ha : a.app b = some ct) : ContV c ct (L ++ M) ∧ ct.len = a.len + b.len ∧ ct.es = a.es := by
  cases a with
  | typed e xs =>
    cases b with
    | typed f ys =>
      simp only [Cont.app] at ha
      split at ha
      · rename_i he
        subst he
        cases ha
        exact ⟨All2.append (R := ElemT c f) h h', by simp [Cont.len, Ty.castR], rfl⟩
      · cases ha
    | raw a es d xs => simp [Cont.app] at ha
    | deep fx f ys => simp [Cont.app] at ha
  | deep fx e xs => simp [Cont.app] at ha
  | raw a es d xs =>
    cases b with
    | deep fx f ys => simp [Cont.app] at ha
    | typed f ys => simp [Cont.app] at ha
    | raw a' es' d' ys =>
      simp only [Cont.app] at ha
      by_cases hb : ((a == a') && (es == es')) = true
      · simp only [hb, cond_true, Option.some.injEq] at ha
        subst ha
        simp only [Bool.and_eq_true, beq_iff_eq] at hb
        obtain ⟨rfl, rfl⟩ := hb
        exact ⟨⟨h.1, h.2.1, h.2.2.append h'.2.2⟩, by simp [Cont.len], rfl⟩
      · simp only [Bool.not_eq_true] at hb; simp [hb] at ha

theorem Cont.app_plain {a b ct : Cont} (ha : a.app b = some ct) : ct.isDeep = false := by
  cases a with
  | typed e xs =>
    cases b with
    | typed f ys =>
      simp only [Cont.app] at ha
      split at ha
      · rename_i he; subst he; cases ha; rfl
      · cases ha
    | raw a es d xs => simp [Cont.app] at ha
    | deep fx f ys => simp [Cont.app] at ha
  | deep fx e xs => simp [Cont.app] at ha
  | raw a es d xs =>
    cases b with
    | deep fx f ys => simp [Cont.app] at ha
    | typed f ys => simp [Cont.app] at ha
    | raw a' es' d' ys =>
      simp only [Cont.app] at ha
      by_cases hb : ((a == a') && (es == es')) = true
      · simp only [hb, cond_true, Option.some.injEq] at ha; subst ha; rfl
      · simp only [Bool.not_eq_true] at hb; simp [hb] at ha

set_option maxHeartbeats 1000000 in
theorem run_append_room {w w' : World} {T U ty e : TypeId} {ts : Array TypeId} {size : Nat} (h0 : ts[0]? = some T) (h1 : ts[1]? = some U) (hT : P.underlying T = some (.slice e)) (hU : (∃ e', P.underlying U = some (.slice e')) ∨ P.underlying U = some .string)
    (hsz : ∀ w, (sizeOf e).run P w = .ok size w) {A : Option Addr} {len cap m : Nat} {y : Value} {news : List Value} (hlen : (Builtin.lenOf y).run P w = .ok m w) (hfirst : (Builtin.firstCells size m y).run P w = .ok news.toArray w)
    (hroom : len + m ≤ cap) (hst : ∀ b, A = some b → (storeCells (b.add (len * size)) news).run P w = .ok () w') (hnone : A = none → w' = w) :
    (Builtin.append_ ts ty #[.slice A len cap, y]).run P w = .ok (.slice A (len + m) cap) w' := by
  cases A with
  | none =>
    rw [hnone rfl]
    rcases hU with ⟨e', hU⟩ | hU <;>
    simp [Builtin.append_, h0, h1, run_underlying hT, run_underlying hU, hsz, hlen, hroom, hfirst]
  | some b =>
    have := hst b rfl
    rcases hU with ⟨e', hU⟩ | hU <;>
    simp [Builtin.append_, h0, h1, run_underlying hT, run_underlying hU, hsz, hlen, hroom, hfirst, this]

set_option maxHeartbeats 1000000 in
theorem run_append_more {w : World} {T U ty e : TypeId} {ts : Array TypeId} {i : TypeInfo} {z : Value} (h0 : ts[0]? = some T) (h1 : ts[1]? = some U) (hT : P.underlying T = some (.slice e)) (hU : (∃ e', P.underlying U = some (.slice e')) ∨ P.underlying U = some .string)
    (hi : P.info? e = some i) (hz : i.zero = some z) {A : Option Addr} {len cap m : Nat} {y : Value} {olds news : Array Value} (hlen : (Builtin.lenOf y).run P w = .ok m w)
    (hold : (Builtin.firstCells i.size len (.slice A len cap)).run P w.drew = .ok olds w.drew) (hfirst : (Builtin.firstCells i.size m y).run P w.drew = .ok news w.drew)
    (hg : cap < len + m) (h63 : len + m ≤ 9223372036854775807) (hfit : Builtin.nextslicecap (len + m) cap * i.bytes ≤ 281474976710656) :
    (Builtin.append_ ts ty #[.slice A len cap, y]).run P w = .ok (.slice (some ⟨w.heap.size, 0, none⟩) (len + m) (grownCap w (len + m) cap e))
      (w.drew.alloc (.cells (olds ++ news ++ Builtin.zeroCells z.cells (grownCap w (len + m) cap e - (len + m))) e)) := by
  have hn : ¬ (len + m ≤ cap) := by omega
  have h63' : ¬ (9223372036854775807 < ((len : Int) + (m : Int))) := by omega
  have h48' : ¬ (281474976710656 < Builtin.nextslicecap (len + m) cap * i.bytes) := by omega
  rcases hU with ⟨e', hU⟩ | hU <;>
  simp [Builtin.append_, h0, h1, run_underlying hT, run_underlying hU, sizeOf, typeInfo, zeroValue, hi, hz, hlen, hn, h63', h48', Question.forced, hold, hfirst, newRow, grownCap]

theorem src_rep {c : Ctx} (hs : Sim c h) {t : TypeId} {ti : TI} (ty : TyIs P t ti) {a : AV} {v : Value} {ys : Cont} (hr : VRep c a v) (ho : srcOf ti h a = some ys) (hes : ys.es = ti.size) :
    ∃ L, ContV c ys L ∧ (∀ w, (Builtin.lenOf v).run P w = .ok ys.len w) ∧ ∀ n, n ≤ ys.len → (Builtin.firstCells ti.size n v).run P c.w = .ok (L.take n).flatten.toArray c.w ∧ (Builtin.firstCells ti.size n v).run P c.w.drew = .ok (L.take n).flatten.toArray c.w.drew := by
  have slice : ∀ {A : Option Addr} {cap : Nat} {L : List (List Value)} {ct : Cont}, ct.es = ti.size → v = .slice A ct.len cap → ContV c ct L → (0 < ct.len → ∃ b o, A = some ⟨b, o, none⟩ ∧ Lies c.w b o L.flatten) →
      ∃ L, ContV c ct L ∧ (∀ w, (Builtin.lenOf v).run P w = .ok ct.len w) ∧ ∀ n, n ≤ ct.len → (Builtin.firstCells ti.size n v).run P c.w = .ok (L.take n).flatten.toArray c.w ∧ (Builtin.firstCells ti.size n v).run P c.w.drew = .ok (L.take n).flatten.toArray c.w.drew := by
    intro A cap L ct he hv hL hl
    subst hv
    refine ⟨L, hL, fun w => by simp [Builtin.lenOf], fun n hn => ⟨?_, ?_⟩⟩
    · exact run_first (by rw [← he]; exact hL.es) hL.len hn hl
    · exact run_first (by rw [← he]; exact hL.es) hL.len hn (fun h => by obtain ⟨b, o, h1, h2⟩ := hl h; exact ⟨b, o, h1, h2⟩)
  unfold srcOf at ho
  split at ho
  · simp only [Option.some.injEq] at ho
    subst ho
    simp only [VRep] at hr
    obtain ⟨A, rfl⟩ := hr
    have he := empty_es ty
    exact slice (A := A) (cap := 0) he.1 (by rw [he.2]) (empty_rep ty c) (fun h => by rw [he.2] at h; exact absurd h (Nat.lt_irrefl 0))
  · rename_i b
    simp only [Option.some.injEq] at ho
    subst ho
    rw [hr.str]
    have hsz : (Cont.typed (.int .u8) (valBytes b)).len = b.size := by show (valBytes b).length = b.size; simp [valBytes]
    have all : ∀ l : List Int, All2 (ElemT c (.int .u8)) l (l.map fun n => [Value.int .u8 n]) := by
      intro l
      induction l with
      | nil => trivial
      | cons n l ih => exact ⟨⟨rfl, rfl⟩, ih⟩
    have fl : ∀ (n : Nat), (((valBytes b).map fun n => [Value.int .u8 n]).take n).flatten.toArray = (b.extract 0 n).data.map fun b => Value.int .u8 b.toNat := by
      intro n
      apply Array.ext'
      have e1 : (b.extract 0 n).data.toList = b.data.toList.take n := by
        simp [ByteArray.data_extract]
      simp only [Array.toList_map, e1, valBytes, ← List.map_take]
      generalize b.data.toList.take n = l
      induction l with
      | nil => rfl
      | cons u l ih => simp only [List.map_cons, List.flatten_cons]; simp only [List.map_map] at ih ⊢; rw [← ih]; rfl
    refine ⟨_, all _, fun w => by rw [hsz]; simp [Builtin.lenOf], fun n _ => ?_⟩
    rw [fl n]
    exact ⟨by simp [Builtin.firstCells], by simp [Builtin.firstCells]⟩
  · obtain ⟨A, cap, L, hv, _, hL, hl⟩ := rowOf_rep hs hr ho
    exact slice hes hv hL hl
end
end Go.AM
namespace Go.AM

/-! Soundness: append, told. -/
section
variable {ρ : Type} {P : Program} {E : Env} {s : List AV} {h : Heap} {o : Oper} {x : ρ}

/-- An append to what has no room. -/
theorem app_more {w : World} {T U ty e : TypeId} {ts : Array TypeId} {ti : TI} (tyi : TyIs P e ti) (h0 : ts[0]? = some T) (h1 : ts[1]? = some U) (hT : P.underlying T = some (.slice e)) (hU : (∃ e', P.underlying U = some (.slice e')) ∨ P.underlying U = some .string)
    {A : Option Addr} {len cap m : Nat} {y : Value} {L M : List (List Value)} (hlen : (Builtin.lenOf y).run P w = .ok m w)
    (hold : (Builtin.firstCells ti.size len (.slice A len cap)).run P w.drew = .ok L.flatten.toArray w.drew) (hfirst : (Builtin.firstCells ti.size m y).run P w.drew = .ok M.flatten.toArray w.drew)
    (hL : L.length = len) (hM : M.length = m) (hes : ∀ vs ∈ L ++ M, vs.length = ti.size)
    (hg : cap < len + m) (hb : 0 < ti.bytes) (hlim : (len + m) * ti.bytes ≤ lim) :
    ∃ cap' w' D, (Builtin.append_ ts ty #[.slice A len cap, y]).run P w = .ok (.slice (some ⟨w.heap.size, 0, none⟩) (len + m) cap') w' ∧ Pushed w w' ((L ++ M).flatten ++ D) ∧ len + m ≤ cap' ∧ cap' * ti.size ≤ ((L ++ M).flatten ++ D).length := by
  obtain ⟨i, z, hi, hz, hsz, hby, hrun, hzc, hzr, hz1⟩ := tyi.zrun
  have hlim' : lim = 35184372088832 := rfl
  have hmul : len + m ≤ (len + m) * ti.bytes := Nat.le_mul_of_pos_right _ hb
  have hr := run_append_more (P := P) (w := w) (ty := ty) (z := z) (i := i) (m := m) (y := y) (olds := L.flatten.toArray) (news := M.flatten.toArray) h0 h1 hT hU hi hz hlen (by rw [hsz]; exact hold) (by rw [hsz]; exact hfirst) hg (by omega)
    (growslice_fits hg (by rw [hby]; omega))
  have hge := grownCap_ge w (len + m) cap e
  have hp := pushed_drew w (L.flatten.toArray ++ M.flatten.toArray ++ Builtin.zeroCells z.cells (grownCap w (len + m) cap e - (len + m))) e
  have hl : (L.flatten.toArray ++ M.flatten.toArray ++ Builtin.zeroCells z.cells (grownCap w (len + m) cap e - (len + m))).toList = (L ++ M).flatten ++ (Builtin.zeroCells z.cells (grownCap w (len + m) cap e - (len + m))).toList := by simp
  rw [hl] at hp
  refine ⟨_, _, _, hr, hp, hge, ?_⟩
  rw [List.length_append, flat_len hes, List.length_append, hL, hM, Array.length_toList, size_zeroCells, hzc, ← Nat.add_mul]
  exact Nat.mul_le_mul_right _ (by omega)

theorem run_call_append {c : Go.Call} (ho : o.op = .call c) (hc : c.callee = .builtin .append) {yx yy : Operand} (ha : c.args = #[yx, yy]) {ac : Act} {w w' : World} {v : Value}
    (h : (Builtin.append_ c.argTypes o.type #[ac.eval yx, ac.eval yy]).run P w = .ok v w') : (execOp ac.eval o).run P w = .ok (.value v) w' := by
  simp [execOp, ho, resolve, hc, ha, invoke, builtin, h]

/-- An append to a slice of which all is told: it has room, and the row goes on; or a new one. -/
theorem app_new {c : Ctx} {w' : World} (hs : Sim c h) (hf : c.m h.length = none ∧ ¬ c.dead h.length) {ct : Cont} {N : List (List Value)} {D : List Value} {cap : Nat} (hp : Pushed c.w w' (N.flatten ++ D)) (hN : ContV c ct N) (hpos : 0 < ct.es ∧ ct.isDeep = false)
    (hcap : ct.len ≤ cap) (hfit : cap * ct.es ≤ (N.flatten ++ D).length) :
    ∃ c', c'.w = w' ∧ Ext c h c' (h ++ [some ⟨ct, false⟩]) ∧ Sim c' (h ++ [some ⟨ct, false⟩]) ∧ Grow c h c' (h ++ [some ⟨ct, false⟩]) ∧ VRep c' (.sl h.length) (.slice (some ⟨c.w.heap.size, 0, none⟩) ct.len cap) := by
  obtain ⟨h1, h2, h3, h4⟩ := grow_ok hs hf (o := ⟨ct, false⟩) hp hN hpos.1 (fun fx e xs hc => by have h2 := hpos.2; rw [show ct = _ from hc] at h2; cases h2)
  exact ⟨_, rfl, h1, h2, h3, sl_new (len := ct.len) (es := ct.es) (full := false) hp rfl (by simp [Ctx.more, upd]) hcap hfit (by simp)⟩

theorem app_new_kill {c : Ctx} {w' : World} (hs : Sim c h) (hf : c.m h.length = none ∧ ¬ c.dead h.length) {id : Nat} (hid : id < h.length) {ct : Cont} {N : List (List Value)} {D : List Value} {cap : Nat} (hp : Pushed c.w w' (N.flatten ++ D)) (hN : ContV c ct N) (hpos : 0 < ct.es ∧ ct.isDeep = false)
    (hcap : ct.len ≤ cap) (hfit : cap * ct.es ≤ (N.flatten ++ D).length) :
    ∃ c', c'.w = w' ∧ Ext c h c' (h.set id none ++ [some ⟨ct, false⟩]) ∧ Sim c' (h.set id none ++ [some ⟨ct, false⟩]) ∧ VRep c' (.sl h.length) (.slice (some ⟨c.w.heap.size, 0, none⟩) ct.len cap) := by
  obtain ⟨c1, hw, h1, h2, _, h4⟩ := app_new hs hf hp hN hpos hcap hfit
  obtain ⟨k1, k2⟩ := kill_ok h2 (id := id) (by simp; omega)
  have e : (h ++ [some (⟨ct, false⟩ : Obj)]).set id none = h.set id none ++ [some (⟨ct, false⟩ : Obj)] := by rw [List.set_append_left _ _ hid]
  rw [e] at k1 k2
  refine ⟨_, ?_, h1.trans k1, k2, h4.mono k1.tells⟩
  exact hw

/-- An append in place, to a row that lies somewhere. -/
theorem app_room {c : Ctx} (hs : Sim c h) (hf : c.m h.length = none ∧ ¬ c.dead h.length) {id : Nat} {i : Info} (hid : id < h.length) (hi : c.m id = some i) (hd : ¬ c.dead id) (hl : i.loc = true) {ct : Cont} {L M : List (List Value)} {base len cap n : Nat}
    (hN : ContV c ct (L ++ M)) (hL : L.length = len) (hpos : 0 < ct.es ∧ ct.isDeep = false) (hlies : Lies c.w i.b base L.flatten) (hb : Blk c.w i.b n) (hfit : base + cap * ct.es ≤ n) (hroom : ct.len ≤ cap) :
    ∃ c', c'.w = c.w.setCells i.b (base + len * ct.es) M.flatten ∧ Ext c h c' (h.set id none ++ [some ⟨ct, false⟩]) ∧ Sim c' (h.set id none ++ [some ⟨ct, false⟩]) ∧ VRep c' (.sl h.length) (.slice (some ⟨i.b, base, none⟩) ct.len cap) := by
  have hes := hN.es
  have hLl : L.flatten.length = len * ct.es := by rw [flat_len (es := ct.es) (fun vs hv => hes vs (by simp [hv])), hL]
  have hMl : M.flatten.length = M.length * ct.es := flat_len (es := ct.es) (fun vs hv => hes vs (by simp [hv]))
  have hlen : ct.len = len + M.length := by rw [← hN.len, List.length_append, hL]
  have hmul : ct.len * ct.es ≤ cap * ct.es := Nat.mul_le_mul_right _ hroom
  rw [hlen, Nat.add_mul] at hmul
  have only := only_setCells i.b M.flatten (base + len * ct.es) c.w
  obtain ⟨t, k⟩ := adopt_ok hs hid hi hd hf (w' := c.w.setCells i.b (base + len * ct.es) M.flatten) only (.inl hl) (i' := (inf true i.b base ct.len ct.es false)) (fun _ => ⟨hl, rfl⟩) (o := ⟨ct, false⟩)
  have hlies2 : Lies (c.w.setCells i.b (base + len * ct.es) M.flatten) i.b base (L ++ M).flatten := by
    rw [List.flatten_append]
    refine Lies.append (lies_set_out (.inl (by rw [hLl]; exact Nat.le_refl _)) hlies) ?_
    rw [hLl]
    exact lies_set_in hb (by rw [hMl]; omega)
  have hblk := only.blk _ _ hb
  obtain ⟨k1, k2⟩ := k ⟨rfl, rfl, hpos.1, rfl, fun _ => rfl, fun _ => ⟨n, hblk, by simp only [hlen, Nat.add_mul]; omega⟩, contRep_iff.2 ⟨_, hN.mono t, hlies2⟩⟩ hpos.2
  refine ⟨_, ?_, k1, k2, ?_⟩
  · rfl
  simp only [VRep, slRep]
  exact ⟨⟨_, _, _, rfl⟩, .inr ⟨(inf true i.b base ct.len ct.es false), by simp [upd], .inl ⟨rfl, cap, n, rfl, hroom, hblk, hfit, by simp⟩⟩⟩

/-- Nothing is appended to what is empty and lies nowhere. -/
theorem app_none {c : Ctx} (hs : Sim c h) (hf : c.m h.length = none ∧ ¬ c.dead h.length) {id : Nat} {i : Info} (hid : id < h.length) (hi : c.m id = some i) (hd : ¬ c.dead id) {ct : Cont} (hN : ContV c ct []) (hpos : 0 < ct.es ∧ ct.isDeep = false) (A : Option Addr) :
    ∃ c', c'.w = c.w ∧ Ext c h c' (h.set id none ++ [some ⟨ct, false⟩]) ∧ Sim c' (h.set id none ++ [some ⟨ct, false⟩]) ∧ VRep c' (.sl h.length) (.slice A 0 0) := by
  have hlen : ct.len = 0 := hN.len.symm
  obtain ⟨t, k⟩ := adopt_ok hs hid hi hd hf (w' := c.w) (Only.refl _ _) (.inr rfl) (i' := (inf false 0 0 0 ct.es false)) (fun h => by cases h) (o := ⟨ct, false⟩)
  obtain ⟨k1, k2⟩ := k ⟨hlen.symm, rfl, hpos.1, rfl, fun h => absurd h (Nat.lt_irrefl 0), fun h => (by cases h), contRep_iff.2 ⟨[], hN.mono t, by simp [Lies]⟩⟩ hpos.2
  refine ⟨_, ?_, k1, k2, ?_⟩
  · rfl
  simp only [VRep, slRep]
  exact ⟨⟨_, _, _, rfl⟩, .inr ⟨(inf false 0 0 0 ct.es false), by simp [upd], .inr ⟨rfl, rfl, A, rfl⟩⟩⟩

theorem app_none0 {c : Ctx} (hs : Sim c h) (hf : c.m h.length = none ∧ ¬ c.dead h.length) {ct : Cont} (hN : ContV c ct []) (hpos : 0 < ct.es ∧ ct.isDeep = false) (A : Option Addr) :
    ∃ c', c'.w = c.w ∧ Ext c h c' (h ++ [some ⟨ct, false⟩]) ∧ Sim c' (h ++ [some ⟨ct, false⟩]) ∧ Grow c h c' (h ++ [some ⟨ct, false⟩]) ∧ VRep c' (.sl h.length) (.slice A 0 0) := by
  obtain ⟨k1, k2, k3, k4⟩ := grow0_ok hs hf (o := ⟨ct, false⟩) hN.len.symm hN hpos.1 hpos.2
  refine ⟨_, ?_, k1, k2, k3, ?_⟩
  · rfl
  simp only [VRep, slRep]
  exact ⟨⟨_, _, _, rfl⟩, .inr ⟨(inf false 0 0 0 ct.es false), by simp [upd], .inr ⟨rfl, rfl, A, rfl⟩⟩⟩
end
end Go.AM
namespace Go.AM

/-! Soundness: rows made of what others led to. -/
theorem absorbN {c : Ctx} {h : Heap} (hs : Sim c h) (hf : c.m h.length = none ∧ ¬ c.dead h.length) {ids : List Nat} (hids : ∀ id, id ∈ ids → id < h.length ∧ ¬ c.dead id ∧ c.m id ≠ none)
    {w' : World} (hsize : c.w.heap.size ≤ w'.heap.size) (honly : ∀ b, b < c.w.heap.size → (¬ ∃ id, id ∈ ids ∧ c.at id b) → w'.heap[b]? = c.w.heap[b]?) (hblk : ∀ b n, Blk c.w b n → Blk w' b n)
    (hos : w'.os = c.w.os) (htape : w'.tape = c.w.tape) (hout : w'.output = c.w.output)
    {i' : Info} (hloc : i'.loc = true) (hb' : i'.b < w'.heap.size) (hbn : c.w.heap.size ≤ i'.b ∨ ∃ id, id ∈ ids ∧ c.at id i'.b) (hhd : ∀ a b v, ¬ i'.hd a b v)
    {F : Nat → Prop} (hF : ∀ b, F b → (∃ id, id ∈ ids ∧ c.at id b) ∧ b ≠ i'.b)
    {e : Ty} {xs : List e.C} (hrow : DRow w' e.size (DCells w' e) F i'.b i'.base xs) (hlen : i'.len = List.length xs) (hes : i'.es = e.size) (hpos : 0 < i'.es) (hfull : i'.full = false) (hbk : ∃ n, Blk w' i'.b n ∧ i'.base + i'.len * i'.es ≤ n) :
    ∃ c', c'.w = w' ∧ Ext c h c' (killAll h ids ++ [some ⟨.deep false e xs, false⟩]) ∧ Sim c' (killAll h ids ++ [some ⟨.deep false e xs, false⟩]) ∧ c'.m h.length = some i' ∧ Tells c c' := by
  let c' : Ctx := { m := upd c.m h.length i', dead := fun k => c.dead k ∨ k ∈ ids, pr := c.pr, w := w', own := fun k b => (k = h.length ∧ F b) ∨ (k ≠ h.length ∧ c.own k b) }
  have hm : ∀ id, id ≠ h.length → c'.m id = c.m id := fun id hid => by simp [c', upd, hid]
  have hmn : c'.m h.length = some i' := by simp [c', upd]
  have hmono : ∀ id i, c.m id = some i → c'.m id = some i := fun id i hi => by
    rw [hm id (fun e => by rw [e, hf.1] at hi; cases hi)]; exact hi
  have nd : ∀ {k}, ¬ c'.dead k → ¬ c.dead k ∧ k ∉ ids := fun {k} hk => ⟨fun h => hk (.inl h), fun h => hk (.inr h)⟩
  have hnew : h.length ∉ ids := fun hm => by have := (hids _ hm).1; omega
  have hln : (killAll h ids ++ [some (⟨.deep false e xs, false⟩ : Obj)]).length = h.length + 1 := by simp [killAll_len]
  have hgn : hget (killAll h ids ++ [some (⟨.deep false e xs, false⟩ : Obj)]) h.length = some ⟨.deep false e xs, false⟩ := by
    have : h.length = (killAll h ids).length := (killAll_len _ _).symm
    rw [this]; simp [hget, List.getD]
  have hgo : ∀ k, k < h.length → hget (killAll h ids ++ [some (⟨.deep false e xs, false⟩ : Obj)]) k = hget (killAll h ids) k := fun k hk => hget_app (by rw [killAll_len]; exact hk)
  have off : ∀ {k b}, ¬ c.dead k → k ∉ ids → c.at k b → ¬ ∃ id, id ∈ ids ∧ c.at id b := fun {k b} hk hn ha ⟨id, h1, h2⟩ => hn (hs.at_inj hk (hids id h1).2.1 ha h2 ▸ h1)
  have stay : ∀ {k b}, ¬ c.dead k → k ∉ ids → c.at k b → w'.heap[b]? = c.w.heap[b]? := fun {k b} hk hn ha => honly b (hs.at_low hk ha) (off hk hn ha)
  have prs : ∀ b, c.pr b → w'.heap[b]? = c.w.heap[b]? := fun b hb => honly b (hs.plow b hb) fun ⟨id, h1, h2⟩ => hs.at_apart (hids id h1).2.1 h2 hb
  have t : Tells c c' := ⟨hmono, fun _ h => .inl h, ⟨fun _ h => h, prs⟩, hblk⟩
  have atn : ∀ {k b}, k ≠ h.length → c'.at k b → c.at k b := fun {k b} hk ha => by
    rcases ha with (⟨he, _⟩ | ⟨_, ho⟩) | ⟨i, hi, hl, hb⟩
    · exact absurd he hk
    · exact .inl ho
    · rw [hm k hk] at hi; exact .inr ⟨i, hi, hl, hb⟩
  have low' : ∀ {k b}, ¬ c.dead k → c.at k b → b < w'.heap.size := fun {k b} hk ha => Nat.lt_of_lt_of_le (hs.at_low hk ha) hsize
  -- the new row's own blocks, against others
  have newoff : ∀ {k b}, ¬ c'.dead k → k ≠ h.length → c.at k b → b ≠ i'.b := fun {k b} hk hne ha he => by
    rcases hbn with hbn | hbn
    · have := hs.at_low (nd hk).1 ha; omega
    · exact off (nd hk).1 (nd hk).2 (he ▸ ha) hbn
  have Foff : ∀ {k b}, ¬ c'.dead k → k ≠ h.length → c.at k b → ¬ F b := fun {k b} hk hne ha hFb => off (nd hk).1 (nd hk).2 ha (hF b hFb).1
  refine ⟨c', rfl, ⟨⟨fun _ h => h, hsize, prs, hblk, fun b hb hn => ?_, ?_, fun _ h => .inl h, hos, htape, hout⟩, by rw [hln]; omega, hmono, fun id i hi hn => ?_, fun _ h => .inl h, fun id hd => ?_⟩, ⟨fun id i hid hi hd => ?_, fun id hid hd => ?_, fun id i hi hd hl => ?_, fun id id' i j hi hj hd hd' hl hl' hb => ?_, fun b hb => Nat.lt_of_lt_of_le (hs.plow b hb) hsize, fun id i hi hd hl hp => ?_, ⟨?_, ?_, ?_, ?_, ?_⟩, fun id i fx f ys fl hid hi hd hg => ?_⟩, hmn, t⟩
  · exact honly b hb fun ⟨id, h1, h2⟩ => hn ⟨id, (hids id h1).1, (hids id h1).2.1, h2⟩
  · rintro b ⟨k, h1, h2, h3⟩
    rw [hln] at h1
    by_cases hk : k = h.length
    · subst hk
      rcases h3 with (⟨_, hFb⟩ | ⟨hne, _⟩) | ⟨i, hi, hl, hb⟩
      · obtain ⟨id, q1, q2⟩ := (hF b hFb).1; exact .inr ⟨id, (hids id q1).1, (hids id q1).2.1, q2⟩
      · exact absurd rfl hne
      · rw [hmn] at hi; cases hi
        subst hb
        rcases hbn with hbn | ⟨id, q1, q2⟩
        · exact .inl hbn
        · exact .inr ⟨id, (hids id q1).1, (hids id q1).2.1, q2⟩
    · exact .inr ⟨k, by omega, (nd h2).1, atn hk h3⟩
  · by_cases hk : id = h.length
    · subst hk; rw [hln]; exact ⟨Nat.le_refl _, by omega⟩
    · rw [hm id hk, hn] at hi; cases hi
  · rcases hd with hd | hd
    · exact .inl hd
    · exact .inr (by rw [hln]; have := (hids id hd).1; omega)
  · rw [hln] at hid
    by_cases hk : id = h.length
    · subst hk
      rw [hmn] at hi; cases hi
      exact ⟨_, hgn, hlen, hes, hpos, hfull, fun _ => hloc, fun _ => hbk, DRow.rep (c := c') hrow⟩
    · rw [hm id hk] at hi
      obtain ⟨o, ho, hr⟩ := hs.obj id i (by omega) hi (nd hd).1
      refine ⟨o, by rw [hgo id (by omega), (killAll_get ids h).1 (nd hd).2]; exact ho, hr.mono t fun hl => stay (nd hd).1 (nd hd).2 (.inr ⟨i, hi, hl, rfl⟩)⟩
  · rw [hln] at hid
    by_cases hk : id = h.length
    · subst hk; exact absurd hd (fun h => h.elim hf.2 hnew)
    · rw [hgo id (by omega)]
      by_cases hm' : id ∈ ids
      · exact (killAll_get ids h).2 hm'
      · rw [(killAll_get ids h).1 hm']; exact hs.gone id (by omega) (hd.resolve_right hm')
  · by_cases hk : id = h.length
    · subst hk; rw [hmn] at hi; cases hi; exact hb'
    · rw [hm id hk] at hi; exact low' (nd hd).1 (.inr ⟨i, hi, hl, rfl⟩)
  · by_cases hk : id = h.length
    · by_cases hk' : id' = h.length
      · rw [hk, hk']
      · subst hk
        rw [hmn] at hi; cases hi
        rw [hm id' hk'] at hj
        exact absurd hb.symm (newoff hd' hk' (.inr ⟨j, hj, hl', rfl⟩))
    · rw [hm id hk] at hi
      by_cases hk' : id' = h.length
      · subst hk'
        rw [hmn] at hj; cases hj
        exact absurd hb (newoff hd hk (.inr ⟨i, hi, hl, rfl⟩))
      · rw [hm id' hk'] at hj
        exact hs.inj id id' i j hi hj (nd hd).1 (nd hd').1 hl hl' hb
  · by_cases hk : id = h.length
    · subst hk
      rw [hmn] at hi; cases hi
      rcases hbn with hbn | ⟨id, q1, q2⟩
      · have := hs.plow _ hp; omega
      · exact hs.at_apart (hids id q1).2.1 q2 hp
    · rw [hm id hk] at hi
      exact hs.apart id i hi (nd hd).1 hl hp
  · rintro id b hd (⟨rfl, hFb⟩ | ⟨hne, ho⟩)
    · obtain ⟨id, q1, q2⟩ := (hF b hFb).1; exact low' (hids id q1).2.1 q2
    · exact low' (nd hd).1 (.inl ho)
  · rintro id id' b hd hd' (⟨rfl, hFb⟩ | ⟨hne, ho⟩) (⟨rfl, hFb'⟩ | ⟨hne', ho'⟩)
    · rfl
    · exact absurd hFb (Foff hd' hne' (.inl ho'))
    · exact absurd hFb' (Foff hd hne (.inl ho))
    · exact hs.own.inj id id' b (nd hd).1 (nd hd').1 ho ho'
  · rintro id id' i hd hd' hi hl (⟨rfl, hFb⟩ | ⟨hne, ho⟩)
    · by_cases hk : id' = h.length
      · subst hk; rw [hmn] at hi; cases hi; exact (hF _ hFb).2 rfl
      · rw [hm id' hk] at hi; exact Foff hd' hk (.inr ⟨i, hi, hl, rfl⟩) hFb
    · by_cases hk : id' = h.length
      · subst hk; rw [hmn] at hi; cases hi; exact newoff hd hne (.inl ho) rfl
      · rw [hm id' hk] at hi; exact hs.own.row id id' i (nd hd).1 (nd hd').1 hi hl ho
  · rintro id b hd (⟨rfl, hFb⟩ | ⟨hne, ho⟩)
    · obtain ⟨id, q1, q2⟩ := (hF b hFb).1; exact hs.at_apart (hids id q1).2.1 q2
    · exact hs.own.apart id b (nd hd).1 ho
  · rintro id b (⟨rfl, hFb⟩ | ⟨hne, ho⟩)
    · rw [hmn]; simp
    · rw [hm id hne]; exact hs.own.told id b ho
  · rw [hln] at hid
    by_cases hk : id = h.length
    · subst hk
      rw [hmn] at hi; cases hi
      rw [hgn] at hg; cases hg
      exact ⟨hrow.mono (fun _ => rfl) (fun k hk => .inl ⟨rfl, hk⟩) fun _ _ _ _ q => q, fun h => (by cases h), fun a b v hv => absurd hv (hhd a b v)⟩
    · rw [hm id hk] at hi
      rw [hgo id (by omega), (killAll_get ids h).1 (nd hd).2] at hg
      exact hs.deepStay (by omega) hi (nd hd).1 hg (fun b hb => .inr ⟨hk, hb⟩) fun b hb => stay (nd hd).1 (nd hd).2 hb
theorem lies_eq {w : World} {b o : Nat} {vs us : List Value} (h1 : Lies w b o vs) (h2 : Lies w b o us) (hl : vs.length = us.length) : vs = us := by
  refine List.ext_getElem? fun j => ?_
  rcases Nat.lt_or_ge j vs.length with hj | hj
  · have e1 := List.getElem?_eq_getElem hj
    have e2 := List.getElem?_eq_getElem (l := us) (i := j) (by omega)
    have q1 := h1 j _ e1
    have q2 := h2 j _ e2
    rw [q1] at q2
    rw [e1, e2, Option.some.inj q2]
  · rw [List.getElem?_eq_none hj, List.getElem?_eq_none (by omega)]
/-- A deep row's cells, element by element. -/
theorem drow_list {c : Ctx} {e : Ty} {F : Nat → Prop} {b base : Nat} {xs : List e.C} (h : DRow c.w e.size (DCells c.w e) F b base xs) :
    ∃ (G : Nat → Nat → Prop) (L : List (List Value)), L.length = List.length xs ∧ (∀ vs ∈ L, vs.length = e.size) ∧ (∀ vs ∈ L, ∀ v ∈ vs, v.oneCell' = true) ∧ Lies c.w b base L.flatten ∧
      (∀ (j : Nat) (x : e.C) vs, xs[j]? = some x → L[j]? = some vs → DCells c.w e x vs (G j)) ∧ (∀ j k, G j k → F k ∧ k ≠ b) ∧ ∀ j j' k, G j k → G j' k → j = j' := by
  obtain ⟨L, hL, hl⟩ := contRep_iff.1 (DRow.rep (fx := false) h)
  obtain ⟨G, g1, g2, g3⟩ := h
  have hes : ∀ vs ∈ L, vs.length = e.size := ContV.es hL
  have hln : L.length = List.length xs := ContV.len hL
  refine ⟨G, L, hln, hes, fun vs hv v hvv => ContV.one hL v (List.mem_flatten.2 ⟨vs, hv, hvv⟩), hl, fun j x vs hx hv => ?_, g1, g2⟩
  obtain ⟨us, u1, u2, u3⟩ := g3 j x hx
  have hlt : j < L.length := (List.getElem?_eq_some_iff.1 hv).1
  have hvs : ((L.flatten.drop (j * e.size)).take (1 * e.size)) = vs := by
    rw [flat_drop j hes, flat_take 1 (fun vs hv => hes vs (List.mem_of_mem_drop hv))]
    have : L.drop j = vs :: L.drop (j + 1) := by rw [List.drop_eq_getElem_cons hlt, (List.getElem?_eq_some_iff.1 hv).2]
    rw [this]; simp
  have h1 := (hl.drop (j * e.size)).take (1 * e.size)
  rw [hvs] at h1
  rw [lies_eq h1 u2 (by rw [hes vs (List.mem_of_getElem? hv), u1])]
  exact u3
/-- Two rows' elements, in one place. -/
theorem drow_cat {w w' : World} {e : Ty} {F1 F2 F : Nat → Prop} {b o : Nat} {xs ys : List e.C} {L M : List (List Value)} {G1 G2 : Nat → Nat → Prop} (hlL : L.length = List.length xs) (hlM : M.length = List.length ys) (hL : ∀ vs ∈ L, vs.length = e.size) (hM : ∀ vs ∈ M, vs.length = e.size)
    (hlie : Lies w' b o (L ++ M).flatten) (h1 : ∀ (j : Nat) (x : e.C) vs, xs[j]? = some x → L[j]? = some vs → DCells w e x vs (G1 j)) (h2 : ∀ (j : Nat) (x : e.C) vs, ys[j]? = some x → M[j]? = some vs → DCells w e x vs (G2 j))
    (g1 : ∀ j k, G1 j k → F1 k) (g2 : ∀ j k, G2 j k → F2 k) (i1 : ∀ j j' k, G1 j k → G1 j' k → j = j') (i2 : ∀ j j' k, G2 j k → G2 j' k → j = j') (hdis : ∀ k, F1 k → F2 k → False)
    (s1 : ∀ j k, G1 j k → w'.heap[k]? = w.heap[k]? ∧ F k ∧ k ≠ b) (s2 : ∀ j k, G2 j k → w'.heap[k]? = w.heap[k]? ∧ F k ∧ k ≠ b) : DRow w' e.size (DCells w' e) F b o (xs ++ ys) := by
  refine ⟨fun j => if j < List.length xs then G1 j else G2 (j - List.length xs), fun j k hk => ?_, fun j j' k hk hk' => ?_, fun j x hj => ?_⟩
  · by_cases hj : j < List.length xs
    · simp only [hj, if_true] at hk; exact (s1 j k hk).2
    · simp only [hj, if_false] at hk; exact (s2 _ k hk).2
  · by_cases hj : j < List.length xs
    · by_cases hj' : j' < List.length xs
      · simp only [hj, hj', if_true] at hk hk'; exact i1 j j' k hk hk'
      · simp only [hj, if_true] at hk; simp only [hj', if_false] at hk'
        exact (hdis k (g1 _ k hk) (g2 _ k hk')).elim
    · by_cases hj' : j' < List.length xs
      · simp only [hj, if_false] at hk; simp only [hj', if_true] at hk'
        exact (hdis k (g1 _ k hk') (g2 _ k hk)).elim
      · simp only [hj, hj', if_false] at hk hk'
        have := i2 _ _ k hk hk'; omega
  · have hall : ∀ vs ∈ L ++ M, vs.length = e.size := fun vs hv => (List.mem_append.1 hv).elim (hL vs) (hM vs)
    have hlt : j < (xs ++ ys).length := (List.getElem?_eq_some_iff.1 hj).1
    have hlt2 : j < (L ++ M).length := by rw [List.length_append] at hlt ⊢; omega
    have hv := List.getElem?_eq_getElem hlt2
    generalize (L ++ M)[j] = vs at hv
    have hvs : (((L ++ M).flatten.drop (j * e.size)).take (1 * e.size)) = vs := by
      rw [flat_drop j hall, flat_take 1 (fun vs hv => hall vs (List.mem_of_mem_drop hv))]
      have : (L ++ M).drop j = vs :: (L ++ M).drop (j + 1) := by rw [List.drop_eq_getElem_cons hlt2, (List.getElem?_eq_some_iff.1 hv).2]
      rw [this]; simp
    have hl1 := (hlie.drop (j * e.size)).take (1 * e.size)
    rw [hvs] at hl1
    refine ⟨vs, hall vs (List.mem_of_getElem? hv), hl1, ?_⟩
    by_cases hjx : j < List.length xs
    · simp only [hjx, if_true]
      rw [List.getElem?_append_left hjx] at hj
      rw [List.getElem?_append_left (by omega)] at hv
      exact (h1 j x vs hj hv).mono (fun k hk => (s1 j k hk).1) fun _ h => h
    · simp only [hjx, if_false]
      rw [List.getElem?_append_right (by omega)] at hj
      rw [List.getElem?_append_right (by omega), hlL] at hv
      exact (h2 _ x vs hj hv).mono (fun k hk => (s2 _ k hk).1) fun _ h => h

section
variable {ρ : Type} {P : Program} {E : Env} {s : List AV} {h : Heap} {o : Oper} {x : ρ}
theorem appendD_ok (hT : TOk P E) {c : Go.Call} (ho : o.op = .call c) (hcal : c.callee = .builtin .append) {yx yy : Operand} (ha : c.args = #[yx, yy]) {t u e : TypeId} (h0 : c.argTypes[0]? = some t) (h1 : c.argTypes[1]? = some u)
    (hkt : kindOf E t = some (.slice e)) (hku : (∃ e', kindOf E u = some (.slice e')) ∨ kindOf E u = some .str) {ti : TI} (hti : E.ty e = some ti) {ax ay : AV} (hxa : aeval s yx = ax) (hya : aeval s yy = ay) {te : Ty} {xs ys : List te.C} {i1 i2 : List Nat}
    (htx : takeT h (.row te) [ax] = some (xs, i1)) (hty : takeT h (.row te) [ay] = some (ys, i2)) (hon : once (i1 ++ i2) = true) (hsz : te.size = ti.size) (hpos : 0 < ys.length) (hp1 : 0 < ti.size) (hp2 : 0 < ti.bytes) (hlim : (catR te xs ys).length * ti.bytes ≤ lim)
    {K : AV → Heap → Bool → Option ρ} (hk : K (.sl h.length) (killAll h (i1 ++ i2) ++ [some ⟨.deep false te (catR te xs ys), false⟩]) true = some x) : Told P s h o K x := by
  have hu := hT.slice hkt
  have hU : (∃ e', P.underlying u = some (.slice e')) ∨ P.underlying u = some .string := by
    rcases hku with ⟨e', he'⟩ | hs
    · exact .inl ⟨e', hT.slice he'⟩
    · exact .inr (hT.str hs)
  have ty := hT.is hti
  have hnd := once_ok hon
  obtain ⟨n1, n2, n3⟩ := List.nodup_append.1 hnd
  have hlc : (catR te xs ys).length = xs.length + ys.length := List.length_append
  have hmx : ax ∈ o.op.operands.toList.map (aeval s) := by rw [ho, ← hxa]; simp [Op.operands, Go.Call.operands, hcal, ha]
  have hmy : ay ∈ o.op.operands.toList.map (aeval s) := by rw [ho, ← hya]; simp [Op.operands, Go.Call.operands, hcal, ha]
  have one_cells : ∀ {a : AV} {z : List te.C} {is : List Nat}, takeT h (.row te) [a] = some (z, is) → a.cells = [a] := fun {a z is} ht => by
    rcases take_row ht with ⟨h1, _⟩ | ⟨id, _, h1, _⟩ <;> (cases h1; rfl)
  have keep : ∀ {a : AV} {z : List te.C} {is : List Nat}, takeT h (.row te) [a] = some (z, is) → a ∈ o.op.operands.toList.map (aeval s) → ∀ j, touch j (opVals s h o.op) = false → j ∉ is := fun {a z is} ht hm j hj hin => by
    have hcl := one_cells ht
    cases hr : isRaw h a with
    | true => rw [all_vals hm (c := a) (by rw [hcl]; simp) hr j] at hj; cases hj
    | false =>
      have := takeT_ids ht (fun q hq => by simp only [List.mem_singleton] at hq; subst hq; exact hr) j hin
      have h2 := cells_tells (v := a) (j := j) (by rw [hcl]; exact this)
      rw [touch_of hj (mem_vals hm)] at h2; cases h2
  refine ⟨_, _, _, hk, ?_, by simp [killAll_len], fun h => (by cases h), fun j hj ht => ?_⟩
  rotate_left
  · rw [hget_app (by rw [killAll_len]; exact hj)]
    exact killAll_ne fun hm => (List.mem_append.1 hm).elim (keep htx hmx j ht) (keep hty hmy j ht)
  intro c0 ac hs hfr hsl next Q hn
  have hf := hfr h.length (Nat.le_refl _) (by simp [killAll_len])
  have hrx := hsl.eval yx; rw [hxa] at hrx
  have hry := hsl.eval yy; rw [hya] at hry
  obtain ⟨dx, idx1⟩ := take_rep hs (t := .row te) (cs := [ax]) (vs := [ac.eval yx]) ⟨hrx, trivial⟩ htx n1
  obtain ⟨dy, idx2⟩ := take_rep hs (t := .row te) (cs := [ay]) (vs := [ac.eval yy]) ⟨hry, trivial⟩ hty n2
  have hids : ∀ id, id ∈ i1 ++ i2 → id < h.length ∧ ¬ c0.dead id ∧ c0.m id ≠ none := fun id hid => (List.mem_append.1 hid).elim (idx1 id) (idx2 id)
  have hdis : ∀ k, (∃ id, id ∈ i1 ∧ c0.at id k) → (∃ id, id ∈ i2 ∧ c0.at id k) → False := fun k ⟨a, a1, a2⟩ ⟨b, b1, b2⟩ =>
    n3 a a1 b b1 (hs.at_inj (idx1 a a1).2.1 (idx2 b b1).2.1 a2 b2)
  have low1 : ∀ k, (∃ id, id ∈ i1 ∧ c0.at id k) → k < c0.w.heap.size := fun k ⟨a, a1, a2⟩ => hs.at_low (idx1 a a1).2.1 a2
  have low2 : ∀ k, (∃ id, id ∈ i2 ∧ c0.at id k) → k < c0.w.heap.size := fun k ⟨a, a1, a2⟩ => hs.at_low (idx2 a a1).2.1 a2
  have both : ∀ k, ((∃ id, id ∈ i1 ∧ c0.at id k) ∨ ∃ id, id ∈ i2 ∧ c0.at id k) → ∃ id, id ∈ i1 ++ i2 ∧ c0.at id k := fun k hk => by
    rcases hk with ⟨a, a1, a2⟩ | ⟨a, a1, a2⟩
    · exact ⟨a, List.mem_append_left _ a1, a2⟩
    · exact ⟨a, List.mem_append_right _ a1, a2⟩
  -- what is appended
  simp only [DCells] at dy
  rcases dy with ⟨y0, _⟩ | ⟨by', oy, capy, ny, hvy, hley, hFy, hby, hfity, hDy⟩
  · omega
  simp only [List.cons.injEq, and_true] at hvy
  obtain ⟨G2, M, hlM, hMs, hM1, hMl, hM2, gM1, gM2⟩ := drow_list hDy
  have hfirstM : ∀ w, w = c0.w ∨ w = c0.w.drew → (Builtin.firstCells ti.size (ys.length) (ac.eval yy)).run P w = .ok M.flatten.toArray w := by
    intro w hw
    have := run_first (P := P) (w := w) (A := some ⟨by', oy, none⟩) (cap := capy) (es := ti.size) (n := ys.length) (len := ys.length) (L := M) (by rw [← hsz]; exact hMs) hlM (Nat.le_refl _) (fun _ => ⟨by', oy, rfl, by rcases hw with rfl | rfl <;> exact hMl⟩)
    rw [← hlM, List.take_length, hlM] at this
    rw [hvy]; exact this
  have hlenY : ∀ w, (Builtin.lenOf (ac.eval yy)).run P w = .ok (ys.length) w := fun w => by rw [hvy]; simp [Builtin.lenOf]
  -- a new block
  have fresh : ∀ (A : Option Addr) (cap : Nat) (G1 : Nat → Nat → Prop) (L : List (List Value)), ac.eval yx = .slice A (xs.length) cap → cap < xs.length + ys.length → L.length = xs.length → (∀ vs ∈ L, vs.length = te.size) → (0 < xs.length → ∃ b o, A = some ⟨b, o, none⟩ ∧ Lies c0.w b o L.flatten) →
      (∀ (j : Nat) (x : te.C) vs, xs[j]? = some x → L[j]? = some vs → DCells c0.w te x vs (G1 j)) → (∀ j k, G1 j k → ∃ id, id ∈ i1 ∧ c0.at id k) → (∀ j j' k, G1 j k → G1 j' k → j = j') → o.wp P ac c0.w next Q := by
    intro A cap G1 L hvx hcap hlL hLs hlie hL2 g1 g2
    have hold : (Builtin.firstCells ti.size (xs.length) (.slice A (xs.length) cap)).run P c0.w.drew = .ok L.flatten.toArray c0.w.drew := by
      have := run_first (P := P) (w := c0.w.drew) (A := A) (cap := cap) (es := ti.size) (n := xs.length) (len := xs.length) (L := L) (by rw [← hsz]; exact hLs) hlL (Nat.le_refl _) (fun h => by obtain ⟨b, o, q1, q2⟩ := hlie h; exact ⟨b, o, q1, q2⟩)
      rwa [← hlL, List.take_length, hlL] at this
    have hall : ∀ vs ∈ L ++ M, vs.length = ti.size := fun vs hv => by rw [← hsz]; exact (List.mem_append.1 hv).elim (hLs vs) (hMs vs)
    obtain ⟨cap', w', D, hr, hp, hge, hfit⟩ := app_more (P := P) (w := c0.w) (ty := o.type) ty h0 h1 hu hU (hlenY c0.w) (L := L) (M := M) (A := A) (cap := cap) hold (hfirstM _ (.inr rfl)) hlL hlM hall hcap hp2 (by rw [← hlc]; exact hlim)
    rw [← hvx] at hr
    have hr := run_call_append ho hcal ha hr
    have hDR : DRow w' te.size (DCells w' te) (fun k => (∃ id, id ∈ i1 ++ i2 ∧ c0.at id k) ∧ k ≠ c0.w.heap.size) c0.w.heap.size 0 (catR te xs ys) :=
      drow_cat (F1 := fun k => ∃ id, id ∈ i1 ∧ c0.at id k) (F2 := fun k => ∃ id, id ∈ i2 ∧ c0.at id k) hlL hlM hLs hMs hp.lies hL2 hM2 g1 (fun j k hk => (gM1 j k hk).1) g2 gM2 hdis
        (fun j k hk => ⟨hp.old k (low1 k (g1 j k hk)), ⟨both k (.inl (g1 j k hk)), by have := low1 k (g1 j k hk); omega⟩, by have := low1 k (g1 j k hk); omega⟩)
        (fun j k hk => ⟨hp.old k (low2 k (gM1 j k hk).1), ⟨both k (.inr (gM1 j k hk).1), by have := low2 k (gM1 j k hk).1; omega⟩, by have := low2 k (gM1 j k hk).1; omega⟩)
    have hlf : ((L ++ M).flatten ++ D).length = (xs.length + ys.length) * te.size + D.length := by
      rw [List.length_append, flat_len (es := te.size) (fun vs hv => by rw [hsz]; exact hall vs hv), List.length_append, hlL, hlM]
    obtain ⟨c', hw, k1, k2, k3, k4⟩ := absorbN hs hf hids (w' := w') (i' := inf true c0.w.heap.size 0 ((catR te xs ys).length) te.size false) (F := fun k => (∃ id, id ∈ i1 ++ i2 ∧ c0.at id k) ∧ k ≠ c0.w.heap.size) (e := te) (xs := catR te xs ys)
      (by rw [hp.size]; omega) (fun b hb _ => hp.old b hb) hp.blk hp.os hp.tape hp.output rfl (by show c0.w.heap.size < w'.heap.size; rw [hp.size]; omega) (.inl (Nat.le_refl _)) (fun _ _ _ h => h) (fun b hb => hb) hDR rfl rfl (by show 0 < te.size; omega) rfl
      ⟨_, hp.blkNew, by show 0 + (catR te xs ys).length * te.size ≤ _; rw [hlf, hlc]; omega⟩
    unfold Oper.wp
    rw [hr, ← hw]
    refine hn c' _ k1 k2 ?_ (fun h => by cases h)
    simp only [VRep, slRep]
    refine ⟨⟨_, _, _, rfl⟩, .inr ⟨_, k3, .inl ⟨rfl, cap', _, by show Value.slice _ _ _ = Value.slice _ _ _; rw [hlc], by show (catR te xs ys).length ≤ cap'; rw [hlc]; exact hge, by rw [hw]; exact hp.blkNew, by show 0 + cap' * te.size ≤ _; rw [hsz, Nat.zero_add]; exact hfit, fun h => by cases h⟩⟩⟩
  simp only [DCells] at dx
  rcases dx with ⟨x0, A, hvx⟩ | ⟨b, ob, cap, n, hvx, hle, hFx, hb, hfit, hDx⟩
  · simp only [List.cons.injEq, and_true] at hvx
    have hx0 : xs = [] := List.eq_nil_of_length_eq_zero x0
    subst hx0
    exact fresh A 0 (fun _ _ => False) [] hvx (by show 0 < 0 + ys.length; omega) rfl (by simp) (fun h => absurd h (by simp)) (fun j x vs hj => by simp at hj) (fun _ _ h => h.elim) (fun _ _ _ h => h.elim)
  simp only [List.cons.injEq, and_true] at hvx
  obtain ⟨G1, L, hlL, hLs, hL1, hLl, hL2, gL1, gL2⟩ := drow_list hDx
  by_cases hroom : xs.length + ys.length ≤ cap
  rotate_left
  · exact fresh (some ⟨b, ob, none⟩) cap G1 L hvx (by omega) hlL hLs (fun _ => ⟨b, ob, rfl, hLl⟩) hL2 (fun j k hk => (gL1 j k hk).1) gL2
  have hMf : M.flatten.length = ys.length * te.size := by rw [flat_len (es := te.size) hMs, hlM]
  have hLf : L.flatten.length = xs.length * te.size := by rw [flat_len (es := te.size) hLs, hlL]
  have hmul : (xs.length + ys.length) * te.size ≤ cap * te.size := Nat.mul_le_mul_right _ hroom
  rw [Nat.add_mul] at hmul
  have hst := run_store_blk (P := P) hb (o := ob + xs.length * te.size) (vs := M.flatten) (by rw [hMf]; omega) (fun v hv => by obtain ⟨vs, q1, q2⟩ := List.mem_flatten.1 hv; exact hM1 vs q1 v q2)
  have hr := run_append_room (P := P) (w := c0.w) (w' := c0.w.setCells b (ob + xs.length * te.size) M.flatten) (ty := o.type) h0 h1 hu hU ty.size (hlenY c0.w) (hfirstM _ (.inl rfl)) (A := some ⟨b, ob, none⟩) (len := xs.length) (cap := cap) hroom
    (fun a hA => by cases hA; rw [add_none, ← hsz]; exact hst) (fun h => by cases h)
  rw [← hvx] at hr
  have hr := run_call_append ho hcal ha hr
  have only := only_setCells b M.flatten (ob + xs.length * te.size) c0.w
  have off2 : ∀ k, (∃ id, id ∈ i2 ∧ c0.at id k) → k ≠ b := fun k hk he => hdis b hFx (he ▸ hk)
  have hDR : DRow (c0.w.setCells b (ob + xs.length * te.size) M.flatten) te.size (DCells (c0.w.setCells b (ob + xs.length * te.size) M.flatten) te) (fun k => (∃ id, id ∈ i1 ++ i2 ∧ c0.at id k) ∧ k ≠ b) b ob (catR te xs ys) := by
    refine drow_cat (F1 := fun k => ∃ id, id ∈ i1 ∧ c0.at id k) (F2 := fun k => ∃ id, id ∈ i2 ∧ c0.at id k) hlL hlM hLs hMs ?_ hL2 hM2 (fun j k hk => (gL1 j k hk).1) (fun j k hk => (gM1 j k hk).1) gL2 gM2 hdis
      (fun j k hk => ⟨only.other k (gL1 j k hk).2, ⟨both k (.inl (gL1 j k hk).1), (gL1 j k hk).2⟩, (gL1 j k hk).2⟩)
      (fun j k hk => ⟨only.other k (off2 k (gM1 j k hk).1), ⟨both k (.inr (gM1 j k hk).1), off2 k (gM1 j k hk).1⟩, off2 k (gM1 j k hk).1⟩)
    rw [List.flatten_append]
    refine Lies.append (lies_set_out (.inl (by rw [hLf]; exact Nat.le_refl _)) hLl) ?_
    rw [hLf]
    exact lies_set_in hb (by rw [hMf]; omega)
  obtain ⟨c', hw, k1, k2, k3, k4⟩ := absorbN hs hf hids (i' := inf true b ob ((catR te xs ys).length) te.size false) (F := fun k => (∃ id, id ∈ i1 ++ i2 ∧ c0.at id k) ∧ k ≠ b) (e := te) (xs := catR te xs ys)
    (Nat.le_of_eq only.size.symm) (fun k hk hno => only.other k fun e => hno (both k (.inl (e ▸ hFx)))) only.blk only.os only.tape only.output rfl (by show b < _; rw [only.size]; exact low1 b hFx) (.inr (both b (.inl hFx))) (fun _ _ _ h => h) (fun b hb => hb) hDR rfl rfl (by show 0 < te.size; omega) rfl
    ⟨n, only.blk _ _ hb, by show ob + (catR te xs ys).length * te.size ≤ n; rw [hlc, Nat.add_mul]; omega⟩
  unfold Oper.wp
  rw [hr, ← hw]
  refine hn c' _ k1 k2 ?_ (fun h => by cases h)
  simp only [VRep, slRep]
  refine ⟨⟨_, _, _, rfl⟩, .inr ⟨_, k3, .inl ⟨rfl, cap, n, by show Value.slice _ _ _ = Value.slice _ _ _; rw [hlc], by show (catR te xs ys).length ≤ cap; rw [hlc]; exact hroom, by rw [hw]; exact only.blk _ _ hb, hfit, fun h => by cases h⟩⟩⟩
theorem told_appendD (hT : TOk P E) {c : Go.Call} (ho : o.op = .call c) (hcal : c.callee = .builtin .append) {yx yy : Operand} (ha : c.args = #[yx, yy]) {t u e : TypeId} (h0 : c.argTypes[0]? = some t) (h1 : c.argTypes[1]? = some u)
    (hkt : kindOf E t = some (.slice e)) (hku : (∃ e', kindOf E u = some (.slice e')) ∨ kindOf E u = some .str) {ti : TI} (hti : E.ty e = some ti) {K : AV → Heap → Bool → Option ρ} (hk : aappendD ti (aeval s yx) (aeval s yy) h K = some x) : Told P s h o K x := by
  unfold aappendD at hk
  split at hk
  · cases hk
  rename_i te hte
  split at hk
  rotate_left
  · cases hk
  rename_i xs i1 ys i2 htx hty
  cases hc : (once (i1 ++ i2) && (te.size == ti.size) && Nat.blt 0 (List.length (α := te.C) ys) && Nat.blt 0 ti.size && Nat.blt 0 ti.bytes) with
  | false => rw [hc] at hk; cases hk
  | true =>
    rw [hc, cond_true] at hk
    simp only [Bool.and_eq_true, beq_iff_eq, Nat.blt_eq] at hc
    obtain ⟨⟨⟨⟨hon, hsz⟩, hpos⟩, hp1⟩, hp2⟩ := hc
    by_cases hlim : List.length (catR te xs ys) * ti.bytes ≤ lim
    · rw [decide_eq_true hlim, cond_true] at hk
      exact appendD_ok hT ho hcal ha h0 h1 hkt hku hti rfl rfl htx hty hon hsz hpos hp1 hp2 hlim hk
    · rw [decide_eq_false hlim] at hk; cases hk
end
end Go.AM
namespace Go.AM

/-! Soundness: append, told. -/
section
variable {ρ : Type} {P : Program} {E : Env} {s : List AV} {h : Heap} {o : Oper} {x : ρ}

theorem OpOk.fin {v : AV} {h' : Heap} {mod : Bool} (run : ∀ c a, Sim c h → Free c h h' → Slots c s a → ∃ v' c', (execOp a.eval o).run P c.w = .ok (.value v') c'.w ∧ Ext c h c' h' ∧ Sim c' h' ∧ VRep c' v v' ∧ (mod = false → Grow c h c' h'))
    (hp : Sta (opVals s h o.op) h h' mod := by exact (Pre.snoc _ _).sta _) : OpOk P s h o v h' mod := by
  refine ⟨?_, hp⟩
  intro c a hs hf hsl next Q hn
  obtain ⟨v', c', hr, h1, h2, h3, h4⟩ := run c a hs hf hsl
  unfold Oper.wp
  rw [hr]
  exact hn c' v' h1 h2 h3 h4

theorem isNil_len {ct : Cont} (h : ct.isNil = true) : ct.len = 0 := by
  unfold Cont.isNil at h
  split at h
  · rfl
  · rfl
  · cases h

theorem told_append (hT : TOk P E) {c : Go.Call} (ho : o.op = .call c) (hcal : c.callee = .builtin .append) {yx yy : Operand} (ha : c.args = #[yx, yy]) {t u e : TypeId} (h0 : c.argTypes[0]? = some t) (h1 : c.argTypes[1]? = some u)
    (hkt : kindOf E t = some (.slice e)) (hku : (∃ e', kindOf E u = some (.slice e')) ∨ kindOf E u = some .str) {K : AV → Heap → Bool → Option ρ} (hk : aappend E e (aeval s yx) (aeval s yy) h K = some x) : Told P s h o K x := by
  have hu := hT.slice hkt
  have hU : (∃ e', P.underlying u = some (.slice e')) ∨ P.underlying u = some .string := by
    rcases hku with ⟨e', he'⟩ | hs
    · exact .inl ⟨e', hT.slice he'⟩
    · exact .inr (hT.str hs)
  generalize hxa : aeval s yx = ax at hk
  generalize hya : aeval s yy = ay at hk
  unfold aappend at hk
  split at hk
  · cases hk
  · rename_i ti hti
    have ty := hT.is hti
    cases hdr : (ti.deep && (isRaw h ay || isDp h ax || isDp h ay)) with
    | true =>
      rw [hdr, cond_true, ← hxa, ← hya] at hk
      exact told_appendD hT ho hcal ha h0 h1 hkt hku hti hk
    | false =>
    rw [hdr, cond_false] at hk
    by_cases hpos : (Nat.blt 0 ti.size && Nat.blt 0 ti.bytes) = true
    · simp only [hpos, cond_true] at hk
      simp only [Bool.and_eq_true, Nat.blt_eq] at hpos
      split at hk
      · cases hk
      · rename_i ys hys
        -- what a run comes to, once all is told of where it goes
        have core : ∀ (c0 : Ctx) (ac : Act), Sim c0 h → Slots c0 s ac → ys.es = ti.size → ∃ M, ContV c0 ys M ∧ (∀ w, (Builtin.lenOf (ac.eval yy)).run P w = .ok ys.len w) ∧
            (Builtin.firstCells ti.size ys.len (ac.eval yy)).run P c0.w = .ok M.flatten.toArray c0.w ∧ (Builtin.firstCells ti.size ys.len (ac.eval yy)).run P c0.w.drew = .ok M.flatten.toArray c0.w.drew := by
          intro c0 ac hs hsl hes
          have hr := hsl.eval yy; rw [hya] at hr
          obtain ⟨M, hM, hl, hfirst⟩ := src_rep hs ty hr hys hes
          have := hfirst ys.len (Nat.le_refl _)
          rw [← hM.len, List.take_length] at this
          rw [hM.len] at this
          exact ⟨M, hM, hl, this⟩
        -- a new row
        have more : ∀ (c0 : Ctx) (ac : Act) (A : Option Addr) (cap : Nat) (a ct : Cont) (L M : List (List Value)), ac.eval yx = .slice A a.len cap → ContV c0 a L → a.es = ti.size → (0 < a.len → ∃ b o, A = some ⟨b, o, none⟩ ∧ Lies c0.w b o L.flatten) → ContV c0 ys M → a.app ys = some ct →
            (∀ w, (Builtin.lenOf (ac.eval yy)).run P w = .ok ys.len w) → (Builtin.firstCells ti.size ys.len (ac.eval yy)).run P c0.w.drew = .ok M.flatten.toArray c0.w.drew → cap < ct.len → ct.len * ti.bytes ≤ lim →
            ∃ cap' w' D, (execOp ac.eval o).run P c0.w = .ok (.value (.slice (some ⟨c0.w.heap.size, 0, none⟩) ct.len cap')) w' ∧ Pushed c0.w w' ((L ++ M).flatten ++ D) ∧ ContV c0 ct (L ++ M) ∧ (0 < ct.es ∧ ct.isDeep = false) ∧ ct.len ≤ cap' ∧ cap' * ct.es ≤ ((L ++ M).flatten ++ D).length := by
          intro c0 ac A cap a ct L M hv hL hes hlie hM happ hlen hfirst hcap hlim
          obtain ⟨hN, hctl, hcte⟩ := hL.app hM happ
          have hold : (Builtin.firstCells ti.size a.len (.slice A a.len cap)).run P c0.w.drew = .ok L.flatten.toArray c0.w.drew := by
            have := run_first (P := P) (w := c0.w.drew) (A := A) (cap := cap) (es := ti.size) (n := a.len) (len := a.len) (L := L) (by rw [← hes]; exact hL.es) hL.len (Nat.le_refl _) (fun h => by obtain ⟨b, o, q1, q2⟩ := hlie h; exact ⟨b, o, q1, q2⟩)
            rwa [← hL.len, List.take_length, hL.len] at this
          obtain ⟨cap', w', D, hr, hp, hge, hfit⟩ := app_more (P := P) (w := c0.w) (ty := o.type) ty h0 h1 hu hU (hlen c0.w) (L := L) (M := M) (A := A) (cap := cap) hold hfirst hL.len hM.len (by rw [← hes, ← hcte]; exact hN.es) (by omega) hpos.2 (by rw [← hctl]; exact hlim)
          rw [← hv, ← hctl] at hr
          refine ⟨cap', w', D, run_call_append ho hcal ha hr, hp, hN, ⟨by rw [hcte, hes]; exact hpos.1, Cont.app_plain happ⟩, by omega, by rw [hcte, hes]; exact hfit⟩
        -- room
        have room : ∀ (c0 : Ctx) (ac : Act) (A : Option Addr) (cap : Nat) (a ct : Cont) (L M : List (List Value)) (w' : World), ac.eval yx = .slice A a.len cap → ContV c0 a L → ContV c0 ys M → a.app ys = some ct →
            (∀ w, (Builtin.lenOf (ac.eval yy)).run P w = .ok ys.len w) → (Builtin.firstCells ti.size ys.len (ac.eval yy)).run P c0.w = .ok M.flatten.toArray c0.w → ct.len ≤ cap →
            (∀ b, A = some b → (storeCells (b.add (a.len * ti.size)) M.flatten).run P c0.w = .ok () w') → (A = none → w' = c0.w) →
            (execOp ac.eval o).run P c0.w = .ok (.value (.slice A ct.len cap)) w' := by
          intro c0 ac A cap a ct L M w' hv hL hM happ hlen hfirst hcap hst hnone
          obtain ⟨hN, hctl, hcte⟩ := hL.app hM happ
          have hr := run_append_room (P := P) (w := c0.w) (w' := w') (ty := o.type) h0 h1 hu hU (ty.size) (hlen c0.w) hfirst (A := A) (len := a.len) (cap := cap) (by omega) hst hnone
          rw [← hv, ← hctl] at hr
          exact run_call_append ho hcal ha hr
        -- an empty slice without room
        have empt : ∀ (c0 : Ctx) (ac : Act) (A : Option Addr) (a ct : Cont), Sim c0 h → Slots c0 s ac → ac.eval yx = .slice A 0 0 → ContV c0 a [] → a.es = ti.size → ys.es = ti.size → a.app ys = some ct → ct.len * ti.bytes ≤ lim → ContV c0 ct [] ∧ (0 < ct.es ∧ ct.isDeep = false) ∧
            (execOp ac.eval o).run P c0.w = .ok (.value (.slice A 0 0)) c0.w ∨
            ∃ cap' w' D N, (execOp ac.eval o).run P c0.w = .ok (.value (.slice (some ⟨c0.w.heap.size, 0, none⟩) ct.len cap')) w' ∧ Pushed c0.w w' (List.flatten N ++ D) ∧ ContV c0 ct N ∧ (0 < ct.es ∧ ct.isDeep = false) ∧ ct.len ≤ cap' ∧ cap' * ct.es ≤ (List.flatten N ++ D).length := by
          intro c0 ac A a ct hs hsl hv ha0 hae hye happ hlim
          obtain ⟨M, hM, hlen, hf1, hf2⟩ := core c0 ac hs hsl hye
          obtain ⟨hN, hctl, hcte⟩ := ha0.app hM happ
          have hal : a.len = 0 := ha0.len.symm
          by_cases hz : ys.len = 0
          · have hMe : M = [] := List.eq_nil_of_length_eq_zero (by rw [hM.len, hz])
            subst hMe
            have hct0 : ct.len = 0 := by omega
            have hr := room c0 ac A 0 a ct [] [] c0.w (by rw [hal]; exact hv) ha0 hM happ hlen hf1 (by omega) (fun b _ => by simp [storeCells]) (fun _ => rfl)
            rw [hct0] at hr
            exact .inl ⟨by simpa using hN, ⟨by rw [hcte, hae]; exact hpos.1, Cont.app_plain happ⟩, hr⟩
          · obtain ⟨cap', w', D, q1, q2, q3, q4, q5, q6⟩ := more c0 ac A 0 a ct [] M (by rw [hal]; exact hv) ha0 hae (fun h => by omega) hM happ hlen hf2 (by omega) hlim
            exact .inr ⟨cap', w', D, _, q1, q2, q3, q4, q5, q6⟩
        -- one that lies in a row of ours
        have full : ∀ (c0 : Ctx) (ac : Act) (id : Nat) (i : Info) (a ct : Cont) (L : List (List Value)) (base cap n : Nat), Sim c0 h → (c0.m h.length = none ∧ ¬ c0.dead h.length) → Slots c0 s ac → id < h.length → c0.m id = some i → ¬ c0.dead id → i.loc = true →
            ac.eval yx = .slice (some ⟨i.b, base, none⟩) a.len cap → ContV c0 a L → Lies c0.w i.b base L.flatten → Blk c0.w i.b n → base + cap * a.es ≤ n → a.es = ti.size → ys.es = ti.size → a.app ys = some ct → ct.len * ti.bytes ≤ lim →
            ∃ v' c', (execOp ac.eval o).run P c0.w = .ok (.value v') c'.w ∧ Ext c0 h c' (h.set id none ++ [some ⟨ct, false⟩]) ∧ Sim c' (h.set id none ++ [some ⟨ct, false⟩]) ∧ VRep c' (.sl h.length) v' := by
          intro c0 ac id i a ct L base cap n hs hf hsl hid hi hd hl hv hL hlies hb hfit hae hye happ hlim
          obtain ⟨M, hM, hlen, hf1, hf2⟩ := core c0 ac hs hsl hye
          obtain ⟨hN, hctl, hcte⟩ := hL.app hM happ
          by_cases hroom : ct.len ≤ cap
          · have hMl : M.flatten.length = M.length * ct.es := flat_len (es := ct.es) (fun vs hv => hN.es vs (by simp [hv]))
            have hmul : ct.len * ct.es ≤ cap * ct.es := Nat.mul_le_mul_right _ hroom
            rw [hctl, Nat.add_mul] at hmul
            have hst : ∀ b, some (⟨i.b, base, none⟩ : Addr) = some b → (storeCells (b.add (a.len * ti.size)) M.flatten).run P c0.w = .ok () (c0.w.setCells i.b (base + a.len * ct.es) M.flatten) := by
              intro b hb'
              cases hb'
              rw [add_none, hcte, hae]
              exact run_store_blk hb (by rw [hMl, hM.len, hcte, hae]; rw [hcte, hae] at hmul; rw [hae] at hfit; omega) (fun v hv => hM.one v hv)
            have hr := room c0 ac _ cap a ct L M _ hv hL hM happ hlen hf1 hroom hst (fun h => by cases h)
            obtain ⟨c', hw, k1, k2, k3⟩ := app_room hs hf hid hi hd hl hN hL.len ⟨by rw [hcte, hae]; exact hpos.1, Cont.app_plain happ⟩ hlies hb (cap := cap) (by rw [hcte]; exact hfit) hroom
            exact ⟨_, c', by rw [hw]; exact hr, k1, k2, k3⟩
          · obtain ⟨cap', w', D, q1, q2, q3, q4, q5, q6⟩ := more c0 ac _ cap a ct L M hv hL hae (fun _ => ⟨i.b, base, rfl, hlies⟩) hM happ hlen hf2 (by omega) hlim
            obtain ⟨c', hw, k1, k2, k3⟩ := app_new_kill hs hf hid q2 q3 q4 q5 q6
            exact ⟨_, c', by rw [hw]; exact q1, k1, k2, k3⟩
        have lone : ∀ (c0 : Ctx) (ac : Act) (id : Nat) (i : Info) (A : Option Addr) (a ct : Cont), Sim c0 h → (c0.m h.length = none ∧ ¬ c0.dead h.length) → Slots c0 s ac → id < h.length → c0.m id = some i → ¬ c0.dead id →
            ac.eval yx = .slice A 0 0 → ContV c0 a [] → a.es = ti.size → ys.es = ti.size → a.app ys = some ct → ct.len * ti.bytes ≤ lim →
            ∃ v' c', (execOp ac.eval o).run P c0.w = .ok (.value v') c'.w ∧ Ext c0 h c' (h.set id none ++ [some ⟨ct, false⟩]) ∧ Sim c' (h.set id none ++ [some ⟨ct, false⟩]) ∧ VRep c' (.sl h.length) v' := by
          intro c0 ac id i A a ct hs hf hsl hid hi hd hv hL hae hye happ hlim
          rcases empt c0 ac A a ct hs hsl hv hL hae hye happ hlim with ⟨q1, q2, q3⟩ | ⟨cap', w', D, N, q1, q2, q3, q4, q5, q6⟩
          · obtain ⟨c', hw, k1, k2, k3⟩ := app_none hs hf hid hi hd q1 q2 A
            exact ⟨_, c', by rw [hw]; exact q3, k1, k2, k3⟩
          · obtain ⟨c', hw, k1, k2, k3⟩ := app_new_kill hs hf hid q2 q3 q4 q5 q6
            exact ⟨_, c', by rw [hw]; exact q1, k1, k2, k3⟩
        have lone0 : ∀ (c0 : Ctx) (ac : Act) (A : Option Addr) (a ct : Cont), Sim c0 h → (c0.m h.length = none ∧ ¬ c0.dead h.length) → Slots c0 s ac →
            ac.eval yx = .slice A 0 0 → ContV c0 a [] → a.es = ti.size → ys.es = ti.size → a.app ys = some ct → ct.len * ti.bytes ≤ lim →
            ∃ v' c', (execOp ac.eval o).run P c0.w = .ok (.value v') c'.w ∧ Ext c0 h c' (h ++ [some ⟨ct, false⟩]) ∧ Sim c' (h ++ [some ⟨ct, false⟩]) ∧ VRep c' (.sl h.length) v' ∧ Grow c0 h c' (h ++ [some ⟨ct, false⟩]) := by
          intro c0 ac A a ct hs hf hsl hv hL hae hye happ hlim
          rcases empt c0 ac A a ct hs hsl hv hL hae hye happ hlim with ⟨q1, q2, q3⟩ | ⟨cap', w', D, N, q1, q2, q3, q4, q5, q6⟩
          · obtain ⟨c', hw, k1, k2, k3, k4⟩ := app_none0 hs hf q1 q2 A
            exact ⟨_, c', by rw [hw]; exact q3, k1, k2, k4, k3⟩
          · obtain ⟨c', hw, k1, k2, k3, k4⟩ := app_new hs hf q2 q3 q4 q5 q6
            exact ⟨_, c', by rw [hw]; exact q1, k1, k2, k4, k3⟩
        have nilL : ∀ {c0 : Ctx} {a : Cont} {L : List (List Value)}, ContV c0 a L → a.len = 0 → ContV c0 a [] := by
          intro c0 a L hL h0
          have : L = [] := List.eq_nil_of_length_eq_zero (by rw [hL.len, h0])
          rwa [this] at hL
        split at hk
        · rename_i id
          split at hk
          · rename_i ob hob
            by_cases hes : ((ob.c.es == ti.size) && (ys.es == ti.size)) = true
            · simp only [hes, cond_true] at hk
              simp only [Bool.and_eq_true, beq_iff_eq] at hes
              split at hk
              · rename_i ct happ
                by_cases hlim : ct.len * ti.bytes ≤ lim
                · simp only [hlim, decide_true, cond_true] at hk
                  have hid := hget_lt hob
                  by_cases hfn : (ob.full && ob.c.isNil) = true
                  · simp only [hfn, cond_true] at hk
                    simp only [Bool.and_eq_true] at hfn
                    have hn0 := isNil_len hfn.2
                    refine ⟨_, _, _, hk, OpOk.fin fun c0 ac hs hf hsl => ?_⟩
                    have hr := hsl.eval yx; rw [hxa] at hr
                    simp only [VRep, slRep] at hr
                    obtain ⟨i, hi, hr⟩ := hr.2.resolve_left (hs.alive hob)
                    have rep := hs.rep hob hi
                    have hl0 : i.len = 0 := by rw [rep.len, hn0]
                    obtain ⟨L, hL, _⟩ := contRep_iff.1 rep.cont
                    have hv : ∃ A, ac.eval yx = .slice A 0 0 := by
                      rcases hr with ⟨_, cap, n, hv, _, _, _, hfc⟩ | ⟨_, _, A, hv⟩
                      · have := hfc (rep.full.trans hfn.1)
                        exact ⟨_, by rw [hv, this, hl0]⟩
                      · exact ⟨A, hv⟩
                    obtain ⟨A, hv⟩ := hv
                    obtain ⟨v', c', k1, k2, k3, k4, k5⟩ := lone0 c0 ac A ob.c ct hs (hf _ (Nat.le_refl _) (by simp)) hsl hv (nilL hL hn0) hes.1 hes.2 happ hlim
                    exact ⟨v', c', k1, k2, k3, k4, fun _ => k5⟩
                  · simp only [Bool.not_eq_true] at hfn
                    simp only [hfn, cond_false] at hk
                    have hmem : AV.sl id ∈ opVals s h o.op := mem_vals (by rw [ho, ← hxa]; simp [Op.operands, Go.Call.operands, hcal, ha])
                    refine ⟨_, _, _, hk, OpOk.fin (hp := sta_setApp fun j hj => touch_sl hj hmem) fun c0 ac hs hf hsl => ?_⟩
                    have hr := hsl.eval yx; rw [hxa] at hr
                    simp only [VRep, slRep] at hr
                    have hd := hs.alive hob
                    obtain ⟨i, hi, hr⟩ := hr.2.resolve_left hd
                    have rep := hs.rep hob hi
                    have hff := hf h.length (Nat.le_refl _) (by simp)
                    obtain ⟨L, hL, hlies⟩ := contRep_iff.1 rep.cont
                    rcases hr with ⟨hloc, cap, n, hv, hle, hb, hbn, _⟩ | ⟨hloc, hl0, A, hv⟩
                    · obtain ⟨v', c', k1, k2, k3, k4⟩ := full c0 ac id i ob.c ct L i.base cap n hs hff hsl hid hi hd hloc (by rw [hv, rep.len]) hL hlies hb (by rw [← rep.es]; exact hbn) hes.1 hes.2 happ hlim
                      exact ⟨v', c', k1, k2, k3, k4, by simp⟩
                    · obtain ⟨v', c', k1, k2, k3, k4⟩ := lone c0 ac id i A ob.c ct hs hff hsl hid hi hd hv (nilL hL (by rw [← rep.len, hl0])) hes.1 hes.2 happ hlim
                      exact ⟨v', c', k1, k2, k3, k4, by simp⟩
                · simp [hlim] at hk
              · cases hk
            · simp only [Bool.not_eq_true] at hes; simp [hes] at hk
          · cases hk
        · rename_i id off n
          split at hk
          · rename_i ob hob
            by_cases hes : ((ob.c.es == ti.size) && (ys.es == ti.size)) = true
            · simp only [hes, cond_true] at hk
              simp only [Bool.and_eq_true, beq_iff_eq] at hes
              split at hk
              · rename_i ct happ
                by_cases hlim : ct.len * ti.bytes ≤ lim
                · simp only [hlim, decide_true, cond_true] at hk
                  have hid := hget_lt hob
                  have hmem : AV.ss id off n ∈ opVals s h o.op := mem_vals (by rw [ho, ← hxa]; simp [Op.operands, Go.Call.operands, hcal, ha])
                  refine ⟨_, _, _, hk, OpOk.fin (hp := sta_setApp fun j hj => touch_ss hj hmem) fun c0 ac hs hf hsl => ?_⟩
                  have hr := hsl.eval yx; rw [hxa] at hr
                  simp only [VRep, ssRep] at hr
                  have hd := hs.alive hob
                  obtain ⟨i, hi, hon, hr⟩ := hr.2.resolve_left hd
                  have rep := hs.rep hob hi
                  have hff := hf h.length (Nat.le_refl _) (by simp)
                  obtain ⟨L, hL, hlies⟩ := contRep_iff.1 rep.cont
                  have hcl := cut_len ob.c off n (by rw [← rep.len]; exact hon)
                  have hes' : ∀ vs ∈ L, vs.length = i.es := by intro vs hv; rw [hL.es vs hv, rep.es]
                  have hlies' := (hlies.drop (off * i.es)).take (n * i.es)
                  rw [flat_drop off hes', flat_take n (fun vs hv => hes' vs (List.mem_of_mem_drop hv))] at hlies'
                  rcases hr with ⟨hloc, cap, m, hv, hle, hb, hbn⟩ | ⟨hl0, A, hv⟩
                  · obtain ⟨v', c', k1, k2, k3, k4⟩ := full c0 ac id i (ob.c.cut off n) ct _ (i.base + off * i.es) cap m hs hff hsl hid hi hd hloc (by rw [hv, hcl.1]) (hL.cut off n) hlies' hb
                      (by rw [hcl.2, ← rep.es, Nat.add_assoc, ← Nat.add_mul]; exact hbn) (hcl.2.trans hes.1) hes.2 happ hlim
                    exact ⟨v', c', k1, k2, k3, k4, by simp⟩
                  · obtain ⟨v', c', k1, k2, k3, k4⟩ := lone c0 ac id i A (ob.c.cut off n) ct hs hff hsl hid hi hd hv (nilL (hL.cut off n) (by rw [hcl.1, hl0])) (hcl.2.trans hes.1) hes.2 happ hlim
                    exact ⟨v', c', k1, k2, k3, k4, by simp⟩
                · simp [hlim] at hk
              · cases hk
            · simp only [Bool.not_eq_true] at hes; simp [hes] at hk
          · cases hk
        · by_cases hes : (ys.es == ti.size) = true
          · simp only [hes, cond_true] at hk
            simp only [beq_iff_eq] at hes
            split at hk
            · rename_i ct happ
              by_cases hlim : ct.len * ti.bytes ≤ lim
              · simp only [hlim, decide_true, cond_true] at hk
                refine ⟨_, _, _, hk, OpOk.fin fun c0 ac hs hf hsl => ?_⟩
                have hr := hsl.eval yx; rw [hxa] at hr
                simp only [VRep] at hr
                obtain ⟨A, hv⟩ := hr
                obtain ⟨v', c', k1, k2, k3, k4, k5⟩ := lone0 c0 ac A (Cont.empty ti) ct hs (hf _ (Nat.le_refl _) (by simp)) hsl hv (empty_rep ty c0) (empty_es ty).1 hes happ hlim
                exact ⟨v', c', k1, k2, k3, k4, fun _ => k5⟩
              · simp [hlim] at hk
            · cases hk
          · simp only [Bool.not_eq_true] at hes; simp [hes] at hk
        · cases hk
    · simp only [Bool.not_eq_true] at hpos; simp [hpos] at hk
end
end Go.AM
