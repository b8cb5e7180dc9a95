/- An interpreter of the model's code over values that are told, and its soundness. -/
import Derived.Test.YteojdaobpjhddaaAS1
namespace Go.AM

/-! What the table of types tells. -/
section
variable {P : Program} {E : Env} {t : TypeId} {ti : TI}

structure TyIs (P : Program) (t : TypeId) (ti : TI) : Prop where
  info : ∃ i z, P.info? t = some i ∧ i.size = ti.size ∧ i.bytes = ti.bytes ∧ i.zero = some z ∧ zsOk ti.zero.cells z.cells.toList = true ∧ ti.zero.isAgg = isAggV z ∧ ∀ v ∈ z.cells.toList, v.oneCell' = true
  kind : kindOk P t ti.kind = true
  zagg : ti.zero.isAgg = ti.agg
  zlen : ti.zero.cells.length = ti.size
  pos : 0 < ti.size
  code : ∀ e, ti.code = some e → e.size = ti.size ∧ e.isAgg = ti.agg ∧ czOk e ti.zero.cells = true

theorem TOk.is (hT : TOk P E) (h : E.ty t = some ti) : TyIs P t ti := by
  have := hT t ti h
  unfold tyOk at this
  simp only [Bool.and_eq_true] at this
  obtain ⟨⟨⟨⟨⟨⟨h1, h2⟩, h3⟩, h4⟩, h5⟩, h6⟩, h7⟩ := this
  refine ⟨?_, h2, by simpa using h3, by simpa using h4, by simpa [Nat.blt_eq] using h5, ?_⟩
  · cases hi : P.info? t with
    | none => simp [hi] at h1
    | some i =>
      simp only [hi, Bool.and_eq_true] at h1
      cases hz : i.zero with
      | none => simp [hz] at h1
      | some z =>
        simp only [hz, Bool.and_eq_true] at h1
        exact ⟨i, z, rfl, by simpa using h1.1.1, by simpa using h1.1.2, hz, h1.2.1, by simpa using h1.2.2.1, fun v hv => List.all_eq_true.1 h1.2.2.2 v hv⟩
  · intro e he
    simp only [he, Bool.and_eq_true] at h7
    exact ⟨by simpa using h7.1.1, by simpa using h7.1.2, h7.2⟩

theorem TyIs.size (h : TyIs P t ti) (w : World) : (sizeOf t).run P w = .ok ti.size w := by
  obtain ⟨i, z, hi, hs, _⟩ := h.info
  simp [sizeOf, typeInfo, hi, hs]

theorem TyIs.tinfo (h : TyIs P t ti) : ∃ i, P.info? t = some i ∧ i.size = ti.size ∧ i.bytes = ti.bytes := by
  obtain ⟨i, z, hi, hs, hb, _⟩ := h.info
  exact ⟨i, hi, hs, hb⟩

theorem TyIs.isAgg (h : TyIs P t ti) (w : World) : (Go.isAgg t).run P w = .ok ti.agg w := by
  have hk := h.kind
  unfold kindOk at hk
  unfold Go.isAgg TI.agg
  cases hd : ti.kind <;> simp only [hd] at hk ⊢ <;> (cases hu : P.underlying t with
    | none => simp [hu] at hk
    | some d => cases d <;> simp [hu] at hk <;> simp [run_underlying hu])

theorem kindOf_some {k : TK} (h : kindOf E t = some k) : ∃ ti, E.ty t = some ti ∧ ti.kind = k := by
  unfold kindOf at h
  cases hi : E.ty t with
  | none => simp [hi] at h
  | some ti => simp [hi] at h; exact ⟨ti, rfl, h⟩

theorem TOk.slice (hT : TOk P E) {e : TypeId} (h : kindOf E t = some (.slice e)) : P.underlying t = some (.slice e) := by
  obtain ⟨ti, hi, hk⟩ := kindOf_some h
  have := (hT.is hi).kind
  simp only [hk, kindOk] at this
  cases hu : P.underlying t with
  | none => simp [hu] at this
  | some d => cases d <;> simp [hu] at this; subst this; rfl

theorem TOk.str (hT : TOk P E) (h : kindOf E t = some .str) : P.underlying t = some .string := by
  obtain ⟨ti, hi, hk⟩ := kindOf_some h
  have := (hT.is hi).kind
  simp only [hk, kindOk] at this
  cases hu : P.underlying t with
  | none => simp [hu] at this
  | some d => cases d <;> simp [hu] at this; rfl

theorem TOk.bool (hT : TOk P E) (h : kindOf E t = some .bool) : P.underlying t = some .bool := by
  obtain ⟨ti, hi, hk⟩ := kindOf_some h
  have := (hT.is hi).kind
  simp only [hk, kindOk] at this
  cases hu : P.underlying t with
  | none => simp [hu] at this
  | some d => cases d <;> simp [hu] at this; rfl

theorem TOk.int (hT : TOk P E) {k : IntKind} (h : kindOf E t = some (.int k)) : P.underlying t = some (.int k) := by
  obtain ⟨ti, hi, hk⟩ := kindOf_some h
  have := (hT.is hi).kind
  simp only [hk, kindOk] at this
  cases hu : P.underlying t with
  | none => simp [hu] at this
  | some d => cases d <;> simp [hu] at this; subst this; rfl

theorem TOk.ptr (hT : TOk P E) {e : TypeId} (h : kindOf E t = some (.ptr e)) : P.underlying t = some (.pointer e) ∧ P.cellsOf e ≠ 0 := by
  obtain ⟨ti, hi, hk⟩ := kindOf_some h
  have := (hT.is hi).kind
  simp only [hk, kindOk] at this
  cases hu : P.underlying t with
  | none => simp [hu] at this
  | some d => cases d <;> simp [hu] at this; obtain ⟨h1, h2⟩ := this; subst h1; exact ⟨rfl, h2⟩

/-- A struct's fields. -/
theorem TOk.struct (hT : TOk P E) {fs : List (Nat × TypeId)} (h : kindOf E t = some (.struct fs)) :
    ∃ gs : Array Field, P.underlying t = some (.struct gs) ∧ gs.toList.map (fun g => (g.offset, g.type)) = fs ∧
      (∀ g ∈ gs.toList, g.name ≠ "_" ∧ P.cellsOf g.type ≠ 0) ∧ P.stoodInHeld t = false ∧ P.eqGuardType P.depth t = false := by
  obtain ⟨ti, hi, hk⟩ := kindOf_some h
  have := (hT.is hi).kind
  simp only [hk, kindOk] at this
  cases hu : P.underlying t with
  | none => simp [hu] at this
  | some d =>
    cases d <;> simp only [hu, Bool.false_eq_true] at this
    rename_i gs
    simp only [Bool.and_eq_true, List.all_eq_true, bne_iff_ne, ne_eq, Bool.not_eq_true'] at this
    obtain ⟨⟨⟨h1, h2⟩, h3⟩, h4⟩ := this
    exact ⟨gs, rfl, by simpa using h1, fun g hg => by simpa using h2 g hg, h3, h4⟩
end

section
variable {ρ : Type} {P : Program} {E : Env} {s : List AV} {h : Heap} {o : Oper} {x : ρ}

theorem eqCells_ok (hT : TOk P E) (c : Ctx) (d : Nat) (V U : Array Value) (w : World) : ∀ (l : List Field) (n : Nat) (fs : List (Nat × TypeId)) (xs ys : List AV) (r : Bool),
    l.map (fun g => (g.offset, g.type)) = fs → (∀ j g, l[j]? = some g → g.offset = n + j ∧ g.name ≠ "_") →
    VReps c xs (V.toList.drop n) → VReps c ys (U.toList.drop n) → eqCells E fs xs ys = some r → (Op.eqFields (d + 1) V U l).run P w = .ok r w := by
  intro l
  induction l with
  | nil =>
    intro n fs xs ys r hl _ hx hy he
    simp at hl; subst hl
    cases xs <;> cases ys <;> simp [eqCells] at he
    subst he; simp [Op.eqFields]
  | cons g l ih =>
    intro n fs xs ys r hl hg hx hy he
    simp at hl; subst hl
    obtain ⟨ho, hn⟩ := hg 0 g (by simp)
    simp at ho
    have hg' : ∀ j g', l[j]? = some g' → g'.offset = n + 1 + j ∧ g'.name ≠ "_" := fun j g' hj => by
      obtain ⟨a, b⟩ := hg (j + 1) g' (by simpa using hj); exact ⟨by omega, b⟩
    cases xs with
    | nil => cases ys <;> simp [eqCells] at he
    | cons a xs =>
      cases ys with
      | nil => cases a <;> simp [eqCells] at he
      | cons b ys =>
        obtain ⟨va, hva, hra⟩ := hx.get (i := 0) (a := a) (by simp)
        obtain ⟨vb, hvb, hrb⟩ := hy.get (i := 0) (a := b) (by simp)
        have hVa : V[n]? = some va := by simpa using hva
        have hUb : U[n]? = some vb := by simpa using hvb
        have hxs : VReps c xs (V.toList.drop (n + 1)) := by
          have := VReps.drop 1 hx; simpa [List.drop_drop, Nat.add_comm] using this
        have hys : VReps c ys (U.toList.drop (n + 1)) := by
          have := VReps.drop 1 hy; simpa [List.drop_drop, Nat.add_comm] using this
        have key : ∀ (q : Bool) (r' : Bool), (isAgg g.type).run P w = .ok false w → (Op.equalIn (d + 1) g.type va vb).run P w = .ok q w →
            eqCells E (l.map fun g => (g.offset, g.type)) xs ys = some r' → (Op.eqFields (d + 1) V U (g :: l)).run P w = .ok (q && r') w := by
          intro q r' hag hq hr'
          have hpa : (part g.type V g.offset).run P w = .ok va w := by simp [part, hag, ho, hVa]
          have hpb : (part g.type U g.offset).run P w = .ok vb w := by simp [part, hag, ho, hUb]
          simp only [Op.eqFields, ne_eq, hn, not_false_eq_true, if_true, Sem.run_bind, hpa, hpb, hq, Result.andThen_ok, Sem.run_ite, Sem.run_pure]
          cases q with
          | false => simp
          | true => simpa using ih (n + 1) _ xs ys r' rfl hg' hxs hys hr'
        cases a <;> cases b <;> simp only [eqCells, reduceCtorEq] at he
        case int.int k p k' q =>
          cases hk : kindOf E g.type with
          | none => simp [hk] at he
          | some kk =>
            cases kk <;> simp only [hk, reduceCtorEq] at he
            rename_i k2
            have hu := hT.int hk
            by_cases hkk : k = k'
            · subst hkk
              simp only [if_true, Option.map_eq_some_iff] at he
              obtain ⟨r', hr', rfl⟩ := he
              have h1 := hra.int; have h2 := hrb.int; subst h1; subst h2
              exact key (p == q) r' (by simp [isAgg, run_underlying hu]) (run_equalIn_int w d g.type k k2 p q hu) hr'
            · simp [hkk] at he
        case bool.bool p q =>
          cases hk : kindOf E g.type with
          | none => simp [hk] at he
          | some kk =>
            cases kk <;> simp only [hk, reduceCtorEq] at he
            have hu := hT.bool hk
            simp only [Option.map_eq_some_iff] at he
            obtain ⟨r', hr', rfl⟩ := he
            have h1 := hra.bool; have h2 := hrb.bool; subst h1; subst h2
            exact key (p == q) r' (by simp [isAgg, run_underlying hu]) (run_equalIn_bool' w d g.type p q hu) hr'
        case str.str p q =>
          cases hk : kindOf E g.type with
          | none => simp [hk] at he
          | some kk =>
            cases kk <;> simp only [hk, reduceCtorEq] at he
            have hu := hT.str hk
            simp only [Option.map_eq_some_iff] at he
            obtain ⟨r', hr', rfl⟩ := he
            have h1 := hra.str; have h2 := hrb.str; subst h1; subst h2
            exact key (p.toList == q.toList) r' (by simp [isAgg, run_underlying hu]) (run_equalIn_string w d g.type p q hu) hr'

theorem eqGuard_word (op : BinOp) (t : TypeId) (y z : Operand) (va vb : Value) (w : World) (h : ∀ cs, va ≠ .agg cs) (h' : va ≠ .nilIface) :
    (eqGuard op t y z va vb).run P w = .ok () w := by
  cases op <;> cases va <;> first | (exact absurd rfl (h _)) | (exact absurd rfl h') | simp [eqGuard]

theorem isEq_some {op : BinOp} {e : Bool} (h : isEq op = some e) : (op = .eql ∧ e = true) ∨ (op = .neq ∧ e = false) := by
  cases op <;> simp [isEq] at h
  · exact .inl ⟨rfl, h⟩
  · exact .inr ⟨rfl, h⟩

theorem eqKind_some {t : TypeId} {op : BinOp} {e : Bool} {k : TK} (h : eqKind E t op = some (e, k)) : isEq op = some e ∧ kindOf E t = some k := by
  unfold eqKind at h
  cases h1 : isEq op with
  | none => simp [h1] at h
  | some e' =>
    cases h2 : E.ty t with
    | none => simp [h1, h2] at h
    | some ti => simp [h1, h2] at h; obtain ⟨rfl, rfl⟩ := h; exact ⟨rfl, by simp [kindOf, h2]⟩

theorem isAddr_rep {c : Ctx} {a : AV} {v : Value} (ha : isAddr a = true) (h : VRep c a v) : ∃ p, v = .pointer (some p) := by
  cases a <;> simp [isAddr] at ha
  case ptr id i j =>
    simp only [VRep, ptrRep] at h
    exact h.1
  case tp t x sub => simp only [VRep] at h; obtain ⟨b, o, vs, hv, _⟩ := h; exact ⟨_, hv⟩
  case bp cs sub => simp only [VRep] at h; obtain ⟨b, o, vs, hv, _⟩ := h; exact ⟨_, hv⟩

theorem run_ptr_nil (d : Nat) (w : World) {t e : TypeId} (hu : P.underlying t = some (.pointer e)) (b : Option Addr) : (Op.equalIn (d + 1) t (.pointer none) (.pointer b)).run P w = .ok b.isNone w := by
  simp [Op.equalIn, run_underlying hu]
theorem run_ptr_some (d : Nat) (w : World) {t e : TypeId} (hu : P.underlying t = some (.pointer e)) (p : Addr) : (Op.equalIn (d + 1) t (.pointer (some p)) (.pointer none)).run P w = .ok false w := by
  simp [Op.equalIn, run_underlying hu]
theorem run_ptr_op {op : BinOp} {e' : Bool} (hop : isEq op = some e') {t e : TypeId} (hu : P.underlying t = some (.pointer e)) (a b : Option Addr) (w : World) (hab : a = none ∨ b = none) :
    (binOp op t (.pointer a) (.pointer b)).run P w = .ok (.bool (bif e' then a.isNone && b.isNone else !(a.isNone && b.isNone))) w := by
  have hq : (Op.equalIn 10000 t (.pointer a) (.pointer b)).run P w = .ok (a.isNone && b.isNone) w := by
    cases a with
    | none => simpa using run_ptr_nil (P := P) 9999 w hu b
    | some p => cases b with
      | none => simpa using run_ptr_some (P := P) 9999 w hu p
      | some q => rcases hab with h | h <;> cases h
  have hm : Op.equal t (.pointer a) (.pointer b) = Op.equalIn 10000 t (.pointer a) (.pointer b) := rfl
  rcases isEq_some hop with ⟨rfl, rfl⟩ | ⟨rfl, rfl⟩
  · have : (binOp .eql t (.pointer a) (.pointer b)) = (do pure (.bool (← Op.equal t (.pointer a) (.pointer b)))) := by cases a <;> cases b <;> rfl
    rw [this, hm]; simp [hq]
  · have : (binOp .neq t (.pointer a) (.pointer b)) = (do pure (.bool (!(← Op.equal t (.pointer a) (.pointer b))))) := by cases a <;> cases b <;> rfl
    rw [this, hm]; simp [hq]

theorem told_binOp (hT : TOk P E) {op : BinOp} {t u : TypeId} {y z : Operand} (ho : o.op = .binOp op t y z u) {K : AV → Heap → Bool → Option ρ}
    (hk : abin E op t (aeval s y) (aeval s z) (fun v => K v h false) = some x) : Told P s h o K x := by
  have fin : ∀ v : AV, K v h false = some x → (∀ c : Ctx, VRep c v v.word) →
      (∀ (c : Ctx) va vb, VRep c (aeval s y) va → VRep c (aeval s z) vb → (eqGuard op t y z va vb).run P c.w = .ok () c.w ∧ (binOp op t va vb).run P c.w = .ok v.word c.w) → Told P s h o K x := by
    intro v hv hw hr
    refine told_pure hv fun c a _ hsl => ⟨v.word, ?_, hw c⟩
    obtain ⟨h1, h2⟩ := hr c _ _ (hsl.eval y) (hsl.eval z)
    simp [execOp, ho, h1, h2]
  generalize hya : aeval s y = a at hk fin
  generalize hzb : aeval s z = b at hk fin
  unfold abin at hk
  split at hk
  · rename_i k p k' q
    split at hk
    · obtain ⟨v, hv, hw, hr⟩ := ashift_ok (P := P) (k' := k') (.inl rfl) hk
      refine fin v hv hw fun c va vb ha hb => ?_
      have h1 := ha.int; have h2 := hb.int; subst h1; subst h2
      exact ⟨eqGuard_word _ _ _ _ _ _ _ (by simp) (by simp), hr t c.w⟩
    · obtain ⟨v, hv, hw, hr⟩ := ashift_ok (P := P) (k' := k') (.inr rfl) hk
      refine fin v hv hw fun c va vb ha hb => ?_
      have h1 := ha.int; have h2 := hb.int; subst h1; subst h2
      exact ⟨eqGuard_word _ _ _ _ _ _ _ (by simp) (by simp), hr t c.w⟩
    · by_cases hkk : k = k'
      · subst hkk
        simp only [if_true] at hk
        obtain ⟨v, hv, hw, hr⟩ := abinInt_ok (P := P) hk
        refine fin v hv hw fun c va vb ha hb => ?_
        have h1 := ha.int; have h2 := hb.int; subst h1; subst h2
        exact ⟨eqGuard_word _ _ _ _ _ _ _ (by simp) (by simp), hr t c.w⟩
      · simp [hkk] at hk
  · rename_i p q
    obtain ⟨v, hv, hw, hr⟩ := abinStr_ok (P := P) hk
    refine fin v hv hw fun c va vb ha hb => ?_
    have h1 := ha.str; have h2 := hb.str; subst h1; subst h2
    exact ⟨eqGuard_word _ _ _ _ _ _ _ (by simp) (by simp), hr t c.w⟩
  · rename_i p q
    split at hk
    · rename_i e he
      obtain ⟨hop, hkd⟩ := eqKind_some he
      refine fin _ hk (fun c => by simp [VRep, AV.word]) fun c va vb ha hb => ?_
      have h1 := ha.bool; have h2 := hb.bool; subst h1; subst h2
      refine ⟨eqGuard_word _ _ _ _ _ _ _ (by simp) (by simp), ?_⟩
      have hq := run_equalIn_bool' (P := P) c.w 9999 t p q (hT.bool hkd)
      have hm : Op.equal t (.bool p) (.bool q) = Op.equalIn 10000 t (.bool p) (.bool q) := rfl
      rcases isEq_some hop with ⟨rfl, rfl⟩ | ⟨rfl, rfl⟩ <;> simp [binOp, hm, hq, AV.word]
    · cases hk
  · split at hk
    · rename_i e fs he
      obtain ⟨hop, hkd⟩ := eqKind_some he
      obtain ⟨gs, hu, hfs, hnm, hst, hgd⟩ := hT.struct hkd
      by_cases hc : (a.isAgg && b.isAgg && (fs.zipIdx.all fun p => p.1.1 == p.2)) = true
      · simp only [hc, cond_true] at hk
        simp only [Bool.and_eq_true] at hc
        obtain ⟨⟨hag, hbg⟩, hz⟩ := hc
        split at hk
        · rename_i r hr
          refine fin _ hk (fun c => by simp [VRep, AV.word]) fun c va vb ha hb => ?_
          obtain ⟨V, rfl, hV⟩ := ha.agg hag
          obtain ⟨U, rfl, hU⟩ := hb.agg hbg
          refine ⟨run_eqGuard_agg (P := P) c.w op t y z V U hgd |> fun hh => ?_, ?_⟩
          · revert hh; cases op <;> simp [eqGuard, run_program, hgd]
          have hfo : P.fieldsOf t = gs := by simp [Program.fieldsOf, hu]
          have hidx : ∀ j g, gs.toList[j]? = some g → g.offset = 0 + j ∧ g.name ≠ "_" := by
            intro j g hj
            refine ⟨?_, (hnm g (List.mem_of_getElem? hj)).1⟩
            have hfj : fs[j]? = some (g.offset, g.type) := by rw [← hfs]; simp [hj]
            rw [List.all_eq_true] at hz
            have := hz ((g.offset, g.type), j) (by rw [List.mem_zipIdx_iff_getElem?]; exact hfj)
            simpa using this
          have hq := eqCells_ok hT c 9998 V U c.w gs.toList 0 fs a.cells b.cells r hfs hidx (by simpa using hV) (by simpa using hU) hr
          have hq' : (Op.equalIn 10000 t (.agg V) (.agg U)).run P c.w = .ok r c.w := by
            rw [run_equalIn_struct (P := P) c.w 9999 t V U (by rw [hfo]; exact hu) hst, hfo]; exact hq
          have hm : Op.equal t (.agg V) (.agg U) = Op.equalIn 10000 t (.agg V) (.agg U) := rfl
          rcases isEq_some hop with ⟨rfl, rfl⟩ | ⟨rfl, rfl⟩
          · rw [run_eql_struct, hq']; simp [AV.word]
          · rw [run_neq_struct, hq']; simp [AV.word]
        · cases hk
      · simp only [Bool.not_eq_true] at hc
        simp [hc] at hk
    · rename_i e el he
      obtain ⟨hop, hkd⟩ := eqKind_some he
      obtain ⟨hu, hsz⟩ := hT.ptr hkd
      split at hk
      · refine fin _ hk (fun c => by simp [VRep, AV.word]) fun c va vb ha hb => ?_
        simp only [VRep] at ha hb; subst ha; subst hb
        refine ⟨eqGuard_word _ _ _ _ _ _ _ (by simp) (by simp), ?_⟩
        rw [run_ptr_op hop hu none none c.w (.inl rfl)]
        cases e <;> simp [AV.word]
      · by_cases hb' : isAddr b = true
        · simp only [hb', cond_true] at hk
          refine fin _ hk (fun c => by simp [VRep, AV.word]) fun c va vb ha hb => ?_
          simp only [VRep] at ha; subst ha
          obtain ⟨p, rfl⟩ := isAddr_rep hb' hb
          refine ⟨eqGuard_word _ _ _ _ _ _ _ (by simp) (by simp), ?_⟩
          rw [run_ptr_op hop hu none (some p) c.w (.inl rfl)]
          cases e <;> simp [AV.word]
        · simp [hb'] at hk
      · by_cases ha' : isAddr a = true
        · simp only [ha', cond_true] at hk
          refine fin _ hk (fun c => by simp [VRep, AV.word]) fun c va vb ha hb => ?_
          simp only [VRep] at hb; subst hb
          obtain ⟨p, rfl⟩ := isAddr_rep ha' ha
          refine ⟨eqGuard_word _ _ _ _ _ _ _ (by simp) (by simp), ?_⟩
          rw [run_ptr_op hop hu (some p) none c.w (.inr rfl)]
          cases e <;> simp [AV.word]
        · simp [ha'] at hk
      · cases hk
    · cases hk
end
end Go.AM
