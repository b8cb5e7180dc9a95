/- An interpreter of the model's code over values that are told, and its soundness. -/
import Derived.Test.YteojdaobpjhddaaAS6
import Derived.Laws.Strings
namespace Go.AM

/-! Soundness: variables and rows that are made; stores. -/
theorem AV.size_cells (a : AV) : a.size = a.cells.length := by
  cases a <;> simp [AV.size, AV.cells]
  rename_i t x
  cases h : t.isAgg <;> simp [cellsT_len]

theorem bytes_ext {a b : ByteArray} (h : a.toList = b.toList) : a = b := by
  have : a.data.toList = b.data.toList := by rwa [ByteArray.toList_eq, ByteArray.toList_eq] at h
  cases a; cases b; congr 1; exact Array.toList_inj.1 this

theorem z_rep (c : Ctx) {a : AV} {v : Value} (h : zOk a v = true) : VRep c a v := by
  unfold zOk at h
  split at h
  · simp at h; simp [VRep, h]
  · simp at h; simp [VRep, h]
  · simp at h; simp only [VRep]; rw [bytes_ext h]
  · simp [VRep]
  · simp [VRep]
  · simp [VRep]
  · cases h

theorem zs_reps (c : Ctx) : ∀ {as : List AV} {vs : List Value}, zsOk as vs = true → VReps c as vs
  | [], [], _ => by simp [VReps]
  | a :: as, v :: vs, h => by
    simp only [zsOk, Bool.and_eq_true] at h
    simp only [VReps]; exact ⟨z_rep c h.1, zs_reps c h.2⟩
  | [], _ :: _, h => by simp [zsOk] at h
  | _ :: _, [], h => by simp [zsOk] at h

theorem VRep.one {c : Ctx} {a : AV} {v : Value} (h : VRep c a v) (ha : a.one = true) : v.oneCell' = true := by
  cases a <;> simp only [AV.one, Bool.false_eq_true, Bool.not_eq_true'] at ha <;> simp only [VRep] at h
  case int => rw [h]; rfl
  case bool => rw [h]; rfl
  case str => rw [h]; rfl
  case nilp => rw [h]; rfl
  case fn => obtain ⟨ws, h, _⟩ := h; rw [h]; rfl
  case ptr => obtain ⟨⟨p, h⟩, _⟩ := h; rw [h]; rfl
  case sl => obtain ⟨⟨_, _, _, h⟩, _⟩ := h; rw [h]; rfl
  case ss => obtain ⟨⟨_, _, _, h⟩, _⟩ := h; rw [h]; rfl
  case dp => obtain ⟨⟨_, _, _, h⟩, _⟩ := h; rw [h]; rfl
  case nils => obtain ⟨_, h⟩ := h; rw [h]; rfl
  case tv t x =>
    rw [TRep, if_neg (by simp [ha])] at h
    exact h.one v (by simp)
  case tp => obtain ⟨_, _, _, h, _⟩ := h; rw [h]; rfl
  case bp => obtain ⟨_, _, _, h, _⟩ := h; rw [h]; rfl

theorem one_cells {v : Value} (h : v.oneCell' = true) : v.cells = #[v] := by cases v <;> simp [Value.oneCell', Value.cells] at *

theorem VReps.one {c : Ctx} : ∀ {as : List AV} {vs : List Value}, VReps c as vs → as.all AV.one = true → ∀ v ∈ vs, v.oneCell' = true
  | [], [], _, _ => by simp
  | a :: as, v :: vs, h, ha => by
    simp only [VReps] at h
    simp only [List.all_cons, Bool.and_eq_true] at ha
    intro u hu
    rcases List.mem_cons.1 hu with rfl | hu
    · exact h.1.one ha.1
    · exact VReps.one h.2 ha.2 u hu
  | [], _ :: _, h, _ => by simp [VReps] at h
  | _ :: _, [], h, _ => by simp [VReps] at h

/-- A value's cells. -/
theorem VRep.cells {c : Ctx} {a : AV} {v : Value} (h : VRep c a v) (ha : a.cells.all AV.one = true) : VReps c a.cells v.cells.toList ∧ ∀ u ∈ v.cells.toList, u.oneCell' = true := by
  cases hg : a.isAgg with
  | true =>
    obtain ⟨vs, hv, hc⟩ := h.agg hg
    subst hv
    exact ⟨hc, VReps.one hc ha⟩
  | false =>
    have hcs := AV.cells_one hg
    rw [hcs] at ha ⊢
    have h1 := h.one (by simpa using ha)
    rw [one_cells h1]
    exact ⟨by simp [VReps, h], by simp [h1]⟩

theorem TyIs.zsize {P : Program} {t : TypeId} {ti : TI} (h : TyIs P t ti) : ti.zero.size = ti.size := by rw [AV.size_cells, h.zlen]

theorem TyIs.zrun {P : Program} {t : TypeId} {ti : TI} (h : TyIs P t ti) : ∃ i z, P.info? t = some i ∧ i.zero = some z ∧ i.size = ti.size ∧ i.bytes = ti.bytes ∧ (∀ w, (zeroValue t).run P w = .ok z w) ∧ z.cells.size = ti.size ∧
    (∀ c, VReps c ti.zero.cells z.cells.toList) ∧ (∀ v ∈ z.cells.toList, v.oneCell' = true) := by
  obtain ⟨i, z, hi, hs, hb, hz, hzs, hag, hone⟩ := h.info
  refine ⟨i, z, hi, hz, hs, hb, fun w => by simp [zeroValue, typeInfo, hi, hz], ?_, fun c => zs_reps c hzs, hone⟩
  have := (zs_reps ⟨fun _ => none, fun _ => False, fun _ => False, default, fun _ _ => False⟩ hzs).length
  rw [← h.zlen, this]; simp

section
variable {ρ : Type} {P : Program} {E : Env} {s : List AV} {h : Heap} {o : Oper} {x : ρ}

theorem OpOk.growQ {ob : Obj} (hpos : 0 < ob.c.es) {Q : Ctx → List (List Value) → Prop} (hdp : ∀ (c : Ctx) (w' : World) (L : List (List Value)) (D : List Value), Pushed c.w w' (L.flatten ++ D) → Q c L → ∀ fx e xs, ob.c = .deep fx e xs →
      DeepRow (c.more h w' (inf true c.w.heap.size 0 ob.c.len ob.c.es ob.full)) h.length (inf true c.w.heap.size 0 ob.c.len ob.c.es ob.full) fx e xs) {v : AV}
    (run : ∀ c a, Sim c h → Slots c s a → ∃ v' w' L D, (execOp a.eval o).run P c.w = .ok (.value v') w' ∧ Pushed c.w w' (L.flatten ++ D) ∧ ContV c ob.c L ∧ Q c L ∧
      (∀ c', Tells c c' → c'.w = w' → c'.m h.length = some (inf true c.w.heap.size 0 ob.c.len ob.c.es ob.full) → VRep c' v v')) : OpOk P s h o v (h ++ [some ob]) false := by
  refine ⟨?_, (Pre.snoc _ _).sta _⟩
  intro c a hs hf hsl next Q hn
  obtain ⟨v', w', L, D, hr, hp, hL, hq, hv⟩ := run c a hs hsl
  unfold Oper.wp
  rw [hr]
  obtain ⟨h1, h2, h3, h4⟩ := grow_ok hs (hf _ (Nat.le_refl _) (by simp)) hp hL hpos (hdp c w' L D hp hq)
  exact hn _ v' h1 h2 (hv _ h4 rfl (by simp [Ctx.more, upd])) (fun _ => h3)

theorem OpOk.grow {ob : Obj} (hpos : 0 < ob.c.es) (hnd : ob.c.isDeep = false) {v : AV}
    (run : ∀ c a, Sim c h → Slots c s a → ∃ v' w' L D, (execOp a.eval o).run P c.w = .ok (.value v') w' ∧ Pushed c.w w' (L.flatten ++ D) ∧ ContV c ob.c L ∧
      (∀ c', Tells c c' → c'.w = w' → c'.m h.length = some (inf true c.w.heap.size 0 ob.c.len ob.c.es ob.full) → VRep c' v v')) : OpOk P s h o v (h ++ [some ob]) false := by
  refine ⟨?_, (Pre.snoc _ _).sta _⟩
  intro c a hs hf hsl next Q hn
  obtain ⟨v', w', L, D, hr, hp, hL, hv⟩ := run c a hs hsl
  unfold Oper.wp
  rw [hr]
  obtain ⟨h1, h2, h3, h4⟩ := grow_ok hs (hf _ (Nat.le_refl _) (by simp)) hp hL hpos (fun fx e xs hc => by rw [hc] at hnd; cases hnd)
  exact hn _ v' h1 h2 (hv _ h4 rfl (by simp [Ctx.more, upd])) (fun _ => h3)

theorem raw_one {c : Ctx} {ti : TI} {z : AV} {vs : List Value} (hzs : ti.zero.size = ti.size) (hza : ti.zero.isAgg = ti.agg) (ha : z.isAgg = ti.agg) (hs : z.size = ti.size) (hr : VReps c z.cells vs) (h1 : ∀ v ∈ vs, v.oneCell' = true) :
    ContV c (.raw ti.agg ti.size ti.zero [z]) [vs] :=
  ⟨hza, hzs, ⟨ha, hs, by rw [← hr.length, ← AV.size_cells, hs], hr, h1⟩, trivial⟩

theorem told_alloc (hT : TOk P E) {t : TypeId} (ho : o.op = .alloc t) {K : AV → Heap → Bool → Option ρ}
    (hk : (match E.ty t with | some ti => K (.ptr h.length 0 0) (h ++ [some ⟨.raw ti.agg ti.size ti.zero [ti.zero], true⟩]) false | none => none) = some x) : Told P s h o K x := by
  split at hk
  · rename_i ti hti
    have ty := hT.is hti
    obtain ⟨i, z, hi, hz, hsz, hb, hrun, hzc, hzr, hz1⟩ := ty.zrun
    refine ⟨_, _, _, hk, OpOk.grow (hpos := by exact ty.pos) rfl fun c a hs hsl => ⟨.pointer (some ⟨c.w.heap.size, 0, none⟩), c.w.alloc (.cells z.cells t), [z.cells.toList], [], ?_, ?_, ?_, ?_⟩⟩
    · simp [execOp, ho, Instr.alloc, hrun, newVar, newRow]
    · simpa using pushed_alloc c.w z.cells t
    · exact raw_one ty.zsize ty.zagg ty.zagg ty.zsize (hzr c) hz1
    · intro c' _ _ hm
      simp only [VRep, ptrRep]
      exact ⟨⟨_, rfl⟩, .inr ⟨_, hm, by simp [Cont.len], by simp⟩⟩
  · cases hk

theorem told_box (hT : TOk P E) {t : TypeId} {y : Operand} (ho : o.op = .box t y) {K : AV → Heap → Bool → Option ρ}
    (hk : (match E.ty t with
     | some ti => bif ((aeval s y).isAgg == ti.agg) && ((aeval s y).size == ti.size) && (aeval s y).cells.all AV.one then K (.ptr h.length 0 0) (h ++ [some ⟨.raw ti.agg ti.size ti.zero [aeval s y], true⟩]) false else none
     | none => none) = some x) : Told P s h o K x := by
  split at hk
  · rename_i ti hti
    have ty := hT.is hti
    by_cases hb : (((aeval s y).isAgg == ti.agg) && ((aeval s y).size == ti.size) && (aeval s y).cells.all AV.one) = true
    · simp only [hb, cond_true] at hk
      simp only [Bool.and_eq_true, beq_iff_eq] at hb
      obtain ⟨⟨h1, h2⟩, h3⟩ := hb
      refine ⟨_, _, _, hk, OpOk.grow (hpos := by exact ty.pos) rfl fun c a hs hsl => ⟨.pointer (some ⟨c.w.heap.size, 0, none⟩), c.w.alloc (.cells (a.eval y).cells t), [(a.eval y).cells.toList], [], ?_, ?_, ?_, ?_⟩⟩
      · simp [execOp, ho, Instr.box, newVar, newRow]
      · simpa using pushed_alloc c.w (a.eval y).cells t
      · obtain ⟨q1, q2⟩ := (hsl.eval y).cells h3
        exact raw_one ty.zsize ty.zagg h1 h2 q1 q2
      · intro c' _ _ hm
        simp only [VRep, ptrRep]
        exact ⟨⟨_, rfl⟩, .inr ⟨_, hm, by simp [Cont.len], by simp⟩⟩
    · simp only [Bool.not_eq_true] at hb; simp [hb] at hk
  · cases hk
end

/-! A value read as of a type. -/
theorem asOne_ok {c : Ctx} {t : Ty} {a : AV} {x : t.C} {v : Value} (h : asOne t a = some x) (hr : VRep c a v) : CellsRep c.pr c.w t x [v] := by
  unfold asOne at h
  split at h
  · split at h
    · rename_i hk; subst hk; cases h; simp only [CellsRep]; rw [hr.int]
    · cases h
  · cases h; simp only [CellsRep]; rw [hr.bool]
  · cases h; simp only [CellsRep]; rw [hr.str]
  · rename_i u y
    split at h
    · rename_i hu
      subst hu
      cases h
      simp only [VRep, TRep, Ty.isAgg, Bool.false_eq_true, if_false] at hr
      exact hr
    · cases h
  · cases h
    simp only [VRep] at hr
    obtain ⟨a, rfl⟩ := hr
    exact ⟨_, rfl, a, 0, rfl, Nat.le_refl _, fun _ => rfl, fun h => absurd rfl h⟩
  · cases h

theorem VReps.one_of {c : Ctx} {a : AV} {vs : List Value} (h : VReps c [a] vs) : ∃ u, vs = [u] ∧ VRep c a u := by
  match vs, h with
  | [u], h => exact ⟨u, rfl, by simpa [VReps] using h⟩
  | [], h => simp [VReps] at h
  | _ :: _ :: _, h => simp [VReps] at h

theorem asCells_ok {c : Ctx} : ∀ {t : Ty} {as : List AV} {x : t.C} {vs : List Value}, asCells t as = some x → VReps c as vs → CellsRep c.pr c.w t x vs := by
  intro t
  have scalar : ∀ (t : Ty), (∀ as, asCells t as = match as with | [v] => asOne t v | _ => none) → ∀ {as : List AV} {x : t.C} {vs : List Value}, asCells t as = some x → VReps c as vs → CellsRep c.pr c.w t x vs := by
    intro t ht as x vs h hr
    rw [ht] at h
    match as, h, hr with
    | [v], h, hr => obtain ⟨u, rfl, hu⟩ := hr.one_of; exact asOne_ok h hu
    | [], h, _ => cases h
    | _ :: _ :: _, h, _ => cases h
  have sh : ∀ (as : List AV) (t : Ty), (∀ v, asCells t [v] = asOne t v) → asCells t [] = none → (∀ a b l, asCells t (a :: b :: l) = none) → asCells t as = match as with | [v] => asOne t v | _ => none := by
    intro as t h1 h2 h3
    match as with
    | [v] => exact h1 v
    | [] => exact h2
    | a :: b :: l => exact h3 a b l
  induction t with
  | int k => exact scalar _ (fun as => sh as _ (fun _ => rfl) rfl (fun _ _ _ => rfl))
  | bool => exact scalar _ (fun as => sh as _ (fun _ => rfl) rfl (fun _ _ _ => rfl))
  | str => exact scalar _ (fun as => sh as _ (fun _ => rfl) rfl (fun _ _ _ => rfl))
  | row e _ => exact scalar _ (fun as => sh as _ (fun _ => rfl) rfl (fun _ _ _ => rfl))
  | unit =>
    intro as x vs h hr
    match as, h with
    | [], h => match vs, hr with
      | [], _ => simp [CellsRep]
      | _ :: _, hr => simp [VReps] at hr
    | _ :: _, h => simp [asCells] at h
  | pair a b iha ihb =>
    intro as x vs h hr
    simp only [asCells] at h
    cases hp : asCells a (as.take a.size) with
    | none => simp [hp] at h
    | some p =>
      cases hq : asCells b (as.drop a.size) with
      | none => simp only [hp, hq, Option.bind_some] at h; cases h
      | some q =>
        simp only [hp, hq, Option.bind_some] at h
        cases h
        exact ⟨_, _, (List.take_append_drop a.size vs).symm, iha hp (hr.take _), ihb hq (hr.drop _)⟩
  | node =>
    intro as x vs h hr
    rcases as with _ | ⟨a1, as⟩
    · cases h
    cases a1 <;> try (cases h; done)
    rename_i k1 o
    cases k1 <;> try (cases h; done)
    rcases as with _ | ⟨a2, as⟩
    · cases h
    cases a2 <;> try (cases h; done)
    rename_i s
    rcases as with _ | ⟨a3, as⟩
    · cases h
    cases a3 <;> try (cases h; done)
    rename_i k3 n
    cases k3 <;> try (cases h; done)
    rcases as with _ | ⟨v, as⟩
    · cases h
    rcases as with _ | ⟨_, _⟩
    · replace h : (asOne (.row .node) v).map (fun k => Node.mk o s n k) = some x := h
      cases hk : asOne (.row .node) v with
      | none => simp only [hk] at h; cases h
      | some k =>
        simp only [hk] at h
        cases h
        match vs, hr with
        | [v1, v2, v3, v4], hr =>
          simp only [VReps, and_true] at hr
          obtain ⟨h1, h2, h3, h4⟩ := hr
          refine CellsRep.of_vreps (t := .node) ?_
          simp only [cellsT, VReps, and_true, Node.op, Node.s, Node.n, Node.kids]
          refine ⟨h1, h2, h3, ?_⟩
          simp only [VRep, TRep, Ty.isAgg, Bool.false_eq_true, if_false]
          exact asOne_ok hk h4
    · cases h

theorem as_ok {c : Ctx} {t : Ty} {a : AV} {x : t.C} {vs : List Value} (h : a.as t = some x) (hr : VReps c a.cells vs) : CellsRep c.pr c.w t x vs := by
  unfold AV.as at h
  split at h
  · rename_i cs
    cases ht : t.isAgg with
    | false => simp [ht] at h
    | true => simp only [ht, cond_true] at h; exact asCells_ok h (by simpa [AV.cells] using hr)
  · rename_i u y
    split at h
    · rename_i hu
      subst hu
      cases h
      simp only [AV.cells] at hr
      cases ht : u.isAgg with
      | true => simp only [ht, cond_true] at hr; exact CellsRep.of_vreps hr
      | false =>
        simp only [ht, cond_false] at hr
        obtain ⟨v, rfl, hv⟩ := hr.one_of
        simp only [VRep, TRep, ht, Bool.false_eq_true, if_false] at hv
        exact hv
    · cases h
  · rename_i hag1 hag2
    have hag : a.isAgg = false := by
      cases a <;> try rfl
      · exact absurd rfl (hag1 _)
      · exact (hag2 _ _ rfl).elim
    rw [AV.cells_one hag] at hr
    obtain ⟨v, rfl, hv⟩ := hr.one_of
    exact asOne_ok h hv
end Go.AM
