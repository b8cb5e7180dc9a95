/- An interpreter of the model's code over values that are told, and its soundness. -/
import Derived.Test.YteojdaobpjhddaaAS3
namespace Go.AM

/-! Soundness: memory that is read, and memory that grows. -/
theorem add_none (b o n : Nat) : (⟨b, o, none⟩ : Addr).add n = ⟨b, o + n, none⟩ := by unfold Addr.add; split <;> simp_all

theorem Lies.drop {w : World} {b o : Nat} {vs : List Value} (h : Lies w b o vs) (n : Nat) : Lies w b (o + n) (vs.drop n) := fun j v hj => by
  have := h (n + j) v (by simpa using hj); rwa [← Nat.add_assoc] at this
theorem Lies.take {w : World} {b o : Nat} {vs : List Value} (h : Lies w b o vs) (n : Nat) : Lies w b o (vs.take n) := fun j v hj => by
  rw [List.getElem?_take] at hj
  split at hj
  · exact h j v hj
  · cases hj
theorem Lies.append {w : World} {b o : Nat} {vs us : List Value} (h : Lies w b o vs) (h' : Lies w b (o + vs.length) us) : Lies w b o (vs ++ us) := fun j v hj => by
  by_cases hl : j < vs.length
  · rw [List.getElem?_append_left hl] at hj; exact h j v hj
  · rw [List.getElem?_append_right (by omega)] at hj
    have := h' _ v hj; rwa [show o + vs.length + (j - vs.length) = o + j by omega] at this

section
variable {ρ : Type} {P : Program} {E : Env} {s : List AV} {h : Heap} {o : Oper} {x : ρ}

theorem run_loadLies (w : World) (b off : Nat) (vs : List Value) (hl : Lies w b off vs) : (loadCells ⟨b, off, none⟩ vs.length).run P w = .ok vs.toArray w :=
  run_loadCells_list w _ vs fun j v hj => by rw [add_none]; exact hl j v hj

/-- A load where all is told. -/
theorem run_loadVar (hT : TOk P E) {t : TypeId} {ti : TI} (hi : E.ty t = some ti) {w : World} {b off sub : Nat} {vs : List Value} (hl : Lies w b off vs) {c : Ctx} {v : AV}
    (hv : (ti.agg = true → sub + ti.size ≤ vs.length ∧ VRep c v (.agg ((vs.drop sub).take ti.size).toArray)) ∧ (ti.agg = false → ti.size = 1 ∧ ∃ u, vs[sub]? = some u ∧ VRep c v u)) :
    ∃ v', (loadVar t ⟨b, off + sub, none⟩).run P w = .ok v' w ∧ VRep c v v' := by
  have hag := (hT.is hi).isAgg w
  have hsz := (hT.is hi).size w
  cases ha : ti.agg with
  | true =>
    obtain ⟨h1, h2⟩ := hv.1 ha
    refine ⟨_, ?_, h2⟩
    have hlen : ((vs.drop sub).take ti.size).length = ti.size := by simp; omega
    have := run_loadLies (P := P) w b (off + sub) _ ((hl.drop sub).take ti.size)
    rw [hlen] at this
    simp [loadVar, hag, ha, hsz, this]
  | false =>
    obtain ⟨_, u, hu, hr⟩ := hv.2 ha
    refine ⟨u, ?_, hr⟩
    have hc : w.cell? ⟨b, off + sub, none⟩ = some u := hl sub u hu
    simp [loadVar, hag, ha, hc]

theorem VReps.split {c : Ctx} : ∀ {as bs : List AV} {vs : List Value}, VReps c (as ++ bs) vs → VReps c as (vs.take as.length) ∧ VReps c bs (vs.drop as.length)
  | [], _, vs, h => by simpa [VReps] using h
  | a :: as, bs, [], h => by simp [VReps] at h
  | a :: as, bs, v :: vs, h => by
    simp only [List.cons_append, VReps] at h
    obtain ⟨h1, h2⟩ := VReps.split h.2
    simp only [List.length_cons, List.take_succ_cons, List.drop_succ_cons, VReps]
    exact ⟨⟨h.1, h1⟩, h2⟩

theorem cellsT_len : ∀ {t : Ty} {x : t.C}, (cellsT t x).length = t.size := by
  intro t
  induction t with
  | pair a b iha ihb => intro x; simp [cellsT, Ty.size, iha, ihb]
  | _ => intro x; rfl

theorem CellsRep.of_vreps {c : Ctx} : ∀ {t : Ty} {x : t.C} {vs : List Value}, VReps c (cellsT t x) vs → CellsRep c.pr c.w t x vs := by
  intro t
  have one : ∀ {a : AV} {vs : List Value}, VReps c [a] vs → ∃ u, vs = [u] ∧ VRep c a u := by
    intro a vs h
    match vs, h with
    | [u], h => exact ⟨u, rfl, by simpa [VReps] using h⟩
    | [], h => simp [VReps] at h
    | _ :: _ :: _, h => simp [VReps] at h
  induction t with
  | int k => intro x vs h; obtain ⟨u, rfl, hu⟩ := one h; simp only [CellsRep]; rw [hu.int]
  | bool => intro x vs h; obtain ⟨u, rfl, hu⟩ := one h; simp only [CellsRep]; rw [hu.bool]
  | str => intro x vs h; obtain ⟨u, rfl, hu⟩ := one h; simp only [CellsRep]; rw [hu.str]
  | row e _ =>
    intro x vs h
    obtain ⟨u, rfl, hu⟩ := one h
    simp only [VRep, TRep, Ty.isAgg, Bool.false_eq_true, if_false] at hu
    exact hu
  | unit => intro x vs h; cases vs <;> simp [cellsT, VReps] at h; simp [CellsRep]
  | pair a b iha ihb =>
    intro x vs h
    obtain ⟨h1, h2⟩ := VReps.split (as := cellsT a x.1) (bs := cellsT b x.2) h
    exact ⟨_, _, (List.take_append_drop _ vs).symm, iha h1, ihb h2⟩
  | node =>
    intro x vs h
    simp only [CellsRep]
    match vs, h with
    | [v1, v2, v3, v4], h =>
      simp only [cellsT, VReps, and_true] at h
      obtain ⟨h1, h2, h3, h4⟩ := h
      rw [h1.int, h2.str, h3.int]
      simp only [VRep, TRep, Ty.isAgg, Bool.false_eq_true, if_false, CellsRep] at h4
      obtain ⟨v, hv, a, cap, rfl, hle, hnone, hne⟩ := h4
      simp only [List.cons.injEq, and_true] at hv
      subst hv
      cases x with
      | mk o s n kids =>
        simp only [Node.op, Node.s, Node.n, Node.kids] at *
        by_cases hk : kids = []
        · subst hk
          exact .mk o s n [] a cap 0 0 (fun _ => []) hle hnone (by simp) (by simp) (by simp)
        · obtain ⟨b, off, ha, hp, hx⟩ := hne hk
          have ch : ∀ i, ∃ vs : List Value, ∀ x, kids[i]? = some x → vs.length = 4 ∧ Lies c.w b (off + i * 4) vs ∧ NodeRep c.pr c.w x vs := by
            intro i
            cases hi : kids[i]? with
            | none => exact ⟨[], by simp⟩
            | some y =>
              obtain ⟨vs, q1, q2, q3⟩ := hx i y hi
              exact ⟨vs, fun x hx => by cases hx; exact ⟨q1, q2, q3⟩⟩
          let vsf := fun i => Classical.choose (ch i)
          have hvs := fun i => Classical.choose_spec (ch i)
          exact .mk o s n kids a cap b off vsf hle hnone (fun _ => ⟨ha, hp⟩) (fun i x hi => ⟨(hvs i x hi).1, (hvs i x hi).2.1⟩) (fun i x hi => (hvs i x hi).2.2)
    | [], h => simp [cellsT, VReps] at h
    | [_], h => simp [cellsT, VReps] at h
    | [_, _], h => simp [cellsT, VReps] at h
    | [_, _, _], h => simp [cellsT, VReps] at h
    | _ :: _ :: _ :: _ :: _ :: _, h => simp [cellsT, VReps] at h

/-- A value of its cells. -/
theorem VRep.of_cells {c : Ctx} {a : AV} {vs : List Value} (ha : a.isAgg = true) (h : VReps c a.cells vs) : VRep c a (.agg vs.toArray) := by
  cases a <;> simp [AV.isAgg] at ha
  case agg cs => simp only [VRep]; exact ⟨_, rfl, by simpa [AV.cells] using h⟩
  case tv t y =>
    simp only [VRep, TRep, ha, if_true]
    refine ⟨_, rfl, ?_⟩
    simp only [AV.cells, ha, cond_true] at h
    exact CellsRep.of_vreps h

/-- What a row's element tells of its cells, and a load finds there. -/
theorem part_ok {c : Ctx} {b base : Nat} {ct : Cont} {ti : TI} {idx sub : Nat} {v : AV} (hnd : ct.isDeep = false) (hc : contRep c b base ct) (hidx : idx < ct.len) (hv : ct.part ti idx sub = some v) :
    ∃ vs, Lies c.w b (base + idx * ct.es) vs ∧
      ((ti.agg = true → sub + ti.size ≤ vs.length ∧ VRep c v (.agg ((vs.drop sub).take ti.size).toArray)) ∧ (ti.agg = false → ti.size = 1 ∧ ∃ u, vs[sub]? = some u ∧ VRep c v u)) := by
  cases ct with
  | typed e xs =>
    simp only [Cont.part, Cont.len, contRep, Cont.es] at *
    have hx : xs[idx]? = some xs[idx] := by simp [hidx]
    obtain ⟨vs, hl, hlies, hr⟩ := hc idx _ hx
    have hd : xs.getD idx e.dflt = xs[idx] := by simp [List.getD, hidx]
    rw [hd] at hv
    exact ⟨vs, hlies, partT_ok hr hv⟩
  | raw a es d xs =>
    simp only [Cont.part, Cont.len, contRep, Cont.es] at *
    have hx : xs[idx]? = some xs[idx] := by simp [hidx]
    obtain ⟨_, _, hc⟩ := hc
    obtain ⟨hag, hsz, vs, hl, hlies, hr, hone⟩ := hc idx _ hx
    have hd : xs.getD idx d = xs[idx] := by simp [List.getD, hidx]
    rw [hd] at hv
    by_cases hw : ((sub == 0) && (ti.size == es) && (ti.agg == a)) = true
    · simp only [hw, cond_true, Option.some.injEq] at hv
      subst hv
      simp only [Bool.and_eq_true, beq_iff_eq] at hw
      obtain ⟨⟨rfl, h2⟩, h3⟩ := hw
      refine ⟨vs, hlies, fun ha => ⟨by omega, ?_⟩, fun ha => ?_⟩
      · have e1 : (vs.drop 0).take ti.size = vs := by rw [List.drop_zero, h2, ← hl, List.take_length]
        rw [e1]
        have hxa : xs[idx].isAgg = true := by rw [hag, ← h3, ha]
        exact VRep.of_cells hxa hr
      · have hxa : xs[idx].isAgg = false := by rw [hag, ← h3, ha]
        have hcs := AV.cells_one hxa
        rw [hcs] at hr
        have hes : es = 1 := by
          rw [← hsz]; cases hxi : xs[idx] <;> rw [hxi] at hxa <;> simp [AV.isAgg, AV.size] at hxa ⊢
          simp [hxa]
        match vs, hr with
        | [u], hr => exact ⟨by omega, u, by simp, by simpa [VReps] using hr⟩
        | [], hr => simp [VReps] at hr
        | _ :: _ :: _, hr => simp [VReps] at hr
    · simp only [Bool.not_eq_true] at hw
      simp only [hw, cond_false] at hv
      exact ⟨vs, hlies, partC_ok hr hv⟩
  | deep fx e xs => cases hnd

/-! Deep rows. -/
theorem DCells.len {w : World} : ∀ {t : Ty} {x : t.C} {vs : List Value} {F : Nat → Prop}, DCells w t x vs F → vs.length = t.size := by
  intro t
  induction t with
  | int k => intro x vs F h; cases h; rfl
  | bool => intro x vs F h; cases h; rfl
  | str => intro x vs F h; cases h; rfl
  | row e _ => intro x vs F h; rcases h with ⟨_, a, rfl⟩ | ⟨b, o, cap, n, rfl, _⟩ <;> rfl
  | unit => intro x vs F h; cases h; rfl
  | node => intro x vs F h; exact h.elim
  | pair a b iha ihb => rintro x vs F ⟨l, r, L, R, rfl, _, _, _, hl, hr⟩; simp [Ty.size, iha hl, ihb hr]

theorem DCells.cells {w : World} : ∀ {t : Ty} {x : t.C} {vs : List Value} {F G : Nat → Prop}, (∀ k, F k → G k) → DCells w t x vs F → CellsRep G w t x vs := by
  intro t
  induction t with
  | int k => intro x vs F G _ h; exact h
  | bool => intro x vs F G _ h; exact h
  | str => intro x vs F G _ h; exact h
  | unit => intro x vs F G _ h; exact h
  | node => intro x vs F G _ h; exact h.elim
  | row e ih =>
    intro x vs F G hF h
    have x' : List e.C := x
    rcases h with ⟨h0, a, rfl⟩ | ⟨b, o, cap, n, rfl, hle, hb, _, _, J, hJ, _, hx⟩
    · exact ⟨_, rfl, a, 0, by rw [h0], Nat.le_of_eq h0, fun _ => rfl, fun hne => absurd (List.eq_nil_of_length_eq_zero h0) hne⟩
    · refine ⟨_, rfl, _, cap, rfl, hle, by simp, fun _ => ⟨b, o, rfl, hF b hb, fun i y hi => ?_⟩⟩
      obtain ⟨us, q1, q2, q3⟩ := hx i y hi
      exact ⟨us, q1, q2, ih (fun k hk => hF k (hJ i k hk).1) q3⟩
  | pair a b iha ihb =>
    rintro x vs F G hF ⟨l, r, L, R, rfl, h1, h2, _, hl, hr⟩
    exact ⟨l, r, rfl, iha (fun k hk => hF k (h1 k hk)) hl, ihb (fun k hk => hF k (h2 k hk)) hr⟩

theorem DCells.atRow {w : World} : ∀ {t : Ty} {x : t.C} {vs : List Value} {F : Nat → Prop} {sub : Nat}, DCells w t x vs F → (rowAt t sub).isSome = true → ∃ u, vs[sub]? = some u ∧ ∃ a n m, u = .slice a n m := by
  intro t
  induction t with
  | row e _ =>
    intro x vs F sub h hs
    cases sub with
    | zero => rcases h with ⟨_, a, rfl⟩ | ⟨b, o, cap, n, rfl, _⟩ <;> exact ⟨_, rfl, _, _, _, rfl⟩
    | succ n => simp [rowAt] at hs
  | pair a b iha ihb =>
    rintro x vs F sub ⟨l, r, L, R, rfl, _, _, _, hl, hr⟩ hs
    unfold rowAt at hs
    by_cases hlt : sub < a.size
    · rw [show Nat.blt sub a.size = true by simpa [Nat.blt_eq] using hlt, cond_true] at hs
      obtain ⟨u, h1, h2⟩ := iha hl hs
      exact ⟨u, by rw [List.getElem?_append_left (by rw [hl.len]; exact hlt)]; exact h1, h2⟩
    · rw [show Nat.blt sub a.size = false from Bool.eq_false_iff.2 fun h => hlt (by simpa [Nat.blt_eq] using h), cond_false] at hs
      obtain ⟨u, h1, h2⟩ := ihb hr hs
      exact ⟨u, by rw [List.getElem?_append_right (by rw [hl.len]; omega), hl.len]; exact h1, h2⟩
  | _ => intro x vs F sub h hs; simp [rowAt] at hs

theorem wordAt_part {t : Ty} {x : t.C} {sub : Nat} {v : AV} (h : wordAt t x sub = some v) : partT false 1 t x sub = some v ∧ ∀ (c c2 : Ctx) (u : Value), VRep c v u → VRep c2 v u := by
  unfold wordAt at h
  split at h
  · rename_i k n hh; cases h; exact ⟨hh, fun c c2 u hv => by simpa [VRep] using hv⟩
  · rename_i b hh; cases h; exact ⟨hh, fun c c2 u hv => by simpa [VRep] using hv⟩
  · rename_i s hh; cases h; exact ⟨hh, fun c c2 u hv => by simpa [VRep] using hv⟩
  · cases h

theorem part_deep {c : Ctx} {id : Nat} {i : Info} {fx : Bool} {e : Ty} {xs : List e.C} {ti : TI} {idx sub : Nat} {v : AV} (hD : DeepRow c id i fx e xs) (hidx : idx < List.length xs) (hv : (Cont.deep fx e xs).part ti idx sub = some v) :
    ∃ vs, Lies c.w i.b (i.base + idx * e.size) vs ∧
      ((ti.agg = true → sub + ti.size ≤ vs.length ∧ VRep c v (.agg ((vs.drop sub).take ti.size).toArray)) ∧ (ti.agg = false → ti.size = 1 ∧ ∃ u, vs[sub]? = some u ∧ VRep c v u)) := by
  obtain ⟨G, _, _, hx⟩ := hD.row
  have hxi : xs[idx]? = some xs[idx] := by simp [hidx]
  obtain ⟨vs, h1, h2, h3⟩ := hx idx _ hxi
  have hd : xs.getD idx e.dflt = xs[idx] := by simp [List.getD, hidx]
  refine ⟨vs, h2, ?_⟩
  simp only [Cont.part] at hv
  by_cases hc : (!ti.agg && (ti.size == 1)) = true
  · rw [hc, cond_true, hd] at hv
    simp only [Bool.and_eq_true, Bool.not_eq_true', beq_iff_eq] at hc
    obtain ⟨hp, hw⟩ := wordAt_part hv
    obtain ⟨_, q⟩ := partT_ok (c := { c with pr := G idx }) (h3.cells fun _ h => h) hp
    refine ⟨fun ha => (by rw [hc.1] at ha; cases ha), fun _ => ⟨hc.2, ?_⟩⟩
    obtain ⟨_, u, hu, hr⟩ := q rfl
    exact ⟨u, hu, hw _ _ _ hr⟩
  · simp only [Bool.not_eq_true] at hc
    rw [hc] at hv; cases hv

theorem dp_deep {c : Ctx} {id : Nat} {i : Info} {ct : Cont} {ti : TI} {idx sub : Nat} (hm : c.m id = some i) (hidx : idx < ct.len) (hD : ∀ fx e xs, ct = .deep fx e xs → DeepRow c id i fx e xs) (hv : dpOk ti ct sub = true) :
    ∃ vs, Lies c.w i.b (i.base + idx * ct.es) vs ∧
      ((ti.agg = true → sub + ti.size ≤ vs.length ∧ VRep c (.dp id idx sub) (.agg ((vs.drop sub).take ti.size).toArray)) ∧ (ti.agg = false → ti.size = 1 ∧ ∃ u, vs[sub]? = some u ∧ VRep c (.dp id idx sub) u)) := by
  unfold dpOk at hv
  split at hv
  · rename_i e xs
    simp only [Bool.and_eq_true, Bool.not_eq_true', beq_iff_eq] at hv
    obtain ⟨⟨h1, h2⟩, h4⟩ := hv
    have h3 : idx < List.length xs := hidx
    have D := hD _ _ _ rfl
    obtain ⟨G, _, _, hx⟩ := D.row
    have hxi : xs[idx]? = some xs[idx] := by simp [h3]
    obtain ⟨vs, q1, q2, q3⟩ := hx idx _ hxi
    obtain ⟨u, hu, hs⟩ := q3.atRow h4
    refine ⟨vs, q2, fun ha => (by rw [h1] at ha; cases ha), fun _ => ⟨h2, u, hu, ?_⟩⟩
    simp only [VRep, dpRep]
    exact ⟨hs, .inr ⟨i, hm, D.hd rfl idx sub u h3 h4 (q2 sub u hu)⟩⟩
  · cases hv

theorem told_load (hT : TOk P E) {t : TypeId} {y : Operand} (ho : o.op = .load t y) {K : AV → Heap → Bool → Option ρ}
    (hk : aload E t (aeval s y) h (fun v => K v h false) = some x) : Told P s h o K x := by
  have run : ∀ (c : Ctx) (ac : Act) (p : Addr) v', ac.eval y = .pointer (some p) → (loadVar t p).run P c.w = .ok v' c.w → (execOp ac.eval o).run P c.w = .ok (.value v') c.w := by
    intro c ac p v' hp hr
    simp [execOp, ho, hp, Instr.loadAt, Instr.sureAddr, hr]
  generalize hya : aeval s y = a at hk
  unfold aload at hk
  split at hk
  · cases hk
  · rename_i ti hti
    split at hk
    · rename_i id idx sub
      split at hk
      · rename_i ob hob
        have key : ∀ (v : AV), (∀ (c : Ctx) (i : Info), Sim c h → c.m id = some i → ¬ c.dead id → idx < ob.c.len → ObjRep c i ob → ∃ vs, Lies c.w i.b (i.base + idx * ob.c.es) vs ∧
            ((ti.agg = true → sub + ti.size ≤ vs.length ∧ VRep c v (.agg ((vs.drop sub).take ti.size).toArray)) ∧ (ti.agg = false → ti.size = 1 ∧ ∃ u, vs[sub]? = some u ∧ VRep c v u))) →
            K v h false = some x → Told P s h o K x := by
          intro v hp hk
          refine told_pure hk fun c ac hs hsl => ?_
          have hr := hsl.eval y; rw [hya] at hr
          simp only [VRep, ptrRep] at hr
          have hid : id < h.length := by
            simp only [hget] at hob
            rcases Nat.lt_or_ge id h.length with hl | hl
            · exact hl
            · simp [List.getD, List.getElem?_eq_none hl] at hob
          rcases hr.2 with hd | ⟨i, hi, hix, hv'⟩
          · rw [hs.gone id hid hd] at hob; cases hob
          · by_cases hd : c.dead id
            · rw [hs.gone id hid hd] at hob; cases hob
            · obtain ⟨ob', hob', hrep⟩ := hs.obj id i hid hi hd
              rw [hob] at hob'; cases hob'
              obtain ⟨vs, hlies, hpart⟩ := hp c i hs hi hd (by rw [← hrep.len]; exact hix) hrep
              rw [← hrep.es] at hlies
              obtain ⟨v', hrun, hrv⟩ := run_loadVar hT hti hlies hpart
              exact ⟨v', run c ac _ v' hv' hrun, hrv⟩
        have hid : id < h.length := by
          simp only [hget] at hob
          rcases Nat.lt_or_ge id h.length with hl | hl
          · exact hl
          · simp [List.getD, List.getElem?_eq_none hl] at hob
        have hdeep : ∀ (c : Ctx) (i : Info), Sim c h → c.m id = some i → ¬ c.dead id → ∀ fx e xs, ob.c = .deep fx e xs → DeepRow c id i fx e xs := fun c i hs hm hd fx e xs hc => hs.deep id i fx e xs ob.full hid hm hd (by rw [hob, ← hc])
        by_cases hdp : dpOk ti ob.c sub = true
        · rw [hdp, cond_true] at hk
          exact key _ (fun c i hs hm hd hlt _ => dp_deep hm hlt (hdeep c i hs hm hd) hdp) hk
        · simp only [Bool.not_eq_true] at hdp
          rw [hdp, cond_false] at hk
          split at hk
          · rename_i v hv
            refine key _ (fun c i hs hm hd hlt hrep => ?_) hk
            cases hc : ob.c with
            | deep fx e xs =>
              rw [hc] at hv hlt
              exact part_deep (hdeep c i hs hm hd fx e xs hc) hlt hv
            | typed e xs => rw [← hc]; exact part_ok (by rw [hc]; rfl) hrep.cont hlt hv
            | raw a es d xs => rw [← hc]; exact part_ok (by rw [hc]; rfl) hrep.cont hlt hv
          · cases hk
      · cases hk
    · rename_i e z sub
      split at hk
      · rename_i v hv
        refine told_pure hk fun c ac hs hsl => ?_
        have hr := hsl.eval y; rw [hya] at hr
        simp only [VRep] at hr
        obtain ⟨b, off, vs, hp, _, _, hlies, hc⟩ := hr
        obtain ⟨v', hrun, hrv⟩ := run_loadVar hT hti hlies (partT_ok hc hv)
        exact ⟨v', run c ac _ v' hp hrun, hrv⟩
      · cases hk
    · rename_i cs sub
      split at hk
      · rename_i v hv
        refine told_pure hk fun c ac hs hsl => ?_
        have hr := hsl.eval y; rw [hya] at hr
        simp only [VRep] at hr
        obtain ⟨b, off, vs, hp, _, hlies, hc⟩ := hr
        obtain ⟨v', hrun, hrv⟩ := run_loadVar hT hti hlies (partC_ok hc hv)
        exact ⟨v', run c ac _ v' hp hrun, hrv⟩
      · cases hk
    · cases hk

theorem told_fieldAddr (hT : TOk P E) {t : TypeId} {y : Operand} {j : Nat} (ho : o.op = .fieldAddr t y j) {K : AV → Heap → Bool → Option ρ}
    (hk : (match E.ty t with
     | some ⟨.struct fs, _, _, _, _, _⟩ =>
       (match fs[j]? with
        | some (off, _) =>
          (match aeval s y with
           | .ptr id idx sub => K (.ptr id idx (sub + off)) h false
           | .tp t y sub => K (.tp t y (sub + off)) h false
           | .bp cs sub => K (.bp cs (sub + off)) h false
           | _ => none)
        | none => none)
     | _ => none) = some x) : Told P s h o K x := by
  split at hk
  · rename_i fs _ _ _ _ _ hti
    have hkd : kindOf E t = some (.struct fs) := by simp [kindOf, hti]
    split at hk
    · rename_i off ft hj
      obtain ⟨gs, g, hu, hg, hgo, hgt, hcs⟩ := struct_field hT hkd hj
      have run : ∀ (c : Ctx) (ac : Act) (p : Addr), ac.eval y = .pointer (some p) → (execOp ac.eval o).run P c.w = .ok (.value (.pointer (some (p.add off)))) c.w := by
        intro c ac p hp
        cases hq : P.info? ft with
        | none => simp [Program.cellsOf, hq] at hcs
        | some it =>
          have hn : it.size ≠ 0 := by simpa [Program.cellsOf, hq] using hcs
          simp [execOp, ho, hp, Instr.fieldAt, run_underlying hu, hg, Instr.sureAddr, fieldPlace, sizeOf, typeInfo, hgt, hq, hn, hgo]
      generalize hya : aeval s y = a at hk
      cases a <;> simp only [reduceCtorEq] at hk
      case ptr id idx sub =>
        refine told_pure hk fun c ac hs hsl => ?_
        have hr := hsl.eval y; rw [hya] at hr
        simp only [VRep, ptrRep] at hr
        obtain ⟨⟨p, hp⟩, hr⟩ := hr
        refine ⟨_, run c ac p hp, ?_⟩
        simp only [VRep, ptrRep]
        refine ⟨⟨_, rfl⟩, ?_⟩
        rcases hr with hd | ⟨i, hi, hix, hv'⟩
        · exact .inl hd
        · refine .inr ⟨i, hi, hix, ?_⟩
          rw [hp] at hv'; cases hv'
          rw [add_none, Nat.add_assoc]
      case tp t z sub =>
        refine told_pure hk fun c ac hs hsl => ?_
        have hr := hsl.eval y; rw [hya] at hr
        simp only [VRep] at hr
        obtain ⟨b, q, vs, hp, hrest⟩ := hr
        exact ⟨_, run c ac _ hp, by simp only [VRep]; exact ⟨b, q, vs, by rw [add_none, Nat.add_assoc], hrest⟩⟩
      case bp cs sub =>
        refine told_pure hk fun c ac hs hsl => ?_
        have hr := hsl.eval y; rw [hya] at hr
        simp only [VRep] at hr
        obtain ⟨b, q, vs, hp, hrest⟩ := hr
        exact ⟨_, run c ac _ hp, by simp only [VRep]; exact ⟨b, q, vs, by rw [add_none, Nat.add_assoc], hrest⟩⟩
    · cases hk
  · cases hk

theorem hget_lt {h : Heap} {id : Nat} {ob : Obj} (hob : hget h id = some ob) : id < h.length := by
  simp only [hget] at hob
  rcases Nat.lt_or_ge id h.length with hl | hl
  · exact hl
  · simp [List.getD, List.getElem?_eq_none hl] at hob

/-- A row that is there, is not gone. -/
theorem Sim.alive {c : Ctx} {h : Heap} (hs : Sim c h) {id : Nat} {ob : Obj} (hob : hget h id = some ob) : ¬ c.dead id := by
  intro hd
  rw [hs.gone id (hget_lt hob) hd] at hob; cases hob

theorem Sim.rep {c : Ctx} {h : Heap} (hs : Sim c h) {id : Nat} {ob : Obj} {i : Info} (hob : hget h id = some ob) (hi : c.m id = some i) : ObjRep c i ob := by
  obtain ⟨ob', hob', hrep⟩ := hs.obj id i (hget_lt hob) hi (hs.alive hob)
  rw [hob] at hob'; cases hob'; exact hrep

theorem fits_some {t : TypeId} {y : AV} (hf : fits E t y h = true) : ∃ e ti n, kindOf E t = some (.slice e) ∧ E.ty e = some ti ∧ esOf h y = some n ∧ ti.size = n := by
  unfold fits at hf
  split at hf
  · rename_i e he
    split at hf
    · rename_i ti n h1 h2; exact ⟨e, ti, n, he, h1, h2, by simpa using hf⟩
    · cases hf
  · cases hf

theorem told_indexAddr (hT : TOk P E) {t : TypeId} {y z : Operand} (ho : o.op = .indexAddr t y z) {K : AV → Heap → Bool → Option ρ}
    (hk : (match aeval s z with | .int _ n => aindexAddr E t (aeval s y) n h K | _ => none) = some x) : Told P s h o K x := by
  generalize hza : aeval s z = q at hk
  cases q <;> simp only [reduceCtorEq] at hk
  rename_i kk n
  unfold aindexAddr at hk
  generalize hya : aeval s y = a at hk
  cases hf : fits E t a h with
  | false => simp [hf] at hk
  | true =>
    simp only [hf, cond_true] at hk
    obtain ⟨e, ti, es, hkt, hti, hes, hts⟩ := fits_some hf
    have hu := hT.slice hkt
    have hsz := fun w => (hT.is hti).size w
    have run : ∀ (c : Ctx) (ac : Act) (b q len cap : Nat), Slots c s ac → ac.eval y = .slice (some ⟨b, q, none⟩) len cap → 0 ≤ n → n < (len : Int) →
        (execOp ac.eval o).run P c.w = .ok (.value (.pointer (some ⟨b, q + n.toNat * es, none⟩))) c.w := by
      intro c ac b q len cap hsl hy h0 h1
      have hz := hsl.eval z; rw [hza] at hz
      simp [execOp, ho, hy, hz.int, Instr.indexAt, asIntOf, run_underlying hu, h0, h1, hsz, hts, add_none]
    cases a <;> (try simp only [reduceCtorEq] at hk)
    case sl id =>
      split at hk
      · rename_i ob hob
        by_cases h0 : 0 ≤ n
        · simp only [h0, decide_true, cond_true] at hk
          by_cases h1 : n < (ob.c.len : Int)
          · simp only [h1, decide_true, cond_true] at hk
            refine told_pure hk fun c ac hs hsl => ?_
            have hr := hsl.eval y; rw [hya] at hr
            simp only [VRep, slRep] at hr
            rcases hr.2 with hd | ⟨i, hi, hr⟩
            · exact absurd hd (hs.alive hob)
            · have hrep := hs.rep hob hi
              have hlen := hrep.len
              have hes' : i.es = es := by simp [esOf, hob] at hes; rw [hrep.es]; exact hes
              rcases hr with ⟨hl, cap, nn, hv, hle, hb, hbn, _⟩ | ⟨_, hl0, _⟩
              · refine ⟨_, run c ac i.b i.base i.len cap hsl hv h0 (by omega), ?_⟩
                simp only [VRep, ptrRep]
                exact ⟨⟨_, rfl⟩, .inr ⟨i, hi, by omega, by rw [hes']; rfl⟩⟩
              · omega
          · simp [h1] at hk
        · simp [h0] at hk
      · cases hk
    case ss id off len =>
      by_cases h0 : 0 ≤ n
      · simp only [h0, decide_true, cond_true] at hk
        by_cases h1 : n < (len : Int)
        · simp only [h1, decide_true, cond_true] at hk
          simp only [esOf, Option.map_eq_some_iff] at hes
          obtain ⟨ob, hob, hes⟩ := hes
          refine told_pure hk fun c ac hs hsl => ?_
          have hr := hsl.eval y; rw [hya] at hr
          simp only [VRep, ssRep] at hr
          rcases hr.2 with hd | ⟨i, hi, hle', hr⟩
          · exact absurd hd (hs.alive hob)
          · have hrep := hs.rep hob hi
            have hes' : i.es = es := by rw [hrep.es]; exact hes
            rcases hr with ⟨hl, cap, nn, hv, hle, hb, hbn⟩ | ⟨hl0, _⟩
            · refine ⟨_, run c ac i.b _ len cap hsl hv h0 h1, ?_⟩
              simp only [VRep, ptrRep]
              refine ⟨⟨_, rfl⟩, .inr ⟨i, hi, by omega, ?_⟩⟩
              rw [hes', Nat.add_mul, Nat.add_assoc]; rfl
            · omega
        · simp [h1] at hk
      · simp [h0] at hk
    case tv u xs =>
      cases u <;> simp only [reduceCtorEq] at hk
      rename_i e'
      change List e'.C at xs
      by_cases h0 : 0 ≤ n
      · simp only [h0, decide_true, cond_true] at hk
        by_cases h1 : n < (List.length xs : Int)
        · simp only [h1, decide_true, cond_true] at hk
          refine told_pure hk fun c ac hs hsl => ?_
          have hr := hsl.eval y; rw [hya] at hr
          simp only [VRep, TRep, Ty.isAgg, Bool.false_eq_true, if_false, CellsRep] at hr
          obtain ⟨v, hv, a, cap, rfl, hle, hnone, hne⟩ := hr
          simp only [List.cons.injEq, and_true] at hv
          have hlt : n.toNat < List.length xs := by omega
          have hxn : xs ≠ [] := by rintro rfl; simp at hlt
          obtain ⟨b, q, ha, hp, hx⟩ := hne hxn
          have hx' : xs[n.toNat]? = some xs[n.toNat] := by simp [hlt]
          obtain ⟨vs, hl, hlies, hrep⟩ := hx _ _ hx'
          have hes' : e'.size = es := by simpa [esOf] using hes
          rw [ha] at hv
          refine ⟨_, run c ac b q _ cap hsl hv h0 h1, ?_⟩
          simp only [VRep]
          have hd : List.getD xs n.toNat e'.dflt = xs[n.toNat] := by simp [List.getD, hlt]
          rw [hd]
          exact ⟨b, q + n.toNat * e'.size, vs, by rw [hes']; rfl, hp, hl, hlies, hrep⟩
        · simp [h1] at hk
      · simp [h0] at hk

/-- What a load from the heap finds. -/
theorem part_at {c : Ctx} {h : Heap} (hs : Sim c h) {id : Nat} {ob : Obj} (hob : hget h id = some ob) {i : Info} (hi : c.m id = some i) {ti : TI} {idx sub : Nat} {v : AV} (hix : idx < i.len)
    (hv : (dpOk ti ob.c sub = true ∧ v = .dp id idx sub) ∨ ob.c.part ti idx sub = some v) :
    ∃ vs, Lies c.w i.b (i.base + idx * i.es) vs ∧
      ((ti.agg = true → sub + ti.size ≤ vs.length ∧ VRep c v (.agg ((vs.drop sub).take ti.size).toArray)) ∧ (ti.agg = false → ti.size = 1 ∧ ∃ u, vs[sub]? = some u ∧ VRep c v u)) := by
  have rep := hs.rep hob hi
  have hdeep : ∀ fx e xs, ob.c = .deep fx e xs → DeepRow c id i fx e xs := fun fx e xs hc => hs.deep id i fx e xs ob.full (hget_lt hob) hi (hs.alive hob) (by rw [hob, ← hc])
  rw [rep.es]
  rcases hv with ⟨hv, rfl⟩ | hv
  · exact dp_deep hi (by rw [← rep.len]; exact hix) hdeep hv
  · have hlt : idx < ob.c.len := by rw [← rep.len]; exact hix
    cases hc : ob.c with
    | deep fx e xs => rw [hc] at hv hlt; exact part_deep (hdeep fx e xs hc) hlt hv
    | typed e xs => rw [← hc]; exact part_ok (by rw [hc]; rfl) rep.cont hlt hv
    | raw a es d xs => rw [← hc]; exact part_ok (by rw [hc]; rfl) rep.cont hlt hv
end
end Go.AM
