/- An interpreter of the model's code over values that are told, and its soundness. -/
import Derived.Test.YteojdaobpjhddaaAS2
namespace Go.AM

/-! Soundness: operations on values. -/
section
variable {ρ : Type} {P : Program} {E : Env} {s : List AV} {h : Heap} {o : Oper} {x : ρ}

theorem told_unOp {op : UnOp} {t : TypeId} {y : Operand} (ho : o.op = .unOp op t y) {K : AV → Heap → Bool → Option ρ}
    (hk : aun op (aeval s y) (fun v => K v h false) = some x) : Told P s h o K x := by
  generalize hya : aeval s y = a at hk
  unfold aun at hk
  split at hk
  · rename_i k n
    refine told_pure hk fun c ac _ hsl => ⟨.int k (k.wrap (0 - n)), ?_, by simp only [VRep]⟩
    have := hsl.eval y; rw [hya] at this
    simp [execOp, ho, this.int, Op.unary, Op.intArith]
  · rename_i b
    refine told_pure hk fun c ac _ hsl => ⟨.bool !b, ?_, by simp only [VRep]⟩
    have := hsl.eval y; rw [hya] at this
    simp [execOp, ho, this.bool, Op.unary]
  · cases hk

theorem told_nilCheck {y : Operand} (ho : o.op = .nilCheck y) {K : AV → Heap → Bool → Option ρ}
    (hk : (match aeval s y with
     | .ptr i j l => K (.ptr i j l) h false
     | .tp t y j => K (.tp t y j) h false
     | .bp cs j => K (.bp cs j) h false
     | .fn f cs => K (.fn f cs) h false
     | _ => none) = some x) : Told P s h o K x := by
  generalize hya : aeval s y = a at hk
  cases a <;> simp only [reduceCtorEq] at hk
  case ptr i j l =>
    refine told_pure hk fun c ac _ hsl => ⟨ac.eval y, ?_, by have := hsl.eval y; rwa [hya] at this⟩
    have := hsl.eval y; rw [hya] at this
    obtain ⟨p, hp⟩ := isAddr_rep (a := .ptr i j l) rfl this
    simp [execOp, ho, hp]
  case tp t z j =>
    refine told_pure hk fun c ac _ hsl => ⟨ac.eval y, ?_, by have := hsl.eval y; rwa [hya] at this⟩
    have := hsl.eval y; rw [hya] at this
    obtain ⟨p, hp⟩ := isAddr_rep (a := .tp t z j) rfl this
    simp [execOp, ho, hp]
  case bp cs j =>
    refine told_pure hk fun c ac _ hsl => ⟨ac.eval y, ?_, by have := hsl.eval y; rwa [hya] at this⟩
    have := hsl.eval y; rw [hya] at this
    obtain ⟨p, hp⟩ := isAddr_rep (a := .bp cs j) rfl this
    simp [execOp, ho, hp]
  case fn f cs =>
    refine told_pure hk fun c ac _ hsl => ⟨ac.eval y, ?_, by have := hsl.eval y; rwa [hya] at this⟩
    have := hsl.eval y; rw [hya] at this
    simp only [VRep] at this
    obtain ⟨ws, hw, _⟩ := this
    simp [execOp, ho, hw]

theorem VReps.of_map {c : Ctx} {a : Act} (hsl : Slots c s a) : ∀ (l : List Operand), VReps c (l.map (aeval s)) (l.map a.eval)
  | [] => by simp [VReps]
  | y :: l => by simp only [List.map_cons, VReps]; exact ⟨hsl.eval y, VReps.of_map hsl l⟩

theorem told_makeFunc {f : FuncId} {fs caps : Array Operand} (ho : o.op = .makeFunc (.func f) fs caps) {K : AV → Heap → Bool → Option ρ}
    (hk : (bif fs.size == 0 then K (.fn f (caps.toList.map (aeval s))) h false else none) = some x) : Told P s h o K x := by
  by_cases h0 : fs.size = 0
  · simp only [h0, BEq.rfl, cond_true] at hk
    have hf : fs = #[] := Array.eq_empty_of_size_eq_zero h0
    refine told_pure hk fun c ac _ hsl => ⟨.func (.func f) #[] (caps.map ac.eval), ?_, ?_⟩
    · simp [execOp, ho, Instr.makeFunc, hf]
    · simp only [VRep]; exact ⟨_, rfl, by simpa using VReps.of_map hsl caps.toList⟩
  · have : (fs.size == 0) = false := by simpa using h0
    simp [this] at hk

theorem told_extract {y : Operand} {j : Nat} (ho : o.op = .extract y j) {K : AV → Heap → Bool → Option ρ}
    (hk : (match aeval s y with | .tup vs => (match vs[j]? with | some v => K v h false | none => none) | _ => none) = some x) : Told P s h o K x := by
  generalize hya : aeval s y = a at hk
  cases a <;> simp only [reduceCtorEq] at hk
  rename_i vs
  split at hk
  · rename_i v hv
    have key : ∀ (c : Ctx) (ac : Act), Slots c s ac → ∃ (ws : Array Value) (v' : Value), ac.eval y = .tuple ws ∧ ws[j]? = some v' ∧ VRep c v v' := by
      intro c ac hsl
      have := hsl.eval y; rw [hya] at this
      simp only [VRep] at this
      obtain ⟨ws, hw, hr⟩ := this
      obtain ⟨v', hv', hr'⟩ := hr.get hv
      exact ⟨ws, v', hw, by simpa using hv', hr'⟩
    refine told_pure hk fun c ac _ hsl => ?_
    obtain ⟨ws, v', hw, hv', hr'⟩ := key c ac hsl
    exact ⟨v', by simp [execOp, ho, hw, Instr.extract, hv'], hr'⟩
  · cases hk

/-- A part of a struct's cells. -/
theorem run_part (hT : TOk P E) {t : TypeId} {ti : TI} (hi : E.ty t = some ti) (w : World) (V : Array Value) (off : Nat) :
    (part t V off).run P w = if ti.agg = true then .ok (.agg (V.extract off (off + ti.size))) w else (match V[off]? with | some v => .ok v w | none => .halt (.stuck "part: no such cell") w) := by
  have hag := (hT.is hi).isAgg w
  have hsz := (hT.is hi).size w
  cases ha : ti.agg with
  | true => simp [part, hag, ha, hsz]
  | false => simp only [part, Sem.run_bind, hag, ha, Result.andThen_ok, Bool.false_eq_true, if_false]; cases V[off]? <;> simp

theorem CellsRep.len {pr : Nat → Prop} {w : World} : ∀ {t : Ty} {x : t.C} {vs : List Value}, CellsRep pr w t x vs → vs.length = t.size := by
  intro t
  induction t with
  | int k => intro x vs h; simp only [CellsRep] at h; subst h; rfl
  | bool => intro x vs h; simp only [CellsRep] at h; subst h; rfl
  | str => intro x vs h; simp only [CellsRep] at h; subst h; rfl
  | row e _ => rintro x vs ⟨v, rfl, _⟩; rfl
  | unit => intro x vs h; simp only [CellsRep] at h; subst h; rfl
  | pair a b iha ihb => rintro x vs ⟨l, r, rfl, hl, hr⟩; simp [Ty.size, iha hl, ihb hr]
  | node => intro x vs h; simp only [CellsRep] at h; cases h; rfl

theorem tvn_rep {c : Ctx} {t : Ty} {x : t.C} {v : Value} (h : TRep c.pr c.w t x v) : VRep c (tvn t x) v := by
  cases t <;> simp only [tvn, VRep] <;> first | exact h | (simpa [TRep, Ty.isAgg, CellsRep] using h)

/-- What a load of a type finds in a typed value's cells. -/
theorem partT_ok {c : Ctx} {ag : Bool} {size : Nat} : ∀ {t : Ty} {x : t.C} {vs : List Value} {sub : Nat} {v : AV}, CellsRep c.pr c.w t x vs → partT ag size t x sub = some v →
    (ag = true → sub + size ≤ vs.length ∧ VRep c v (.agg ((vs.drop sub).take size).toArray)) ∧ (ag = false → size = 1 ∧ ∃ u, vs[sub]? = some u ∧ VRep c v u) := by
  intro t
  have one : ∀ (t : Ty) (x : t.C) (vs : List Value) (sub : Nat) (v : AV), t.isAgg = false → (∀ x' s', partT ag size t x' s' = bif (s' == 0) && (size == 1) && !ag then some (tvn t x') else none) →
      CellsRep c.pr c.w t x vs → partT ag size t x sub = some v →
      (ag = true → sub + size ≤ vs.length ∧ VRep c v (.agg ((vs.drop sub).take size).toArray)) ∧ (ag = false → size = 1 ∧ ∃ u, vs[sub]? = some u ∧ VRep c v u) := by
    intro t x vs sub v ht hp hc hv
    rw [hp] at hv
    by_cases hb : ((sub == 0) && (size == 1) && !ag) = true
    · simp only [hb, cond_true, Option.some.injEq] at hv
      simp only [Bool.and_eq_true, beq_iff_eq, Bool.not_eq_true'] at hb
      obtain ⟨⟨rfl, rfl⟩, rfl⟩ := hb
      have hl := hc.len
      have h1 : t.size = 1 := by cases t <;> simp [Ty.isAgg] at ht <;> rfl
      obtain ⟨u, rfl⟩ : ∃ u, vs = [u] := by
        match vs, hl with
        | [u], _ => exact ⟨u, rfl⟩
        | [], hl => simp [h1] at hl
        | _ :: _ :: _, hl => simp [h1] at hl
      refine ⟨by simp, fun _ => ⟨rfl, u, by simp, ?_⟩⟩
      rw [← hv]
      exact tvn_rep (by rw [TRep, if_neg (by simp [ht])]; exact hc)
    · simp only [Bool.not_eq_true] at hb; simp [hb] at hv
  induction t with
  | int k => intro x vs sub v hc hv; exact one _ x vs sub v rfl (fun _ _ => rfl) hc hv
  | bool => intro x vs sub v hc hv; exact one _ x vs sub v rfl (fun _ _ => rfl) hc hv
  | str => intro x vs sub v hc hv; exact one _ x vs sub v rfl (fun _ _ => rfl) hc hv
  | row e _ => intro x vs sub v hc hv; exact one _ x vs sub v rfl (fun _ _ => rfl) hc hv
  | unit => intro x vs sub v hc hv; simp [partT] at hv
  | pair a b iha ihb =>
    intro x vs sub v hc hv
    have hl := hc.len
    by_cases hw : ((sub == 0) && (size == a.size + b.size) && ag && !(b.isUnit && a.isAgg)) = true
    · rw [partT, hw, cond_true, Option.some.injEq] at hv
      rw [Bool.and_eq_true] at hw
      replace hw := hw.1
      simp only [Bool.and_eq_true, beq_iff_eq] at hw
      obtain ⟨⟨rfl, rfl⟩, rfl⟩ := hw
      subst hv
      refine ⟨fun _ => ⟨by simp only [Ty.size] at hl; omega, ?_⟩, by simp⟩
      simp only [VRep, TRep, Ty.isAgg, if_true]
      refine ⟨_, rfl, ?_⟩
      simp only [Ty.size] at hl
      rw [List.drop_zero, ← hl, List.take_length]
      exact hc
    · simp only [Bool.not_eq_true] at hw
      obtain ⟨l, r, rfl, h1, h2⟩ := hc
      have hl1 := h1.len
      by_cases hs : sub < a.size
      · have hbl : Nat.blt sub a.size = true := by simpa [Nat.blt_eq] using hs
        simp only [partT, hw, cond_false, hbl, cond_true] at hv
        obtain ⟨p, q⟩ := iha h1 hv
        refine ⟨fun hag => ?_, fun hag => ?_⟩
        · obtain ⟨p1, p2⟩ := p hag
          refine ⟨by simp; omega, ?_⟩
          rw [List.drop_append_of_le_length (by omega), List.take_append_of_le_length (by simp; omega)]
          exact p2
        · obtain ⟨q0, u, hu, hr⟩ := q hag
          exact ⟨q0, u, by rw [List.getElem?_append_left (by omega)]; exact hu, hr⟩
      · have hbl : Nat.blt sub a.size = false := by
          cases hq : Nat.blt sub a.size with
          | false => rfl
          | true => exact absurd (Nat.blt_eq ▸ hq) hs
        simp only [partT, hw, cond_false, hbl] at hv
        obtain ⟨p, q⟩ := ihb h2 hv
        refine ⟨fun hag => ?_, fun hag => ?_⟩
        · obtain ⟨p1, p2⟩ := p hag
          refine ⟨by simp; omega, ?_⟩
          have e : (l ++ r).drop sub = r.drop (sub - a.size) := by
            rw [List.drop_append, hl1, List.drop_eq_nil_of_le (by omega)]; simp
          rw [e]; exact p2
        · obtain ⟨q0, u, hu, hr⟩ := q hag
          exact ⟨q0, u, by rw [List.getElem?_append_right (by omega), hl1]; exact hu, hr⟩
  | node =>
    intro x vs sub v hc hv
    have hl := hc.len
    have hv4 : VReps c (cellsT .node x) vs := CellsRep.vreps hc
    by_cases hw : ((sub == 0) && (size == 4) && ag) = true
    · simp only [partT, hw, cond_true, Option.some.injEq] at hv
      simp only [Bool.and_eq_true, beq_iff_eq] at hw
      obtain ⟨⟨rfl, rfl⟩, rfl⟩ := hw
      subst hv
      refine ⟨fun _ => ⟨by simp only [Ty.size] at hl; omega, ?_⟩, by simp⟩
      simp only [VRep, TRep, Ty.isAgg, if_true]
      refine ⟨_, rfl, ?_⟩
      simp only [Ty.size] at hl
      rw [List.drop_zero, ← hl, List.take_length]
      exact hc
    · simp only [Bool.not_eq_true] at hw
      cases ag with
      | true => simp [partT, hw] at hv
      | false =>
        by_cases h1 : size = 1
        · subst h1
          simp only [partT, hw, cond_false, BEq.rfl, cond_true] at hv
          obtain ⟨u, hu, hr⟩ := hv4.get hv
          exact ⟨by simp, fun _ => ⟨rfl, u, hu, hr⟩⟩
        · have : (size == 1) = false := by simpa using h1
          simp [partT, hw, this] at hv

theorem eshr {α : Type} {a : Array α} {i j : Nat} : (a.extract i j).toList = (a.toList.drop i).take (j - i) := by simp

theorem eshr' {α : Type} {a : Array α} {off n : Nat} : a.extract off (off + n) = ((a.toList.drop off).take n).toArray := by
  apply Array.ext'; rw [eshr]; simp

/-- The same of cells that are told one by one. -/
theorem partC_ok {c : Ctx} {ti : TI} {cs : List AV} {vs : List Value} {sub : Nat} {v : AV} (hc : VReps c cs vs) (hv : partC ti cs sub = some v) :
    (ti.agg = true → sub + ti.size ≤ vs.length ∧ VRep c v (.agg ((vs.drop sub).take ti.size).toArray)) ∧ (ti.agg = false → ti.size = 1 ∧ ∃ u, vs[sub]? = some u ∧ VRep c v u) := by
  have hl := hc.length
  unfold partC at hv
  cases hag : ti.agg with
  | true =>
    simp only [hag, cond_true] at hv
    by_cases hb : sub + ti.size ≤ cs.length
    · have : Nat.ble (sub + ti.size) cs.length = true := by simpa [Nat.ble_eq] using hb
      simp only [this, cond_true, Option.some.injEq] at hv
      subst hv
      refine ⟨fun _ => ⟨by omega, ?_⟩, by simp⟩
      simp only [VRep]
      exact ⟨_, rfl, by simpa using VReps.take _ (VReps.drop _ hc)⟩
    · have : Nat.ble (sub + ti.size) cs.length = false := by
        cases hq : Nat.ble (sub + ti.size) cs.length with
        | false => rfl
        | true => exact absurd (Nat.ble_eq ▸ hq) hb
      simp [this] at hv
  | false =>
    simp only [hag, cond_false] at hv
    by_cases h1 : ti.size = 1
    · simp only [h1, BEq.rfl, cond_true] at hv
      obtain ⟨u, hu, hr⟩ := hc.get hv
      exact ⟨by simp, fun _ => ⟨h1, u, hu, hr⟩⟩
    · have : (ti.size == 1) = false := by simpa using h1
      simp [this] at hv

/-- Of a struct's value. -/
theorem partV_ok {c : Ctx} {ti : TI} {a : AV} {va : Value} {sub : Nat} {v : AV} (ha : VRep c a va) (hv : partV ti a sub = some v) :
    ∃ V : Array Value, va = .agg V ∧ (ti.agg = true → VRep c v (.agg (V.extract sub (sub + ti.size)))) ∧ (ti.agg = false → ∃ u, V[sub]? = some u ∧ VRep c v u) := by
  unfold partV at hv
  split at hv
  · rename_i u y
    cases hua : u.isAgg with
    | false => simp [hua] at hv
    | true =>
      simp only [hua, cond_true] at hv
      simp only [VRep, TRep, hua, if_true] at ha
      obtain ⟨V, hV, hc⟩ := ha
      obtain ⟨p, q⟩ := partT_ok hc hv
      refine ⟨V, hV, fun hag => ?_, fun hag => ?_⟩
      · rw [eshr']; exact (p hag).2
      · obtain ⟨_, u', hu', hr'⟩ := q hag
        exact ⟨u', by simpa using hu', hr'⟩
  · rename_i cs
    simp only [VRep] at ha
    obtain ⟨V, hV, hc⟩ := ha
    obtain ⟨p, q⟩ := partC_ok hc hv
    refine ⟨V, hV, fun hag => ?_, fun hag => ?_⟩
    · rw [eshr']; exact (p hag).2
    · obtain ⟨_, u', hu', hr'⟩ := q hag
      exact ⟨u', by simpa using hu', hr'⟩
  · cases hv

theorem struct_field (hT : TOk P E) {t : TypeId} {fs : List (Nat × TypeId)} {j off : Nat} {ft : TypeId} (hti : kindOf E t = some (.struct fs)) (hj : fs[j]? = some (off, ft)) :
    ∃ gs g, P.underlying t = some (.struct gs) ∧ gs[j]? = some g ∧ g.offset = off ∧ g.type = ft ∧ P.cellsOf ft ≠ 0 := by
  obtain ⟨gs, hu, hfs, hn, _⟩ := hT.struct hti
  rw [← hfs, List.getElem?_map, Option.map_eq_some_iff] at hj
  obtain ⟨g, hg, he⟩ := hj
  simp only [Prod.mk.injEq] at he
  exact ⟨gs, g, hu, by simpa using hg, he.1, he.2, he.2 ▸ (hn g (List.mem_of_getElem? hg)).2⟩

theorem told_field (hT : TOk P E) {t : TypeId} {y : Operand} {j : Nat} (ho : o.op = .field t y j) {K : AV → Heap → Bool → Option ρ}
    (hk : (match E.ty t with
     | some ⟨.struct fs, _, _, _, _, _⟩ =>
       (match fs[j]? with
        | some (off, ft) =>
          (match E.ty ft with
           | some ti => (match partV ti (aeval s y) off with | some v => K v h false | none => none)
           | none => none)
        | none => none)
     | _ => none) = some x) : Told P s h o K x := by
  split at hk
  · rename_i fs _ _ _ _ _ hti
    have hkd : kindOf E t = some (.struct fs) := by simp [kindOf, hti]
    split at hk
    · rename_i off ft hj
      obtain ⟨gs, g, hu, hg, hgo, hgt, _⟩ := struct_field hT hkd hj
      split at hk
      · rename_i ti hfi
        split at hk
        · rename_i v hv
          have key : ∀ (c : Ctx) (ac : Act), Slots c s ac → ∃ v', (execOp ac.eval o).run P c.w = .ok (.value v') c.w ∧ VRep c v v' := by
            intro c ac hsl
            obtain ⟨V, hV, p, q⟩ := partV_ok (hsl.eval y) hv
            have run : ∀ v', (part ft V off).run P c.w = .ok v' c.w → (execOp ac.eval o).run P c.w = .ok (.value v') c.w := by
              intro v' h'
              simp [execOp, ho, hV, Instr.field, run_underlying hu, hg, hgo, hgt, asAgg, h']
            cases hag : ti.agg with
            | true => exact ⟨_, run _ (by rw [run_part hT hfi, if_pos hag]), p hag⟩
            | false =>
              obtain ⟨u', hu', hr'⟩ := q hag
              exact ⟨u', run _ (by rw [run_part hT hfi, if_neg (by simp [hag]), hu']), hr'⟩
          exact told_pure hk fun c ac _ hsl => key c ac hsl
        · cases hk
      · cases hk
    · cases hk
  · cases hk

theorem told_index (hT : TOk P E) {t : TypeId} {y z : Operand} (ho : o.op = .index t y z) {K : AV → Heap → Bool → Option ρ}
    (hk : (match kindOf E t, aeval s y, aeval s z with
     | some TK.str, .str b, .int _ n => bif decide (0 ≤ n) then bif decide (n < (b.size : Int)) then K (.int .u8 (byteAt b n.toNat)) h false else none else none
     | _, _, _ => none) = some x) : Told P s h o K x := by
  split at hk
  · rename_i b k n hkd hy hz
    have hu := hT.str hkd
    by_cases h0 : 0 ≤ n
    · simp only [h0, decide_true, cond_true] at hk
      by_cases h1 : n < (b.size : Int)
      · simp only [h1, decide_true, cond_true] at hk
        have hlt : n.toNat < b.size := by omega
        refine told_pure hk fun c ac _ hsl => ⟨_, ?_, by simp only [VRep]; rfl⟩
        have ha := hsl.eval y; rw [hy] at ha
        have hb := hsl.eval z; rw [hz] at hb
        have hx : b[n.toNat]? = some b[n.toNat] := by simp [hlt]
        simp [execOp, ho, ha.str, hb.int, Instr.index, asIntOf, run_underlying hu, h0, hx, byteAt]
      · simp [h1] at hk
    · simp [h0] at hk
  · cases hk
end
end Go.AM
