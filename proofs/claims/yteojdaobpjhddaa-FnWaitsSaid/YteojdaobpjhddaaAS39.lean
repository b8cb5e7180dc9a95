/- An interpreter of the model's code over values that are told, and its soundness. -/
import Derived.Test.YteojdaobpjhddaaAS38
namespace Go.AM

/-! Values of the caller's own, with all that they lead to: told anew by a call. -/
/-- How many rows a value leads to straight. -/
def rowsT : Ty → Nat
  | .row _ => 1
  | .pair a b => rowsT a + rowsT b
  | _ => 0
/-- The cells of such a value, its rows numbered from n on. -/
def expl : (t : Ty) → t.C → Nat → List AV
  | .int k, x, _ => [.int k x]
  | .bool, x, _ => [.bool x]
  | .str, x, _ => [.str x]
  | .row _, _, n => [.sl n]
  | .pair a b, x, n => expl a x.1 n ++ expl b x.2 (n + rowsT a)
  | _, _, _ => []
def contD (fx : Bool) (e : Ty) (xs : List e.C) : Cont := bif flatT e then .typed e xs else .deep fx e xs
def objsD (fx : Bool) : (t : Ty) → t.C → Heap
  | .row e, xs => [some ⟨contD fx e xs, false⟩]
  | .pair a b, x => objsD fx a x.1 ++ objsD fx b x.2
  | _, _ => []
/-- Rows of elements that have cells; no trees. -/
def posT : Ty → Bool
  | .row e => Nat.blt 0 e.size
  | .pair a b => posT a && posT b
  | .node => false
  | _ => true
def ownV (t : Ty) (cs : List AV) : AV := bif t.isAgg then .agg cs else cs.headD .undef

theorem objsD_len (fx : Bool) : ∀ (t : Ty) (x : t.C), (objsD fx t x).length = rowsT t := by
  intro t
  induction t with
  | pair a b iha ihb => intro x; simp [objsD, rowsT, iha, ihb]
  | _ => intro x; rfl

theorem contD_len {fx : Bool} {e : Ty} {xs : List e.C} : (contD fx e xs).len = List.length xs ∧ (contD fx e xs).es = e.size := by
  unfold contD; cases flatT e <;> exact ⟨rfl, rfl⟩

/-- Rows told anew. -/
theorem expl_ok {c : Ctx} {h : Heap} (fx : Bool) : ∀ {t : Ty} {x : t.C} {us : List Value} {F : Nat → Prop} {c1 : Ctx} {h1 : Heap}, Ext c h c1 h1 → Sim c1 h1 → (∀ id, h1.length ≤ id → id < h1.length + rowsT t → c1.m id = none ∧ ¬ c1.dead id) →
    DCells c1.w t x us F → (∀ b, F b → c.Fresh c1 b) → posT t = true →
    ∃ c2, c2.w = c1.w ∧ c2.pr = c1.pr ∧ c2.dead = c1.dead ∧ (∀ id, h1.length + rowsT t ≤ id → c2.m id = c1.m id) ∧ (∀ id b, c2.at id b → c1.at id b ∨ F b) ∧ Ext c h c2 (h1 ++ objsD fx t x) ∧ Sim c2 (h1 ++ objsD fx t x) ∧ (Grow c h c1 h1 → Grow c h c2 (h1 ++ objsD fx t x)) ∧ Tells c1 c2 ∧
      VReps c2 (expl t x h1.length) us := by
  intro t
  induction t with
  | int k => intro x us F c1 h1 hE hS hf hD hF hp; cases hD; exact ⟨c1, rfl, rfl, rfl, fun _ _ => rfl, fun _ _ h => .inl h, by simpa [objsD] using hE, by simpa [objsD] using hS, fun G => by simpa [objsD] using G, Tells.refl c1, by simp [expl, VReps, VRep]⟩
  | bool => intro x us F c1 h1 hE hS hf hD hF hp; cases hD; exact ⟨c1, rfl, rfl, rfl, fun _ _ => rfl, fun _ _ h => .inl h, by simpa [objsD] using hE, by simpa [objsD] using hS, fun G => by simpa [objsD] using G, Tells.refl c1, by simp [expl, VReps, VRep]⟩
  | str => intro x us F c1 h1 hE hS hf hD hF hp; cases hD; exact ⟨c1, rfl, rfl, rfl, fun _ _ => rfl, fun _ _ h => .inl h, by simpa [objsD] using hE, by simpa [objsD] using hS, fun G => by simpa [objsD] using G, Tells.refl c1, by simp [expl, VReps, VRep]⟩
  | unit => intro x us F c1 h1 hE hS hf hD hF hp; cases hD; exact ⟨c1, rfl, rfl, rfl, fun _ _ => rfl, fun _ _ h => .inl h, by simpa [objsD] using hE, by simpa [objsD] using hS, fun G => by simpa [objsD] using G, Tells.refl c1, by simp [expl, VReps]⟩
  | node => intro x us F c1 h1 hE hS hf hD hF hp; cases hp
  | pair a b iha ihb =>
    rintro x us F c1 h1 hE hS hf ⟨l, r, L, R, rfl, hL, hR, hLR, hl, hr⟩ hF hp
    simp only [posT, Bool.and_eq_true] at hp
    obtain ⟨c2, a1, a2, a3, a4, a5, a6, a7, a8, a9, a10⟩ := iha hE hS (fun id q1 q2 => hf id q1 (by simp only [rowsT]; omega)) hl (fun k hk => hF k (hL k hk)) hp.1
    have hlen : (h1 ++ objsD fx a x.1).length = h1.length + rowsT a := by rw [List.length_append, objsD_len]
    obtain ⟨c3, b1, b2, b3, b4, b5, b6, b7, b8, b9, b10⟩ := ihb a6 a7 (fun id q1 q2 => by
      rw [hlen] at q1 q2
      rw [a3, a4 id q1]; exact hf id (by omega) (by simp only [rowsT]; omega)) (by rw [a1]; exact hr) (fun k hk => by
      obtain ⟨f1, f2, f3, f4⟩ := hF k (hR k hk)
      refine ⟨f1, by rw [a1]; exact f2, by rw [a2]; exact f3, fun id hd ha => ?_⟩
      rw [a3] at hd
      rcases a5 id k ha with ha | ha
      · exact f4 id hd ha
      · exact hLR k ha hk) hp.2
    rw [hlen] at b4 b10
    rw [List.append_assoc] at b6 b7 b8
    refine ⟨c3, b1.trans a1, b2.trans a2, b3.trans a3, fun id hid => ?_, fun id k hk => ?_, b6, b7, fun G => b8 (a8 G), ⟨fun id j q => b9.m _ _ (a9.m _ _ q), fun id q => b9.dead _ (a9.dead _ q), ⟨fun k q => b9.k.pr _ (a9.k.pr _ q), fun k q => (b9.k.keep _ (a9.k.pr _ q)).trans (a9.k.keep _ q)⟩, fun k n q => b9.blk _ _ (a9.blk _ _ q)⟩, ?_⟩
    · simp only [rowsT] at hid; rw [b4 id (by omega), a4 id (by omega)]
    · rcases b5 id k hk with q | q
      · exact (a5 id k q).imp_right (hL k)
      · exact .inr (hR k q)
    · exact (VReps.mono b9 a10).append b10
  | row e _ =>
    intro x us F c1 h1 hE hS hf hD hF hp
    have hpos : 0 < e.size := by simpa [posT, Nat.blt_eq] using hp
    have hfr := hf h1.length (Nat.le_refl _) (by simp [rowsT])
    obtain ⟨hcl, hce⟩ := contD_len (fx := fx) (e := e) (xs := x)
    have add : ∀ (i : Info) (O : Nat → Prop), ObjRep c1 i ⟨contD fx e x, false⟩ → (∀ b, O b → F b) → (i.loc = true → F i.b ∧ ¬ O i.b) → (∀ c2 : Ctx, c2.w = c1.w → (∀ b, O b → c2.own h1.length b) → ∀ fx' e' xs', contD fx e x = .deep fx' e' xs' → DeepRow c2 h1.length i fx' e' xs') →
        (∀ c2 : Ctx, c2.m h1.length = some i → c2.w = c1.w → VReps c2 [.sl h1.length] us) →
        ∃ c2, c2.w = c1.w ∧ c2.pr = c1.pr ∧ c2.dead = c1.dead ∧ (∀ id, h1.length + rowsT (.row e) ≤ id → c2.m id = c1.m id) ∧ (∀ id b, c2.at id b → c1.at id b ∨ F b) ∧ Ext c h c2 (h1 ++ objsD fx (.row e) x) ∧ Sim c2 (h1 ++ objsD fx (.row e) x) ∧ (Grow c h c1 h1 → Grow c h c2 (h1 ++ objsD fx (.row e) x)) ∧ Tells c1 c2 ∧
          VReps c2 (expl (.row e) x h1.length) us := by
      intro i O hrep hO hloc hdeep hv
      let c2 : Ctx := { c1 with m := upd c1.m h1.length i, own := fun k b => c1.own k b ∨ (k = h1.length ∧ O b) }
      obtain ⟨k1, k2, k3, k4⟩ := own_addO hE hS hfr hrep (O := O) (fun b hb => hF b (hO b hb)) (fun hl => ⟨hF _ (hloc hl).1, (hloc hl).2⟩) (fun fx' e' xs' hc => hdeep c2 rfl (fun b hb => Or.inr ⟨rfl, hb⟩) fx' e' xs' hc)
      refine ⟨c2, rfl, rfl, rfl, fun id hid => ?_, fun id b hb => ?_, k1, k2, k3, k4, hv c2 (by simp [c2, upd]) rfl⟩
      · simp only [rowsT] at hid
        have : id ≠ h1.length := by omega
        simp [c2, upd, this]
      · rcases hb with (hb | ⟨_, hb⟩) | ⟨j, hj, hl, rfl⟩
        · exact .inl (.inl hb)
        · exact .inr (hO b hb)
        · by_cases hid : id = h1.length
          · simp [c2, upd, hid] at hj; subst hj; exact .inr (hloc hl).1
          · simp [c2, upd, hid] at hj; exact .inl (.inr ⟨j, hj, hl, rfl⟩)
    rcases hD with ⟨h0, a, rfl⟩ | ⟨b, o, cap, n, rfl, hle, hb, hblk, hn, hrow⟩
    · have hx0 : x = [] := List.eq_nil_of_length_eq_zero h0
      subst hx0
      refine add (inf false 0 0 0 e.size false) (fun _ => False) ⟨by rw [hcl]; rfl, hce.symm, hpos, rfl, fun h => absurd h (Nat.lt_irrefl 0), fun h => (by cases h), ?_⟩ (fun _ h => h.elim) (fun h => (by cases h)) (fun c2 _ _ fx' e' xs' hc => ?_) (fun c2 hm _ => ?_)
      · unfold contD
        cases flatT e <;> exact fun j y hj => by simp at hj
      · unfold contD at hc
        cases hfe : flatT e with
        | true => rw [hfe] at hc; cases hc
        | false =>
          rw [hfe] at hc; cases hc
          exact ⟨⟨fun _ _ => False, fun _ _ h => h.elim, fun _ _ _ h => h.elim, fun j y hj => by simp at hj⟩, fun _ idx sub v h => by simp at h, fun _ _ _ h => h.elim⟩
      · simp only [VReps, VRep, slRep, and_true]
        exact ⟨⟨_, _, _, rfl⟩, .inr ⟨_, hm, .inr ⟨rfl, rfl, a, rfl⟩⟩⟩
    · obtain ⟨G, g1, g2, g3⟩ := hrow
      have hmul : List.length x * e.size ≤ cap * e.size := Nat.mul_le_mul_right _ hle
      refine add { loc := true, b := b, base := o, len := List.length x, es := e.size, full := false, hd := fun idx sub v => (fx = true ∧ flatT e = false) ∧ idx < List.length x ∧ (rowAt e sub).isSome = true ∧ cellAt c1.w b (o + idx * e.size + sub) = some v } (fun k => F k ∧ k ≠ b)
        ⟨hcl.symm, hce.symm, hpos, rfl, fun _ => rfl, fun _ => ⟨n, hblk, by simp only; omega⟩, ?_⟩ (fun _ h => h.1) (fun _ => ⟨hb, fun h => h.2 rfl⟩) (fun c2 hw ho fx' e' xs' hc => ?_) (fun c2 hm hw => ?_)
      · unfold contD
        cases hfe : flatT e with
        | true =>
          intro j y hj
          obtain ⟨vs, q1, q2, q3⟩ := g3 j y hj
          exact ⟨vs, q1, q2, flat_cells hfe (q3.cells (G := G j) fun _ h => h)⟩
        | false => exact DRow.rep (F := F) ⟨G, g1, g2, g3⟩
      · unfold contD at hc
        cases hfe : flatT e with
        | true => rw [hfe] at hc; cases hc
        | false =>
          rw [hfe] at hc; cases hc
          refine ⟨⟨G, fun j k hk => ⟨ho k (g1 j k hk), (g1 j k hk).2⟩, g2, fun j y hj => ?_⟩, fun hfx idx sub v p1 p2 p3 => ⟨⟨hfx, rfl⟩, p1, p2, by rw [hw] at p3; exact p3⟩, fun idx sub v p => ⟨p.1.1, p.2.1, p.2.2.1, by rw [hw]; exact p.2.2.2⟩⟩
          obtain ⟨vs, q1, q2, q3⟩ := g3 j y hj
          exact ⟨vs, q1, by rw [hw]; exact q2, by rw [hw]; exact q3⟩
      · simp only [VReps, VRep, slRep, and_true]
        exact ⟨⟨_, _, _, rfl⟩, .inr ⟨_, hm, .inl ⟨rfl, cap, n, rfl, hle, by rw [hw]; exact hblk, hn, fun h => by cases h⟩⟩⟩

/-- A value's cells, as of a type. -/
def CellsOf (t : Ty) (v : Value) (us : List Value) : Prop := if t.isAgg = true then ∃ A : Array Value, v = .agg A ∧ A.toList = us else us = [v]

theorem ownV_rep {c : Ctx} {t : Ty} {cs : List AV} {v : Value} {us : List Value} (ho : CellsOf t v us) (hr : VReps c cs us) : VRep c (ownV t cs) v := by
  unfold CellsOf at ho
  unfold ownV
  cases ht : t.isAgg with
  | true =>
    rw [if_pos ht] at ho
    obtain ⟨A, rfl, rfl⟩ := ho
    simp only [cond_true, VRep]
    exact ⟨A, rfl, hr⟩
  | false =>
    rw [if_neg (by simp [ht])] at ho
    subst ho
    match cs, hr with
    | [a], hr => simp only [VReps, and_true] at hr; exact hr
    | [], hr => simp [VReps] at hr
    | _ :: _ :: _, hr => simp [VReps] at hr

/-- What is told of a call whose result is new, with all that it leads to. -/
def LawD (P : Program) (f : FuncId) (args : List AV) (t : Ty) (x : t.C) : Prop :=
  Enters P f ∧ ∀ (pr : Nat → Prop) (w : World) (vs : Array Value), (∀ b, pr b → b < w.heap.size) → VReps (still0 pr w) args vs.toList → Calls P f vs w fun en w' =>
    ∃ v' us F, en = .returned v' ∧ CellsOf t v' us ∧ DCells w' t x us F ∧ (∀ b, F b → w.heap.size ≤ b ∧ b < w'.heap.size) ∧ w.heap.size ≤ w'.heap.size ∧
      (∀ b, b < w.heap.size → w'.heap[b]? = w.heap[b]?) ∧ w'.os = w.os ∧ w'.tape = w.tape ∧ w'.output = w.output

/-- A contract by value, whose result is the caller's own. -/
def byNew (t : Ty) (m : (ρ : Type) → List AV → (t.C → Option ρ) → Option ρ) : Con := fun ρ args h K =>
  m ρ (args.map (deref h 8)) fun x => bif posT t then K (ownV t (expl t x h.length)) (h ++ objsD false t x) false else none

theorem con_byNew {P : Program} {f : FuncId} {t : Ty} {m : (ρ : Type) → List AV → (t.C → Option ρ) → Option ρ} (hm : ∀ (ρ : Type) args (K : t.C → Option ρ) (x : ρ), m ρ args K = some x → ∃ y, K y = some x ∧ LawD P f args t y) : ConOk P f (byNew t m) := by
  intro ρ args h K x hb
  unfold byNew at hb
  obtain ⟨y, hv1, hent, hlaw⟩ := hm _ _ _ _ hb
  by_cases hc : posT t = true
  · simp only [hc, cond_true] at hv1
    refine ⟨_, _, false, hv1, hent, (Pre.snoc h _).sta _, fun c vs hs hf hr => ?_⟩
    refine (hlaw c.still.pr c.w vs hs.still_low (deref_reps (deref_rep hs 8) hr)).mono ?_
    rintro en w' ⟨v', us, F, rfl, ho, hD, hF, q4, q5, q6, q7, q8⟩
    obtain ⟨k1, k2, k3⟩ := byVal_state hs (pr' := c.pr) (fun _ h => h) (fun _ h => .inl h) (fun b hb => Nat.lt_of_lt_of_le (hs.plow b hb) q4) q4 q5 q6 q7 q8
    obtain ⟨c2, a1, a2, a3, a4, a5, a6, a7, a8, a9, a10⟩ := expl_ok false k1 k2 (fun id p1 p2 => hf id p1 (by rw [List.length_append, objsD_len]; exact p2)) hD (fun b hb => ⟨(hF b hb).1, (hF b hb).2, fun hp => by have := hs.plow b hp; have := (hF b hb).1; omega, fun id hd ha => by have := hs.at_low (id := id) (b := b) hd ha; have := (hF b hb).1; omega⟩) hc
    exact ⟨v', c2, rfl, a1, a6, a7, ownV_rep ho a10, fun _ => a8 k3⟩
  · simp only [Bool.not_eq_true] at hc; rw [hc] at hv1; cases hv1

/-- A result that is the run's own. -/
def finD (t : Ty) (r : AV × Heap) : Option t.C :=
  bif r.1.isAgg == t.isAgg then (takeT r.2 t r.1.cells).bind fun x => bif once x.2 then some x.1 else none else none

/-- What a run's end tells of its result. -/
theorem fin_own {c' : Ctx} {rh : Heap} {rv : AV} {v' : Value} (hs' : Sim c' rh) (hvr : VRep c' rv v') {t : Ty} {x : t.C} (hfin : finD t (rv, rh) = some x) :
    ∃ (us : List Value) (ids : List Nat), CellsOf t v' us ∧ DCells c'.w t x us (fun b => ∃ id, id ∈ ids ∧ c'.at id b) ∧ ∀ id, id ∈ ids → id < rh.length ∧ ¬ c'.dead id ∧ c'.m id ≠ none := by
  unfold finD at hfin
  by_cases hag : (rv.isAgg == t.isAgg) = true
  · simp only [hag, cond_true] at hfin
    obtain ⟨⟨y, ids⟩, hy, hfin⟩ := Option.bind_eq_some_iff.1 hfin
    by_cases ho : once ids = true
    · simp only [ho, cond_true, Option.some.injEq] at hfin
      subst hfin
      simp only [beq_iff_eq] at hag
      obtain ⟨q1, q2⟩ := hvr.cells (take_one hy)
      obtain ⟨d1, d2⟩ := take_rep hs' q1 hy (once_ok ho)
      refine ⟨_, ids, ?_, d1, d2⟩
      unfold CellsOf
      cases ht : t.isAgg with
      | true =>
        rw [if_pos rfl]
        obtain ⟨vs, hv, _⟩ := hvr.agg (hag.trans ht)
        exact ⟨vs, hv, by rw [hv]; rfl⟩
      | false =>
        rw [if_neg (by simp)]
        have hcs := AV.cells_one (hag.trans ht)
        rw [hcs] at q1
        have h1 := hvr.one (by have := take_one hy; rw [hcs] at this; simpa using this)
        rw [one_cells h1]
    · simp only [Bool.not_eq_true] at ho; rw [ho] at hfin; cases hfin
  · simp only [Bool.not_eq_true] at hag; rw [hag] at hfin; cases hfin

section
variable {P : Program} {E : Env} {run : Run}
theorem lawD (hT : TOk P E) (hC : CallsOk P E run) (hmix : P.follows .mixedOrders = true) {f : FuncId} {fn : Func} (hf : P.funcs[f]? = some fn) (hname : (fn.name == "runtime.NumGoroutine") = false) (hb : fn.body.isNone = false) {k : Nat} {args : List AV} {t : Ty} {x : t.C}
    (hk : abody E run k f fn args [] (finD t) = some x) : LawD P f args t x := by
  obtain ⟨r, hfin, hw⟩ := told_body (lv := true) hT hC (regOk hT hmix hC) hf (fun h => by cases h) hk
  obtain ⟨rv, rh⟩ := r
  refine ⟨⟨fn, hf, hname, hb⟩, fun pr w vs hp hr => ?_⟩
  refine (hw (still0 pr w) vs (sim_still0 hp) (fun id _ => ⟨rfl, fun h => h⟩) hr).mono ?_
  rintro en w' ⟨v', c', rfl, rfl, hsi, hs', hf', hvr⟩
  have W := hsi.1
  obtain ⟨us, ids, ho, hD, hids⟩ := fin_own hs' hvr hfin
  refine ⟨v', us, _, rfl, ho, hD, ?_, W.size, fun b hb => W.frame b hb Ctx.has0, W.os, W.tape, W.output⟩
  rintro b ⟨id, hid, ha⟩
  obtain ⟨h1, h2, _⟩ := hids id hid
  exact ⟨(W.own b ⟨id, h1, h2, ha⟩).elim (fun h => h) fun h => absurd h Ctx.has0, hs'.at_low h2 ha⟩
end
theorem LawD.reads {P : Program} {f : FuncId} {as bs : List AV} {t : Ty} {x : t.C} (h : ReadsL as bs) (l : LawD P f bs t x) : LawD P f as t x :=
  ⟨l.1, fun pr w vs hp hr => l.2 pr w vs hp (h _ _ hr)⟩
end Go.AM
