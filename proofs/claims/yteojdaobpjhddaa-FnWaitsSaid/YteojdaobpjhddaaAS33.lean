/- An interpreter of the model's code over values that are told, and its soundness. -/
import Derived.Test.YteojdaobpjhddaaAS32
namespace Go.AM

/-! Calls whose result is a row of its own. -/
/-- A block that is nobody's yet. -/
def Ctx.Fresh (c c1 : Ctx) (b : Nat) : Prop := c.w.heap.size ≤ b ∧ b < c1.w.heap.size ∧ ¬ c1.pr b ∧ ∀ id, ¬ c1.dead id → ¬ c1.at id b

/-- One row more, in a world that has it already, with what it leads to. -/
theorem own_addO {c c1 : Ctx} {h h1 : Heap} (E : Ext c h c1 h1) (S : Sim c1 h1) (hf : c1.m h1.length = none ∧ ¬ c1.dead h1.length) {i : Info} {o : Obj} (hr : ObjRep c1 i o) {O : Nat → Prop} (hO : ∀ b, O b → c.Fresh c1 b)
    (hb : i.loc = true → c.Fresh c1 i.b ∧ ¬ O i.b) :
    let c2 : Ctx := { c1 with m := upd c1.m h1.length i, own := fun k b => c1.own k b ∨ (k = h1.length ∧ O b) }
    (∀ fx e xs, o.c = .deep fx e xs → DeepRow c2 h1.length i fx e xs) →
    Ext c h c2 (h1 ++ [some o]) ∧ Sim c2 (h1 ++ [some o]) ∧ (Grow c h c1 h1 → Grow c h c2 (h1 ++ [some o])) ∧ Tells c1 c2 := by
  intro c2 hdp
  have hm : ∀ id, id ≠ h1.length → c2.m id = c1.m id := fun id hid => by simp [c2, upd, hid]
  have hmn : c2.m h1.length = some i := by simp [c2, upd]
  have hmono : ∀ id j, c1.m id = some j → c2.m id = some j := fun id j hj => by
    rw [hm id (fun e => by rw [e, hf.1] at hj; cases hj)]; exact hj
  have t : Tells c1 c2 := ⟨hmono, fun _ h => h, ⟨fun _ h => h, fun _ _ => rfl⟩, fun _ _ h => h⟩
  have hlen := E.len
  have hon : ∀ b, ¬ c1.own h1.length b := fun b hb => S.own.told _ b hb hf.1
  have atc : ∀ {id b}, c2.at id b → (c1.at id b ∧ id ≠ h1.length) ∨ (id = h1.length ∧ c.Fresh c1 b) := fun {id b} ha => by
    rcases ha with (ha | ⟨he, ha⟩) | ⟨j, hj, hl, he⟩
    · exact .inl ⟨.inl ha, fun e => hon b (e ▸ ha)⟩
    · exact .inr ⟨he, hO b ha⟩
    · by_cases hid : id = h1.length
      · subst hid; rw [hmn] at hj; cases hj; exact .inr ⟨rfl, he ▸ (hb hl).1⟩
      · rw [hm id hid] at hj; exact .inl ⟨.inr ⟨j, hj, hl, he⟩, hid⟩
  refine ⟨⟨⟨E.pr, E.size, E.keep, E.blk, E.frame, ?_, E.pnew, E.os, E.tape, E.output⟩, by simp; omega, fun id j hj => hmono id j (E.m id j hj), ?_, E.dead, fun id hd => ?_⟩, ⟨?_, ?_, ?_, ?_, S.plow, ?_, ⟨?_, ?_, ?_, ?_, ?_⟩, ?_⟩, fun G => ⟨G.old, fun id hid => ?_, ?_, fun id hid => ?_⟩, t⟩
  · rintro b ⟨id, hid, hd, ha⟩
    rcases atc ha with ⟨ha, hne⟩ | ⟨_, hfr⟩
    · simp only [List.length_append, List.length_cons, List.length_nil] at hid
      exact E.own b ⟨id, by omega, hd, ha⟩
    · exact .inl hfr.1
  · intro id j hj hn
    by_cases he : id = h1.length
    · subst he; exact ⟨hlen, by simp⟩
    · rw [hm id he] at hj
      have := E.fresh id j hj hn
      exact ⟨this.1, by simp; omega⟩
  · exact (E.dead' id hd).imp_right fun h => by simp; omega
  · intro id j hid hj hd
    by_cases he : id = h1.length
    · subst he; rw [hmn] at hj; cases hj
      exact ⟨o, hget_append_new, hr.mono t fun _ => rfl⟩
    · rw [hm id he] at hj
      simp only [List.length_append, List.length_cons, List.length_nil] at hid
      obtain ⟨o', ho', hr'⟩ := S.obj id j (by omega) hj hd
      exact ⟨o', by rw [hget_append_old (by omega)]; exact ho', hr'.mono t fun _ => rfl⟩
  · intro id hid hd
    have he : id ≠ h1.length := fun e => hf.2 (e ▸ hd)
    simp only [List.length_append, List.length_cons, List.length_nil] at hid
    rw [hget_append_old (by omega)]; exact S.gone id (by omega) hd
  · intro id j hj hd hl
    by_cases he : id = h1.length
    · subst he; rw [hmn] at hj; cases hj; exact (hb hl).1.2.1
    · rw [hm id he] at hj; exact S.low id j hj hd hl
  · intro id id' j j' hj hj' hd hd' hl hl' hbb
    by_cases he : id = h1.length
    · by_cases he' : id' = h1.length
      · rw [he, he']
      · subst he; rw [hmn] at hj; cases hj; rw [hm id' he'] at hj'
        exact absurd (.inr ⟨j', hj', hl', hbb.symm⟩) ((hb hl).1.2.2.2 id' hd')
    · rw [hm id he] at hj
      by_cases he' : id' = h1.length
      · subst he'; rw [hmn] at hj'; cases hj'
        exact absurd (.inr ⟨j, hj, hl, hbb⟩) ((hb hl').1.2.2.2 id hd)
      · rw [hm id' he'] at hj'; exact S.inj id id' j j' hj hj' hd hd' hl hl' hbb
  · intro id j hj hd hl
    by_cases he : id = h1.length
    · subst he; rw [hmn] at hj; cases hj; exact (hb hl).1.2.2.1
    · rw [hm id he] at hj; exact S.apart id j hj hd hl
  · rintro id b hd (h | ⟨_, h⟩)
    · exact S.own.low id b hd h
    · exact (hO b h).2.1
  · rintro id id' b hd hd' (h | ⟨e, h⟩) (h' | ⟨e', h'⟩)
    · exact S.own.inj id id' b hd hd' h h'
    · exact absurd (.inl h) ((hO b h').2.2.2 id hd)
    · exact absurd (.inl h') ((hO b h).2.2.2 id' hd')
    · rw [e, e']
  · rintro id id' j hd hd' hj hl (h | ⟨e, h⟩)
    · by_cases he' : id' = h1.length
      · subst he'; rw [hmn] at hj; cases hj
        exact absurd (.inl h) ((hb hl).1.2.2.2 id hd)
      · rw [hm id' he'] at hj; exact S.own.row id id' j hd hd' hj hl h
    · by_cases he' : id' = h1.length
      · subst he'; rw [hmn] at hj; cases hj
        exact (hb hl).2 h
      · rw [hm id' he'] at hj
        exact absurd (.inr ⟨j, hj, hl, rfl⟩) ((hO _ h).2.2.2 id' hd')
  · rintro id b hd (h | ⟨_, h⟩)
    · exact S.own.apart id b hd h
    · exact (hO b h).2.2.1
  · rintro id b (h | ⟨e, h⟩)
    · have := S.own.told id b h
      cases hc : c1.m id with
      | none => exact absurd hc this
      | some j => rw [hmono id j hc]; simp
    · subst e; rw [hmn]; simp
  · intro id j fx e xs f hid hj hd hg
    by_cases he : id = h1.length
    · subst he; rw [hmn] at hj; cases hj
      rw [hget_append_new] at hg; cases hg
      exact hdp fx e xs rfl
    · rw [hm id he] at hj
      simp only [List.length_append, List.length_cons, List.length_nil] at hid
      rw [hget_append_old (by omega)] at hg
      exact S.deepStay (by omega) hj hd hg (fun _ h => .inl h) fun _ _ => rfl
  · rw [hget_append_old (by omega)]; exact G.heap id hid
  · exact G.dead
  · have := G.own id hid
    have hne : id ≠ h1.length := fun e => by
      cases hc : c.m id with
      | none => exact hid hc
      | some j => have := E.m id j hc; rw [e, hf.1] at this; cases this
    rw [← this]
    funext b
    simp [c2, hne]

theorem own_add {c c1 : Ctx} {h h1 : Heap} (E : Ext c h c1 h1) (S : Sim c1 h1) (G : Grow c h c1 h1) (hf : c1.m h1.length = none ∧ ¬ c1.dead h1.length) {i : Info} {o : Obj} (hr : ObjRep c1 i o) (hnd : o.c.isDeep = false)
    (hb : i.loc = true → c.Fresh c1 i.b) :
    ∃ c2 : Ctx, c2.m = upd c1.m h1.length i ∧ c2.w = c1.w ∧ c2.pr = c1.pr ∧ c2.dead = c1.dead ∧ Ext c h c2 (h1 ++ [some o]) ∧ Sim c2 (h1 ++ [some o]) ∧ Grow c h c2 (h1 ++ [some o]) ∧ Tells c1 c2 := by
  obtain ⟨k1, k2, k3, k4⟩ := own_addO E S hf hr (O := fun _ => False) (fun _ h => h.elim) (fun hl => ⟨hb hl, fun h => h⟩) (fun fx e xs hc => by rw [hc] at hnd; cases hnd)
  exact ⟨{ c1 with m := upd c1.m h1.length i, own := fun k b => c1.own k b ∨ (k = h1.length ∧ False) }, rfl, rfl, rfl, rfl, k1, k2, k3 G, k4⟩
theorem own_add2 {c c1 : Ctx} {h h1 : Heap} (E : Ext c h c1 h1) (S : Sim c1 h1) (hf : c1.m h1.length = none ∧ ¬ c1.dead h1.length) {i : Info} {o : Obj} (hr : ObjRep c1 i o) (hnd : o.c.isDeep = false)
    (hb : i.loc = true → c.Fresh c1 i.b) :
    ∃ c2 : Ctx, c2.m = upd c1.m h1.length i ∧ c2.w = c1.w ∧ c2.pr = c1.pr ∧ c2.dead = c1.dead ∧ Ext c h c2 (h1 ++ [some o]) ∧ Sim c2 (h1 ++ [some o]) ∧ Tells c1 c2 := by
  obtain ⟨k1, k2, _, k4⟩ := own_addO E S hf hr (O := fun _ => False) (fun _ h => h.elim) (fun hl => ⟨hb hl, fun h => h⟩) (fun fx e xs hc => by rw [hc] at hnd; cases hnd)
  exact ⟨{ c1 with m := upd c1.m h1.length i, own := fun k b => c1.own k b ∨ (k = h1.length ∧ False) }, rfl, rfl, rfl, rfl, k1, k2, k4⟩

/-- Where a row alone is told. -/
def alone (pr : Nat → Prop) (w : World) (i : Info) : Ctx := ⟨fun id => if id = 0 then some i else none, fun _ => False, pr, w, fun _ _ => False⟩

/-- What is told of a call whose result is a new row: nobody else has it. -/
def LawF (P : Program) (f : FuncId) (args : List AV) (e : Ty) (xs : List e.C) : Prop :=
  Enters P f ∧ ∀ (pr : Nat → Prop) (w : World) (vs : Array Value), (∀ b, pr b → b < w.heap.size) → VReps (still0 pr w) args vs.toList → Calls P f vs w fun en w' =>
    ∃ v' pr' i, en = .returned v' ∧ VRep (alone pr' w' i) (.sl 0) v' ∧ ObjRep (alone pr' w' i) i ⟨.typed e xs, false⟩ ∧ (i.loc = true → w.heap.size ≤ i.b ∧ i.b < w'.heap.size ∧ ¬ pr' i.b) ∧
      (∀ b, pr b → pr' b) ∧ (∀ b, pr' b → pr b ∨ w.heap.size ≤ b) ∧ (∀ b, pr' b → b < w'.heap.size) ∧ w.heap.size ≤ w'.heap.size ∧
      (∀ b, b < w.heap.size → w'.heap[b]? = w.heap[b]?) ∧ w'.os = w.os ∧ w'.tape = w.tape ∧ w'.output = w.output

theorem flat_cells {pr pr2 : Nat → Prop} {w w2 : World} : ∀ {t : Ty} {x : t.C} {vs : List Value}, flatT t = true → CellsRep pr w t x vs → CellsRep pr2 w2 t x vs := by
  intro t
  induction t with
  | int k => intro x vs _ h; exact h
  | bool => intro x vs _ h; exact h
  | str => intro x vs _ h; exact h
  | unit => intro x vs _ h; exact h
  | row e _ => intro x vs h; simp [flatT] at h
  | node => intro x vs h; simp [flatT] at h
  | pair a b iha ihb =>
    intro x vs hf h
    simp only [flatT, Bool.and_eq_true] at hf
    obtain ⟨l, r, rfl, h1, h2⟩ := h
    exact ⟨l, r, rfl, iha hf.1 h1, ihb hf.2 h2⟩

/-- A contract by value, whose result is a row of the caller's own. -/
def byFresh (e : Ty) (m : (ρ : Type) → List AV → (List e.C → Option ρ) → Option ρ) : Con := fun ρ args h K =>
  m ρ (args.map (deref h 8)) fun xs => bif args.all noRef || flatT e then K (.sl h.length) (h ++ [some ⟨.typed e xs, false⟩]) false else none

theorem noRef_reps {c c2 : Ctx} (hp : c2.pr = c.pr) (hw : c2.w = c.w) : ∀ {as : List AV} {us : List Value}, as.all noRef = true → VReps c as us → VReps c2 as us
  | [], [], _, _ => by simp [VReps]
  | [], _ :: _, _, h => by simp [VReps] at h
  | _ :: _, [], _, h => by simp [VReps] at h
  | a :: as, u :: us, ha, h => by
    simp only [List.all_cons, Bool.and_eq_true] at ha
    simp only [VReps] at h ⊢
    exact ⟨noRef_rep hp hw ha.1 h.1, noRef_reps hp hw ha.2 h.2⟩

/-- The caller's state behind such a call. -/
theorem fresh_state {c : Ctx} {h : Heap} (hs : Sim c h) (hf : Free c h (h ++ [none])) {e : Ty} {xs : List e.C} {pr' : Nat → Prop} {w' : World} {i : Info} {v' : Value}
    (hv : VRep (alone pr' w' i) (.sl 0) v') (hr : ObjRep (alone pr' w' i) i ⟨.typed e xs, false⟩) (hi : i.loc = true → c.w.heap.size ≤ i.b ∧ i.b < w'.heap.size ∧ ¬ pr' i.b)
    (h1 : ∀ b, c.pr b → pr' b) (h2 : ∀ b, pr' b → c.pr b ∨ c.w.heap.size ≤ b) (h3 : ∀ b, pr' b → b < w'.heap.size) (h4 : c.w.heap.size ≤ w'.heap.size)
    (h5 : ∀ b, b < c.w.heap.size → w'.heap[b]? = c.w.heap[b]?) (h6 : w'.os = c.w.os) (h7 : w'.tape = c.w.tape) (h8 : w'.output = c.w.output) :
    ∃ c2, c2.w = w' ∧ Ext c h c2 (h ++ [some ⟨.typed e xs, false⟩]) ∧ Sim c2 (h ++ [some ⟨.typed e xs, false⟩]) ∧ VRep c2 (.sl h.length) v' ∧ Grow c h c2 (h ++ [some ⟨.typed e xs, false⟩]) := by
  obtain ⟨k1, k2, k3⟩ := byVal_state hs h1 h2 h3 h4 h5 h6 h7 h8
  have hfr := hf h.length (Nat.le_refl _) (by simp)
  have hr2 : ObjRep { c with pr := pr', w := w' } i ⟨.typed e xs, false⟩ := ⟨hr.len, hr.es, hr.pos, hr.full, hr.loc, hr.blk, hr.cont⟩
  obtain ⟨c2, p1, p2, p3, p4, g1, g2, g3, g4⟩ := own_add k1 k2 k3 hfr hr2 rfl fun hl => ⟨(hi hl).1, (hi hl).2.1, (hi hl).2.2, fun id hd ha => by
    have := hs.at_low (id := id) (b := i.b) hd ha
    have := (hi hl).1
    omega⟩
  refine ⟨c2, p2, g1, g2, ?_, g3⟩
  · simp only [VRep, slRep] at hv ⊢
    obtain ⟨ha, hb⟩ := hv
    rw [p2]
    refine ⟨ha, .inr ⟨i, by rw [p1]; simp [upd], ?_⟩⟩
    rcases hb with hb | ⟨j, hj, hb⟩
    · exact hb.elim
    · simp only [alone, if_true, Option.some.injEq] at hj
      subst hj
      exact hb

theorem con_byFresh {P : Program} {f : FuncId} {e : Ty} {m : (ρ : Type) → List AV → (List e.C → Option ρ) → Option ρ} (hm : ∀ (ρ : Type) args (K : List e.C → Option ρ) (x : ρ), m ρ args K = some x → ∃ xs, K xs = some x ∧ LawF P f args e xs) : ConOk P f (byFresh e m) := by
  intro ρ args h K x hb
  unfold byFresh at hb
  obtain ⟨xs, hv1, hent, hlaw⟩ := hm _ _ _ _ hb
  by_cases hc : (args.all noRef || flatT e) = true
  · simp only [hc, cond_true] at hv1
    refine ⟨.sl h.length, h ++ [some ⟨.typed e xs, false⟩], false, hv1, hent, (Pre.snoc h _).sta _, fun c vs hs hf hr => ?_⟩
    have hf' : Free c h (h ++ [none]) := fun id h1 h2 => hf id h1 (by simpa using h2)
    simp only [Bool.or_eq_true] at hc
    rcases hc with hc | hc
    · have hargs : args.map (deref h 8) = args := by
        have : ∀ a ∈ args, deref h 8 a = a := fun a ha => noRef_deref (List.all_eq_true.1 hc a ha)
        rw [List.map_congr_left this]; simp
      rw [hargs] at hlaw
      refine (hlaw c.pr c.w vs hs.plow (noRef_reps (c := c) (c2 := still0 c.pr c.w) rfl rfl hc hr)).mono ?_
      rintro en w' ⟨v', pr', i, rfl, hv, hrr, hi, q1, q2, q3, q4, q5, q6, q7, q8⟩
      obtain ⟨c2, e1, e2, e3, e4, e5⟩ := fresh_state hs hf' hv hrr hi q1 q2 q3 q4 q5 q6 q7 q8
      exact ⟨v', c2, rfl, e1, e2, e3, e4, fun _ => e5⟩
    · have hplow := hs.still_low
      refine (hlaw c.still.pr c.w vs hplow (deref_reps (deref_rep hs 8) hr)).mono ?_
      rintro en w' ⟨v', pr', i, rfl, hv, hrr, hi, q1, q2, q3, q4, q5, q6, q7, q8⟩
      -- words alone: what the result's cells lead to is nothing
      have hi' : i.loc = true → c.w.heap.size ≤ i.b ∧ i.b < w'.heap.size ∧ ¬ c.pr i.b := fun hl => ⟨(hi hl).1, (hi hl).2.1, fun hp => by have := hs.plow _ hp; have := (hi hl).1; omega⟩
      have hr2 : ObjRep (alone c.pr w' i) i ⟨.typed e xs, false⟩ := ⟨hrr.len, hrr.es, hrr.pos, hrr.full, hrr.loc, hrr.blk, fun k y hy => by
        obtain ⟨us, u1, u2, u3⟩ := hrr.cont k y hy
        exact ⟨us, u1, u2, flat_cells hc u3⟩⟩
      have hv2 : VRep (alone c.pr w' i) (.sl 0) v' := by
        simp only [VRep] at hv ⊢
        exact hv
      obtain ⟨c2, e1, e2, e3, e4, e5⟩ := fresh_state hs hf' hv2 hr2 hi' (fun _ h => h) (fun _ h => .inl h) (fun b hb => Nat.lt_of_lt_of_le (hs.plow b hb) q4) q4 q5 q6 q7 q8
      exact ⟨v', c2, rfl, e1, e2, e3, e4, fun _ => e5⟩
  · simp only [Bool.not_eq_true] at hc; simp [hc] at hv1

/-- A result that is a row of the run's own. -/
def finF (e : Ty) (r : AV × Heap) : Option (List e.C) :=
  bif Nat.blt 0 e.size then
  (match r.1 with
   | .sl id => (match hget r.2 id with | some ⟨.typed t xs, _⟩ => if h : t = e then some (Ty.castR h xs) else none | _ => none)
   | .ss id off n => (match hget r.2 id with | some ⟨.typed t xs, _⟩ => if h : t = e then some (List.take n (List.drop off (Ty.castR h xs))) else none | _ => none)
   | .nils => some []
   | _ => none)
  else none

/-- A part of a row of the run's own is a row of its own. -/
theorem ss_own {c' : Ctx} {rh : Heap} (hs' : Sim c' rh) {id off n : Nat} {t : Ty} {xs : List t.C} {fl : Bool} {v' : Value} (hob : hget rh id = some ⟨.typed t xs, fl⟩) (hvr : VRep c' (.ss id off n) v') (hes : 0 < t.size) :
    ∃ i2 : Info, slRep (alone c'.pr c'.w i2) 0 v' ∧ ObjRep (alone c'.pr c'.w i2) i2 ⟨.typed t (List.take n (List.drop off xs)), false⟩ ∧ (i2.loc = true → c'.at id i2.b) := by
  have hd := hs'.alive hob
  simp only [VRep, ssRep] at hvr
  obtain ⟨hany, hv⟩ := hvr
  obtain ⟨i, hi, hon, hcase⟩ := hv.resolve_left hd
  have hrep := hs'.rep hob hi
  have hlen : i.len = List.length xs := hrep.len
  have hie : i.es = t.size := hrep.es
  have hl : (List.take n (List.drop off xs)).length = n := by simp; omega
  rcases hcase with ⟨hloc, cap, m, rfl, hle, hblk, hm⟩ | ⟨h0, a, rfl⟩
  · rw [Nat.add_mul] at hm
    have hmul : n * i.es ≤ cap * i.es := Nat.mul_le_mul_right _ hle
    refine ⟨inf true i.b (i.base + off * i.es) n i.es false, ⟨hany, .inr ⟨inf true i.b (i.base + off * i.es) n i.es false, by simp [alone], .inl ⟨rfl, cap, m, rfl, hle, hblk, by show i.base + off * i.es + cap * i.es ≤ m; omega, fun h => (by cases h)⟩⟩⟩, ⟨hl.symm, hie, hrep.pos, rfl, fun _ => rfl, fun _ => ⟨m, hblk, by show i.base + off * i.es + n * i.es ≤ m; omega⟩, fun j y hj => ?_⟩, fun _ => .inr ⟨i, hi, hloc, rfl⟩⟩
    rw [List.getElem?_take] at hj
    split at hj
    · rw [List.getElem?_drop] at hj
      obtain ⟨us, u1, u2, u3⟩ := hrep.cont (off + j) y hj
      refine ⟨us, u1, ?_, u3⟩
      rw [Nat.add_mul, ← Nat.add_assoc] at u2
      rw [hie]; exact u2
    · cases hj
  · have hnil : List.take n (List.drop off xs) = [] := List.eq_nil_of_length_eq_zero (by rw [hl, h0])
    rw [hnil]
    exact ⟨inf false 0 0 0 t.size false, ⟨hany, .inr ⟨inf false 0 0 0 t.size false, by simp [alone], .inr ⟨rfl, rfl, a, rfl⟩⟩⟩, ⟨rfl, rfl, hes, rfl, (fun h => absurd h (Nat.lt_irrefl 0)), (fun h => by cases h), (fun k y hy => by simp at hy)⟩, fun h => by cases h⟩

section
variable {P : Program} {E : Env} {run : Run}
theorem lawF (hT : TOk P E) (hC : CallsOk P E run) (hmix : P.follows .mixedOrders = true) {f : FuncId} {fn : Func} (hf : P.funcs[f]? = some fn) (hname : (fn.name == "runtime.NumGoroutine") = false) (hb : fn.body.isNone = false) {k : Nat} {args : List AV} {e : Ty} {x : List e.C}
    (hk : abody E run k f fn args [] (finF e) = some x) : LawF P f args e x := by
  obtain ⟨r, hfin, hw⟩ := told_body (lv := true) hT hC (regOk hT hmix hC) hf (fun h => by cases h) hk
  obtain ⟨rv, rh⟩ := r
  refine ⟨⟨fn, hf, hname, hb⟩, fun pr w vs hp hr => ?_⟩
  have hs : Sim (still0 pr w) [] := sim_still0 hp
  refine (hw (still0 pr w) vs hs (fun id _ => ⟨rfl, fun h => h⟩) hr).mono ?_
  rintro en w' ⟨v', c', rfl, rfl, hsi, hs', hf', hvr⟩
  have W := hsi.1
  have hframe : ∀ b, b < w.heap.size → c'.w.heap[b]? = w.heap[b]? := fun b hb => W.frame b hb Ctx.has0
  unfold finF at hfin
  by_cases hpos : Nat.blt 0 e.size = true
  · simp only [hpos, cond_true] at hfin
    have hes : 0 < e.size := by simpa [Nat.blt_eq] using hpos
    split at hfin
    · rename_i id
      split at hfin
      · rename_i t xs fl hob
        split at hfin
        · rename_i hte
          subst hte
          simp only [Option.some.injEq] at hfin
          subst hfin
          have hd := hs'.alive hob
          have hvr' := hvr
          simp only [VRep, slRep] at hvr'
          obtain ⟨hany, hv⟩ := hvr'
          obtain ⟨i, hi, hcase⟩ := hv.resolve_left hd
          have hid : id < rh.length := by
            rcases Nat.lt_or_ge id rh.length with h | h
            · exact h
            · rw [(hf' id h).1] at hi; cases hi
          obtain ⟨ob, hob2, hrep⟩ := hs'.obj id i hid hi hd
          rw [hob] at hob2
          simp only [Option.some.injEq] at hob2
          subst hob2
          refine ⟨v', c'.pr, { i with full := false }, rfl, ?_, ⟨hrep.len, hrep.es, hrep.pos, rfl, hrep.loc, hrep.blk, hrep.cont⟩, fun hl => ⟨?_, hs'.low id i hi hd hl, hs'.apart id i hi hd hl⟩, W.pr, W.pnew, hs'.plow, W.size, hframe, W.os, W.tape, W.output⟩
          · simp only [VRep, slRep]
            refine ⟨hany, .inr ⟨{ i with full := false }, by simp [alone], ?_⟩⟩
            rcases hcase with ⟨a1, cap, n, a2, a3, a4, a5, _⟩ | ⟨a1, a2, a3⟩
            · exact .inl ⟨a1, cap, n, a2, a3, a4, a5, fun h => by cases h⟩
            · exact .inr ⟨a1, a2, a3⟩
          · exact (W.own i.b ⟨id, hid, hd, .inr ⟨i, hi, hl, rfl⟩⟩).elim (fun h => h) fun h => absurd h Ctx.has0
        · cases hfin
      · cases hfin
    · rename_i id off n
      split at hfin
      · rename_i t xs fl hob
        split at hfin
        · rename_i hte
          subst hte
          simp only [Option.some.injEq] at hfin
          subst hfin
          obtain ⟨i2, g1, g2, g3⟩ := ss_own hs' hob hvr hes
          have hd := hs'.alive hob
          refine ⟨v', c'.pr, i2, rfl, by simp only [VRep]; exact g1, g2, fun hl => ⟨?_, hs'.at_low hd (g3 hl), hs'.at_apart hd (g3 hl)⟩, W.pr, W.pnew, hs'.plow, W.size, hframe, W.os, W.tape, W.output⟩
          exact (W.own i2.b ⟨id, hget_lt hob, hd, g3 hl⟩).elim (fun h => h) fun h => absurd h Ctx.has0
        · cases hfin
      · cases hfin
    · simp only [Option.some.injEq] at hfin
      subst hfin
      simp only [VRep] at hvr
      obtain ⟨a, rfl⟩ := hvr
      refine ⟨_, c'.pr, (inf false 0 0 0 e.size false), rfl, ?_, ⟨rfl, rfl, hes, rfl, (fun h => absurd h (Nat.lt_irrefl 0)), (fun h => by cases h), (fun k y hy => by simp at hy)⟩, (fun h => by cases h), W.pr, W.pnew, hs'.plow, W.size, hframe, W.os, W.tape, W.output⟩
      simp only [VRep, slRep]
      exact ⟨⟨_, _, _, rfl⟩, .inr ⟨(inf false 0 0 0 e.size false), by simp [alone], .inr ⟨rfl, rfl, a, rfl⟩⟩⟩
    · cases hfin
  · simp only [Bool.not_eq_true] at hpos; simp [hpos] at hfin
end
theorem LawF.reads {P : Program} {f : FuncId} {as bs : List AV} {e : Ty} {xs : List e.C} (h : ReadsL as bs) (l : LawF P f bs e xs) : LawF P f as e xs :=
  ⟨l.1, fun pr w vs hp hr => l.2 pr w vs hp (h _ _ hr)⟩
theorem noOwn {c : Ctx} (h : ∀ id b, ¬ c.own id b) : OwnOk c :=
  ⟨fun _ _ _ q => (h _ _ q).elim, fun _ _ _ _ _ q => (h _ _ q).elim, fun _ _ _ _ _ _ _ q => (h _ _ q).elim, fun _ _ _ q => (h _ _ q).elim, fun _ _ q => (h _ _ q).elim⟩
end Go.AM
