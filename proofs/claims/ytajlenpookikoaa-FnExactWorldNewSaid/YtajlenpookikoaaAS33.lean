/- An interpreter of the model's code over values that are told, and its soundness. -/
import Derived.Test.YtajlenpookikoaaAS29
namespace Go.AM

/-! Calls whose result is a row of its own. -/
/-- A block that is nobody's yet. -/
def Ctx.Fresh (c c1 : Ctx) (b : Nat) : Prop := c.w.heap.size ≤ b ∧ b < c1.w.heap.size ∧ ¬ c1.pr b ∧ ∀ id, ¬ c1.dead id → ¬ c1.at id b

/-- One row more, in a world that has it already, with what it leads to. -/
theorem own_addO {c c1 : Ctx} {h h1 : Heap} (E : Ext c h c1 h1) (S : Sim c1 h1) (hf : c1.m h1.length = none ∧ ¬ c1.dead h1.length) {i : Info} {o : Obj} (hr : ObjRep c1 i o) {O : Nat → Prop} (hO : ∀ b, O b → c.Fresh c1 b)
    (hb : i.loc = true → c.Fresh c1 i.b ∧ ¬ O i.b) :
    let c2 : Ctx := { c1 with m := upd c1.m h1.length i, own := fun k b => c1.own k b ∨ (k = h1.length ∧ O b) }
    (∀ fx e xs, o.c = .deep fx e xs → DeepRow c2 h1.length i fx e xs) →
    Ext c h c2 (h1 ++ [some o]) ∧ Sim c2 (h1 ++ [some o]) ∧ (Grow c h c1 h1 → Grow c h c2 (h1 ++ [some o])) ∧ Tells c1 c2 := by
  intro c2 hdp
  have hm : ∀ id, id ≠ h1.length → c2.m id = c1.m id := fun id hid => by simp [c2, upd, hid]
  have hmn : c2.m h1.length = some i := by simp [c2, upd]
  have hmono : ∀ id j, c1.m id = some j → c2.m id = some j := fun id j hj => by
    rw [hm id (fun e => by rw [e, hf.1] at hj; cases hj)]; exact hj
  have t : Tells c1 c2 := ⟨hmono, fun _ h => h, ⟨fun _ h => h, fun _ _ => rfl⟩, fun _ _ h => h⟩
  have hlen := E.len
  have hon : ∀ b, ¬ c1.own h1.length b := fun b hb => S.own.told _ b hb hf.1
  have atc : ∀ {id b}, c2.at id b → (c1.at id b ∧ id ≠ h1.length) ∨ (id = h1.length ∧ c.Fresh c1 b) := fun {id b} ha => by
    rcases ha with (ha | ⟨he, ha⟩) | ⟨j, hj, hl, he⟩
    · exact .inl ⟨.inl ha, fun e => hon b (e ▸ ha)⟩
    · exact .inr ⟨he, hO b ha⟩
    · by_cases hid : id = h1.length
      · subst hid; rw [hmn] at hj; cases hj; exact .inr ⟨rfl, he ▸ (hb hl).1⟩
      · rw [hm id hid] at hj; exact .inl ⟨.inr ⟨j, hj, hl, he⟩, hid⟩
  refine ⟨⟨⟨E.pr, E.size, E.keep, E.blk, E.frame, ?_, E.pnew, E.os, E.tape, E.output⟩, by simp; omega, fun id j hj => hmono id j (E.m id j hj), ?_, E.dead, fun id hd => ?_⟩, ⟨?_, ?_, ?_, ?_, S.plow, ?_, ⟨?_, ?_, ?_, ?_, ?_⟩, ?_⟩, fun G => ⟨G.old, fun id hid => ?_, ?_, fun id hid => ?_⟩, t⟩
  · rintro b ⟨id, hid, hd, ha⟩
    rcases atc ha with ⟨ha, hne⟩ | ⟨_, hfr⟩
    · simp only [List.length_append, List.length_cons, List.length_nil] at hid
      exact E.own b ⟨id, by omega, hd, ha⟩
    · exact .inl hfr.1
  · intro id j hj hn
    by_cases he : id = h1.length
    · subst he; exact ⟨hlen, by simp⟩
    · rw [hm id he] at hj
      have := E.fresh id j hj hn
      exact ⟨this.1, by simp; omega⟩
  · exact (E.dead' id hd).imp_right fun h => by simp; omega
  · intro id j hid hj hd
    by_cases he : id = h1.length
    · subst he; rw [hmn] at hj; cases hj
      exact ⟨o, hget_append_new, hr.mono t fun _ => rfl⟩
    · rw [hm id he] at hj
      simp only [List.length_append, List.length_cons, List.length_nil] at hid
      obtain ⟨o', ho', hr'⟩ := S.obj id j (by omega) hj hd
      exact ⟨o', by rw [hget_append_old (by omega)]; exact ho', hr'.mono t fun _ => rfl⟩
  · intro id hid hd
    have he : id ≠ h1.length := fun e => hf.2 (e ▸ hd)
    simp only [List.length_append, List.length_cons, List.length_nil] at hid
    rw [hget_append_old (by omega)]; exact S.gone id (by omega) hd
  · intro id j hj hd hl
    by_cases he : id = h1.length
    · subst he; rw [hmn] at hj; cases hj; exact (hb hl).1.2.1
    · rw [hm id he] at hj; exact S.low id j hj hd hl
  · intro id id' j j' hj hj' hd hd' hl hl' hbb
    by_cases he : id = h1.length
    · by_cases he' : id' = h1.length
      · rw [he, he']
      · subst he; rw [hmn] at hj; cases hj; rw [hm id' he'] at hj'
        exact absurd (.inr ⟨j', hj', hl', hbb.symm⟩) ((hb hl).1.2.2.2 id' hd')
    · rw [hm id he] at hj
      by_cases he' : id' = h1.length
      · subst he'; rw [hmn] at hj'; cases hj'
        exact absurd (.inr ⟨j, hj, hl, hbb⟩) ((hb hl').1.2.2.2 id hd)
      · rw [hm id' he'] at hj'; exact S.inj id id' j j' hj hj' hd hd' hl hl' hbb
  · intro id j hj hd hl
    by_cases he : id = h1.length
    · subst he; rw [hmn] at hj; cases hj; exact (hb hl).1.2.2.1
    · rw [hm id he] at hj; exact S.apart id j hj hd hl
  · rintro id b hd (h | ⟨_, h⟩)
    · exact S.own.low id b hd h
    · exact (hO b h).2.1
  · rintro id id' b hd hd' (h | ⟨e, h⟩) (h' | ⟨e', h'⟩)
    · exact S.own.inj id id' b hd hd' h h'
    · exact absurd (.inl h) ((hO b h').2.2.2 id hd)
    · exact absurd (.inl h') ((hO b h).2.2.2 id' hd')
    · rw [e, e']
  · rintro id id' j hd hd' hj hl (h | ⟨e, h⟩)
    · by_cases he' : id' = h1.length
      · subst he'; rw [hmn] at hj; cases hj
        exact absurd (.inl h) ((hb hl).1.2.2.2 id hd)
      · rw [hm id' he'] at hj; exact S.own.row id id' j hd hd' hj hl h
    · by_cases he' : id' = h1.length
      · subst he'; rw [hmn] at hj; cases hj
        exact (hb hl).2 h
      · rw [hm id' he'] at hj
        exact absurd (.inr ⟨j, hj, hl, rfl⟩) ((hO _ h).2.2.2 id' hd')
  · rintro id b hd (h | ⟨_, h⟩)
    · exact S.own.apart id b hd h
    · exact (hO b h).2.2.1
  · rintro id b (h | ⟨e, h⟩)
    · have := S.own.told id b h
      cases hc : c1.m id with
      | none => exact absurd hc this
      | some j => rw [hmono id j hc]; simp
    · subst e; rw [hmn]; simp
  · intro id j fx e xs f hid hj hd hg
    by_cases he : id = h1.length
    · subst he; rw [hmn] at hj; cases hj
      rw [hget_append_new] at hg; cases hg
      exact hdp fx e xs rfl
    · rw [hm id he] at hj
      simp only [List.length_append, List.length_cons, List.length_nil] at hid
      rw [hget_append_old (by omega)] at hg
      exact S.deepStay (by omega) hj hd hg (fun _ h => .inl h) fun _ _ => rfl
  · rw [hget_append_old (by omega)]; exact G.heap id hid
  · exact G.dead
  · have := G.own id hid
    have hne : id ≠ h1.length := fun e => by
      cases hc : c.m id with
      | none => exact hid hc
      | some j => have := E.m id j hc; rw [e, hf.1] at this; cases this
    rw [← this]
    funext b
    simp [c2, hne]

theorem own_add {c c1 : Ctx} {h h1 : Heap} (E : Ext c h c1 h1) (S : Sim c1 h1) (G : Grow c h c1 h1) (hf : c1.m h1.length = none ∧ ¬ c1.dead h1.length) {i : Info} {o : Obj} (hr : ObjRep c1 i o) (hnd : o.c.isDeep = false)
    (hb : i.loc = true → c.Fresh c1 i.b) :
    ∃ c2 : Ctx, c2.m = upd c1.m h1.length i ∧ c2.w = c1.w ∧ c2.pr = c1.pr ∧ c2.dead = c1.dead ∧ Ext c h c2 (h1 ++ [some o]) ∧ Sim c2 (h1 ++ [some o]) ∧ Grow c h c2 (h1 ++ [some o]) ∧ Tells c1 c2 := by
  obtain ⟨k1, k2, k3, k4⟩ := own_addO E S hf hr (O := fun _ => False) (fun _ h => h.elim) (fun hl => ⟨hb hl, fun h => h⟩) (fun fx e xs hc => by rw [hc] at hnd; cases hnd)
  exact ⟨{ c1 with m := upd c1.m h1.length i, own := fun k b => c1.own k b ∨ (k = h1.length ∧ False) }, rfl, rfl, rfl, rfl, k1, k2, k3 G, k4⟩
theorem own_add2 {c c1 : Ctx} {h h1 : Heap} (E : Ext c h c1 h1) (S : Sim c1 h1) (hf : c1.m h1.length = none ∧ ¬ c1.dead h1.length) {i : Info} {o : Obj} (hr : ObjRep c1 i o) (hnd : o.c.isDeep = false)
    (hb : i.loc = true → c.Fresh c1 i.b) :
    ∃ c2 : Ctx, c2.m = upd c1.m h1.length i ∧ c2.w = c1.w ∧ c2.pr = c1.pr ∧ c2.dead = c1.dead ∧ Ext c h c2 (h1 ++ [some o]) ∧ Sim c2 (h1 ++ [some o]) ∧ Tells c1 c2 := by
  obtain ⟨k1, k2, _, k4⟩ := own_addO E S hf hr (O := fun _ => False) (fun _ h => h.elim) (fun hl => ⟨hb hl, fun h => h⟩) (fun fx e xs hc => by rw [hc] at hnd; cases hnd)
  exact ⟨{ c1 with m := upd c1.m h1.length i, own := fun k b => c1.own k b ∨ (k = h1.length ∧ False) }, rfl, rfl, rfl, rfl, k1, k2, k4⟩

/-- Where a row alone is told. -/
def alone (pr : Nat → Prop) (w : World) (i : Info) : Ctx := ⟨fun id => if id = 0 then some i else none, fun _ => False, pr, w, fun _ _ => False⟩

/-- What is told of a call whose result is a new row: nobody else has it. -/
def LawF (P : Program) (f : FuncId) (args : List AV) (e : Ty) (xs : List e.C) : Prop :=
  Enters P f ∧ ∀ (pr : Nat → Prop) (w : World) (vs : Array Value), (∀ b, pr b → b < w.heap.size) → VReps (still0 pr w) args vs.toList → Calls P f vs w fun en w' =>
    ∃ v' pr' i, en = .returned v' ∧ VRep (alone pr' w' i) (.sl 0) v' ∧ ObjRep (alone pr' w' i) i ⟨.typed e xs, false⟩ ∧ (i.loc = true → w.heap.size ≤ i.b ∧ i.b < w'.heap.size ∧ ¬ pr' i.b) ∧
      (∀ b, pr b → pr' b) ∧ (∀ b, pr' b → pr b ∨ w.heap.size ≤ b) ∧ (∀ b, pr' b → b < w'.heap.size) ∧ w.heap.size ≤ w'.heap.size ∧
      (∀ b, b < w.heap.size → w'.heap[b]? = w.heap[b]?) ∧ w'.os = w.os ∧ w'.tape = w.tape ∧ w'.output = w.output

theorem flat_cells {pr pr2 : Nat → Prop} {w w2 : World} : ∀ {t : Ty} {x : t.C} {vs : List Value}, flatT t = true → CellsRep pr w t x vs → CellsRep pr2 w2 t x vs := by
  intro t
  induction t with
  | int k => intro x vs _ h; exact h
  | bool => intro x vs _ h; exact h
  | str => intro x vs _ h; exact h
  | unit => intro x vs _ h; exact h
  | row e _ => intro x vs h; simp [flatT] at h
  | node => intro x vs h; simp [flatT] at h
  | pair a b iha ihb =>
    intro x vs hf h
    simp only [flatT, Bool.and_eq_true] at hf
    obtain ⟨l, r, rfl, h1, h2⟩ := h
    exact ⟨l, r, rfl, iha hf.1 h1, ihb hf.2 h2⟩

/-- A contract by value, whose result is a row of the caller's own. -/
def byFresh (e : Ty) (m : (ρ : Type) → List AV → (List e.C → Option ρ) → Option ρ) : Con := fun ρ args h K =>
  m ρ (args.map (deref h 8)) fun xs => bif args.all noRef || flatT e then K (.sl h.length) (h ++ [some ⟨.typed e xs, false⟩]) false else none

theorem noRef_reps {c c2 : Ctx} (hp : c2.pr = c.pr) (hw : c2.w = c.w) : ∀ {as : List AV} {us : List Value}, as.all noRef = true → VReps c as us → VReps c2 as us
  | [], [], _, _ => by simp [VReps]
  | [], _ :: _, _, h => by simp [VReps] at h
  | _ :: _, [], _, h => by simp [VReps] at h
  | a :: as, u :: us, ha, h => by
    simp only [List.all_cons, Bool.and_eq_true] at ha
    simp only [VReps] at h ⊢
    exact ⟨noRef_rep hp hw ha.1 h.1, noRef_reps hp hw ha.2 h.2⟩

/-- The caller's state behind such a call. -/
theorem fresh_state {c : Ctx} {h : Heap} (hs : Sim c h) (hf : Free c h (h ++ [none])) {e : Ty} {xs : List e.C} {pr' : Nat → Prop} {w' : World} {i : Info} {v' : Value}
    (hv : VRep (alone pr' w' i) (.sl 0) v') (hr : ObjRep (alone pr' w' i) i ⟨.typed e xs, false⟩) (hi : i.loc = true → c.w.heap.size ≤ i.b ∧ i.b < w'.heap.size ∧ ¬ pr' i.b)
    (h1 : ∀ b, c.pr b → pr' b) (h2 : ∀ b, pr' b → c.pr b ∨ c.w.heap.size ≤ b) (h3 : ∀ b, pr' b → b < w'.heap.size) (h4 : c.w.heap.size ≤ w'.heap.size)
    (h5 : ∀ b, b < c.w.heap.size → w'.heap[b]? = c.w.heap[b]?) (h6 : w'.os = c.w.os) (h7 : w'.tape = c.w.tape) (h8 : w'.output = c.w.output) :
    ∃ c2, c2.w = w' ∧ Ext c h c2 (h ++ [some ⟨.typed e xs, false⟩]) ∧ Sim c2 (h ++ [some ⟨.typed e xs, false⟩]) ∧ VRep c2 (.sl h.length) v' ∧ Grow c h c2 (h ++ [some ⟨.typed e xs, false⟩]) := by
  obtain ⟨k1, k2, k3⟩ := byVal_state hs h1 h2 h3 h4 h5 h6 h7 h8
  have hfr := hf h.length (Nat.le_refl _) (by simp)
  have hr2 : ObjRep { c with pr := pr', w := w' } i ⟨.typed e xs, false⟩ := ⟨hr.len, hr.es, hr.pos, hr.full, hr.loc, hr.blk, hr.cont⟩
  obtain ⟨c2, p1, p2, p3, p4, g1, g2, g3, g4⟩ := own_add k1 k2 k3 hfr hr2 rfl fun hl => ⟨(hi hl).1, (hi hl).2.1, (hi hl).2.2, fun id hd ha => by
    have := hs.at_low (id := id) (b := i.b) hd ha
    have := (hi hl).1
    omega⟩
  refine ⟨c2, p2, g1, g2, ?_, g3⟩
  · simp only [VRep, slRep] at hv ⊢
    obtain ⟨ha, hb⟩ := hv
    rw [p2]
    refine ⟨ha, .inr ⟨i, by rw [p1]; simp [upd], ?_⟩⟩
    rcases hb with hb | ⟨j, hj, hb⟩
    · exact hb.elim
    · simp only [alone, if_true, Option.some.injEq] at hj
      subst hj
      exact hb

theorem con_byFresh {P : Program} {f : FuncId} {e : Ty} {m : (ρ : Type) → List AV → (List e.C → Option ρ) → Option ρ} (hm : ∀ (ρ : Type) args (K : List e.C → Option ρ) (x : ρ), m ρ args K = some x → ∃ xs, K xs = some x ∧ LawF P f args e xs) : ConOk P f (byFresh e m) := by
  intro ρ args h K x hb
  unfold byFresh at hb
  obtain ⟨xs, hv1, hent, hlaw⟩ := hm _ _ _ _ hb
  by_cases hc : (args.all noRef || flatT e) = true
  · simp only [hc, cond_true] at hv1
    refine ⟨.sl h.length, h ++ [some ⟨.typed e xs, false⟩], false, hv1, hent, (Pre.snoc h _).sta _, fun c vs hs hf hr => ?_⟩
    have hf' : Free c h (h ++ [none]) := fun id h1 h2 => hf id h1 (by simpa using h2)
    simp only [Bool.or_eq_true] at hc
    rcases hc with hc | hc
    · have hargs : args.map (deref h 8) = args := by
        have : ∀ a ∈ args, deref h 8 a = a := fun a ha => noRef_deref (List.all_eq_true.1 hc a ha)
        rw [List.map_congr_left this]; simp
      rw [hargs] at hlaw
      refine (hlaw c.pr c.w vs hs.plow (noRef_reps (c := c) (c2 := still0 c.pr c.w) rfl rfl hc hr)).mono ?_
      rintro en w' ⟨v', pr', i, rfl, hv, hrr, hi, q1, q2, q3, q4, q5, q6, q7, q8⟩
      obtain ⟨c2, e1, e2, e3, e4, e5⟩ := fresh_state hs hf' hv hrr hi q1 q2 q3 q4 q5 q6 q7 q8
      exact ⟨v', c2, rfl, e1, e2, e3, e4, fun _ => e5⟩
    · have hplow := hs.still_low
      refine (hlaw c.still.pr c.w vs hplow (deref_reps (deref_rep hs 8) hr)).mono ?_
      rintro en w' ⟨v', pr', i, rfl, hv, hrr, hi, q1, q2, q3, q4, q5, q6, q7, q8⟩
      -- words alone: what the result's cells lead to is nothing
      have hi' : i.loc = true → c.w.heap.size ≤ i.b ∧ i.b < w'.heap.size ∧ ¬ c.pr i.b := fun hl => ⟨(hi hl).1, (hi hl).2.1, fun hp => by have := hs.plow _ hp; have := (hi hl).1; omega⟩
      have hr2 : ObjRep (alone c.pr w' i) i ⟨.typed e xs, false⟩ := ⟨hrr.len, hrr.es, hrr.pos, hrr.full, hrr.loc, hrr.blk, fun k y hy => by
        obtain ⟨us, u1, u2, u3⟩ := hrr.cont k y hy
        exact ⟨us, u1, u2, flat_cells hc u3⟩⟩
      have hv2 : VRep (alone c.pr w' i) (.sl 0) v' := by
        simp only [VRep] at hv ⊢
        exact hv
      obtain ⟨c2, e1, e2, e3, e4, e5⟩ := fresh_state hs hf' hv2 hr2 hi' (fun _ h => h) (fun _ h => .inl h) (fun b hb => Nat.lt_of_lt_of_le (hs.plow b hb) q4) q4 q5 q6 q7 q8
      exact ⟨v', c2, rfl, e1, e2, e3, e4, fun _ => e5⟩
  · simp only [Bool.not_eq_true] at hc; simp [hc] at hv1

/-- A result that is a row of the run's own. -/
def finF (e : Ty) (r : AV × Heap) : Option (List e.C) :=
  bif Nat.blt 0 e.size then
  (match r.1 with
   | .sl id => (match hget r.2 id with | some ⟨.typed t xs, _⟩ => if h : t = e then some (Ty.castR h xs) else none | _ => none)
   | .ss id off n => (match hget r.2 id with | some ⟨.typed t xs, _⟩ => if h : t = e then some (List.take n (List.drop off (Ty.castR h xs))) else none | _ => none)
   | .nils => some []
   | _ => none)
  else none

/-- A part of a row of the run's own is a row of its own. -/
theorem ss_own {c' : Ctx} {rh : Heap} (hs' : Sim c' rh) {id off n : Nat} {t : Ty} {xs : List t.C} {fl : Bool} {v' : Value} (hob : hget rh id = some ⟨.typed t xs, fl⟩) (hvr : VRep c' (.ss id off n) v') (hes : 0 < t.size) :
    ∃ i2 : Info, slRep (alone c'.pr c'.w i2) 0 v' ∧ ObjRep (alone c'.pr c'.w i2) i2 ⟨.typed t (List.take n (List.drop off xs)), false⟩ ∧ (i2.loc = true → c'.at id i2.b) := by
  have hd := hs'.alive hob
  simp only [VRep, ssRep] at hvr
  obtain ⟨hany, hv⟩ := hvr
  obtain ⟨i, hi, hon, hcase⟩ := hv.resolve_left hd
  have hrep := hs'.rep hob hi
  have hlen : i.len = List.length xs := hrep.len
  have hie : i.es = t.size := hrep.es
  have hl : (List.take n (List.drop off xs)).length = n := by simp; omega
  rcases hcase with ⟨hloc, cap, m, rfl, hle, hblk, hm⟩ | ⟨h0, a, rfl⟩
  · rw [Nat.add_mul] at hm
    have hmul : n * i.es ≤ cap * i.es := Nat.mul_le_mul_right _ hle
    refine ⟨inf true i.b (i.base + off * i.es) n i.es false, ⟨hany, .inr ⟨inf true i.b (i.base + off * i.es) n i.es false, by simp [alone], .inl ⟨rfl, cap, m, rfl, hle, hblk, by show i.base + off * i.es + cap * i.es ≤ m; omega, fun h => (by cases h)⟩⟩⟩, ⟨hl.symm, hie, hrep.pos, rfl, fun _ => rfl, fun _ => ⟨m, hblk, by show i.base + off * i.es + n * i.es ≤ m; omega⟩, fun j y hj => ?_⟩, fun _ => .inr ⟨i, hi, hloc, rfl⟩⟩
    rw [List.getElem?_take] at hj
    split at hj
    · rw [List.getElem?_drop] at hj
      obtain ⟨us, u1, u2, u3⟩ := hrep.cont (off + j) y hj
      refine ⟨us, u1, ?_, u3⟩
      rw [Nat.add_mul, ← Nat.add_assoc] at u2
      rw [hie]; exact u2
    · cases hj
  · have hnil : List.take n (List.drop off xs) = [] := List.eq_nil_of_length_eq_zero (by rw [hl, h0])
    rw [hnil]
    exact ⟨inf false 0 0 0 t.size false, ⟨hany, .inr ⟨inf false 0 0 0 t.size false, by simp [alone], .inr ⟨rfl, rfl, a, rfl⟩⟩⟩, ⟨rfl, rfl, hes, rfl, (fun h => absurd h (Nat.lt_irrefl 0)), (fun h => by cases h), (fun k y hy => by simp at hy)⟩, fun h => by cases h⟩

section
variable {P : Program} {E : Env} {run : Run}
theorem lawF (hT : TOk P E) (hC : CallsOk P E run) (hmix : P.follows .mixedOrders = true) {f : FuncId} {fn : Func} (hf : P.funcs[f]? = some fn) (hname : (fn.name == "runtime.NumGoroutine") = false) (hb : fn.body.isNone = false) {k : Nat} {args : List AV} {e : Ty} {x : List e.C}
    (hk : abody E run k f fn args [] (finF e) = some x) : LawF P f args e x := by
  obtain ⟨r, hfin, hw⟩ := told_body (lv := true) hT hC (regOk hT hmix hC) hf (fun h => by cases h) hk
  obtain ⟨rv, rh⟩ := r
  refine ⟨⟨fn, hf, hname, hb⟩, fun pr w vs hp hr => ?_⟩
  have hs : Sim (still0 pr w) [] := sim_still0 hp
  refine (hw (still0 pr w) vs hs (fun id _ => ⟨rfl, fun h => h⟩) hr).mono ?_
  rintro en w' ⟨v', c', rfl, rfl, hsi, hs', hf', hvr⟩
  have W := hsi.1
  have hframe : ∀ b, b < w.heap.size → c'.w.heap[b]? = w.heap[b]? := fun b hb => W.frame b hb Ctx.has0
  unfold finF at hfin
  by_cases hpos : Nat.blt 0 e.size = true
  · simp only [hpos, cond_true] at hfin
    have hes : 0 < e.size := by simpa [Nat.blt_eq] using hpos
    split at hfin
    · rename_i id
      split at hfin
      · rename_i t xs fl hob
        split at hfin
        · rename_i hte
          subst hte
          simp only [Option.some.injEq] at hfin
          subst hfin
          have hd := hs'.alive hob
          have hvr' := hvr
          simp only [VRep, slRep] at hvr'
          obtain ⟨hany, hv⟩ := hvr'
          obtain ⟨i, hi, hcase⟩ := hv.resolve_left hd
          have hid : id < rh.length := by
            rcases Nat.lt_or_ge id rh.length with h | h
            · exact h
            · rw [(hf' id h).1] at hi; cases hi
          obtain ⟨ob, hob2, hrep⟩ := hs'.obj id i hid hi hd
          rw [hob] at hob2
          simp only [Option.some.injEq] at hob2
          subst hob2
          refine ⟨v', c'.pr, { i with full := false }, rfl, ?_, ⟨hrep.len, hrep.es, hrep.pos, rfl, hrep.loc, hrep.blk, hrep.cont⟩, fun hl => ⟨?_, hs'.low id i hi hd hl, hs'.apart id i hi hd hl⟩, W.pr, W.pnew, hs'.plow, W.size, hframe, W.os, W.tape, W.output⟩
          · simp only [VRep, slRep]
            refine ⟨hany, .inr ⟨{ i with full := false }, by simp [alone], ?_⟩⟩
            rcases hcase with ⟨a1, cap, n, a2, a3, a4, a5, _⟩ | ⟨a1, a2, a3⟩
            · exact .inl ⟨a1, cap, n, a2, a3, a4, a5, fun h => by cases h⟩
            · exact .inr ⟨a1, a2, a3⟩
          · exact (W.own i.b ⟨id, hid, hd, .inr ⟨i, hi, hl, rfl⟩⟩).elim (fun h => h) fun h => absurd h Ctx.has0
        · cases hfin
      · cases hfin
    · rename_i id off n
      split at hfin
      · rename_i t xs fl hob
        split at hfin
        · rename_i hte
          subst hte
          simp only [Option.some.injEq] at hfin
          subst hfin
          obtain ⟨i2, g1, g2, g3⟩ := ss_own hs' hob hvr hes
          have hd := hs'.alive hob
          refine ⟨v', c'.pr, i2, rfl, by simp only [VRep]; exact g1, g2, fun hl => ⟨?_, hs'.at_low hd (g3 hl), hs'.at_apart hd (g3 hl)⟩, W.pr, W.pnew, hs'.plow, W.size, hframe, W.os, W.tape, W.output⟩
          exact (W.own i2.b ⟨id, hget_lt hob, hd, g3 hl⟩).elim (fun h => h) fun h => absurd h Ctx.has0
        · cases hfin
      · cases hfin
    · simp only [Option.some.injEq] at hfin
      subst hfin
      simp only [VRep] at hvr
      obtain ⟨a, rfl⟩ := hvr
      refine ⟨_, c'.pr, (inf false 0 0 0 e.size false), rfl, ?_, ⟨rfl, rfl, hes, rfl, (fun h => absurd h (Nat.lt_irrefl 0)), (fun h => by cases h), (fun k y hy => by simp at hy)⟩, (fun h => by cases h), W.pr, W.pnew, hs'.plow, W.size, hframe, W.os, W.tape, W.output⟩
      simp only [VRep, slRep]
      exact ⟨⟨_, _, _, rfl⟩, .inr ⟨(inf false 0 0 0 e.size false), by simp [alone], .inr ⟨rfl, rfl, a, rfl⟩⟩⟩
    · cases hfin
  · simp only [Bool.not_eq_true] at hpos; simp [hpos] at hfin
end
theorem LawF.reads {P : Program} {f : FuncId} {as bs : List AV} {e : Ty} {xs : List e.C} (h : ReadsL as bs) (l : LawF P f bs e xs) : LawF P f as e xs :=
  ⟨l.1, fun pr w vs hp hr => l.2 pr w vs hp (h _ _ hr)⟩
theorem noOwn {c : Ctx} (h : ∀ id b, ¬ c.own id b) : OwnOk c :=
  ⟨fun _ _ _ q => (h _ _ q).elim, fun _ _ _ _ _ q => (h _ _ q).elim, fun _ _ _ _ _ _ _ q => (h _ _ q).elim, fun _ _ _ q => (h _ _ q).elim, fun _ _ q => (h _ _ q).elim⟩
end Go.AM
namespace Go.AM

/-! Calls that write a row that came in: the first arg. -/
def LawM (P : Program) (f : FuncId) (args : List AV) (e : Ty) (xs : List e.C) (v : AV) (ys : List e.C) : Prop :=
  Enters P f ∧ ∀ (pr : Nat → Prop) (w : World) (i : Info) (vs : Array Value), (∀ b, pr b → b < w.heap.size) → ObjRep (alone pr w i) i ⟨.typed e xs, false⟩ → (i.loc = true → i.b < w.heap.size ∧ ¬ pr i.b) →
    VReps (alone pr w i) (.sl 0 :: args) vs.toList → Calls P f vs w fun en w' =>
    ∃ v' pr', en = .returned v' ∧ VRep (still0 pr' w') v v' ∧ ObjRep (alone pr' w' i) i ⟨.typed e ys, false⟩ ∧ (i.loc = true → ¬ pr' i.b) ∧
      (∀ b, pr b → pr' b) ∧ (∀ b, pr' b → pr b ∨ w.heap.size ≤ b) ∧ (∀ b, pr' b → b < w'.heap.size) ∧ w.heap.size ≤ w'.heap.size ∧
      (∀ b, b < w.heap.size → (i.loc = true → i.b ≠ b) → w'.heap[b]? = w.heap[b]?) ∧ (∀ b n, Blk w b n → Blk w' b n) ∧ w'.os = w.os ∧ w'.tape = w.tape ∧ w'.output = w.output

/-- A contract of such a call: what it tells is words. -/
def byMut (e : Ty) (m : (ρ : Type) → List AV → List e.C → (AV → List e.C → Option ρ) → Option ρ) : Con := fun ρ args h K =>
  match args with
  | .sl id :: rest =>
    (match hget h id with
     | some ⟨.typed t xs, fl⟩ =>
       if ht : t = e then bif rest.all noRef then m ρ rest (Ty.castR ht xs) (fun v ys => bif flatV v then K v (h.set id (some ⟨.typed e ys, fl⟩)) true else none) else none else none
     | _ => none)
  | _ => none

theorem con_byMut {P : Program} {f : FuncId} {e : Ty} {m : (ρ : Type) → List AV → List e.C → (AV → List e.C → Option ρ) → Option ρ}
    (hm : ∀ (ρ : Type) args xs (K : AV → List e.C → Option ρ) (x : ρ), m ρ args xs K = some x → ∃ v ys, K v ys = some x ∧ LawM P f args e xs v ys) : ConOk P f (byMut e m) := by
  intro ρ args h K x hb
  unfold byMut at hb
  split at hb
  · rename_i id rest
    split at hb
    · rename_i t xs fl hob
      split at hb
      · rename_i ht
        subst ht
        cases hn : rest.all noRef with
        | false => rw [hn] at hb; cases hb
        | true =>
          rw [hn] at hb
          simp only [cond_true] at hb
          obtain ⟨v, ys, hk, hent, hlaw⟩ := hm _ _ _ _ _ hb
          replace hlaw : ∀ (pr : Nat → Prop) (w : World) (i : Info) (vs : Array Value), (∀ b, pr b → b < w.heap.size) → ObjRep (alone pr w i) i ⟨.typed t xs, false⟩ → _ := hlaw
          cases hfv : flatV v with
          | false => rw [hfv] at hk; cases hk
          | true =>
            rw [hfv] at hk
            simp only [cond_true] at hk
            have hid : id < h.length := hget_lt hob
            refine ⟨v, _, true, hk, hent, (sta_set fun j hj => touch_sl hj (by simp)), fun c vs hs _ hr => ?_⟩
            have hd := hs.alive hob
            have hr' := hr
            cases hvs : vs.toList with
            | nil => rw [hvs] at hr'; simp [VReps] at hr'
            | cons v0 vs' =>
              rw [hvs] at hr'
              simp only [VReps, VRep, slRep] at hr'
              obtain ⟨⟨hany, hv⟩, hrest⟩ := hr'
              obtain ⟨i, hi, hcase⟩ := hv.resolve_left hd
              obtain ⟨o, ho, hrep⟩ := hs.obj id i hid hi hd
              rw [hob] at ho
              simp only [Option.some.injEq] at ho
              subst ho
              have hrep0 : ObjRep (alone c.pr c.w { i with full := false }) { i with full := false } ⟨.typed t xs, false⟩ := ⟨hrep.len, hrep.es, hrep.pos, rfl, hrep.loc, hrep.blk, hrep.cont⟩
              have hargs : VReps (alone c.pr c.w { i with full := false }) (.sl 0 :: rest) vs.toList := by
                rw [hvs]
                simp only [VReps, VRep, slRep]
                refine ⟨⟨hany, .inr ⟨{ i with full := false }, by simp [alone], ?_⟩⟩, noRef_reps (c := c) (c2 := alone c.pr c.w { i with full := false }) rfl rfl hn hrest⟩
                rcases hcase with ⟨a1, cap, n, a2, a3, a4, a5, _⟩ | ⟨a1, a2, a3⟩
                · exact .inl ⟨a1, cap, n, a2, a3, a4, a5, fun h => by cases h⟩
                · exact .inr ⟨a1, a2, a3⟩
              refine (hlaw c.pr c.w { i with full := false } vs hs.plow hrep0 (fun hl => ⟨hs.low id i hi hd hl, hs.apart id i hi hd hl⟩) hargs).mono ?_
              rintro en w' ⟨v', pr', rfl, hvv, hrep2, hap, q1, q2, q3, q4, q5, q6, q7, q8, q9⟩
              have hkeep : ∀ b, c.pr b → w'.heap[b]? = c.w.heap[b]? := fun b hp => q5 b (hs.plow b hp) fun hl e => hs.apart id i hi hd hl (by rw [← e] at hp; exact hp)
              have t2 : Tells c { c with pr := pr', w := w' } := ⟨fun _ _ h => h, fun _ h => h, ⟨q1, hkeep⟩, q6⟩
              have hlen : (h.set id (some ⟨.typed t ys, fl⟩)).length = h.length := by simp
              have hS : Sim { c with pr := pr', w := w' } (h.set id (some ⟨.typed t ys, fl⟩)) := by
                refine ⟨fun id' i' h1 h2 h3 => ?_, fun id' h1 h2 => ?_, fun id' i' h1 h2 h3 => Nat.lt_of_lt_of_le (hs.low id' i' h1 h2 h3) q4, hs.inj, q3, fun id' i' h1 h2 h3 hp => ?_, hs.own.step rfl (fun _ h => h) (fun _ _ h => h) q4 q2 (fun id' i' h1 h2 h3 => hs.own.off h1 h2 h3), fun id' i' fx e' xs' f h1 h2 h3 h4 => by
                  by_cases he : id' = id
                  · subst he; rw [hget_set_same hid] at h4; cases h4
                  · rw [hlen] at h1
                    rw [hget_set_other he] at h4
                    exact hs.deepStay h1 h2 h3 h4 (fun _ h => h) fun b hb => q5 b (hs.at_low h3 hb) fun hl e => he (hs.at_inj h3 hd hb (.inr ⟨i, hi, hl, e⟩))⟩
                · by_cases he : id' = id
                  · subst he
                    have : i' = i := by rw [hi] at h2; simpa using h2.symm
                    subst this
                    exact ⟨_, hget_set_same hid, ⟨hrep2.len, hrep2.es, hrep2.pos, hrep.full, hrep2.loc, hrep2.blk, hrep2.cont⟩⟩
                  · rw [hlen] at h1
                    obtain ⟨o', ho', hr''⟩ := hs.obj id' i' h1 h2 h3
                    exact ⟨o', by rw [hget_set_other he]; exact ho', hr''.mono t2 fun hl => q5 _ (hs.low id' i' h2 h3 hl) fun hl' e => he (hs.inj id' id i' i h2 hi h3 hd hl hl' e.symm)⟩
                · have he : id' ≠ id := fun e => hd (e ▸ h2)
                  rw [hlen] at h1
                  rw [hget_set_other he]; exact hs.gone id' h1 h2
                · by_cases he : id' = id
                  · subst he
                    have : i' = i := by rw [hi] at h1; simpa using h1.symm
                    subst this
                    exact hap h3 hp
                  · rcases q2 _ hp with hp | hp
                    · exact hs.apart id' i' h1 h2 h3 hp
                    · have := hs.low id' i' h1 h2 h3; omega
              refine ⟨v', { c with pr := pr', w := w' }, rfl, rfl, ⟨⟨q1, q4, hkeep, q6, fun b hb hn2 => q5 b hb fun hl e => hn2 ⟨id, hid, hd, .inr ⟨i, hi, hl, e⟩⟩, fun b hh => .inr (by obtain ⟨id', h1, h2, h3⟩ := hh; exact ⟨id', by simpa using h1, h2, h3⟩), q2, q7, q8, q9⟩, by simp, fun _ _ h => h, fun _ _ h h' => absurd (h'.symm.trans h) (by simp), fun _ h => h, fun _ h => .inl h⟩, hS, flat_rep hfv hvv, fun h => by cases h⟩
      · cases hb
    · cases hb
  · cases hb

/-- What is told besides: a word, or nothing. -/
def asM : (t : Ty) → AV → Option t.C
  | .unit, .tup [] => some ()
  | .unit, _ => none
  | t, v => v.as t
def tvM : (t : Ty) → t.C → AV
  | .unit, _ => .tup []
  | t, x => tvn t x
theorem asM_rep {c : Ctx} {t : Ty} {a : AV} {x : t.C} {v : Value} (h : asM t a = some x) (hr : VRep c a v) : VRep c (tvM t x) v := by
  cases t
  case unit =>
    cases a
    case tup vs =>
      cases vs with
      | nil => exact hr
      | cons _ _ => cases h
    all_goals cases h
  all_goals exact as_rep h hr
/-- A run's result, and the row that came in as it is then. -/
def finM (t e : Ty) (r : AV × Heap) : Option (t.C × List e.C) :=
  match hget r.2 0 with
  | some ⟨.typed u ys, _⟩ => if h : u = e then (asM t (deref r.2 8 r.1)).map fun v => (v, Ty.castR h ys) else none
  | _ => none

section
variable {P : Program} {E : Env} {run : Run}
theorem lawM (hT : TOk P E) (hC : CallsOk P E run) (hmix : P.follows .mixedOrders = true) {f : FuncId} {fn : Func} (hf : P.funcs[f]? = some fn) (hname : (fn.name == "runtime.NumGoroutine") = false) (hb : fn.body.isNone = false) (hpin : 0 < pinsOf E f) {k : Nat} {args : List AV} {t e : Ty} (hflat : ∀ x : t.C, flatV (tvM t x) = true) {xs : List e.C} {x : t.C × List e.C}
    (hk : abody E run k f fn (.sl 0 :: args) [some ⟨.typed e xs, false⟩] (finM t e) = some x) : LawM P f args e xs (tvM t x.1) x.2 := by
  obtain ⟨r, hfin, hw⟩ := told_body (lv := true) hT hC (regOk hT hmix hC) hf (fun h => by cases h) hk
  obtain ⟨rv, rh⟩ := r
  refine ⟨⟨fn, hf, hname, hb⟩, fun pr w i vs hp hrep hi hr => ?_⟩
  have h0 : ∀ id j, (alone pr w i).m id = some j → id = 0 ∧ j = i := fun id j hj => by
    simp only [alone] at hj
    split at hj
    · exact ⟨by assumption, by simpa using hj.symm⟩
    · cases hj
  have hs : Sim (alone pr w i) [some ⟨.typed e xs, false⟩] := by
    refine ⟨fun id j hid hj _ => ?_, fun id _ hd => hd.elim, fun id j hj _ hl => ?_, fun id id' j j' hj hj' _ _ _ _ _ => ?_, hp, fun id j hj _ hl => ?_, noOwn (fun _ _ h => h), fun id j fx e' xs' f hid hj _ hg => by obtain ⟨rfl, rfl⟩ := h0 id j hj; cases hg⟩
    · obtain ⟨rfl, rfl⟩ := h0 id j hj; exact ⟨_, rfl, hrep⟩
    · obtain ⟨rfl, rfl⟩ := h0 id j hj; exact (hi hl).1
    · rw [(h0 id j hj).1, (h0 id' j' hj').1]
    · obtain ⟨rfl, rfl⟩ := h0 id j hj; exact (hi hl).2
  have hfre : Fre (alone pr w i) [some ⟨.typed e xs, false⟩] := by
    intro id hid
    have : id ≠ 0 := by simp at hid; omega
    exact ⟨by simp [alone, this], fun h => h⟩
  refine (hw (alone pr w i) vs hs hfre hr).mono ?_
  rintro en w' ⟨v', c', rfl, rfl, hsi, hs', hf', hvr⟩
  have W := hsi.1
  have hm0 : c'.m 0 = some i := hsi.2.2 0 i hpin (by simp [alone])
  unfold finM at hfin
  split at hfin
  · rename_i u ys fl hob
    split at hfin
    · rename_i hu
      subst hu
      obtain ⟨v1, hv1, hx⟩ := Option.map_eq_some_iff.1 hfin
      subst hx
      have hd := hs'.alive hob
      obtain ⟨o, ho, hrep2⟩ := hs'.obj 0 i (hget_lt hob) hm0 hd
      rw [hob] at ho
      simp only [Option.some.injEq] at ho
      subst ho
      refine ⟨v', c'.pr, rfl, flat_rep (hflat v1) (asM_rep hv1 (deref_rep hs' 8 _ _ hvr)), ⟨hrep2.len, hrep2.es, hrep2.pos, hrep.full, hrep2.loc, hrep2.blk, hrep2.cont⟩, fun hl => hs'.apart 0 i hm0 hd hl, W.pr, W.pnew, hs'.plow, W.size, fun b hb hn => W.frame b hb fun ⟨id, hid, _, ha⟩ => ?_, W.blk, W.os, W.tape, W.output⟩
      rcases ha with ha | ⟨j, hj, hl, he⟩
      · exact ha
      · obtain ⟨rfl, rfl⟩ := h0 id j hj
        exact hn hl he
    · cases hfin
  · cases hfin
end
theorem LawM.reads {P : Program} {f : FuncId} {as bs : List AV} {e : Ty} {xs ys : List e.C} {v : AV} (h : ReadsL as bs) (l : LawM P f bs e xs v ys) : LawM P f as e xs v ys :=
  ⟨l.1, fun pr w i vs hp hr hi hv => l.2 pr w i vs hp hr hi (by
    cases hvs : vs.toList with
    | nil => rw [hvs] at hv; simp [VReps] at hv
    | cons v0 vs' =>
      rw [hvs] at hv
      simp only [VReps] at hv ⊢
      exact ⟨hv.1, h _ _ hv.2⟩)⟩
end Go.AM
namespace Go.AM

/-! Structs of the caller's own, behind a pointer: the first arg that is written, or the result. -/
theorem cells_simple : ∀ (t : Ty) (x : t.C), (cellsT t x).all simpleV = true := by
  intro t
  induction t with
  | pair a b iha ihb => intro x; simp only [cellsT, List.all_append, Bool.and_eq_true]; exact ⟨iha _, ihb _⟩
  | _ => intro x; simp [cellsT, simpleV]

/-- A struct alone in its block. -/
def objC (T : Ty) (x : T.C) : Cont := .raw true T.size (.tv T T.dflt) [.tv T x]

theorem tv_cells {T : Ty} (hT : T.isAgg = true) (x : T.C) : (AV.tv T x).cells = cellsT T x := by simp [AV.cells, hT]
theorem tv_shape {T : Ty} (hT : T.isAgg = true) (x : T.C) : (AV.tv T x).isAgg = true ∧ (AV.tv T x).size = T.size := by simp [AV.isAgg, AV.size, hT]

/-- A struct's cells, told as of its type. -/
theorem obj_rep {c c2 : Ctx} (hp : c2.pr = c.pr) (hw : c2.w = c.w) {i : Info} {T : Ty} (hT : T.isAgg = true) {z a : AV} {fl : Bool} {x : T.C} (ha : a.as T = some x) (hr : ObjRep c i ⟨.raw true T.size z [a], fl⟩) :
    ObjRep c2 { i with full := false } ⟨objC T x, false⟩ := by
  refine ⟨hr.len, hr.es, hr.pos, rfl, hr.loc, fun hl => by obtain ⟨n, h1, h2⟩ := hr.blk hl; exact ⟨n, by rw [hw]; exact h1, h2⟩, ?_⟩
  obtain ⟨_, _, hc⟩ := hr.cont
  refine ⟨(tv_shape hT _).1, (tv_shape hT _).2, fun k y hk => ?_⟩
  cases k with
  | zero =>
    simp only [List.getElem?_cons_zero, Option.some.injEq] at hk
    subst hk
    obtain ⟨_, _, vs, v1, v2, v3, v4⟩ := hc 0 a rfl
    refine ⟨(tv_shape hT x).1, (tv_shape hT x).2, vs, v1, fun j v hj => by rw [hw]; exact v2 j v hj, ?_, v4⟩
    rw [tv_cells hT]
    exact simple_reps hp hw (cells_simple T x) (as_ok ha v3).vreps
  | succ k => simp at hk

/-- The caller's struct again, as the callee left it. -/
theorem obj_back {c c2 : Ctx} (hp : c2.pr = c.pr) (hw : c2.w = c.w) {i i0 : Info} {T : Ty} (hT : T.isAgg = true) {z : AV} {fl : Bool} {y : T.C} (hr : ObjRep c i0 ⟨objC T y, false⟩) (hi : i0 = { i with full := false }) (hfl : i.full = fl) (hz : z.isAgg = true ∧ z.size = T.size) :
    ObjRep c2 i ⟨.raw true T.size z [.tv T y], fl⟩ := by
  subst hi
  refine ⟨hr.len, hr.es, hr.pos, hfl, hr.loc, fun hl => by obtain ⟨n, h1, h2⟩ := hr.blk hl; exact ⟨n, by rw [hw]; exact h1, h2⟩, hz.1, hz.2, fun k v hk => ?_⟩
  obtain ⟨_, _, hc⟩ := hr.cont
  obtain ⟨h1, h2, vs, v1, v2, v3, v4⟩ := hc k v hk
  refine ⟨h1, h2, vs, v1, fun j u hj => by rw [hw]; exact v2 j u hj, ?_, v4⟩
  cases k with
  | zero =>
    simp only [List.getElem?_cons_zero, Option.some.injEq] at hk
    subst hk
    rw [tv_cells hT] at v3 ⊢
    exact simple_reps hp hw (cells_simple T y) v3
  | succ k => simp at hk

def LawMo (P : Program) (f : FuncId) (args : List AV) (T : Ty) (x : T.C) (v : AV) (y : T.C) : Prop :=
  Enters P f ∧ ∀ (pr : Nat → Prop) (w : World) (i : Info) (vs : Array Value), (∀ b, pr b → b < w.heap.size) → ObjRep (alone pr w i) i ⟨objC T x, false⟩ → (i.loc = true → i.b < w.heap.size ∧ ¬ pr i.b) →
    VReps (alone pr w i) (.ptr 0 0 0 :: args) vs.toList → Calls P f vs w fun en w' =>
    ∃ v' pr', en = .returned v' ∧ VRep (still0 pr' w') v v' ∧ ObjRep (alone pr' w' i) i ⟨objC T y, false⟩ ∧ (i.loc = true → ¬ pr' i.b) ∧
      (∀ b, pr b → pr' b) ∧ (∀ b, pr' b → pr b ∨ w.heap.size ≤ b) ∧ (∀ b, pr' b → b < w'.heap.size) ∧ w.heap.size ≤ w'.heap.size ∧
      (∀ b, b < w.heap.size → (i.loc = true → i.b ≠ b) → w'.heap[b]? = w.heap[b]?) ∧ (∀ b n, Blk w b n → Blk w' b n) ∧ w'.os = w.os ∧ w'.tape = w.tape ∧ w'.output = w.output

/-- A contract of a call that writes a struct behind a pointer; it tells words, or what is no reference. -/
def byMutO (T : Ty) (m : (ρ : Type) → List AV → T.C → (AV → T.C → Option ρ) → Option ρ) : Con := fun ρ args h K =>
  match args with
  | .ptr id 0 0 :: rest =>
    (match hget h id with
     | some ⟨.raw true es z [a], fl⟩ =>
       bif (es == T.size) && T.isAgg && rest.all noRef then (a.as T).bind fun x => m ρ rest x (fun v y => bif noRef v || flatV v then K v (h.set id (some ⟨.raw true es z [.tv T y], fl⟩)) true else none) else none
     | _ => none)
  | _ => none

theorem con_byMutO {P : Program} {f : FuncId} {T : Ty} {m : (ρ : Type) → List AV → T.C → (AV → T.C → Option ρ) → Option ρ}
    (hm : ∀ (ρ : Type) args x (K : AV → T.C → Option ρ) (o : ρ), m ρ args x K = some o → ∃ v y, K v y = some o ∧ LawMo P f args T x v y) : ConOk P f (byMutO T m) := by
  intro ρ args h K o hb
  unfold byMutO at hb
  split at hb
  · rename_i id rest
    split at hb
    · rename_i es z a fl hob
      cases hcond : ((es == T.size) && T.isAgg && rest.all noRef) with
      | false => rw [hcond] at hb; cases hb
      | true =>
        rw [hcond] at hb
        simp only [cond_true] at hb
        simp only [Bool.and_eq_true, beq_iff_eq] at hcond
        obtain ⟨⟨rfl, hT⟩, hn⟩ := hcond
        obtain ⟨x, ha, hb⟩ := Option.bind_eq_some_iff.1 hb
        obtain ⟨v, y, hk, hent, hlaw⟩ := hm _ _ _ _ _ hb
        cases hfv : (noRef v || flatV v) with
        | false => rw [hfv] at hk; cases hk
        | true =>
          rw [hfv] at hk
          simp only [cond_true] at hk
          have hid : id < h.length := hget_lt hob
          refine ⟨v, _, true, hk, hent, (sta_set fun j hj => touch_ptr hj (List.mem_cons_self ..)), fun c vs hs _ hr => ?_⟩
          have hd := hs.alive hob
          have hr' := hr
          cases hvs : vs.toList with
          | nil => rw [hvs] at hr'; simp [VReps] at hr'
          | cons v0 vs' =>
            rw [hvs] at hr'
            simp only [VReps, VRep, ptrRep] at hr'
            obtain ⟨⟨hany, hv⟩, hrest⟩ := hr'
            obtain ⟨i, hi, hix, hcase⟩ := hv.resolve_left hd
            obtain ⟨o', ho, hrep⟩ := hs.obj id i hid hi hd
            rw [hob] at ho
            simp only [Option.some.injEq] at ho
            subst ho
            have hz := hrep.cont
            have hrep0 := obj_rep (c := c) (c2 := alone c.pr c.w { i with full := false }) rfl rfl hT ha hrep
            have hargs : VReps (alone c.pr c.w { i with full := false }) (.ptr 0 0 0 :: rest) vs.toList := by
              rw [hvs]
              simp only [VReps, VRep, ptrRep]
              exact ⟨⟨hany, .inr ⟨{ i with full := false }, by simp [alone], hix, hcase⟩⟩, noRef_reps (c := c) (c2 := alone c.pr c.w { i with full := false }) rfl rfl hn hrest⟩
            refine (hlaw c.pr c.w { i with full := false } vs hs.plow hrep0 (fun hl => ⟨hs.low id i hi hd hl, hs.apart id i hi hd hl⟩) hargs).mono ?_
            rintro en w' ⟨v', pr', rfl, hvv, hrep2, hap, q1, q2, q3, q4, q5, q6, q7, q8, q9⟩
            have hkeep : ∀ b, c.pr b → w'.heap[b]? = c.w.heap[b]? := fun b hp => q5 b (hs.plow b hp) fun hl e => hs.apart id i hi hd hl (by rw [← e] at hp; exact hp)
            have t2 : Tells c { c with pr := pr', w := w' } := ⟨fun _ _ h => h, fun _ h => h, ⟨q1, hkeep⟩, q6⟩
            have hlen : (h.set id (some ⟨.raw true T.size z [.tv T y], fl⟩)).length = h.length := by simp
            have hS : Sim { c with pr := pr', w := w' } (h.set id (some ⟨.raw true T.size z [.tv T y], fl⟩)) := by
              refine ⟨fun id' i' h1 h2 h3 => ?_, fun id' h1 h2 => ?_, fun id' i' h1 h2 h3 => Nat.lt_of_lt_of_le (hs.low id' i' h1 h2 h3) q4, hs.inj, q3, fun id' i' h1 h2 h3 hp => ?_, hs.own.step rfl (fun _ h => h) (fun _ _ h => h) q4 q2 (fun id' i' h1 h2 h3 => hs.own.off h1 h2 h3), fun id' i' fx e' xs' f h1 h2 h3 h4 => by
                  by_cases he : id' = id
                  · subst he; rw [hget_set_same hid] at h4; cases h4
                  · rw [hlen] at h1
                    rw [hget_set_other he] at h4
                    exact hs.deepStay h1 h2 h3 h4 (fun _ h => h) fun b hb => q5 b (hs.at_low h3 hb) fun hl e => he (hs.at_inj h3 hd hb (.inr ⟨i, hi, hl, e⟩))⟩
              · by_cases he : id' = id
                · subst he
                  have : i' = i := by rw [hi] at h2; simpa using h2.symm
                  subst this
                  exact ⟨_, hget_set_same hid, obj_back (c := alone pr' w' { i' with full := false }) (c2 := { c with pr := pr', w := w' }) rfl rfl hT hrep2 rfl hrep.full ⟨hz.1, hz.2.1⟩⟩
                · rw [hlen] at h1
                  obtain ⟨o', ho', hr''⟩ := hs.obj id' i' h1 h2 h3
                  exact ⟨o', by rw [hget_set_other he]; exact ho', hr''.mono t2 fun hl => q5 _ (hs.low id' i' h2 h3 hl) fun hl' e => he (hs.inj id' id i' i h2 hi h3 hd hl hl' e.symm)⟩
              · have he : id' ≠ id := fun e => hd (e ▸ h2)
                rw [hlen] at h1
                rw [hget_set_other he]; exact hs.gone id' h1 h2
              · by_cases he : id' = id
                · subst he
                  have : i' = i := by rw [hi] at h1; simpa using h1.symm
                  subst this
                  exact hap h3 hp
                · rcases q2 _ hp with hp | hp
                  · exact hs.apart id' i' h1 h2 h3 hp
                  · have := hs.low id' i' h1 h2 h3; omega
            have hvrep : VRep { c with pr := pr', w := w' } v v' := by
              rw [Bool.or_eq_true] at hfv
              rcases hfv with hfv | hfv
              · exact noRef_rep (c := still0 pr' w') (c2 := { c with pr := pr', w := w' }) rfl rfl hfv hvv
              · exact flat_rep hfv hvv
            refine ⟨v', { c with pr := pr', w := w' }, rfl, rfl, ⟨⟨q1, q4, hkeep, q6, fun b hb hn2 => q5 b hb fun hl e => hn2 ⟨id, hid, hd, .inr ⟨i, hi, hl, e⟩⟩, fun b hh => .inr (by obtain ⟨id', h1, h2, h3⟩ := hh; exact ⟨id', by simpa using h1, h2, h3⟩), q2, q7, q8, q9⟩, by simp, fun _ _ h => h, fun _ _ h h' => absurd (h'.symm.trans h) (by simp), fun _ h => h, fun _ h => .inl h⟩, hS, hvrep, fun h => by cases h⟩
    · cases hb
  · cases hb

/-- All rows but the first. -/
def but0 (id : Nat) : Option Nat := bif id == 0 then none else some id
theorem but0_eq {id id' : Nat} (h : but0 id = some id') : id' = id ∧ id ≠ 0 := by
  unfold but0 at h
  cases hb : (id == 0) with
  | true => rw [hb] at h; cases h
  | false => rw [hb] at h; simp only [cond_false, Option.some.injEq] at h; exact ⟨h.symm, by simpa using hb⟩

def heap0 (h : Heap) : Heap := h.map (Option.map (renO but0))
theorem heap0_get (h : Heap) (id : Nat) : hget (heap0 h) id = (hget h id).map (renO but0) := by
  simp only [hget, heap0, List.getD, List.getElem?_map]
  cases h[id]? <;> rfl

/-- A run's result by value, and the struct that came in as it is then. -/
def finMo (t T : Ty) (r : AV × Heap) : Option (t.C × T.C) :=
  match hget r.2 0 with
  | some ⟨.raw true es _ [a], _⟩ => bif (es == T.size) && T.isAgg then (a.as T).bind fun y => (asM t (deref (heap0 r.2) 8 (ren but0 8 r.1))).map fun v => (v, y) else none
  | _ => none

section
variable {P : Program} {E : Env} {run : Run}
theorem lawMo (hT : TOk P E) (hC : CallsOk P E run) (hmix : P.follows .mixedOrders = true) {f : FuncId} {fn : Func} (hf : P.funcs[f]? = some fn) (hname : (fn.name == "runtime.NumGoroutine") = false) (hb : fn.body.isNone = false) (hpin : 0 < pinsOf E f) {k : Nat} {args : List AV} {t T : Ty} {x : T.C} {o : t.C × T.C}
    (hk : abody E run k f fn (.ptr 0 0 0 :: args) [some ⟨objC T x, false⟩] (finMo t T) = some o) : LawMo P f args T x (tvM t o.1) o.2 := by
  obtain ⟨r, hfin, hw⟩ := told_body (lv := true) hT hC (regOk hT hmix hC) hf (fun h => by cases h) hk
  obtain ⟨rv, rh⟩ := r
  refine ⟨⟨fn, hf, hname, hb⟩, fun pr w i vs hp hrep hi hr => ?_⟩
  have h0 : ∀ id j, (alone pr w i).m id = some j → id = 0 ∧ j = i := fun id j hj => by
    simp only [alone] at hj
    split at hj
    · exact ⟨by assumption, by simpa using hj.symm⟩
    · cases hj
  have hs : Sim (alone pr w i) [some ⟨objC T x, false⟩] := by
    refine ⟨fun id j hid hj _ => ?_, fun id _ hd => hd.elim, fun id j hj _ hl => ?_, fun id id' j j' hj hj' _ _ _ _ _ => ?_, hp, fun id j hj _ hl => ?_, noOwn (fun _ _ h => h), fun id j fx e' xs' f hid hj _ hg => by obtain ⟨rfl, rfl⟩ := h0 id j hj; cases hg⟩
    · obtain ⟨rfl, rfl⟩ := h0 id j hj; exact ⟨_, rfl, hrep⟩
    · obtain ⟨rfl, rfl⟩ := h0 id j hj; exact (hi hl).1
    · rw [(h0 id j hj).1, (h0 id' j' hj').1]
    · obtain ⟨rfl, rfl⟩ := h0 id j hj; exact (hi hl).2
  have hfre : Fre (alone pr w i) [some ⟨objC T x, false⟩] := by
    intro id hid
    have : id ≠ 0 := by simp at hid; omega
    exact ⟨by simp [alone, this], fun h => h⟩
  refine (hw (alone pr w i) vs hs hfre hr).mono ?_
  rintro en w' ⟨v', c', rfl, rfl, hsi, hs', hf', hvr⟩
  have W := hsi.1
  have hm0 : c'.m 0 = some i := hsi.2.2 0 i hpin (by simp [alone])
  unfold finMo at hfin
  split at hfin
  · rename_i es z a fl hob
    cases hcond : ((es == T.size) && T.isAgg) with
    | false => rw [hcond] at hfin; cases hfin
    | true =>
      rw [hcond] at hfin
      simp only [cond_true] at hfin
      simp only [Bool.and_eq_true, beq_iff_eq] at hcond
      obtain ⟨rfl, hTa⟩ := hcond
      obtain ⟨y, hy, hfin⟩ := Option.bind_eq_some_iff.1 hfin
      obtain ⟨v1, hv1, hx⟩ := Option.map_eq_some_iff.1 hfin
      subst hx
      have hd := hs'.alive hob
      obtain ⟨o', ho, hrep2⟩ := hs'.obj 0 i (hget_lt hob) hm0 hd
      rw [hob] at ho
      simp only [Option.some.injEq] at ho
      subst ho
      have hif : ({ i with full := false } : Info) = i := by
        have := hrep.full
        cases i
        simp only at this
        subst this
        rfl
      have hrep3 := obj_rep (c := c') (c2 := alone c'.pr c'.w i) rfl rfl hTa hy hrep2
      rw [hif] at hrep3
      -- the result stays, but for what came in
      let c2 : Ctx := { c' with m := fun id => if id = 0 then none else c'.m id, own := fun id b => id ≠ 0 ∧ c'.own id b }
      have hm2 : ∀ id j, c2.m id = some j → id ≠ 0 ∧ c'.m id = some j := fun id j hj => by
        simp only [c2] at hj
        split at hj
        · cases hj
        · exact ⟨by assumption, hj⟩
      have hat2 : ∀ {id b}, c2.at id b → id ≠ 0 ∧ c'.at id b := fun {id b} ha => by
        rcases ha with ha | ⟨j, hj, hl, he⟩
        · exact ⟨ha.1, .inl ha.2⟩
        · exact ⟨(hm2 id j hj).1, .inr ⟨j, (hm2 id j hj).2, hl, he⟩⟩
      have hren : Renames c' c2 but0 := ⟨fun id id' h => by obtain ⟨rfl, h1⟩ := but0_eq h; simp [c2, h1], fun id id' h hd => by obtain ⟨rfl, _⟩ := but0_eq h; exact hd, rfl, rfl⟩
      have hs2 : Sim c2 (heap0 rh) := by
        refine ⟨fun id j h1 h2 h3 => ?_, fun id h1 h2 => ?_, fun id j h1 h2 h3 => hs'.low id j (hm2 id j h1).2 h2 h3, fun a b i' j' h1 h2 h3 h4 h5 h6 h7 => hs'.inj a b i' j' (hm2 a i' h1).2 (hm2 b j' h2).2 h3 h4 h5 h6 h7, hs'.plow, fun id j h1 h2 h3 => hs'.apart id j (hm2 id j h1).2 h2 h3,
          ⟨fun id b h1 h2 => hs'.own.low id b h1 h2.2, fun id id' b h1 h2 h3 h4 => hs'.own.inj id id' b h1 h2 h3.2 h4.2, fun id id' j h1 h2 h3 h4 h5 => hs'.own.row id id' j h1 h2 (hm2 id' j h3).2 h4 h5.2, fun id b h1 h2 => hs'.own.apart id b h1 h2.2, fun id b h1 => by
            have := hs'.own.told id b h1.2
            simp only [c2, if_neg h1.1]; exact this⟩, fun id j fx e xs f h1 h2 h3 h4 => ?_⟩
        rotate_right
        · rw [heap0_get, Option.map_eq_some_iff] at h4
          obtain ⟨⟨ct, fl⟩, ho, hg⟩ := h4
          cases ct with
          | deep fx' e' xs' =>
            simp only [renO, renC, Obj.mk.injEq, Cont.deep.injEq] at hg
            obtain ⟨⟨rfl, rfl, he⟩, rfl⟩ := hg
            cases he
            exact (hs'.deep id j fx' e' xs' fl (by simpa [heap0] using h1) (hm2 id j h2).2 h3 ho).mono (fun b hb => ⟨(hm2 id j h2).1, hb⟩) (fun _ _ => rfl) (fun _ => rfl)
          | typed e' xs' => simp [renO, renC] at hg
          | raw a' es' d' xs' => simp [renO, renC] at hg
        · obtain ⟨o, ho, rep⟩ := hs'.obj id j (by simpa [heap0] using h1) (hm2 id j h2).2 h3
          refine ⟨renO but0 o, by rw [heap0_get, ho]; rfl, ?_⟩
          obtain ⟨L, hL, hlies⟩ := contRep_iff.1 rep.cont
          obtain ⟨g1, g2, g3⟩ := ren_cont hren hL
          exact ⟨by rw [rep.len]; exact g2.symm, by rw [rep.es]; exact g3.symm, rep.pos, rep.full, rep.loc, rep.blk, contRep_iff.2 ⟨L, g1, hlies⟩⟩
        · rw [heap0_get, hs'.gone id (by simpa [heap0] using h1) h2]; rfl
      have hv2 := asM_rep hv1 (deref_rep hs2 8 _ _ (ren_rep hren 8 _ _ hvr))
      have hnot : i.loc = true → ¬ c2.still.pr i.b := by
        rintro hl (hp | ⟨id, q2, ha⟩)
        · exact hs'.apart 0 i hm0 hd hl hp
        · exact (hat2 ha).1 (hs'.at_inj q2 hd (hat2 ha).2 (.inr ⟨i, hm0, hl, rfl⟩))
      have hnew : ∀ b, c2.still.pr b → pr b ∨ w.heap.size ≤ b := by
        rintro b (hp | ⟨id, q2, ha⟩)
        · exact W.pnew b hp
        · obtain ⟨n1, n2⟩ := hat2 ha
          rcases W.own b ⟨id, Ctx.at_lt hs' hf' n2, q2, n2⟩ with h | ⟨id0, g0, g1, g2⟩
          · exact .inr h
          · rcases g2 with g2 | ⟨j0, g2, g3, g4⟩
            · exact g2.elim
            · obtain ⟨rfl, rfl⟩ := h0 id0 j0 g2
              exact absurd (hs'.at_inj q2 hd n2 (.inr ⟨j0, hm0, g3, g4⟩)) n1
      have hlow : ∀ b, c2.still.pr b → b < c'.w.heap.size := by
        rintro b (hp | ⟨id, q2, ha⟩)
        · exact hs'.plow b hp
        · exact hs'.at_low q2 (hat2 ha).2
      have tl : Tells (alone c'.pr c'.w i) (alone c2.still.pr c'.w i) := ⟨fun _ _ h => h, fun _ h => h, ⟨fun _ h => .inl h, fun _ _ => rfl⟩, fun _ _ h => h⟩
      refine ⟨v', c2.still.pr, rfl, hv2, hrep3.mono tl fun _ => rfl, hnot, fun b hb => .inl (W.pr b hb), hnew, hlow, W.size, fun b hb hn => W.frame b hb fun ⟨id, hid, _, ha⟩ => ?_, W.blk, W.os, W.tape, W.output⟩
      rcases ha with ha | ⟨j, hj, hl, he⟩
      · exact ha
      · obtain ⟨rfl, rfl⟩ := h0 id j hj
        exact hn hl he
  · cases hfin
end
theorem LawMo.reads {P : Program} {f : FuncId} {as bs : List AV} {T : Ty} {x y : T.C} {v : AV} (h : ReadsL as bs) (l : LawMo P f bs T x v y) : LawMo P f as T x v y :=
  ⟨l.1, fun pr w i vs hp hr hi hv => l.2 pr w i vs hp hr hi (by
    cases hvs : vs.toList with
    | nil => rw [hvs] at hv; simp [VReps] at hv
    | cons v0 vs' =>
      rw [hvs] at hv
      simp only [VReps] at hv ⊢
      exact ⟨hv.1, h _ _ hv.2⟩)⟩

/-- A call whose result is a pointer to a new struct. -/
def LawFo (P : Program) (f : FuncId) (args : List AV) (T : Ty) (x : T.C) : Prop :=
  Enters P f ∧ ∀ (pr : Nat → Prop) (w : World) (vs : Array Value), (∀ b, pr b → b < w.heap.size) → VReps (still0 pr w) args vs.toList → Calls P f vs w fun en w' =>
    ∃ v' pr' i, en = .returned v' ∧ VRep (alone pr' w' i) (.ptr 0 0 0) v' ∧ ObjRep (alone pr' w' i) i ⟨objC T x, false⟩ ∧ (i.loc = true → w.heap.size ≤ i.b ∧ i.b < w'.heap.size ∧ ¬ pr' i.b) ∧
      (∀ b, pr b → pr' b) ∧ (∀ b, pr' b → pr b ∨ w.heap.size ≤ b) ∧ (∀ b, pr' b → b < w'.heap.size) ∧ w.heap.size ≤ w'.heap.size ∧
      (∀ b, b < w.heap.size → w'.heap[b]? = w.heap[b]?) ∧ w'.os = w.os ∧ w'.tape = w.tape ∧ w'.output = w.output

def byFreshO (T : Ty) (m : (ρ : Type) → List AV → (T.C → Option ρ) → Option ρ) : Con := fun ρ args h K =>
  bif args.all noRef && T.isAgg then m ρ args fun x => K (.ptr h.length 0 0) (h ++ [some ⟨objC T x, false⟩]) false else none

theorem con_byFreshO {P : Program} {f : FuncId} {T : Ty} {m : (ρ : Type) → List AV → (T.C → Option ρ) → Option ρ} (hm : ∀ (ρ : Type) args (K : T.C → Option ρ) (x : ρ), m ρ args K = some x → ∃ y, K y = some x ∧ LawFo P f args T y) : ConOk P f (byFreshO T m) := by
  intro ρ args h K o hb
  unfold byFreshO at hb
  cases hc : (args.all noRef && T.isAgg) with
  | false => rw [hc] at hb; cases hb
  | true =>
    rw [hc] at hb
    simp only [cond_true] at hb
    rw [Bool.and_eq_true] at hc
    obtain ⟨x, hv1, hent, hlaw⟩ := hm _ _ _ _ hb
    refine ⟨.ptr h.length 0 0, h ++ [some ⟨objC T x, false⟩], false, hv1, hent, (Pre.snoc h _).sta _, fun c vs hs hf hr => ?_⟩
    refine (hlaw c.pr c.w vs hs.plow (noRef_reps (c := c) (c2 := still0 c.pr c.w) rfl rfl hc.1 hr)).mono ?_
    rintro en w' ⟨v', pr', i, rfl, hv, hrr, hi, h1, h2, h3, h4, h5, h6, h7, h8⟩
    obtain ⟨k1, k2, k3⟩ := byVal_state hs h1 h2 h3 h4 h5 h6 h7 h8
    have hfr := hf h.length (Nat.le_refl _) (by simp)
    have hifull : ({ i with full := false } : Info) = i := by
      have := hrr.full
      cases i
      simp only at this
      subst this
      rfl
    have hr2 : ObjRep { c with pr := pr', w := w' } { i with full := false } ⟨objC T x, false⟩ := obj_rep (c := alone pr' w' i) (c2 := { c with pr := pr', w := w' }) rfl rfl hc.2 (by simp [AV.as, Ty.cast]) hrr
    rw [hifull] at hr2
    obtain ⟨c2, p1, p2, p3, p4, g1, g2, g3, g4⟩ := own_add k1 k2 k3 hfr hr2 rfl fun hl => ⟨(hi hl).1, (hi hl).2.1, (hi hl).2.2, fun id hd ha => by
      have := hs.at_low (id := id) (b := i.b) hd ha
      have := (hi hl).1
      omega⟩
    refine ⟨v', c2, rfl, p2, g1, g2, ?_, fun _ => g3⟩
    simp only [VRep, ptrRep] at hv ⊢
    obtain ⟨ha, hb⟩ := hv
    refine ⟨ha, .inr ⟨i, by rw [p1]; simp [upd], ?_⟩⟩
    rcases hb with hb | ⟨j, hj, hb⟩
    · exact hb.elim
    · simp only [alone, if_true, Option.some.injEq] at hj
      subst hj
      exact hb

def finFo (T : Ty) (r : AV × Heap) : Option T.C :=
  match r.1 with
  | .ptr id 0 0 => (match hget r.2 id with | some ⟨.raw true es _ [a], _⟩ => bif (es == T.size) && T.isAgg then a.as T else none | _ => none)
  | _ => none

section
variable {P : Program} {E : Env} {run : Run}
theorem lawFo (hT : TOk P E) (hC : CallsOk P E run) (hmix : P.follows .mixedOrders = true) {f : FuncId} {fn : Func} (hf : P.funcs[f]? = some fn) (hname : (fn.name == "runtime.NumGoroutine") = false) (hb : fn.body.isNone = false) {k : Nat} {args : List AV} {T : Ty} {x : T.C}
    (hk : abody E run k f fn args [] (finFo T) = some x) : LawFo P f args T x := by
  obtain ⟨r, hfin, hw⟩ := told_body (lv := true) hT hC (regOk hT hmix hC) hf (fun h => by cases h) hk
  obtain ⟨rv, rh⟩ := r
  refine ⟨⟨fn, hf, hname, hb⟩, fun pr w vs hp hr => ?_⟩
  have hs : Sim (still0 pr w) [] := sim_still0 hp
  refine (hw (still0 pr w) vs hs (fun id _ => ⟨rfl, fun h => h⟩) hr).mono ?_
  rintro en w' ⟨v', c', rfl, rfl, hsi, hs', hf', hvr⟩
  have W := hsi.1
  have hframe : ∀ b, b < w.heap.size → c'.w.heap[b]? = w.heap[b]? := fun b hb => W.frame b hb Ctx.has0
  unfold finFo at hfin
  split at hfin
  · rename_i id heq
    replace heq : rv = .ptr id 0 0 := heq
    subst heq
    split at hfin
    · rename_i es z a fl hob
      cases hcond : ((es == T.size) && T.isAgg) with
      | false => rw [hcond] at hfin; cases hfin
      | true =>
        rw [hcond] at hfin
        simp only [cond_true] at hfin
        simp only [Bool.and_eq_true, beq_iff_eq] at hcond
        obtain ⟨rfl, hTa⟩ := hcond
        have hd := hs'.alive hob
        have hvr' := hvr
        simp only [VRep, ptrRep] at hvr'
        obtain ⟨hany, hv⟩ := hvr'
        obtain ⟨i, hi, hix, hcase⟩ := hv.resolve_left hd
        have hid : id < rh.length := hget_lt hob
        obtain ⟨ob, hob2, hrep⟩ := hs'.obj id i hid hi hd
        rw [hob] at hob2
        simp only [Option.some.injEq] at hob2
        subst hob2
        refine ⟨v', c'.pr, { i with full := false }, rfl, ?_, obj_rep (c := c') (c2 := alone c'.pr c'.w { i with full := false }) rfl rfl hTa hfin hrep, fun hl => ⟨?_, hs'.low id i hi hd hl, hs'.apart id i hi hd hl⟩, W.pr, W.pnew, hs'.plow, W.size, hframe, W.os, W.tape, W.output⟩
        · simp only [VRep, ptrRep]
          exact ⟨hany, .inr ⟨{ i with full := false }, by simp [alone], hix, hcase⟩⟩
        · exact (W.own i.b ⟨id, hid, hd, .inr ⟨i, hi, hl, rfl⟩⟩).elim (fun h => h) fun h => absurd h Ctx.has0
    · cases hfin
  · cases hfin
end
theorem LawFo.reads {P : Program} {f : FuncId} {as bs : List AV} {T : Ty} {x : T.C} (h : ReadsL as bs) (l : LawFo P f bs T x) : LawFo P f as T x :=
  ⟨l.1, fun pr w vs hp hr => l.2 pr w vs hp (h _ _ hr)⟩
end Go.AM
namespace Go.AM

/-! Two of the caller's own: a struct behind a pointer, and a row. -/
def two (pr : Nat → Prop) (w : World) (i j : Info) : Ctx := ⟨fun id => if id = 0 then some i else if id = 1 then some j else none, fun _ => False, pr, w, fun _ _ => False⟩

def LawMr (P : Program) (f : FuncId) (args : List AV) (T : Ty) (x : T.C) (e : Ty) (xs : List e.C) (v : AV) (y : T.C) (ys : List e.C) : Prop :=
  Enters P f ∧ ∀ (pr : Nat → Prop) (w : World) (i j : Info) (vs : Array Value), (∀ b, pr b → b < w.heap.size) → ObjRep (two pr w i j) i ⟨objC T x, false⟩ → ObjRep (two pr w i j) j ⟨.typed e xs, false⟩ →
    (i.loc = true → i.b < w.heap.size ∧ ¬ pr i.b) → (j.loc = true → j.b < w.heap.size ∧ ¬ pr j.b) → (i.loc = true → j.loc = true → i.b ≠ j.b) →
    VReps (two pr w i j) (.ptr 0 0 0 :: .sl 1 :: args) vs.toList → Calls P f vs w fun en w' =>
    ∃ v' pr', en = .returned v' ∧ VRep (still0 pr' w') v v' ∧ ObjRep (two pr' w' i j) i ⟨objC T y, false⟩ ∧ ObjRep (two pr' w' i j) j ⟨.typed e ys, false⟩ ∧ (i.loc = true → ¬ pr' i.b) ∧ (j.loc = true → ¬ pr' j.b) ∧
      (∀ b, pr b → pr' b) ∧ (∀ b, pr' b → pr b ∨ w.heap.size ≤ b) ∧ (∀ b, pr' b → b < w'.heap.size) ∧ w.heap.size ≤ w'.heap.size ∧
      (∀ b, b < w.heap.size → (i.loc = true → i.b ≠ b) → (j.loc = true → j.b ≠ b) → w'.heap[b]? = w.heap[b]?) ∧ (∀ b n, Blk w b n → Blk w' b n) ∧ w'.os = w.os ∧ w'.tape = w.tape ∧ w'.output = w.output

/-- A contract of a call that is given a struct behind a pointer and a row, both of the caller's own; it tells words. -/
def byMutR (T e : Ty) (m : (ρ : Type) → List AV → T.C → List e.C → (AV → T.C → List e.C → Option ρ) → Option ρ) : Con := fun ρ args h K =>
  match args with
  | .ptr id 0 0 :: .sl jd :: rest =>
    (match hget h id, hget h jd with
     | some ⟨.raw true es z [a], fl⟩, some ⟨.typed u xs, fj⟩ =>
       if hu : u = e then bif (es == T.size) && T.isAgg && rest.all noRef then (a.as T).bind fun x => m ρ rest x (Ty.castR hu xs) (fun v y ys => bif flatV v then K v ((h.set id (some ⟨.raw true es z [.tv T y], fl⟩)).set jd (some ⟨.typed e ys, fj⟩)) true else none) else none else none
     | _, _ => none)
  | _ => none

theorem con_byMutR {P : Program} {f : FuncId} {T e : Ty} {m : (ρ : Type) → List AV → T.C → List e.C → (AV → T.C → List e.C → Option ρ) → Option ρ}
    (hm : ∀ (ρ : Type) args x xs (K : AV → T.C → List e.C → Option ρ) (o : ρ), m ρ args x xs K = some o → ∃ v y ys, K v y ys = some o ∧ LawMr P f args T x e xs v y ys) : ConOk P f (byMutR T e m) := by
  intro ρ args h K o hb
  unfold byMutR at hb
  split at hb
  · rename_i id jd rest
    split at hb
    · rename_i es z a fl u xs fj hob hoj
      split at hb
      · rename_i hu
        subst hu
        cases hcond : ((es == T.size) && T.isAgg && rest.all noRef) with
        | false => rw [hcond] at hb; cases hb
        | true =>
          rw [hcond] at hb
          simp only [cond_true] at hb
          simp only [Bool.and_eq_true, beq_iff_eq] at hcond
          obtain ⟨⟨rfl, hT⟩, hn⟩ := hcond
          obtain ⟨x, ha, hb⟩ := Option.bind_eq_some_iff.1 hb
          obtain ⟨v, y, ys, hk, hent, hlaw⟩ := hm _ _ _ _ _ _ hb
          replace hlaw : ∀ (pr : Nat → Prop) (w : World) (i j : Info) (vs : Array Value), (∀ b, pr b → b < w.heap.size) → ObjRep (two pr w i j) i ⟨objC T x, false⟩ → ObjRep (two pr w i j) j ⟨.typed u xs, false⟩ → _ := hlaw
          cases hfv : flatV v with
          | false => rw [hfv] at hk; cases hk
          | true =>
            rw [hfv] at hk
            simp only [cond_true] at hk
            have hid : id < h.length := hget_lt hob
            have hjd : jd < h.length := hget_lt hoj
            have hne : jd ≠ id := by
              intro he
              rw [he] at hoj
              rw [hob] at hoj
              cases hoj
            refine ⟨v, _, true, hk, hent, ⟨by simp, fun h => (by cases h), fun j _ hj => by rw [hget_set_ne (touch_sl hj (by simp)), hget_set_ne (touch_ptr hj (List.mem_cons_self ..))]⟩, fun c vs hs _ hr => ?_⟩
            have hd := hs.alive hob
            have hdj := hs.alive hoj
            have hr' := hr
            cases hvs : vs.toList with
            | nil => rw [hvs] at hr'; simp [VReps] at hr'
            | cons v0 vs' =>
              rw [hvs] at hr'
              cases vs' with
              | nil => simp [VReps] at hr'
              | cons v1 vs'' =>
              simp only [VReps, VRep, ptrRep, slRep] at hr'
              obtain ⟨⟨hany, hv⟩, ⟨hany1, hv1⟩, hrest⟩ := hr'
              obtain ⟨i, hi, hix, hcase⟩ := hv.resolve_left hd
              obtain ⟨j, hj, hjcase⟩ := hv1.resolve_left hdj
              obtain ⟨o', ho, hrep⟩ := hs.obj id i hid hi hd
              rw [hob] at ho
              simp only [Option.some.injEq] at ho
              subst ho
              obtain ⟨o2, ho2, hrepj⟩ := hs.obj jd j hjd hj hdj
              rw [hoj] at ho2
              simp only [Option.some.injEq] at ho2
              subst ho2
              have hz := hrep.cont
              have hrep0 := obj_rep (c := c) (c2 := two c.pr c.w { i with full := false } { j with full := false }) rfl rfl hT ha hrep
              have hrepj0 : ObjRep (two c.pr c.w { i with full := false } { j with full := false }) { j with full := false } ⟨.typed u xs, false⟩ := ⟨hrepj.len, hrepj.es, hrepj.pos, rfl, hrepj.loc, hrepj.blk, hrepj.cont⟩
              have hargs : VReps (two c.pr c.w { i with full := false } { j with full := false }) (.ptr 0 0 0 :: .sl 1 :: rest) vs.toList := by
                rw [hvs]
                simp only [VReps, VRep, ptrRep, slRep]
                refine ⟨⟨hany, .inr ⟨{ i with full := false }, by simp [two], hix, hcase⟩⟩, ⟨hany1, .inr ⟨{ j with full := false }, by simp [two], ?_⟩⟩, noRef_reps (c := c) (c2 := two c.pr c.w { i with full := false } { j with full := false }) rfl rfl hn hrest⟩
                rcases hjcase with ⟨a1, cap, n, a2, a3, a4, a5, _⟩ | ⟨a1, a2, a3⟩
                · exact .inl ⟨a1, cap, n, a2, a3, a4, a5, fun h => by cases h⟩
                · exact .inr ⟨a1, a2, a3⟩
              refine (hlaw c.pr c.w { i with full := false } { j with full := false } vs hs.plow hrep0 hrepj0 (fun hl => ⟨hs.low id i hi hd hl, hs.apart id i hi hd hl⟩) (fun hl => ⟨hs.low jd j hj hdj hl, hs.apart jd j hj hdj hl⟩)
                (fun h1 h2 he => hne (hs.inj id jd i j hi hj hd hdj h1 h2 he).symm) hargs).mono ?_
              rintro en w' ⟨v', pr', rfl, hvv, hrep2, hrepj2, hap, hapj, q1, q2, q3, q4, q5, q6, q7, q8, q9⟩
              have hkeep : ∀ b, c.pr b → w'.heap[b]? = c.w.heap[b]? := fun b hp => q5 b (hs.plow b hp) (fun hl e => hs.apart id i hi hd hl (by rw [← e] at hp; exact hp)) (fun hl e => hs.apart jd j hj hdj hl (by rw [← e] at hp; exact hp))
              have t2 : Tells c { c with pr := pr', w := w' } := ⟨fun _ _ h => h, fun _ h => h, ⟨q1, hkeep⟩, q6⟩
              have hlen : ((h.set id (some ⟨.raw true T.size z [.tv T y], fl⟩)).set jd (some ⟨.typed u ys, fj⟩)).length = h.length := by simp
              have hgj : hget ((h.set id (some ⟨.raw true T.size z [.tv T y], fl⟩)).set jd (some ⟨.typed u ys, fj⟩)) jd = some ⟨.typed u ys, fj⟩ := hget_set_same (by simpa using hjd)
              have hgi : hget ((h.set id (some ⟨.raw true T.size z [.tv T y], fl⟩)).set jd (some ⟨.typed u ys, fj⟩)) id = some ⟨.raw true T.size z [.tv T y], fl⟩ := by rw [hget_set_other (Ne.symm hne)]; exact hget_set_same hid
              have hgo : ∀ id', id' ≠ id → id' ≠ jd → hget ((h.set id (some ⟨.raw true T.size z [.tv T y], fl⟩)).set jd (some ⟨.typed u ys, fj⟩)) id' = hget h id' := fun id' h1 h2 => by rw [hget_set_other h2, hget_set_other h1]
              have hS : Sim { c with pr := pr', w := w' } ((h.set id (some ⟨.raw true T.size z [.tv T y], fl⟩)).set jd (some ⟨.typed u ys, fj⟩)) := by
                refine ⟨fun id' i' h1 h2 h3 => ?_, fun id' h1 h2 => ?_, fun id' i' h1 h2 h3 => Nat.lt_of_lt_of_le (hs.low id' i' h1 h2 h3) q4, hs.inj, q3, fun id' i' h1 h2 h3 hp => ?_, hs.own.step rfl (fun _ h => h) (fun _ _ h => h) q4 q2 (fun id' i' h1 h2 h3 => hs.own.off h1 h2 h3), fun id' i' fx e' xs' f h1 h2 h3 h4 => by
                  by_cases he : id' = id
                  · subst he; rw [hgi] at h4; cases h4
                  · by_cases hej : id' = jd
                    · subst hej; rw [hgj] at h4; cases h4
                    · rw [hlen] at h1
                      rw [hgo id' he hej] at h4
                      exact hs.deepStay h1 h2 h3 h4 (fun _ h => h) fun b hb => q5 b (hs.at_low h3 hb) (fun hl e => he (hs.at_inj h3 hd hb (.inr ⟨i, hi, hl, e⟩))) (fun hl e => hej (hs.at_inj h3 hdj hb (.inr ⟨j, hj, hl, e⟩)))⟩
                · by_cases he : id' = id
                  · subst he
                    have : i' = i := by rw [hi] at h2; simpa using h2.symm
                    subst this
                    exact ⟨_, hgi, obj_back (c := two pr' w' { i' with full := false } { j with full := false }) (c2 := { c with pr := pr', w := w' }) rfl rfl hT hrep2 rfl hrep.full ⟨hz.1, hz.2.1⟩⟩
                  · by_cases hej : id' = jd
                    · subst hej
                      have : i' = j := by rw [hj] at h2; simpa using h2.symm
                      subst this
                      exact ⟨_, hgj, ⟨hrepj2.len, hrepj2.es, hrepj2.pos, hrepj.full, hrepj2.loc, hrepj2.blk, hrepj2.cont⟩⟩
                    · rw [hlen] at h1
                      obtain ⟨o', ho', hr''⟩ := hs.obj id' i' h1 h2 h3
                      exact ⟨o', by rw [hgo id' he hej]; exact ho', hr''.mono t2 fun hl => q5 _ (hs.low id' i' h2 h3 hl) (fun hl' e => he (hs.inj id' id i' i h2 hi h3 hd hl hl' e.symm)) (fun hl' e => hej (hs.inj id' jd i' j h2 hj h3 hdj hl hl' e.symm))⟩
                · have he : id' ≠ id := fun e => hd (e ▸ h2)
                  have hej : id' ≠ jd := fun e => hdj (e ▸ h2)
                  rw [hlen] at h1
                  rw [hgo id' he hej]; exact hs.gone id' h1 h2
                · by_cases he : id' = id
                  · subst he
                    have : i' = i := by rw [hi] at h1; simpa using h1.symm
                    subst this
                    exact hap h3 hp
                  · by_cases hej : id' = jd
                    · subst hej
                      have : i' = j := by rw [hj] at h1; simpa using h1.symm
                      subst this
                      exact hapj h3 hp
                    · rcases q2 _ hp with hp | hp
                      · exact hs.apart id' i' h1 h2 h3 hp
                      · have := hs.low id' i' h1 h2 h3; omega
              refine ⟨v', { c with pr := pr', w := w' }, rfl, rfl, ⟨⟨q1, q4, hkeep, q6, fun b hb hn2 => q5 b hb (fun hl e => hn2 ⟨id, hid, hd, .inr ⟨i, hi, hl, e⟩⟩) (fun hl e => hn2 ⟨jd, hjd, hdj, .inr ⟨j, hj, hl, e⟩⟩), fun b hh => .inr (by obtain ⟨id', h1, h2, h3⟩ := hh; exact ⟨id', by simpa using h1, h2, h3⟩), q2, q7, q8, q9⟩, by simp, fun _ _ h => h, fun _ _ h h' => absurd (h'.symm.trans h) (by simp), fun _ h => h, fun _ h => .inl h⟩, hS, flat_rep hfv hvv, fun h => by cases h⟩
      · cases hb
    · cases hb
  · cases hb

/-- A run's word, the struct and the row that came in as they are then. -/
def finMr (t T e : Ty) (r : AV × Heap) : Option (t.C × T.C × List e.C) :=
  match hget r.2 0, hget r.2 1 with
  | some ⟨.raw true es _ [a], _⟩, some ⟨.typed u ys, _⟩ => if hu : u = e then bif (es == T.size) && T.isAgg then (a.as T).bind fun y => (asM t (deref r.2 8 r.1)).map fun v => (v, y, Ty.castR hu ys) else none else none
  | _, _ => none

section
variable {P : Program} {E : Env} {run : Run}
theorem lawMr (hT : TOk P E) (hC : CallsOk P E run) (hmix : P.follows .mixedOrders = true) {f : FuncId} {fn : Func} (hf : P.funcs[f]? = some fn) (hname : (fn.name == "runtime.NumGoroutine") = false) (hb : fn.body.isNone = false) (hpin : 1 < pinsOf E f) {k : Nat} {args : List AV} {t T e : Ty} (hflat : ∀ x : t.C, flatV (tvM t x) = true) {x : T.C} {xs : List e.C} {o : t.C × T.C × List e.C}
    (hk : abody E run k f fn (.ptr 0 0 0 :: .sl 1 :: args) [some ⟨objC T x, false⟩, some ⟨.typed e xs, false⟩] (finMr t T e) = some o) : LawMr P f args T x e xs (tvM t o.1) o.2.1 o.2.2 := by
  obtain ⟨r, hfin, hw⟩ := told_body (lv := true) hT hC (regOk hT hmix hC) hf (fun h => by cases h) hk
  obtain ⟨rv, rh⟩ := r
  refine ⟨⟨fn, hf, hname, hb⟩, fun pr w i j vs hp hrep hrepj hi hj hij hr => ?_⟩
  have h0 : ∀ id q, (two pr w i j).m id = some q → (id = 0 ∧ q = i) ∨ (id = 1 ∧ q = j) := fun id q hq => by
    simp only [two] at hq
    split at hq
    · exact .inl ⟨by assumption, by simpa using hq.symm⟩
    · split at hq
      · exact .inr ⟨by assumption, by simpa using hq.symm⟩
      · cases hq
  have hs : Sim (two pr w i j) [some ⟨objC T x, false⟩, some ⟨.typed e xs, false⟩] := by
    refine ⟨fun id q hid hq _ => ?_, fun id _ hd => hd.elim, fun id q hq _ hl => ?_, fun id id' q q' hq hq' _ _ hl hl' he => ?_, hp, fun id q hq _ hl => ?_, noOwn (fun _ _ h => h), fun id q fx e' xs' f hid hq _ hg => by rcases h0 id q hq with ⟨rfl, rfl⟩ | ⟨rfl, rfl⟩ <;> cases hg⟩
    · rcases h0 id q hq with ⟨rfl, rfl⟩ | ⟨rfl, rfl⟩
      · exact ⟨_, rfl, hrep⟩
      · exact ⟨_, rfl, hrepj⟩
    · rcases h0 id q hq with ⟨rfl, rfl⟩ | ⟨rfl, rfl⟩
      · exact (hi hl).1
      · exact (hj hl).1
    · rcases h0 id q hq with ⟨rfl, rfl⟩ | ⟨rfl, rfl⟩ <;> rcases h0 id' q' hq' with ⟨rfl, rfl⟩ | ⟨rfl, rfl⟩
      · rfl
      · exact absurd he (hij hl hl')
      · exact absurd he.symm (hij hl' hl)
      · rfl
    · rcases h0 id q hq with ⟨rfl, rfl⟩ | ⟨rfl, rfl⟩
      · exact (hi hl).2
      · exact (hj hl).2
  have hfre : Fre (two pr w i j) [some ⟨objC T x, false⟩, some ⟨.typed e xs, false⟩] := by
    intro id hid
    have h1 : id ≠ 0 := by simp at hid; omega
    have h2 : id ≠ 1 := by simp at hid; omega
    exact ⟨by simp [two, h1, h2], fun h => h⟩
  refine (hw (two pr w i j) vs hs hfre hr).mono ?_
  rintro en w' ⟨v', c', rfl, rfl, hsi, hs', hf', hvr⟩
  have W := hsi.1
  have hm0 : c'.m 0 = some i := hsi.2.2 0 i (by omega) (by simp [two])
  have hm1 : c'.m 1 = some j := hsi.2.2 1 j hpin (by simp [two])
  unfold finMr at hfin
  split at hfin
  · rename_i es z a fl u ys fj hob hoj
    split at hfin
    · rename_i hu
      subst hu
      cases hcond : ((es == T.size) && T.isAgg) with
      | false => rw [hcond] at hfin; cases hfin
      | true =>
        rw [hcond] at hfin
        simp only [cond_true] at hfin
        simp only [Bool.and_eq_true, beq_iff_eq] at hcond
        obtain ⟨rfl, hTa⟩ := hcond
        obtain ⟨y, hy, hfin⟩ := Option.bind_eq_some_iff.1 hfin
        obtain ⟨v1, hv1, hx⟩ := Option.map_eq_some_iff.1 hfin
        subst hx
        have hd := hs'.alive hob
        have hdj := hs'.alive hoj
        obtain ⟨o', ho, hrep2⟩ := hs'.obj 0 i (hget_lt hob) hm0 hd
        rw [hob] at ho
        simp only [Option.some.injEq] at ho
        subst ho
        obtain ⟨o2, ho2, hrepj2⟩ := hs'.obj 1 j (hget_lt hoj) hm1 hdj
        rw [hoj] at ho2
        simp only [Option.some.injEq] at ho2
        subst ho2
        have hif : ({ i with full := false } : Info) = i := by
          have := hrep.full
          cases i
          simp only at this
          subst this
          rfl
        have hrep3 := obj_rep (c := c') (c2 := two c'.pr c'.w i j) rfl rfl hTa hy hrep2
        rw [hif] at hrep3
        refine ⟨v', c'.pr, rfl, flat_rep (hflat v1) (asM_rep hv1 (deref_rep hs' 8 _ _ hvr)), hrep3, ⟨hrepj2.len, hrepj2.es, hrepj2.pos, hrepj.full, hrepj2.loc, hrepj2.blk, hrepj2.cont⟩, fun hl => hs'.apart 0 i hm0 hd hl, fun hl => hs'.apart 1 j hm1 hdj hl, W.pr, W.pnew, hs'.plow, W.size, fun b hb hn hnj => W.frame b hb fun ⟨id, hid, _, ha⟩ => ?_, W.blk, W.os, W.tape, W.output⟩
        rcases ha with ha | ⟨q, hq, hl, he⟩
        · exact ha
        · rcases h0 id q hq with ⟨rfl, rfl⟩ | ⟨rfl, rfl⟩
          · exact hn hl he
          · exact hnj hl he
    · cases hfin
  · cases hfin
end
theorem LawMr.reads {P : Program} {f : FuncId} {as bs : List AV} {T e : Ty} {x y : T.C} {xs ys : List e.C} {v : AV} (h : ReadsL as bs) (l : LawMr P f bs T x e xs v y ys) : LawMr P f as T x e xs v y ys :=
  ⟨l.1, fun pr w i j vs hp hr hrj hi hj hij hv => l.2 pr w i j vs hp hr hrj hi hj hij (by
    cases hvs : vs.toList with
    | nil => rw [hvs] at hv; simp [VReps] at hv
    | cons v0 vs' =>
      rw [hvs] at hv
      cases vs' with
      | nil => simp [VReps] at hv
      | cons v1 vs'' =>
      simp only [VReps] at hv ⊢
      exact ⟨hv.1, hv.2.1, h _ _ hv.2.2⟩)⟩
end Go.AM
namespace Go.AM

/-! A row that is asked whether it is nil: a copy of it, handed back as a new row. -/
theorem run_sl_in {P : Program} (d : Nat) (w : World) {t e : TypeId} (hu : P.underlying t = some (.slice e)) (a : Option Addr) (n m : Nat) : (Op.equalIn (d + 1) t (.slice a n m) (.slice none 0 0)).run P w = .ok a.isNone w := by
  cases a <;> simp [Op.equalIn, run_underlying hu]
theorem run_slice_nil {P : Program} {t e : TypeId} (hu : P.underlying t = some (.slice e)) (a : Option Addr) (n m : Nat) (w : World) :
    (binOp .eql t (.slice a n m) (.slice none 0 0)).run P w = .ok (.bool a.isNone) w := by
  have hq : (Op.equalIn 10000 t (.slice a n m) (.slice none 0 0)).run P w = .ok a.isNone w := run_sl_in 9999 w hu a n m
  have hm : Op.equal t (.slice a n m) (.slice none 0 0) = Op.equalIn 10000 t (.slice a n m) (.slice none 0 0) := rfl
  have : (binOp .eql t (.slice a n m) (.slice none 0 0)) = (do pure (.bool (← Op.equal t (.slice a n m) (.slice none 0 0)))) := by cases a <;> rfl
  rw [this, hm]; simp [hq]

theorem kind_slice {P : Program} {E : Env} (hT : TOk P E) {t e : TypeId} (h : kindOf E t = some (.slice e)) : P.underlying t = some (.slice e) := by
  unfold kindOf at h
  obtain ⟨ti, h1, h2⟩ := Option.map_eq_some_iff.1 h
  have := hT t ti h1
  simp only [tyOk, h2, Bool.and_eq_true] at this
  have hk := this.1.1.1.1.1.2
  simp only [kindOk] at hk
  split at hk
  · rename_i e' he
    rw [he]
    have := of_decide_eq_true hk
    simp_all
  · cases hk

/-- Such a test: it tells nothing but of an empty row. -/
theorem nil_test {P : Program} {E : Env} (hT : TOk P E) {id : Nat} {ops : Array Oper} {o1 o2 : Oper} (hops : ops = #[o1, o2]) {i d g : Nat} {t u e0 : TypeId} (h1 : o1.op = .move (.tmp i)) (h1d : o1.dst = some d) (h1g : o1.guard = none)
    (h2 : o2.op = .binOp .eql t (.tmp d) (.const (.slice none 0 0)) u) (h2d : o2.dst = some g) (h2g : o2.guard = none) (hk : kindOf E t = some (.slice e0)) {s : List AV} {e : Ty} {xs : List e.C} (hi : s.getD i .undef = .tv (.row e) xs) (hd : d < s.length)
    {c : Ctx} {a : Act} (hsl : Slots c s a) {Q : Exit → Act → World → Prop}
    (hq : ∀ b a', (b = true → xs = []) → Slots c ((s.set d (.tv (.row e) xs)).set g (.bool b)) a' → a'.defers = a.defers → Q .normal a' c.w) : (Code.region id ops false).wp P Q a c.w := by
  subst hops
  refine wp_region ?_
  have hr : List.range (#[o1, o2] : Array Oper).size = [0, 1] := rfl
  rw [hr, wpOps_cons]
  unfold wpOp
  have hw1 : Region.wanted o1 (yielded #[o1, o2] a.tmps) = true := by simp [Region.wanted, h1g]
  have e0' : (#[o1, o2] : Array Oper)[0]? = some o1 := rfl
  have e1' : (#[o1, o2] : Array Oper)[1]? = some o2 := rfl
  simp only [e0', hw1, if_true]
  refine .inl ?_
  have hrun1 : (execOp a.eval o1).run P c.w = .ok (.value (a.eval (.tmp i))) c.w := by simp [execOp, h1]
  unfold Oper.wp
  rw [hrun1]
  have hv0 : VRep c (.tv (.row e) xs) (a.eval (.tmp i)) := by have := hsl.2 i; rw [hi] at this; exact this
  have hs1 : Slots c (putSlot s (some d) (.tv (.row e) xs)) (a.put (some d) (a.eval (.tmp i))) := hsl.put (some d) hv0
  show wpOps P #[o1, o2] Q [1] (a.put o1.dst (a.eval (.tmp i))) c.w
  rw [h1d]
  show wpOps P #[o1, o2] Q [1] (a.put (some d) (a.eval (.tmp i))) c.w
  rw [wpOps_cons]
  unfold wpOp
  have hw2 : Region.wanted o2 (yielded #[o1, o2] (a.put (some d) (a.eval (.tmp i))).tmps) = true := by simp [Region.wanted, h2g]
  simp only [e1', hw2, if_true]
  refine .inl ?_
  have hv1 : VRep c (.tv (.row e) xs) ((a.put (some d) (a.eval (.tmp i))).eval (.tmp d)) := by
    have := hs1.2 d
    have hg : (putSlot s (some d) (.tv (.row e) xs)).getD d .undef = .tv (.row e) xs := by simp [putSlot, List.getD, hd]
    rw [hg] at this
    exact this
  have hv1' := hv1
  simp only [VRep, TRep, Ty.isAgg, Bool.false_eq_true, if_false, CellsRep] at hv1'
  obtain ⟨v, hv, p, cap, rfl, hcap, hnone, hne⟩ := hv1'
  simp only [List.cons.injEq, and_true] at hv
  have hrun2 : (execOp (a.put (some d) (a.eval (.tmp i))).eval o2).run P c.w = .ok (.value (.bool p.isNone)) c.w := by
    have hcst : (a.put (some d) (a.eval (.tmp i))).eval (.const (.slice none 0 0)) = .slice none 0 0 := rfl
    have g1 := eqGuard_word (P := P) .eql t (.tmp d) (.const (.slice none 0 0)) (.slice p xs.length cap) (.slice none 0 0) c.w (by simp) (by simp)
    have g2 := run_slice_nil (kind_slice hT hk) p xs.length cap c.w
    simp [execOp, h2, hv, hcst, g1, g2]
  unfold Oper.wp
  rw [hrun2]
  show Q .normal ((a.put (some d) (a.eval (.tmp i))).put o2.dst (.bool p.isNone)) c.w
  rw [h2d]
  show Q .normal ((a.put (some d) (a.eval (.tmp i))).put (some g) (.bool p.isNone)) c.w
  refine hq p.isNone _ (fun hb => ?_) (hs1.put (some g) (by simp [VRep])) (by rw [put_defers, put_defers])
  cases xs with
  | nil => rfl
  | cons y ys =>
    obtain ⟨b, o, hp, _⟩ := hne (by simp)
    rw [hp] at hb
    cases hb

theorem lawF_tail {pr : Nat → Prop} {w : World} {e : Ty} {x : List e.C} {rv : AV} {rh : Heap} {c' : Ctx} {v' : Value} (hfin : finF e (rv, rh) = some x) (W : Was (still0 pr w) [] c' rh) (hs' : Sim c' rh) (hf' : Fre c' rh) (hvr : VRep c' rv v') :
    ∃ pr' i, VRep (alone pr' c'.w i) (.sl 0) v' ∧ ObjRep (alone pr' c'.w i) i ⟨.typed e x, false⟩ ∧ (i.loc = true → w.heap.size ≤ i.b ∧ i.b < c'.w.heap.size ∧ ¬ pr' i.b) ∧
      (∀ b, pr b → pr' b) ∧ (∀ b, pr' b → pr b ∨ w.heap.size ≤ b) ∧ (∀ b, pr' b → b < c'.w.heap.size) ∧ w.heap.size ≤ c'.w.heap.size ∧
      (∀ b, b < w.heap.size → c'.w.heap[b]? = w.heap[b]?) ∧ c'.w.os = w.os ∧ c'.w.tape = w.tape ∧ c'.w.output = w.output := by
  have hframe : ∀ b, b < w.heap.size → c'.w.heap[b]? = w.heap[b]? := fun b hb => W.frame b hb Ctx.has0
  unfold finF at hfin
  by_cases hpos : Nat.blt 0 e.size = true
  · simp only [hpos, cond_true] at hfin
    have hes : 0 < e.size := by simpa [Nat.blt_eq] using hpos
    split at hfin
    · rename_i id
      split at hfin
      · rename_i t xs fl hob
        split at hfin
        · rename_i hte
          subst hte
          simp only [Option.some.injEq] at hfin
          subst hfin
          have hd := hs'.alive hob
          have hvr' := hvr
          simp only [VRep, slRep] at hvr'
          obtain ⟨hany, hv⟩ := hvr'
          obtain ⟨i, hi, hcase⟩ := hv.resolve_left hd
          have hid : id < rh.length := by
            rcases Nat.lt_or_ge id rh.length with h | h
            · exact h
            · rw [(hf' id h).1] at hi; cases hi
          obtain ⟨ob, hob2, hrep⟩ := hs'.obj id i hid hi hd
          rw [hob] at hob2
          simp only [Option.some.injEq] at hob2
          subst hob2
          refine ⟨c'.pr, { i with full := false }, ?_, ⟨hrep.len, hrep.es, hrep.pos, rfl, hrep.loc, hrep.blk, hrep.cont⟩, fun hl => ⟨?_, hs'.low id i hi hd hl, hs'.apart id i hi hd hl⟩, W.pr, W.pnew, hs'.plow, W.size, hframe, W.os, W.tape, W.output⟩
          · simp only [VRep, slRep]
            refine ⟨hany, .inr ⟨{ i with full := false }, by simp [alone], ?_⟩⟩
            rcases hcase with ⟨a1, cap, n, a2, a3, a4, a5, _⟩ | ⟨a1, a2, a3⟩
            · exact .inl ⟨a1, cap, n, a2, a3, a4, a5, fun h => by cases h⟩
            · exact .inr ⟨a1, a2, a3⟩
          · exact (W.own i.b ⟨id, hid, hd, .inr ⟨i, hi, hl, rfl⟩⟩).elim (fun h => h) fun h => absurd h Ctx.has0
        · cases hfin
      · cases hfin
    · rename_i id off n
      split at hfin
      · rename_i t xs fl hob
        split at hfin
        · rename_i hte
          subst hte
          simp only [Option.some.injEq] at hfin
          subst hfin
          obtain ⟨i2, g1, g2, g3⟩ := ss_own hs' hob hvr hes
          have hd := hs'.alive hob
          refine ⟨c'.pr, i2, by simp only [VRep]; exact g1, g2, fun hl => ⟨?_, hs'.at_low hd (g3 hl), hs'.at_apart hd (g3 hl)⟩, W.pr, W.pnew, hs'.plow, W.size, hframe, W.os, W.tape, W.output⟩
          exact (W.own i2.b ⟨id, hget_lt hob, hd, g3 hl⟩).elim (fun h => h) fun h => absurd h Ctx.has0
        · cases hfin
      · cases hfin
    · simp only [Option.some.injEq] at hfin
      subst hfin
      simp only [VRep] at hvr
      obtain ⟨a, rfl⟩ := hvr
      refine ⟨c'.pr, (inf false 0 0 0 e.size false), ?_, ⟨rfl, rfl, hes, rfl, (fun h => absurd h (Nat.lt_irrefl 0)), (fun h => by cases h), (fun k y hy => by simp at hy)⟩, (fun h => by cases h), W.pr, W.pnew, hs'.plow, W.size, hframe, W.os, W.tape, W.output⟩
      simp only [VRep, slRep]
      exact ⟨⟨_, _, _, rfl⟩, .inr ⟨(inf false 0 0 0 e.size false), by simp [alone], .inr ⟨rfl, rfl, a, rfl⟩⟩⟩
    · cases hfin
  · simp only [Bool.not_eq_true] at hpos; simp [hpos] at hfin

section
variable {ρ : Type} {P : Program} {E : Env} {run : Run} {x : ρ}
theorem told_seq (hT : TOk P E) (hC : CallsOk P E run) (hR : RegOk P E run) {f : FuncId} {n : Nat} {a b : Code} {st : St} {K : Out → St → Option ρ} (hk : aexec E f (acall E run) n (.seq a b) st K = some x) :
    ∃ out st', K out st' = some x ∧ ∀ c ac, Stt c st ac → ∀ Q, (∀ c' a', Since true (pinsOf E f) c st.h c' st'.h → Stt c' st' a' → a'.defers = ac.defers → Q out.ex a' c'.w) → a.wp P (Exit.then (b.wp P Q) Q) ac c.w := by
  have hlv : true = false → ∀ r, E.live f r = none := fun h => by cases h
  simp only [aexec] at hk
  obtain ⟨out, st1, hK, hw⟩ := told_exec hT hC hR hlv n _ _ _ hk
  cases out with
  | normal =>
    simp only [seqK] at hK
    obtain ⟨st2, hK2, he⟩ := enter_ok hlv hK
    obtain ⟨out3, st3, hK3, hw3⟩ := told_exec hT hC hR hlv n _ _ _ hK2
    refine ⟨out3, st3, hK3, fun c ac hst Q hq => hw c ac hst _ fun c' a' h1 h2 h3 => ?_⟩
    obtain ⟨c2, hww, g1, g2⟩ := he c' a' h2
    show b.wp P Q a' c'.w
    rw [← hww]
    exact hw3 c2 a' g2 Q fun c3 a3 k1 k2 k3 => hq c3 a3 (h1.trans (g1.trans k1)) k2 (k3.trans h3)
  | exit i => exact ⟨.exit i, st1, hK, fun c ac hst Q hq => hw c ac hst _ fun c' a' h1 h2 h3 => hq c' a' h1 h2 h3⟩
  | ret => exact ⟨.ret, st1, hK, fun c ac hst Q hq => hw c ac hst _ fun c' a' h1 h2 h3 => hq c' a' h1 h2 h3⟩
end

section
variable {P : Program} {E : Env} {run : Run}
/-- A copy: the code asks whether the row is nil; either way its run comes to the same row. -/
theorem lawClone (hT : TOk P E) (hC : CallsOk P E run) (hmix : P.follows .mixedOrders = true) {f : FuncId} {fn : Func} (hf : P.funcs[f]? = some fn) (hname : (fn.name == "runtime.NumGoroutine") = false)
    {r0 cnd rest : Code} {id : Nat} {o1 o2 : Oper} {i d g : Nat} {t u e0 : TypeId} (hb : fn.body = some (.seq r0 (.seq (.seq (.region id #[o1, o2] false) cnd) rest)))
    (h1 : o1.op = .move (.tmp i)) (h1d : o1.dst = some d) (h1g : o1.guard = none) (h2 : o2.op = .binOp .eql t (.tmp d) (.const (.slice none 0 0)) u) (h2d : o2.dst = some g) (h2g : o2.guard = none) (hkd : kindOf E t = some (.slice e0))
    {k : Nat} {e : Ty} {xs : List e.C} {st0 : St} (hr0 : aexec E f (acall E run) k r0 (begin fn [.tv (.row e) xs] []) (fun o st => some (o, st)) = some (.normal, st0)) (hi : st0.s.getD i .undef = .tv (.row e) xs) (hd : d < st0.s.length)
    (hrun : ∀ b, aexec E f (acall E run) k (.seq cnd rest) ⟨(st0.s.set d (.tv (.row e) xs)).set g (.bool b), st0.h⟩ (leave E fn (finF e)) = some (bif b then [] else xs)) : LawF P f [.tv (.row e) xs] e xs := by
  have hlv : true = false → ∀ r, E.live f r = none := fun h => by cases h
  obtain ⟨out, st1, hK, hw0⟩ := told_exec hT hC (regOk hT hmix hC) hlv k _ _ _ hr0
  simp only [Option.some.injEq, Prod.mk.injEq] at hK
  obtain ⟨rfl, rfl⟩ := hK
  refine ⟨⟨fn, hf, hname, by rw [hb]; rfl⟩, fun pr w vs hp hr => ?_⟩
  have hs : Sim (still0 pr w) [] := sim_still0 hp
  refine calls_of_wp hf hb ?_
  refine wp_seq (hw0 (still0 pr w) _ ⟨hs, (fun id _ => ⟨rfl, fun h => h⟩), begin_slots hr []⟩ _ fun c1 a1 s1 t1 d1 => ?_)
  refine wp_seq (wp_seq (nil_test hT rfl h1 h1d h1g h2 h2d h2g hkd hi hd t1.slots fun b a2 hbx hsl2 d2 => ?_))
  obtain ⟨out, st3, hK3, hw3⟩ := told_seq hT hC (regOk hT hmix hC) (hrun b)
  have hx : (bif b then [] else xs) = xs := by
    cases b with
    | false => rfl
    | true => exact (hbx rfl).symm
  rw [hx] at hK3
  refine hw3 c1 a2 ⟨t1.sim, t1.fre, hsl2⟩ _ fun c3 a3 s3 t3 d3 => ?_
  have main : ∀ r : AV × Heap, aresults E fn st3 = some r → finF e r = some xs → (a3.defers = [] ∧ ∃ v, (results fn a3.tmps).run P c3.w = .ok v c3.w ∧ ∃ v' pr' i, Ending.returned v = .returned v' ∧ VRep (alone pr' c3.w i) (.sl 0) v' ∧ ObjRep (alone pr' c3.w i) i ⟨.typed e xs, false⟩ ∧ (i.loc = true → w.heap.size ≤ i.b ∧ i.b < c3.w.heap.size ∧ ¬ pr' i.b) ∧
      (∀ b, pr b → pr' b) ∧ (∀ b, pr' b → pr b ∨ w.heap.size ≤ b) ∧ (∀ b, pr' b → b < c3.w.heap.size) ∧ w.heap.size ≤ c3.w.heap.size ∧
      (∀ b, b < w.heap.size → c3.w.heap[b]? = w.heap[b]?) ∧ c3.w.os = w.os ∧ c3.w.tape = w.tape ∧ c3.w.output = w.output) := by
    intro r hr hfin
    obtain ⟨rv, rh⟩ := r
    obtain ⟨hh, hres⟩ := results_ok hT hr
    subst hh
    obtain ⟨v', hrun', hrv⟩ := hres c3 a3 t3
    have W := (s1.trans (p := pinsOf E f) s3).1
    obtain ⟨pr', i', g1⟩ := lawF_tail hfin W t3.sim t3.fre hrv
    exact ⟨d3.trans (d2.trans d1), v', hrun', v', pr', i', rfl, g1⟩
  unfold leave at hK3
  split at hK3
  · obtain ⟨r, hr, hfin⟩ := Option.bind_eq_some_iff.1 hK3
    exact main r hr hfin
  · obtain ⟨r, hr, hfin⟩ := Option.bind_eq_some_iff.1 hK3
    exact main r hr hfin
  · cases hK3
end
/-- The parts of such a code. -/
def cndOf (fn : Func) : Code := match fn.body with | some (.seq _ (.seq (.seq _ c) _)) => c | _ => .skip
def rstOf (fn : Func) : Code := match fn.body with | some (.seq _ (.seq _ r)) => r | _ => .skip
end Go.AM
