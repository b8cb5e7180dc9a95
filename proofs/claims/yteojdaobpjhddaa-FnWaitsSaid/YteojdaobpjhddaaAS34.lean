/- An interpreter of the model's code over values that are told, and its soundness. -/
import Derived.Test.YteojdaobpjhddaaAS33
namespace Go.AM

/-! Calls that write a row that came in: the first arg. -/
def LawM (P : Program) (f : FuncId) (args : List AV) (e : Ty) (xs : List e.C) (v : AV) (ys : List e.C) : Prop :=
  Enters P f ∧ ∀ (pr : Nat → Prop) (w : World) (i : Info) (vs : Array Value), (∀ b, pr b → b < w.heap.size) → ObjRep (alone pr w i) i ⟨.typed e xs, false⟩ → (i.loc = true → i.b < w.heap.size ∧ ¬ pr i.b) →
    VReps (alone pr w i) (.sl 0 :: args) vs.toList → Calls P f vs w fun en w' =>
    ∃ v' pr', en = .returned v' ∧ VRep (still0 pr' w') v v' ∧ ObjRep (alone pr' w' i) i ⟨.typed e ys, false⟩ ∧ (i.loc = true → ¬ pr' i.b) ∧
      (∀ b, pr b → pr' b) ∧ (∀ b, pr' b → pr b ∨ w.heap.size ≤ b) ∧ (∀ b, pr' b → b < w'.heap.size) ∧ w.heap.size ≤ w'.heap.size ∧
      (∀ b, b < w.heap.size → (i.loc = true → i.b ≠ b) → w'.heap[b]? = w.heap[b]?) ∧ (∀ b n, Blk w b n → Blk w' b n) ∧ w'.os = w.os ∧ w'.tape = w.tape ∧ w'.output = w.output

/-- A contract of such a call: what it tells is words. -/
def byMut (e : Ty) (m : (ρ : Type) → List AV → List e.C → (AV → List e.C → Option ρ) → Option ρ) : Con := fun ρ args h K =>
  match args with
  | .sl id :: rest =>
    (match hget h id with
     | some ⟨.typed t xs, fl⟩ =>
       if ht : t = e then bif rest.all noRef then m ρ rest (Ty.castR ht xs) (fun v ys => bif flatV v then K v (h.set id (some ⟨.typed e ys, fl⟩)) true else none) else none else none
     | _ => none)
  | _ => none

theorem con_byMut {P : Program} {f : FuncId} {e : Ty} {m : (ρ : Type) → List AV → List e.C → (AV → List e.C → Option ρ) → Option ρ}
    (hm : ∀ (ρ : Type) args xs (K : AV → List e.C → Option ρ) (x : ρ), m ρ args xs K = some x → ∃ v ys, K v ys = some x ∧ LawM P f args e xs v ys) : ConOk P f (byMut e m) := by
  intro ρ args h K x hb
  unfold byMut at hb
  split at hb
  · rename_i id rest
    split at hb
    · rename_i t xs fl hob
      split at hb
      · rename_i ht
        subst ht
        cases hn : rest.all noRef with
        | false => rw [hn] at hb; cases hb
        | true =>
          rw [hn] at hb
          simp only [cond_true] at hb
          obtain ⟨v, ys, hk, hent, hlaw⟩ := hm _ _ _ _ _ hb
          replace hlaw : ∀ (pr : Nat → Prop) (w : World) (i : Info) (vs : Array Value), (∀ b, pr b → b < w.heap.size) → ObjRep (alone pr w i) i ⟨.typed t xs, false⟩ → _ := hlaw
          cases hfv : flatV v with
          | false => rw [hfv] at hk; cases hk
          | true =>
            rw [hfv] at hk
            simp only [cond_true] at hk
            have hid : id < h.length := hget_lt hob
            refine ⟨v, _, true, hk, hent, (sta_set fun j hj => touch_sl hj (by simp)), fun c vs hs _ hr => ?_⟩
            have hd := hs.alive hob
            have hr' := hr
            cases hvs : vs.toList with
            | nil => rw [hvs] at hr'; simp [VReps] at hr'
            | cons v0 vs' =>
              rw [hvs] at hr'
              simp only [VReps, VRep, slRep] at hr'
              obtain ⟨⟨hany, hv⟩, hrest⟩ := hr'
              obtain ⟨i, hi, hcase⟩ := hv.resolve_left hd
              obtain ⟨o, ho, hrep⟩ := hs.obj id i hid hi hd
              rw [hob] at ho
              simp only [Option.some.injEq] at ho
              subst ho
              have hrep0 : ObjRep (alone c.pr c.w { i with full := false }) { i with full := false } ⟨.typed t xs, false⟩ := ⟨hrep.len, hrep.es, hrep.pos, rfl, hrep.loc, hrep.blk, hrep.cont⟩
              have hargs : VReps (alone c.pr c.w { i with full := false }) (.sl 0 :: rest) vs.toList := by
                rw [hvs]
                simp only [VReps, VRep, slRep]
                refine ⟨⟨hany, .inr ⟨{ i with full := false }, by simp [alone], ?_⟩⟩, noRef_reps (c := c) (c2 := alone c.pr c.w { i with full := false }) rfl rfl hn hrest⟩
                rcases hcase with ⟨a1, cap, n, a2, a3, a4, a5, _⟩ | ⟨a1, a2, a3⟩
                · exact .inl ⟨a1, cap, n, a2, a3, a4, a5, fun h => by cases h⟩
                · exact .inr ⟨a1, a2, a3⟩
              refine (hlaw c.pr c.w { i with full := false } vs hs.plow hrep0 (fun hl => ⟨hs.low id i hi hd hl, hs.apart id i hi hd hl⟩) hargs).mono ?_
              rintro en w' ⟨v', pr', rfl, hvv, hrep2, hap, q1, q2, q3, q4, q5, q6, q7, q8, q9⟩
              have hkeep : ∀ b, c.pr b → w'.heap[b]? = c.w.heap[b]? := fun b hp => q5 b (hs.plow b hp) fun hl e => hs.apart id i hi hd hl (by rw [← e] at hp; exact hp)
              have t2 : Tells c { c with pr := pr', w := w' } := ⟨fun _ _ h => h, fun _ h => h, ⟨q1, hkeep⟩, q6⟩
              have hlen : (h.set id (some ⟨.typed t ys, fl⟩)).length = h.length := by simp
              have hS : Sim { c with pr := pr', w := w' } (h.set id (some ⟨.typed t ys, fl⟩)) := by
                refine ⟨fun id' i' h1 h2 h3 => ?_, fun id' h1 h2 => ?_, fun id' i' h1 h2 h3 => Nat.lt_of_lt_of_le (hs.low id' i' h1 h2 h3) q4, hs.inj, q3, fun id' i' h1 h2 h3 hp => ?_, hs.own.step rfl (fun _ h => h) (fun _ _ h => h) q4 q2 (fun id' i' h1 h2 h3 => hs.own.off h1 h2 h3), fun id' i' fx e' xs' f h1 h2 h3 h4 => by
                  by_cases he : id' = id
                  · subst he; rw [hget_set_same hid] at h4; cases h4
                  · rw [hlen] at h1
                    rw [hget_set_other he] at h4
                    exact hs.deepStay h1 h2 h3 h4 (fun _ h => h) fun b hb => q5 b (hs.at_low h3 hb) fun hl e => he (hs.at_inj h3 hd hb (.inr ⟨i, hi, hl, e⟩))⟩
                · by_cases he : id' = id
                  · subst he
                    have : i' = i := by rw [hi] at h2; simpa using h2.symm
                    subst this
                    exact ⟨_, hget_set_same hid, ⟨hrep2.len, hrep2.es, hrep2.pos, hrep.full, hrep2.loc, hrep2.blk, hrep2.cont⟩⟩
                  · rw [hlen] at h1
                    obtain ⟨o', ho', hr''⟩ := hs.obj id' i' h1 h2 h3
                    exact ⟨o', by rw [hget_set_other he]; exact ho', hr''.mono t2 fun hl => q5 _ (hs.low id' i' h2 h3 hl) fun hl' e => he (hs.inj id' id i' i h2 hi h3 hd hl hl' e.symm)⟩
                · have he : id' ≠ id := fun e => hd (e ▸ h2)
                  rw [hlen] at h1
                  rw [hget_set_other he]; exact hs.gone id' h1 h2
                · by_cases he : id' = id
                  · subst he
                    have : i' = i := by rw [hi] at h1; simpa using h1.symm
                    subst this
                    exact hap h3 hp
                  · rcases q2 _ hp with hp | hp
                    · exact hs.apart id' i' h1 h2 h3 hp
                    · have := hs.low id' i' h1 h2 h3; omega
              refine ⟨v', { c with pr := pr', w := w' }, rfl, rfl, ⟨⟨q1, q4, hkeep, q6, fun b hb hn2 => q5 b hb fun hl e => hn2 ⟨id, hid, hd, .inr ⟨i, hi, hl, e⟩⟩, fun b hh => .inr (by obtain ⟨id', h1, h2, h3⟩ := hh; exact ⟨id', by simpa using h1, h2, h3⟩), q2, q7, q8, q9⟩, by simp, fun _ _ h => h, fun _ _ h h' => absurd (h'.symm.trans h) (by simp), fun _ h => h, fun _ h => .inl h⟩, hS, flat_rep hfv hvv, fun h => by cases h⟩
      · cases hb
    · cases hb
  · cases hb

/-- What is told besides: a word, or nothing. -/
def asM : (t : Ty) → AV → Option t.C
  | .unit, .tup [] => some ()
  | .unit, _ => none
  | t, v => v.as t
def tvM : (t : Ty) → t.C → AV
  | .unit, _ => .tup []
  | t, x => tvn t x
theorem asM_rep {c : Ctx} {t : Ty} {a : AV} {x : t.C} {v : Value} (h : asM t a = some x) (hr : VRep c a v) : VRep c (tvM t x) v := by
  cases t
  case unit =>
    cases a
    case tup vs =>
      cases vs with
      | nil => exact hr
      | cons _ _ => cases h
    all_goals cases h
  all_goals exact as_rep h hr
/-- A run's result, and the row that came in as it is then. -/
def finM (t e : Ty) (r : AV × Heap) : Option (t.C × List e.C) :=
  match hget r.2 0 with
  | some ⟨.typed u ys, _⟩ => if h : u = e then (asM t (deref r.2 8 r.1)).map fun v => (v, Ty.castR h ys) else none
  | _ => none

section
variable {P : Program} {E : Env} {run : Run}
theorem lawM (hT : TOk P E) (hC : CallsOk P E run) (hmix : P.follows .mixedOrders = true) {f : FuncId} {fn : Func} (hf : P.funcs[f]? = some fn) (hname : (fn.name == "runtime.NumGoroutine") = false) (hb : fn.body.isNone = false) (hpin : 0 < pinsOf E f) {k : Nat} {args : List AV} {t e : Ty} (hflat : ∀ x : t.C, flatV (tvM t x) = true) {xs : List e.C} {x : t.C × List e.C}
    (hk : abody E run k f fn (.sl 0 :: args) [some ⟨.typed e xs, false⟩] (finM t e) = some x) : LawM P f args e xs (tvM t x.1) x.2 := by
  obtain ⟨r, hfin, hw⟩ := told_body (lv := true) hT hC (regOk hT hmix hC) hf (fun h => by cases h) hk
  obtain ⟨rv, rh⟩ := r
  refine ⟨⟨fn, hf, hname, hb⟩, fun pr w i vs hp hrep hi hr => ?_⟩
  have h0 : ∀ id j, (alone pr w i).m id = some j → id = 0 ∧ j = i := fun id j hj => by
    simp only [alone] at hj
    split at hj
    · exact ⟨by assumption, by simpa using hj.symm⟩
    · cases hj
  have hs : Sim (alone pr w i) [some ⟨.typed e xs, false⟩] := by
    refine ⟨fun id j hid hj _ => ?_, fun id _ hd => hd.elim, fun id j hj _ hl => ?_, fun id id' j j' hj hj' _ _ _ _ _ => ?_, hp, fun id j hj _ hl => ?_, noOwn (fun _ _ h => h), fun id j fx e' xs' f hid hj _ hg => by obtain ⟨rfl, rfl⟩ := h0 id j hj; cases hg⟩
    · obtain ⟨rfl, rfl⟩ := h0 id j hj; exact ⟨_, rfl, hrep⟩
    · obtain ⟨rfl, rfl⟩ := h0 id j hj; exact (hi hl).1
    · rw [(h0 id j hj).1, (h0 id' j' hj').1]
    · obtain ⟨rfl, rfl⟩ := h0 id j hj; exact (hi hl).2
  have hfre : Fre (alone pr w i) [some ⟨.typed e xs, false⟩] := by
    intro id hid
    have : id ≠ 0 := by simp at hid; omega
    exact ⟨by simp [alone, this], fun h => h⟩
  refine (hw (alone pr w i) vs hs hfre hr).mono ?_
  rintro en w' ⟨v', c', rfl, rfl, hsi, hs', hf', hvr⟩
  have W := hsi.1
  have hm0 : c'.m 0 = some i := hsi.2.2 0 i hpin (by simp [alone])
  unfold finM at hfin
  split at hfin
  · rename_i u ys fl hob
    split at hfin
    · rename_i hu
      subst hu
      obtain ⟨v1, hv1, hx⟩ := Option.map_eq_some_iff.1 hfin
      subst hx
      have hd := hs'.alive hob
      obtain ⟨o, ho, hrep2⟩ := hs'.obj 0 i (hget_lt hob) hm0 hd
      rw [hob] at ho
      simp only [Option.some.injEq] at ho
      subst ho
      refine ⟨v', c'.pr, rfl, flat_rep (hflat v1) (asM_rep hv1 (deref_rep hs' 8 _ _ hvr)), ⟨hrep2.len, hrep2.es, hrep2.pos, hrep.full, hrep2.loc, hrep2.blk, hrep2.cont⟩, fun hl => hs'.apart 0 i hm0 hd hl, W.pr, W.pnew, hs'.plow, W.size, fun b hb hn => W.frame b hb fun ⟨id, hid, _, ha⟩ => ?_, W.blk, W.os, W.tape, W.output⟩
      rcases ha with ha | ⟨j, hj, hl, he⟩
      · exact ha
      · obtain ⟨rfl, rfl⟩ := h0 id j hj
        exact hn hl he
    · cases hfin
  · cases hfin
end
theorem LawM.reads {P : Program} {f : FuncId} {as bs : List AV} {e : Ty} {xs ys : List e.C} {v : AV} (h : ReadsL as bs) (l : LawM P f bs e xs v ys) : LawM P f as e xs v ys :=
  ⟨l.1, fun pr w i vs hp hr hi hv => l.2 pr w i vs hp hr hi (by
    cases hvs : vs.toList with
    | nil => rw [hvs] at hv; simp [VReps] at hv
    | cons v0 vs' =>
      rw [hvs] at hv
      simp only [VReps] at hv ⊢
      exact ⟨hv.1, h _ _ hv.2⟩)⟩
end Go.AM
