/- An interpreter of the model's code over values that are told, and its soundness. -/
import Derived.Test.YteojdaobpjhddaaAS37
namespace Go.AM

/-! A struct behind a pointer that is written, and a new row told. -/
def LawMof (P : Program) (f : FuncId) (args : List AV) (T : Ty) (x : T.C) (e : Ty) (zs : List e.C) (y : T.C) : Prop :=
  Enters P f ∧ ∀ (pr : Nat → Prop) (w : World) (i : Info) (vs : Array Value), (∀ b, pr b → b < w.heap.size) → ObjRep (alone pr w i) i ⟨objC T x, false⟩ → (i.loc = true → i.b < w.heap.size ∧ ¬ pr i.b) →
    VReps (alone pr w i) (.ptr 0 0 0 :: args) vs.toList → Calls P f vs w fun en w' =>
    ∃ v' pr' j, en = .returned v' ∧ VRep (two pr' w' i j) (.sl 1) v' ∧ ObjRep (two pr' w' i j) i ⟨objC T y, false⟩ ∧ ObjRep (two pr' w' i j) j ⟨.typed e zs, false⟩ ∧ (i.loc = true → ¬ pr' i.b) ∧ (j.loc = true → w.heap.size ≤ j.b ∧ j.b < w'.heap.size ∧ ¬ pr' j.b) ∧
      (∀ b, pr b → pr' b) ∧ (∀ b, pr' b → pr b ∨ w.heap.size ≤ b) ∧ (∀ b, pr' b → b < w'.heap.size) ∧ w.heap.size ≤ w'.heap.size ∧
      (∀ b, b < w.heap.size → (i.loc = true → i.b ≠ b) → w'.heap[b]? = w.heap[b]?) ∧ (∀ b n, Blk w b n → Blk w' b n) ∧ w'.os = w.os ∧ w'.tape = w.tape ∧ w'.output = w.output

/-- A contract of such a call. -/
def byMutOF (T e : Ty) (m : (ρ : Type) → List AV → T.C → (List e.C → T.C → Option ρ) → Option ρ) : Con := fun ρ args h K =>
  match args with
  | .ptr id 0 0 :: rest =>
    (match hget h id with
     | some ⟨.raw true es z [a], fl⟩ =>
       bif (es == T.size) && T.isAgg && rest.all noRef then (a.as T).bind fun x => m ρ rest x (fun zs y => K (.sl h.length) (h.set id (some ⟨.raw true es z [.tv T y], fl⟩) ++ [some ⟨.typed e zs, false⟩]) true) else none
     | _ => none)
  | _ => none

theorem con_byMutOF {P : Program} {f : FuncId} {T e : Ty} {m : (ρ : Type) → List AV → T.C → (List e.C → T.C → Option ρ) → Option ρ}
    (hm : ∀ (ρ : Type) args x (K : List e.C → T.C → Option ρ) (o : ρ), m ρ args x K = some o → ∃ zs y, K zs y = some o ∧ LawMof P f args T x e zs y) : ConOk P f (byMutOF T e m) := by
  intro ρ args h K o hb
  unfold byMutOF at hb
  split at hb
  · rename_i id rest
    split at hb
    · rename_i es z a fl hob
      cases hcond : ((es == T.size) && T.isAgg && rest.all noRef) with
      | false => rw [hcond] at hb; cases hb
      | true =>
        rw [hcond] at hb
        simp only [cond_true] at hb
        simp only [Bool.and_eq_true, beq_iff_eq] at hcond
        obtain ⟨⟨rfl, hT⟩, hn⟩ := hcond
        obtain ⟨x, ha, hb⟩ := Option.bind_eq_some_iff.1 hb
        obtain ⟨zs, y, hk, hent, hlaw⟩ := hm _ _ _ _ _ hb
        have hid : id < h.length := hget_lt hob
        refine ⟨_, _, true, hk, hent, (sta_setApp fun j hj => touch_ptr hj (List.mem_cons_self ..)), fun c vs hs hfree hr => ?_⟩
        have hd := hs.alive hob
        have hr' := hr
        cases hvs : vs.toList with
        | nil => rw [hvs] at hr'; simp [VReps] at hr'
        | cons v0 vs' =>
          rw [hvs] at hr'
          simp only [VReps, VRep, ptrRep] at hr'
          obtain ⟨⟨hany, hv⟩, hrest⟩ := hr'
          obtain ⟨i, hi, hix, hcase⟩ := hv.resolve_left hd
          obtain ⟨o', ho, hrep⟩ := hs.obj id i hid hi hd
          rw [hob] at ho
          simp only [Option.some.injEq] at ho
          subst ho
          have hz := hrep.cont
          have hrep0 := obj_rep (c := c) (c2 := alone c.pr c.w { i with full := false }) rfl rfl hT ha hrep
          have hargs : VReps (alone c.pr c.w { i with full := false }) (.ptr 0 0 0 :: rest) vs.toList := by
            rw [hvs]
            simp only [VReps, VRep, ptrRep]
            exact ⟨⟨hany, .inr ⟨{ i with full := false }, by simp [alone], hix, hcase⟩⟩, noRef_reps (c := c) (c2 := alone c.pr c.w { i with full := false }) rfl rfl hn hrest⟩
          refine (hlaw c.pr c.w { i with full := false } vs hs.plow hrep0 (fun hl => ⟨hs.low id i hi hd hl, hs.apart id i hi hd hl⟩) hargs).mono ?_
          rintro en w' ⟨v', pr', j, rfl, hvv, hrep2, hrepj, hap, hj, q1, q2, q3, q4, q5, q6, q7, q8, q9⟩
          have hkeep : ∀ b, c.pr b → w'.heap[b]? = c.w.heap[b]? := fun b hp => q5 b (hs.plow b hp) fun hl e => hs.apart id i hi hd hl (by rw [← e] at hp; exact hp)
          have t2 : Tells c { c with pr := pr', w := w' } := ⟨fun _ _ h => h, fun _ h => h, ⟨q1, hkeep⟩, q6⟩
          have hlen : (h.set id (some ⟨.raw true T.size z [.tv T y], fl⟩)).length = h.length := by simp
          have hS : Sim { c with pr := pr', w := w' } (h.set id (some ⟨.raw true T.size z [.tv T y], fl⟩)) := by
            refine ⟨fun id' i' h1 h2 h3 => ?_, fun id' h1 h2 => ?_, fun id' i' h1 h2 h3 => Nat.lt_of_lt_of_le (hs.low id' i' h1 h2 h3) q4, hs.inj, q3, fun id' i' h1 h2 h3 hp => ?_, hs.own.step rfl (fun _ h => h) (fun _ _ h => h) q4 q2 (fun id' i' h1 h2 h3 => hs.own.off h1 h2 h3), fun id' i' fx e' xs' f h1 h2 h3 h4 => by
                  by_cases he : id' = id
                  · subst he; rw [hget_set_same hid] at h4; cases h4
                  · rw [hlen] at h1
                    rw [hget_set_other he] at h4
                    exact hs.deepStay h1 h2 h3 h4 (fun _ h => h) fun b hb => q5 b (hs.at_low h3 hb) fun hl e => he (hs.at_inj h3 hd hb (.inr ⟨i, hi, hl, e⟩))⟩
            · by_cases he : id' = id
              · subst he
                have : i' = i := by rw [hi] at h2; simpa using h2.symm
                subst this
                exact ⟨_, hget_set_same hid, obj_back (c := two pr' w' { i' with full := false } j) (c2 := { c with pr := pr', w := w' }) rfl rfl hT hrep2 rfl hrep.full ⟨hz.1, hz.2.1⟩⟩
              · rw [hlen] at h1
                obtain ⟨o', ho', hr''⟩ := hs.obj id' i' h1 h2 h3
                exact ⟨o', by rw [hget_set_other he]; exact ho', hr''.mono t2 fun hl => q5 _ (hs.low id' i' h2 h3 hl) fun hl' e => he (hs.inj id' id i' i h2 hi h3 hd hl hl' e.symm)⟩
            · have he : id' ≠ id := fun e => hd (e ▸ h2)
              rw [hlen] at h1
              rw [hget_set_other he]; exact hs.gone id' h1 h2
            · by_cases he : id' = id
              · subst he
                have : i' = i := by rw [hi] at h1; simpa using h1.symm
                subst this
                exact hap h3 hp
              · rcases q2 _ hp with hp | hp
                · exact hs.apart id' i' h1 h2 h3 hp
                · have := hs.low id' i' h1 h2 h3; omega
          have hX : Ext c h { c with pr := pr', w := w' } (h.set id (some ⟨.raw true T.size z [.tv T y], fl⟩)) := ⟨⟨q1, q4, hkeep, q6, fun b hb hn2 => q5 b hb fun hl e => hn2 ⟨id, hid, hd, .inr ⟨i, hi, hl, e⟩⟩, fun b hh => .inr (by obtain ⟨id', h1, h2, h3⟩ := hh; exact ⟨id', by simpa using h1, h2, h3⟩), q2, q7, q8, q9⟩, by simp, fun _ _ h => h, fun _ _ h h' => absurd (h'.symm.trans h) (by simp), fun _ h => h, fun _ h => .inl h⟩
          have hfr := hfree h.length (Nat.le_refl _) (by simp)
          have hrj : ObjRep { c with pr := pr', w := w' } j ⟨.typed e zs, false⟩ := ⟨hrepj.len, hrepj.es, hrepj.pos, hrepj.full, hrepj.loc, hrepj.blk, hrepj.cont⟩
          obtain ⟨c2, p1, p2, p3, p4, g1, g2, _⟩ := own_add2 hX hS (by rw [hlen]; exact hfr) hrj rfl fun hl => ⟨(hj hl).1, (hj hl).2.1, (hj hl).2.2, fun id' h1 h2 => by
            have := hs.at_low (id := id') (b := j.b) h1 h2
            have := (hj hl).1
            omega⟩
          rw [hlen] at p1
          refine ⟨v', c2, rfl, p2, g1, g2, ?_, fun h => by cases h⟩
          simp only [VRep, slRep] at hvv ⊢
          obtain ⟨ha, hb⟩ := hvv
          rw [p2]
          refine ⟨ha, .inr ⟨j, by rw [p1]; simp [upd], ?_⟩⟩
          rcases hb with hb | ⟨j', hj', hb⟩
          · exact hb.elim
          · simp only [two, Nat.one_ne_zero, if_false, if_true, Option.some.injEq] at hj'
            subst hj'
            exact hb
    · cases hb
  · cases hb

/-- A run's new row, and the struct that came in as it is then. -/
def finMof (T e : Ty) (r : AV × Heap) : Option (List e.C × T.C) :=
  match hget r.2 0 with
  | some ⟨.raw true es _ [a], _⟩ => bif (es == T.size) && T.isAgg then (a.as T).bind fun y => (match r.1 with | .sl 0 => none | _ => finF e r).map fun ys => (ys, y) else none
  | _ => none

section
variable {P : Program} {E : Env} {run : Run}
theorem lawMof (hT : TOk P E) (hC : CallsOk P E run) (hmix : P.follows .mixedOrders = true) {f : FuncId} {fn : Func} (hf : P.funcs[f]? = some fn) (hname : (fn.name == "runtime.NumGoroutine") = false) (hb : fn.body.isNone = false) (hpin : 0 < pinsOf E f) {k : Nat} {args : List AV} {e T : Ty} {x : T.C} {o : List e.C × T.C}
    (hk : abody E run k f fn (.ptr 0 0 0 :: args) [some ⟨objC T x, false⟩] (finMof T e) = some o) : LawMof P f args T x e o.1 o.2 := by
  obtain ⟨r, hfin, hw⟩ := told_body (lv := true) hT hC (regOk hT hmix hC) hf (fun h => by cases h) hk
  obtain ⟨rv, rh⟩ := r
  refine ⟨⟨fn, hf, hname, hb⟩, fun pr w i vs hp hrep hi hr => ?_⟩
  have h0 : ∀ id j, (alone pr w i).m id = some j → id = 0 ∧ j = i := fun id j hj => by
    simp only [alone] at hj
    split at hj
    · exact ⟨by assumption, by simpa using hj.symm⟩
    · cases hj
  have hs : Sim (alone pr w i) [some ⟨objC T x, false⟩] := by
    refine ⟨fun id j hid hj _ => ?_, fun id _ hd => hd.elim, fun id j hj _ hl => ?_, fun id id' j j' hj hj' _ _ _ _ _ => ?_, hp, fun id j hj _ hl => ?_, noOwn (fun _ _ h => h), fun id j fx e' xs' f hid hj _ hg => by obtain ⟨rfl, rfl⟩ := h0 id j hj; cases hg⟩
    · obtain ⟨rfl, rfl⟩ := h0 id j hj; exact ⟨_, rfl, hrep⟩
    · obtain ⟨rfl, rfl⟩ := h0 id j hj; exact (hi hl).1
    · rw [(h0 id j hj).1, (h0 id' j' hj').1]
    · obtain ⟨rfl, rfl⟩ := h0 id j hj; exact (hi hl).2
  have hfre : Fre (alone pr w i) [some ⟨objC T x, false⟩] := by
    intro id hid
    have : id ≠ 0 := by simp at hid; omega
    exact ⟨by simp [alone, this], fun h => h⟩
  refine (hw (alone pr w i) vs hs hfre hr).mono ?_
  rintro en w' ⟨v', c', rfl, rfl, hsi, hs', hf', hvr⟩
  have W := hsi.1
  have hm0 : c'.m 0 = some i := hsi.2.2 0 i hpin (by simp [alone])
  unfold finMof at hfin
  split at hfin
  · rename_i es z a fl hob
    cases hcond : ((es == T.size) && T.isAgg) with
    | false => rw [hcond] at hfin; cases hfin
    | true =>
      rw [hcond] at hfin
      simp only [cond_true] at hfin
      simp only [Bool.and_eq_true, beq_iff_eq] at hcond
      obtain ⟨rfl, hTa⟩ := hcond
      obtain ⟨y, hy, hfin⟩ := Option.bind_eq_some_iff.1 hfin
      obtain ⟨ys, hys, hx⟩ := Option.map_eq_some_iff.1 hfin
      clear hfin
      subst hx
      have hd := hs'.alive hob
      obtain ⟨o', ho, hrep2⟩ := hs'.obj 0 i (hget_lt hob) hm0 hd
      rw [hob] at ho
      simp only [Option.some.injEq] at ho
      subst ho
      have hif : ({ i with full := false } : Info) = i := by
        have := hrep.full
        cases i
        simp only at this
        subst this
        rfl
      have hrep3 : ∀ j, ObjRep (two c'.pr c'.w i j) { i with full := false } ⟨objC T y, false⟩ := fun j => obj_rep (c := c') (c2 := two c'.pr c'.w i j) rfl rfl hTa hy hrep2
      simp only [hif] at hrep3
      have hap : i.loc = true → ¬ c'.pr i.b := fun hl => hs'.apart 0 i hm0 hd hl
      have hframe : ∀ b, b < w.heap.size → (i.loc = true → i.b ≠ b) → c'.w.heap[b]? = w.heap[b]? := fun b hb hn => W.frame b hb fun ⟨id, hid, _, ha⟩ => by
        rcases ha with ha | ⟨j, hj, hl, he⟩
        · exact ha
        · obtain ⟨rfl, rfl⟩ := h0 id j hj
          exact hn hl he
      have hne : rv ≠ .sl 0 := fun h => by rw [h] at hys; cases hys
      have hys2 : finF e (rv, rh) = some ys := by
        revert hys
        split
        · intro h; cases h
        · exact id
      clear hys
      unfold finF at hys2
      by_cases hpos : Nat.blt 0 e.size = true
      · simp only [hpos, cond_true] at hys2
        have hes : 0 < e.size := by simpa [Nat.blt_eq] using hpos
        split at hys2
        · rename_i id
          split at hys2
          · rename_i t xs flj hobj
            split at hys2
            · rename_i hte
              subst hte
              simp only [Option.some.injEq] at hys2
              subst hys2
              have hdj := hs'.alive hobj
              have hvr' := hvr
              simp only [VRep, slRep] at hvr'
              obtain ⟨hany, hv⟩ := hvr'
              obtain ⟨j, hj, hcase⟩ := hv.resolve_left hdj
              have hid : id < rh.length := hget_lt hobj
              obtain ⟨ob, hob2, hrepj⟩ := hs'.obj id j hid hj hdj
              rw [hobj] at hob2
              simp only [Option.some.injEq] at hob2
              subst hob2
              have hid0 : id ≠ 0 := fun h => hne (by rw [h])
              refine ⟨v', c'.pr, { j with full := false }, rfl, ?_, hrep3 _, ⟨hrepj.len, hrepj.es, hrepj.pos, rfl, hrepj.loc, hrepj.blk, hrepj.cont⟩, hap, fun hl => ⟨?_, hs'.low id j hj hdj hl, hs'.apart id j hj hdj hl⟩, W.pr, W.pnew, hs'.plow, W.size, hframe, W.blk, W.os, W.tape, W.output⟩
              · simp only [VRep, slRep]
                refine ⟨hany, .inr ⟨{ j with full := false }, by simp [two], ?_⟩⟩
                rcases hcase with ⟨a1, cap, n, a2, a3, a4, a5, _⟩ | ⟨a1, a2, a3⟩
                · exact .inl ⟨a1, cap, n, a2, a3, a4, a5, fun h => by cases h⟩
                · exact .inr ⟨a1, a2, a3⟩
              · rcases W.own j.b ⟨id, hid, hdj, .inr ⟨j, hj, hl, rfl⟩⟩ with h | ⟨id0, g0, g1, g2⟩
                · exact h
                · rcases g2 with g2 | ⟨i0, g2, g3, g4⟩
                  · exact g2.elim
                  · obtain ⟨rfl, rfl⟩ := h0 id0 i0 g2
                    exact absurd (hs'.inj id 0 j i0 hj hm0 hdj hd hl g3 g4.symm) hid0
            · cases hys2
          · cases hys2
        · rename_i id off n
          split at hys2
          · rename_i t xs flj hobj
            split at hys2
            · rename_i hte
              subst hte
              simp only [Option.some.injEq] at hys2
              subst hys2
              obtain ⟨i2, g1, g2, g3⟩ := ss_own hs' hobj hvr hes
              have hdj := hs'.alive hobj
              have hid0 : id ≠ 0 := fun h => by rw [h, hob] at hobj; cases hobj
              refine ⟨v', c'.pr, i2, rfl, ?_, hrep3 _, ⟨g2.len, g2.es, g2.pos, g2.full, g2.loc, g2.blk, g2.cont⟩, hap, fun hl => ⟨?_, hs'.at_low hdj (g3 hl), hs'.at_apart hdj (g3 hl)⟩, W.pr, W.pnew, hs'.plow, W.size, hframe, W.blk, W.os, W.tape, W.output⟩
              · simp only [VRep]
                refine ⟨g1.1, .inr ?_⟩
                obtain ⟨j, hj, hrest⟩ := g1.2.resolve_left (fun h => h)
                simp only [alone, if_true, Option.some.injEq] at hj
                subst hj
                exact ⟨_, by simp [two], hrest⟩
              · rcases W.own i2.b ⟨id, hget_lt hobj, hdj, g3 hl⟩ with h | ⟨id0, q0, q1, q2⟩
                · exact h
                · rcases q2 with q2 | ⟨i0, q2, q3, q4⟩
                  · exact q2.elim
                  · obtain ⟨rfl, rfl⟩ := h0 id0 i0 q2
                    exact absurd (hs'.at_inj hdj hd (g3 hl) (.inr ⟨i0, hm0, q3, q4⟩)) hid0
            · cases hys2
          · cases hys2
        · simp only [Option.some.injEq] at hys2
          subst hys2
          simp only [VRep] at hvr
          obtain ⟨a, rfl⟩ := hvr
          refine ⟨_, c'.pr, (inf false 0 0 0 e.size false), rfl, ?_, hrep3 _, ⟨rfl, rfl, hes, rfl, (fun h => absurd h (Nat.lt_irrefl 0)), (fun h => by cases h), (fun k y hy => by simp at hy)⟩, hap, (fun h => by cases h), W.pr, W.pnew, hs'.plow, W.size, hframe, W.blk, W.os, W.tape, W.output⟩
          simp only [VRep, slRep]
          exact ⟨⟨_, _, _, rfl⟩, .inr ⟨(inf false 0 0 0 e.size false), by simp [two], .inr ⟨rfl, rfl, a, rfl⟩⟩⟩
        · cases hys2
      · simp only [Bool.not_eq_true] at hpos; simp [hpos] at hys2
  · cases hfin
end
theorem LawMof.reads {P : Program} {f : FuncId} {as bs : List AV} {T e : Ty} {x y : T.C} {zs : List e.C} (h : ReadsL as bs) (l : LawMof P f bs T x e zs y) : LawMof P f as T x e zs y :=
  ⟨l.1, fun pr w i vs hp hr hi hv => l.2 pr w i vs hp hr hi (by
    cases hvs : vs.toList with
    | nil => rw [hvs] at hv; simp [VReps] at hv
    | cons v0 vs' =>
      rw [hvs] at hv
      simp only [VReps] at hv ⊢
      exact ⟨hv.1, h _ _ hv.2⟩)⟩
end Go.AM
