/- An interpreter of the model's code over values that are told, and its soundness. -/
import Derived.Test.YtajlenpookikoaaAS33
namespace Go.AM

/-! A struct behind a pointer that is written, and a new row told. -/
def LawMof (P : Program) (f : FuncId) (args : List AV) (T : Ty) (x : T.C) (e : Ty) (zs : List e.C) (y : T.C) : Prop :=
  Enters P f ∧ ∀ (pr : Nat → Prop) (w : World) (i : Info) (vs : Array Value), (∀ b, pr b → b < w.heap.size) → ObjRep (alone pr w i) i ⟨objC T x, false⟩ → (i.loc = true → i.b < w.heap.size ∧ ¬ pr i.b) →
    VReps (alone pr w i) (.ptr 0 0 0 :: args) vs.toList → Calls P f vs w fun en w' =>
    ∃ v' pr' j, en = .returned v' ∧ VRep (two pr' w' i j) (.sl 1) v' ∧ ObjRep (two pr' w' i j) i ⟨objC T y, false⟩ ∧ ObjRep (two pr' w' i j) j ⟨.typed e zs, false⟩ ∧ (i.loc = true → ¬ pr' i.b) ∧ (j.loc = true → w.heap.size ≤ j.b ∧ j.b < w'.heap.size ∧ ¬ pr' j.b) ∧
      (∀ b, pr b → pr' b) ∧ (∀ b, pr' b → pr b ∨ w.heap.size ≤ b) ∧ (∀ b, pr' b → b < w'.heap.size) ∧ w.heap.size ≤ w'.heap.size ∧
      (∀ b, b < w.heap.size → (i.loc = true → i.b ≠ b) → w'.heap[b]? = w.heap[b]?) ∧ (∀ b n, Blk w b n → Blk w' b n) ∧ w'.os = w.os ∧ w'.tape = w.tape ∧ w'.output = w.output

/-- A contract of such a call. -/
def byMutOF (T e : Ty) (m : (ρ : Type) → List AV → T.C → (List e.C → T.C → Option ρ) → Option ρ) : Con := fun ρ args h K =>
  match args with
  | .ptr id 0 0 :: rest =>
    (match hget h id with
     | some ⟨.raw true es z [a], fl⟩ =>
       bif (es == T.size) && T.isAgg && rest.all noRef then (a.as T).bind fun x => m ρ rest x (fun zs y => K (.sl h.length) (h.set id (some ⟨.raw true es z [.tv T y], fl⟩) ++ [some ⟨.typed e zs, false⟩]) true) else none
     | _ => none)
  | _ => none

theorem con_byMutOF {P : Program} {f : FuncId} {T e : Ty} {m : (ρ : Type) → List AV → T.C → (List e.C → T.C → Option ρ) → Option ρ}
    (hm : ∀ (ρ : Type) args x (K : List e.C → T.C → Option ρ) (o : ρ), m ρ args x K = some o → ∃ zs y, K zs y = some o ∧ LawMof P f args T x e zs y) : ConOk P f (byMutOF T e m) := by
  intro ρ args h K o hb
  unfold byMutOF at hb
  split at hb
  · rename_i id rest
    split at hb
    · rename_i es z a fl hob
      cases hcond : ((es == T.size) && T.isAgg && rest.all noRef) with
      | false => rw [hcond] at hb; cases hb
      | true =>
        rw [hcond] at hb
        simp only [cond_true] at hb
        simp only [Bool.and_eq_true, beq_iff_eq] at hcond
        obtain ⟨⟨rfl, hT⟩, hn⟩ := hcond
        obtain ⟨x, ha, hb⟩ := Option.bind_eq_some_iff.1 hb
        obtain ⟨zs, y, hk, hent, hlaw⟩ := hm _ _ _ _ _ hb
        have hid : id < h.length := hget_lt hob
        refine ⟨_, _, true, hk, hent, (sta_setApp fun j hj => touch_ptr hj (List.mem_cons_self ..)), fun c vs hs hfree hr => ?_⟩
        have hd := hs.alive hob
        have hr' := hr
        cases hvs : vs.toList with
        | nil => rw [hvs] at hr'; simp [VReps] at hr'
        | cons v0 vs' =>
          rw [hvs] at hr'
          simp only [VReps, VRep, ptrRep] at hr'
          obtain ⟨⟨hany, hv⟩, hrest⟩ := hr'
          obtain ⟨i, hi, hix, hcase⟩ := hv.resolve_left hd
          obtain ⟨o', ho, hrep⟩ := hs.obj id i hid hi hd
          rw [hob] at ho
          simp only [Option.some.injEq] at ho
          subst ho
          have hz := hrep.cont
          have hrep0 := obj_rep (c := c) (c2 := alone c.pr c.w { i with full := false }) rfl rfl hT ha hrep
          have hargs : VReps (alone c.pr c.w { i with full := false }) (.ptr 0 0 0 :: rest) vs.toList := by
            rw [hvs]
            simp only [VReps, VRep, ptrRep]
            exact ⟨⟨hany, .inr ⟨{ i with full := false }, by simp [alone], hix, hcase⟩⟩, noRef_reps (c := c) (c2 := alone c.pr c.w { i with full := false }) rfl rfl hn hrest⟩
          refine (hlaw c.pr c.w { i with full := false } vs hs.plow hrep0 (fun hl => ⟨hs.low id i hi hd hl, hs.apart id i hi hd hl⟩) hargs).mono ?_
          rintro en w' ⟨v', pr', j, rfl, hvv, hrep2, hrepj, hap, hj, q1, q2, q3, q4, q5, q6, q7, q8, q9⟩
          have hkeep : ∀ b, c.pr b → w'.heap[b]? = c.w.heap[b]? := fun b hp => q5 b (hs.plow b hp) fun hl e => hs.apart id i hi hd hl (by rw [← e] at hp; exact hp)
          have t2 : Tells c { c with pr := pr', w := w' } := ⟨fun _ _ h => h, fun _ h => h, ⟨q1, hkeep⟩, q6⟩
          have hlen : (h.set id (some ⟨.raw true T.size z [.tv T y], fl⟩)).length = h.length := by simp
          have hS : Sim { c with pr := pr', w := w' } (h.set id (some ⟨.raw true T.size z [.tv T y], fl⟩)) := by
            refine ⟨fun id' i' h1 h2 h3 => ?_, fun id' h1 h2 => ?_, fun id' i' h1 h2 h3 => Nat.lt_of_lt_of_le (hs.low id' i' h1 h2 h3) q4, hs.inj, q3, fun id' i' h1 h2 h3 hp => ?_, hs.own.step rfl (fun _ h => h) (fun _ _ h => h) q4 q2 (fun id' i' h1 h2 h3 => hs.own.off h1 h2 h3), fun id' i' fx e' xs' f h1 h2 h3 h4 => by
                  by_cases he : id' = id
                  · subst he; rw [hget_set_same hid] at h4; cases h4
                  · rw [hlen] at h1
                    rw [hget_set_other he] at h4
                    exact hs.deepStay h1 h2 h3 h4 (fun _ h => h) fun b hb => q5 b (hs.at_low h3 hb) fun hl e => he (hs.at_inj h3 hd hb (.inr ⟨i, hi, hl, e⟩))⟩
            · by_cases he : id' = id
              · subst he
                have : i' = i := by rw [hi] at h2; simpa using h2.symm
                subst this
                exact ⟨_, hget_set_same hid, obj_back (c := two pr' w' { i' with full := false } j) (c2 := { c with pr := pr', w := w' }) rfl rfl hT hrep2 rfl hrep.full ⟨hz.1, hz.2.1⟩⟩
              · rw [hlen] at h1
                obtain ⟨o', ho', hr''⟩ := hs.obj id' i' h1 h2 h3
                exact ⟨o', by rw [hget_set_other he]; exact ho', hr''.mono t2 fun hl => q5 _ (hs.low id' i' h2 h3 hl) fun hl' e => he (hs.inj id' id i' i h2 hi h3 hd hl hl' e.symm)⟩
            · have he : id' ≠ id := fun e => hd (e ▸ h2)
              rw [hlen] at h1
              rw [hget_set_other he]; exact hs.gone id' h1 h2
            · by_cases he : id' = id
              · subst he
                have : i' = i := by rw [hi] at h1; simpa using h1.symm
                subst this
                exact hap h3 hp
              · rcases q2 _ hp with hp | hp
                · exact hs.apart id' i' h1 h2 h3 hp
                · have := hs.low id' i' h1 h2 h3; omega
          have hX : Ext c h { c with pr := pr', w := w' } (h.set id (some ⟨.raw true T.size z [.tv T y], fl⟩)) := ⟨⟨q1, q4, hkeep, q6, fun b hb hn2 => q5 b hb fun hl e => hn2 ⟨id, hid, hd, .inr ⟨i, hi, hl, e⟩⟩, fun b hh => .inr (by obtain ⟨id', h1, h2, h3⟩ := hh; exact ⟨id', by simpa using h1, h2, h3⟩), q2, q7, q8, q9⟩, by simp, fun _ _ h => h, fun _ _ h h' => absurd (h'.symm.trans h) (by simp), fun _ h => h, fun _ h => .inl h⟩
          have hfr := hfree h.length (Nat.le_refl _) (by simp)
          have hrj : ObjRep { c with pr := pr', w := w' } j ⟨.typed e zs, false⟩ := ⟨hrepj.len, hrepj.es, hrepj.pos, hrepj.full, hrepj.loc, hrepj.blk, hrepj.cont⟩
          obtain ⟨c2, p1, p2, p3, p4, g1, g2, _⟩ := own_add2 hX hS (by rw [hlen]; exact hfr) hrj rfl fun hl => ⟨(hj hl).1, (hj hl).2.1, (hj hl).2.2, fun id' h1 h2 => by
            have := hs.at_low (id := id') (b := j.b) h1 h2
            have := (hj hl).1
            omega⟩
          rw [hlen] at p1
          refine ⟨v', c2, rfl, p2, g1, g2, ?_, fun h => by cases h⟩
          simp only [VRep, slRep] at hvv ⊢
          obtain ⟨ha, hb⟩ := hvv
          rw [p2]
          refine ⟨ha, .inr ⟨j, by rw [p1]; simp [upd], ?_⟩⟩
          rcases hb with hb | ⟨j', hj', hb⟩
          · exact hb.elim
          · simp only [two, Nat.one_ne_zero, if_false, if_true, Option.some.injEq] at hj'
            subst hj'
            exact hb
    · cases hb
  · cases hb

/-- A run's new row, and the struct that came in as it is then. -/
def finMof (T e : Ty) (r : AV × Heap) : Option (List e.C × T.C) :=
  match hget r.2 0 with
  | some ⟨.raw true es _ [a], _⟩ => bif (es == T.size) && T.isAgg then (a.as T).bind fun y => (match r.1 with | .sl 0 => none | _ => finF e r).map fun ys => (ys, y) else none
  | _ => none

section
variable {P : Program} {E : Env} {run : Run}
theorem lawMof (hT : TOk P E) (hC : CallsOk P E run) (hmix : P.follows .mixedOrders = true) {f : FuncId} {fn : Func} (hf : P.funcs[f]? = some fn) (hname : (fn.name == "runtime.NumGoroutine") = false) (hb : fn.body.isNone = false) (hpin : 0 < pinsOf E f) {k : Nat} {args : List AV} {e T : Ty} {x : T.C} {o : List e.C × T.C}
    (hk : abody E run k f fn (.ptr 0 0 0 :: args) [some ⟨objC T x, false⟩] (finMof T e) = some o) : LawMof P f args T x e o.1 o.2 := by
  obtain ⟨r, hfin, hw⟩ := told_body (lv := true) hT hC (regOk hT hmix hC) hf (fun h => by cases h) hk
  obtain ⟨rv, rh⟩ := r
  refine ⟨⟨fn, hf, hname, hb⟩, fun pr w i vs hp hrep hi hr => ?_⟩
  have h0 : ∀ id j, (alone pr w i).m id = some j → id = 0 ∧ j = i := fun id j hj => by
    simp only [alone] at hj
    split at hj
    · exact ⟨by assumption, by simpa using hj.symm⟩
    · cases hj
  have hs : Sim (alone pr w i) [some ⟨objC T x, false⟩] := by
    refine ⟨fun id j hid hj _ => ?_, fun id _ hd => hd.elim, fun id j hj _ hl => ?_, fun id id' j j' hj hj' _ _ _ _ _ => ?_, hp, fun id j hj _ hl => ?_, noOwn (fun _ _ h => h), fun id j fx e' xs' f hid hj _ hg => by obtain ⟨rfl, rfl⟩ := h0 id j hj; cases hg⟩
    · obtain ⟨rfl, rfl⟩ := h0 id j hj; exact ⟨_, rfl, hrep⟩
    · obtain ⟨rfl, rfl⟩ := h0 id j hj; exact (hi hl).1
    · rw [(h0 id j hj).1, (h0 id' j' hj').1]
    · obtain ⟨rfl, rfl⟩ := h0 id j hj; exact (hi hl).2
  have hfre : Fre (alone pr w i) [some ⟨objC T x, false⟩] := by
    intro id hid
    have : id ≠ 0 := by simp at hid; omega
    exact ⟨by simp [alone, this], fun h => h⟩
  refine (hw (alone pr w i) vs hs hfre hr).mono ?_
  rintro en w' ⟨v', c', rfl, rfl, hsi, hs', hf', hvr⟩
  have W := hsi.1
  have hm0 : c'.m 0 = some i := hsi.2.2 0 i hpin (by simp [alone])
  unfold finMof at hfin
  split at hfin
  · rename_i es z a fl hob
    cases hcond : ((es == T.size) && T.isAgg) with
    | false => rw [hcond] at hfin; cases hfin
    | true =>
      rw [hcond] at hfin
      simp only [cond_true] at hfin
      simp only [Bool.and_eq_true, beq_iff_eq] at hcond
      obtain ⟨rfl, hTa⟩ := hcond
      obtain ⟨y, hy, hfin⟩ := Option.bind_eq_some_iff.1 hfin
      obtain ⟨ys, hys, hx⟩ := Option.map_eq_some_iff.1 hfin
      clear hfin
      subst hx
      have hd := hs'.alive hob
      obtain ⟨o', ho, hrep2⟩ := hs'.obj 0 i (hget_lt hob) hm0 hd
      rw [hob] at ho
      simp only [Option.some.injEq] at ho
      subst ho
      have hif : ({ i with full := false } : Info) = i := by
        have := hrep.full
        cases i
        simp only at this
        subst this
        rfl
      have hrep3 : ∀ j, ObjRep (two c'.pr c'.w i j) { i with full := false } ⟨objC T y, false⟩ := fun j => obj_rep (c := c') (c2 := two c'.pr c'.w i j) rfl rfl hTa hy hrep2
      simp only [hif] at hrep3
      have hap : i.loc = true → ¬ c'.pr i.b := fun hl => hs'.apart 0 i hm0 hd hl
      have hframe : ∀ b, b < w.heap.size → (i.loc = true → i.b ≠ b) → c'.w.heap[b]? = w.heap[b]? := fun b hb hn => W.frame b hb fun ⟨id, hid, _, ha⟩ => by
        rcases ha with ha | ⟨j, hj, hl, he⟩
        · exact ha
        · obtain ⟨rfl, rfl⟩ := h0 id j hj
          exact hn hl he
      have hne : rv ≠ .sl 0 := fun h => by rw [h] at hys; cases hys
      have hys2 : finF e (rv, rh) = some ys := by
        revert hys
        split
        · intro h; cases h
        · exact id
      clear hys
      unfold finF at hys2
      by_cases hpos : Nat.blt 0 e.size = true
      · simp only [hpos, cond_true] at hys2
        have hes : 0 < e.size := by simpa [Nat.blt_eq] using hpos
        split at hys2
        · rename_i id
          split at hys2
          · rename_i t xs flj hobj
            split at hys2
            · rename_i hte
              subst hte
              simp only [Option.some.injEq] at hys2
              subst hys2
              have hdj := hs'.alive hobj
              have hvr' := hvr
              simp only [VRep, slRep] at hvr'
              obtain ⟨hany, hv⟩ := hvr'
              obtain ⟨j, hj, hcase⟩ := hv.resolve_left hdj
              have hid : id < rh.length := hget_lt hobj
              obtain ⟨ob, hob2, hrepj⟩ := hs'.obj id j hid hj hdj
              rw [hobj] at hob2
              simp only [Option.some.injEq] at hob2
              subst hob2
              have hid0 : id ≠ 0 := fun h => hne (by rw [h])
              refine ⟨v', c'.pr, { j with full := false }, rfl, ?_, hrep3 _, ⟨hrepj.len, hrepj.es, hrepj.pos, rfl, hrepj.loc, hrepj.blk, hrepj.cont⟩, hap, fun hl => ⟨?_, hs'.low id j hj hdj hl, hs'.apart id j hj hdj hl⟩, W.pr, W.pnew, hs'.plow, W.size, hframe, W.blk, W.os, W.tape, W.output⟩
              · simp only [VRep, slRep]
                refine ⟨hany, .inr ⟨{ j with full := false }, by simp [two], ?_⟩⟩
                rcases hcase with ⟨a1, cap, n, a2, a3, a4, a5, _⟩ | ⟨a1, a2, a3⟩
                · exact .inl ⟨a1, cap, n, a2, a3, a4, a5, fun h => by cases h⟩
                · exact .inr ⟨a1, a2, a3⟩
              · rcases W.own j.b ⟨id, hid, hdj, .inr ⟨j, hj, hl, rfl⟩⟩ with h | ⟨id0, g0, g1, g2⟩
                · exact h
                · rcases g2 with g2 | ⟨i0, g2, g3, g4⟩
                  · exact g2.elim
                  · obtain ⟨rfl, rfl⟩ := h0 id0 i0 g2
                    exact absurd (hs'.inj id 0 j i0 hj hm0 hdj hd hl g3 g4.symm) hid0
            · cases hys2
          · cases hys2
        · rename_i id off n
          split at hys2
          · rename_i t xs flj hobj
            split at hys2
            · rename_i hte
              subst hte
              simp only [Option.some.injEq] at hys2
              subst hys2
              obtain ⟨i2, g1, g2, g3⟩ := ss_own hs' hobj hvr hes
              have hdj := hs'.alive hobj
              have hid0 : id ≠ 0 := fun h => by rw [h, hob] at hobj; cases hobj
              refine ⟨v', c'.pr, i2, rfl, ?_, hrep3 _, ⟨g2.len, g2.es, g2.pos, g2.full, g2.loc, g2.blk, g2.cont⟩, hap, fun hl => ⟨?_, hs'.at_low hdj (g3 hl), hs'.at_apart hdj (g3 hl)⟩, W.pr, W.pnew, hs'.plow, W.size, hframe, W.blk, W.os, W.tape, W.output⟩
              · simp only [VRep]
                refine ⟨g1.1, .inr ?_⟩
                obtain ⟨j, hj, hrest⟩ := g1.2.resolve_left (fun h => h)
                simp only [alone, if_true, Option.some.injEq] at hj
                subst hj
                exact ⟨_, by simp [two], hrest⟩
              · rcases W.own i2.b ⟨id, hget_lt hobj, hdj, g3 hl⟩ with h | ⟨id0, q0, q1, q2⟩
                · exact h
                · rcases q2 with q2 | ⟨i0, q2, q3, q4⟩
                  · exact q2.elim
                  · obtain ⟨rfl, rfl⟩ := h0 id0 i0 q2
                    exact absurd (hs'.at_inj hdj hd (g3 hl) (.inr ⟨i0, hm0, q3, q4⟩)) hid0
            · cases hys2
          · cases hys2
        · simp only [Option.some.injEq] at hys2
          subst hys2
          simp only [VRep] at hvr
          obtain ⟨a, rfl⟩ := hvr
          refine ⟨_, c'.pr, (inf false 0 0 0 e.size false), rfl, ?_, hrep3 _, ⟨rfl, rfl, hes, rfl, (fun h => absurd h (Nat.lt_irrefl 0)), (fun h => by cases h), (fun k y hy => by simp at hy)⟩, hap, (fun h => by cases h), W.pr, W.pnew, hs'.plow, W.size, hframe, W.blk, W.os, W.tape, W.output⟩
          simp only [VRep, slRep]
          exact ⟨⟨_, _, _, rfl⟩, .inr ⟨(inf false 0 0 0 e.size false), by simp [two], .inr ⟨rfl, rfl, a, rfl⟩⟩⟩
        · cases hys2
      · simp only [Bool.not_eq_true] at hpos; simp [hpos] at hys2
  · cases hfin
end
theorem LawMof.reads {P : Program} {f : FuncId} {as bs : List AV} {T e : Ty} {x y : T.C} {zs : List e.C} (h : ReadsL as bs) (l : LawMof P f bs T x e zs y) : LawMof P f as T x e zs y :=
  ⟨l.1, fun pr w i vs hp hr hi hv => l.2 pr w i vs hp hr hi (by
    cases hvs : vs.toList with
    | nil => rw [hvs] at hv; simp [VReps] at hv
    | cons v0 vs' =>
      rw [hvs] at hv
      simp only [VReps] at hv ⊢
      exact ⟨hv.1, h _ _ hv.2⟩)⟩
end Go.AM
namespace Go.AM

/-! Values of the caller's own, with all that they lead to: told anew by a call. -/
/-- How many rows a value leads to straight. -/
def rowsT : Ty → Nat
  | .row _ => 1
  | .pair a b => rowsT a + rowsT b
  | _ => 0
/-- The cells of such a value, its rows numbered from n on. -/
def expl : (t : Ty) → t.C → Nat → List AV
  | .int k, x, _ => [.int k x]
  | .bool, x, _ => [.bool x]
  | .str, x, _ => [.str x]
  | .row _, _, n => [.sl n]
  | .pair a b, x, n => expl a x.1 n ++ expl b x.2 (n + rowsT a)
  | _, _, _ => []
def contD (fx : Bool) (e : Ty) (xs : List e.C) : Cont := bif flatT e then .typed e xs else .deep fx e xs
def objsD (fx : Bool) : (t : Ty) → t.C → Heap
  | .row e, xs => [some ⟨contD fx e xs, false⟩]
  | .pair a b, x => objsD fx a x.1 ++ objsD fx b x.2
  | _, _ => []
/-- Rows of elements that have cells; no trees. -/
def posT : Ty → Bool
  | .row e => Nat.blt 0 e.size
  | .pair a b => posT a && posT b
  | .node => false
  | _ => true
def ownV (t : Ty) (cs : List AV) : AV := bif t.isAgg then .agg cs else cs.headD .undef

theorem objsD_len (fx : Bool) : ∀ (t : Ty) (x : t.C), (objsD fx t x).length = rowsT t := by
  intro t
  induction t with
  | pair a b iha ihb => intro x; simp [objsD, rowsT, iha, ihb]
  | _ => intro x; rfl

theorem contD_len {fx : Bool} {e : Ty} {xs : List e.C} : (contD fx e xs).len = List.length xs ∧ (contD fx e xs).es = e.size := by
  unfold contD; cases flatT e <;> exact ⟨rfl, rfl⟩

/-- Rows told anew. -/
theorem expl_ok {c : Ctx} {h : Heap} (fx : Bool) : ∀ {t : Ty} {x : t.C} {us : List Value} {F : Nat → Prop} {c1 : Ctx} {h1 : Heap}, Ext c h c1 h1 → Sim c1 h1 → (∀ id, h1.length ≤ id → id < h1.length + rowsT t → c1.m id = none ∧ ¬ c1.dead id) →
    DCells c1.w t x us F → (∀ b, F b → c.Fresh c1 b) → posT t = true →
    ∃ c2, c2.w = c1.w ∧ c2.pr = c1.pr ∧ c2.dead = c1.dead ∧ (∀ id, h1.length + rowsT t ≤ id → c2.m id = c1.m id) ∧ (∀ id b, c2.at id b → c1.at id b ∨ F b) ∧ Ext c h c2 (h1 ++ objsD fx t x) ∧ Sim c2 (h1 ++ objsD fx t x) ∧ (Grow c h c1 h1 → Grow c h c2 (h1 ++ objsD fx t x)) ∧ Tells c1 c2 ∧
      VReps c2 (expl t x h1.length) us := by
  intro t
  induction t with
  | int k => intro x us F c1 h1 hE hS hf hD hF hp; cases hD; exact ⟨c1, rfl, rfl, rfl, fun _ _ => rfl, fun _ _ h => .inl h, by simpa [objsD] using hE, by simpa [objsD] using hS, fun G => by simpa [objsD] using G, Tells.refl c1, by simp [expl, VReps, VRep]⟩
  | bool => intro x us F c1 h1 hE hS hf hD hF hp; cases hD; exact ⟨c1, rfl, rfl, rfl, fun _ _ => rfl, fun _ _ h => .inl h, by simpa [objsD] using hE, by simpa [objsD] using hS, fun G => by simpa [objsD] using G, Tells.refl c1, by simp [expl, VReps, VRep]⟩
  | str => intro x us F c1 h1 hE hS hf hD hF hp; cases hD; exact ⟨c1, rfl, rfl, rfl, fun _ _ => rfl, fun _ _ h => .inl h, by simpa [objsD] using hE, by simpa [objsD] using hS, fun G => by simpa [objsD] using G, Tells.refl c1, by simp [expl, VReps, VRep]⟩
  | unit => intro x us F c1 h1 hE hS hf hD hF hp; cases hD; exact ⟨c1, rfl, rfl, rfl, fun _ _ => rfl, fun _ _ h => .inl h, by simpa [objsD] using hE, by simpa [objsD] using hS, fun G => by simpa [objsD] using G, Tells.refl c1, by simp [expl, VReps]⟩
  | node => intro x us F c1 h1 hE hS hf hD hF hp; cases hp
  | pair a b iha ihb =>
    rintro x us F c1 h1 hE hS hf ⟨l, r, L, R, rfl, hL, hR, hLR, hl, hr⟩ hF hp
    simp only [posT, Bool.and_eq_true] at hp
    obtain ⟨c2, a1, a2, a3, a4, a5, a6, a7, a8, a9, a10⟩ := iha hE hS (fun id q1 q2 => hf id q1 (by simp only [rowsT]; omega)) hl (fun k hk => hF k (hL k hk)) hp.1
    have hlen : (h1 ++ objsD fx a x.1).length = h1.length + rowsT a := by rw [List.length_append, objsD_len]
    obtain ⟨c3, b1, b2, b3, b4, b5, b6, b7, b8, b9, b10⟩ := ihb a6 a7 (fun id q1 q2 => by
      rw [hlen] at q1 q2
      rw [a3, a4 id q1]; exact hf id (by omega) (by simp only [rowsT]; omega)) (by rw [a1]; exact hr) (fun k hk => by
      obtain ⟨f1, f2, f3, f4⟩ := hF k (hR k hk)
      refine ⟨f1, by rw [a1]; exact f2, by rw [a2]; exact f3, fun id hd ha => ?_⟩
      rw [a3] at hd
      rcases a5 id k ha with ha | ha
      · exact f4 id hd ha
      · exact hLR k ha hk) hp.2
    rw [hlen] at b4 b10
    rw [List.append_assoc] at b6 b7 b8
    refine ⟨c3, b1.trans a1, b2.trans a2, b3.trans a3, fun id hid => ?_, fun id k hk => ?_, b6, b7, fun G => b8 (a8 G), ⟨fun id j q => b9.m _ _ (a9.m _ _ q), fun id q => b9.dead _ (a9.dead _ q), ⟨fun k q => b9.k.pr _ (a9.k.pr _ q), fun k q => (b9.k.keep _ (a9.k.pr _ q)).trans (a9.k.keep _ q)⟩, fun k n q => b9.blk _ _ (a9.blk _ _ q)⟩, ?_⟩
    · simp only [rowsT] at hid; rw [b4 id (by omega), a4 id (by omega)]
    · rcases b5 id k hk with q | q
      · exact (a5 id k q).imp_right (hL k)
      · exact .inr (hR k q)
    · exact (VReps.mono b9 a10).append b10
  | row e _ =>
    intro x us F c1 h1 hE hS hf hD hF hp
    have hpos : 0 < e.size := by simpa [posT, Nat.blt_eq] using hp
    have hfr := hf h1.length (Nat.le_refl _) (by simp [rowsT])
    obtain ⟨hcl, hce⟩ := contD_len (fx := fx) (e := e) (xs := x)
    have add : ∀ (i : Info) (O : Nat → Prop), ObjRep c1 i ⟨contD fx e x, false⟩ → (∀ b, O b → F b) → (i.loc = true → F i.b ∧ ¬ O i.b) → (∀ c2 : Ctx, c2.w = c1.w → (∀ b, O b → c2.own h1.length b) → ∀ fx' e' xs', contD fx e x = .deep fx' e' xs' → DeepRow c2 h1.length i fx' e' xs') →
        (∀ c2 : Ctx, c2.m h1.length = some i → c2.w = c1.w → VReps c2 [.sl h1.length] us) →
        ∃ c2, c2.w = c1.w ∧ c2.pr = c1.pr ∧ c2.dead = c1.dead ∧ (∀ id, h1.length + rowsT (.row e) ≤ id → c2.m id = c1.m id) ∧ (∀ id b, c2.at id b → c1.at id b ∨ F b) ∧ Ext c h c2 (h1 ++ objsD fx (.row e) x) ∧ Sim c2 (h1 ++ objsD fx (.row e) x) ∧ (Grow c h c1 h1 → Grow c h c2 (h1 ++ objsD fx (.row e) x)) ∧ Tells c1 c2 ∧
          VReps c2 (expl (.row e) x h1.length) us := by
      intro i O hrep hO hloc hdeep hv
      let c2 : Ctx := { c1 with m := upd c1.m h1.length i, own := fun k b => c1.own k b ∨ (k = h1.length ∧ O b) }
      obtain ⟨k1, k2, k3, k4⟩ := own_addO hE hS hfr hrep (O := O) (fun b hb => hF b (hO b hb)) (fun hl => ⟨hF _ (hloc hl).1, (hloc hl).2⟩) (fun fx' e' xs' hc => hdeep c2 rfl (fun b hb => Or.inr ⟨rfl, hb⟩) fx' e' xs' hc)
      refine ⟨c2, rfl, rfl, rfl, fun id hid => ?_, fun id b hb => ?_, k1, k2, k3, k4, hv c2 (by simp [c2, upd]) rfl⟩
      · simp only [rowsT] at hid
        have : id ≠ h1.length := by omega
        simp [c2, upd, this]
      · rcases hb with (hb | ⟨_, hb⟩) | ⟨j, hj, hl, rfl⟩
        · exact .inl (.inl hb)
        · exact .inr (hO b hb)
        · by_cases hid : id = h1.length
          · simp [c2, upd, hid] at hj; subst hj; exact .inr (hloc hl).1
          · simp [c2, upd, hid] at hj; exact .inl (.inr ⟨j, hj, hl, rfl⟩)
    rcases hD with ⟨h0, a, rfl⟩ | ⟨b, o, cap, n, rfl, hle, hb, hblk, hn, hrow⟩
    · have hx0 : x = [] := List.eq_nil_of_length_eq_zero h0
      subst hx0
      refine add (inf false 0 0 0 e.size false) (fun _ => False) ⟨by rw [hcl]; rfl, hce.symm, hpos, rfl, fun h => absurd h (Nat.lt_irrefl 0), fun h => (by cases h), ?_⟩ (fun _ h => h.elim) (fun h => (by cases h)) (fun c2 _ _ fx' e' xs' hc => ?_) (fun c2 hm _ => ?_)
      · unfold contD
        cases flatT e <;> exact fun j y hj => by simp at hj
      · unfold contD at hc
        cases hfe : flatT e with
        | true => rw [hfe] at hc; cases hc
        | false =>
          rw [hfe] at hc; cases hc
          exact ⟨⟨fun _ _ => False, fun _ _ h => h.elim, fun _ _ _ h => h.elim, fun j y hj => by simp at hj⟩, fun _ idx sub v h => by simp at h, fun _ _ _ h => h.elim⟩
      · simp only [VReps, VRep, slRep, and_true]
        exact ⟨⟨_, _, _, rfl⟩, .inr ⟨_, hm, .inr ⟨rfl, rfl, a, rfl⟩⟩⟩
    · obtain ⟨G, g1, g2, g3⟩ := hrow
      have hmul : List.length x * e.size ≤ cap * e.size := Nat.mul_le_mul_right _ hle
      refine add { loc := true, b := b, base := o, len := List.length x, es := e.size, full := false, hd := fun idx sub v => (fx = true ∧ flatT e = false) ∧ idx < List.length x ∧ (rowAt e sub).isSome = true ∧ cellAt c1.w b (o + idx * e.size + sub) = some v } (fun k => F k ∧ k ≠ b)
        ⟨hcl.symm, hce.symm, hpos, rfl, fun _ => rfl, fun _ => ⟨n, hblk, by simp only; omega⟩, ?_⟩ (fun _ h => h.1) (fun _ => ⟨hb, fun h => h.2 rfl⟩) (fun c2 hw ho fx' e' xs' hc => ?_) (fun c2 hm hw => ?_)
      · unfold contD
        cases hfe : flatT e with
        | true =>
          intro j y hj
          obtain ⟨vs, q1, q2, q3⟩ := g3 j y hj
          exact ⟨vs, q1, q2, flat_cells hfe (q3.cells (G := G j) fun _ h => h)⟩
        | false => exact DRow.rep (F := F) ⟨G, g1, g2, g3⟩
      · unfold contD at hc
        cases hfe : flatT e with
        | true => rw [hfe] at hc; cases hc
        | false =>
          rw [hfe] at hc; cases hc
          refine ⟨⟨G, fun j k hk => ⟨ho k (g1 j k hk), (g1 j k hk).2⟩, g2, fun j y hj => ?_⟩, fun hfx idx sub v p1 p2 p3 => ⟨⟨hfx, rfl⟩, p1, p2, by rw [hw] at p3; exact p3⟩, fun idx sub v p => ⟨p.1.1, p.2.1, p.2.2.1, by rw [hw]; exact p.2.2.2⟩⟩
          obtain ⟨vs, q1, q2, q3⟩ := g3 j y hj
          exact ⟨vs, q1, by rw [hw]; exact q2, by rw [hw]; exact q3⟩
      · simp only [VReps, VRep, slRep, and_true]
        exact ⟨⟨_, _, _, rfl⟩, .inr ⟨_, hm, .inl ⟨rfl, cap, n, rfl, hle, by rw [hw]; exact hblk, hn, fun h => by cases h⟩⟩⟩

/-- A value's cells, as of a type. -/
def CellsOf (t : Ty) (v : Value) (us : List Value) : Prop := if t.isAgg = true then ∃ A : Array Value, v = .agg A ∧ A.toList = us else us = [v]

theorem ownV_rep {c : Ctx} {t : Ty} {cs : List AV} {v : Value} {us : List Value} (ho : CellsOf t v us) (hr : VReps c cs us) : VRep c (ownV t cs) v := by
  unfold CellsOf at ho
  unfold ownV
  cases ht : t.isAgg with
  | true =>
    rw [if_pos ht] at ho
    obtain ⟨A, rfl, rfl⟩ := ho
    simp only [cond_true, VRep]
    exact ⟨A, rfl, hr⟩
  | false =>
    rw [if_neg (by simp [ht])] at ho
    subst ho
    match cs, hr with
    | [a], hr => simp only [VReps, and_true] at hr; exact hr
    | [], hr => simp [VReps] at hr
    | _ :: _ :: _, hr => simp [VReps] at hr

/-- What is told of a call whose result is new, with all that it leads to. -/
def LawD (P : Program) (f : FuncId) (args : List AV) (t : Ty) (x : t.C) : Prop :=
  Enters P f ∧ ∀ (pr : Nat → Prop) (w : World) (vs : Array Value), (∀ b, pr b → b < w.heap.size) → VReps (still0 pr w) args vs.toList → Calls P f vs w fun en w' =>
    ∃ v' us F, en = .returned v' ∧ CellsOf t v' us ∧ DCells w' t x us F ∧ (∀ b, F b → w.heap.size ≤ b ∧ b < w'.heap.size) ∧ w.heap.size ≤ w'.heap.size ∧
      (∀ b, b < w.heap.size → w'.heap[b]? = w.heap[b]?) ∧ w'.os = w.os ∧ w'.tape = w.tape ∧ w'.output = w.output

/-- A contract by value, whose result is the caller's own. -/
def byNew (t : Ty) (m : (ρ : Type) → List AV → (t.C → Option ρ) → Option ρ) : Con := fun ρ args h K =>
  m ρ (args.map (deref h 8)) fun x => bif posT t then K (ownV t (expl t x h.length)) (h ++ objsD false t x) false else none

theorem con_byNew {P : Program} {f : FuncId} {t : Ty} {m : (ρ : Type) → List AV → (t.C → Option ρ) → Option ρ} (hm : ∀ (ρ : Type) args (K : t.C → Option ρ) (x : ρ), m ρ args K = some x → ∃ y, K y = some x ∧ LawD P f args t y) : ConOk P f (byNew t m) := by
  intro ρ args h K x hb
  unfold byNew at hb
  obtain ⟨y, hv1, hent, hlaw⟩ := hm _ _ _ _ hb
  by_cases hc : posT t = true
  · simp only [hc, cond_true] at hv1
    refine ⟨_, _, false, hv1, hent, (Pre.snoc h _).sta _, fun c vs hs hf hr => ?_⟩
    refine (hlaw c.still.pr c.w vs hs.still_low (deref_reps (deref_rep hs 8) hr)).mono ?_
    rintro en w' ⟨v', us, F, rfl, ho, hD, hF, q4, q5, q6, q7, q8⟩
    obtain ⟨k1, k2, k3⟩ := byVal_state hs (pr' := c.pr) (fun _ h => h) (fun _ h => .inl h) (fun b hb => Nat.lt_of_lt_of_le (hs.plow b hb) q4) q4 q5 q6 q7 q8
    obtain ⟨c2, a1, a2, a3, a4, a5, a6, a7, a8, a9, a10⟩ := expl_ok false k1 k2 (fun id p1 p2 => hf id p1 (by rw [List.length_append, objsD_len]; exact p2)) hD (fun b hb => ⟨(hF b hb).1, (hF b hb).2, fun hp => by have := hs.plow b hp; have := (hF b hb).1; omega, fun id hd ha => by have := hs.at_low (id := id) (b := b) hd ha; have := (hF b hb).1; omega⟩) hc
    exact ⟨v', c2, rfl, a1, a6, a7, ownV_rep ho a10, fun _ => a8 k3⟩
  · simp only [Bool.not_eq_true] at hc; rw [hc] at hv1; cases hv1

/-- A result that is the run's own. -/
def finD (t : Ty) (r : AV × Heap) : Option t.C :=
  bif r.1.isAgg == t.isAgg then (takeT r.2 t r.1.cells).bind fun x => bif once x.2 then some x.1 else none else none

/-- What a run's end tells of its result. -/
theorem fin_own {c' : Ctx} {rh : Heap} {rv : AV} {v' : Value} (hs' : Sim c' rh) (hvr : VRep c' rv v') {t : Ty} {x : t.C} (hfin : finD t (rv, rh) = some x) :
    ∃ (us : List Value) (ids : List Nat), CellsOf t v' us ∧ DCells c'.w t x us (fun b => ∃ id, id ∈ ids ∧ c'.at id b) ∧ ∀ id, id ∈ ids → id < rh.length ∧ ¬ c'.dead id ∧ c'.m id ≠ none := by
  unfold finD at hfin
  by_cases hag : (rv.isAgg == t.isAgg) = true
  · simp only [hag, cond_true] at hfin
    obtain ⟨⟨y, ids⟩, hy, hfin⟩ := Option.bind_eq_some_iff.1 hfin
    by_cases ho : once ids = true
    · simp only [ho, cond_true, Option.some.injEq] at hfin
      subst hfin
      simp only [beq_iff_eq] at hag
      obtain ⟨q1, q2⟩ := hvr.cells (take_one hy)
      obtain ⟨d1, d2⟩ := take_rep hs' q1 hy (once_ok ho)
      refine ⟨_, ids, ?_, d1, d2⟩
      unfold CellsOf
      cases ht : t.isAgg with
      | true =>
        rw [if_pos rfl]
        obtain ⟨vs, hv, _⟩ := hvr.agg (hag.trans ht)
        exact ⟨vs, hv, by rw [hv]; rfl⟩
      | false =>
        rw [if_neg (by simp)]
        have hcs := AV.cells_one (hag.trans ht)
        rw [hcs] at q1
        have h1 := hvr.one (by have := take_one hy; rw [hcs] at this; simpa using this)
        rw [one_cells h1]
    · simp only [Bool.not_eq_true] at ho; rw [ho] at hfin; cases hfin
  · simp only [Bool.not_eq_true] at hag; rw [hag] at hfin; cases hfin

section
variable {P : Program} {E : Env} {run : Run}
theorem lawD (hT : TOk P E) (hC : CallsOk P E run) (hmix : P.follows .mixedOrders = true) {f : FuncId} {fn : Func} (hf : P.funcs[f]? = some fn) (hname : (fn.name == "runtime.NumGoroutine") = false) (hb : fn.body.isNone = false) {k : Nat} {args : List AV} {t : Ty} {x : t.C}
    (hk : abody E run k f fn args [] (finD t) = some x) : LawD P f args t x := by
  obtain ⟨r, hfin, hw⟩ := told_body (lv := true) hT hC (regOk hT hmix hC) hf (fun h => by cases h) hk
  obtain ⟨rv, rh⟩ := r
  refine ⟨⟨fn, hf, hname, hb⟩, fun pr w vs hp hr => ?_⟩
  refine (hw (still0 pr w) vs (sim_still0 hp) (fun id _ => ⟨rfl, fun h => h⟩) hr).mono ?_
  rintro en w' ⟨v', c', rfl, rfl, hsi, hs', hf', hvr⟩
  have W := hsi.1
  obtain ⟨us, ids, ho, hD, hids⟩ := fin_own hs' hvr hfin
  refine ⟨v', us, _, rfl, ho, hD, ?_, W.size, fun b hb => W.frame b hb Ctx.has0, W.os, W.tape, W.output⟩
  rintro b ⟨id, hid, ha⟩
  obtain ⟨h1, h2, _⟩ := hids id hid
  exact ⟨(W.own b ⟨id, h1, h2, ha⟩).elim (fun h => h) fun h => absurd h Ctx.has0, hs'.at_low h2 ha⟩
end
theorem LawD.reads {P : Program} {f : FuncId} {as bs : List AV} {t : Ty} {x : t.C} (h : ReadsL as bs) (l : LawD P f bs t x) : LawD P f as t x :=
  ⟨l.1, fun pr w vs hp hr => l.2 pr w vs hp (h _ _ hr)⟩
end Go.AM
namespace Go.AM

/-! Calls that write a row that came in, and what its elements lead to. -/
/-- A row's blocks are written, no others. -/
theorem write_at {c : Ctx} {h : Heap} (hs : Sim c h) {id : Nat} {i : Info} (hi : c.m id = some i) (hd : ¬ c.dead id) (hid : id < h.length) {w' : World} {N : Nat → Prop} (hN : ∀ b, N b → c.w.heap.size ≤ b ∧ b < w'.heap.size)
    (hfr : ∀ b, b < c.w.heap.size → ¬ c.at id b → w'.heap[b]? = c.w.heap[b]?) (hsz : c.w.heap.size ≤ w'.heap.size) (hblk : ∀ b n, Blk c.w b n → Blk w' b n) (hos : w'.os = c.w.os) (htp : w'.tape = c.w.tape) (hou : w'.output = c.w.output)
    {o' : Obj} (hr : ∀ c' : Ctx, c'.w = w' → c'.pr = c.pr → ObjRep c' i o') :
    let c' : Ctx := { c with w := w', own := fun k b => c.own k b ∨ (k = id ∧ N b) }
    (∀ fx e xs, o'.c = .deep fx e xs → DeepRow c' id i fx e xs) → Ext c h c' (h.set id (some o')) ∧ Sim c' (h.set id (some o')) := by
  intro c' hdp
  have hkeep : ∀ b, c.pr b → w'.heap[b]? = c.w.heap[b]? := fun b hp => hfr b (hs.plow b hp) fun ha => hs.at_apart hd ha hp
  have t : Tells c c' := ⟨fun _ _ h => h, fun _ h => h, ⟨fun _ h => h, hkeep⟩, hblk⟩
  have hoth : ∀ {k b}, ¬ c.dead k → k ≠ id → c.at k b → w'.heap[b]? = c.w.heap[b]? := fun {k b} hk hne ha => hfr b (hs.at_low hk ha) fun ha' => hne (hs.at_inj hk hd ha ha')
  have atc : ∀ {k b}, c'.at k b → c.at k b ∨ (k = id ∧ N b) := fun {k b} ha => by
    rcases ha with (ha | ha) | ha
    · exact .inl (.inl ha)
    · exact .inr ha
    · exact .inl (.inr ha)
  refine ⟨⟨⟨fun _ h => h, hsz, hkeep, hblk, fun b hb hn => hfr b hb fun ha => hn ⟨id, hid, hd, ha⟩, ?_, fun _ h => .inl h, hos, htp, hou⟩, by simp, fun _ _ h => h, fun k j h1 h2 => absurd (h2.symm.trans h1) (by simp), fun _ h => h, fun _ h => .inl h⟩,
    ⟨fun k j h1 h2 h3 => ?_, fun k h1 h2 => ?_, fun k j h1 h2 h3 => Nat.lt_of_lt_of_le (hs.low k j h1 h2 h3) hsz, hs.inj, fun b hb => Nat.lt_of_lt_of_le (hs.plow b hb) hsz, hs.apart, ⟨?_, ?_, ?_, ?_, ?_⟩, ?_⟩⟩
  · rintro b ⟨k, h1, h2, h3⟩
    rcases atc h3 with h3 | ⟨_, h3⟩
    · exact .inr ⟨k, by simpa using h1, h2, h3⟩
    · exact .inl (hN b h3).1
  · by_cases he : k = id
    · subst he
      have : j = i := by rw [hi] at h2; exact (Option.some.inj h2).symm
      subst this
      exact ⟨o', hget_set_same hid, hr c' rfl rfl⟩
    · obtain ⟨o, ho, hr'⟩ := hs.obj k j (by simpa using h1) h2 h3
      exact ⟨o, by rw [hget_set_other he]; exact ho, hr'.mono t fun hl => hoth h3 he (.inr ⟨j, h2, hl, rfl⟩)⟩
  · have he : k ≠ id := fun e => hd (e ▸ h2)
    rw [hget_set_other he]; exact hs.gone k (by simpa using h1) h2
  · rintro k b hk (h | ⟨_, h⟩)
    · exact Nat.lt_of_lt_of_le (hs.own.low k b hk h) hsz
    · exact (hN b h).2
  · rintro k k' b hk hk' (h | ⟨e, h⟩) (h' | ⟨e', h'⟩)
    · exact hs.own.inj k k' b hk hk' h h'
    · have := hs.own.low k b hk h; have := (hN b h').1; omega
    · have := hs.own.low k' b hk' h'; have := (hN b h).1; omega
    · rw [e, e']
  · rintro k k' j hk hk' hj hl (h | ⟨e, h⟩)
    · exact hs.own.row k k' j hk hk' hj hl h
    · have := hs.low k' j hj hk' hl; have := (hN _ h).1; omega
  · rintro k b hk (h | ⟨_, h⟩) hp
    · exact hs.own.apart k b hk h hp
    · have := hs.plow b hp; have := (hN b h).1; omega
  · rintro k b (h | ⟨e, _⟩)
    · exact hs.own.told k b h
    · subst e; show c.m k ≠ none; rw [hi]; simp
  · intro k j fx e xs f h1 h2 h3 h4
    by_cases he : k = id
    · subst he
      have : j = i := by rw [hi] at h2; exact (Option.some.inj h2).symm
      subst this
      rw [hget_set_same hid] at h4; cases h4
      exact hdp fx e xs rfl
    · rw [hget_set_other he] at h4
      exact hs.deepStay (by simpa using h1) h2 h3 h4 (fun _ h => .inl h) fun b hb => hoth h3 he hb

def LawMd (P : Program) (f : FuncId) (e : Ty) (xs : List e.C) (args : List AV) (v : AV) (ys : List e.C) : Prop :=
  Enters P f ∧ ∀ (pr : Nat → Prop) (w : World) (F : Nat → Prop) (u : Value) (vs : List Value) (A : Array Value), (∀ b, pr b → b < w.heap.size) → (∀ b, F b → b < w.heap.size ∧ ¬ pr b) → DCells w (.row e) xs [u] F →
    VReps (still0 pr w) args vs → A.toList = u :: vs → Calls P f A w fun en w' =>
    ∃ (v' : Value) (N : Nat → Prop), en = .returned v' ∧ VRep (still0 (fun _ => False) w') v v' ∧ DCells w' (.row e) ys [u] (fun b => F b ∨ N b) ∧ (∀ b, N b → w.heap.size ≤ b ∧ b < w'.heap.size) ∧ w.heap.size ≤ w'.heap.size ∧
      (∀ b, b < w.heap.size → ¬ F b → w'.heap[b]? = w.heap[b]?) ∧ (∀ b n, Blk w b n → Blk w' b n) ∧ w'.os = w.os ∧ w'.tape = w.tape ∧ w'.output = w.output ∧
      (∀ b o len cap, u = .slice (some ⟨b, o, none⟩) len cap → ∀ idx sub, idx < len → (rowAt e sub).isSome = true → cellAt w' b (o + idx * e.size + sub) = cellAt w b (o + idx * e.size + sub))

/-- A row's content anew. -/
def Cont.re (e : Ty) (ys : List e.C) : Cont → Cont
  | .deep fx _ _ => .deep fx e ys
  | _ => .typed e ys
def putR (h : Heap) (id : Nat) (e : Ty) (ys : List e.C) : Heap :=
  match hget h id with
  | some ⟨c, fl⟩ => h.set id (some ⟨c.re e ys, fl⟩)
  | none => h

/-- A row that is written with all that it leads to. -/
def mdOk (h : Heap) (e : Ty) (id : Nat) : Bool :=
  match hget h id with
  | some ⟨.deep _ _ _, _⟩ => true
  | some ⟨.typed _ _, _⟩ => flatT e
  | _ => false

def byMutD (e : Ty) (m : (ρ : Type) → List e.C → List AV → (AV → List e.C → Option ρ) → Option ρ) : Con := fun ρ args h K =>
  match args with
  | .sl id :: rest =>
    bif rest.all noRef && mdOk h e id then
    (match takeT h (.row e) [.sl id] with
     | some (xs, _) => m ρ xs rest fun v ys => bif flatV v then K v (putR h id e ys) true else none
     | none => none) else none
  | .dp id idx sub :: rest =>
    bif rest.all noRef then
    (match hget h id with
     | some ⟨.deep fx f zs, fl⟩ =>
       (match getR f (zs.getD idx f.dflt) sub e with
        | some xs => m ρ xs rest fun v ys => bif flatV v then K v (h.set id (some ⟨.deep fx f (zs.set idx (setR f (zs.getD idx f.dflt) sub e ys)), fl⟩)) true else none
        | none => none)
     | _ => none) else none
  | _ => none

/-- A row's cells, from its place. -/
theorem row_of {w : World} {e : Ty} {xs : List e.C} {u : Value} {F : Nat → Prop} (hD : DCells w (.row e) xs [u] F) {b o len cap : Nat} (hu : u = .slice (some ⟨b, o, none⟩) len cap) : List.length xs = len ∧ (xs ≠ [] → DRow w e.size (DCells w e) (fun k => F k ∧ k ≠ b) b o xs) := by
  subst hu
  rcases hD with ⟨h0, a, h⟩ | ⟨b', o', cap', n, h, _, _, _, _, G, g1, g2, g3⟩
  · simp only [List.cons.injEq, Value.slice.injEq, and_true] at h
    exact ⟨by rw [h0, h.2.1], fun hne => absurd (List.eq_nil_of_length_eq_zero h0) hne⟩
  · simp only [List.cons.injEq, Value.slice.injEq, Option.some.injEq, Addr.mk.injEq, and_true] at h
    obtain ⟨⟨rfl, rfl⟩, h2, _⟩ := h
    exact ⟨h2.symm, fun _ => ⟨G, fun j k q => ⟨g1 j k q, (g1 j k q).2⟩, g2, g3⟩⟩

theorem row_none {w : World} {e : Ty} {xs : List e.C} {u : Value} {F : Nat → Prop} (hD : DCells w (.row e) xs [u] F) {a : Option Addr} {cap : Nat} (hu : u = .slice a 0 cap) : List.length xs = 0 := by
  subst hu
  rcases hD with ⟨h0, _⟩ | ⟨b', o', cap', n, h, _⟩
  · exact h0
  · simp only [List.cons.injEq, Value.slice.injEq, and_true] at h
    exact h.2.1.symm

theorem DRow.nil {α : Type} {w : World} {size : Nat} {R : α → List Value → (Nat → Prop) → Prop} {F : Nat → Prop} {b base : Nat} {xs : List α} (h : xs = []) : DRow w size R F b base xs :=
  ⟨fun _ _ => False, fun _ _ h => h.elim, fun _ _ _ h => h.elim, fun j x hj => by rw [h] at hj; simp at hj⟩

/-- The row at a cell of an element. -/
theorem getR_ok {w : World} : ∀ {t : Ty} {x : t.C} {vs : List Value} {F : Nat → Prop} {sub : Nat} {e : Ty} {xs : List e.C}, DCells w t x vs F → getR t x sub e = some xs →
    ∃ u S, vs[sub]? = some u ∧ (∀ k, S k → F k) ∧ DCells w (.row e) xs [u] S ∧ ∀ (w' : World) (ys : List e.C) (N : Nat → Prop), (∀ b, F b → ¬ S b → w'.heap[b]? = w.heap[b]?) → (∀ b, N b → ¬ F b) → DCells w' (.row e) ys [u] (fun b => S b ∨ N b) →
      DCells w' t (setR t x sub e ys) vs (fun b => F b ∨ N b) := by
  intro t
  induction t with
  | row f _ =>
    intro x vs F sub e xs hD hg
    cases sub with
    | succ n => simp [getR] at hg
    | zero =>
      simp only [getR] at hg
      split at hg
      · rename_i hfe
        subst hfe
        cases hg
        obtain ⟨u, hu⟩ : ∃ u, vs = [u] := by
          rcases hD with ⟨_, a, rfl⟩ | ⟨b', o', cap', n, rfl, _⟩ <;> exact ⟨_, rfl⟩
        subst hu
        refine ⟨u, F, rfl, fun _ h => h, hD, fun w' ys N _ _ hD' => ?_⟩
        have hset : setR (.row f) x 0 f ys = ys := by simp [setR, Ty.castR]; rfl
        rw [hset]
        exact hD'
      · cases hg
  | pair a b iha ihb =>
    rintro x vs F sub e xs ⟨l, r, L, R, rfl, h1, h2, h3, hl, hr⟩ hg
    simp only [getR] at hg
    by_cases hlt : sub < a.size
    · have hblt : Nat.blt sub a.size = true := by simpa [Nat.blt_eq] using hlt
      rw [hblt, cond_true] at hg
      obtain ⟨u, S, p1, p2, p3, p4⟩ := iha hl hg
      refine ⟨u, S, by rw [List.getElem?_append_left (by rw [hl.len]; exact hlt)]; exact p1, fun k hk => h1 k (p2 k hk), p3, fun w' ys N q1 q2 q3 => ?_⟩
      simp only [setR, hblt, cond_true]
      exact ⟨l, r, fun b => L b ∨ N b, R, rfl, fun k hk => hk.imp_left (h1 k), fun k hk => .inl (h2 k hk), fun k hk hk' => hk.elim (fun h => h3 k h hk') fun h => q2 k h (h2 k hk'), p4 w' ys N (fun b hb => q1 b (h1 b hb)) (fun b hb hL => q2 b hb (h1 b hL)) q3, hr.mono (fun b hb => q1 b (h2 b hb) fun hS => h3 b (p2 b hS) hb) (fun _ h => h)⟩
    · have hblt : Nat.blt sub a.size = false := Bool.eq_false_iff.2 fun h => hlt (by simpa [Nat.blt_eq] using h)
      rw [hblt, cond_false] at hg
      obtain ⟨u, S, p1, p2, p3, p4⟩ := ihb hr hg
      refine ⟨u, S, by rw [List.getElem?_append_right (by rw [hl.len]; omega), hl.len]; exact p1, fun k hk => h2 k (p2 k hk), p3, fun w' ys N q1 q2 q3 => ?_⟩
      simp only [setR, hblt, cond_false]
      exact ⟨l, r, L, fun b => R b ∨ N b, rfl, fun k hk => .inl (h1 k hk), fun k hk => hk.imp_left (h2 k), fun k hk hk' => hk'.elim (h3 k hk) fun h => q2 k h (h1 k hk), hl.mono (fun b hb => q1 b (h1 b hb) fun hS => h3 b hb (p2 b hS)) (fun _ h => h), p4 w' ys N (fun b hb => q1 b (h2 b hb)) (fun b hb hR => q2 b hb (h2 b hR)) q3⟩
  | _ => intro x vs F sub e xs hD hg; simp [getR] at hg

theorem con_byMutD {P : Program} {f : FuncId} {e : Ty} {m : (ρ : Type) → List e.C → List AV → (AV → List e.C → Option ρ) → Option ρ}
    (hm : ∀ (ρ : Type) xs args (K : AV → List e.C → Option ρ) (x : ρ), m ρ xs args K = some x → ∃ v ys, K v ys = some x ∧ LawMd P f e xs args v ys) : ConOk P f (byMutD e m) := by
  intro ρ args h K x hb
  unfold byMutD at hb
  split at hb
  · rename_i id rest
    cases hn0 : (rest.all noRef && mdOk h e id) with
    | false => rw [hn0] at hb; cases hb
    | true =>
      rw [hn0, cond_true] at hb
      simp only [Bool.and_eq_true] at hn0
      obtain ⟨hn, hmd⟩ := hn0
      split at hb
      · rename_i xs ids htk
        obtain ⟨v, ys, hk, hent, hlaw⟩ := hm _ _ _ _ _ hb
        cases hfv : flatV v with
        | false => rw [hfv] at hk; cases hk
        | true =>
          rw [hfv] at hk
          simp only [cond_true] at hk
          obtain ⟨hids, ct, fl, hob, hput, hpl⟩ : ids = [id] ∧ ∃ ct fl, hget h id = some ⟨ct, fl⟩ ∧ putR h id e ys = h.set id (some ⟨ct.re e ys, fl⟩) ∧ ((∃ fx, ct = .deep fx e xs) ∨ (flatT e = true ∧ ct = .typed e xs)) := by
            rcases take_row htk with ⟨h1, _⟩ | ⟨k, _, h1, h2, ⟨rfl, hg⟩ | ⟨d, ws, fl, hg, _⟩⟩
            · cases h1
            · cases h1
              rcases hg with ⟨fx, fl, hg⟩ | ⟨_, fl, hg⟩
              · exact ⟨h2, _, fl, hg, by simp only [putR, hg], .inl ⟨fx, rfl⟩⟩
              · rw [mdOk, hg] at hmd
                exact ⟨h2, _, fl, hg, by simp only [putR, hg], .inr ⟨hmd, rfl⟩⟩
            · cases h1
              rw [mdOk, hg] at hmd; cases hmd
          have hone : ids.Nodup := by rw [hids]; simp
          subst hids
          rw [hput] at hk
          have hid : id < h.length := hget_lt hob
          refine ⟨v, _, true, hk, hent, (sta_set fun j hj => touch_sl hj (by simp)), fun c vs hs _ hr => ?_⟩
          have hd := hs.alive hob
          cases hvs : vs.toList with
          | nil => rw [hvs] at hr; simp [VReps] at hr
          | cons u vs' =>
            rw [hvs] at hr
            simp only [VReps] at hr
            obtain ⟨hu, hrest⟩ := hr
            obtain ⟨hD, hidr⟩ := take_rep hs (cs := [.sl id]) (vs := [u]) (by simp only [VReps, and_true]; exact hu) htk hone
            simp only [VRep, slRep] at hu
            obtain ⟨i, hi, hcase⟩ := hu.2.resolve_left hd
            have rep := hs.rep hob hi
            have hes : i.es = e.size := by
              rw [rep.es]; rcases hpl with ⟨fx, rfl⟩ | ⟨_, rfl⟩ <;> rfl
            refine (hlaw c.pr c.w (fun b => ∃ k, k ∈ [id] ∧ c.at k b) u vs' vs hs.plow (fun b hb => ?_) hD (noRef_reps (c := c) (c2 := still0 c.pr c.w) rfl rfl hn hrest) hvs).mono ?_
            · obtain ⟨k, hk1, hk2⟩ := hb
              simp only [List.mem_singleton] at hk1; subst hk1
              exact ⟨hs.at_low hd hk2, hs.at_apart hd hk2⟩
            rintro en w' ⟨v', N, rfl, hvv, hD', hN, q4, q5, q6, q7, q8, q9, q10⟩
            -- the row as it is then
            have hrow : List.length ys = i.len ∧ DRow w' e.size (DCells w' e) (fun k => c.own id k ∨ N k) i.b i.base ys := by
              rcases hcase with ⟨hloc, cap, n, hv, hle, _⟩ | ⟨hloc, h0, a, hv⟩
              · obtain ⟨r1, r2⟩ := row_of hD' hv
                refine ⟨r1, ?_⟩
                by_cases hne : ys = []
                · exact DRow.nil hne
                · refine (r2 hne).mono (fun _ => rfl) (fun k hk => ?_) fun _ _ _ _ q => q
                  rcases hk with ⟨⟨k', hk1, hk2⟩ | hk, hkb⟩
                  · simp only [List.mem_singleton] at hk1; subst hk1
                    rcases hk2 with hk2 | ⟨j, hj, _, hjb⟩
                    · exact .inl hk2
                    · rw [hi] at hj; cases hj; exact absurd hjb.symm hkb
                  · exact .inr hk
              · have := row_none hD' hv
                exact ⟨by rw [this, h0], DRow.nil (List.eq_nil_of_length_eq_zero this)⟩
            have hcell : ∀ (idx sub : Nat), idx < List.length ys → (rowAt e sub).isSome = true → cellAt w' i.b (i.base + idx * e.size + sub) = cellAt c.w i.b (i.base + idx * e.size + sub) := fun idx sub p1 p2 => by
              rcases hcase with ⟨hloc, cap, n, hv, hle, _⟩ | ⟨hloc, h0, a, hv⟩
              · exact q10 _ _ _ _ hv idx sub (by rw [← hrow.1]; exact p1) p2
              · rw [hrow.1, h0] at p1; omega
            have hxl : i.len = List.length xs := by rw [rep.len]; rcases hpl with ⟨fx, rfl⟩ | ⟨_, rfl⟩ <;> rfl
            obtain ⟨g1, g2⟩ := write_at hs hi hd hid hN (fun b hb ha => q5 b hb fun ⟨k, hk1, hk2⟩ => by simp only [List.mem_singleton] at hk1; subst hk1; exact ha hk2) q4 q6 q7 q8 q9 (o' := ⟨ct.re e ys, fl⟩) (fun c' hw hpr => by
              refine ⟨?_, ?_, rep.pos, rep.full, rep.loc, fun hl => ?_, ?_⟩
              · rcases hpl with ⟨fx, rfl⟩ | ⟨_, rfl⟩ <;> exact hrow.1.symm
              · rcases hpl with ⟨fx, rfl⟩ | ⟨_, rfl⟩ <;> exact hes
              · obtain ⟨n, hb1, hb2⟩ := rep.blk hl; exact ⟨n, by rw [hw]; exact q6 _ _ hb1, hb2⟩
              · rcases hpl with ⟨fx, rfl⟩ | ⟨hfe, rfl⟩
                · subst hw; exact DRow.rep hrow.2
                · obtain ⟨G, _, _, g3⟩ := hrow.2
                  intro j y hj
                  obtain ⟨us, u1, u2, u3⟩ := g3 j y hj
                  rw [hw]
                  exact ⟨us, u1, u2, flat_cells hfe (u3.cells (G := G j) fun _ h => h)⟩) (fun fx' e' xs' hc => by
              rcases hpl with ⟨fx, rfl⟩ | ⟨hfe, rfl⟩
              · have D := hs.deep id i fx e xs fl hid hi hd hob
                have hc2 : Cont.deep fx e ys = .deep fx' e' xs' := hc
                cases hc2
                refine ⟨hrow.2.mono (fun _ => rfl) (fun k hk => hk.imp_right fun h => ⟨rfl, h⟩) fun _ _ _ _ q => q, fun hf a b z p1 p2 p3 => D.hd hf a b z (by rw [← hxl, ← hrow.1]; exact p1) p2 (by rw [← hcell a b p1 p2]; exact p3), fun a b z hz => ?_⟩
                obtain ⟨p1, p2, p3, p4⟩ := D.hd' a b z hz
                rw [← hxl, ← hrow.1] at p2
                exact ⟨p1, p2, p3, (hcell a b p2 p3).trans p4⟩
              · cases hc)
            exact ⟨v', _, rfl, rfl, g1, g2, flat_rep hfv hvv, fun h => by cases h⟩
      · cases hb
  · rename_i id idx sub rest
    cases hn : rest.all noRef with
    | false => rw [hn] at hb; cases hb
    | true =>
      rw [hn, cond_true] at hb
      split at hb
      · rename_i fx t zs fl hob
        · generalize hz : zs.getD idx t.dflt = z at hb
          split at hb
          · rename_i xs hget'
            obtain ⟨v, ys, hk, hent, hlaw⟩ := hm _ _ _ _ _ hb
            cases hfv : flatV v with
            | false => rw [hfv] at hk; cases hk
            | true =>
              rw [hfv] at hk
              simp only [cond_true] at hk
              have hid : id < h.length := hget_lt hob
              refine ⟨v, _, true, hk, hent, (sta_set fun j hj => touch_dp hj (List.mem_cons_self ..)), fun c vs hs _ hr => ?_⟩
              have hd := hs.alive hob
              cases hvs : vs.toList with
              | nil => rw [hvs] at hr; simp [VReps] at hr
              | cons u vs' =>
                rw [hvs] at hr
                simp only [VReps] at hr
                obtain ⟨hu, hrest⟩ := hr
                simp only [VRep, dpRep] at hu
                obtain ⟨i, hi, hhd⟩ := hu.2.resolve_left hd
                have rep := hs.rep hob hi
                have D := hs.deep id i fx t zs fl hid hi hd hob
                have hes : i.es = t.size := rep.es
                have hlen : i.len = List.length zs := rep.len
                obtain ⟨_, hidx, hrow, hcell⟩ := D.hd' idx sub u hhd
                have hloc := rep.loc (by omega)
                have hgd : zs[idx] = z := by rw [← hz]; simp [List.getD, hidx]
                obtain ⟨G, g1, g2, g3⟩ := D.row
                obtain ⟨es, e1, e2, e3⟩ := g3 idx zs[idx] (by simp [hidx])
                rw [hgd] at e3
                obtain ⟨u', S, s1, s2, s3, s4⟩ := getR_ok e3 hget'
                have huu : u' = u := by
                  have := e2 sub u' s1
                  rw [hcell] at this
                  exact (Option.some.inj this).symm
                subst huu
                have hSid : ∀ b, S b → c.own id b := fun b hb => (g1 idx b (s2 b hb)).1
                refine (hlaw c.pr c.w S u' vs' vs hs.plow (fun b hb => ⟨hs.own.low id b hd (hSid b hb), hs.own.apart id b hd (hSid b hb)⟩) s3 (noRef_reps (c := c) (c2 := still0 c.pr c.w) rfl rfl hn hrest) hvs).mono ?_
                rintro en w' ⟨v', N, rfl, hvv, hD', hN, q4, q5, q6, q7, q8, q9, q10⟩
                have hsame : ∀ b, c.at id b → ¬ S b → w'.heap[b]? = c.w.heap[b]? := fun b hb hS => q5 b (hs.at_low hd hb) hS
                have hbS : ¬ S i.b := fun h => (g1 idx _ (s2 _ h)).2 rfl
                have hbb : w'.heap[i.b]? = c.w.heap[i.b]? := hsame i.b (.inr ⟨i, hi, hloc, rfl⟩) hbS
                have hNlow : ∀ {b}, N b → ¬ c.at id b := fun {b} hb ha => by have := hs.at_low hd ha; have := (hN b hb).1; omega
                have hDR : DRow w' t.size (DCells w' t) (fun k => c.own id k ∨ N k) i.b i.base (zs.set idx (setR t z sub e ys)) := by
                  refine ⟨fun j => if j = idx then fun k => G j k ∨ N k else G j, fun j k hk => ?_, fun j j' k hk hk' => ?_, fun j x hj => ?_⟩
                  · by_cases hji : j = idx
                    · simp only [hji, if_true] at hk
                      rcases hk with hk | hk
                      · exact ⟨.inl (g1 idx k hk).1, (g1 idx k hk).2⟩
                      · exact ⟨.inr hk, fun e => hNlow hk (.inr ⟨i, hi, hloc, e.symm⟩)⟩
                    · simp only [hji, if_false] at hk
                      exact ⟨.inl (g1 j k hk).1, (g1 j k hk).2⟩
                  · by_cases hji : j = idx
                    · by_cases hji' : j' = idx
                      · rw [hji, hji']
                      · simp only [hji, if_true] at hk
                        simp only [hji', if_false] at hk'
                        rcases hk with hk | hk
                        · rw [hji]; exact g2 idx j' k hk hk'
                        · exact absurd (.inl (g1 j' k hk').1) (hNlow hk)
                    · simp only [hji, if_false] at hk
                      by_cases hji' : j' = idx
                      · simp only [hji', if_true] at hk'
                        rcases hk' with hk' | hk'
                        · rw [hji']; exact g2 j idx k hk hk'
                        · exact absurd (.inl (g1 j k hk).1) (hNlow hk')
                      · simp only [hji', if_false] at hk'
                        exact g2 j j' k hk hk'
                  · by_cases hji : j = idx
                    · subst hji
                      rw [List.getElem?_set_self hidx] at hj
                      cases hj
                      refine ⟨es, e1, e2.of_block hbb, ?_⟩
                      simp only [if_true]
                      exact s4 w' ys N (fun b hb hS => hsame b (.inl (g1 j b hb).1) hS) (fun b hb hG => hNlow hb (.inl (g1 j b hG).1)) hD'
                    · rw [List.getElem?_set_ne (fun e => hji e.symm)] at hj
                      obtain ⟨es', f1, f2, f3⟩ := g3 j x hj
                      refine ⟨es', f1, f2.of_block hbb, ?_⟩
                      simp only [hji, if_false]
                      exact f3.mono (fun b hb => hsame b (.inl (g1 j b hb).1) fun hS => hji (g2 j idx b hb (s2 b hS))) (fun _ h => h)
                obtain ⟨k1, k2⟩ := write_at hs hi hd hid hN (fun b hb ha => q5 b hb fun hS => ha (.inl (hSid b hS))) q4 q6 q7 q8 q9 (o' := ⟨.deep fx t (zs.set idx (setR t z sub e ys)), fl⟩) (fun c' hw hpr => by
                  refine ⟨by rw [hlen]; simp [Cont.len], hes, rep.pos, rep.full, rep.loc, fun hl => ?_, ?_⟩
                  · obtain ⟨n, hb1, hb2⟩ := rep.blk hl; exact ⟨n, by rw [hw]; exact q6 _ _ hb1, hb2⟩
                  · subst hw; exact DRow.rep hDR) (fun fx' e' xs' hc => by
                  cases hc
                  have hcl : ∀ a b, cellAt w' i.b (i.base + a * t.size + b) = cellAt c.w i.b (i.base + a * t.size + b) := fun a b => cellAt_of_block hbb
                  refine ⟨hDR.mono (fun _ => rfl) (fun k hk => hk.imp_right fun h => ⟨rfl, h⟩) fun _ _ _ _ q => q, fun hf a b z p1 p2 p3 => D.hd hf a b z (by simpa using p1) p2 ((hcl a b).symm.trans p3), fun a b z hz => ?_⟩
                  obtain ⟨p1, p2, p3, p4⟩ := D.hd' a b z hz
                  exact ⟨p1, by simpa using p2, p3, (hcl a b).trans p4⟩)
                exact ⟨v', _, rfl, rfl, k1, k2, flat_rep hfv hvv, fun h => by cases h⟩
          · cases hb
      · cases hb
  · cases hb

/-- A run's word, and the row that came in as it is then. -/
def finMd (t e : Ty) (r : AV × Heap) : Option (t.C × List e.C) :=
  match hget r.2 0 with
  | some ⟨.deep _ u ys, _⟩ => if h : u = e then (asM t (deref r.2 8 r.1)).map fun v => (v, Ty.castR h ys) else none
  | some ⟨.typed u ys, _⟩ => if h : u = e then bif flatT e then (asM t (deref r.2 8 r.1)).map fun v => (v, Ty.castR h ys) else none else none
  | _ => none

/-- A world without memory, from which all blocks are new. -/
def Ctx.none (w : World) : Ctx := ⟨fun _ => Option.none, fun _ => False, fun _ => False, { w with heap := #[] }, fun _ _ => False⟩
theorem none_ext {pr : Nat → Prop} {w : World} : Ext (Ctx.none w) [] (still0 pr w) [] :=
  ⟨⟨fun _ h => h.elim, by simp [Ctx.none], fun _ h => h.elim, fun b n h => by obtain ⟨_, _, _, h1, _⟩ := h; simp [Ctx.none] at h1, fun b hb => by simp [Ctx.none] at hb, fun _ h => absurd h Ctx.has0, fun _ _ => .inr (by simp [Ctx.none]), rfl, rfl, rfl⟩, Nat.le_refl _, fun _ _ h => (by cases h), fun _ _ h => (by cases h), fun _ h => h, fun _ h => .inl h⟩

theorem flat_row : ∀ {t : Ty} {sub : Nat}, flatT t = true → rowAt t sub = none := by
  intro t
  induction t with
  | pair a b iha ihb =>
    intro sub h
    simp only [flatT, Bool.and_eq_true] at h
    unfold rowAt
    cases Nat.blt sub a.size
    · exact ihb h.2
    · exact iha h.1
  | row e _ => intro sub h; simp [flatT] at h
  | node => intro sub h; simp [flatT] at h
  | _ => intro sub _; simp [rowAt]

section
variable {P : Program} {E : Env} {run : Run}
theorem lawMd (hT : TOk P E) (hC : CallsOk P E run) (hmix : P.follows .mixedOrders = true) {f : FuncId} {fn : Func} (hf : P.funcs[f]? = some fn) (hname : (fn.name == "runtime.NumGoroutine") = false) (hb : fn.body.isNone = false) (hpin : 0 < pinsOf E f) {k : Nat} {args : List AV} {t e : Ty} (hpos : Nat.blt 0 e.size = true) (hflat : ∀ x : t.C, flatV (tvM t x) = true) {xs : List e.C} {x : t.C × List e.C}
    (hk : abody E run k f fn (.sl 0 :: args) (objsD true (.row e) xs) (finMd t e) = some x) : LawMd P f e xs args (tvM t x.1) x.2 := by
  obtain ⟨r, hfin, hw⟩ := told_body (lv := true) hT hC (regOk hT hmix hC) hf (fun h => by cases h) hk
  obtain ⟨rv, rh⟩ := r
  refine ⟨⟨fn, hf, hname, hb⟩, fun pr w F u vs A hp hF hD hr hA => ?_⟩
  obtain ⟨c2, a1, a2, a3, a4, a5, a6, a7, _, a9, a10⟩ := expl_ok (c := Ctx.none w) (h := []) true (t := .row e) (c1 := still0 pr w) (h1 := []) none_ext (sim_still0 hp) (fun _ _ _ => ⟨rfl, fun h => h⟩) hD (fun b hb => ⟨Nat.zero_le _, (hF b hb).1, (hF b hb).2, fun id _ ha => by
    rcases ha with ha | ⟨j, hj, _⟩
    · exact ha
    · cases hj⟩) (by simpa [posT] using hpos)
  rw [List.nil_append] at a6 a7
  obtain rfl : c2.w = w := a1
  have hlen1 : (objsD true (.row e) xs).length = 1 := rfl
  have hfre : Fre c2 (objsD true (.row e) xs) := fun id hid => by
    refine ⟨by rw [a4 id (by rw [hlen1] at hid; exact hid)]; rfl, by rw [a3]; exact fun h => h⟩
  simp only [expl, VReps, and_true, List.length_nil] at a10
  have hargs : VReps c2 (.sl 0 :: args) A.toList := by
    rw [hA]
    exact ⟨a10, VReps.mono a9 hr⟩
  have hd0 : ¬ c2.dead 0 := by rw [a3]; exact fun h => h
  refine (hw c2 A a7 hfre hargs).mono ?_
  rintro en w' ⟨v', c', rfl, rfl, hsi, hs', hf', hvr⟩
  have W := hsi.1
  simp only [VRep, slRep] at a10
  obtain ⟨i, hi0, hcase⟩ := a10.2.resolve_left hd0
  have hm0 : c'.m 0 = some i := hsi.2.2 0 i hpin hi0
  have hat0 : ∀ {b}, c2.at 0 b → F b := fun {b} ha => by
    rcases a5 0 b ha with h | h
    · rcases h with h | ⟨j, hj, _⟩
      · exact h.elim
      · cases hj
    · exact h
  have hhas : ∀ {b}, c2.has (objsD true (.row e) xs).length b → F b := fun {b} ⟨id, h1, h2, h3⟩ => by
    rw [hlen1] at h1
    have : id = 0 := by omega
    subst this; exact hat0 h3
  have hrep0 := a7.rep (id := 0) (ob := ⟨contD true e xs, false⟩) rfl hi0
  have hil : i.len = List.length xs := by rw [hrep0.len, contD_len.1]
  have hie : i.es = e.size := by rw [hrep0.es, contD_len.2]
  have key : ∀ (ys : List e.C) (v1 : t.C), asM t (deref rh 8 rv) = some v1 → ¬ c'.dead 0 → i.len = List.length ys → DRow c'.w e.size (DCells c'.w e) (c'.own 0) i.b i.base ys →
      (∀ idx sub, idx < i.len → (rowAt e sub).isSome = true → cellAt c'.w i.b (i.base + idx * e.size + sub) = cellAt c2.w i.b (i.base + idx * e.size + sub)) →
      ∃ (v'' : Value) (N : Nat → Prop), Ending.returned v' = .returned v'' ∧ VRep (still0 (fun _ => False) c'.w) (tvM t v1) v'' ∧ DCells c'.w (.row e) ys [u] (fun b => F b ∨ N b) ∧ (∀ b, N b → c2.w.heap.size ≤ b ∧ b < c'.w.heap.size) ∧ c2.w.heap.size ≤ c'.w.heap.size ∧
        (∀ b, b < c2.w.heap.size → ¬ F b → c'.w.heap[b]? = c2.w.heap[b]?) ∧ (∀ b n, Blk c2.w b n → Blk c'.w b n) ∧ c'.w.os = c2.w.os ∧ c'.w.tape = c2.w.tape ∧ c'.w.output = c2.w.output ∧
        (∀ b o len cap, u = .slice (some ⟨b, o, none⟩) len cap → ∀ idx sub, idx < len → (rowAt e sub).isSome = true → cellAt c'.w b (o + idx * e.size + sub) = cellAt c2.w b (o + idx * e.size + sub)) := by
    intro ys v1 hv1 hd hyl hrow hcell
    refine ⟨v', fun b => c2.w.heap.size ≤ b ∧ c'.at 0 b, rfl, flat_rep (hflat v1) (asM_rep hv1 (deref_rep hs' 8 _ _ hvr)), ?_, fun b hb => ⟨hb.1, hs'.at_low hd hb.2⟩, W.size, fun b hb hn => W.frame b hb fun h => hn (hhas h), W.blk, W.os, W.tape, W.output, ?_⟩
    · rcases hcase with ⟨hloc, cap, n, hv, hle, hblk, hn, _⟩ | ⟨hloc, h0, a, hv⟩
      · refine .inr ⟨i.b, i.base, cap, n, by rw [hv, hyl], by rw [← hyl]; exact hle, .inl (hat0 (.inr ⟨i, hi0, hloc, rfl⟩)), W.blk _ _ hblk, by rw [← hie]; exact hn, hrow.mono (fun _ => rfl) (fun k hk => ?_) fun _ _ _ _ q => q⟩
        rcases W.own k ⟨0, Ctx.at_lt hs' hf' (.inl hk), hd, .inl hk⟩ with h | h
        · exact .inr ⟨h, .inl hk⟩
        · exact .inl (hhas h)
      · exact .inl ⟨by rw [← hyl, h0], a, by rw [hv]⟩
    · intro b o len cap hu idx sub q1 q2
      rcases hcase with ⟨hloc, cap', n, hv, hle, hblk, hn, _⟩ | ⟨hloc, h0, a, hv⟩
      · rw [hv] at hu
        simp only [Value.slice.injEq, Option.some.injEq, Addr.mk.injEq, and_true] at hu
        obtain ⟨⟨rfl, rfl⟩, rfl, _⟩ := hu
        exact hcell idx sub q1 q2
      · rw [hv] at hu
        simp only [Value.slice.injEq] at hu
        omega
  unfold finMd at hfin
  split at hfin
  · rename_i fx u' ys fl hob
    split at hfin
    · rename_i hue
      subst hue
      obtain ⟨v1, hv1, rfl⟩ := Option.map_eq_some_iff.1 hfin
      have hd := hs'.alive hob
      have hrep2 := hs'.rep hob hm0
      have D2 := hs'.deep 0 i fx u' ys fl (hget_lt hob) hm0 hd hob
      refine key ys v1 hv1 hd hrep2.len D2.row fun idx sub q1 q2 => ?_
      have hnf : flatT u' = false := by
        cases hft : flatT u' with
        | false => rfl
        | true => rw [flat_row hft] at q2; cases q2
      have D1 := a7.deep 0 i true u' xs false (by rw [hlen1]; exact Nat.lt_succ_self 0) hi0 hd0 (by simp [hget, objsD, contD, hnf])
      obtain ⟨G, _, _, g3⟩ := D1.row
      have hix : idx < List.length xs := by rw [← hil]; exact q1
      obtain ⟨vs, e1, e2, e3⟩ := g3 idx xs[idx] (by simp [hix])
      obtain ⟨z, hz, _⟩ := e3.atRow q2
      have hcz := e2 sub z hz
      obtain ⟨_, _, _, hz2⟩ := D2.hd' idx sub z (D1.hd rfl idx sub z hix q2 hcz)
      rw [hz2, hcz]
    · cases hfin
  · rename_i u' ys fl hob
    split at hfin
    · rename_i hue
      subst hue
      by_cases hft : flatT u' = true
      · rw [hft, cond_true] at hfin
        obtain ⟨v1, hv1, rfl⟩ := Option.map_eq_some_iff.1 hfin
        have hd := hs'.alive hob
        have hrep2 := hs'.rep hob hm0
        refine key ys v1 hv1 hd hrep2.len ⟨fun _ _ => False, fun _ _ h => h.elim, fun _ _ _ h => h.elim, fun j y hj => ?_⟩ fun idx sub q1 q2 => ?_
        · obtain ⟨us, u1, u2, u3⟩ := hrep2.cont j y hj
          exact ⟨us, u1, u2, flat_D hft u3⟩
        · rw [flat_row hft] at q2; cases q2
      · simp only [Bool.not_eq_true] at hft; rw [hft] at hfin; cases hfin
    · cases hfin
  · cases hfin
end
theorem LawMd.reads {P : Program} {f : FuncId} {as bs : List AV} {e : Ty} {xs ys : List e.C} {v : AV} (h : ReadsL as bs) (l : LawMd P f e xs bs v ys) : LawMd P f e xs as v ys :=
  ⟨l.1, fun pr w F u vs A hp hF hD hr hA => l.2 pr w F u vs A hp hF hD (h _ _ hr) hA⟩
end Go.AM
