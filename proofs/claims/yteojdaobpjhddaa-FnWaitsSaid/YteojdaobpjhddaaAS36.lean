/- An interpreter of the model's code over values that are told, and its soundness. -/
import Derived.Test.YteojdaobpjhddaaAS35
namespace Go.AM

/-! Two of the caller's own: a struct behind a pointer, and a row. -/
def two (pr : Nat → Prop) (w : World) (i j : Info) : Ctx := ⟨fun id => if id = 0 then some i else if id = 1 then some j else none, fun _ => False, pr, w, fun _ _ => False⟩

def LawMr (P : Program) (f : FuncId) (args : List AV) (T : Ty) (x : T.C) (e : Ty) (xs : List e.C) (v : AV) (y : T.C) (ys : List e.C) : Prop :=
  Enters P f ∧ ∀ (pr : Nat → Prop) (w : World) (i j : Info) (vs : Array Value), (∀ b, pr b → b < w.heap.size) → ObjRep (two pr w i j) i ⟨objC T x, false⟩ → ObjRep (two pr w i j) j ⟨.typed e xs, false⟩ →
    (i.loc = true → i.b < w.heap.size ∧ ¬ pr i.b) → (j.loc = true → j.b < w.heap.size ∧ ¬ pr j.b) → (i.loc = true → j.loc = true → i.b ≠ j.b) →
    VReps (two pr w i j) (.ptr 0 0 0 :: .sl 1 :: args) vs.toList → Calls P f vs w fun en w' =>
    ∃ v' pr', en = .returned v' ∧ VRep (still0 pr' w') v v' ∧ ObjRep (two pr' w' i j) i ⟨objC T y, false⟩ ∧ ObjRep (two pr' w' i j) j ⟨.typed e ys, false⟩ ∧ (i.loc = true → ¬ pr' i.b) ∧ (j.loc = true → ¬ pr' j.b) ∧
      (∀ b, pr b → pr' b) ∧ (∀ b, pr' b → pr b ∨ w.heap.size ≤ b) ∧ (∀ b, pr' b → b < w'.heap.size) ∧ w.heap.size ≤ w'.heap.size ∧
      (∀ b, b < w.heap.size → (i.loc = true → i.b ≠ b) → (j.loc = true → j.b ≠ b) → w'.heap[b]? = w.heap[b]?) ∧ (∀ b n, Blk w b n → Blk w' b n) ∧ w'.os = w.os ∧ w'.tape = w.tape ∧ w'.output = w.output

/-- A contract of a call that is given a struct behind a pointer and a row, both of the caller's own; it tells words. -/
def byMutR (T e : Ty) (m : (ρ : Type) → List AV → T.C → List e.C → (AV → T.C → List e.C → Option ρ) → Option ρ) : Con := fun ρ args h K =>
  match args with
  | .ptr id 0 0 :: .sl jd :: rest =>
    (match hget h id, hget h jd with
     | some ⟨.raw true es z [a], fl⟩, some ⟨.typed u xs, fj⟩ =>
       if hu : u = e then bif (es == T.size) && T.isAgg && rest.all noRef then (a.as T).bind fun x => m ρ rest x (Ty.castR hu xs) (fun v y ys => bif flatV v then K v ((h.set id (some ⟨.raw true es z [.tv T y], fl⟩)).set jd (some ⟨.typed e ys, fj⟩)) true else none) else none else none
     | _, _ => none)
  | _ => none

theorem con_byMutR {P : Program} {f : FuncId} {T e : Ty} {m : (ρ : Type) → List AV → T.C → List e.C → (AV → T.C → List e.C → Option ρ) → Option ρ}
    (hm : ∀ (ρ : Type) args x xs (K : AV → T.C → List e.C → Option ρ) (o : ρ), m ρ args x xs K = some o → ∃ v y ys, K v y ys = some o ∧ LawMr P f args T x e xs v y ys) : ConOk P f (byMutR T e m) := by
  intro ρ args h K o hb
  unfold byMutR at hb
  split at hb
  · rename_i id jd rest
    split at hb
    · rename_i es z a fl u xs fj hob hoj
      split at hb
      · rename_i hu
        subst hu
        cases hcond : ((es == T.size) && T.isAgg && rest.all noRef) with
        | false => rw [hcond] at hb; cases hb
        | true =>
          rw [hcond] at hb
          simp only [cond_true] at hb
          simp only [Bool.and_eq_true, beq_iff_eq] at hcond
          obtain ⟨⟨rfl, hT⟩, hn⟩ := hcond
          obtain ⟨x, ha, hb⟩ := Option.bind_eq_some_iff.1 hb
          obtain ⟨v, y, ys, hk, hent, hlaw⟩ := hm _ _ _ _ _ _ hb
          replace hlaw : ∀ (pr : Nat → Prop) (w : World) (i j : Info) (vs : Array Value), (∀ b, pr b → b < w.heap.size) → ObjRep (two pr w i j) i ⟨objC T x, false⟩ → ObjRep (two pr w i j) j ⟨.typed u xs, false⟩ → _ := hlaw
          cases hfv : flatV v with
          | false => rw [hfv] at hk; cases hk
          | true =>
            rw [hfv] at hk
            simp only [cond_true] at hk
            have hid : id < h.length := hget_lt hob
            have hjd : jd < h.length := hget_lt hoj
            have hne : jd ≠ id := by
              intro he
              rw [he] at hoj
              rw [hob] at hoj
              cases hoj
            refine ⟨v, _, true, hk, hent, ⟨by simp, fun h => (by cases h), fun j _ hj => by rw [hget_set_ne (touch_sl hj (by simp)), hget_set_ne (touch_ptr hj (List.mem_cons_self ..))]⟩, fun c vs hs _ hr => ?_⟩
            have hd := hs.alive hob
            have hdj := hs.alive hoj
            have hr' := hr
            cases hvs : vs.toList with
            | nil => rw [hvs] at hr'; simp [VReps] at hr'
            | cons v0 vs' =>
              rw [hvs] at hr'
              cases vs' with
              | nil => simp [VReps] at hr'
              | cons v1 vs'' =>
              simp only [VReps, VRep, ptrRep, slRep] at hr'
              obtain ⟨⟨hany, hv⟩, ⟨hany1, hv1⟩, hrest⟩ := hr'
              obtain ⟨i, hi, hix, hcase⟩ := hv.resolve_left hd
              obtain ⟨j, hj, hjcase⟩ := hv1.resolve_left hdj
              obtain ⟨o', ho, hrep⟩ := hs.obj id i hid hi hd
              rw [hob] at ho
              simp only [Option.some.injEq] at ho
              subst ho
              obtain ⟨o2, ho2, hrepj⟩ := hs.obj jd j hjd hj hdj
              rw [hoj] at ho2
              simp only [Option.some.injEq] at ho2
              subst ho2
              have hz := hrep.cont
              have hrep0 := obj_rep (c := c) (c2 := two c.pr c.w { i with full := false } { j with full := false }) rfl rfl hT ha hrep
              have hrepj0 : ObjRep (two c.pr c.w { i with full := false } { j with full := false }) { j with full := false } ⟨.typed u xs, false⟩ := ⟨hrepj.len, hrepj.es, hrepj.pos, rfl, hrepj.loc, hrepj.blk, hrepj.cont⟩
              have hargs : VReps (two c.pr c.w { i with full := false } { j with full := false }) (.ptr 0 0 0 :: .sl 1 :: rest) vs.toList := by
                rw [hvs]
                simp only [VReps, VRep, ptrRep, slRep]
                refine ⟨⟨hany, .inr ⟨{ i with full := false }, by simp [two], hix, hcase⟩⟩, ⟨hany1, .inr ⟨{ j with full := false }, by simp [two], ?_⟩⟩, noRef_reps (c := c) (c2 := two c.pr c.w { i with full := false } { j with full := false }) rfl rfl hn hrest⟩
                rcases hjcase with ⟨a1, cap, n, a2, a3, a4, a5, _⟩ | ⟨a1, a2, a3⟩
                · exact .inl ⟨a1, cap, n, a2, a3, a4, a5, fun h => by cases h⟩
                · exact .inr ⟨a1, a2, a3⟩
              refine (hlaw c.pr c.w { i with full := false } { j with full := false } vs hs.plow hrep0 hrepj0 (fun hl => ⟨hs.low id i hi hd hl, hs.apart id i hi hd hl⟩) (fun hl => ⟨hs.low jd j hj hdj hl, hs.apart jd j hj hdj hl⟩)
                (fun h1 h2 he => hne (hs.inj id jd i j hi hj hd hdj h1 h2 he).symm) hargs).mono ?_
              rintro en w' ⟨v', pr', rfl, hvv, hrep2, hrepj2, hap, hapj, q1, q2, q3, q4, q5, q6, q7, q8, q9⟩
              have hkeep : ∀ b, c.pr b → w'.heap[b]? = c.w.heap[b]? := fun b hp => q5 b (hs.plow b hp) (fun hl e => hs.apart id i hi hd hl (by rw [← e] at hp; exact hp)) (fun hl e => hs.apart jd j hj hdj hl (by rw [← e] at hp; exact hp))
              have t2 : Tells c { c with pr := pr', w := w' } := ⟨fun _ _ h => h, fun _ h => h, ⟨q1, hkeep⟩, q6⟩
              have hlen : ((h.set id (some ⟨.raw true T.size z [.tv T y], fl⟩)).set jd (some ⟨.typed u ys, fj⟩)).length = h.length := by simp
              have hgj : hget ((h.set id (some ⟨.raw true T.size z [.tv T y], fl⟩)).set jd (some ⟨.typed u ys, fj⟩)) jd = some ⟨.typed u ys, fj⟩ := hget_set_same (by simpa using hjd)
              have hgi : hget ((h.set id (some ⟨.raw true T.size z [.tv T y], fl⟩)).set jd (some ⟨.typed u ys, fj⟩)) id = some ⟨.raw true T.size z [.tv T y], fl⟩ := by rw [hget_set_other (Ne.symm hne)]; exact hget_set_same hid
              have hgo : ∀ id', id' ≠ id → id' ≠ jd → hget ((h.set id (some ⟨.raw true T.size z [.tv T y], fl⟩)).set jd (some ⟨.typed u ys, fj⟩)) id' = hget h id' := fun id' h1 h2 => by rw [hget_set_other h2, hget_set_other h1]
              have hS : Sim { c with pr := pr', w := w' } ((h.set id (some ⟨.raw true T.size z [.tv T y], fl⟩)).set jd (some ⟨.typed u ys, fj⟩)) := by
                refine ⟨fun id' i' h1 h2 h3 => ?_, fun id' h1 h2 => ?_, fun id' i' h1 h2 h3 => Nat.lt_of_lt_of_le (hs.low id' i' h1 h2 h3) q4, hs.inj, q3, fun id' i' h1 h2 h3 hp => ?_, hs.own.step rfl (fun _ h => h) (fun _ _ h => h) q4 q2 (fun id' i' h1 h2 h3 => hs.own.off h1 h2 h3), fun id' i' fx e' xs' f h1 h2 h3 h4 => by
                  by_cases he : id' = id
                  · subst he; rw [hgi] at h4; cases h4
                  · by_cases hej : id' = jd
                    · subst hej; rw [hgj] at h4; cases h4
                    · rw [hlen] at h1
                      rw [hgo id' he hej] at h4
                      exact hs.deepStay h1 h2 h3 h4 (fun _ h => h) fun b hb => q5 b (hs.at_low h3 hb) (fun hl e => he (hs.at_inj h3 hd hb (.inr ⟨i, hi, hl, e⟩))) (fun hl e => hej (hs.at_inj h3 hdj hb (.inr ⟨j, hj, hl, e⟩)))⟩
                · by_cases he : id' = id
                  · subst he
                    have : i' = i := by rw [hi] at h2; simpa using h2.symm
                    subst this
                    exact ⟨_, hgi, obj_back (c := two pr' w' { i' with full := false } { j with full := false }) (c2 := { c with pr := pr', w := w' }) rfl rfl hT hrep2 rfl hrep.full ⟨hz.1, hz.2.1⟩⟩
                  · by_cases hej : id' = jd
                    · subst hej
                      have : i' = j := by rw [hj] at h2; simpa using h2.symm
                      subst this
                      exact ⟨_, hgj, ⟨hrepj2.len, hrepj2.es, hrepj2.pos, hrepj.full, hrepj2.loc, hrepj2.blk, hrepj2.cont⟩⟩
                    · rw [hlen] at h1
                      obtain ⟨o', ho', hr''⟩ := hs.obj id' i' h1 h2 h3
                      exact ⟨o', by rw [hgo id' he hej]; exact ho', hr''.mono t2 fun hl => q5 _ (hs.low id' i' h2 h3 hl) (fun hl' e => he (hs.inj id' id i' i h2 hi h3 hd hl hl' e.symm)) (fun hl' e => hej (hs.inj id' jd i' j h2 hj h3 hdj hl hl' e.symm))⟩
                · have he : id' ≠ id := fun e => hd (e ▸ h2)
                  have hej : id' ≠ jd := fun e => hdj (e ▸ h2)
                  rw [hlen] at h1
                  rw [hgo id' he hej]; exact hs.gone id' h1 h2
                · by_cases he : id' = id
                  · subst he
                    have : i' = i := by rw [hi] at h1; simpa using h1.symm
                    subst this
                    exact hap h3 hp
                  · by_cases hej : id' = jd
                    · subst hej
                      have : i' = j := by rw [hj] at h1; simpa using h1.symm
                      subst this
                      exact hapj h3 hp
                    · rcases q2 _ hp with hp | hp
                      · exact hs.apart id' i' h1 h2 h3 hp
                      · have := hs.low id' i' h1 h2 h3; omega
              refine ⟨v', { c with pr := pr', w := w' }, rfl, rfl, ⟨⟨q1, q4, hkeep, q6, fun b hb hn2 => q5 b hb (fun hl e => hn2 ⟨id, hid, hd, .inr ⟨i, hi, hl, e⟩⟩) (fun hl e => hn2 ⟨jd, hjd, hdj, .inr ⟨j, hj, hl, e⟩⟩), fun b hh => .inr (by obtain ⟨id', h1, h2, h3⟩ := hh; exact ⟨id', by simpa using h1, h2, h3⟩), q2, q7, q8, q9⟩, by simp, fun _ _ h => h, fun _ _ h h' => absurd (h'.symm.trans h) (by simp), fun _ h => h, fun _ h => .inl h⟩, hS, flat_rep hfv hvv, fun h => by cases h⟩
      · cases hb
    · cases hb
  · cases hb

/-- A run's word, the struct and the row that came in as they are then. -/
def finMr (t T e : Ty) (r : AV × Heap) : Option (t.C × T.C × List e.C) :=
  match hget r.2 0, hget r.2 1 with
  | some ⟨.raw true es _ [a], _⟩, some ⟨.typed u ys, _⟩ => if hu : u = e then bif (es == T.size) && T.isAgg then (a.as T).bind fun y => (asM t (deref r.2 8 r.1)).map fun v => (v, y, Ty.castR hu ys) else none else none
  | _, _ => none

section
variable {P : Program} {E : Env} {run : Run}
theorem lawMr (hT : TOk P E) (hC : CallsOk P E run) (hmix : P.follows .mixedOrders = true) {f : FuncId} {fn : Func} (hf : P.funcs[f]? = some fn) (hname : (fn.name == "runtime.NumGoroutine") = false) (hb : fn.body.isNone = false) (hpin : 1 < pinsOf E f) {k : Nat} {args : List AV} {t T e : Ty} (hflat : ∀ x : t.C, flatV (tvM t x) = true) {x : T.C} {xs : List e.C} {o : t.C × T.C × List e.C}
    (hk : abody E run k f fn (.ptr 0 0 0 :: .sl 1 :: args) [some ⟨objC T x, false⟩, some ⟨.typed e xs, false⟩] (finMr t T e) = some o) : LawMr P f args T x e xs (tvM t o.1) o.2.1 o.2.2 := by
  obtain ⟨r, hfin, hw⟩ := told_body (lv := true) hT hC (regOk hT hmix hC) hf (fun h => by cases h) hk
  obtain ⟨rv, rh⟩ := r
  refine ⟨⟨fn, hf, hname, hb⟩, fun pr w i j vs hp hrep hrepj hi hj hij hr => ?_⟩
  have h0 : ∀ id q, (two pr w i j).m id = some q → (id = 0 ∧ q = i) ∨ (id = 1 ∧ q = j) := fun id q hq => by
    simp only [two] at hq
    split at hq
    · exact .inl ⟨by assumption, by simpa using hq.symm⟩
    · split at hq
      · exact .inr ⟨by assumption, by simpa using hq.symm⟩
      · cases hq
  have hs : Sim (two pr w i j) [some ⟨objC T x, false⟩, some ⟨.typed e xs, false⟩] := by
    refine ⟨fun id q hid hq _ => ?_, fun id _ hd => hd.elim, fun id q hq _ hl => ?_, fun id id' q q' hq hq' _ _ hl hl' he => ?_, hp, fun id q hq _ hl => ?_, noOwn (fun _ _ h => h), fun id q fx e' xs' f hid hq _ hg => by rcases h0 id q hq with ⟨rfl, rfl⟩ | ⟨rfl, rfl⟩ <;> cases hg⟩
    · rcases h0 id q hq with ⟨rfl, rfl⟩ | ⟨rfl, rfl⟩
      · exact ⟨_, rfl, hrep⟩
      · exact ⟨_, rfl, hrepj⟩
    · rcases h0 id q hq with ⟨rfl, rfl⟩ | ⟨rfl, rfl⟩
      · exact (hi hl).1
      · exact (hj hl).1
    · rcases h0 id q hq with ⟨rfl, rfl⟩ | ⟨rfl, rfl⟩ <;> rcases h0 id' q' hq' with ⟨rfl, rfl⟩ | ⟨rfl, rfl⟩
      · rfl
      · exact absurd he (hij hl hl')
      · exact absurd he.symm (hij hl' hl)
      · rfl
    · rcases h0 id q hq with ⟨rfl, rfl⟩ | ⟨rfl, rfl⟩
      · exact (hi hl).2
      · exact (hj hl).2
  have hfre : Fre (two pr w i j) [some ⟨objC T x, false⟩, some ⟨.typed e xs, false⟩] := by
    intro id hid
    have h1 : id ≠ 0 := by simp at hid; omega
    have h2 : id ≠ 1 := by simp at hid; omega
    exact ⟨by simp [two, h1, h2], fun h => h⟩
  refine (hw (two pr w i j) vs hs hfre hr).mono ?_
  rintro en w' ⟨v', c', rfl, rfl, hsi, hs', hf', hvr⟩
  have W := hsi.1
  have hm0 : c'.m 0 = some i := hsi.2.2 0 i (by omega) (by simp [two])
  have hm1 : c'.m 1 = some j := hsi.2.2 1 j hpin (by simp [two])
  unfold finMr at hfin
  split at hfin
  · rename_i es z a fl u ys fj hob hoj
    split at hfin
    · rename_i hu
      subst hu
      cases hcond : ((es == T.size) && T.isAgg) with
      | false => rw [hcond] at hfin; cases hfin
      | true =>
        rw [hcond] at hfin
        simp only [cond_true] at hfin
        simp only [Bool.and_eq_true, beq_iff_eq] at hcond
        obtain ⟨rfl, hTa⟩ := hcond
        obtain ⟨y, hy, hfin⟩ := Option.bind_eq_some_iff.1 hfin
        obtain ⟨v1, hv1, hx⟩ := Option.map_eq_some_iff.1 hfin
        subst hx
        have hd := hs'.alive hob
        have hdj := hs'.alive hoj
        obtain ⟨o', ho, hrep2⟩ := hs'.obj 0 i (hget_lt hob) hm0 hd
        rw [hob] at ho
        simp only [Option.some.injEq] at ho
        subst ho
        obtain ⟨o2, ho2, hrepj2⟩ := hs'.obj 1 j (hget_lt hoj) hm1 hdj
        rw [hoj] at ho2
        simp only [Option.some.injEq] at ho2
        subst ho2
        have hif : ({ i with full := false } : Info) = i := by
          have := hrep.full
          cases i
          simp only at this
          subst this
          rfl
        have hrep3 := obj_rep (c := c') (c2 := two c'.pr c'.w i j) rfl rfl hTa hy hrep2
        rw [hif] at hrep3
        refine ⟨v', c'.pr, rfl, flat_rep (hflat v1) (asM_rep hv1 (deref_rep hs' 8 _ _ hvr)), hrep3, ⟨hrepj2.len, hrepj2.es, hrepj2.pos, hrepj.full, hrepj2.loc, hrepj2.blk, hrepj2.cont⟩, fun hl => hs'.apart 0 i hm0 hd hl, fun hl => hs'.apart 1 j hm1 hdj hl, W.pr, W.pnew, hs'.plow, W.size, fun b hb hn hnj => W.frame b hb fun ⟨id, hid, _, ha⟩ => ?_, W.blk, W.os, W.tape, W.output⟩
        rcases ha with ha | ⟨q, hq, hl, he⟩
        · exact ha
        · rcases h0 id q hq with ⟨rfl, rfl⟩ | ⟨rfl, rfl⟩
          · exact hn hl he
          · exact hnj hl he
    · cases hfin
  · cases hfin
end
theorem LawMr.reads {P : Program} {f : FuncId} {as bs : List AV} {T e : Ty} {x y : T.C} {xs ys : List e.C} {v : AV} (h : ReadsL as bs) (l : LawMr P f bs T x e xs v y ys) : LawMr P f as T x e xs v y ys :=
  ⟨l.1, fun pr w i j vs hp hr hrj hi hj hij hv => l.2 pr w i j vs hp hr hrj hi hj hij (by
    cases hvs : vs.toList with
    | nil => rw [hvs] at hv; simp [VReps] at hv
    | cons v0 vs' =>
      rw [hvs] at hv
      cases vs' with
      | nil => simp [VReps] at hv
      | cons v1 vs'' =>
      simp only [VReps] at hv ⊢
      exact ⟨hv.1, hv.2.1, h _ _ hv.2.2⟩)⟩
end Go.AM
