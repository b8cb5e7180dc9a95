/- An interpreter of the model's code over values that are told, and its soundness. -/
import Derived.Test.YteojdaobpjhddaaAS34
namespace Go.AM

/-! Structs of the caller's own, behind a pointer: the first arg that is written, or the result. -/
theorem cells_simple : ∀ (t : Ty) (x : t.C), (cellsT t x).all simpleV = true := by
  intro t
  induction t with
  | pair a b iha ihb => intro x; simp only [cellsT, List.all_append, Bool.and_eq_true]; exact ⟨iha _, ihb _⟩
  | _ => intro x; simp [cellsT, simpleV]

/-- A struct alone in its block. -/
def objC (T : Ty) (x : T.C) : Cont := .raw true T.size (.tv T T.dflt) [.tv T x]

theorem tv_cells {T : Ty} (hT : T.isAgg = true) (x : T.C) : (AV.tv T x).cells = cellsT T x := by simp [AV.cells, hT]
theorem tv_shape {T : Ty} (hT : T.isAgg = true) (x : T.C) : (AV.tv T x).isAgg = true ∧ (AV.tv T x).size = T.size := by simp [AV.isAgg, AV.size, hT]

/-- A struct's cells, told as of its type. -/
theorem obj_rep {c c2 : Ctx} (hp : c2.pr = c.pr) (hw : c2.w = c.w) {i : Info} {T : Ty} (hT : T.isAgg = true) {z a : AV} {fl : Bool} {x : T.C} (ha : a.as T = some x) (hr : ObjRep c i ⟨.raw true T.size z [a], fl⟩) :
    ObjRep c2 { i with full := false } ⟨objC T x, false⟩ := by
  refine ⟨hr.len, hr.es, hr.pos, rfl, hr.loc, fun hl => by obtain ⟨n, h1, h2⟩ := hr.blk hl; exact ⟨n, by rw [hw]; exact h1, h2⟩, ?_⟩
  obtain ⟨_, _, hc⟩ := hr.cont
  refine ⟨(tv_shape hT _).1, (tv_shape hT _).2, fun k y hk => ?_⟩
  cases k with
  | zero =>
    simp only [List.getElem?_cons_zero, Option.some.injEq] at hk
    subst hk
    obtain ⟨_, _, vs, v1, v2, v3, v4⟩ := hc 0 a rfl
    refine ⟨(tv_shape hT x).1, (tv_shape hT x).2, vs, v1, fun j v hj => by rw [hw]; exact v2 j v hj, ?_, v4⟩
    rw [tv_cells hT]
    exact simple_reps hp hw (cells_simple T x) (as_ok ha v3).vreps
  | succ k => simp at hk

/-- The caller's struct again, as the callee left it. -/
theorem obj_back {c c2 : Ctx} (hp : c2.pr = c.pr) (hw : c2.w = c.w) {i i0 : Info} {T : Ty} (hT : T.isAgg = true) {z : AV} {fl : Bool} {y : T.C} (hr : ObjRep c i0 ⟨objC T y, false⟩) (hi : i0 = { i with full := false }) (hfl : i.full = fl) (hz : z.isAgg = true ∧ z.size = T.size) :
    ObjRep c2 i ⟨.raw true T.size z [.tv T y], fl⟩ := by
  subst hi
  refine ⟨hr.len, hr.es, hr.pos, hfl, hr.loc, fun hl => by obtain ⟨n, h1, h2⟩ := hr.blk hl; exact ⟨n, by rw [hw]; exact h1, h2⟩, hz.1, hz.2, fun k v hk => ?_⟩
  obtain ⟨_, _, hc⟩ := hr.cont
  obtain ⟨h1, h2, vs, v1, v2, v3, v4⟩ := hc k v hk
  refine ⟨h1, h2, vs, v1, fun j u hj => by rw [hw]; exact v2 j u hj, ?_, v4⟩
  cases k with
  | zero =>
    simp only [List.getElem?_cons_zero, Option.some.injEq] at hk
    subst hk
    rw [tv_cells hT] at v3 ⊢
    exact simple_reps hp hw (cells_simple T y) v3
  | succ k => simp at hk

def LawMo (P : Program) (f : FuncId) (args : List AV) (T : Ty) (x : T.C) (v : AV) (y : T.C) : Prop :=
  Enters P f ∧ ∀ (pr : Nat → Prop) (w : World) (i : Info) (vs : Array Value), (∀ b, pr b → b < w.heap.size) → ObjRep (alone pr w i) i ⟨objC T x, false⟩ → (i.loc = true → i.b < w.heap.size ∧ ¬ pr i.b) →
    VReps (alone pr w i) (.ptr 0 0 0 :: args) vs.toList → Calls P f vs w fun en w' =>
    ∃ v' pr', en = .returned v' ∧ VRep (still0 pr' w') v v' ∧ ObjRep (alone pr' w' i) i ⟨objC T y, false⟩ ∧ (i.loc = true → ¬ pr' i.b) ∧
      (∀ b, pr b → pr' b) ∧ (∀ b, pr' b → pr b ∨ w.heap.size ≤ b) ∧ (∀ b, pr' b → b < w'.heap.size) ∧ w.heap.size ≤ w'.heap.size ∧
      (∀ b, b < w.heap.size → (i.loc = true → i.b ≠ b) → w'.heap[b]? = w.heap[b]?) ∧ (∀ b n, Blk w b n → Blk w' b n) ∧ w'.os = w.os ∧ w'.tape = w.tape ∧ w'.output = w.output

/-- A contract of a call that writes a struct behind a pointer; it tells words, or what is no reference. -/
def byMutO (T : Ty) (m : (ρ : Type) → List AV → T.C → (AV → T.C → Option ρ) → Option ρ) : Con := fun ρ args h K =>
  match args with
  | .ptr id 0 0 :: rest =>
    (match hget h id with
     | some ⟨.raw true es z [a], fl⟩ =>
       bif (es == T.size) && T.isAgg && rest.all noRef then (a.as T).bind fun x => m ρ rest x (fun v y => bif noRef v || flatV v then K v (h.set id (some ⟨.raw true es z [.tv T y], fl⟩)) true else none) else none
     | _ => none)
  | _ => none

theorem con_byMutO {P : Program} {f : FuncId} {T : Ty} {m : (ρ : Type) → List AV → T.C → (AV → T.C → Option ρ) → Option ρ}
    (hm : ∀ (ρ : Type) args x (K : AV → T.C → Option ρ) (o : ρ), m ρ args x K = some o → ∃ v y, K v y = some o ∧ LawMo P f args T x v y) : ConOk P f (byMutO T m) := by
  intro ρ args h K o hb
  unfold byMutO at hb
  split at hb
  · rename_i id rest
    split at hb
    · rename_i es z a fl hob
      cases hcond : ((es == T.size) && T.isAgg && rest.all noRef) with
      | false => rw [hcond] at hb; cases hb
      | true =>
        rw [hcond] at hb
        simp only [cond_true] at hb
        simp only [Bool.and_eq_true, beq_iff_eq] at hcond
        obtain ⟨⟨rfl, hT⟩, hn⟩ := hcond
        obtain ⟨x, ha, hb⟩ := Option.bind_eq_some_iff.1 hb
        obtain ⟨v, y, hk, hent, hlaw⟩ := hm _ _ _ _ _ hb
        cases hfv : (noRef v || flatV v) with
        | false => rw [hfv] at hk; cases hk
        | true =>
          rw [hfv] at hk
          simp only [cond_true] at hk
          have hid : id < h.length := hget_lt hob
          refine ⟨v, _, true, hk, hent, (sta_set fun j hj => touch_ptr hj (List.mem_cons_self ..)), fun c vs hs _ hr => ?_⟩
          have hd := hs.alive hob
          have hr' := hr
          cases hvs : vs.toList with
          | nil => rw [hvs] at hr'; simp [VReps] at hr'
          | cons v0 vs' =>
            rw [hvs] at hr'
            simp only [VReps, VRep, ptrRep] at hr'
            obtain ⟨⟨hany, hv⟩, hrest⟩ := hr'
            obtain ⟨i, hi, hix, hcase⟩ := hv.resolve_left hd
            obtain ⟨o', ho, hrep⟩ := hs.obj id i hid hi hd
            rw [hob] at ho
            simp only [Option.some.injEq] at ho
            subst ho
            have hz := hrep.cont
            have hrep0 := obj_rep (c := c) (c2 := alone c.pr c.w { i with full := false }) rfl rfl hT ha hrep
            have hargs : VReps (alone c.pr c.w { i with full := false }) (.ptr 0 0 0 :: rest) vs.toList := by
              rw [hvs]
              simp only [VReps, VRep, ptrRep]
              exact ⟨⟨hany, .inr ⟨{ i with full := false }, by simp [alone], hix, hcase⟩⟩, noRef_reps (c := c) (c2 := alone c.pr c.w { i with full := false }) rfl rfl hn hrest⟩
            refine (hlaw c.pr c.w { i with full := false } vs hs.plow hrep0 (fun hl => ⟨hs.low id i hi hd hl, hs.apart id i hi hd hl⟩) hargs).mono ?_
            rintro en w' ⟨v', pr', rfl, hvv, hrep2, hap, q1, q2, q3, q4, q5, q6, q7, q8, q9⟩
            have hkeep : ∀ b, c.pr b → w'.heap[b]? = c.w.heap[b]? := fun b hp => q5 b (hs.plow b hp) fun hl e => hs.apart id i hi hd hl (by rw [← e] at hp; exact hp)
            have t2 : Tells c { c with pr := pr', w := w' } := ⟨fun _ _ h => h, fun _ h => h, ⟨q1, hkeep⟩, q6⟩
            have hlen : (h.set id (some ⟨.raw true T.size z [.tv T y], fl⟩)).length = h.length := by simp
            have hS : Sim { c with pr := pr', w := w' } (h.set id (some ⟨.raw true T.size z [.tv T y], fl⟩)) := by
              refine ⟨fun id' i' h1 h2 h3 => ?_, fun id' h1 h2 => ?_, fun id' i' h1 h2 h3 => Nat.lt_of_lt_of_le (hs.low id' i' h1 h2 h3) q4, hs.inj, q3, fun id' i' h1 h2 h3 hp => ?_, hs.own.step rfl (fun _ h => h) (fun _ _ h => h) q4 q2 (fun id' i' h1 h2 h3 => hs.own.off h1 h2 h3), fun id' i' fx e' xs' f h1 h2 h3 h4 => by
                  by_cases he : id' = id
                  · subst he; rw [hget_set_same hid] at h4; cases h4
                  · rw [hlen] at h1
                    rw [hget_set_other he] at h4
                    exact hs.deepStay h1 h2 h3 h4 (fun _ h => h) fun b hb => q5 b (hs.at_low h3 hb) fun hl e => he (hs.at_inj h3 hd hb (.inr ⟨i, hi, hl, e⟩))⟩
              · by_cases he : id' = id
                · subst he
                  have : i' = i := by rw [hi] at h2; simpa using h2.symm
                  subst this
                  exact ⟨_, hget_set_same hid, obj_back (c := alone pr' w' { i' with full := false }) (c2 := { c with pr := pr', w := w' }) rfl rfl hT hrep2 rfl hrep.full ⟨hz.1, hz.2.1⟩⟩
                · rw [hlen] at h1
                  obtain ⟨o', ho', hr''⟩ := hs.obj id' i' h1 h2 h3
                  exact ⟨o', by rw [hget_set_other he]; exact ho', hr''.mono t2 fun hl => q5 _ (hs.low id' i' h2 h3 hl) fun hl' e => he (hs.inj id' id i' i h2 hi h3 hd hl hl' e.symm)⟩
              · have he : id' ≠ id := fun e => hd (e ▸ h2)
                rw [hlen] at h1
                rw [hget_set_other he]; exact hs.gone id' h1 h2
              · by_cases he : id' = id
                · subst he
                  have : i' = i := by rw [hi] at h1; simpa using h1.symm
                  subst this
                  exact hap h3 hp
                · rcases q2 _ hp with hp | hp
                  · exact hs.apart id' i' h1 h2 h3 hp
                  · have := hs.low id' i' h1 h2 h3; omega
            have hvrep : VRep { c with pr := pr', w := w' } v v' := by
              rw [Bool.or_eq_true] at hfv
              rcases hfv with hfv | hfv
              · exact noRef_rep (c := still0 pr' w') (c2 := { c with pr := pr', w := w' }) rfl rfl hfv hvv
              · exact flat_rep hfv hvv
            refine ⟨v', { c with pr := pr', w := w' }, rfl, rfl, ⟨⟨q1, q4, hkeep, q6, fun b hb hn2 => q5 b hb fun hl e => hn2 ⟨id, hid, hd, .inr ⟨i, hi, hl, e⟩⟩, fun b hh => .inr (by obtain ⟨id', h1, h2, h3⟩ := hh; exact ⟨id', by simpa using h1, h2, h3⟩), q2, q7, q8, q9⟩, by simp, fun _ _ h => h, fun _ _ h h' => absurd (h'.symm.trans h) (by simp), fun _ h => h, fun _ h => .inl h⟩, hS, hvrep, fun h => by cases h⟩
    · cases hb
  · cases hb

/-- All rows but the first. -/
def but0 (id : Nat) : Option Nat := bif id == 0 then none else some id
theorem but0_eq {id id' : Nat} (h : but0 id = some id') : id' = id ∧ id ≠ 0 := by
  unfold but0 at h
  cases hb : (id == 0) with
  | true => rw [hb] at h; cases h
  | false => rw [hb] at h; simp only [cond_false, Option.some.injEq] at h; exact ⟨h.symm, by simpa using hb⟩

def heap0 (h : Heap) : Heap := h.map (Option.map (renO but0))
theorem heap0_get (h : Heap) (id : Nat) : hget (heap0 h) id = (hget h id).map (renO but0) := by
  simp only [hget, heap0, List.getD, List.getElem?_map]
  cases h[id]? <;> rfl

/-- A run's result by value, and the struct that came in as it is then. -/
def finMo (t T : Ty) (r : AV × Heap) : Option (t.C × T.C) :=
  match hget r.2 0 with
  | some ⟨.raw true es _ [a], _⟩ => bif (es == T.size) && T.isAgg then (a.as T).bind fun y => (asM t (deref (heap0 r.2) 8 (ren but0 8 r.1))).map fun v => (v, y) else none
  | _ => none

section
variable {P : Program} {E : Env} {run : Run}
theorem lawMo (hT : TOk P E) (hC : CallsOk P E run) (hmix : P.follows .mixedOrders = true) {f : FuncId} {fn : Func} (hf : P.funcs[f]? = some fn) (hname : (fn.name == "runtime.NumGoroutine") = false) (hb : fn.body.isNone = false) (hpin : 0 < pinsOf E f) {k : Nat} {args : List AV} {t T : Ty} {x : T.C} {o : t.C × T.C}
    (hk : abody E run k f fn (.ptr 0 0 0 :: args) [some ⟨objC T x, false⟩] (finMo t T) = some o) : LawMo P f args T x (tvM t o.1) o.2 := by
  obtain ⟨r, hfin, hw⟩ := told_body (lv := true) hT hC (regOk hT hmix hC) hf (fun h => by cases h) hk
  obtain ⟨rv, rh⟩ := r
  refine ⟨⟨fn, hf, hname, hb⟩, fun pr w i vs hp hrep hi hr => ?_⟩
  have h0 : ∀ id j, (alone pr w i).m id = some j → id = 0 ∧ j = i := fun id j hj => by
    simp only [alone] at hj
    split at hj
    · exact ⟨by assumption, by simpa using hj.symm⟩
    · cases hj
  have hs : Sim (alone pr w i) [some ⟨objC T x, false⟩] := by
    refine ⟨fun id j hid hj _ => ?_, fun id _ hd => hd.elim, fun id j hj _ hl => ?_, fun id id' j j' hj hj' _ _ _ _ _ => ?_, hp, fun id j hj _ hl => ?_, noOwn (fun _ _ h => h), fun id j fx e' xs' f hid hj _ hg => by obtain ⟨rfl, rfl⟩ := h0 id j hj; cases hg⟩
    · obtain ⟨rfl, rfl⟩ := h0 id j hj; exact ⟨_, rfl, hrep⟩
    · obtain ⟨rfl, rfl⟩ := h0 id j hj; exact (hi hl).1
    · rw [(h0 id j hj).1, (h0 id' j' hj').1]
    · obtain ⟨rfl, rfl⟩ := h0 id j hj; exact (hi hl).2
  have hfre : Fre (alone pr w i) [some ⟨objC T x, false⟩] := by
    intro id hid
    have : id ≠ 0 := by simp at hid; omega
    exact ⟨by simp [alone, this], fun h => h⟩
  refine (hw (alone pr w i) vs hs hfre hr).mono ?_
  rintro en w' ⟨v', c', rfl, rfl, hsi, hs', hf', hvr⟩
  have W := hsi.1
  have hm0 : c'.m 0 = some i := hsi.2.2 0 i hpin (by simp [alone])
  unfold finMo at hfin
  split at hfin
  · rename_i es z a fl hob
    cases hcond : ((es == T.size) && T.isAgg) with
    | false => rw [hcond] at hfin; cases hfin
    | true =>
      rw [hcond] at hfin
      simp only [cond_true] at hfin
      simp only [Bool.and_eq_true, beq_iff_eq] at hcond
      obtain ⟨rfl, hTa⟩ := hcond
      obtain ⟨y, hy, hfin⟩ := Option.bind_eq_some_iff.1 hfin
      obtain ⟨v1, hv1, hx⟩ := Option.map_eq_some_iff.1 hfin
      subst hx
      have hd := hs'.alive hob
      obtain ⟨o', ho, hrep2⟩ := hs'.obj 0 i (hget_lt hob) hm0 hd
      rw [hob] at ho
      simp only [Option.some.injEq] at ho
      subst ho
      have hif : ({ i with full := false } : Info) = i := by
        have := hrep.full
        cases i
        simp only at this
        subst this
        rfl
      have hrep3 := obj_rep (c := c') (c2 := alone c'.pr c'.w i) rfl rfl hTa hy hrep2
      rw [hif] at hrep3
      -- the result stays, but for what came in
      let c2 : Ctx := { c' with m := fun id => if id = 0 then none else c'.m id, own := fun id b => id ≠ 0 ∧ c'.own id b }
      have hm2 : ∀ id j, c2.m id = some j → id ≠ 0 ∧ c'.m id = some j := fun id j hj => by
        simp only [c2] at hj
        split at hj
        · cases hj
        · exact ⟨by assumption, hj⟩
      have hat2 : ∀ {id b}, c2.at id b → id ≠ 0 ∧ c'.at id b := fun {id b} ha => by
        rcases ha with ha | ⟨j, hj, hl, he⟩
        · exact ⟨ha.1, .inl ha.2⟩
        · exact ⟨(hm2 id j hj).1, .inr ⟨j, (hm2 id j hj).2, hl, he⟩⟩
      have hren : Renames c' c2 but0 := ⟨fun id id' h => by obtain ⟨rfl, h1⟩ := but0_eq h; simp [c2, h1], fun id id' h hd => by obtain ⟨rfl, _⟩ := but0_eq h; exact hd, rfl, rfl⟩
      have hs2 : Sim c2 (heap0 rh) := by
        refine ⟨fun id j h1 h2 h3 => ?_, fun id h1 h2 => ?_, fun id j h1 h2 h3 => hs'.low id j (hm2 id j h1).2 h2 h3, fun a b i' j' h1 h2 h3 h4 h5 h6 h7 => hs'.inj a b i' j' (hm2 a i' h1).2 (hm2 b j' h2).2 h3 h4 h5 h6 h7, hs'.plow, fun id j h1 h2 h3 => hs'.apart id j (hm2 id j h1).2 h2 h3,
          ⟨fun id b h1 h2 => hs'.own.low id b h1 h2.2, fun id id' b h1 h2 h3 h4 => hs'.own.inj id id' b h1 h2 h3.2 h4.2, fun id id' j h1 h2 h3 h4 h5 => hs'.own.row id id' j h1 h2 (hm2 id' j h3).2 h4 h5.2, fun id b h1 h2 => hs'.own.apart id b h1 h2.2, fun id b h1 => by
            have := hs'.own.told id b h1.2
            simp only [c2, if_neg h1.1]; exact this⟩, fun id j fx e xs f h1 h2 h3 h4 => ?_⟩
        rotate_right
        · rw [heap0_get, Option.map_eq_some_iff] at h4
          obtain ⟨⟨ct, fl⟩, ho, hg⟩ := h4
          cases ct with
          | deep fx' e' xs' =>
            simp only [renO, renC, Obj.mk.injEq, Cont.deep.injEq] at hg
            obtain ⟨⟨rfl, rfl, he⟩, rfl⟩ := hg
            cases he
            exact (hs'.deep id j fx' e' xs' fl (by simpa [heap0] using h1) (hm2 id j h2).2 h3 ho).mono (fun b hb => ⟨(hm2 id j h2).1, hb⟩) (fun _ _ => rfl) (fun _ => rfl)
          | typed e' xs' => simp [renO, renC] at hg
          | raw a' es' d' xs' => simp [renO, renC] at hg
        · obtain ⟨o, ho, rep⟩ := hs'.obj id j (by simpa [heap0] using h1) (hm2 id j h2).2 h3
          refine ⟨renO but0 o, by rw [heap0_get, ho]; rfl, ?_⟩
          obtain ⟨L, hL, hlies⟩ := contRep_iff.1 rep.cont
          obtain ⟨g1, g2, g3⟩ := ren_cont hren hL
          exact ⟨by rw [rep.len]; exact g2.symm, by rw [rep.es]; exact g3.symm, rep.pos, rep.full, rep.loc, rep.blk, contRep_iff.2 ⟨L, g1, hlies⟩⟩
        · rw [heap0_get, hs'.gone id (by simpa [heap0] using h1) h2]; rfl
      have hv2 := asM_rep hv1 (deref_rep hs2 8 _ _ (ren_rep hren 8 _ _ hvr))
      have hnot : i.loc = true → ¬ c2.still.pr i.b := by
        rintro hl (hp | ⟨id, q2, ha⟩)
        · exact hs'.apart 0 i hm0 hd hl hp
        · exact (hat2 ha).1 (hs'.at_inj q2 hd (hat2 ha).2 (.inr ⟨i, hm0, hl, rfl⟩))
      have hnew : ∀ b, c2.still.pr b → pr b ∨ w.heap.size ≤ b := by
        rintro b (hp | ⟨id, q2, ha⟩)
        · exact W.pnew b hp
        · obtain ⟨n1, n2⟩ := hat2 ha
          rcases W.own b ⟨id, Ctx.at_lt hs' hf' n2, q2, n2⟩ with h | ⟨id0, g0, g1, g2⟩
          · exact .inr h
          · rcases g2 with g2 | ⟨j0, g2, g3, g4⟩
            · exact g2.elim
            · obtain ⟨rfl, rfl⟩ := h0 id0 j0 g2
              exact absurd (hs'.at_inj q2 hd n2 (.inr ⟨j0, hm0, g3, g4⟩)) n1
      have hlow : ∀ b, c2.still.pr b → b < c'.w.heap.size := by
        rintro b (hp | ⟨id, q2, ha⟩)
        · exact hs'.plow b hp
        · exact hs'.at_low q2 (hat2 ha).2
      have tl : Tells (alone c'.pr c'.w i) (alone c2.still.pr c'.w i) := ⟨fun _ _ h => h, fun _ h => h, ⟨fun _ h => .inl h, fun _ _ => rfl⟩, fun _ _ h => h⟩
      refine ⟨v', c2.still.pr, rfl, hv2, hrep3.mono tl fun _ => rfl, hnot, fun b hb => .inl (W.pr b hb), hnew, hlow, W.size, fun b hb hn => W.frame b hb fun ⟨id, hid, _, ha⟩ => ?_, W.blk, W.os, W.tape, W.output⟩
      rcases ha with ha | ⟨j, hj, hl, he⟩
      · exact ha
      · obtain ⟨rfl, rfl⟩ := h0 id j hj
        exact hn hl he
  · cases hfin
end
theorem LawMo.reads {P : Program} {f : FuncId} {as bs : List AV} {T : Ty} {x y : T.C} {v : AV} (h : ReadsL as bs) (l : LawMo P f bs T x v y) : LawMo P f as T x v y :=
  ⟨l.1, fun pr w i vs hp hr hi hv => l.2 pr w i vs hp hr hi (by
    cases hvs : vs.toList with
    | nil => rw [hvs] at hv; simp [VReps] at hv
    | cons v0 vs' =>
      rw [hvs] at hv
      simp only [VReps] at hv ⊢
      exact ⟨hv.1, h _ _ hv.2⟩)⟩

/-- A call whose result is a pointer to a new struct. -/
def LawFo (P : Program) (f : FuncId) (args : List AV) (T : Ty) (x : T.C) : Prop :=
  Enters P f ∧ ∀ (pr : Nat → Prop) (w : World) (vs : Array Value), (∀ b, pr b → b < w.heap.size) → VReps (still0 pr w) args vs.toList → Calls P f vs w fun en w' =>
    ∃ v' pr' i, en = .returned v' ∧ VRep (alone pr' w' i) (.ptr 0 0 0) v' ∧ ObjRep (alone pr' w' i) i ⟨objC T x, false⟩ ∧ (i.loc = true → w.heap.size ≤ i.b ∧ i.b < w'.heap.size ∧ ¬ pr' i.b) ∧
      (∀ b, pr b → pr' b) ∧ (∀ b, pr' b → pr b ∨ w.heap.size ≤ b) ∧ (∀ b, pr' b → b < w'.heap.size) ∧ w.heap.size ≤ w'.heap.size ∧
      (∀ b, b < w.heap.size → w'.heap[b]? = w.heap[b]?) ∧ w'.os = w.os ∧ w'.tape = w.tape ∧ w'.output = w.output

def byFreshO (T : Ty) (m : (ρ : Type) → List AV → (T.C → Option ρ) → Option ρ) : Con := fun ρ args h K =>
  bif args.all noRef && T.isAgg then m ρ args fun x => K (.ptr h.length 0 0) (h ++ [some ⟨objC T x, false⟩]) false else none

theorem con_byFreshO {P : Program} {f : FuncId} {T : Ty} {m : (ρ : Type) → List AV → (T.C → Option ρ) → Option ρ} (hm : ∀ (ρ : Type) args (K : T.C → Option ρ) (x : ρ), m ρ args K = some x → ∃ y, K y = some x ∧ LawFo P f args T y) : ConOk P f (byFreshO T m) := by
  intro ρ args h K o hb
  unfold byFreshO at hb
  cases hc : (args.all noRef && T.isAgg) with
  | false => rw [hc] at hb; cases hb
  | true =>
    rw [hc] at hb
    simp only [cond_true] at hb
    rw [Bool.and_eq_true] at hc
    obtain ⟨x, hv1, hent, hlaw⟩ := hm _ _ _ _ hb
    refine ⟨.ptr h.length 0 0, h ++ [some ⟨objC T x, false⟩], false, hv1, hent, (Pre.snoc h _).sta _, fun c vs hs hf hr => ?_⟩
    refine (hlaw c.pr c.w vs hs.plow (noRef_reps (c := c) (c2 := still0 c.pr c.w) rfl rfl hc.1 hr)).mono ?_
    rintro en w' ⟨v', pr', i, rfl, hv, hrr, hi, h1, h2, h3, h4, h5, h6, h7, h8⟩
    obtain ⟨k1, k2, k3⟩ := byVal_state hs h1 h2 h3 h4 h5 h6 h7 h8
    have hfr := hf h.length (Nat.le_refl _) (by simp)
    have hifull : ({ i with full := false } : Info) = i := by
      have := hrr.full
      cases i
      simp only at this
      subst this
      rfl
    have hr2 : ObjRep { c with pr := pr', w := w' } { i with full := false } ⟨objC T x, false⟩ := obj_rep (c := alone pr' w' i) (c2 := { c with pr := pr', w := w' }) rfl rfl hc.2 (by simp [AV.as, Ty.cast]) hrr
    rw [hifull] at hr2
    obtain ⟨c2, p1, p2, p3, p4, g1, g2, g3, g4⟩ := own_add k1 k2 k3 hfr hr2 rfl fun hl => ⟨(hi hl).1, (hi hl).2.1, (hi hl).2.2, fun id hd ha => by
      have := hs.at_low (id := id) (b := i.b) hd ha
      have := (hi hl).1
      omega⟩
    refine ⟨v', c2, rfl, p2, g1, g2, ?_, fun _ => g3⟩
    simp only [VRep, ptrRep] at hv ⊢
    obtain ⟨ha, hb⟩ := hv
    refine ⟨ha, .inr ⟨i, by rw [p1]; simp [upd], ?_⟩⟩
    rcases hb with hb | ⟨j, hj, hb⟩
    · exact hb.elim
    · simp only [alone, if_true, Option.some.injEq] at hj
      subst hj
      exact hb

def finFo (T : Ty) (r : AV × Heap) : Option T.C :=
  match r.1 with
  | .ptr id 0 0 => (match hget r.2 id with | some ⟨.raw true es _ [a], _⟩ => bif (es == T.size) && T.isAgg then a.as T else none | _ => none)
  | _ => none

section
variable {P : Program} {E : Env} {run : Run}
theorem lawFo (hT : TOk P E) (hC : CallsOk P E run) (hmix : P.follows .mixedOrders = true) {f : FuncId} {fn : Func} (hf : P.funcs[f]? = some fn) (hname : (fn.name == "runtime.NumGoroutine") = false) (hb : fn.body.isNone = false) {k : Nat} {args : List AV} {T : Ty} {x : T.C}
    (hk : abody E run k f fn args [] (finFo T) = some x) : LawFo P f args T x := by
  obtain ⟨r, hfin, hw⟩ := told_body (lv := true) hT hC (regOk hT hmix hC) hf (fun h => by cases h) hk
  obtain ⟨rv, rh⟩ := r
  refine ⟨⟨fn, hf, hname, hb⟩, fun pr w vs hp hr => ?_⟩
  have hs : Sim (still0 pr w) [] := sim_still0 hp
  refine (hw (still0 pr w) vs hs (fun id _ => ⟨rfl, fun h => h⟩) hr).mono ?_
  rintro en w' ⟨v', c', rfl, rfl, hsi, hs', hf', hvr⟩
  have W := hsi.1
  have hframe : ∀ b, b < w.heap.size → c'.w.heap[b]? = w.heap[b]? := fun b hb => W.frame b hb Ctx.has0
  unfold finFo at hfin
  split at hfin
  · rename_i id heq
    replace heq : rv = .ptr id 0 0 := heq
    subst heq
    split at hfin
    · rename_i es z a fl hob
      cases hcond : ((es == T.size) && T.isAgg) with
      | false => rw [hcond] at hfin; cases hfin
      | true =>
        rw [hcond] at hfin
        simp only [cond_true] at hfin
        simp only [Bool.and_eq_true, beq_iff_eq] at hcond
        obtain ⟨rfl, hTa⟩ := hcond
        have hd := hs'.alive hob
        have hvr' := hvr
        simp only [VRep, ptrRep] at hvr'
        obtain ⟨hany, hv⟩ := hvr'
        obtain ⟨i, hi, hix, hcase⟩ := hv.resolve_left hd
        have hid : id < rh.length := hget_lt hob
        obtain ⟨ob, hob2, hrep⟩ := hs'.obj id i hid hi hd
        rw [hob] at hob2
        simp only [Option.some.injEq] at hob2
        subst hob2
        refine ⟨v', c'.pr, { i with full := false }, rfl, ?_, obj_rep (c := c') (c2 := alone c'.pr c'.w { i with full := false }) rfl rfl hTa hfin hrep, fun hl => ⟨?_, hs'.low id i hi hd hl, hs'.apart id i hi hd hl⟩, W.pr, W.pnew, hs'.plow, W.size, hframe, W.os, W.tape, W.output⟩
        · simp only [VRep, ptrRep]
          exact ⟨hany, .inr ⟨{ i with full := false }, by simp [alone], hix, hcase⟩⟩
        · exact (W.own i.b ⟨id, hid, hd, .inr ⟨i, hi, hl, rfl⟩⟩).elim (fun h => h) fun h => absurd h Ctx.has0
    · cases hfin
  · cases hfin
end
theorem LawFo.reads {P : Program} {f : FuncId} {as bs : List AV} {T : Ty} {x : T.C} (h : ReadsL as bs) (l : LawFo P f bs T x) : LawFo P f as T x :=
  ⟨l.1, fun pr w vs hp hr => l.2 pr w vs hp (h _ _ hr)⟩
end Go.AM
