/- An interpreter of the model's code over values that are told, and its soundness. -/
import Derived.Test.YtajlenpookikoaaAS23
import Derived.ChangeArms
import Derived.WideShapes
import Derived.DataReads
import Derived.Below
import Derived.RowKit
namespace Go.AM

/-! Contracts by value. -/
def still0 (pr : Nat → Prop) (w : World) : Ctx := ⟨fun _ => none, fun _ => False, pr, w, fun _ _ => False⟩

theorem Sim.still_low {c : Ctx} {h : Heap} (hs : Sim c h) : ∀ b, c.still.pr b → b < c.w.heap.size := by
  rintro b (hb | ⟨id, hd, ha⟩)
  · exact hs.plow b hb
  · exact hs.at_low hd ha
theorem Ctx.has0 {c : Ctx} {b : Nat} : ¬ c.has ([] : Heap).length b := fun ⟨_, h, _⟩ => by simp at h
theorem Ctx.at_lt {c : Ctx} {h : Heap} (hs : Sim c h) (hf : Fre c h) {id b : Nat} (ha : c.at id b) : id < h.length := by
  rcases Nat.lt_or_ge id h.length with hl | hl
  · exact hl
  · have hn := (hf id hl).1
    rcases ha with ha | ⟨i, hi, _⟩
    · exact absurd hn (hs.own.told id b ha)
    · rw [hn] at hi; cases hi
theorem Was.still_new {c c' : Ctx} {h' : Heap} (W : Was c [] c' h') (hs' : Sim c' h') (hf' : Fre c' h') {b : Nat} (hb : c'.still.pr b) : c.pr b ∨ c.w.heap.size ≤ b := by
  rcases hb with hb | ⟨id, hd, ha⟩
  · exact W.pnew b hb
  · exact (W.own b ⟨id, Ctx.at_lt hs' hf' ha, hd, ha⟩).elim .inr fun h => absurd h Ctx.has0
theorem sim_still0 {pr : Nat → Prop} {w : World} (hp : ∀ b, pr b → b < w.heap.size) : Sim (still0 pr w) [] :=
  ⟨fun id i h => (by simp at h), fun id h => (by simp at h), fun id i h => (by cases h), fun id id' i i' h => (by cases h), hp, fun id i h => (by cases h),
    ⟨fun _ _ _ h => h.elim, fun _ _ _ _ _ h => h.elim, fun _ _ _ _ _ _ _ h => h.elim, fun _ _ _ h => h.elim, fun _ _ h => h.elim⟩, fun id i fx e xs f h => (by simp at h)⟩

/-- What is told of a call by value: args and result stay; nothing that was there changes. -/
def LawV (P : Program) (f : FuncId) (args : List AV) (v : AV) : Prop :=
  Enters P f ∧ ∀ (pr : Nat → Prop) (w : World) (vs : Array Value), (∀ b, pr b → b < w.heap.size) → VReps (still0 pr w) args vs.toList → Calls P f vs w fun e w' =>
    ∃ v' pr', e = .returned v' ∧ VRep (still0 pr' w') v v' ∧ (∀ b, pr b → pr' b) ∧ (∀ b, pr' b → pr b ∨ w.heap.size ≤ b) ∧ (∀ b, pr' b → b < w'.heap.size) ∧ w.heap.size ≤ w'.heap.size ∧
      (∀ b, b < w.heap.size → w'.heap[b]? = w.heap[b]?) ∧ w'.os = w.os ∧ w'.tape = w.tape ∧ w'.output = w.output

theorem still0_tells (c : Ctx) : Tells (still0 c.pr c.w) c :=
  ⟨fun _ _ h => (by cases h), fun _ (h : False) => h.elim, ⟨fun _ h => h, fun _ _ => rfl⟩, fun _ _ h => h⟩

theorem simple_rep {c c2 : Ctx} (hp : c2.pr = c.pr) (hw : c2.w = c.w) {a : AV} {v : Value} (hn : simpleV a = true) (h : VRep c a v) : VRep c2 a v := by
  cases a <;> simp only [simpleV, Bool.false_eq_true] at hn <;> simp only [VRep, hp, hw] at h ⊢ <;> exact h

theorem simple_reps {c c2 : Ctx} (hp : c2.pr = c.pr) (hw : c2.w = c.w) : ∀ {as : List AV} {vs : List Value}, as.all simpleV = true → VReps c as vs → VReps c2 as vs
  | [], [], _, _ => by simp [VReps]
  | [], _ :: _, _, h => by simp [VReps] at h
  | _ :: _, [], _, h => by simp [VReps] at h
  | a :: as, v :: vs, hn, h => by
    simp only [List.all_cons, Bool.and_eq_true] at hn
    simp only [VReps] at h ⊢
    exact ⟨simple_rep hp hw hn.1 h.1, simple_reps hp hw hn.2 h.2⟩

theorem noRef_rep {c c2 : Ctx} (hp : c2.pr = c.pr) (hw : c2.w = c.w) {a : AV} {v : Value} (hn : noRef a = true) (h : VRep c a v) : VRep c2 a v := by
  cases a
  case agg cs =>
    simp only [VRep] at h ⊢
    obtain ⟨ws, hv, hc⟩ := h
    exact ⟨ws, hv, simple_reps hp hw hn hc⟩
  case fn f cs =>
    simp only [VRep] at h ⊢
    obtain ⟨ws, hv, hc⟩ := h
    exact ⟨ws, hv, simple_reps hp hw hn hc⟩
  all_goals exact simple_rep hp hw hn h

theorem simple_deref {h : Heap} {d : Nat} {a : AV} (hn : simpleV a = true) : deref h (d + 1) a = a := by
  cases a <;> simp only [simpleV, Bool.false_eq_true] at hn <;> rfl

theorem simple_derefs {h : Heap} {d : Nat} {as : List AV} (hn : as.all simpleV = true) : as.map (deref h (d + 1)) = as := by
  have : ∀ a ∈ as, deref h (d + 1) a = a := fun a ha => simple_deref (List.all_eq_true.1 hn a ha)
  rw [List.map_congr_left this]; simp

theorem noRef_deref {h : Heap} {d : Nat} {a : AV} (hn : noRef a = true) : deref h (d + 2) a = a := by
  cases a
  case agg cs => show AV.agg (cs.map (deref h (d + 1))) = _; rw [simple_derefs hn]
  case fn f cs => show AV.fn f (cs.map (deref h (d + 1))) = _; rw [simple_derefs hn]
  all_goals exact simple_deref hn

theorem flat_rep {c c2 : Ctx} {a : AV} {v : Value} (hn : flatV a = true) (h : VRep c a v) : VRep c2 a v := by
  cases a <;> simp only [flatV, Bool.false_eq_true] at hn <;> simp only [VRep] at h ⊢ <;> try exact h
  rename_i vs
  obtain ⟨ws, hv, hr⟩ := h
  refine ⟨ws, hv, ?_⟩
  have : ∀ {as : List AV} {us : List Value}, (as.all fun v => match v with | .int _ _ => true | .bool _ => true | .str _ => true | _ => false) = true → VReps c as us → VReps c2 as us := by
    intro as
    induction as with
    | nil => intro us _ h; cases us with
      | nil => simp [VReps]
      | cons _ _ => simp [VReps] at h
    | cons a as ih => intro us ha h; cases us with
      | nil => simp [VReps] at h
      | cons u us =>
        simp only [List.all_cons, Bool.and_eq_true] at ha
        simp only [VReps] at h ⊢
        refine ⟨?_, ih ha.2 h.2⟩
        have h1 := h.1
        cases a <;> simp at ha <;> simpa [VRep] using h1
  exact this hn hr

/-- What a call by value leaves of the caller's state. -/
theorem byVal_state {c : Ctx} {h : Heap} (hs : Sim c h) {pr' : Nat → Prop} {w' : World} (h1 : ∀ b, c.pr b → pr' b) (h2 : ∀ b, pr' b → c.pr b ∨ c.w.heap.size ≤ b) (h3 : ∀ b, pr' b → b < w'.heap.size) (h4 : c.w.heap.size ≤ w'.heap.size)
    (h5 : ∀ b, b < c.w.heap.size → w'.heap[b]? = c.w.heap[b]?) (h6 : w'.os = c.w.os) (h7 : w'.tape = c.w.tape) (h8 : w'.output = c.w.output) :
    Ext c h { c with pr := pr', w := w' } h ∧ Sim { c with pr := pr', w := w' } h ∧ Grow c h { c with pr := pr', w := w' } h := by
  have hblk : ∀ b n, Blk c.w b n → Blk w' b n := fun b n hb => by
    have hlt : b < c.w.heap.size := by obtain ⟨_, _, _, h1, _⟩ := hb; exact (Array.getElem?_eq_some_iff.1 h1).1
    exact hb.of_block (h5 b hlt)
  have t : Tells c { c with pr := pr', w := w' } := ⟨fun _ _ h => h, fun _ h => h, ⟨h1, fun b hb => h5 b (hs.plow b hb)⟩, hblk⟩
  refine ⟨⟨⟨h1, h4, fun b hb => h5 b (hs.plow b hb), hblk, fun b hb _ => h5 b hb, fun _ h => .inr h, h2, h6, h7, h8⟩, Nat.le_refl _, fun _ _ h => h, fun _ _ h h' => absurd (h'.symm.trans h) (by simp), fun _ h => h, fun _ h => .inl h⟩, ?_, ⟨h5, fun _ _ => rfl, rfl, fun _ _ => rfl⟩⟩
  refine ⟨fun id i q1 q2 q3 => ?_, hs.gone, fun id i q1 q2 q3 => Nat.lt_of_lt_of_le (hs.low id i q1 q2 q3) h4, hs.inj, h3, fun id i q1 q2 q3 hp => ?_,
    hs.own.step rfl (fun _ h => h) (fun _ _ h => h) h4 h2 (fun id i q1 q2 q3 => hs.own.off q1 q2 q3), fun id i fx e xs f q1 q2 q3 q4 => hs.deepStay q1 q2 q3 q4 (fun _ h => h) fun b hb => h5 b (hs.at_low q3 hb)⟩
  · obtain ⟨o, ho, hr⟩ := hs.obj id i q1 q2 q3
    exact ⟨o, ho, hr.mono t fun hl => h5 _ (hs.low id i q2 q3 hl)⟩
  · have hlow := hs.low id i q1 q2 q3
    rcases h2 _ hp with hp | hp
    · exact hs.apart id i q1 q2 q3 hp
    · omega

theorem con_byVal {P : Program} {f : FuncId} {m : (ρ : Type) → List AV → (AV → Option ρ) → Option ρ} (hm : ∀ (ρ : Type) args (K : AV → Option ρ) (x : ρ), m ρ args K = some x → ∃ v, K v = some x ∧ LawV P f args v) : ConOk P f (byVal m) := by
  intro ρ args h K x hb
  unfold byVal at hb
  obtain ⟨v1, hv1, hlawv⟩ := hm _ _ _ _ hb
  by_cases hc : (args.all noRef || flatV v1) = true
  · simp only [hc, cond_true] at hv1
    obtain ⟨hent, hlaw⟩ := hlawv
    refine ⟨v1, h, false, hv1, hent, (Pre.refl h).sta _, fun c vs hs hf hr => ?_⟩
    simp only [Bool.or_eq_true] at hc
    rcases hc with hc | hc
    · have hargs : args.map (deref h 8) = args := by
        have : ∀ a ∈ args, deref h 8 a = a := fun a ha => noRef_deref (List.all_eq_true.1 hc a ha)
        rw [List.map_congr_left this]; simp
      rw [hargs] at hlaw
      have hr2 : VReps (still0 c.pr c.w) args vs.toList := by
        have : ∀ {as : List AV} {us : List Value}, as.all noRef = true → VReps c as us → VReps (still0 c.pr c.w) as us := by
          intro as
          induction as with
          | nil => intro us _ h; cases us with
            | nil => simp [VReps]
            | cons _ _ => simp [VReps] at h
          | cons a as ih => intro us ha h; cases us with
            | nil => simp [VReps] at h
            | cons u us =>
              simp only [List.all_cons, Bool.and_eq_true] at ha
              simp only [VReps] at h ⊢
              exact ⟨noRef_rep (c := c) (c2 := still0 c.pr c.w) rfl rfl ha.1 h.1, ih ha.2 h.2⟩
        exact this hc hr
      refine (hlaw c.pr c.w vs hs.plow hr2).mono ?_
      rintro e w' ⟨v', pr', rfl, hv, q1, q2, q3, q4, q5, q6, q7, q8⟩
      obtain ⟨k1, k2, k3⟩ := byVal_state hs q1 q2 q3 q4 q5 q6 q7 q8
      exact ⟨v', _, rfl, rfl, k1, k2, VRep.mono (still0_tells ⟨c.m, c.dead, pr', w', c.own⟩) hv, fun _ => k3⟩
    · have hplow := hs.still_low
      refine (hlaw c.still.pr c.w vs hplow (deref_reps (deref_rep hs 8) hr)).mono ?_
      rintro e w' ⟨v', pr', rfl, hv, q1, q2, q3, q4, q5, q6, q7, q8⟩
      obtain ⟨k1, k2, k3⟩ := byVal_state hs (fun _ h => h) (fun _ h => .inl h) (fun b hb => Nat.lt_of_lt_of_le (hs.plow b hb) q4) q4 q5 q6 q7 q8
      exact ⟨v', _, rfl, rfl, k1, k2, flat_rep hc hv, fun _ => k3⟩
  · simp only [Bool.not_eq_true] at hc; simp [hc] at hv1

/-- A value read as of a type, told. -/
theorem as_rep {c : Ctx} {t : Ty} {a : AV} {x : t.C} {v : Value} (h : a.as t = some x) (hr : VRep c a v) : VRep c (tvn t x) v := by
  refine tvn_rep ?_
  cases ht : t.isAgg with
  | true =>
    have hag : a.isAgg = true := by
      unfold AV.as at h
      split at h
      · rfl
      · rename_i u y
        split at h
        · rename_i hu; subst hu; exact ht
        · cases h
      · cases t <;> simp [Ty.isAgg] at ht <;> cases a <;> first | (cases h; done) | rfl
    obtain ⟨vs, hv, hc⟩ := hr.agg hag
    rw [TRep, if_pos ht]
    exact ⟨vs, hv, as_ok h hc⟩
  | false =>
    rw [TRep, if_neg (by simp [ht])]
    have hag : a.isAgg = false := by
      cases hq : a.isAgg with
      | false => rfl
      | true =>
        cases a <;> simp [AV.isAgg] at hq
        case agg cs => simp [AV.as, ht] at h
        case tv u y =>
          simp only [AV.as] at h
          split at h
          · rename_i hu; subst hu; rw [hq] at ht; cases ht
          · cases h
    refine as_ok h ?_
    rw [AV.cells_one hag]
    simpa [VReps] using hr
end Go.AM
namespace Go.AM

/-! Laws of functions out of their own runs. -/
theorem tupAs_rep {c : Ctx} : ∀ {t : Ty} {vs : List AV} {x : t.C} {us : List Value}, tupAs t vs = some x → VReps c vs us → VReps c (outs t x) us := by
  intro t
  induction t with
  | pair a b _ ihb =>
    intro vs x us h hr
    cases vs with
    | nil => cases h
    | cons v vs =>
      cases us with
      | nil => simp [VReps] at hr
      | cons u us =>
        simp only [VReps] at hr
        replace h : ((v.as a).bind fun x => (tupAs b vs).map fun y => (x, y)) = some x := h
        cases hp : v.as a with
        | none => simp only [hp, Option.bind_none] at h; cases h
        | some p =>
          cases hq : tupAs b vs with
          | none => simp only [hp, hq, Option.bind_some] at h; cases h
          | some q =>
            simp only [hp, hq, Option.bind_some] at h
            cases h
            simp only [outs, VReps]
            exact ⟨as_rep hp hr.1, ihb hq hr.2⟩
  | unit =>
    intro vs x us h hr
    cases vs with
    | nil => simpa [outs] using hr
    | cons _ _ => cases h
  | int k => intro vs x us h hr; cases vs <;> cases h
  | bool => intro vs x us h hr; cases vs <;> cases h
  | str => intro vs x us h hr; cases vs <;> cases h
  | row e _ => intro vs x us h hr; cases vs <;> cases h
  | node => intro vs x us h hr; cases vs <;> cases h

section
variable {ρ : Type} {P : Program} {E : Env} {run : Run}

theorem law_of {lv : Bool} {p : Nat} {f : FuncId} {args : List AV} {r : AV × Heap} {v : AV} (hent : Enters P f)
    (hw : ∀ (c : Ctx) (vs : Array Value), Sim c [] → Fre c [] → VReps c args vs.toList → Calls P f vs c.w fun e w' => ∃ v' c', e = .returned v' ∧ c'.w = w' ∧ Since lv p c [] c' r.2 ∧ Sim c' r.2 ∧ Fre c' r.2 ∧ VRep c' r.1 v')
    (hv : ∀ c v', VRep c (deref r.2 8 r.1) v' → VRep c v v') : LawV P f args v := by
  refine ⟨hent, fun pr w vs hp hr => ?_⟩
  have hs : Sim (still0 pr w) [] := sim_still0 hp
  refine (hw (still0 pr w) vs hs (fun id _ => ⟨rfl, fun h => h⟩) hr).mono ?_
  rintro e w' ⟨v', c', rfl, rfl, hsi, hs', hf', hvr⟩
  have W := hsi.1
  refine ⟨v', c'.still.pr, rfl, hv _ _ (deref_rep hs' 8 _ _ hvr), fun b hb => .inl (W.pr b hb), ?_, ?_, W.size, fun b hb => W.frame b hb Ctx.has0, W.os, W.tape, W.output⟩
  · exact fun b hb => W.still_new hs' hf' hb
  · exact hs'.still_low

theorem law1 (hT : TOk P E) (hC : CallsOk P E run) (hmix : P.follows .mixedOrders = true) {f : FuncId} {fn : Func} (hf : P.funcs[f]? = some fn) (hname : (fn.name == "runtime.NumGoroutine") = false) (hb : fn.body.isNone = false) {k : Nat} {args : List AV} {t : Ty} {x : t.C}
    (hk : abody E run k f fn args [] (fin1 t) = some x) : LawV P f args (tvn t x) := by
  obtain ⟨r, hfin, hw⟩ := told_body (lv := true) hT hC (regOk hT hmix hC) hf (fun h => by cases h) hk
  exact law_of ⟨fn, hf, hname, hb⟩ hw (fun c v' h => as_rep hfin h)

theorem lawN (hT : TOk P E) (hC : CallsOk P E run) (hmix : P.follows .mixedOrders = true) {f : FuncId} {fn : Func} (hf : P.funcs[f]? = some fn) (hname : (fn.name == "runtime.NumGoroutine") = false) (hb : fn.body.isNone = false) {k : Nat} {args : List AV} {t : Ty} {x : t.C}
    (hk : abody E run k f fn args [] (finN t) = some x) : LawV P f args (.tup (outs t x)) := by
  obtain ⟨r, hfin, hw⟩ := told_body (lv := true) hT hC (regOk hT hmix hC) hf (fun h => by cases h) hk
  refine law_of ⟨fn, hf, hname, hb⟩ hw (fun c v' h => ?_)
  unfold finN at hfin
  split at hfin
  · rename_i vs hvs
    rw [hvs] at h
    simp only [VRep] at h ⊢
    obtain ⟨ws, hv, hr⟩ := h
    exact ⟨ws, hv, tupAs_rep hfin hr⟩
  · cases hfin
end
end Go.AM
namespace Go.AM

/-! Models that read their args as of types. -/
/-- What is told by the one is told by the other. -/
def Reads (a b : AV) : Prop := ∀ (c : Ctx) (v : Value), VRep c a v → VRep c b v
def ReadsL (as bs : List AV) : Prop := ∀ (c : Ctx) (vs : List Value), VReps c as vs → VReps c bs vs

theorem Reads.refl (a : AV) : Reads a a := fun _ _ h => h
theorem Reads.as {t : Ty} {a : AV} {x : t.C} (h : a.as t = some x) : Reads a (tvn t x) := fun _ _ hr => as_rep h hr
theorem ReadsL.nil : ReadsL [] [] := fun _ _ h => h
theorem ReadsL.cons {a b : AV} {as bs : List AV} (h : Reads a b) (h' : ReadsL as bs) : ReadsL (a :: as) (b :: bs) := fun c vs hr => by
  cases vs with
  | nil => simp [VReps] at hr
  | cons v vs => simp only [VReps] at hr ⊢; exact ⟨h c v hr.1, h' c vs hr.2⟩
theorem Reads.fn {f : FuncId} {as bs : List AV} (h : ReadsL as bs) : Reads (.fn f as) (.fn f bs) := fun c v hr => by
  simp only [VRep] at hr ⊢
  obtain ⟨ws, hv, hr⟩ := hr
  exact ⟨ws, hv, h c _ hr⟩
theorem Reads.bp {as bs : List AV} {j : Nat} (h : ReadsL as bs) : Reads (.bp as j) (.bp bs j) := fun c v hr => by
  simp only [VRep] at hr ⊢
  obtain ⟨b, o, ws, hv, hp, hl, hr⟩ := hr
  exact ⟨b, o, ws, hv, hp, hl, h c _ hr⟩

theorem LawV.reads {P : Program} {f : FuncId} {as bs : List AV} {v : AV} (h : ReadsL as bs) (l : LawV P f bs v) : LawV P f as v :=
  ⟨l.1, fun pr w vs hp hr => l.2 pr w vs hp (h _ _ hr)⟩
end Go.AM
namespace Go.AM

/-! From a row's data to typed values. -/
inductive NodeWf : Node → Prop
  | mk (o : Int) (s : ByteArray) (n : Int) (kids : List Node) : (Lit.int .i64 o).wf = true → s.size ≤ maxLen → (Lit.int .i64 n).wf = true → kids.length ≤ maxLen → (∀ k ∈ kids, NodeWf k) → NodeWf (.mk o s n kids)

/-- A value as it may come. -/
def WfT : (t : Ty) → t.C → Prop
  | .int k, n => (Lit.int k n).wf = true
  | .bool, _ => True
  | .str, s => ByteArray.size s ≤ maxLen
  | .row e, xs => List.length xs ≤ maxLen ∧ ∀ x : e.C, @List.Mem e.C x xs → WfT e x
  | .unit, _ => True
  | .pair a b, x => WfT a x.1 ∧ WfT b x.2
  | .node, x => NodeWf x

/-- Is a type of the program, or a part of a struct's fields, what a code says? -/
def codeOk (P : Program) : Ty → (TypeId ⊕ (List Field × Nat)) → Bool
  | .int k, .inl t => (match P.underlying t with | some (.int k') => k' == k | _ => false)
  | .bool, .inl t => (match P.underlying t with | some .bool => true | _ => false)
  | .str, .inl t => (match P.underlying t with | some .string => true | _ => false)
  | .row e, .inl t => (match P.underlying t with | some (.slice et) => codeOk P e (.inl et) && (P.cellsOf et == e.size) && Nat.blt 0 e.size | _ => false)
  | .pair a b, .inl t =>
    (match P.underlying t with
     | some (.struct fs) =>
       (match fs.toList with
        | f :: fs' => (f.offset == 0) && (P.cellsOf f.type == a.size) && (P.cellsOf t == a.size + b.size) && codeOk P a (.inl f.type) && codeOk P b (.inr (fs', a.size))
        | [] => false)
     | _ => false)
  | .node, .inl t =>
    (match P.underlying t with
     | some (.struct fs) =>
       (match fs.toList with
        | [f0, f1, f2, f3] => (f0.offset == 0) && (f1.offset == 1) && (f2.offset == 2) && (f3.offset == 3) && (P.cellsOf t == 4) && (P.cellsOf f0.type == 1) && (P.cellsOf f1.type == 1) && (P.cellsOf f2.type == 1) && (P.cellsOf f3.type == 1) &&
            (match P.underlying f0.type with | some (.int .i64) => true | _ => false) && (match P.underlying f1.type with | some .string => true | _ => false) &&
            (match P.underlying f2.type with | some (.int .i64) => true | _ => false) && (match P.underlying f3.type with | some (.slice et) => et == t | _ => false)
        | _ => false)
     | _ => false)
  | .unit, .inr ([], _) => true
  | .pair a b, .inr (f :: fs, off) => (f.offset == off) && (P.cellsOf f.type == a.size) && codeOk P a (.inl f.type) && codeOk P b (.inr (fs, off + a.size))
  | _, _ => false

section
variable {H : Type} {enc : TypeId × Value → H} {P : Program} {w : World} {base : Nat} {spare : Nat → Bool} {held : Bool}

/-- What is read stays there. -/
def prAll (w : World) (b : Nat) : Prop := b < w.heap.size

theorem list_of {α : Type} {Q : Nat → α → Prop} : ∀ (n : Nat), (∀ i, i < n → ∃ x, Q i x) → ∃ xs : List α, xs.length = n ∧ ∀ i x, xs[i]? = some x → Q i x
  | 0, _ => ⟨[], rfl, fun i x h => by simp at h⟩
  | n + 1, h => by
    obtain ⟨xs, h1, h2⟩ := list_of n fun i hi => h i (by omega)
    obtain ⟨x, hx⟩ := h n (by omega)
    refine ⟨xs ++ [x], by simp [h1], fun i y hy => ?_⟩
    rcases Nat.lt_or_ge i n with hi | hi
    · rw [List.getElem?_append_left (by omega)] at hy; exact h2 i y hy
    · have hl : i < (xs ++ [x]).length := (List.getElem?_eq_some_iff.1 hy).1
      simp only [List.length_append, List.length_cons, List.length_nil, h1] at hl
      obtain rfl : i = n := by omega
      rw [List.getElem?_append_right (by omega), h1, Nat.sub_self] at hy
      simp only [List.getElem?_cons_zero, Option.some.injEq] at hy
      subst hy; exact hx

theorem cells_lies {a : Addr} {n : Nat} {vs : List Value} (h : w.cells? base a n = some vs) (hn : 0 < n) : vs.length = n ∧ a.spot = none ∧ a.block < w.heap.size ∧ Lies w a.block a.off vs := by
  unfold World.cells? at h
  split at h
  · have hl := mapM_some_length h
    have hg : ∀ i, i < n → w.cell? (a.add i) = vs[i]? := fun i hi => mapM_some_get h i i (by simp [hi])
    simp only [List.length_range] at hl
    have h0 := hg 0 hn
    rw [List.getElem?_eq_getElem (by omega)] at h0
    have hs : a.spot = none := by simpa [Addr.add] using World.cell?_spot h0
    refine ⟨hl, hs, ?_, fun j v hj => ?_⟩
    · simp only [Addr.add, if_true] at h0
      unfold World.cell? at h0
      split at h0
      · rename_i c _ _ hc; exact (Array.getElem?_eq_some_iff.1 hc).1
      · cases h0
    · have hlt : j < n := by have := (List.getElem?_eq_some_iff.1 hj).1; omega
      have := hg j hlt
      rw [hj] at this
      obtain ⟨b, o, sp⟩ := a
      simp only at hs; subst hs
      rw [Go.WideShapes.add_plain] at this
      exact this
  · cases h

/-- A row, whatever its elements. -/
theorem open_row {α : Type} {size : Nat} {R : α → List Value → Prop} {W : α → Prop} {t et : TypeId} {fuel : Nat} {cs : List Value} {x : DataW H × List MemPlace} (ht : P.underlying t = some (.slice et)) (hsz : P.cellsOf et = size) (hpos : 0 < size)
    (hel : ∀ m, m < fuel → ∀ vs y, DataW.trod enc P w base spare held m et vs = some y → ∃ v : α, R v vs ∧ W v) (h : DataW.trod enc P w base spare held fuel t cs = some x) :
    ∃ (xs : List α) (v : Value), cs = [v] ∧ RowG (prAll w) w size R xs v ∧ xs.length ≤ maxLen ∧ (∀ y ∈ xs, W y) := by
  rcases DataW.trod_slice ht h with ⟨rfl, _⟩ | ⟨a, len, cap, elems, rest, n, rfl, rfl, _, _, hlc, hcm, hlen, hget, _, _⟩
  · exact ⟨[], _, rfl, ⟨none, 0, rfl, Nat.le_refl _, fun _ => rfl, fun h => absurd rfl h⟩, by simp, by simp⟩
  · have hone : ∀ i, i < len → ∃ v : α, (∃ vs, w.cells? base (a.add (i * size)) size = some vs ∧ R v vs) ∧ W v := fun i hi => by
      have h1 := hget i hi
      rw [List.getElem?_eq_getElem (by omega), hsz] at h1
      obtain ⟨vs, hvs, htr⟩ := Option.bind_eq_some_iff.1 h1
      obtain ⟨v, hv, hw⟩ := hel n (by omega) vs _ htr
      exact ⟨v, ⟨vs, hvs, hv⟩, hw⟩
    obtain ⟨xs, hl, hx⟩ := list_of len hone
    refine ⟨xs, _, rfl, ⟨some a, cap, by rw [hl], by omega, (fun h => by cases h), fun hne => ?_⟩, by omega, fun y hy => ?_⟩
    · have hp : 0 < xs.length := List.length_pos_iff.2 hne
      obtain ⟨⟨vs0, hv0, _⟩, _⟩ := hx 0 xs[0] (by simp)
      simp only [Nat.zero_mul, Addr.add, if_true] at hv0
      obtain ⟨_, hs, hb, _⟩ := cells_lies hv0 hpos
      obtain ⟨b, o, sp⟩ := a
      simp only at hs hb; subst hs
      refine ⟨b, o, rfl, hb, fun i y hy => ?_⟩
      obtain ⟨⟨vs, hv, hr⟩, _⟩ := hx i y hy
      rw [Go.WideShapes.add_plain] at hv
      obtain ⟨h1, _, _, h4⟩ := cells_lies hv hpos
      exact ⟨vs, h1, h4, hr⟩
    · obtain ⟨i, hi, rfl⟩ := List.getElem_of_mem hy
      exact (hx i xs[i] (by simp)).2

theorem open_int {k : IntKind} {t : TypeId} {fuel : Nat} {cs : List Value} {x : DataW H × List MemPlace} (ht : P.underlying t = some (.int k)) (h : DataW.trod enc P w base spare held fuel t cs = some x) : ∃ n, cs = [.int k n] ∧ (Lit.int k n).wf = true := by
  cases fuel with
  | zero => simp [DataW.trod] at h
  | succ m =>
    unfold DataW.trod at h
    rw [ht] at h
    split at h <;> simp_all

theorem open_bool {t : TypeId} {fuel : Nat} {cs : List Value} {x : DataW H × List MemPlace} (ht : P.underlying t = some .bool) (h : DataW.trod enc P w base spare held fuel t cs = some x) : ∃ b, cs = [.bool b] := by
  cases fuel with
  | zero => simp [DataW.trod] at h
  | succ m =>
    unfold DataW.trod at h
    rw [ht] at h
    split at h <;> simp_all

theorem open_str {t : TypeId} {fuel : Nat} {cs : List Value} {x : DataW H × List MemPlace} (ht : P.underlying t = some .string) (h : DataW.trod enc P w base spare held fuel t cs = some x) : ∃ s, cs = [.string s] ∧ s.size ≤ maxLen := by
  cases fuel with
  | zero => simp [DataW.trod] at h
  | succ m =>
    unfold DataW.trod at h
    rw [ht] at h
    split at h <;> simp_all

theorem one_cell {cs : List Value} {v : Value} {off : Nat} (h : (cs.drop off).take 1 = [v]) : cs[off]? = some v := by
  have h2 : ((cs.drop off).take 1)[0]? = some v := by rw [h]; rfl
  simpa [List.getElem?_take, List.getElem?_drop] using h2

theorem open_node {t : TypeId} (hc : codeOk P .node (.inl t) = true) : ∀ (fuel : Nat) (cs : List Value) (x : DataW H × List MemPlace), DataW.trod enc P w base spare held fuel t cs = some x → ∃ v : Node, NodeRep (prAll w) w v cs ∧ NodeWf v := by
  unfold codeOk at hc
  split at hc
  · rename_i fs hfs
    split at hc
    · rename_i f0 f1 f2 f3 hl
      simp only [Bool.and_eq_true, beq_iff_eq] at hc
      obtain ⟨⟨⟨⟨⟨⟨⟨⟨⟨⟨⟨⟨o0, o1⟩, o2⟩, o3⟩, ct⟩, c0⟩, c1⟩, c2⟩, c3⟩, u0⟩, u1⟩, u2⟩, u3⟩ := hc
      have e0 : P.underlying f0.type = some (.int .i64) := by split at u0 <;> simp_all
      have e1 : P.underlying f1.type = some .string := by split at u1 <;> simp_all
      have e2 : P.underlying f2.type = some (.int .i64) := by split at u2 <;> simp_all
      have e3 : P.underlying f3.type = some (.slice t) := by split at u3 <;> simp_all
      have g : ∀ i f, [f0, f1, f2, f3][i]? = some f → fs[i]? = some f := fun i f h => by rw [← hl, Array.getElem?_toList] at h; exact h
      intro fuel
      induction fuel using Nat.strongRecOn with
      | _ fuel ih =>
        intro cs x h
        obtain ⟨xs, n, rfl, rfl, hcl, hxl, hget⟩ := DataW.trod_struct hfs h
        have sz : fs.size = 4 := by rw [← Array.length_toList, hl]; rfl
        have h0 := hget 0 f0 (g 0 f0 rfl); have h1 := hget 1 f1 (g 1 f1 rfl); have h2 := hget 2 f2 (g 2 f2 rfl); have h3 := hget 3 f3 (g 3 f3 rfl)
        rw [o0, c0, List.getElem?_eq_getElem (by omega)] at h0
        rw [o1, c1, List.getElem?_eq_getElem (by omega)] at h1
        rw [o2, c2, List.getElem?_eq_getElem (by omega)] at h2
        rw [o3, c3, List.getElem?_eq_getElem (by omega)] at h3
        obtain ⟨a, ha, wa⟩ := open_int e0 h0
        obtain ⟨s, hs, ws⟩ := open_str e1 h1
        obtain ⟨b, hb, wb⟩ := open_int e2 h2
        obtain ⟨kids, v, hk, hrow, wl, wk⟩ := open_row (α := Node) (R := NodeRep (prAll w) w) (W := NodeWf) e3 ct (by decide) (fun m hm vs y hy => ih m (by omega) vs y hy) h3
        have hcs : cs = [.int .i64 a, .string s, .int .i64 b, v] := by
          have q0 := one_cell ha; have q1 := one_cell hs; have q2 := one_cell hb; have q3 := one_cell hk
          rw [ct] at hcl
          apply List.ext_getElem?
          intro i
          match i with
          | 0 => simpa using q0
          | 1 => simpa using q1
          | 2 => simpa using q2
          | 3 => simpa using q3
          | i + 4 => simp [List.getElem?_eq_none (show cs.length ≤ i + 4 by omega)]
        subst hcs
        obtain ⟨ad, cap, rfl, hcap, hnone, hel⟩ := hrow
        refine ⟨.mk a s b kids, ?_, .mk _ _ _ _ wa ws wb wl wk⟩
        cases kids with
        | nil => exact .mk a s b [] ad cap 0 0 (fun _ => []) hcap hnone (fun h => absurd rfl h) (fun i x h => by simp at h) (fun i x h => by simp at h)
        | cons k0 ks =>
          obtain ⟨bl, o, rfl, hpr, hall⟩ := hel (by simp)
          have : ∀ i, ∃ vs : List Value, ∀ x, (k0 :: ks)[i]? = some x → vs.length = 4 ∧ Lies w bl (o + i * 4) vs ∧ NodeRep (prAll w) w x vs := fun i => by
            cases hi : (k0 :: ks)[i]? with
            | none => exact ⟨[], fun x h => by cases h⟩
            | some y => obtain ⟨vs, q⟩ := hall i y hi; exact ⟨vs, fun x h => by cases h; exact q⟩
          obtain ⟨vsf, hvsf⟩ := Classical.axiomOfChoice this
          exact .mk a s b (k0 :: ks) _ cap bl o vsf hcap hnone (fun _ => ⟨rfl, hpr⟩) (fun i x h => ⟨(hvsf i x h).1, (hvsf i x h).2.1⟩) (fun i x h => (hvsf i x h).2.2)
    · cases hc
  · cases hc

/-- What is told of a type's reading, or of that of a struct's last fields. -/
def Opened (enc : TypeId × Value → H) (P : Program) (w : World) (base : Nat) (spare : Nat → Bool) (held : Bool) (c : Ty) : (TypeId ⊕ (List Field × Nat)) → Prop
  | .inl t => ∀ (fuel : Nat) (cs : List Value) (x : DataW H × List MemPlace), DataW.trod enc P w base spare held fuel t cs = some x → ∃ v : c.C, CellsRep (prAll w) w c v cs ∧ WfT c v
  | .inr (fs, off) => ∀ (fuel : Nat) (cs : List Value) (xs : List (DataW H × List MemPlace)), cs.length = off + c.size → xs.length = fs.length → (∀ (i : Nat) (f : Field), fs[i]? = some f → DataW.trod enc P w base spare held fuel f.type ((cs.drop f.offset).take (P.cellsOf f.type)) = xs[i]?) →
      ∃ v : c.C, CellsRep (prAll w) w c v (cs.drop off) ∧ WfT c v

theorem opened : ∀ (c : Ty) (s : TypeId ⊕ (List Field × Nat)), codeOk P c s = true → Opened enc P w base spare held c s := by
  have hinr : ∀ (a b : Ty) (f : Field) (fs : List Field) (off : Nat), (∀ s, codeOk P a s = true → Opened enc P w base spare held a s) → (∀ s, codeOk P b s = true → Opened enc P w base spare held b s) →
      f.offset = off → P.cellsOf f.type = a.size → codeOk P a (.inl f.type) = true → codeOk P b (.inr (fs, off + a.size)) = true → Opened enc P w base spare held (.pair a b) (.inr (f :: fs, off)) := by
    intro a b f fs off iha ihb h1 h2 h3 h4 fuel cs xs hl hx hg
    cases xs with
    | nil => simp at hx
    | cons x xs =>
      have hf := hg 0 f rfl
      rw [h1, h2] at hf
      obtain ⟨u, hu, wu⟩ := iha _ h3 fuel _ x hf
      obtain ⟨v, hv, wv⟩ := ihb _ h4 fuel cs xs (by simp only [Ty.size] at hl; omega) (by simpa using hx) (fun i g hi => by have := hg (i + 1) g (by simpa using hi); simpa using this)
      refine ⟨(u, v), ⟨(cs.drop off).take a.size, cs.drop (off + a.size), ?_, hu, hv⟩, wu, wv⟩
      rw [← List.drop_drop, List.take_append_drop]
  intro c
  induction c with
  | int k =>
    intro s hc
    match s with
    | .inl t =>
      simp only [codeOk] at hc
      split at hc
      · rename_i k' hk
        intro fuel cs x h
        simp only [beq_iff_eq] at hc; subst hc
        obtain ⟨n, rfl, hw⟩ := open_int hk h
        exact ⟨n, rfl, hw⟩
      · cases hc
    | .inr _ => simp [codeOk] at hc
  | bool =>
    intro s hc
    match s with
    | .inl t =>
      simp only [codeOk] at hc
      split at hc
      · rename_i hk
        intro fuel cs x h
        obtain ⟨n, rfl⟩ := open_bool hk h
        exact ⟨n, rfl, trivial⟩
      · cases hc
    | .inr _ => simp [codeOk] at hc
  | str =>
    intro s hc
    match s with
    | .inl t =>
      simp only [codeOk] at hc
      split at hc
      · rename_i hk
        intro fuel cs x h
        obtain ⟨n, rfl, hw⟩ := open_str hk h
        exact ⟨n, rfl, hw⟩
      · cases hc
    | .inr _ => simp [codeOk] at hc
  | row e ih =>
    intro s hc
    match s with
    | .inl t =>
      simp only [codeOk] at hc
      split at hc
      · rename_i et hk
        simp only [Bool.and_eq_true, beq_iff_eq, Nat.blt_eq] at hc
        intro fuel cs x h
        obtain ⟨xs, v, rfl, hr, hl, hw⟩ := open_row (α := e.C) (R := CellsRep (prAll w) w e) (W := WfT e) hk hc.1.2 hc.2 (fun m _ vs y hy => ih (.inl et) hc.1.1 m vs y hy) h
        exact ⟨xs, ⟨v, rfl, hr⟩, hl, hw⟩
      · cases hc
    | .inr _ => simp [codeOk] at hc
  | unit =>
    intro s hc
    match s with
    | .inl t => simp [codeOk] at hc
    | .inr ([], off) =>
      intro fuel cs xs hl _ _
      refine ⟨(), ?_, trivial⟩
      simp only [Ty.size] at hl
      show cs.drop off = []
      exact List.drop_eq_nil_iff.2 (by omega)
    | .inr (f :: fs, off) => simp [codeOk] at hc
  | pair a b iha ihb =>
    intro s hc
    match s with
    | .inl t =>
      simp only [codeOk] at hc
      split at hc
      · rename_i fs hfs
        split at hc
        · rename_i f fs' hl
          simp only [Bool.and_eq_true, beq_iff_eq] at hc
          obtain ⟨⟨⟨⟨h1, h2⟩, h3⟩, h4⟩, h5⟩ := hc
          intro fuel cs x h
          obtain ⟨xs, n, rfl, rfl, hcl, hxl, hget⟩ := DataW.trod_struct hfs h
          have := hinr a b f fs' 0 iha ihb h1 h2 h4 (by simpa using h5) n cs xs (by rw [hcl, h3]; simp [Ty.size]) (by rw [hxl, ← hl]; simp) (fun i g hi => hget i g (by rw [← hl] at hi; simpa using hi))
          simpa using this
        · cases hc
      · cases hc
    | .inr ([], off) => simp [codeOk] at hc
    | .inr (f :: fs, off) =>
      simp only [codeOk, Bool.and_eq_true, beq_iff_eq] at hc
      exact hinr a b f fs off iha ihb hc.1.1.1 hc.1.1.2 hc.1.2 hc.2
  | node =>
    intro s hc
    match s with
    | .inl t => exact fun fuel cs x h => open_node hc fuel cs x h
    | .inr _ => simp [codeOk] at hc

/-- A parameter, opened. -/
theorem param {c : Ty} {t : TypeId} {r : Reach} {base' : Nat} {v : Value} {d : DataW H} {p : List MemPlace} (hc : codeOk P c (.inl t) = true) (hok : Value.okWide P w r base' t v) (h : DataW.Trod enc P w base spare held t v d p) :
    ∃ x : c.C, VRep (still0 (prAll w) w) (tvn c x) v ∧ WfT c x := by
  obtain ⟨fuel, h⟩ := h
  obtain ⟨x, hx, hw⟩ := opened c _ hc fuel _ _ h
  refine ⟨x, tvn_rep ?_, hw⟩
  show TRep (prAll w) w c x v
  cases c with
  | int k =>
    simp only [codeOk] at hc
    split at hc
    · rename_i k' hk
      obtain ⟨n, rfl⟩ := Go.WideShapes.okWide_int hk hok
      simpa [TRep, Ty.isAgg, Value.cells] using hx
    · cases hc
  | bool =>
    simp only [codeOk] at hc
    split at hc
    · rename_i hk
      simp only [Value.okWide, hk, Cell.okWide] at hok
      cases v <;> simp_all [Cell.ok]
      simpa [TRep, Ty.isAgg, Value.cells] using hx
    · cases hc
  | str =>
    simp only [codeOk] at hc
    split at hc
    · rename_i hk
      obtain ⟨n, rfl⟩ := Go.WideShapes.okWide_string hk hok
      simpa [TRep, Ty.isAgg, Value.cells] using hx
    · cases hc
  | row e =>
    simp only [codeOk] at hc
    split at hc
    · rename_i et hk
      obtain ⟨a, n, m, rfl⟩ := Go.WideShapes.okWide_slice hk hok
      simpa [TRep, Ty.isAgg, Value.cells] using hx
    · cases hc
  | unit => simp [codeOk] at hc
  | pair a b =>
    simp only [codeOk] at hc
    split at hc
    · rename_i fs hfs
      simp only [Value.okWide, hfs] at hok
      obtain ⟨cs, rfl, _⟩ := hok
      rw [TRep, if_pos (show (Ty.pair a b).isAgg = true from rfl)]
      exact ⟨cs, rfl, hx⟩
    · cases hc
  | node =>
    simp only [codeOk] at hc
    split at hc
    · rename_i fs hfs
      simp only [Value.okWide, hfs] at hok
      obtain ⟨cs, rfl, _⟩ := hok
      rw [TRep, if_pos (show Ty.node.isAgg = true from rfl)]
      exact ⟨cs, rfl, hx⟩
    · cases hc
end

/-- A law's run: its answer, and nothing that was there has changed. -/
theorem law_run {P : Program} {f : FuncId} {args : List AV} {b : Bool} (l : LawV P f args (.bool b)) {w : World} {vs : Array Value} (h : VReps (still0 (prAll w) w) args vs.toList) :
    Calls P f vs w fun e w' => e = .returned (.bool b) ∧ RowKit.Below w.heap.size w w' := by
  refine (l.2 (prAll w) w vs (fun _ h => h) h).mono ?_
  rintro e w' ⟨v', pr', rfl, hv, _, _, _, q4, q5, q6, q7, q8⟩
  simp only [VRep] at hv
  subst hv
  exact ⟨rfl, q6, q7, q8, q4, q5⟩
/-- A test, and what follows a call, as an equation's right side tells them: by the recursors, so that the kernel meets no test of the interpreter's own there. -/
noncomputable def iteB {α : Type} (c : Bool) (t e : α) : α := Bool.rec (motive := fun _ => α) e t c
noncomputable def bindO {α β : Type} (x : Option α) (f : α → Option β) : Option β := Option.rec (motive := fun _ => Option β) none (fun a => f a) x
theorem iteB_eq {α : Type} (c : Bool) (t e : α) : iteB c t e = bif c then t else e := by cases c <;> rfl
theorem iteB_true {α : Type} (t e : α) : iteB true t e = t := rfl
theorem iteB_false {α : Type} (t e : α) : iteB false t e = e := rfl
theorem iteB_pos {α : Type} {p : Prop} [Decidable p] {t e : α} (h : p) : iteB (decide p) t e = t := by rw [decide_eq_true h]; rfl
theorem iteB_neg {α : Type} {p : Prop} [Decidable p] {t e : α} (h : ¬ p) : iteB (decide p) t e = e := by rw [decide_eq_false h]; rfl
theorem bindO_some {α β : Type} (a : α) (f : α → Option β) : bindO (some a) f = f a := rfl
theorem bindO_eq {α β : Type} (x : Option α) (f : α → Option β) : bindO x f = x.bind f := by cases x <;> rfl
theorem gate_succ {α : Type} (n : Nat) (x : Option α) : gate (n + 1) x = x := rfl
theorem gate_pos {α : Type} {n : Nat} {x : Option α} (h : 0 < n) : gate n x = x := by cases n with | zero => omega | succ n => rfl
end Go.AM
