/- An interpreter of the model's code over values that are told, and its soundness. -/
import Derived.Test.YteojdaobpjhddaaAS28
namespace Go.AM

/-! Contracts by value. -/
def still0 (pr : Nat → Prop) (w : World) : Ctx := ⟨fun _ => none, fun _ => False, pr, w, fun _ _ => False⟩

theorem Sim.still_low {c : Ctx} {h : Heap} (hs : Sim c h) : ∀ b, c.still.pr b → b < c.w.heap.size := by
  rintro b (hb | ⟨id, hd, ha⟩)
  · exact hs.plow b hb
  · exact hs.at_low hd ha
theorem Ctx.has0 {c : Ctx} {b : Nat} : ¬ c.has ([] : Heap).length b := fun ⟨_, h, _⟩ => by simp at h
theorem Ctx.at_lt {c : Ctx} {h : Heap} (hs : Sim c h) (hf : Fre c h) {id b : Nat} (ha : c.at id b) : id < h.length := by
  rcases Nat.lt_or_ge id h.length with hl | hl
  · exact hl
  · have hn := (hf id hl).1
    rcases ha with ha | ⟨i, hi, _⟩
    · exact absurd hn (hs.own.told id b ha)
    · rw [hn] at hi; cases hi
theorem Was.still_new {c c' : Ctx} {h' : Heap} (W : Was c [] c' h') (hs' : Sim c' h') (hf' : Fre c' h') {b : Nat} (hb : c'.still.pr b) : c.pr b ∨ c.w.heap.size ≤ b := by
  rcases hb with hb | ⟨id, hd, ha⟩
  · exact W.pnew b hb
  · exact (W.own b ⟨id, Ctx.at_lt hs' hf' ha, hd, ha⟩).elim .inr fun h => absurd h Ctx.has0
theorem sim_still0 {pr : Nat → Prop} {w : World} (hp : ∀ b, pr b → b < w.heap.size) : Sim (still0 pr w) [] :=
  ⟨fun id i h => (by simp at h), fun id h => (by simp at h), fun id i h => (by cases h), fun id id' i i' h => (by cases h), hp, fun id i h => (by cases h),
    ⟨fun _ _ _ h => h.elim, fun _ _ _ _ _ h => h.elim, fun _ _ _ _ _ _ _ h => h.elim, fun _ _ _ h => h.elim, fun _ _ h => h.elim⟩, fun id i fx e xs f h => (by simp at h)⟩

/-- What is told of a call by value: args and result stay; nothing that was there changes. -/
def LawV (P : Program) (f : FuncId) (args : List AV) (v : AV) : Prop :=
  Enters P f ∧ ∀ (pr : Nat → Prop) (w : World) (vs : Array Value), (∀ b, pr b → b < w.heap.size) → VReps (still0 pr w) args vs.toList → Calls P f vs w fun e w' =>
    ∃ v' pr', e = .returned v' ∧ VRep (still0 pr' w') v v' ∧ (∀ b, pr b → pr' b) ∧ (∀ b, pr' b → pr b ∨ w.heap.size ≤ b) ∧ (∀ b, pr' b → b < w'.heap.size) ∧ w.heap.size ≤ w'.heap.size ∧
      (∀ b, b < w.heap.size → w'.heap[b]? = w.heap[b]?) ∧ w'.os = w.os ∧ w'.tape = w.tape ∧ w'.output = w.output

theorem still0_tells (c : Ctx) : Tells (still0 c.pr c.w) c :=
  ⟨fun _ _ h => (by cases h), fun _ (h : False) => h.elim, ⟨fun _ h => h, fun _ _ => rfl⟩, fun _ _ h => h⟩

theorem simple_rep {c c2 : Ctx} (hp : c2.pr = c.pr) (hw : c2.w = c.w) {a : AV} {v : Value} (hn : simpleV a = true) (h : VRep c a v) : VRep c2 a v := by
  cases a <;> simp only [simpleV, Bool.false_eq_true] at hn <;> simp only [VRep, hp, hw] at h ⊢ <;> exact h

theorem simple_reps {c c2 : Ctx} (hp : c2.pr = c.pr) (hw : c2.w = c.w) : ∀ {as : List AV} {vs : List Value}, as.all simpleV = true → VReps c as vs → VReps c2 as vs
  | [], [], _, _ => by simp [VReps]
  | [], _ :: _, _, h => by simp [VReps] at h
  | _ :: _, [], _, h => by simp [VReps] at h
  | a :: as, v :: vs, hn, h => by
    simp only [List.all_cons, Bool.and_eq_true] at hn
    simp only [VReps] at h ⊢
    exact ⟨simple_rep hp hw hn.1 h.1, simple_reps hp hw hn.2 h.2⟩

theorem noRef_rep {c c2 : Ctx} (hp : c2.pr = c.pr) (hw : c2.w = c.w) {a : AV} {v : Value} (hn : noRef a = true) (h : VRep c a v) : VRep c2 a v := by
  cases a
  case agg cs =>
    simp only [VRep] at h ⊢
    obtain ⟨ws, hv, hc⟩ := h
    exact ⟨ws, hv, simple_reps hp hw hn hc⟩
  case fn f cs =>
    simp only [VRep] at h ⊢
    obtain ⟨ws, hv, hc⟩ := h
    exact ⟨ws, hv, simple_reps hp hw hn hc⟩
  all_goals exact simple_rep hp hw hn h

theorem simple_deref {h : Heap} {d : Nat} {a : AV} (hn : simpleV a = true) : deref h (d + 1) a = a := by
  cases a <;> simp only [simpleV, Bool.false_eq_true] at hn <;> rfl

theorem simple_derefs {h : Heap} {d : Nat} {as : List AV} (hn : as.all simpleV = true) : as.map (deref h (d + 1)) = as := by
  have : ∀ a ∈ as, deref h (d + 1) a = a := fun a ha => simple_deref (List.all_eq_true.1 hn a ha)
  rw [List.map_congr_left this]; simp

theorem noRef_deref {h : Heap} {d : Nat} {a : AV} (hn : noRef a = true) : deref h (d + 2) a = a := by
  cases a
  case agg cs => show AV.agg (cs.map (deref h (d + 1))) = _; rw [simple_derefs hn]
  case fn f cs => show AV.fn f (cs.map (deref h (d + 1))) = _; rw [simple_derefs hn]
  all_goals exact simple_deref hn

theorem flat_rep {c c2 : Ctx} {a : AV} {v : Value} (hn : flatV a = true) (h : VRep c a v) : VRep c2 a v := by
  cases a <;> simp only [flatV, Bool.false_eq_true] at hn <;> simp only [VRep] at h ⊢ <;> try exact h
  rename_i vs
  obtain ⟨ws, hv, hr⟩ := h
  refine ⟨ws, hv, ?_⟩
  have : ∀ {as : List AV} {us : List Value}, (as.all fun v => match v with | .int _ _ => true | .bool _ => true | .str _ => true | _ => false) = true → VReps c as us → VReps c2 as us := by
    intro as
    induction as with
    | nil => intro us _ h; cases us with
      | nil => simp [VReps]
      | cons _ _ => simp [VReps] at h
    | cons a as ih => intro us ha h; cases us with
      | nil => simp [VReps] at h
      | cons u us =>
        simp only [List.all_cons, Bool.and_eq_true] at ha
        simp only [VReps] at h ⊢
        refine ⟨?_, ih ha.2 h.2⟩
        have h1 := h.1
        cases a <;> simp at ha <;> simpa [VRep] using h1
  exact this hn hr

/-- What a call by value leaves of the caller's state. -/
theorem byVal_state {c : Ctx} {h : Heap} (hs : Sim c h) {pr' : Nat → Prop} {w' : World} (h1 : ∀ b, c.pr b → pr' b) (h2 : ∀ b, pr' b → c.pr b ∨ c.w.heap.size ≤ b) (h3 : ∀ b, pr' b → b < w'.heap.size) (h4 : c.w.heap.size ≤ w'.heap.size)
    (h5 : ∀ b, b < c.w.heap.size → w'.heap[b]? = c.w.heap[b]?) (h6 : w'.os = c.w.os) (h7 : w'.tape = c.w.tape) (h8 : w'.output = c.w.output) :
    Ext c h { c with pr := pr', w := w' } h ∧ Sim { c with pr := pr', w := w' } h ∧ Grow c h { c with pr := pr', w := w' } h := by
  have hblk : ∀ b n, Blk c.w b n → Blk w' b n := fun b n hb => by
    have hlt : b < c.w.heap.size := by obtain ⟨_, _, _, h1, _⟩ := hb; exact (Array.getElem?_eq_some_iff.1 h1).1
    exact hb.of_block (h5 b hlt)
  have t : Tells c { c with pr := pr', w := w' } := ⟨fun _ _ h => h, fun _ h => h, ⟨h1, fun b hb => h5 b (hs.plow b hb)⟩, hblk⟩
  refine ⟨⟨⟨h1, h4, fun b hb => h5 b (hs.plow b hb), hblk, fun b hb _ => h5 b hb, fun _ h => .inr h, h2, h6, h7, h8⟩, Nat.le_refl _, fun _ _ h => h, fun _ _ h h' => absurd (h'.symm.trans h) (by simp), fun _ h => h, fun _ h => .inl h⟩, ?_, ⟨h5, fun _ _ => rfl, rfl, fun _ _ => rfl⟩⟩
  refine ⟨fun id i q1 q2 q3 => ?_, hs.gone, fun id i q1 q2 q3 => Nat.lt_of_lt_of_le (hs.low id i q1 q2 q3) h4, hs.inj, h3, fun id i q1 q2 q3 hp => ?_,
    hs.own.step rfl (fun _ h => h) (fun _ _ h => h) h4 h2 (fun id i q1 q2 q3 => hs.own.off q1 q2 q3), fun id i fx e xs f q1 q2 q3 q4 => hs.deepStay q1 q2 q3 q4 (fun _ h => h) fun b hb => h5 b (hs.at_low q3 hb)⟩
  · obtain ⟨o, ho, hr⟩ := hs.obj id i q1 q2 q3
    exact ⟨o, ho, hr.mono t fun hl => h5 _ (hs.low id i q2 q3 hl)⟩
  · have hlow := hs.low id i q1 q2 q3
    rcases h2 _ hp with hp | hp
    · exact hs.apart id i q1 q2 q3 hp
    · omega

theorem con_byVal {P : Program} {f : FuncId} {m : (ρ : Type) → List AV → (AV → Option ρ) → Option ρ} (hm : ∀ (ρ : Type) args (K : AV → Option ρ) (x : ρ), m ρ args K = some x → ∃ v, K v = some x ∧ LawV P f args v) : ConOk P f (byVal m) := by
  intro ρ args h K x hb
  unfold byVal at hb
  obtain ⟨v1, hv1, hlawv⟩ := hm _ _ _ _ hb
  by_cases hc : (args.all noRef || flatV v1) = true
  · simp only [hc, cond_true] at hv1
    obtain ⟨hent, hlaw⟩ := hlawv
    refine ⟨v1, h, false, hv1, hent, (Pre.refl h).sta _, fun c vs hs hf hr => ?_⟩
    simp only [Bool.or_eq_true] at hc
    rcases hc with hc | hc
    · have hargs : args.map (deref h 8) = args := by
        have : ∀ a ∈ args, deref h 8 a = a := fun a ha => noRef_deref (List.all_eq_true.1 hc a ha)
        rw [List.map_congr_left this]; simp
      rw [hargs] at hlaw
      have hr2 : VReps (still0 c.pr c.w) args vs.toList := by
        have : ∀ {as : List AV} {us : List Value}, as.all noRef = true → VReps c as us → VReps (still0 c.pr c.w) as us := by
          intro as
          induction as with
          | nil => intro us _ h; cases us with
            | nil => simp [VReps]
            | cons _ _ => simp [VReps] at h
          | cons a as ih => intro us ha h; cases us with
            | nil => simp [VReps] at h
            | cons u us =>
              simp only [List.all_cons, Bool.and_eq_true] at ha
              simp only [VReps] at h ⊢
              exact ⟨noRef_rep (c := c) (c2 := still0 c.pr c.w) rfl rfl ha.1 h.1, ih ha.2 h.2⟩
        exact this hc hr
      refine (hlaw c.pr c.w vs hs.plow hr2).mono ?_
      rintro e w' ⟨v', pr', rfl, hv, q1, q2, q3, q4, q5, q6, q7, q8⟩
      obtain ⟨k1, k2, k3⟩ := byVal_state hs q1 q2 q3 q4 q5 q6 q7 q8
      exact ⟨v', _, rfl, rfl, k1, k2, VRep.mono (still0_tells ⟨c.m, c.dead, pr', w', c.own⟩) hv, fun _ => k3⟩
    · have hplow := hs.still_low
      refine (hlaw c.still.pr c.w vs hplow (deref_reps (deref_rep hs 8) hr)).mono ?_
      rintro e w' ⟨v', pr', rfl, hv, q1, q2, q3, q4, q5, q6, q7, q8⟩
      obtain ⟨k1, k2, k3⟩ := byVal_state hs (fun _ h => h) (fun _ h => .inl h) (fun b hb => Nat.lt_of_lt_of_le (hs.plow b hb) q4) q4 q5 q6 q7 q8
      exact ⟨v', _, rfl, rfl, k1, k2, flat_rep hc hv, fun _ => k3⟩
  · simp only [Bool.not_eq_true] at hc; simp [hc] at hv1

/-- A value read as of a type, told. -/
theorem as_rep {c : Ctx} {t : Ty} {a : AV} {x : t.C} {v : Value} (h : a.as t = some x) (hr : VRep c a v) : VRep c (tvn t x) v := by
  refine tvn_rep ?_
  cases ht : t.isAgg with
  | true =>
    have hag : a.isAgg = true := by
      unfold AV.as at h
      split at h
      · rfl
      · rename_i u y
        split at h
        · rename_i hu; subst hu; exact ht
        · cases h
      · cases t <;> simp [Ty.isAgg] at ht <;> cases a <;> first | (cases h; done) | rfl
    obtain ⟨vs, hv, hc⟩ := hr.agg hag
    rw [TRep, if_pos ht]
    exact ⟨vs, hv, as_ok h hc⟩
  | false =>
    rw [TRep, if_neg (by simp [ht])]
    have hag : a.isAgg = false := by
      cases hq : a.isAgg with
      | false => rfl
      | true =>
        cases a <;> simp [AV.isAgg] at hq
        case agg cs => simp [AV.as, ht] at h
        case tv u y =>
          simp only [AV.as] at h
          split at h
          · rename_i hu; subst hu; rw [hq] at ht; cases ht
          · cases h
    refine as_ok h ?_
    rw [AV.cells_one hag]
    simpa [VReps] using hr
end Go.AM
