/- An interpreter of the model's code over values that are told, and its soundness. -/
import Derived.Test.YteojdaobpjhddaaAS41
namespace Go.AM

/-! Several results, all that they lead to the caller's own. -/
def TupOf : Ty → List Value → List Value → Prop
  | .pair a b, v :: vs, us => ∃ l r, us = l ++ r ∧ l.length = a.size ∧ CellsOf a v l ∧ TupOf b vs r
  | .unit, [], us => us = []
  | _, _, _ => False
def ownTs : (t : Ty) → t.C → Nat → List AV
  | .pair a b, x, n => ownV a (expl a x.1 n) :: ownTs b x.2 (n + rowsT a)
  | _, _, _ => []
/-- Are values of such shapes? -/
def shapesT : Ty → List AV → Bool
  | .pair a b, v :: vs => (v.isAgg == a.isAgg) && (v.cells.length == a.size) && shapesT b vs
  | .unit, [] => true
  | _, _ => false

theorem expl_len : ∀ {t : Ty} {x : t.C} {n : Nat}, posT t = true → (expl t x n).length = t.size := by
  intro t
  induction t with
  | pair a b iha ihb =>
    intro x n h
    simp only [posT, Bool.and_eq_true] at h
    simp only [expl, List.length_append, iha h.1, ihb h.2, Ty.size]
  | node => intro x n h; cases h
  | _ => intro x n h; rfl

theorem VReps.cut {c : Ctx} : ∀ {as bs : List AV} {us vs : List Value}, VReps c (as ++ bs) (us ++ vs) → as.length = us.length → VReps c as us ∧ VReps c bs vs
  | [], bs, us, vs, h, he => by
    cases us with
    | nil => exact ⟨by simp [VReps], by simpa using h⟩
    | cons _ _ => simp at he
  | a :: as, bs, us, vs, h, he => by
    cases us with
    | nil => simp at he
    | cons u us =>
      simp only [List.cons_append, VReps] at h ⊢
      obtain ⟨q1, q2⟩ := VReps.cut h.2 (by simpa using he)
      exact ⟨⟨h.1, q1⟩, q2⟩

theorem ownTs_rep {c : Ctx} : ∀ {t : Ty} {x : t.C} {n : Nat} {vs us : List Value}, posT t = true → TupOf t vs us → VReps c (expl t x n) us → VReps c (ownTs t x n) vs := by
  intro t
  induction t with
  | pair a b _ ihb =>
    intro x n vs us hp ht hr
    simp only [posT, Bool.and_eq_true] at hp
    cases vs with
    | nil => exact ht.elim
    | cons v vs =>
      obtain ⟨l, r, rfl, hl, h1, h2⟩ := ht
      simp only [expl] at hr
      obtain ⟨q1, q2⟩ := VReps.cut hr (by rw [expl_len hp.1, hl])
      simp only [ownTs, VReps]
      exact ⟨ownV_rep h1 q1, ihb hp.2 h2 q2⟩
  | unit =>
    intro x n vs us hp ht hr
    cases vs with
    | nil => simp [ownTs, VReps]
    | cons _ _ => exact ht.elim
  | _ => intro x n vs us hp ht hr; cases vs <;> exact ht.elim

def LawDT (P : Program) (f : FuncId) (args : List AV) (t : Ty) (x : t.C) : Prop :=
  Enters P f ∧ ∀ (pr : Nat → Prop) (w : World) (vs : Array Value), (∀ b, pr b → b < w.heap.size) → VReps (still0 pr w) args vs.toList → Calls P f vs w fun en w' =>
    ∃ (A : Array Value) (us : List Value) (F : Nat → Prop), en = .returned (.tuple A) ∧ TupOf t A.toList us ∧ DCells w' t x us F ∧ (∀ b, F b → w.heap.size ≤ b ∧ b < w'.heap.size) ∧ w.heap.size ≤ w'.heap.size ∧
      (∀ b, b < w.heap.size → w'.heap[b]? = w.heap[b]?) ∧ w'.os = w.os ∧ w'.tape = w.tape ∧ w'.output = w.output

def byNewT (t : Ty) (m : (ρ : Type) → List AV → (t.C → Option ρ) → Option ρ) : Con := fun ρ args h K =>
  m ρ (args.map (deref h 8)) fun x => bif posT t then K (.tup (ownTs t x h.length)) (h ++ objsD false t x) false else none

theorem con_byNewT {P : Program} {f : FuncId} {t : Ty} {m : (ρ : Type) → List AV → (t.C → Option ρ) → Option ρ} (hm : ∀ (ρ : Type) args (K : t.C → Option ρ) (x : ρ), m ρ args K = some x → ∃ y, K y = some x ∧ LawDT P f args t y) : ConOk P f (byNewT t m) := by
  intro ρ args h K x hb
  unfold byNewT at hb
  obtain ⟨y, hv1, hent, hlaw⟩ := hm _ _ _ _ hb
  by_cases hc : posT t = true
  · simp only [hc, cond_true] at hv1
    refine ⟨_, _, false, hv1, hent, (Pre.snoc h _).sta _, fun c vs hs hf hr => ?_⟩
    refine (hlaw c.still.pr c.w vs hs.still_low (deref_reps (deref_rep hs 8) hr)).mono ?_
    rintro en w' ⟨A, us, F, rfl, ho, hD, hF, q4, q5, q6, q7, q8⟩
    obtain ⟨k1, k2, k3⟩ := byVal_state hs (pr' := c.pr) (fun _ h => h) (fun _ h => .inl h) (fun b hb => Nat.lt_of_lt_of_le (hs.plow b hb) q4) q4 q5 q6 q7 q8
    obtain ⟨c2, a1, a2, a3, a4, a5, a6, a7, a8, a9, a10⟩ := expl_ok false k1 k2 (fun id p1 p2 => hf id p1 (by rw [List.length_append, objsD_len]; exact p2)) hD (fun b hb => ⟨(hF b hb).1, (hF b hb).2, fun hp => by have := hs.plow b hp; have := (hF b hb).1; omega, fun id hd ha => by have := hs.at_low (id := id) (b := b) hd ha; have := (hF b hb).1; omega⟩) hc
    refine ⟨.tuple A, c2, rfl, a1, a6, a7, ?_, fun _ => a8 k3⟩
    simp only [VRep]
    exact ⟨A, rfl, ownTs_rep hc ho a10⟩
  · simp only [Bool.not_eq_true] at hc; rw [hc] at hv1; cases hv1

def finDT (t : Ty) (r : AV × Heap) : Option t.C :=
  match r.1 with
  | .tup vs => bif shapesT t vs then (takeT r.2 t (vs.flatMap AV.cells)).bind fun x => bif once x.2 then some x.1 else none else none
  | _ => none

theorem tup_cells {c : Ctx} : ∀ {t : Ty} {as : List AV} {vs : List Value}, shapesT t as = true → VReps c as vs → (as.flatMap AV.cells).all AV.one = true →
    VReps c (as.flatMap AV.cells) (vs.flatMap fun v => v.cells.toList) ∧ TupOf t vs (vs.flatMap fun v => v.cells.toList) := by
  intro t
  induction t with
  | pair a b _ ihb =>
    intro as vs hs hr h1
    cases as with
    | nil => cases hs
    | cons x as =>
      cases vs with
      | nil => simp [VReps] at hr
      | cons v vs =>
        simp only [shapesT, Bool.and_eq_true, beq_iff_eq] at hs
        obtain ⟨⟨s1, s2⟩, s3⟩ := hs
        simp only [VReps] at hr
        simp only [List.flatMap_cons, List.all_append, Bool.and_eq_true] at h1 ⊢
        obtain ⟨q1, q2⟩ := ihb s3 hr.2 h1.2
        obtain ⟨c1, c2⟩ := hr.1.cells h1.1
        refine ⟨c1.append q1, _, _, rfl, by rw [← c1.length, s2], ?_, q2⟩
        unfold CellsOf
        cases hta : a.isAgg with
        | true =>
          rw [if_pos rfl]
          obtain ⟨A, hv, _⟩ := hr.1.agg (s1.trans hta)
          exact ⟨A, hv, by rw [hv]; rfl⟩
        | false =>
          rw [if_neg (by simp)]
          have hcs := AV.cells_one (s1.trans hta)
          have ho := hr.1.one (by have := h1.1; rw [hcs] at this; simpa using this)
          rw [one_cells ho]
  | unit =>
    intro as vs hs hr h1
    cases as with
    | nil => cases vs with
      | nil => exact ⟨by simp [VReps], rfl⟩
      | cons _ _ => simp [VReps] at hr
    | cons _ _ => cases hs
  | _ => intro as vs hs; cases as <;> cases hs

section
variable {P : Program} {E : Env} {run : Run}
theorem lawDT (hT : TOk P E) (hC : CallsOk P E run) (hmix : P.follows .mixedOrders = true) {f : FuncId} {fn : Func} (hf : P.funcs[f]? = some fn) (hname : (fn.name == "runtime.NumGoroutine") = false) (hb : fn.body.isNone = false) {k : Nat} {args : List AV} {t : Ty} {x : t.C}
    (hk : abody E run k f fn args [] (finDT t) = some x) : LawDT P f args t x := by
  obtain ⟨r, hfin, hw⟩ := told_body (lv := true) hT hC (regOk hT hmix hC) hf (fun h => by cases h) hk
  obtain ⟨rv, rh⟩ := r
  refine ⟨⟨fn, hf, hname, hb⟩, fun pr w vs hp hr => ?_⟩
  refine (hw (still0 pr w) vs (sim_still0 hp) (fun id _ => ⟨rfl, fun h => h⟩) hr).mono ?_
  rintro en w' ⟨v', c', rfl, rfl, hsi, hs', hf', hvr⟩
  have W := hsi.1
  unfold finDT at hfin
  split at hfin
  · rename_i as heq
    replace heq : rv = .tup as := heq
    subst heq
    by_cases hsh : shapesT t as = true
    · rw [hsh, cond_true] at hfin
      obtain ⟨⟨y, ids⟩, hy, hfin⟩ := Option.bind_eq_some_iff.1 hfin
      by_cases ho : once ids = true
      · simp only [ho, cond_true, Option.some.injEq] at hfin
        subst hfin
        simp only [VRep] at hvr
        obtain ⟨A, rfl, hreps⟩ := hvr
        obtain ⟨q1, q2⟩ := tup_cells hsh hreps (take_one hy)
        obtain ⟨d1, d2⟩ := take_rep hs' q1 hy (once_ok ho)
        refine ⟨A, _, _, rfl, q2, d1, ?_, W.size, fun b hb => W.frame b hb Ctx.has0, W.os, W.tape, W.output⟩
        rintro b ⟨id, hid, ha⟩
        obtain ⟨h1, h2, _⟩ := d2 id hid
        exact ⟨(W.own b ⟨id, h1, h2, ha⟩).elim (fun h => h) fun h => absurd h Ctx.has0, hs'.at_low h2 ha⟩
      · simp only [Bool.not_eq_true] at ho; rw [ho] at hfin; cases hfin
    · simp only [Bool.not_eq_true] at hsh; rw [hsh] at hfin; cases hfin
  · cases hfin
end
theorem LawDT.reads {P : Program} {f : FuncId} {as bs : List AV} {t : Ty} {x : t.C} (h : ReadsL as bs) (l : LawDT P f bs t x) : LawDT P f as t x :=
  ⟨l.1, fun pr w vs hp hr => l.2 pr w vs hp (h _ _ hr)⟩
end Go.AM
