/- An interpreter of the model's code over values that are told, and its soundness. -/
import Derived.Test.YteojdaobpjhddaaAS24
namespace Go.AM

/-! Soundness: any order of a drawn region. -/
def Done (D : Array Bool) (j : Nat) : Prop := D.getD j false = true

/-- Is an operation bound to its place among those that change? 'n': how many rows there were ahead of the region. -/
def bnd (n : Nat) (e : Ent) : Bool := match e.l with | none => true | some l => !(l.all fun id => Nat.blt id n)
theorem bnd_meets {n : Nat} {e : Ent} {t : List AV} (h : bnd n e = true) : meets n t e.l = true := by
  unfold bnd at h; unfold meets
  split at h
  · rename_i hl; rw [hl]
  · rename_i l hl
    rw [hl]
    simp only [Bool.not_eq_true'] at h ⊢
    cases hq : (l.all fun id => Nat.blt id n && !touch id t) with
    | false => rfl
    | true =>
      have : (l.all fun id => Nat.blt id n) = true := List.all_eq_true.2 fun id hid => by
        have := List.all_eq_true.1 hq id hid
        simp only [Bool.and_eq_true] at this; exact this.1
      rw [this] at h; cases h

/-- What is known of a region's run in the text's order. -/
structure Reg (P : Program) (ops : Array Oper) (es : List Ent) (st stn : St) : Prop where
  len : es.length = ops.size
  good : ∀ (i : Nat) e, es[i]? = some e → ∃ o, ops[i]? = some o ∧ Good P ops o e
  h0 : hAt es stn 0 = st.h
  s0 : sAt es stn 0 = st.s
  hn : hAt es stn ops.size = stn.h
  sn : sAt es stn ops.size = stn.s
  at' : ∀ (i : Nat) e o, es[i]? = some e → ops[i]? = some o → hAt es stn i = e.h ∧ sAt es stn i = e.s ∧ hAt es stn (i + 1) = e.h' ∧ sAt es stn (i + 1) = putSlot e.s o.dst e.v
  back : ∀ (i : Nat) o, ops[i]? = some o → ∀ e ∈ o.after, Region.binds .any e = true → e.on < i
  data : ∀ (i j : Nat) oi oj d, ops[i]? = some oi → ops[j]? = some oj → oi.dst = some d → i ≠ j → oj.dst ≠ some d ∧ (d ∈ oj.looksAt ops → ahead (Region.before ops).toList i j = true)
  order : ∀ (i j : Nat) e ej, es[i]? = some e → e.m = true → es[j]? = some ej → meets (hAt es stn 0).length e.t ej.l = true → i ≠ j → ahead (Region.before ops).toList i j = true

def Closed (ops : Array Oper) (D : Array Bool) : Prop := ∀ (j : Nat) o, Done D j → ops[j]? = some o → ∀ e ∈ o.after, Region.binds .any e = true → Done D e.on

theorem before_in {ops : Array Oper} {D : Array Bool} (hc : Closed ops D) : ∀ (j i : Nat) o, ops[j]? = some o → (∀ e ∈ o.after, Region.binds .any e = true → Done D e.on) → ((Region.before ops).toList.getD j 0).testBit i = true → Done D i := by
  intro j
  induction j using Nat.strongRecOn with
  | _ j ih =>
    intro i o ho hall hbit
    obtain ⟨o', ho', e, he, hb, hor⟩ := before_spec ops hbit
    rw [ho] at ho'; cases ho'
    rcases hor with rfl | ⟨hlt, hbit'⟩
    · exact hall e he hb
    · obtain ⟨o2, ho2, _⟩ := before_spec ops hbit'
      exact ih e.on hlt i o2 ho2 (hc e.on o2 (hall e he hb) ho2) hbit'

structure Epoch (ops : Array Oper) (es : List Ent) (stn : St) (c0 : Ctx) (D : Array Bool) (c : Ctx) (p : Nat) : Prop where
  le : p ≤ ops.size
  here : p = ops.size ∨ ∃ e, es[p]? = some e ∧ e.m = true
  mods : ∀ (m : Nat) e, m < p → es[m]? = some e → e.m = true → Done D m
  heapy : ∀ (j : Nat) e, Done D j → es[j]? = some e → bnd (hAt es stn 0).length e = true → j < p
  sim : Sim c (hAt es stn p)
  fre : Fre c (hAt es stn p)
  ext : Ext c0 (hAt es stn 0) c (hAt es stn p)
  undone : ∀ (i : Nat), i < p → ¬ Done D i → ∀ id, (hAt es stn i).length ≤ id → id < (hAt es stn (i + 1)).length → c.m id = none ∧ ¬ c.dead id

structure Inv (ops : Array Oper) (es : List Ent) (st stn : St) (c0 : Ctx) (a0 : Act) (D : Array Bool) (c : Ctx) (a : Act) : Prop where
  dsz : D.size = ops.size
  sz : a.tmps.size = st.s.length
  defers : a.defers = a0.defers
  old : ∀ t, (∀ (j : Nat) o, Done D j → ops[j]? = some o → o.dst ≠ some t) → VRep c (st.s.getD t .undef) (a.tmps.getD t Go.undef)
  new : ∀ (j t : Nat) e o, Done D j → ops[j]? = some o → o.dst = some t → es[j]? = some e → t < a.tmps.size → VRep c e.v (a.tmps.getD t Go.undef)
  closed : Closed ops D
  epoch : ∃ p, Epoch ops es stn c0 D c p

section
variable {P : Program} {ops : Array Oper} {es : List Ent} {st stn : St}

theorem Reg.oper (R : Reg P ops es st stn) {i : Nat} (hi : i < ops.size) : ∃ o e, ops[i]? = some o ∧ es[i]? = some e ∧ Good P ops o e := by
  have hle : i < es.length := by rw [R.len]; exact hi
  have he := List.getElem?_eq_getElem hle
  obtain ⟨o, ho, hg⟩ := R.good i _ he
  exact ⟨o, _, ho, he, hg⟩

theorem Reg.slen (R : Reg P ops es st stn) : ∀ i, i ≤ ops.size → (sAt es stn i).length = st.s.length
  | 0, _ => by rw [R.s0]
  | i + 1, hi => by
    obtain ⟨o, e, ho, he, _⟩ := R.oper (show i < ops.size by omega)
    obtain ⟨_, h2, _, h4⟩ := R.at' i e o he ho
    rw [h4]
    have := R.slen i (by omega)
    rw [h2] at this
    cases hd : o.dst <;> simp [putSlot, this]

/-- A slot of the text's run, told of by its writers. -/
theorem Reg.val (R : Reg P ops es st stn) {c : Ctx} {t : Nat} {v : Value} : ∀ i, i ≤ ops.size → (∀ (j : Nat) o e, j < i → ops[j]? = some o → es[j]? = some e → o.dst = some t → t < st.s.length → VRep c e.v v) →
    ((∀ (j : Nat) o, j < i → ops[j]? = some o → o.dst ≠ some t) → VRep c (st.s.getD t .undef) v) → VRep c ((sAt es stn i).getD t .undef) v
  | 0, _, _, h => by rw [R.s0]; exact h (fun j o hj => by omega)
  | i + 1, hi, h1, h2 => by
    obtain ⟨o, e, ho, he, _⟩ := R.oper (show i < ops.size by omega)
    obtain ⟨_, k2, _, k4⟩ := R.at' i e o he ho
    have hlen := R.slen i (by omega)
    rw [k2] at hlen
    rw [k4]
    by_cases hd : o.dst = some t
    · rw [hd]
      simp only [putSlot]
      rcases Nat.lt_or_ge t e.s.length with ht | ht
      · have : (e.s.set t e.v).getD t .undef = e.v := by simp [List.getD_eq_getElem?_getD, ht]
        rw [this]; exact h1 i o e (by omega) ho he hd (by rw [← hlen]; exact ht)
      · have : (e.s.set t e.v).getD t .undef = .undef := by
          rw [List.getD_eq_getElem?_getD, List.getElem?_eq_none (by simpa using ht)]; rfl
        rw [this]; simp [VRep]
    · have hsame : (putSlot e.s o.dst e.v).getD t .undef = e.s.getD t .undef := by
        cases hdst : o.dst with
        | none => rfl
        | some d =>
          have hne : d ≠ t := fun e => hd (by rw [hdst, e])
          simp [putSlot, List.getD_eq_getElem?_getD, List.getElem?_set_ne hne]
      rw [hsame, ← k2]
      refine R.val i (by omega) (fun j o' e' hj => h1 j o' e' (by omega)) (fun hno => h2 fun j o' hj ho' => ?_)
      rcases Nat.lt_or_ge j i with hji | hji
      · exact hno j o' hji ho'
      · have : j = i := by omega
        subst this; rw [ho] at ho'; cases ho'; exact hd

/-- What an operation that is ready looks at. -/
theorem Reg.slots (R : Reg P ops es st stn) {c0 : Ctx} {a0 : Act} {D : Array Bool} {c : Ctx} {a : Act} (I : Inv ops es st stn c0 a0 D c a) {i : Nat} {o : Oper} {e : Ent} (ho : ops[i]? = some o) (he : es[i]? = some e) (hnd : ¬ Done D i)
    (hrdy : ∀ e ∈ o.after, Region.binds .any e = true → Done D e.on) : Slots c (onlyS (o.looksAt ops) e.s) a := by
  have hi : i < ops.size := (Array.getElem?_eq_some_iff.1 ho).1
  obtain ⟨_, k2, _, _⟩ := R.at' i e o he ho
  have hlen := R.slen i (by omega)
  rw [k2] at hlen
  refine ⟨by simp [onlyS, hlen, I.sz], fun t => ?_⟩
  rw [onlyS_get]
  split
  · rename_i ht
    rw [← k2]
    refine R.val i (by omega) (fun j oj ej hj hoj hej hdj htl => ?_) (fun hno => ?_)
    · have had := (R.data j i oj o t hoj ho hdj (by omega)).2 ht
      have hbl : Nat.blt j i = true := by simpa [Nat.blt_eq] using hj
      simp only [ahead, hbl, cond_true] at had
      have hdone := before_in I.closed i j o ho hrdy had
      exact I.new j t ej oj hdone hoj hdj hej (by rw [I.sz]; exact htl)
    · refine I.old t fun j oj hdone hoj hdj => ?_
      rcases Nat.lt_trichotomy j i with hji | hji | hji
      · exact hno j oj hji hoj hdj
      · subst hji; exact hnd hdone
      · have had := (R.data j i oj o t hoj ho hdj (by omega)).2 ht
        have hbl : Nat.blt j i = false := by
          cases hq : Nat.blt j i with
          | false => rfl
          | true => rw [Nat.blt_eq] at hq; omega
        simp only [ahead, hbl, cond_false] at had
        exact hnd (before_in I.closed j i oj hoj (I.closed j oj hdone hoj) had)
  · simp [VRep]

theorem done_set {D : Array Bool} {i j : Nat} (hi : i < D.size) : Done (D.setIfInBounds i true) j ↔ j = i ∨ Done D j := by
  unfold Done
  by_cases h : i = j
  · subst h; simp [hi]
  · have h' : j ≠ i := fun e => h e.symm
    simp [Array.getD_eq_getD_getElem?, Array.getElem?_setIfInBounds_ne h, h']

/-- The slots after an operation. -/
theorem Inv.put {c0 : Ctx} {a0 : Act} {D : Array Bool} {c c' : Ctx} {a : Act} (I : Inv ops es st stn c0 a0 D c a) (R : Reg P ops es st stn) {i : Nat} {o : Oper} {e : Ent} (ho : ops[i]? = some o) (he : es[i]? = some e)
    (hrdy : ∀ e ∈ o.after, Region.binds .any e = true → Done D e.on) (t : Tells c c') {v' : Value} (hv : VRep c' e.v v') (hep : ∃ p, Epoch ops es stn c0 (D.setIfInBounds i true) c' p) :
    Inv ops es st stn c0 a0 (D.setIfInBounds i true) c' (a.put o.dst v') := by
  have hi : i < ops.size := (Array.getElem?_eq_some_iff.1 ho).1
  have hiD : i < D.size := by rw [I.dsz]; exact hi
  have hsz : (a.put o.dst v').tmps.size = a.tmps.size := by cases o.dst <;> simp [Act.put]
  refine ⟨by simp [I.dsz], by rw [hsz]; exact I.sz, (put_defers _ _ _).trans I.defers, fun k hno => ?_, fun j k e' o' hdone ho' hd' he' hk => ?_, fun j o' hdone ho' e' he' hb => ?_, hep⟩
  · have hne : o.dst ≠ some k := hno i o ((done_set hiD).2 (.inl rfl)) ho
    have hsame : (a.put o.dst v').tmps.getD k Go.undef = a.tmps.getD k Go.undef := by
      cases hd : o.dst with
      | none => rfl
      | some d =>
        have : d ≠ k := fun e => hne (by rw [hd, e])
        simp [Act.put, Array.getD_eq_getD_getElem?, Array.getElem?_setIfInBounds_ne this]
    rw [hsame]
    exact VRep.mono t (I.old k fun j o' hdone ho' => hno j o' ((done_set hiD).2 (.inr hdone)) ho')
  · by_cases hji : j = i
    · subst hji
      rw [ho] at ho'; cases ho'
      rw [he] at he'; cases he'
      have hlt : k < a.tmps.size := by rw [← hsz]; exact hk
      have : (a.put o.dst v').tmps.getD k Go.undef = v' := by rw [hd']; simp [Act.put, Array.getD_eq_getD_getElem?, hlt]
      rw [this]; exact hv
    · have hdone' := ((done_set hiD).1 hdone).resolve_left hji
      have hne : o.dst ≠ some k := (R.data j i o' o k ho' ho hd' hji).1
      have hsame : (a.put o.dst v').tmps.getD k Go.undef = a.tmps.getD k Go.undef := by
        cases hd : o.dst with
        | none => rfl
        | some d =>
          have : d ≠ k := fun e => hne (by rw [hd, e])
          simp [Act.put, Array.getD_eq_getD_getElem?, Array.getElem?_setIfInBounds_ne this]
      rw [hsame]
      exact VRep.mono t (I.new j k e' o' hdone' ho' hd' he' (by rw [← hsz]; exact hk))
  · refine (done_set hiD).2 (.inr ?_)
    rcases (done_set hiD).1 hdone with rfl | hdone'
    · rw [ho] at ho'; cases ho'; exact hrdy e' he' hb
    · exact I.closed j o' hdone' ho' e' he' hb
end
end Go.AM
