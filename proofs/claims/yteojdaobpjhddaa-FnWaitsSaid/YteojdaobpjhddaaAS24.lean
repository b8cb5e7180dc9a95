/- An interpreter of the model's code over values that are told, and its soundness. -/
import Derived.Test.YteojdaobpjhddaaAS23
namespace Go.AM

/-! Soundness: regions whose order is drawn. -/
structure Ent where
  s : List AV
  h : Heap
  v : AV
  h' : Heap
  m : Bool
  w : Bool
  t : List AV
  l : Option (List Nat)

def Ent.mk' (e : Ent) : Mk := ⟨e.m, e.t, e.l⟩

structure Good (P : Program) (ops : Array Oper) (o : Oper) (e : Ent) : Prop where
  want : ∀ c a, Slots c (onlyS (o.looksAt ops) e.s) a → Region.wanted o (yielded ops a.tmps) = e.w
  ok : e.w = true → OpOk P (onlyS (o.looksAt ops) e.s) e.h o e.v e.h' e.m
  still : ∀ l, e.l = some l → e.h' = e.h ∧ e.m = false ∧ (e.w = true → ∀ h, (∀ id ∈ l, hget h id = hget e.h id) → OpOk P (onlyS (o.looksAt ops) e.s) h o e.v h false)
  off : e.w = false → e.h' = e.h ∧ e.m = false ∧ e.v = .tup []
  keep : ∀ id, id < e.h.length → touch id e.t = false → hget e.h' id = hget e.h id

def Chain : St → List Ent → List Oper → St → Prop
  | st, [], [], stn => st = stn
  | st, e :: es, o :: l, stn => e.s = st.s ∧ e.h = st.h ∧ Chain ⟨putSlot st.s o.dst e.v, e.h'⟩ es l stn
  | _, _, _, _ => False

section
variable {ρ : Type} {P : Program} {E : Env} {x : ρ} {run : Run}

theorem looks_op {ops : Array Oper} {o : Oper} {t : Nat} (h : Operand.tmp t ∈ o.op.operands) : t ∈ o.looksAt ops :=
  List.mem_append_left _ (List.mem_filterMap.2 ⟨.tmp t, by simpa using h, rfl⟩)

theorem aeval_only {ops : Array Oper} {o : Oper} {s : List AV} : ∀ y ∈ o.op.operands, aeval (onlyS (o.looksAt ops) s) y = aeval s y := by
  intro y hy
  cases y with
  | tmp t => simp only [aeval]; rw [onlyS_get, if_pos (looks_op hy)]
  | _ => rfl

theorem vals_only {ops : Array Oper} {o : Oper} {s : List AV} : opVals (onlyS (o.looksAt ops) s) o.op = opVals s o.op :=
  List.map_congr_left fun y hy => aeval_only y (by simpa using hy)
theorem look_only {ops : Array Oper} {o : Oper} {s : List AV} : lookOf (onlyS (o.looksAt ops) s) o.op = lookOf s o.op := by
  have key : ∀ y ∈ o.op.operands, aeval (onlyS (o.looksAt ops) s) y = aeval s y := aeval_only
  generalize o.op = op at key
  cases op <;> simp only [Op.operands] at key <;> simp only [lookOf]
  case load t y => rw [key y (by simp)]
  case slice t y lo hi mx => rw [key y (by simp)]
  case indexAddr t y z => rw [key y (by simp)]
  case convert src dst y => rw [key y (by simp)]
theorem op_good (hT : TOk P E) (hC : CallsOk P E run) {ops : Array Oper} {o : Oper} {s : List AV} {h : Heap} {K : AV → Heap → Bool → Option ρ} (hk : aop E (acall E run true) s h o.op K = some x) :
    ∃ v h' m, K v h' m = some x ∧ OpOk P (onlyS (o.looksAt ops) s) h o v h' m ∧ (∀ l, lookOf s o.op = some l → h' = h ∧ m = false ∧ ∀ h2, (∀ id ∈ l, hget h2 id = hget h id) → OpOk P (onlyS (o.looksAt ops) s) h2 o v h2 false) := by
  rw [← aop_congr (s := onlyS (o.looksAt ops) s) aeval_only] at hk
  cases hh : lookOf s o.op with
  | none =>
    obtain ⟨v, h', m, h1, h2⟩ := told_op hT hC hk
    exact ⟨v, h', m, h1, h2, fun l e => by cases e⟩
  | some l =>
    rw [← look_only (ops := ops)] at hh
    obtain ⟨v, h1, h2⟩ := aop_look hh hk
    have key : ∀ h2, (∀ id ∈ l, hget h2 id = hget h id) → OpOk P (onlyS (o.looksAt ops) s) h2 o v h2 false := by
      intro h' heq
      have hk2 := h2 (acall (ρ := AV × Heap × Bool) E run true) h' (fun v h m => some (v, h, m)) heq
      obtain ⟨v2, h3, m2, e1, e2⟩ := told_op hT hC hk2
      simp only [Option.some.injEq, Prod.mk.injEq] at e1
      obtain ⟨rfl, rfl, rfl⟩ := e1
      exact e2
    exact ⟨v, h, false, h1, key h (fun _ _ => rfl), fun l' e => by cases e; exact ⟨rfl, rfl, key⟩⟩

theorem guard_looks {ops : Array Oper} {o : Oper} {j : Nat} {want : Bool} {d : Tmp} (hg : o.guard = some (j, want)) (hd : (ops[j]?).bind (·.dst) = some d) : d ∈ o.looksAt ops := by
  refine List.mem_append_right _ ?_
  simp [hg, hd]

theorem trace_ops (hT : TOk P E) (hC : CallsOk P E run) {ops : Array Oper} : ∀ (l : List Oper) (ms : List Mk) (st : St) (K : List Mk → St → Option ρ), aops E (acall E run true) ops l ms st K = some x →
    ∃ es stn, K (ms ++ es.map Ent.mk') stn = some x ∧ es.length = l.length ∧ (∀ (i : Nat) e, es[i]? = some e → ∃ o, l[i]? = some o ∧ Good P ops o e) ∧ Chain st es l stn
  | [], ms, st, K, hk => by
    simp only [aops] at hk
    exact ⟨[], st, by simpa using hk, rfl, by simp, rfl⟩
  | o :: l, ms, st, K, hk => by
    have one : (∀ c a, Slots c (onlyS (o.looksAt ops) st.s) a → Region.wanted o (yielded ops a.tmps) = true) →
        (aop E (acall E run true) st.s st.h o.op fun v h m => aops E (acall E run true) ops l (ms ++ [⟨m, opVals st.s o.op, lookOf st.s o.op⟩]) ⟨putSlot st.s o.dst v, h⟩ K) = some x →
        ∃ es stn, K (ms ++ es.map Ent.mk') stn = some x ∧ es.length = (o :: l).length ∧ (∀ (i : Nat) e, es[i]? = some e → ∃ o', (o :: l)[i]? = some o' ∧ Good P ops o' e) ∧ Chain st es (o :: l) stn := by
      intro hw hk
      obtain ⟨v, h', m, h1, h2, h3⟩ := op_good (ops := ops) hT hC hk
      obtain ⟨es, stn, k1, k2, k3, k4⟩ := trace_ops hT hC l _ _ K h1
      refine ⟨⟨st.s, st.h, v, h', m, true, opVals st.s o.op, lookOf st.s o.op⟩ :: es, stn, by simpa [Ent.mk'] using k1, by simp [k2], fun i e he => ?_, rfl, rfl, k4⟩
      cases i with
      | zero =>
        simp only [List.getElem?_cons_zero, Option.some.injEq] at he
        subst he
        exact ⟨o, rfl, hw, fun _ => h2, fun l hh => ⟨(h3 l hh).1, (h3 l hh).2.1, fun _ => (h3 l hh).2.2⟩, by simp, fun id hid ht => h2.2.2.2 id hid (by rw [vals_only]; exact ht)⟩
      | succ i => simpa using k3 i e (by simpa using he)
    simp only [aops] at hk
    split at hk
    · rename_i hg
      exact one (fun c a _ => by simp [Region.wanted, hg]) hk
    · rename_i j want hg
      split at hk
      · rename_i d hd
        split at hk
        · rename_i b hb
          have hb' : (onlyS (o.looksAt ops) st.s).getD d .undef = .bool b := by rw [onlyS_get, if_pos (guard_looks hg hd)]; exact hb
          by_cases hbw : b = want
          · subst hbw
            have hset : st.s.set d (.bool b) = st.s := set_same hb (by simp)
            have hcond : (bif b then b else !b) = true := by cases b <;> rfl
            rw [hcond] at hk
            simp only [cond_true, hset] at hk
            exact one (fun c a hsl => by simp [Region.wanted, hg, guard_told hsl hd hb']) hk
          · have hset : st.s.set d (.bool !want) = st.s := by
              have : b = !want := by cases b <;> cases want <;> simp_all
              rw [← this]; exact set_same hb (by simp)
            have hcond : (bif want then b else !b) = false := by cases b <;> cases want <;> simp_all
            rw [hcond] at hk
            simp only [cond_false, hset] at hk
            obtain ⟨es, stn, k1, k2, k3, k4⟩ := trace_ops hT hC l _ _ K hk
            refine ⟨⟨st.s, st.h, .tup [], st.h, false, false, [], some []⟩ :: es, stn, by simpa [Ent.mk'] using k1, by simp [k2], fun i e he => ?_, rfl, rfl, k4⟩
            cases i with
            | zero =>
              simp only [List.getElem?_cons_zero, Option.some.injEq] at he
              subst he
              exact ⟨o, rfl, fun c a hsl => by simp [Region.wanted, hg, guard_told hsl hd hb', hbw], by simp, fun _ _ => ⟨rfl, rfl, by simp⟩, fun _ => ⟨rfl, rfl, rfl⟩, fun _ _ _ => rfl⟩
            | succ i => simpa using k3 i e (by simpa using he)
        · rename_i vs hb
          have hb' : (onlyS (o.looksAt ops) st.s).getD d .undef = .tup vs := by rw [onlyS_get, if_pos (guard_looks hg hd)]; exact hb
          obtain ⟨es, stn, k1, k2, k3, k4⟩ := trace_ops hT hC l _ _ K hk
          refine ⟨⟨st.s, st.h, .tup [], st.h, false, false, [], some []⟩ :: es, stn, by simpa [Ent.mk'] using k1, by simp [k2], fun i e he => ?_, rfl, rfl, k4⟩
          cases i with
          | zero =>
            simp only [List.getElem?_cons_zero, Option.some.injEq] at he
            subst he
            exact ⟨o, rfl, fun c a hsl => by simp [Region.wanted, hg, guard_tup hsl hd hb'], by simp, fun _ _ => ⟨rfl, rfl, by simp⟩, fun _ => ⟨rfl, rfl, rfl⟩, fun _ _ _ => rfl⟩
          | succ i => simpa using k3 i e (by simpa using he)
        · cases hk
      · cases hk

def hAt (es : List Ent) (stn : St) (i : Nat) : Heap := ((es[i]?).map (·.h)).getD stn.h
def sAt (es : List Ent) (stn : St) (i : Nat) : List AV := ((es[i]?).map (·.s)).getD stn.s

theorem chain_at (es : List Ent) : ∀ {st : St} {l : List Oper} {stn : St}, Chain st es l stn → hAt es stn 0 = st.h ∧ sAt es stn 0 = st.s ∧
    ∀ (i : Nat) e o, es[i]? = some e → l[i]? = some o → hAt es stn i = e.h ∧ sAt es stn i = e.s ∧ hAt es stn (i + 1) = e.h' ∧ sAt es stn (i + 1) = putSlot e.s o.dst e.v := by
  induction es with
  | nil =>
    intro st l stn h
    cases l with
    | cons _ _ => exact absurd h (by simp [Chain])
    | nil =>
      have : st = stn := h
      subst this
      exact ⟨rfl, rfl, by simp⟩
  | cons e es ih =>
    intro st l stn h
    cases l with
    | nil => exact absurd h (by simp [Chain])
    | cons o l =>
      obtain ⟨h1, h2, h3⟩ := h
      obtain ⟨k1, k2, k3⟩ := ih h3
      refine ⟨by simp [hAt, h2], by simp [sAt, h1], fun i e' o' he ho => ?_⟩
      cases i with
      | zero =>
        simp only [List.getElem?_cons_zero, Option.some.injEq] at he ho
        subst he; subst ho
        refine ⟨by simp [hAt], by simp [sAt], ?_, ?_⟩
        · have : hAt (e :: es) stn (0 + 1) = hAt es stn 0 := by simp [hAt]
          rw [this, k1]
        · have : sAt (e :: es) stn (0 + 1) = sAt es stn 0 := by simp [sAt]
          rw [this, k2, h1]
      | succ i =>
        have e1 : hAt (e :: es) stn (i + 1) = hAt es stn i := by simp [hAt]
        have e2 : sAt (e :: es) stn (i + 1) = sAt es stn i := by simp [sAt]
        have e3 : hAt (e :: es) stn (i + 1 + 1) = hAt es stn (i + 1) := by simp [hAt]
        have e4 : sAt (e :: es) stn (i + 1 + 1) = sAt es stn (i + 1) := by simp [sAt]
        rw [e1, e2, e3, e4]
        exact k3 i e' o' (by simpa using he) (by simpa using ho)
end
end Go.AM
