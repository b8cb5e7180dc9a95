/- An interpreter of the model's code over values that are told, and its soundness. -/
import Derived.Test.YteojdaobpjhddaaAS18
namespace Go.AM

/-! Soundness: regions in the text's order. -/
theorem Ext.fre {c c' : Ctx} {h h' : Heap} (x : Ext c h c' h') (f : Fre c h) : Fre c' h' := by
  intro id hid
  have hl := x.len
  constructor
  · cases hm : c'.m id with
    | none => rfl
    | some i =>
      have := x.fresh id i hm (f id (by omega)).1
      omega
  · intro hd
    rcases x.dead' id hd with h | h
    · exact (f id (by omega)).2 h
    · omega

section
variable {ρ : Type} {P : Program} {E : Env} {s : List AV} {h : Heap} {o : Oper} {x : ρ} {run : Run}

theorem put_defers (a : Act) (d : Option Tmp) (v : Value) : (a.put d v).defers = a.defers := by cases d <;> rfl

/-- A guard's slot. -/
theorem guard_told {ops : Array Oper} {c : Ctx} {a : Act} (hsl : Slots c s a) {j : Nat} {d : Tmp} (hd : (ops[j]?).bind (·.dst) = some d) {b : Bool} (hb : s.getD d .undef = .bool b) :
    yielded ops a.tmps j = some b := by
  have hr := hsl.2 d
  rw [hb] at hr
  have hr := hr.bool
  unfold yielded
  rw [hd]
  simp only [Array.getD_eq_getD_getElem?] at hr
  cases hq : a.tmps[d]? with
  | none =>
    have : s.length ≤ d := by rw [hsl.1]; simpa using hq
    simp [List.getD, List.getElem?_eq_none this] at hb
  | some v => simp [hq] at hr; simp [hq, hr]

theorem undef_rep (c : Ctx) : VRep c (.tup []) Go.undef := by simp only [VRep]; exact ⟨#[], rfl, by simp [VReps]⟩

theorem guard_tup {ops : Array Oper} {c : Ctx} {a : Act} (hsl : Slots c s a) {j : Nat} {d : Tmp} (hd : (ops[j]?).bind (·.dst) = some d) {vs : List AV} (hb : s.getD d .undef = .tup vs) :
    yielded ops a.tmps j = none := by
  have hr := hsl.2 d
  rw [hb] at hr
  simp only [VRep] at hr
  obtain ⟨ws, hw, _⟩ := hr
  unfold yielded
  rw [hd]
  simp only [Array.getD_eq_getD_getElem?] at hw
  cases hq : a.tmps[d]? with
  | none => simp [hq]
  | some v => simp [hq] at hw; simp [hq, hw]

theorem set_same {d : Nat} {v : AV} (hb : s.getD d .undef = v) (hv : v ≠ .undef) : s.set d v = s := by
  apply List.ext_getElem?
  intro k
  by_cases hk : k = d
  · subst hk
    rcases Nat.lt_or_ge k s.length with hl | hl
    · rw [List.getElem?_set_self hl, ← hb]; simp [List.getD, hl]
    · simp [List.getD, List.getElem?_eq_none hl] at hb; exact absurd hb.symm hv
  · rw [List.getElem?_set_ne (fun e => hk e.symm)]

theorem told_ops (hT : TOk P E) (hC : CallsOk P E run) {ops : Array Oper} : ∀ (l : List Oper) (k : Nat) (ms : List Mk) (st : St) (K : List Mk → St → Option ρ), (∀ i, l[i]? = ops[k + i]?) → aops E (acall E run false) ops l ms st K = some x →
    ∃ ms' st', K ms' st' = some x ∧ ∀ (c : Ctx) (a : Act), Sim c st.h → Fre c st.h → Slots c st.s a → ∀ (Q : Exit → Act → World → Prop),
      (∀ c' a', Ext c st.h c' st'.h → Sim c' st'.h → Slots c' st'.s a' → a'.defers = a.defers → Q .normal a' c'.w) → wpOps P ops Q (List.range' k l.length) a c.w
  | [], k, ms, st, K, _, hk => by
    simp only [aops] at hk
    exact ⟨ms, st, hk, fun c a hs hf hsl Q hq => hq c a (Ext.refl _ _) hs hsl rfl⟩
  | o :: l, k, ms, st, K, hl, hk => by
    have ho : ops[k]? = some o := by have := hl 0; simpa using this.symm
    have hl' : ∀ i, l[i]? = ops[k + 1 + i]? := fun i => by
      have := hl (i + 1)
      rw [List.getElem?_cons_succ] at this
      rw [this]; congr 1; omega
    -- one operation that is done
    have one : (∀ (c : Ctx) (a : Act), Slots c st.s a → Region.wanted o (yielded ops a.tmps) = true) → (aop E (acall E run false) st.s st.h o.op fun v h m => aops E (acall E run false) ops l (ms ++ [⟨m, opVals st.s o.op, lookOf st.s o.op⟩]) ⟨putSlot st.s o.dst v, h⟩ K) = some x →
        ∃ ms' st', K ms' st' = some x ∧ ∀ (c : Ctx) (a : Act), Sim c st.h → Fre c st.h → Slots c st.s a → ∀ (Q : Exit → Act → World → Prop),
        (∀ c' a', Ext c st.h c' st'.h → Sim c' st'.h → Slots c' st'.s a' → a'.defers = a.defers → Q .normal a' c'.w) → wpOps P ops Q (List.range' k (l.length + 1)) a c.w := by
      intro hw hk
      obtain ⟨v, h', m, hk2, hop⟩ := told_opF hT hC hk
      obtain ⟨ms', st', hK, hrest⟩ := told_ops hT hC l (k + 1) _ _ K hl' hk2
      refine ⟨ms', st', hK, fun c a hs hf hsl Q hq => ?_⟩
      rw [List.range'_succ, wpOps_cons]
      unfold wpOp
      simp only [ho, hw c a hsl, if_true]
      refine .inl (hop c a hs hf hsl _ Q fun c1 v' e1 s1 r1 => ?_)
      refine hrest c1 (a.put o.dst v') s1 (e1.fre hf) ((hsl.mono e1.tells).put _ r1) Q fun c' a' e2 s2 r2 d2 => ?_
      exact hq c' a' (e1.trans e2) s2 r2 (d2.trans (put_defers _ _ _))
    simp only [aops] at hk
    split at hk
    · rename_i hg
      exact one (fun c a _ => by simp [Region.wanted, hg]) hk
    · rename_i j want hg
      split at hk
      · rename_i d hd
        split at hk
        · rename_i b hb
          by_cases hbw : b = want
          · subst hbw
            have hset : st.s.set d (.bool b) = st.s := set_same hb (by simp)
            have hcond : (bif b then b else !b) = true := by cases b <;> rfl
            rw [hcond] at hk
            simp only [cond_true, hset] at hk
            exact one (fun c a hsl => by simp [Region.wanted, hg, guard_told hsl hd hb]) hk
          · have hset : st.s.set d (.bool !want) = st.s := by
              have : b = !want := by cases b <;> cases want <;> simp_all
              rw [← this]; exact set_same hb (by simp)
            have hcond : (bif want then b else !b) = false := by cases b <;> cases want <;> simp_all
            rw [hcond] at hk
            simp only [cond_false, hset] at hk
            obtain ⟨ms', st', hK, hrest⟩ := told_ops hT hC l (k + 1) _ _ K hl' hk
            refine ⟨ms', st', hK, fun c a hs hf hsl Q hq => ?_⟩
            rw [List.length_cons, List.range'_succ, wpOps_cons]
            unfold wpOp
            have hw : Region.wanted o (yielded ops a.tmps) = false := by
              simp [Region.wanted, hg, guard_told hsl hd hb, hbw]
            simp only [ho, hw, Bool.false_eq_true, if_false]
            refine hrest c (a.put o.dst Go.undef) hs hf (hsl.put _ (undef_rep c)) Q fun c' a' e2 s2 r2 d2 => ?_
            exact hq c' a' e2 s2 r2 (d2.trans (put_defers _ _ _))
        · rename_i vs hb
          obtain ⟨ms', st', hK, hrest⟩ := told_ops hT hC l (k + 1) _ _ K hl' hk
          refine ⟨ms', st', hK, fun c a hs hf hsl Q hq => ?_⟩
          rw [List.length_cons, List.range'_succ, wpOps_cons]
          unfold wpOp
          have hw : Region.wanted o (yielded ops a.tmps) = false := by
            simp [Region.wanted, hg, guard_tup hsl hd hb]
          simp only [ho, hw, Bool.false_eq_true, if_false]
          refine hrest c (a.put o.dst Go.undef) hs hf (hsl.put _ (undef_rep c)) Q fun c' a' e2 s2 r2 d2 => ?_
          exact hq c' a' e2 s2 r2 (d2.trans (put_defers _ _ _))
        · cases hk
      · cases hk
end
end Go.AM
