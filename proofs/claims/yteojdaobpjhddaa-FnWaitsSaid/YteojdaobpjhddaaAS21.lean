/- An interpreter of the model's code over values that are told, and its soundness. -/
import Derived.Test.YteojdaobpjhddaaAS20
namespace Go.AM

/-! Soundness: code. -/
def Out.ex : Out → Exit
  | .normal => .normal
  | .exit i => .exit i
  | .ret => .ret

/-- From a state on: numbers too, where no state is renamed. -/
def Since (lv : Bool) (p : Nat) (c : Ctx) (h : Heap) (c' : Ctx) (h' : Heap) : Prop := Was c h c' h' ∧ (lv = false → Ext c h c' h') ∧ ∀ id i, id < p → c.m id = some i → c'.m id = some i

theorem Since.refl (lv : Bool) (p : Nat) (c : Ctx) (h : Heap) : Since lv p c h c h := ⟨Was.refl c h, fun _ => Ext.refl c h, fun _ _ _ h => h⟩
theorem Since.trans {lv : Bool} {p : Nat} {c c1 c2 : Ctx} {h h1 h2 : Heap} (x : Since lv p c h c1 h1) (y : Since lv p c1 h1 c2 h2) : Since lv p c h c2 h2 := ⟨x.1.trans y.1, fun e => (x.2.1 e).trans (y.2.1 e), fun id i hid hi => y.2.2 id i hid (x.2.2 id i hid hi)⟩
theorem Ext.since {lv : Bool} {p : Nat} {c c' : Ctx} {h h' : Heap} (x : Ext c h c' h') : Since lv p c h c' h' := ⟨x.toWas, fun _ => x, fun id i _ hi => x.m id i hi⟩

/-- What is told of a region whose order is drawn. -/
def RegOk (P : Program) (E : Env) (run : Run) : Prop := ∀ (ρ : Type) (id : Nat) (ops : Array Oper) (st : St) (K : St → Option ρ) (x : ρ), aregion E (acall E run) ops true st K = some x →
  ∃ st', K st' = some x ∧ ∀ c a, Stt c st a → ∀ Q, (∀ c' a', Ext c st.h c' st'.h → Stt c' st' a' → a'.defers = a.defers → Q .normal a' c'.w) → (Code.region id ops true).wp P Q a c.w

section
variable {ρ : Type} {P : Program} {E : Env} {x : ρ} {run : Run}

/-- What a piece of code comes to. -/
def ToldC (P : Program) (lv : Bool) (p : Nat) (code : Code) (st : St) (K : Out → St → Option ρ) (x : ρ) : Prop :=
  ∃ out st', K out st' = some x ∧ ∀ c a, Stt c st a → ∀ Q, (∀ c' a', Since lv p c st.h c' st'.h → Stt c' st' a' → a'.defers = a.defers → Q out.ex a' c'.w) → code.wp P Q a c.w

theorem enter_ok {f : FuncId} {n : Nat} {b : Code} {st : St} {K : St → Option ρ} {lv : Bool} (hlv : lv = false → ∀ r, E.live f r = none) (hk : enter E f n b st K = some x) :
    ∃ st', K st' = some x ∧ ∀ c a, Stt c st a → ∃ c', c'.w = c.w ∧ Since lv (pinsOf E f) c st.h c' st'.h ∧ Stt c' st' a := by
  unfold enter at hk
  cases hq : (firstJ b).bind (E.live f) with
  | none => rw [hq] at hk; exact ⟨st, hk, fun c a hst => ⟨c, rfl, Since.refl _ _ _ _, hst⟩⟩
  | some live =>
    rw [hq] at hk
    have hk : K (canon (pinsOf E f) live st) = some x := by cases n with
      | zero => cases hk
      | succ n => exact hk
    refine ⟨canon (pinsOf E f) live st, hk, fun c a hst => ?_⟩
    obtain ⟨c2, hw, h1, h2, h3⟩ := canon_ok hst (pinsOf E f) live
    refine ⟨c2, hw, ⟨h1, fun e => ?_, fun id i hid hi => by rw [h3 id hid]; exact hi⟩, h2⟩
    obtain ⟨r, _, hr⟩ := Option.bind_eq_some_iff.1 hq
    rw [hlv e r] at hr; cases hr

theorem prune_ok {f : FuncId} {b : Code} {st : St} {lv : Bool} (hlv : lv = false → ∀ r, E.live f r = none) : ∀ c a, Stt c st a → ∃ c', c'.w = c.w ∧ Since lv (pinsOf E f) c st.h c' (prune E f b st).h ∧ Stt c' (prune E f b st) a := by
  intro c a hst
  unfold prune
  cases hq : (first b).bind (E.live f) with
  | none => exact ⟨c, rfl, Since.refl _ _ _ _, hst⟩
  | some live =>
    obtain ⟨c2, hw, h1, h2, h3⟩ := canon_ok hst (pinsOf E f) live
    refine ⟨c2, hw, ⟨h1, fun e => ?_, fun id i hid hi => by rw [h3 id hid]; exact hi⟩, h2⟩
    obtain ⟨r, _, hr⟩ := Option.bind_eq_some_iff.1 hq
    rw [hlv e r] at hr; cases hr

theorem then_ex {next : Act → World → Prop} {Q : Exit → Act → World → Prop} {out : Out} (h : out ≠ .normal) (a : Act) (w : World) : Exit.then next Q out.ex a w = Q out.ex a w := by
  cases out <;> first | exact absurd rfl h | rfl

theorem told_loop {lv : Bool} {f : FuncId} {b : Code} {body : St → (Out → St → Option ρ) → Option ρ} (hlv : lv = false → ∀ r, E.live f r = none) (hb : ∀ st K, body st K = some x → ToldC P lv (pinsOf E f) b st K x) :
    ∀ (m : Nat) (st : St) (K : Out → St → Option ρ), aloop (prune E f b) body m st K = some x →
      ∃ out st', K out st' = some x ∧ ∀ c a, Stt c st a → ∀ Q, (∀ c' a', Since lv (pinsOf E f) c st.h c' st'.h → Stt c' st' a' → a'.defers = a.defers → Q out.ex a' c'.w) → Code.rounds P b Q m a c.w
  | 0, st, K, hk => by simp [aloop] at hk
  | m + 1, st, K, hk => by
    simp only [aloop] at hk
    obtain ⟨out, st1, hK, hw⟩ := hb _ _ hk
    have other : out ≠ .normal → K out st1 = some x → ∃ out st', K out st' = some x ∧ ∀ c a, Stt c st a → ∀ Q, (∀ c' a', Since lv (pinsOf E f) c st.h c' st'.h → Stt c' st' a' → a'.defers = a.defers → Q out.ex a' c'.w) → Code.rounds P b Q (m + 1) a c.w := by
      intro hne hK
      refine ⟨out, st1, hK, fun c a hst Q hq => ?_⟩
      rw [rounds_succ]
      refine hw c a hst _ fun c' a' h1 h2 h3 => ?_
      rw [then_ex hne]
      exact hq c' a' h1 h2 h3
    cases out with
    | normal =>
      simp only at hK
      obtain ⟨out2, st2, hK2, hw2⟩ := told_loop hlv hb m _ K hK
      refine ⟨out2, st2, hK2, fun c a hst Q hq => ?_⟩
      rw [rounds_succ]
      refine hw c a hst _ fun c' a' h1 h2 h3 => ?_
      obtain ⟨c2, hw', g1, g2⟩ := prune_ok (b := b) hlv c' a' h2
      show Code.rounds P b Q m a' c'.w
      rw [← hw']
      exact hw2 c2 a' g2 Q fun c3 a3 k1 k2 k3 => hq c3 a3 (h1.trans (g1.trans k1)) k2 (k3.trans h3)
    | exit i => exact other (by simp) hK
    | ret => exact other (by simp) hK

theorem known_same {s : List AV} {c : Operand} {b : Bool} (h : aeval s c = .bool b) : known s c b = s := by
  cases c with
  | tmp t => exact set_same h (by simp)
  | _ => rfl

theorem told_exec (hT : TOk P E) (hC : CallsOk P E run) (hR : RegOk P E run) {lv : Bool} {f : FuncId} (hlv : lv = false → ∀ r, E.live f r = none) (n : Nat) : ∀ (code : Code) (st : St) (K : Out → St → Option ρ), aexec E f (acall E run) n code st K = some x → ToldC P lv (pinsOf E f) code st K x := by
  intro code
  induction code with
  | skip =>
    intro st K hk
    exact ⟨.normal, st, hk, fun c a hst Q hq => wp_skip (hq c a (Since.refl _ _ _ _) hst rfl)⟩
  | region id ops draw =>
    intro st K hk
    cases draw with
    | true =>
      obtain ⟨st', hK, hw⟩ := hR ρ id ops st _ x hk
      exact ⟨.normal, st', hK, fun c a hst Q hq => hw c a hst Q fun c' a' h1 h2 h3 => hq c' a' h1.since h2 h3⟩
    | false =>
      simp only [aexec, aregion] at hk
      obtain ⟨ms, st', hK, hw⟩ := told_ops hT hC (ops := ops) ops.toList 0 [] st _ (fun i => by simp) hk
      simp only [Bool.not_false, Bool.true_or, cond_true] at hK
      refine ⟨.normal, st', hK, fun c a hst Q hq => wp_region ?_⟩
      have := hw c a hst.sim hst.fre hst.slots Q fun c' a' h1 h2 h3 h4 => hq c' a' h1.since ⟨h2, h1.fre hst.fre, h3⟩ h4
      rwa [Array.length_toList, ← List.range_eq_range'] at this
  | seq a b iha ihb =>
    intro st K hk
    simp only [aexec] at hk
    obtain ⟨out, st1, hK, hw⟩ := iha _ _ hk
    cases out with
    | normal =>
      simp only [seqK] at hK
      obtain ⟨st2, hK2, he⟩ := enter_ok hlv hK
      obtain ⟨out3, st3, hK3, hw3⟩ := ihb _ _ hK2
      refine ⟨out3, st3, hK3, fun c ac hst Q hq => wp_seq (hw c ac hst _ fun c' a' h1 h2 h3 => ?_)⟩
      obtain ⟨c2, hww, g1, g2⟩ := he c' a' h2
      show b.wp P Q a' c'.w
      rw [← hww]
      exact hw3 c2 a' g2 Q fun c3 a3 k1 k2 k3 => hq c3 a3 (h1.trans (g1.trans k1)) k2 (k3.trans h3)
    | exit i => exact ⟨.exit i, st1, hK, fun c ac hst Q hq => wp_seq (hw c ac hst _ fun c' a' h1 h2 h3 => hq c' a' h1 h2 h3)⟩
    | ret => exact ⟨.ret, st1, hK, fun c ac hst Q hq => wp_seq (hw c ac hst _ fun c' a' h1 h2 h3 => hq c' a' h1 h2 h3)⟩
  | cond c x y ihx ihy =>
    intro st K hk
    simp only [aexec] at hk
    split at hk
    · rename_i b hb
      cases b with
      | true =>
        simp only [cond_true, known_same hb] at hk
        obtain ⟨out, st1, hK, hw⟩ := ihx _ _ hk
        refine ⟨out, st1, hK, fun c0 a hst Q hq => wp_cond_true ?_ (hw c0 a hst Q hq)⟩
        have := hst.slots.eval c; rw [hb] at this; exact this.bool
      | false =>
        simp only [cond_false, known_same hb] at hk
        obtain ⟨out, st1, hK, hw⟩ := ihy _ _ hk
        refine ⟨out, st1, hK, fun c0 a hst Q hq => wp_cond_false ?_ (hw c0 a hst Q hq)⟩
        have := hst.slots.eval c; rw [hb] at this; exact this.bool
    · cases hk
  | block id b ih =>
    intro st K hk
    simp only [aexec] at hk
    obtain ⟨out, st1, hK, hw⟩ := ih _ _ hk
    cases out with
    | normal => exact ⟨.normal, st1, hK, fun c ac hst Q hq => wp_block (hw c ac hst _ fun c' a' h1 h2 h3 => hq c' a' h1 h2 h3)⟩
    | exit i =>
      simp only [blockK] at hK
      by_cases hi : i = id
      · simp only [hi, BEq.rfl, cond_true] at hK
        refine ⟨.normal, st1, hK, fun c ac hst Q hq => wp_block (hw c ac hst _ fun c' a' h1 h2 h3 => ?_)⟩
        simp only [Out.ex, Exit.inBlock, hi, if_true]
        exact hq c' a' h1 h2 h3
      · have : (i == id) = false := by simpa using hi
        simp only [this, cond_false] at hK
        refine ⟨.exit i, st1, hK, fun c ac hst Q hq => wp_block (hw c ac hst _ fun c' a' h1 h2 h3 => ?_)⟩
        simp only [Out.ex, Exit.inBlock, hi, if_false]
        exact hq c' a' h1 h2 h3
    | ret => exact ⟨.ret, st1, hK, fun c ac hst Q hq => wp_block (hw c ac hst _ fun c' a' h1 h2 h3 => hq c' a' h1 h2 h3)⟩
  | loop b ih =>
    intro st K hk
    simp only [aexec] at hk
    obtain ⟨out, st', hK, hw⟩ := told_loop (P := P) hlv (fun st K hk => ih st K hk) n _ K hk
    refine ⟨out, st', hK, fun c a hst Q hq => wp_loop_rounds n ?_⟩
    obtain ⟨c2, hww, g1, g2⟩ := prune_ok (b := b) hlv c a hst
    rw [← hww]
    exact hw c2 a g2 Q fun c3 a3 k1 k2 k3 => hq c3 a3 (g1.trans k1) k2 k3
  | exit id =>
    intro st K hk
    exact ⟨.exit id, st, hk, fun c a hst Q hq => wp_exit (hq c a (Since.refl _ _ _ _) hst rfl)⟩
  | ret =>
    intro st K hk
    exact ⟨.ret, st, hk, fun c a hst Q hq => wp_ret (hq c a (Since.refl _ _ _ _) hst rfl)⟩
  | _ => intro st K hk; simp [aexec] at hk
end
end Go.AM
