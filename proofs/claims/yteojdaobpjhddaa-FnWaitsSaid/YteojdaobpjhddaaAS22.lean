/- An interpreter of the model's code over values that are told, and its soundness. -/
import Derived.Test.YteojdaobpjhddaaAS21
namespace Go.AM

/-! Soundness: functions. -/
section
variable {ρ : Type} {P : Program} {E : Env} {x : ρ} {run : Run}

theorem load_ok (hT : TOk P E) {t : TypeId} {a : AV} {h : Heap} {K : AV → Option ρ} (hk : aload E t a h K = some x) :
    ∃ v, K v = some x ∧ ∀ (c : Ctx) (va : Value), Sim c h → VRep c a va → ∃ p v', va = .pointer (some p) ∧ (loadVar t p).run P c.w = .ok v' c.w ∧ VRep c v v' := by
  unfold aload at hk
  split at hk
  · cases hk
  · rename_i ti hti
    split at hk
    · rename_i id idx sub
      split at hk
      · rename_i ob hob
        have key : ∀ v, ((dpOk ti ob.c sub = true ∧ v = .dp id idx sub) ∨ ob.c.part ti idx sub = some v) → K v = some x → ∃ v, K v = some x ∧ ∀ (c : Ctx) (va : Value), Sim c h → VRep c (.ptr id idx sub) va → ∃ p v', va = .pointer (some p) ∧ (loadVar t p).run P c.w = .ok v' c.w ∧ VRep c v v' := by
          intro v hv hk
          refine ⟨v, hk, fun c va hs hr => ?_⟩
          simp only [VRep, ptrRep] at hr
          obtain ⟨i, hi, hix, hv'⟩ := hr.2.resolve_left (hs.alive hob)
          obtain ⟨vs, hlies, hpart⟩ := part_at hs hob hi hix hv
          obtain ⟨v', hrun, hrv⟩ := run_loadVar hT hti hlies hpart
          exact ⟨_, v', hv', hrun, hrv⟩
        by_cases hdp : dpOk ti ob.c sub = true
        · rw [hdp, cond_true] at hk
          exact key _ (.inl ⟨hdp, rfl⟩) hk
        · simp only [Bool.not_eq_true] at hdp
          rw [hdp, cond_false] at hk
          split at hk
          · rename_i v hv
            exact key v (.inr hv) hk
          · cases hk
      · cases hk
    · rename_i e z sub
      split at hk
      · rename_i v hv
        refine ⟨v, hk, fun c va hs hr => ?_⟩
        simp only [VRep] at hr
        obtain ⟨b, off, vs, hp, _, _, hlies, hc⟩ := hr
        obtain ⟨v', hrun, hrv⟩ := run_loadVar hT hti hlies (partT_ok hc hv)
        exact ⟨_, v', hp, hrun, hrv⟩
      · cases hk
    · rename_i cs sub
      split at hk
      · rename_i v hv
        refine ⟨v, hk, fun c va hs hr => ?_⟩
        simp only [VRep] at hr
        obtain ⟨b, off, vs, hp, _, hlies, hc⟩ := hr
        obtain ⟨v', hrun, hrv⟩ := run_loadVar hT hti hlies (partC_ok hc hv)
        exact ⟨_, v', hp, hrun, hrv⟩
      · cases hk
    · cases hk

/-- One result. -/
def oneR (E : Env) (st : St) (r : ResultVar) : Option AV :=
  match r with
  | .tmp t => some (st.s.getD t .undef)
  | .cell t ty => aload E ty (st.s.getD t .undef) st.h some

def oneS (tmps : Array Value) (r : ResultVar) : Sem Value := match r with | .tmp t => pure (tmps.getD t Go.undef) | .cell p t => do loadVar t (← asAddr (tmps.getD p Go.undef))

theorem results_eq (fn : Func) (tmps : Array Value) : results fn tmps = (do let vs ← fn.results.mapM (oneS tmps); pure (if h : vs.size = 1 then vs[0] else .tuple vs)) := rfl

theorem oneR_ok (hT : TOk P E) {st : St} {r : ResultVar} {v : AV} (h : oneR E st r = some v) {c : Ctx} {a : Act} (hst : Stt c st a) :
    ∃ v', (oneS a.tmps r).run P c.w = .ok v' c.w ∧ VRep c v v' := by
  cases r with
  | tmp t => simp only [oneR, Option.some.injEq] at h; subst h; exact ⟨a.tmps.getD t Go.undef, by simp [oneS], hst.slots.2 t⟩
  | cell p t =>
    obtain ⟨v1, h1, h2⟩ := load_ok hT h
    simp only [Option.some.injEq] at h1
    subst h1
    obtain ⟨q, v', e1, e2, e3⟩ := h2 c _ hst.sim (hst.slots.2 p)
    exact ⟨v', by simp only [oneS, e1]; simp [asAddr, e2], e3⟩

theorem results_ok (hT : TOk P E) {fn : Func} {st : St} {v : AV} {h' : Heap} (h : aresults E fn st = some (v, h')) : h' = st.h ∧ ∀ c a, Stt c st a → ∃ v', (results fn a.tmps).run P c.w = .ok v' c.w ∧ VRep c v v' := by
  unfold aresults at h
  simp only at h
  split at h
  · rename_i hl
    cases h
    have hl' : fn.results = #[] := by apply Array.ext'; simpa using hl
    exact ⟨rfl, fun c a hst => ⟨.tuple #[], by simp [results, hl'], by simp only [VRep]; exact ⟨#[], rfl, by simp [VReps]⟩⟩⟩
  · rename_i r hl
    have hl' : fn.results = #[r] := by apply Array.ext'; simpa using hl
    obtain ⟨v1, h1, h2⟩ := Option.map_eq_some_iff.1 h
    cases h2
    refine ⟨rfl, fun c a hst => ?_⟩
    obtain ⟨v', hr, hv⟩ := oneR_ok hT h1 hst
    exact ⟨v', by simp [results_eq, hl', hr], hv⟩
  · rename_i r q hl
    have hl' : fn.results = #[r, q] := by apply Array.ext'; simpa using hl
    split at h
    · rename_i v1 v2 h1 h2
      cases h
      refine ⟨rfl, fun c a hst => ?_⟩
      obtain ⟨u1, r1, e1⟩ := oneR_ok hT h1 hst
      obtain ⟨u2, r2, e2⟩ := oneR_ok hT h2 hst
      refine ⟨.tuple #[u1, u2], ?_, by simp only [VRep]; exact ⟨_, rfl, by simp [VReps, e1, e2]⟩⟩
      simp [results_eq, hl', r1, r2]
    · cases h
  · rename_i r q p hl
    have hl' : fn.results = #[r, q, p] := by apply Array.ext'; simpa using hl
    split at h
    · rename_i v1 v2 v3 h1 h2 h3
      cases h
      refine ⟨rfl, fun c a hst => ?_⟩
      obtain ⟨u1, r1, e1⟩ := oneR_ok hT h1 hst
      obtain ⟨u2, r2, e2⟩ := oneR_ok hT h2 hst
      obtain ⟨u3, r3, e3⟩ := oneR_ok hT h3 hst
      refine ⟨.tuple #[u1, u2, u3], ?_, by simp only [VRep]; exact ⟨_, rfl, by simp [VReps, e1, e2, e3]⟩⟩
      simp [results_eq, hl', r1, r2, r3]
    · cases h
  · cases h

theorem begin_slots {c : Ctx} {fn : Func} {args : List AV} {vs : Array Value} (hr : VReps c args vs.toList) (h : Heap) : Slots c (begin fn args h).s { tmps := vs ++ Array.replicate (fn.ntmps - vs.size) Go.undef, defers := [] } := by
  have hl : args.length = vs.size := by rw [hr.length]; simp
  refine ⟨by simp [begin, hl], fun t => ?_⟩
  simp only [begin, List.getD_eq_getElem?_getD, Array.getD_eq_getD_getElem?]
  rcases Nat.lt_or_ge t args.length with ht | ht
  · rw [List.getElem?_append_left ht, Array.getElem?_append_left (by omega)]
    have hx : args[t]? = some args[t] := by simp [ht]
    obtain ⟨v, hv, hrv⟩ := hr.get hx
    rw [Array.getElem?_toList] at hv
    rw [hx, hv]; exact hrv
  · rw [List.getElem?_append_right ht]
    have : ((List.replicate (fn.ntmps - args.length) AV.undef)[t - args.length]?).getD .undef = .undef := by
      rw [List.getElem?_replicate]; split <;> rfl
    rw [this]; simp [VRep]

/-- A function's own run. -/
theorem told_body (hT : TOk P E) (hC : CallsOk P E run) (hR : RegOk P E run) {lv : Bool} {f : FuncId} {fn : Func} (hf : P.funcs[f]? = some fn) (hlv : lv = false → ∀ r, E.live f r = none) {k : Nat} {args : List AV} {h : Heap} {fin : AV × Heap → Option ρ}
    (hk : abody E run k f fn args h fin = some x) :
    ∃ r, fin r = some x ∧ ∀ (c : Ctx) (vs : Array Value), Sim c h → Fre c h → VReps c args vs.toList → Calls P f vs c.w fun e w' =>
      ∃ v' c', e = .returned v' ∧ c'.w = w' ∧ Since lv (pinsOf E f) c h c' r.2 ∧ Sim c' r.2 ∧ Fre c' r.2 ∧ VRep c' r.1 v' := by
  unfold abody at hk
  split at hk
  · rename_i code hb
    obtain ⟨out, st', hK, hw⟩ := told_exec hT hC hR hlv k code _ _ hk
    have main : ∀ (r : AV × Heap), aresults E fn st' = some r → fin r = some x → (out.ex = .normal ∨ out.ex = .ret) → ∃ r, fin r = some x ∧ ∀ (c : Ctx) (vs : Array Value), Sim c h → Fre c h → VReps c args vs.toList → Calls P f vs c.w fun e w' =>
      ∃ v' c', e = .returned v' ∧ c'.w = w' ∧ Since lv (pinsOf E f) c h c' r.2 ∧ Sim c' r.2 ∧ Fre c' r.2 ∧ VRep c' r.1 v' := by
      intro r hr hfin hex
      obtain ⟨rv, rh⟩ := r
      obtain ⟨hh, hres⟩ := results_ok hT hr
      subst hh
      refine ⟨_, hfin, fun c vs hs hfr hreps => ?_⟩
      refine calls_of_wp hf hb ?_
      refine hw c _ ⟨hs, hfr, begin_slots hreps h⟩ _ fun c' a' h1 h2 h3 => ?_
      obtain ⟨v', hrun, hrv⟩ := hres c' a' h2
      have hpost : a'.defers = [] ∧ ∃ v, (results fn a'.tmps).run P c'.w = .ok v c'.w ∧ ∃ v' c'', Ending.returned v = .returned v' ∧ c''.w = c'.w ∧ Since lv (pinsOf E f) c h c'' st'.h ∧ Sim c'' st'.h ∧ Fre c'' st'.h ∧ VRep c'' rv v' :=
        ⟨h3, v', hrun, v', c', rfl, rfl, h1, h2.sim, h2.fre, hrv⟩
      rcases hex with hex | hex <;> rw [hex] <;> exact hpost
    unfold leave at hK
    split at hK
    · obtain ⟨r, hr, hfin⟩ := Option.bind_eq_some_iff.1 hK
      exact main r hr hfin (.inl rfl)
    · obtain ⟨r, hr, hfin⟩ := Option.bind_eq_some_iff.1 hK
      exact main r hr hfin (.inr rfl)
    · cases hK
  · cases hk

/-- Functions without a contract run in place. -/
theorem told_run (hT : TOk P E) (hcon : ∀ g m, E.con g = some m → ConOk P g m) (hR : ∀ run, CallsOk P E run → RegOk P E run)
    (hlive : ∀ g, E.con g = none → ∀ r, E.live g r = none) (hent : ∀ (g : FuncId) (fn : Func), P.funcs[g]? = some fn → (fn.name == "runtime.NumGoroutine") = false) : ∀ k, CallsOk P E (arun P E k)
  | 0 => ⟨hcon, fun ρ g args h fin x _ hr => by simp [arun] at hr⟩
  | k + 1 => by
    have ih := told_run hT hcon hR hlive hent k
    refine ⟨hcon, fun ρ g args h fin x hg hr => ?_⟩
    simp only [arun] at hr
    split at hr
    · rename_i fn hf
      obtain ⟨r', hfin, hw⟩ := told_body (lv := false) hT ih (hR _ ih) hf (fun _ => hlive g hg) hr
      refine ⟨r', hfin, ⟨fn, hf, hent g fn hf, ?_⟩, fun c vs hs hfr hreps => (hw c vs hs hfr hreps).mono ?_⟩
      · unfold abody at hr
        split at hr
        · rename_i code hb; simp [hb]
        · cases hr
      · rintro e w' ⟨v', c', h1, h2, h3, h4, h5, h6⟩
        exact ⟨v', c', h1, h2, h3.2.1 rfl, h4, h6⟩
    · cases hr
end
end Go.AM
