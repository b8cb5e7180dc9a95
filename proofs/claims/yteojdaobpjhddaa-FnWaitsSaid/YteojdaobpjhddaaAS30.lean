/- An interpreter of the model's code over values that are told, and its soundness. -/
import Derived.Test.YteojdaobpjhddaaAS29
namespace Go.AM

/-! Laws of functions out of their own runs. -/
theorem tupAs_rep {c : Ctx} : ∀ {t : Ty} {vs : List AV} {x : t.C} {us : List Value}, tupAs t vs = some x → VReps c vs us → VReps c (outs t x) us := by
  intro t
  induction t with
  | pair a b _ ihb =>
    intro vs x us h hr
    cases vs with
    | nil => cases h
    | cons v vs =>
      cases us with
      | nil => simp [VReps] at hr
      | cons u us =>
        simp only [VReps] at hr
        replace h : ((v.as a).bind fun x => (tupAs b vs).map fun y => (x, y)) = some x := h
        cases hp : v.as a with
        | none => simp only [hp, Option.bind_none] at h; cases h
        | some p =>
          cases hq : tupAs b vs with
          | none => simp only [hp, hq, Option.bind_some] at h; cases h
          | some q =>
            simp only [hp, hq, Option.bind_some] at h
            cases h
            simp only [outs, VReps]
            exact ⟨as_rep hp hr.1, ihb hq hr.2⟩
  | unit =>
    intro vs x us h hr
    cases vs with
    | nil => simpa [outs] using hr
    | cons _ _ => cases h
  | int k => intro vs x us h hr; cases vs <;> cases h
  | bool => intro vs x us h hr; cases vs <;> cases h
  | str => intro vs x us h hr; cases vs <;> cases h
  | row e _ => intro vs x us h hr; cases vs <;> cases h
  | node => intro vs x us h hr; cases vs <;> cases h

section
variable {ρ : Type} {P : Program} {E : Env} {run : Run}

theorem law_of {lv : Bool} {p : Nat} {f : FuncId} {args : List AV} {r : AV × Heap} {v : AV} (hent : Enters P f)
    (hw : ∀ (c : Ctx) (vs : Array Value), Sim c [] → Fre c [] → VReps c args vs.toList → Calls P f vs c.w fun e w' => ∃ v' c', e = .returned v' ∧ c'.w = w' ∧ Since lv p c [] c' r.2 ∧ Sim c' r.2 ∧ Fre c' r.2 ∧ VRep c' r.1 v')
    (hv : ∀ c v', VRep c (deref r.2 8 r.1) v' → VRep c v v') : LawV P f args v := by
  refine ⟨hent, fun pr w vs hp hr => ?_⟩
  have hs : Sim (still0 pr w) [] := sim_still0 hp
  refine (hw (still0 pr w) vs hs (fun id _ => ⟨rfl, fun h => h⟩) hr).mono ?_
  rintro e w' ⟨v', c', rfl, rfl, hsi, hs', hf', hvr⟩
  have W := hsi.1
  refine ⟨v', c'.still.pr, rfl, hv _ _ (deref_rep hs' 8 _ _ hvr), fun b hb => .inl (W.pr b hb), ?_, ?_, W.size, fun b hb => W.frame b hb Ctx.has0, W.os, W.tape, W.output⟩
  · exact fun b hb => W.still_new hs' hf' hb
  · exact hs'.still_low

theorem law1 (hT : TOk P E) (hC : CallsOk P E run) (hmix : P.follows .mixedOrders = true) {f : FuncId} {fn : Func} (hf : P.funcs[f]? = some fn) (hname : (fn.name == "runtime.NumGoroutine") = false) (hb : fn.body.isNone = false) {k : Nat} {args : List AV} {t : Ty} {x : t.C}
    (hk : abody E run k f fn args [] (fin1 t) = some x) : LawV P f args (tvn t x) := by
  obtain ⟨r, hfin, hw⟩ := told_body (lv := true) hT hC (regOk hT hmix hC) hf (fun h => by cases h) hk
  exact law_of ⟨fn, hf, hname, hb⟩ hw (fun c v' h => as_rep hfin h)

theorem lawN (hT : TOk P E) (hC : CallsOk P E run) (hmix : P.follows .mixedOrders = true) {f : FuncId} {fn : Func} (hf : P.funcs[f]? = some fn) (hname : (fn.name == "runtime.NumGoroutine") = false) (hb : fn.body.isNone = false) {k : Nat} {args : List AV} {t : Ty} {x : t.C}
    (hk : abody E run k f fn args [] (finN t) = some x) : LawV P f args (.tup (outs t x)) := by
  obtain ⟨r, hfin, hw⟩ := told_body (lv := true) hT hC (regOk hT hmix hC) hf (fun h => by cases h) hk
  refine law_of ⟨fn, hf, hname, hb⟩ hw (fun c v' h => ?_)
  unfold finN at hfin
  split at hfin
  · rename_i vs hvs
    rw [hvs] at h
    simp only [VRep] at h ⊢
    obtain ⟨ws, hv, hr⟩ := h
    exact ⟨ws, hv, tupAs_rep hfin hr⟩
  · cases hfin
end
end Go.AM
