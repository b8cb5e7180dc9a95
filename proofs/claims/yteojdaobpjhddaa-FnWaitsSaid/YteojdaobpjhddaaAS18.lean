/- An interpreter of the model's code over values that are told, and its soundness. -/
import Derived.Test.YteojdaobpjhddaaAS17
namespace Go.AM

/-! Soundness: calls; all operations. -/
def Enters (P : Program) (f : FuncId) : Prop := ∃ fn, P.funcs[f]? = some fn ∧ (fn.name == "runtime.NumGoroutine") = false ∧ fn.body.isNone = false

/-- What is told of a call. -/
def CallOk (P : Program) (f : FuncId) (args : List AV) (h : Heap) (v : AV) (h' : Heap) (mod : Bool) : Prop :=
  Enters P f ∧ Sta args h h' mod ∧ ∀ (c : Ctx) (vs : Array Value), Sim c h → Free c h h' → VReps c args vs.toList → Calls P f vs c.w fun e w' =>
    ∃ v' c', e = .returned v' ∧ c'.w = w' ∧ Ext c h c' h' ∧ Sim c' h' ∧ VRep c' v v' ∧ (mod = false → Grow c h c' h')

/-- The same, where nothing else is told of than what the callee is given. -/
def Fre (c : Ctx) (h : Heap) : Prop := ∀ id, h.length ≤ id → c.m id = none ∧ ¬ c.dead id

def CallF (P : Program) (f : FuncId) (args : List AV) (h : Heap) (v : AV) (h' : Heap) : Prop :=
  Enters P f ∧ ∀ (c : Ctx) (vs : Array Value), Sim c h → Fre c h → VReps c args vs.toList → Calls P f vs c.w fun e w' =>
    ∃ v' c', e = .returned v' ∧ c'.w = w' ∧ Ext c h c' h' ∧ Sim c' h' ∧ VRep c' v v'

/-- A contract that is true. -/
def ConOk (P : Program) (g : FuncId) (m : Con) : Prop := ∀ (ρ : Type) args h (K : AV → Heap → Bool → Option ρ) (x : ρ), m ρ args h K = some x → ∃ v h' mod, K v h' mod = some x ∧ CallOk P g args h v h' mod

theorem noCon_ok {P : Program} {g : FuncId} : ConOk P g noCon := fun _ _ _ _ _ h => by cases h

structure CallsOk (P : Program) (E : Env) (run : Run) : Prop where
  con : ∀ g m, E.con g = some m → ConOk P g m
  run : ∀ (ρ : Type) g args h (fin : AV × Heap → Option ρ) (x : ρ), E.con g = none → run ρ g args h fin = some x → ∃ r, fin r = some x ∧ CallF P g args h r.1 r.2

theorem Fre.free {c : Ctx} {h h' : Heap} (f : Fre c h) : Free c h h' := fun id h1 _ => f id h1

/-- What it takes for an operation to be told where nothing else is told of. -/
def OpF (P : Program) (s : List AV) (h : Heap) (o : Oper) (v : AV) (h' : Heap) : Prop :=
  ∀ (c : Ctx) (a : Act), Sim c h → Fre c h → Slots c s a → ∀ (next : Act → World → Prop) (Q : Exit → Act → World → Prop),
    (∀ c' v', Ext c h c' h' → Sim c' h' → VRep c' v v' → next (a.put o.dst v') c'.w) → o.wp P a c.w next Q

def ToldF {ρ : Type} (P : Program) (s : List AV) (h : Heap) (o : Oper) (K : AV → Heap → Bool → Option ρ) (x : ρ) : Prop :=
  ∃ v h' mod, K v h' mod = some x ∧ OpF P s h o v h'

theorem Told.weak {ρ : Type} {P : Program} {s : List AV} {h : Heap} {o : Oper} {K : AV → Heap → Bool → Option ρ} {x : ρ} (t : Told P s h o K x) : ToldF P s h o K x := by
  obtain ⟨v, h', mod, hk, ho⟩ := t
  exact ⟨v, h', mod, hk, fun c a hs hf hsl next Q hn => ho.1 c a hs hf.free hsl next Q fun c' v' h1 h2 h3 _ => hn c' v' h1 h2 h3⟩

theorem run_enter {P : Program} {f : FuncId} (h : Enters P f) (args : Array Value) (w : World) : (callFunc f args).run P w = .ok (.enter f args) w := by
  obtain ⟨fn, h1, h2, h3⟩ := h
  have h1' : fn.name ≠ "runtime.NumGoroutine" := by simpa using h2
  cases hb : fn.body with
  | none => simp [hb] at h3
  | some b => simp [callFunc, h1, h1', hb]

section
variable {ρ : Type} {P : Program} {E : Env} {s : List AV} {h : Heap} {o : Oper} {x : ρ} {run : Run}

theorem call_run {c : Go.Call} {f : Operand} (ho : o.op = .call c) (hcal : c.callee = .value f) {g : FuncId} {caps : List AV} (hf : aeval s f = .fn g caps) (hent : Enters P g) {c0 : Ctx} {ac : Act} (hsl : Slots c0 s ac) :
    ∃ vs : Array Value, (execOp ac.eval o).run P c0.w = .ok (.enter g vs) c0.w ∧ VReps c0 (c.args.toList.map (aeval s) ++ caps) vs.toList := by
  have hr := hsl.eval f; rw [hf] at hr
  simp only [VRep] at hr
  obtain ⟨ws, hw, hcaps⟩ := hr
  refine ⟨c.args.map ac.eval ++ ws, ?_, ?_⟩
  · simp [execOp, ho, resolve, hcal, hw, Deferred.ofValue, invoke, run_enter hent]
  · simp only [Array.toList_append, Array.toList_map]
    exact (VReps.of_map hsl _).append hcaps

theorem tells_up {id : Nat} : ∀ (d : Nat) (v : AV), tells id (d + 1) v = true → tells id d v = true := by
  intro d
  induction d with
  | zero => intro v _; simp [tells]
  | succ d ih =>
    intro v h
    have up : ∀ cs : List AV, cs.any (tells id (d + 1)) = true → cs.any (tells id d) = true := fun cs h => by
      obtain ⟨u, hu, h⟩ := List.any_eq_true.1 h
      exact List.any_eq_true.2 ⟨u, hu, ih u h⟩
    cases v <;> first
      | exact up _ h
      | exact h
theorem touch_call {c : Go.Call} {f : Operand} {g : FuncId} {caps : List AV} (ho : o.op = .call c) (hcal : c.callee = .value f) (hf : aeval s f = .fn g caps) {id : Nat} (h : touch id (opVals s o.op) = false) : touch id (c.args.toList.map (aeval s) ++ caps) = false := by
  have hops : opVals s o.op = aeval s f :: c.args.toList.map (aeval s) := by simp [opVals, ho, Op.operands, Go.Call.operands, hcal]
  rw [hops, hf] at h
  simp only [touch, List.any_cons, Bool.or_eq_false_iff, List.any_append] at h ⊢
  refine ⟨h.2, ?_⟩
  cases hq : caps.any (tells id 4) with
  | false => rfl
  | true =>
    obtain ⟨u, hu, hq⟩ := List.any_eq_true.1 hq
    have : tells id 4 (.fn g caps) = true := by simp only [tells]; exact List.any_eq_true.2 ⟨u, hu, tells_up 3 u hq⟩
    rw [this] at h; exact absurd h.1 (by simp)

theorem told_con (hC : CallsOk P E run) {c : Go.Call} {f : Operand} (ho : o.op = .call c) (hcal : c.callee = .value f) {g : FuncId} {caps : List AV} (hf : aeval s f = .fn g caps) {m : Con} (hm : E.con g = some m)
    {K : AV → Heap → Bool → Option ρ} (hk : m ρ (c.args.toList.map (aeval s) ++ caps) h K = some x) : Told P s h o K x := by
  obtain ⟨v, h', mod, hres, hent, hpre, hcall⟩ := hC.con g m hm _ _ _ _ _ hk
  refine ⟨v, h', mod, hres, fun c0 ac hs hfr hsl next Q hn => ?_, hpre.1, hpre.2.1, fun id hid ht => hpre.2.2 id hid (touch_call ho hcal hf ht)⟩
  obtain ⟨vs, hrun, hreps⟩ := call_run ho hcal hf hent hsl
  unfold Oper.wp
  rw [hrun, Oper.upon_enter]
  refine (hcall c0 vs hs hfr hreps).mono ?_
  rintro e w' ⟨v', c', rfl, rfl, h1, h2, h3, h4⟩
  exact hn c' v' h1 h2 h3 h4

theorem told_callD (hC : CallsOk P E run) {c : Go.Call} {f : Operand} (ho : o.op = .call c) (hcal : c.callee = .value f) {g : FuncId} {caps : List AV} (hf : aeval s f = .fn g caps) {K : AV → Heap → Bool → Option ρ}
    (hk : acall E run true g (c.args.toList.map (aeval s) ++ caps) h K = some x) : Told P s h o K x := by
  unfold acall at hk
  split at hk
  · rename_i m hm
    exact told_con hC ho hcal hf hm hk
  · simp at hk

theorem told_callF (hC : CallsOk P E run) {c : Go.Call} {f : Operand} (ho : o.op = .call c) (hcal : c.callee = .value f) {g : FuncId} {caps : List AV} (hf : aeval s f = .fn g caps) {K : AV → Heap → Bool → Option ρ}
    (hk : acall E run false g (c.args.toList.map (aeval s) ++ caps) h K = some x) : ToldF P s h o K x := by
  unfold acall at hk
  split at hk
  · rename_i m hm
    exact (told_con hC ho hcal hf hm hk).weak
  · rename_i hm
    simp only [cond_false] at hk
    obtain ⟨r, hk, hent, hcall⟩ := hC.run _ g _ _ _ _ hm hk
    refine ⟨_, _, _, hk, fun c0 ac hs hfr hsl next Q hn => ?_⟩
    obtain ⟨vs, hrun, hreps⟩ := call_run ho hcal hf hent hsl
    unfold Oper.wp
    rw [hrun, Oper.upon_enter]
    refine (hcall c0 vs hs hfr hreps).mono ?_
    rintro e w' ⟨v', c', rfl, rfl, h1, h2, h3⟩
    exact hn c' v' h1 h2 h3

theorem told_any (hT : TOk P E) {call : Call ρ} {K : AV → Heap → Bool → Option ρ} (hk : aop E call s h o.op K = some x) {T : Prop} (hT' : Told P s h o K x → T)
    (hcall : ∀ (c : Go.Call) (f : Operand) (g : FuncId) (caps : List AV), o.op = .call c → c.callee = .value f → aeval s f = .fn g caps → call g (c.args.toList.map (aeval s) ++ caps) h K = some x → T) : T := by
  generalize hop : o.op = op at hk
  cases op <;> simp only [aop, reduceCtorEq] at hk
  case move y => exact hT' (told_move (.inl hop) hk)
  case assign y => exact hT' (told_move (.inr hop) hk)
  case pick q a b =>
    split at hk
    · rename_i t ht
      exact hT' (told_pick hop ht hk)
    · cases hk
  case alloc t => exact hT' (told_alloc hT hop hk)
  case box t y => exact hT' (told_box hT hop hk)
  case build t ps => exact hT' (told_build hT hop hk)
  case buildSlice t n ps => exact hT' (told_buildSlice hT hop hk)
  case load t y => exact hT' (told_load hT hop hk)
  case store t y z => exact hT' (told_store hT hop hk)
  case nilCheck y => exact hT' (told_nilCheck hop hk)
  case binOp op t y z u => exact hT' (told_binOp hT hop hk)
  case unOp op t y => exact hT' (told_unOp hop hk)
  case convert src dst y => exact hT' (told_convert hT hop hk)
  case makeFunc f fs caps =>
    cases f <;> simp only [reduceCtorEq] at hk
    exact hT' (told_makeFunc hop hk)
  case makeSlice t l m => exact hT' (told_makeSlice hT hop hk)
  case slice t y lo hi mx => exact hT' (told_slice hT hop hk)
  case fieldAddr t y j => exact hT' (told_fieldAddr hT hop hk)
  case field t y j => exact hT' (told_field hT hop hk)
  case indexAddr t y z => exact hT' (told_indexAddr hT hop hk)
  case index t y z => exact hT' (told_index hT hop hk)
  case extract y j => exact hT' (told_extract hop hk)
  case call c =>
    split at hk
    · rename_i b hb
      exact hT' (told_builtin hT hop hb hk)
    · rename_i f hf
      split at hk
      · rename_i g caps hg
        exact hcall c f g caps hop hf hg hk
      · cases hk
    · cases hk

theorem told_op (hT : TOk P E) (hC : CallsOk P E run) {K : AV → Heap → Bool → Option ρ} (hk : aop E (acall E run true) s h o.op K = some x) : Told P s h o K x :=
  told_any hT hk id fun _ _ _ _ h1 h2 h3 h4 => told_callD hC h1 h2 h3 h4

theorem told_opF (hT : TOk P E) (hC : CallsOk P E run) {K : AV → Heap → Bool → Option ρ} (hk : aop E (acall E run false) s h o.op K = some x) : ToldF P s h o K x :=
  told_any hT hk Told.weak fun _ _ _ _ h1 h2 h3 h4 => told_callF hC h1 h2 h3 h4
end
end Go.AM
