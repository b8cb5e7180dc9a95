/- An interpreter of the model's code over values that are told, and its soundness. -/
import Derived.Test.YtajlenpookikoaaAAM
import Derived.Laws.StructEq
import Derived.Laws.Rows
import Derived.Laws.NewBlocks
namespace Go.AM

/-! Soundness: operations. -/

/-- Zero values: the same at any world. -/
def zOk : AV → Value → Bool
  | .int k n, .int k' n' => k = k' && n == n'
  | .bool b, .bool b' => b == b'
  | .str s, .string s' => s.toList == s'.toList
  | .nilp, .pointer none => true
  | .nils, .slice none 0 0 => true
  | .undef, _ => true
  | _, _ => false
def zsOk : List AV → List Value → Bool
  | [], [] => true
  | a :: as, v :: vs => zOk a v && zsOk as vs
  | _, _ => false

/-- The zero of a code, cell by cell. -/
def czOk : (t : Ty) → List AV → Bool
  | .int k, [.int k' n] => k = k' && n == 0
  | .bool, [.bool b] => !b
  | .str, [.str s] => s.toList == []
  | .row _, [.nils] => true
  | .unit, [] => true
  | .pair a b, cs => czOk a (cs.take a.size) && czOk b (cs.drop a.size)
  | .node, [.int .i64 o, .str s, .int .i64 n, .nils] => o == 0 && s.toList == [] && n == 0
  | _, _ => false

def kindOk (P : Program) (t : TypeId) : TK → Bool
  | .int k => match P.underlying t with | some (.int k') => k = k' | _ => false
  | .bool => match P.underlying t with | some .bool => true | _ => false
  | .str => match P.underlying t with | some .string => true | _ => false
  | .slice e => match P.underlying t with | some (.slice e') => e == e' | _ => false
  | .ptr e => match P.underlying t with | some (.pointer e') => e == e' && P.cellsOf e != 0 | _ => false
  | .func => match P.underlying t with | some (.func ..) => true | _ => false
  | .struct fs => match P.underlying t with
    | some (.struct gs) => (gs.toList.map fun g => (g.offset, g.type)) == fs && gs.toList.all (fun g => g.name != "_" && P.cellsOf g.type != 0) && !P.stoodInHeld t && !P.eqGuardType P.depth t
    | _ => false

def isAggV : Value → Bool
  | .agg _ => true
  | _ => false

/-- Is a type as the table tells it? -/
def tyOk (P : Program) (t : TypeId) (ti : TI) : Bool :=
  (match P.info? t with
   | some i => i.size == ti.size && i.bytes == ti.bytes && (match i.zero with | some z => zsOk ti.zero.cells z.cells.toList && (ti.zero.isAgg == isAggV z && z.cells.toList.all Value.oneCell') | none => false)
   | none => false) &&
  kindOk P t ti.kind && (ti.zero.isAgg == ti.agg) && (ti.zero.cells.length == ti.size) && Nat.blt 0 ti.size &&
  (match ti.zero with | .agg _ => true | .tv _ _ => false | _ => true) &&
  (match ti.code with | some c => c.size == ti.size && c.isAgg == ti.agg && czOk c ti.zero.cells | none => true)

def TOk (P : Program) (E : Env) : Prop := ∀ t ti, E.ty t = some ti → tyOk P t ti = true

/-- Slots tell of a frame. -/
def Slots (c : Ctx) (s : List AV) (a : Act) : Prop := s.length = a.tmps.size ∧ ∀ t, VRep c (s.getD t .undef) (a.tmps.getD t undef)

theorem ofVal_rep (c : Ctx) (v : Value) : VRep c (ofVal v) v := by
  cases v with
  | pointer a => cases a <;> simp [ofVal, VRep]
  | slice a n m =>
    cases a with
    | none =>
      cases n with
      | zero => cases m with
        | zero => simp [ofVal, VRep]
        | succ m => simp [ofVal, VRep]
      | succ n => simp [ofVal, VRep]
    | some _ => simp [ofVal, VRep]
  | _ => simp [ofVal, VRep]

theorem Slots.eval {c : Ctx} {s : List AV} {a : Act} (h : Slots c s a) (x : Operand) : VRep c (aeval s x) (a.eval x) := by
  cases x with
  | tmp t => exact h.2 t
  | const v => exact ofVal_rep c v
  | func f => simp only [aeval, Act.eval, VRep]; exact ⟨#[], rfl, by simp [VReps]⟩
  | global g => simp [aeval, VRep]

theorem Slots.mono {c c' : Ctx} (t : Tells c c') {s : List AV} {a : Act} (h : Slots c s a) : Slots c' s a := ⟨h.1, fun i => VRep.mono t (h.2 i)⟩

theorem Slots.put {c : Ctx} {s : List AV} {a : Act} (h : Slots c s a) (d : Option Tmp) {v : AV} {v' : Value} (hv : VRep c v v') : Slots c (putSlot s d v) (a.put d v') := by
  cases d with
  | none => exact h
  | some d =>
    refine ⟨by simp [putSlot, Act.put, h.1], fun t => ?_⟩
    simp only [putSlot, Act.put]
    by_cases ht : t = d
    · subst ht
      by_cases hl : t < s.length
      · have hl' : t < a.tmps.size := by rw [← h.1]; exact hl
        simp [List.getD, Array.getD, hl, hl', hv]
      · simp [List.getD, hl, VRep]
    · have := h.2 t
      simp only [List.getD, Array.getD_eq_getD_getElem?] at this ⊢
      rw [List.getElem?_set_ne (fun e => ht e.symm), Array.getElem?_setIfInBounds_ne (fun e => ht e.symm)]
      exact this

theorem Tells.refl (c : Ctx) : Tells c c := ⟨fun _ _ h => h, fun _ h => h, ⟨fun _ h => h, fun _ _ => rfl⟩, fun _ _ h => h⟩
theorem Was.refl (c : Ctx) (h : Heap) : Was c h c h :=
  ⟨fun _ h => h, Nat.le_refl _, fun _ _ => rfl, fun _ _ h => h, fun _ _ _ => rfl, fun _ h => .inr h, fun _ h => .inl h, rfl, rfl, rfl⟩
theorem Ext.refl (c : Ctx) (h : Heap) : Ext c h c h :=
  ⟨Was.refl c h, Nat.le_refl _, fun _ _ h => h, fun _ _ h h' => absurd (h'.symm.trans h) (by simp), fun _ h => h, fun _ h => .inl h⟩
theorem Was.trans {c c1 c2 : Ctx} {h h1 h2 : Heap} (x : Was c h c1 h1) (y : Was c1 h1 c2 h2) : Was c h c2 h2 where
  pr b hb := y.pr b (x.pr b hb)
  size := Nat.le_trans x.size y.size
  keep b hb := (y.keep b (x.pr b hb)).trans (x.keep b hb)
  blk b n hb := y.blk b n (x.blk b n hb)
  frame b hb hn := (y.frame b (Nat.lt_of_lt_of_le hb x.size) fun hh => (x.own b hh).elim (fun h => by omega) hn).trans (x.frame b hb hn)
  own b hh := (y.own b hh).elim (fun h => .inl (Nat.le_trans x.size h)) (x.own b)
  pnew b hb := by
    rcases y.pnew b hb with h | h
    · exact x.pnew b h
    · exact .inr (Nat.le_trans x.size h)
  os := y.os.trans x.os
  tape := y.tape.trans x.tape
  output := y.output.trans x.output
theorem Ext.trans {c c1 c2 : Ctx} {h h1 h2 : Heap} (x : Ext c h c1 h1) (y : Ext c1 h1 c2 h2) : Ext c h c2 h2 where
  toWas := x.toWas.trans y.toWas
  len := Nat.le_trans x.len y.len
  m id i hi := y.m id i (x.m id i hi)
  fresh id i hi hn := by
    have hl := x.len
    have hl' := y.len
    cases h1 : c1.m id with
    | none => have := y.fresh id i hi h1; omega
    | some j => have := x.fresh id j h1 hn; omega
  dead id hd := y.dead id (x.dead id hd)
  dead' id hd := by
    have hl' := y.len
    rcases y.dead' id hd with h | h
    · rcases x.dead' id h with h | h
      · exact .inl h
      · exact .inr (by omega)
    · exact .inr h
theorem Grow.refl (c : Ctx) (h : Heap) : Grow c h c h := ⟨fun _ _ => rfl, fun _ _ => rfl, rfl, fun _ _ => rfl⟩

/-- A heap that another goes on. -/
def Pre (h h' : Heap) : Prop := h.length ≤ h'.length ∧ ∀ id, id < h.length → hget h' id = hget h id
theorem Pre.refl (h : Heap) : Pre h h := ⟨Nat.le_refl _, fun _ _ => rfl⟩
theorem Pre.trans {h h1 h2 : Heap} (x : Pre h h1) (y : Pre h1 h2) : Pre h h2 := ⟨Nat.le_trans x.1 y.1, fun id hid => (y.2 id (Nat.lt_of_lt_of_le hid x.1)).trans (x.2 id hid)⟩
theorem Pre.snoc (h h' : Heap) : Pre h (h ++ h') := ⟨by simp, fun id hid => by simp [hget, List.getD, List.getElem?_append_left hid]⟩

/-- What is known of heaps before anything runs. -/
def Sta (vs : List AV) (h h' : Heap) (mod : Bool) : Prop := h.length ≤ h'.length ∧ (mod = false → Pre h h') ∧ ∀ id, id < h.length → touch id vs = false → hget h' id = hget h id
theorem Pre.sta {vs : List AV} {h h' : Heap} (p : Pre h h') (mod : Bool) : Sta vs h h' mod := ⟨p.1, fun _ => p, fun id hid _ => p.2 id hid⟩
theorem touch_of {id : Nat} {vs : List AV} (h : touch id vs = false) {v : AV} (hv : v ∈ vs) : tells id 4 v = false := by
  cases ht : tells id 4 v with
  | false => rfl
  | true => rw [touch, List.any_eq_true.2 ⟨v, hv, ht⟩] at h; cases h
theorem touch_sl {id j : Nat} {vs : List AV} (h : touch id vs = false) (hv : AV.sl j ∈ vs) : id ≠ j := fun e => by have := touch_of h hv; subst e; simp [tells] at this
theorem touch_ss {id j a b : Nat} {vs : List AV} (h : touch id vs = false) (hv : AV.ss j a b ∈ vs) : id ≠ j := fun e => by have := touch_of h hv; subst e; simp [tells] at this
theorem touch_ptr {id j a b : Nat} {vs : List AV} (h : touch id vs = false) (hv : AV.ptr j a b ∈ vs) : id ≠ j := fun e => by have := touch_of h hv; subst e; simp [tells] at this
theorem touch_dp {id j a b : Nat} {vs : List AV} (h : touch id vs = false) (hv : AV.dp j a b ∈ vs) : id ≠ j := fun e => by have := touch_of h hv; subst e; simp [tells] at this
theorem hget_set_ne {h : Heap} {id j : Nat} {o : Option Obj} (hn : id ≠ j) : hget (h.set j o) id = hget h id := by
  simp only [hget, List.getD_eq_getElem?_getD]
  rw [List.getElem?_set_ne (fun e => hn e.symm)]
theorem hget_app {h h2 : Heap} {id : Nat} (hid : id < h.length) : hget (h ++ h2) id = hget h id := by
  simp only [hget, List.getD_eq_getElem?_getD]
  rw [List.getElem?_append_left hid]
theorem mem_vals {s : List AV} {h : Heap} {op : Op} {v : AV} (hv : v ∈ op.operands.toList.map (aeval s)) : v ∈ opVals s h op := by
  unfold opVals
  cases (op.operands.toList.map (aeval s)).any (fun v => v.cells.any (isRaw h)) with
  | true => exact List.mem_cons_of_mem _ hv
  | false => exact hv
theorem all_vals {s : List AV} {h : Heap} {op : Op} {v c : AV} (hv : v ∈ op.operands.toList.map (aeval s)) (hc : c ∈ v.cells) (hr : isRaw h c = true) (id : Nat) : touch id (opVals s h op) = true := by
  unfold opVals
  have : (op.operands.toList.map (aeval s)).any (fun v => v.cells.any (isRaw h)) = true := List.any_eq_true.2 ⟨v, hv, List.any_eq_true.2 ⟨c, hc, hr⟩⟩
  rw [this, cond_true]
  simp only [touch, List.any_cons, Bool.or_eq_true]
  exact .inl rfl
/-- One row put anew; and rows behind all. -/
theorem sta_set {vs : List AV} {h : Heap} {j : Nat} {o : Option Obj} (hv : ∀ id, touch id vs = false → id ≠ j) : Sta vs h (h.set j o) true :=
  ⟨by simp, fun e => (by cases e), fun id _ ht => hget_set_ne (hv id ht)⟩
theorem sta_setApp {vs : List AV} {h h2 : Heap} {j : Nat} {o : Option Obj} (hv : ∀ id, touch id vs = false → id ≠ j) : Sta vs h (h.set j o ++ h2) true :=
  ⟨by simp, fun e => (by cases e), fun id hid ht => by rw [hget_app (by simpa using hid)]; exact hget_set_ne (hv id ht)⟩

/-- What it takes for an operation to be told: from any state that is told, whatever follows. -/
def OpW (P : Program) (s : List AV) (h : Heap) (o : Oper) (v : AV) (h' : Heap) (mod : Bool) : Prop :=
  ∀ (c : Ctx) (a : Act), Sim c h → Free c h h' → Slots c s a → ∀ (next : Act → World → Prop) (Q : Exit → Act → World → Prop),
    (∀ c' v', Ext c h c' h' → Sim c' h' → VRep c' v v' → (mod = false → Grow c h c' h') → next (a.put o.dst v') c'.w) → o.wp P a c.w next Q
def OpOk (P : Program) (s : List AV) (h : Heap) (o : Oper) (v : AV) (h' : Heap) (mod : Bool) : Prop := OpW P s h o v h' mod ∧ Sta (opVals s h o.op) h h' mod

theorem OpOk.value {P : Program} {s : List AV} {h : Heap} {o : Oper} {v : AV}
    (hv : ∀ c a, Sim c h → Slots c s a → ∃ v', (execOp a.eval o).run P c.w = .ok (.value v') c.w ∧ VRep c v v') : OpOk P s h o v h false := by
  refine ⟨?_, (Pre.refl h).sta _⟩
  intro c a hs _ hsl next Q hn
  obtain ⟨v', hr, hv'⟩ := hv c a hs hsl
  unfold Oper.wp
  rw [hr]
  exact hn c v' (Ext.refl c h) hs hv' (fun _ => Grow.refl c h)

/-- A step of the interpreter, told. -/
def Told {ρ : Type} (P : Program) (s : List AV) (h : Heap) (o : Oper) (K : AV → Heap → Bool → Option ρ) (x : ρ) : Prop :=
  ∃ v h' mod, K v h' mod = some x ∧ OpOk P s h o v h' mod

theorem wrapInt {k k' : IntKind} {n n' : Int} (h : Value.int k n = .int k' n') : k = k' ∧ n = n' := by cases h; exact ⟨rfl, rfl⟩

theorem VRep.int {c : Ctx} {k : IntKind} {n : Int} {v : Value} (h : VRep c (.int k n) v) : v = .int k n := by simpa [VRep] using h
theorem VRep.bool {c : Ctx} {b : Bool} {v : Value} (h : VRep c (.bool b) v) : v = .bool b := by simpa [VRep] using h
theorem VRep.str {c : Ctx} {s : ByteArray} {v : Value} (h : VRep c (.str s) v) : v = .string s := by simpa [VRep] using h

section
variable {ρ : Type} {P : Program} {E : Env} {s : List AV} {h : Heap} {o : Oper} {x : ρ}

theorem told_move {y : Operand} (ho : o.op = .move y ∨ o.op = .assign y) {K : AV → Heap → Bool → Option ρ} (hk : K (aeval s y) h false = some x) : Told P s h o K x := by
  refine ⟨_, _, _, hk, .value fun c a _ hsl => ⟨a.eval y, ?_, hsl.eval y⟩⟩
  rcases ho with ho | ho <;> simp [execOp, ho]

theorem told_pick {q a b : Operand} (ho : o.op = .pick q a b) {t : Bool} (ht : aeval s q = .bool t) {K : AV → Heap → Bool → Option ρ}
    (hk : (bif t then K (aeval s a) h false else K (aeval s b) h false) = some x) : Told P s h o K x := by
  cases t with
  | true =>
    refine ⟨_, _, _, hk, .value fun c ac _ hsl => ⟨ac.eval a, ?_, hsl.eval a⟩⟩
    have := hsl.eval q; rw [ht] at this
    simp [execOp, ho, this.bool, asBool]
  | false =>
    refine ⟨_, _, _, hk, .value fun c ac _ hsl => ⟨ac.eval b, ?_, hsl.eval b⟩⟩
    have := hsl.eval q; rw [ht] at this
    simp [execOp, ho, this.bool, asBool]

/-- What is told of a value that needs no memory. -/
theorem told_pure {v : AV} {K : AV → Heap → Bool → Option ρ} (hk : K v h false = some x)
    (hv : ∀ c a, Sim c h → Slots c s a → ∃ v', (execOp a.eval o).run P c.w = .ok (.value v') c.w ∧ VRep c v v') : Told P s h o K x :=
  ⟨v, h, false, hk, .value hv⟩

/-- A word as a value. -/
def AV.word : AV → Value
  | .int k n => .int k n
  | .bool b => .bool b
  | .str s => .string s
  | _ => Go.undef

theorem abinInt_ok {op : BinOp} {k : IntKind} {a b : Int} {K : AV → Option ρ} (hk : abinInt op k a b K = some x) :
    ∃ v, K v = some x ∧ (∀ c, VRep c v v.word) ∧ ∀ (t : TypeId) (w : World), (binOp op t (.int k a) (.int k b)).run P w = .ok v.word w := by
  cases op <;> simp only [abinInt] at hk <;> try (cases hk; done)
  case quo =>
    by_cases hb : b = 0
    · simp [hb] at hk
    · have : (b == 0) = false := by simpa using hb
      simp only [this, cond_false] at hk
      exact ⟨_, hk, fun c => by simp [VRep, AV.word], fun t w => by simp [binOp, Op.intDiv, hb, AV.word]⟩
  case rem =>
    by_cases hb : b = 0
    · simp [hb] at hk
    · have : (b == 0) = false := by simpa using hb
      simp only [this, cond_false] at hk
      exact ⟨_, hk, fun c => by simp [VRep, AV.word], fun t w => by simp [binOp, Op.intDiv, hb, AV.word]⟩
  all_goals exact ⟨_, hk, fun c => by simp [VRep, AV.word], fun t w => by simp [binOp, Op.intArith, Op.intBits, Op.intCmp, AV.word]⟩

theorem ashift_ok {op : BinOp} {k k' : IntKind} {a b : Int} {K : AV → Option ρ} (hop : op = .shl ∨ op = .shr) (hk : ashift op k a b K = some x) :
    ∃ v, K v = some x ∧ (∀ c, VRep c v v.word) ∧ ∀ (t : TypeId) (w : World), (binOp op t (.int k a) (.int k' b)).run P w = .ok v.word w := by
  unfold ashift at hk
  by_cases hb : b < 0
  · simp [hb] at hk
  · simp only [hb, decide_false, cond_false] at hk
    rcases hop with rfl | rfl <;> exact ⟨_, hk, fun c => by simp [VRep, AV.word], fun t w => by simp [binOp, Op.shift, hb, AV.word]⟩

theorem abinStr_ok {op : BinOp} {a b : ByteArray} {K : AV → Option ρ} (hk : abinStr op a b K = some x) :
    ∃ v, K v = some x ∧ (∀ c, VRep c v v.word) ∧ ∀ (t : TypeId) (w : World), (binOp op t (.string a) (.string b)).run P w = .ok v.word w := by
  cases op <;> simp only [abinStr] at hk <;> try (cases hk; done)
  case add =>
    by_cases hb : a.size + b.size ≤ 9223372036854775807
    · simp only [hb, decide_true, cond_true] at hk
      refine ⟨_, hk, fun c => by simp [VRep, AV.word], fun t w => ?_⟩
      have : ¬ (((a.size + b.size : Nat) : Int) > IntKind.i64.max) := by
        have : IntKind.i64.max = 9223372036854775807 := rfl
        omega
      simp only [binOp, Op.stringOp, this, if_false, Sem.run_pure, AV.word]
    · simp [hb] at hk
  all_goals exact ⟨_, hk, fun c => by simp [VRep, AV.word], fun t w => by simp [binOp, Op.stringOp, AV.word]⟩

/-! Structs: cell by cell. -/
theorem CellsRep.vreps {c : Ctx} : ∀ {t : Ty} {x : t.C} {vs : List Value}, CellsRep c.pr c.w t x vs → VReps c (cellsT t x) vs := by
  intro t
  induction t with
  | int k => intro x vs h; simp only [CellsRep] at h; subst h; simp [cellsT, VReps, VRep]
  | bool => intro x vs h; simp only [CellsRep] at h; subst h; simp [cellsT, VReps, VRep]
  | str => intro x vs h; simp only [CellsRep] at h; subst h; simp [cellsT, VReps, VRep]
  | row e ih =>
    intro x vs h
    obtain ⟨v, rfl, hr⟩ := h
    simp only [cellsT, VReps, VRep, TRep, Ty.isAgg, Bool.false_eq_true, if_false, CellsRep, and_true]
    exact ⟨v, rfl, hr⟩
  | unit => intro x vs h; simp only [CellsRep] at h; subst h; simp [cellsT, VReps]
  | pair a b iha ihb =>
    rintro x vs ⟨l, r, rfl, hl, hr⟩
    have h1 := iha hl
    have h2 := ihb hr
    simp only [cellsT]
    clear iha ihb hl hr
    generalize cellsT a x.1 = as at h1
    induction l generalizing as with
    | nil => cases as with
      | nil => simpa using h2
      | cons _ _ => simp [VReps] at h1
    | cons v l ih => cases as with
      | nil => simp [VReps] at h1
      | cons a' as => simp only [VReps, List.cons_append] at h1 ⊢; exact ⟨h1.1, ih _ h1.2⟩
  | node =>
    intro x vs h
    simp only [CellsRep] at h
    cases h with
    | mk o s n kids a cap b off vsf h1 h2 h3 h4 h5 =>
      simp only [cellsT, VReps, VRep, Node.op, Node.s, Node.n, Node.kids, and_true, true_and]
      simp only [TRep, Ty.isAgg, Bool.false_eq_true, if_false, CellsRep]
      refine ⟨_, rfl, a, cap, rfl, h1, h2, fun hne => ⟨b, off, (h3 hne).1, (h3 hne).2, fun i x hi => ⟨vsf i, (h4 i x hi).1, (h4 i x hi).2, h5 i x hi⟩⟩⟩

theorem VReps.length {c : Ctx} : ∀ {as : List AV} {vs : List Value}, VReps c as vs → as.length = vs.length
  | [], [], _ => rfl
  | _ :: as, _ :: vs, h => by simp only [VReps] at h; simp [VReps.length h.2]
  | [], _ :: _, h => by simp [VReps] at h
  | _ :: _, [], h => by simp [VReps] at h

theorem VReps.get {c : Ctx} : ∀ {as : List AV} {vs : List Value}, VReps c as vs → ∀ {i : Nat} {a : AV}, as[i]? = some a → ∃ v, vs[i]? = some v ∧ VRep c a v
  | [], [], _, i, a, hi => by simp at hi
  | a :: as, v :: vs, h, i, b, hi => by
    simp only [VReps] at h
    cases i with
    | zero => simp at hi; subst hi; exact ⟨v, by simp, h.1⟩
    | succ i => simp at hi; obtain ⟨v', hv, hr⟩ := VReps.get h.2 hi; exact ⟨v', by simpa using hv, hr⟩
  | [], _ :: _, h, _, _, _ => by simp [VReps] at h
  | _ :: _, [], h, _, _, _ => by simp [VReps] at h

theorem VReps.append {c : Ctx} : ∀ {as : List AV} {vs : List Value} {bs : List AV} {us : List Value}, VReps c as vs → VReps c bs us → VReps c (as ++ bs) (vs ++ us)
  | [], [], _, _, _, h => by simpa using h
  | a :: as, v :: vs, bs, us, h, h' => by simp only [VReps, List.cons_append] at h ⊢; exact ⟨h.1, VReps.append h.2 h'⟩
  | [], _ :: _, _, _, h, _ => by simp [VReps] at h
  | _ :: _, [], _, _, h, _ => by simp [VReps] at h

theorem VReps.take {c : Ctx} : ∀ {as : List AV} {vs : List Value} (n : Nat), VReps c as vs → VReps c (as.take n) (vs.take n)
  | [], [], _, _ => by simp [VReps]
  | a :: as, v :: vs, n, h => by
    cases n with
    | zero => simp [VReps]
    | succ n => simp only [VReps, List.take_succ_cons] at h ⊢; exact ⟨h.1, VReps.take n h.2⟩
  | [], _ :: _, _, h => by simp [VReps] at h
  | _ :: _, [], _, h => by simp [VReps] at h

theorem VReps.drop {c : Ctx} : ∀ {as : List AV} {vs : List Value} (n : Nat), VReps c as vs → VReps c (as.drop n) (vs.drop n)
  | [], [], _, _ => by simp [VReps]
  | a :: as, v :: vs, n, h => by
    cases n with
    | zero => simpa using h
    | succ n => simp only [VReps, List.drop_succ_cons] at h ⊢; exact VReps.drop n h.2
  | [], _ :: _, _, h => by simp [VReps] at h
  | _ :: _, [], _, h => by simp [VReps] at h

theorem VRep.agg {c : Ctx} {a : AV} {v : Value} (h : VRep c a v) (ha : a.isAgg = true) : ∃ vs : Array Value, v = .agg vs ∧ VReps c a.cells vs.toList := by
  cases a <;> simp [AV.isAgg] at ha
  case agg cs => simpa [VRep, AV.cells] using h
  case tv t x =>
    simp only [VRep, TRep, ha, if_true] at h
    obtain ⟨vs, hv, hc⟩ := h
    exact ⟨vs, hv, by simpa [AV.cells, ha] using hc.vreps⟩

/-- What is no struct has one cell: itself. -/
theorem AV.cells_one {a : AV} (ha : a.isAgg = false) : a.cells = [a] := by
  cases a <;> simp [AV.isAgg, AV.cells] at *
  simp [ha]

end
end Go.AM
namespace Go.AM

/-! What the table of types tells. -/
section
variable {P : Program} {E : Env} {t : TypeId} {ti : TI}

structure TyIs (P : Program) (t : TypeId) (ti : TI) : Prop where
  info : ∃ i z, P.info? t = some i ∧ i.size = ti.size ∧ i.bytes = ti.bytes ∧ i.zero = some z ∧ zsOk ti.zero.cells z.cells.toList = true ∧ ti.zero.isAgg = isAggV z ∧ ∀ v ∈ z.cells.toList, v.oneCell' = true
  kind : kindOk P t ti.kind = true
  zagg : ti.zero.isAgg = ti.agg
  zlen : ti.zero.cells.length = ti.size
  pos : 0 < ti.size
  code : ∀ e, ti.code = some e → e.size = ti.size ∧ e.isAgg = ti.agg ∧ czOk e ti.zero.cells = true

theorem TOk.is (hT : TOk P E) (h : E.ty t = some ti) : TyIs P t ti := by
  have := hT t ti h
  unfold tyOk at this
  simp only [Bool.and_eq_true] at this
  obtain ⟨⟨⟨⟨⟨⟨h1, h2⟩, h3⟩, h4⟩, h5⟩, h6⟩, h7⟩ := this
  refine ⟨?_, h2, by simpa using h3, by simpa using h4, by simpa [Nat.blt_eq] using h5, ?_⟩
  · cases hi : P.info? t with
    | none => simp [hi] at h1
    | some i =>
      simp only [hi, Bool.and_eq_true] at h1
      cases hz : i.zero with
      | none => simp [hz] at h1
      | some z =>
        simp only [hz, Bool.and_eq_true] at h1
        exact ⟨i, z, rfl, by simpa using h1.1.1, by simpa using h1.1.2, hz, h1.2.1, by simpa using h1.2.2.1, fun v hv => List.all_eq_true.1 h1.2.2.2 v hv⟩
  · intro e he
    simp only [he, Bool.and_eq_true] at h7
    exact ⟨by simpa using h7.1.1, by simpa using h7.1.2, h7.2⟩

theorem TyIs.size (h : TyIs P t ti) (w : World) : (sizeOf t).run P w = .ok ti.size w := by
  obtain ⟨i, z, hi, hs, _⟩ := h.info
  simp [sizeOf, typeInfo, hi, hs]

theorem TyIs.tinfo (h : TyIs P t ti) : ∃ i, P.info? t = some i ∧ i.size = ti.size ∧ i.bytes = ti.bytes := by
  obtain ⟨i, z, hi, hs, hb, _⟩ := h.info
  exact ⟨i, hi, hs, hb⟩

theorem TyIs.isAgg (h : TyIs P t ti) (w : World) : (Go.isAgg t).run P w = .ok ti.agg w := by
  have hk := h.kind
  unfold kindOk at hk
  unfold Go.isAgg TI.agg
  cases hd : ti.kind <;> simp only [hd] at hk ⊢ <;> (cases hu : P.underlying t with
    | none => simp [hu] at hk
    | some d => cases d <;> simp [hu] at hk <;> simp [run_underlying hu])

theorem kindOf_some {k : TK} (h : kindOf E t = some k) : ∃ ti, E.ty t = some ti ∧ ti.kind = k := by
  unfold kindOf at h
  cases hi : E.ty t with
  | none => simp [hi] at h
  | some ti => simp [hi] at h; exact ⟨ti, rfl, h⟩

theorem TOk.slice (hT : TOk P E) {e : TypeId} (h : kindOf E t = some (.slice e)) : P.underlying t = some (.slice e) := by
  obtain ⟨ti, hi, hk⟩ := kindOf_some h
  have := (hT.is hi).kind
  simp only [hk, kindOk] at this
  cases hu : P.underlying t with
  | none => simp [hu] at this
  | some d => cases d <;> simp [hu] at this; subst this; rfl

theorem TOk.str (hT : TOk P E) (h : kindOf E t = some .str) : P.underlying t = some .string := by
  obtain ⟨ti, hi, hk⟩ := kindOf_some h
  have := (hT.is hi).kind
  simp only [hk, kindOk] at this
  cases hu : P.underlying t with
  | none => simp [hu] at this
  | some d => cases d <;> simp [hu] at this; rfl

theorem TOk.bool (hT : TOk P E) (h : kindOf E t = some .bool) : P.underlying t = some .bool := by
  obtain ⟨ti, hi, hk⟩ := kindOf_some h
  have := (hT.is hi).kind
  simp only [hk, kindOk] at this
  cases hu : P.underlying t with
  | none => simp [hu] at this
  | some d => cases d <;> simp [hu] at this; rfl

theorem TOk.int (hT : TOk P E) {k : IntKind} (h : kindOf E t = some (.int k)) : P.underlying t = some (.int k) := by
  obtain ⟨ti, hi, hk⟩ := kindOf_some h
  have := (hT.is hi).kind
  simp only [hk, kindOk] at this
  cases hu : P.underlying t with
  | none => simp [hu] at this
  | some d => cases d <;> simp [hu] at this; subst this; rfl

theorem TOk.ptr (hT : TOk P E) {e : TypeId} (h : kindOf E t = some (.ptr e)) : P.underlying t = some (.pointer e) ∧ P.cellsOf e ≠ 0 := by
  obtain ⟨ti, hi, hk⟩ := kindOf_some h
  have := (hT.is hi).kind
  simp only [hk, kindOk] at this
  cases hu : P.underlying t with
  | none => simp [hu] at this
  | some d => cases d <;> simp [hu] at this; obtain ⟨h1, h2⟩ := this; subst h1; exact ⟨rfl, h2⟩

/-- A struct's fields. -/
theorem TOk.struct (hT : TOk P E) {fs : List (Nat × TypeId)} (h : kindOf E t = some (.struct fs)) :
    ∃ gs : Array Field, P.underlying t = some (.struct gs) ∧ gs.toList.map (fun g => (g.offset, g.type)) = fs ∧
      (∀ g ∈ gs.toList, g.name ≠ "_" ∧ P.cellsOf g.type ≠ 0) ∧ P.stoodInHeld t = false ∧ P.eqGuardType P.depth t = false := by
  obtain ⟨ti, hi, hk⟩ := kindOf_some h
  have := (hT.is hi).kind
  simp only [hk, kindOk] at this
  cases hu : P.underlying t with
  | none => simp [hu] at this
  | some d =>
    cases d <;> simp only [hu, Bool.false_eq_true] at this
    rename_i gs
    simp only [Bool.and_eq_true, List.all_eq_true, bne_iff_ne, ne_eq, Bool.not_eq_true'] at this
    obtain ⟨⟨⟨h1, h2⟩, h3⟩, h4⟩ := this
    exact ⟨gs, rfl, by simpa using h1, fun g hg => by simpa using h2 g hg, h3, h4⟩
end

section
variable {ρ : Type} {P : Program} {E : Env} {s : List AV} {h : Heap} {o : Oper} {x : ρ}

theorem eqCells_ok (hT : TOk P E) (c : Ctx) (d : Nat) (V U : Array Value) (w : World) : ∀ (l : List Field) (n : Nat) (fs : List (Nat × TypeId)) (xs ys : List AV) (r : Bool),
    l.map (fun g => (g.offset, g.type)) = fs → (∀ j g, l[j]? = some g → g.offset = n + j ∧ g.name ≠ "_") →
    VReps c xs (V.toList.drop n) → VReps c ys (U.toList.drop n) → eqCells E fs xs ys = some r → (Op.eqFields (d + 1) V U l).run P w = .ok r w := by
  intro l
  induction l with
  | nil =>
    intro n fs xs ys r hl _ hx hy he
    simp at hl; subst hl
    cases xs <;> cases ys <;> simp [eqCells] at he
    subst he; simp [Op.eqFields]
  | cons g l ih =>
    intro n fs xs ys r hl hg hx hy he
    simp at hl; subst hl
    obtain ⟨ho, hn⟩ := hg 0 g (by simp)
    simp at ho
    have hg' : ∀ j g', l[j]? = some g' → g'.offset = n + 1 + j ∧ g'.name ≠ "_" := fun j g' hj => by
      obtain ⟨a, b⟩ := hg (j + 1) g' (by simpa using hj); exact ⟨by omega, b⟩
    cases xs with
    | nil => cases ys <;> simp [eqCells] at he
    | cons a xs =>
      cases ys with
      | nil => cases a <;> simp [eqCells] at he
      | cons b ys =>
        obtain ⟨va, hva, hra⟩ := hx.get (i := 0) (a := a) (by simp)
        obtain ⟨vb, hvb, hrb⟩ := hy.get (i := 0) (a := b) (by simp)
        have hVa : V[n]? = some va := by simpa using hva
        have hUb : U[n]? = some vb := by simpa using hvb
        have hxs : VReps c xs (V.toList.drop (n + 1)) := by
          have := VReps.drop 1 hx; simpa [List.drop_drop, Nat.add_comm] using this
        have hys : VReps c ys (U.toList.drop (n + 1)) := by
          have := VReps.drop 1 hy; simpa [List.drop_drop, Nat.add_comm] using this
        have key : ∀ (q : Bool) (r' : Bool), (isAgg g.type).run P w = .ok false w → (Op.equalIn (d + 1) g.type va vb).run P w = .ok q w →
            eqCells E (l.map fun g => (g.offset, g.type)) xs ys = some r' → (Op.eqFields (d + 1) V U (g :: l)).run P w = .ok (q && r') w := by
          intro q r' hag hq hr'
          have hpa : (part g.type V g.offset).run P w = .ok va w := by simp [part, hag, ho, hVa]
          have hpb : (part g.type U g.offset).run P w = .ok vb w := by simp [part, hag, ho, hUb]
          simp only [Op.eqFields, ne_eq, hn, not_false_eq_true, if_true, Sem.run_bind, hpa, hpb, hq, Result.andThen_ok, Sem.run_ite, Sem.run_pure]
          cases q with
          | false => simp
          | true => simpa using ih (n + 1) _ xs ys r' rfl hg' hxs hys hr'
        cases a <;> cases b <;> simp only [eqCells, reduceCtorEq] at he
        case int.int k p k' q =>
          cases hk : kindOf E g.type with
          | none => simp [hk] at he
          | some kk =>
            cases kk <;> simp only [hk, reduceCtorEq] at he
            rename_i k2
            have hu := hT.int hk
            by_cases hkk : k = k'
            · subst hkk
              simp only [if_true, Option.map_eq_some_iff] at he
              obtain ⟨r', hr', rfl⟩ := he
              have h1 := hra.int; have h2 := hrb.int; subst h1; subst h2
              exact key (p == q) r' (by simp [isAgg, run_underlying hu]) (run_equalIn_int w d g.type k k2 p q hu) hr'
            · simp [hkk] at he
        case bool.bool p q =>
          cases hk : kindOf E g.type with
          | none => simp [hk] at he
          | some kk =>
            cases kk <;> simp only [hk, reduceCtorEq] at he
            have hu := hT.bool hk
            simp only [Option.map_eq_some_iff] at he
            obtain ⟨r', hr', rfl⟩ := he
            have h1 := hra.bool; have h2 := hrb.bool; subst h1; subst h2
            exact key (p == q) r' (by simp [isAgg, run_underlying hu]) (run_equalIn_bool' w d g.type p q hu) hr'
        case str.str p q =>
          cases hk : kindOf E g.type with
          | none => simp [hk] at he
          | some kk =>
            cases kk <;> simp only [hk, reduceCtorEq] at he
            have hu := hT.str hk
            simp only [Option.map_eq_some_iff] at he
            obtain ⟨r', hr', rfl⟩ := he
            have h1 := hra.str; have h2 := hrb.str; subst h1; subst h2
            exact key (p.toList == q.toList) r' (by simp [isAgg, run_underlying hu]) (run_equalIn_string w d g.type p q hu) hr'

theorem eqGuard_word (op : BinOp) (t : TypeId) (y z : Operand) (va vb : Value) (w : World) (h : ∀ cs, va ≠ .agg cs) (h' : va ≠ .nilIface) :
    (eqGuard op t y z va vb).run P w = .ok () w := by
  cases op <;> cases va <;> first | (exact absurd rfl (h _)) | (exact absurd rfl h') | simp [eqGuard]

theorem isEq_some {op : BinOp} {e : Bool} (h : isEq op = some e) : (op = .eql ∧ e = true) ∨ (op = .neq ∧ e = false) := by
  cases op <;> simp [isEq] at h
  · exact .inl ⟨rfl, h⟩
  · exact .inr ⟨rfl, h⟩

theorem eqKind_some {t : TypeId} {op : BinOp} {e : Bool} {k : TK} (h : eqKind E t op = some (e, k)) : isEq op = some e ∧ kindOf E t = some k := by
  unfold eqKind at h
  cases h1 : isEq op with
  | none => simp [h1] at h
  | some e' =>
    cases h2 : E.ty t with
    | none => simp [h1, h2] at h
    | some ti => simp [h1, h2] at h; obtain ⟨rfl, rfl⟩ := h; exact ⟨rfl, by simp [kindOf, h2]⟩

theorem isAddr_rep {c : Ctx} {a : AV} {v : Value} (ha : isAddr a = true) (h : VRep c a v) : ∃ p, v = .pointer (some p) := by
  cases a <;> simp [isAddr] at ha
  case ptr id i j =>
    simp only [VRep, ptrRep] at h
    exact h.1
  case tp t x sub => simp only [VRep] at h; obtain ⟨b, o, vs, hv, _⟩ := h; exact ⟨_, hv⟩
  case bp cs sub => simp only [VRep] at h; obtain ⟨b, o, vs, hv, _⟩ := h; exact ⟨_, hv⟩

theorem run_ptr_nil (d : Nat) (w : World) {t e : TypeId} (hu : P.underlying t = some (.pointer e)) (b : Option Addr) : (Op.equalIn (d + 1) t (.pointer none) (.pointer b)).run P w = .ok b.isNone w := by
  simp [Op.equalIn, run_underlying hu]
theorem run_ptr_some (d : Nat) (w : World) {t e : TypeId} (hu : P.underlying t = some (.pointer e)) (p : Addr) : (Op.equalIn (d + 1) t (.pointer (some p)) (.pointer none)).run P w = .ok false w := by
  simp [Op.equalIn, run_underlying hu]
theorem run_ptr_op {op : BinOp} {e' : Bool} (hop : isEq op = some e') {t e : TypeId} (hu : P.underlying t = some (.pointer e)) (a b : Option Addr) (w : World) (hab : a = none ∨ b = none) :
    (binOp op t (.pointer a) (.pointer b)).run P w = .ok (.bool (bif e' then a.isNone && b.isNone else !(a.isNone && b.isNone))) w := by
  have hq : (Op.equalIn 10000 t (.pointer a) (.pointer b)).run P w = .ok (a.isNone && b.isNone) w := by
    cases a with
    | none => simpa using run_ptr_nil (P := P) 9999 w hu b
    | some p => cases b with
      | none => simpa using run_ptr_some (P := P) 9999 w hu p
      | some q => rcases hab with h | h <;> cases h
  have hm : Op.equal t (.pointer a) (.pointer b) = Op.equalIn 10000 t (.pointer a) (.pointer b) := rfl
  rcases isEq_some hop with ⟨rfl, rfl⟩ | ⟨rfl, rfl⟩
  · have : (binOp .eql t (.pointer a) (.pointer b)) = (do pure (.bool (← Op.equal t (.pointer a) (.pointer b)))) := by cases a <;> cases b <;> rfl
    rw [this, hm]; simp [hq]
  · have : (binOp .neq t (.pointer a) (.pointer b)) = (do pure (.bool (!(← Op.equal t (.pointer a) (.pointer b))))) := by cases a <;> cases b <;> rfl
    rw [this, hm]; simp [hq]

theorem told_binOp (hT : TOk P E) {op : BinOp} {t u : TypeId} {y z : Operand} (ho : o.op = .binOp op t y z u) {K : AV → Heap → Bool → Option ρ}
    (hk : abin E op t (aeval s y) (aeval s z) (fun v => K v h false) = some x) : Told P s h o K x := by
  have fin : ∀ v : AV, K v h false = some x → (∀ c : Ctx, VRep c v v.word) →
      (∀ (c : Ctx) va vb, VRep c (aeval s y) va → VRep c (aeval s z) vb → (eqGuard op t y z va vb).run P c.w = .ok () c.w ∧ (binOp op t va vb).run P c.w = .ok v.word c.w) → Told P s h o K x := by
    intro v hv hw hr
    refine told_pure hv fun c a _ hsl => ⟨v.word, ?_, hw c⟩
    obtain ⟨h1, h2⟩ := hr c _ _ (hsl.eval y) (hsl.eval z)
    simp [execOp, ho, h1, h2]
  generalize hya : aeval s y = a at hk fin
  generalize hzb : aeval s z = b at hk fin
  unfold abin at hk
  split at hk
  · rename_i k p k' q
    split at hk
    · obtain ⟨v, hv, hw, hr⟩ := ashift_ok (P := P) (k' := k') (.inl rfl) hk
      refine fin v hv hw fun c va vb ha hb => ?_
      have h1 := ha.int; have h2 := hb.int; subst h1; subst h2
      exact ⟨eqGuard_word _ _ _ _ _ _ _ (by simp) (by simp), hr t c.w⟩
    · obtain ⟨v, hv, hw, hr⟩ := ashift_ok (P := P) (k' := k') (.inr rfl) hk
      refine fin v hv hw fun c va vb ha hb => ?_
      have h1 := ha.int; have h2 := hb.int; subst h1; subst h2
      exact ⟨eqGuard_word _ _ _ _ _ _ _ (by simp) (by simp), hr t c.w⟩
    · by_cases hkk : k = k'
      · subst hkk
        simp only [if_true] at hk
        obtain ⟨v, hv, hw, hr⟩ := abinInt_ok (P := P) hk
        refine fin v hv hw fun c va vb ha hb => ?_
        have h1 := ha.int; have h2 := hb.int; subst h1; subst h2
        exact ⟨eqGuard_word _ _ _ _ _ _ _ (by simp) (by simp), hr t c.w⟩
      · simp [hkk] at hk
  · rename_i p q
    obtain ⟨v, hv, hw, hr⟩ := abinStr_ok (P := P) hk
    refine fin v hv hw fun c va vb ha hb => ?_
    have h1 := ha.str; have h2 := hb.str; subst h1; subst h2
    exact ⟨eqGuard_word _ _ _ _ _ _ _ (by simp) (by simp), hr t c.w⟩
  · rename_i p q
    split at hk
    · rename_i e he
      obtain ⟨hop, hkd⟩ := eqKind_some he
      refine fin _ hk (fun c => by simp [VRep, AV.word]) fun c va vb ha hb => ?_
      have h1 := ha.bool; have h2 := hb.bool; subst h1; subst h2
      refine ⟨eqGuard_word _ _ _ _ _ _ _ (by simp) (by simp), ?_⟩
      have hq := run_equalIn_bool' (P := P) c.w 9999 t p q (hT.bool hkd)
      have hm : Op.equal t (.bool p) (.bool q) = Op.equalIn 10000 t (.bool p) (.bool q) := rfl
      rcases isEq_some hop with ⟨rfl, rfl⟩ | ⟨rfl, rfl⟩ <;> simp [binOp, hm, hq, AV.word]
    · cases hk
  · split at hk
    · rename_i e fs he
      obtain ⟨hop, hkd⟩ := eqKind_some he
      obtain ⟨gs, hu, hfs, hnm, hst, hgd⟩ := hT.struct hkd
      by_cases hc : (a.isAgg && b.isAgg && (fs.zipIdx.all fun p => p.1.1 == p.2)) = true
      · simp only [hc, cond_true] at hk
        simp only [Bool.and_eq_true] at hc
        obtain ⟨⟨hag, hbg⟩, hz⟩ := hc
        split at hk
        · rename_i r hr
          refine fin _ hk (fun c => by simp [VRep, AV.word]) fun c va vb ha hb => ?_
          obtain ⟨V, rfl, hV⟩ := ha.agg hag
          obtain ⟨U, rfl, hU⟩ := hb.agg hbg
          refine ⟨run_eqGuard_agg (P := P) c.w op t y z V U hgd |> fun hh => ?_, ?_⟩
          · revert hh; cases op <;> simp [eqGuard, run_program, hgd]
          have hfo : P.fieldsOf t = gs := by simp [Program.fieldsOf, hu]
          have hidx : ∀ j g, gs.toList[j]? = some g → g.offset = 0 + j ∧ g.name ≠ "_" := by
            intro j g hj
            refine ⟨?_, (hnm g (List.mem_of_getElem? hj)).1⟩
            have hfj : fs[j]? = some (g.offset, g.type) := by rw [← hfs]; simp [hj]
            rw [List.all_eq_true] at hz
            have := hz ((g.offset, g.type), j) (by rw [List.mem_zipIdx_iff_getElem?]; exact hfj)
            simpa using this
          have hq := eqCells_ok hT c 9998 V U c.w gs.toList 0 fs a.cells b.cells r hfs hidx (by simpa using hV) (by simpa using hU) hr
          have hq' : (Op.equalIn 10000 t (.agg V) (.agg U)).run P c.w = .ok r c.w := by
            rw [run_equalIn_struct (P := P) c.w 9999 t V U (by rw [hfo]; exact hu) hst, hfo]; exact hq
          have hm : Op.equal t (.agg V) (.agg U) = Op.equalIn 10000 t (.agg V) (.agg U) := rfl
          rcases isEq_some hop with ⟨rfl, rfl⟩ | ⟨rfl, rfl⟩
          · rw [run_eql_struct, hq']; simp [AV.word]
          · rw [run_neq_struct, hq']; simp [AV.word]
        · cases hk
      · simp only [Bool.not_eq_true] at hc
        simp [hc] at hk
    · rename_i e el he
      obtain ⟨hop, hkd⟩ := eqKind_some he
      obtain ⟨hu, hsz⟩ := hT.ptr hkd
      split at hk
      · refine fin _ hk (fun c => by simp [VRep, AV.word]) fun c va vb ha hb => ?_
        simp only [VRep] at ha hb; subst ha; subst hb
        refine ⟨eqGuard_word _ _ _ _ _ _ _ (by simp) (by simp), ?_⟩
        rw [run_ptr_op hop hu none none c.w (.inl rfl)]
        cases e <;> simp [AV.word]
      · by_cases hb' : isAddr b = true
        · simp only [hb', cond_true] at hk
          refine fin _ hk (fun c => by simp [VRep, AV.word]) fun c va vb ha hb => ?_
          simp only [VRep] at ha; subst ha
          obtain ⟨p, rfl⟩ := isAddr_rep hb' hb
          refine ⟨eqGuard_word _ _ _ _ _ _ _ (by simp) (by simp), ?_⟩
          rw [run_ptr_op hop hu none (some p) c.w (.inl rfl)]
          cases e <;> simp [AV.word]
        · simp [hb'] at hk
      · by_cases ha' : isAddr a = true
        · simp only [ha', cond_true] at hk
          refine fin _ hk (fun c => by simp [VRep, AV.word]) fun c va vb ha hb => ?_
          simp only [VRep] at hb; subst hb
          obtain ⟨p, rfl⟩ := isAddr_rep ha' ha
          refine ⟨eqGuard_word _ _ _ _ _ _ _ (by simp) (by simp), ?_⟩
          rw [run_ptr_op hop hu (some p) none c.w (.inr rfl)]
          cases e <;> simp [AV.word]
        · simp [ha'] at hk
      · cases hk
    · cases hk
end
end Go.AM
namespace Go.AM

/-! Soundness: operations on values. -/
section
variable {ρ : Type} {P : Program} {E : Env} {s : List AV} {h : Heap} {o : Oper} {x : ρ}

theorem told_unOp {op : UnOp} {t : TypeId} {y : Operand} (ho : o.op = .unOp op t y) {K : AV → Heap → Bool → Option ρ}
    (hk : aun op (aeval s y) (fun v => K v h false) = some x) : Told P s h o K x := by
  generalize hya : aeval s y = a at hk
  unfold aun at hk
  split at hk
  · rename_i k n
    refine told_pure hk fun c ac _ hsl => ⟨.int k (k.wrap (0 - n)), ?_, by simp only [VRep]⟩
    have := hsl.eval y; rw [hya] at this
    simp [execOp, ho, this.int, Op.unary, Op.intArith]
  · rename_i b
    refine told_pure hk fun c ac _ hsl => ⟨.bool !b, ?_, by simp only [VRep]⟩
    have := hsl.eval y; rw [hya] at this
    simp [execOp, ho, this.bool, Op.unary]
  · cases hk

theorem told_nilCheck {y : Operand} (ho : o.op = .nilCheck y) {K : AV → Heap → Bool → Option ρ}
    (hk : (match aeval s y with
     | .ptr i j l => K (.ptr i j l) h false
     | .tp t y j => K (.tp t y j) h false
     | .bp cs j => K (.bp cs j) h false
     | .fn f cs => K (.fn f cs) h false
     | _ => none) = some x) : Told P s h o K x := by
  generalize hya : aeval s y = a at hk
  cases a <;> simp only [reduceCtorEq] at hk
  case ptr i j l =>
    refine told_pure hk fun c ac _ hsl => ⟨ac.eval y, ?_, by have := hsl.eval y; rwa [hya] at this⟩
    have := hsl.eval y; rw [hya] at this
    obtain ⟨p, hp⟩ := isAddr_rep (a := .ptr i j l) rfl this
    simp [execOp, ho, hp]
  case tp t z j =>
    refine told_pure hk fun c ac _ hsl => ⟨ac.eval y, ?_, by have := hsl.eval y; rwa [hya] at this⟩
    have := hsl.eval y; rw [hya] at this
    obtain ⟨p, hp⟩ := isAddr_rep (a := .tp t z j) rfl this
    simp [execOp, ho, hp]
  case bp cs j =>
    refine told_pure hk fun c ac _ hsl => ⟨ac.eval y, ?_, by have := hsl.eval y; rwa [hya] at this⟩
    have := hsl.eval y; rw [hya] at this
    obtain ⟨p, hp⟩ := isAddr_rep (a := .bp cs j) rfl this
    simp [execOp, ho, hp]
  case fn f cs =>
    refine told_pure hk fun c ac _ hsl => ⟨ac.eval y, ?_, by have := hsl.eval y; rwa [hya] at this⟩
    have := hsl.eval y; rw [hya] at this
    simp only [VRep] at this
    obtain ⟨ws, hw, _⟩ := this
    simp [execOp, ho, hw]

theorem VReps.of_map {c : Ctx} {a : Act} (hsl : Slots c s a) : ∀ (l : List Operand), VReps c (l.map (aeval s)) (l.map a.eval)
  | [] => by simp [VReps]
  | y :: l => by simp only [List.map_cons, VReps]; exact ⟨hsl.eval y, VReps.of_map hsl l⟩

theorem told_makeFunc {f : FuncId} {fs caps : Array Operand} (ho : o.op = .makeFunc (.func f) fs caps) {K : AV → Heap → Bool → Option ρ}
    (hk : (bif fs.size == 0 then K (.fn f (caps.toList.map (aeval s))) h false else none) = some x) : Told P s h o K x := by
  by_cases h0 : fs.size = 0
  · simp only [h0, BEq.rfl, cond_true] at hk
    have hf : fs = #[] := Array.eq_empty_of_size_eq_zero h0
    refine told_pure hk fun c ac _ hsl => ⟨.func (.func f) #[] (caps.map ac.eval), ?_, ?_⟩
    · simp [execOp, ho, Instr.makeFunc, hf]
    · simp only [VRep]; exact ⟨_, rfl, by simpa using VReps.of_map hsl caps.toList⟩
  · have : (fs.size == 0) = false := by simpa using h0
    simp [this] at hk

theorem told_extract {y : Operand} {j : Nat} (ho : o.op = .extract y j) {K : AV → Heap → Bool → Option ρ}
    (hk : (match aeval s y with | .tup vs => (match vs[j]? with | some v => K v h false | none => none) | _ => none) = some x) : Told P s h o K x := by
  generalize hya : aeval s y = a at hk
  cases a <;> simp only [reduceCtorEq] at hk
  rename_i vs
  split at hk
  · rename_i v hv
    have key : ∀ (c : Ctx) (ac : Act), Slots c s ac → ∃ (ws : Array Value) (v' : Value), ac.eval y = .tuple ws ∧ ws[j]? = some v' ∧ VRep c v v' := by
      intro c ac hsl
      have := hsl.eval y; rw [hya] at this
      simp only [VRep] at this
      obtain ⟨ws, hw, hr⟩ := this
      obtain ⟨v', hv', hr'⟩ := hr.get hv
      exact ⟨ws, v', hw, by simpa using hv', hr'⟩
    refine told_pure hk fun c ac _ hsl => ?_
    obtain ⟨ws, v', hw, hv', hr'⟩ := key c ac hsl
    exact ⟨v', by simp [execOp, ho, hw, Instr.extract, hv'], hr'⟩
  · cases hk

/-- A part of a struct's cells. -/
theorem run_part (hT : TOk P E) {t : TypeId} {ti : TI} (hi : E.ty t = some ti) (w : World) (V : Array Value) (off : Nat) :
    (part t V off).run P w = if ti.agg = true then .ok (.agg (V.extract off (off + ti.size))) w else (match V[off]? with | some v => .ok v w | none => .halt (.stuck "part: no such cell") w) := by
  have hag := (hT.is hi).isAgg w
  have hsz := (hT.is hi).size w
  cases ha : ti.agg with
  | true => simp [part, hag, ha, hsz]
  | false => simp only [part, Sem.run_bind, hag, ha, Result.andThen_ok, Bool.false_eq_true, if_false]; cases V[off]? <;> simp

theorem CellsRep.len {pr : Nat → Prop} {w : World} : ∀ {t : Ty} {x : t.C} {vs : List Value}, CellsRep pr w t x vs → vs.length = t.size := by
  intro t
  induction t with
  | int k => intro x vs h; simp only [CellsRep] at h; subst h; rfl
  | bool => intro x vs h; simp only [CellsRep] at h; subst h; rfl
  | str => intro x vs h; simp only [CellsRep] at h; subst h; rfl
  | row e _ => rintro x vs ⟨v, rfl, _⟩; rfl
  | unit => intro x vs h; simp only [CellsRep] at h; subst h; rfl
  | pair a b iha ihb => rintro x vs ⟨l, r, rfl, hl, hr⟩; simp [Ty.size, iha hl, ihb hr]
  | node => intro x vs h; simp only [CellsRep] at h; cases h; rfl

theorem tvn_rep {c : Ctx} {t : Ty} {x : t.C} {v : Value} (h : TRep c.pr c.w t x v) : VRep c (tvn t x) v := by
  cases t <;> simp only [tvn, VRep] <;> first | exact h | (simpa [TRep, Ty.isAgg, CellsRep] using h)

/-- What a load of a type finds in a typed value's cells. -/
theorem partT_ok {c : Ctx} {ag : Bool} {size : Nat} : ∀ {t : Ty} {x : t.C} {vs : List Value} {sub : Nat} {v : AV}, CellsRep c.pr c.w t x vs → partT ag size t x sub = some v →
    (ag = true → sub + size ≤ vs.length ∧ VRep c v (.agg ((vs.drop sub).take size).toArray)) ∧ (ag = false → size = 1 ∧ ∃ u, vs[sub]? = some u ∧ VRep c v u) := by
  intro t
  have one : ∀ (t : Ty) (x : t.C) (vs : List Value) (sub : Nat) (v : AV), t.isAgg = false → (∀ x' s', partT ag size t x' s' = bif (s' == 0) && (size == 1) && !ag then some (tvn t x') else none) →
      CellsRep c.pr c.w t x vs → partT ag size t x sub = some v →
      (ag = true → sub + size ≤ vs.length ∧ VRep c v (.agg ((vs.drop sub).take size).toArray)) ∧ (ag = false → size = 1 ∧ ∃ u, vs[sub]? = some u ∧ VRep c v u) := by
    intro t x vs sub v ht hp hc hv
    rw [hp] at hv
    by_cases hb : ((sub == 0) && (size == 1) && !ag) = true
    · simp only [hb, cond_true, Option.some.injEq] at hv
      simp only [Bool.and_eq_true, beq_iff_eq, Bool.not_eq_true'] at hb
      obtain ⟨⟨rfl, rfl⟩, rfl⟩ := hb
      have hl := hc.len
      have h1 : t.size = 1 := by cases t <;> simp [Ty.isAgg] at ht <;> rfl
      obtain ⟨u, rfl⟩ : ∃ u, vs = [u] := by
        match vs, hl with
        | [u], _ => exact ⟨u, rfl⟩
        | [], hl => simp [h1] at hl
        | _ :: _ :: _, hl => simp [h1] at hl
      refine ⟨by simp, fun _ => ⟨rfl, u, by simp, ?_⟩⟩
      rw [← hv]
      exact tvn_rep (by rw [TRep, if_neg (by simp [ht])]; exact hc)
    · simp only [Bool.not_eq_true] at hb; simp [hb] at hv
  induction t with
  | int k => intro x vs sub v hc hv; exact one _ x vs sub v rfl (fun _ _ => rfl) hc hv
  | bool => intro x vs sub v hc hv; exact one _ x vs sub v rfl (fun _ _ => rfl) hc hv
  | str => intro x vs sub v hc hv; exact one _ x vs sub v rfl (fun _ _ => rfl) hc hv
  | row e _ => intro x vs sub v hc hv; exact one _ x vs sub v rfl (fun _ _ => rfl) hc hv
  | unit => intro x vs sub v hc hv; simp [partT] at hv
  | pair a b iha ihb =>
    intro x vs sub v hc hv
    have hl := hc.len
    by_cases hw : ((sub == 0) && (size == a.size + b.size) && ag && !(b.isUnit && a.isAgg)) = true
    · rw [partT, hw, cond_true, Option.some.injEq] at hv
      rw [Bool.and_eq_true] at hw
      replace hw := hw.1
      simp only [Bool.and_eq_true, beq_iff_eq] at hw
      obtain ⟨⟨rfl, rfl⟩, rfl⟩ := hw
      subst hv
      refine ⟨fun _ => ⟨by simp only [Ty.size] at hl; omega, ?_⟩, by simp⟩
      simp only [VRep, TRep, Ty.isAgg, if_true]
      refine ⟨_, rfl, ?_⟩
      simp only [Ty.size] at hl
      rw [List.drop_zero, ← hl, List.take_length]
      exact hc
    · simp only [Bool.not_eq_true] at hw
      obtain ⟨l, r, rfl, h1, h2⟩ := hc
      have hl1 := h1.len
      by_cases hs : sub < a.size
      · have hbl : Nat.blt sub a.size = true := by simpa [Nat.blt_eq] using hs
        simp only [partT, hw, cond_false, hbl, cond_true] at hv
        obtain ⟨p, q⟩ := iha h1 hv
        refine ⟨fun hag => ?_, fun hag => ?_⟩
        · obtain ⟨p1, p2⟩ := p hag
          refine ⟨by simp; omega, ?_⟩
          rw [List.drop_append_of_le_length (by omega), List.take_append_of_le_length (by simp; omega)]
          exact p2
        · obtain ⟨q0, u, hu, hr⟩ := q hag
          exact ⟨q0, u, by rw [List.getElem?_append_left (by omega)]; exact hu, hr⟩
      · have hbl : Nat.blt sub a.size = false := by
          cases hq : Nat.blt sub a.size with
          | false => rfl
          | true => exact absurd (Nat.blt_eq ▸ hq) hs
        simp only [partT, hw, cond_false, hbl] at hv
        obtain ⟨p, q⟩ := ihb h2 hv
        refine ⟨fun hag => ?_, fun hag => ?_⟩
        · obtain ⟨p1, p2⟩ := p hag
          refine ⟨by simp; omega, ?_⟩
          have e : (l ++ r).drop sub = r.drop (sub - a.size) := by
            rw [List.drop_append, hl1, List.drop_eq_nil_of_le (by omega)]; simp
          rw [e]; exact p2
        · obtain ⟨q0, u, hu, hr⟩ := q hag
          exact ⟨q0, u, by rw [List.getElem?_append_right (by omega), hl1]; exact hu, hr⟩
  | node =>
    intro x vs sub v hc hv
    have hl := hc.len
    have hv4 : VReps c (cellsT .node x) vs := CellsRep.vreps hc
    by_cases hw : ((sub == 0) && (size == 4) && ag) = true
    · simp only [partT, hw, cond_true, Option.some.injEq] at hv
      simp only [Bool.and_eq_true, beq_iff_eq] at hw
      obtain ⟨⟨rfl, rfl⟩, rfl⟩ := hw
      subst hv
      refine ⟨fun _ => ⟨by simp only [Ty.size] at hl; omega, ?_⟩, by simp⟩
      simp only [VRep, TRep, Ty.isAgg, if_true]
      refine ⟨_, rfl, ?_⟩
      simp only [Ty.size] at hl
      rw [List.drop_zero, ← hl, List.take_length]
      exact hc
    · simp only [Bool.not_eq_true] at hw
      cases ag with
      | true => simp [partT, hw] at hv
      | false =>
        by_cases h1 : size = 1
        · subst h1
          simp only [partT, hw, cond_false, BEq.rfl, cond_true] at hv
          obtain ⟨u, hu, hr⟩ := hv4.get hv
          exact ⟨by simp, fun _ => ⟨rfl, u, hu, hr⟩⟩
        · have : (size == 1) = false := by simpa using h1
          simp [partT, hw, this] at hv

theorem eshr {α : Type} {a : Array α} {i j : Nat} : (a.extract i j).toList = (a.toList.drop i).take (j - i) := by simp

theorem eshr' {α : Type} {a : Array α} {off n : Nat} : a.extract off (off + n) = ((a.toList.drop off).take n).toArray := by
  apply Array.ext'; rw [eshr]; simp

/-- The same of cells that are told one by one. -/
theorem partC_ok {c : Ctx} {ti : TI} {cs : List AV} {vs : List Value} {sub : Nat} {v : AV} (hc : VReps c cs vs) (hv : partC ti cs sub = some v) :
    (ti.agg = true → sub + ti.size ≤ vs.length ∧ VRep c v (.agg ((vs.drop sub).take ti.size).toArray)) ∧ (ti.agg = false → ti.size = 1 ∧ ∃ u, vs[sub]? = some u ∧ VRep c v u) := by
  have hl := hc.length
  unfold partC at hv
  cases hag : ti.agg with
  | true =>
    simp only [hag, cond_true] at hv
    by_cases hb : sub + ti.size ≤ cs.length
    · have : Nat.ble (sub + ti.size) cs.length = true := by simpa [Nat.ble_eq] using hb
      simp only [this, cond_true, Option.some.injEq] at hv
      subst hv
      refine ⟨fun _ => ⟨by omega, ?_⟩, by simp⟩
      simp only [VRep]
      exact ⟨_, rfl, by simpa using VReps.take _ (VReps.drop _ hc)⟩
    · have : Nat.ble (sub + ti.size) cs.length = false := by
        cases hq : Nat.ble (sub + ti.size) cs.length with
        | false => rfl
        | true => exact absurd (Nat.ble_eq ▸ hq) hb
      simp [this] at hv
  | false =>
    simp only [hag, cond_false] at hv
    by_cases h1 : ti.size = 1
    · simp only [h1, BEq.rfl, cond_true] at hv
      obtain ⟨u, hu, hr⟩ := hc.get hv
      exact ⟨by simp, fun _ => ⟨h1, u, hu, hr⟩⟩
    · have : (ti.size == 1) = false := by simpa using h1
      simp [this] at hv

/-- Of a struct's value. -/
theorem partV_ok {c : Ctx} {ti : TI} {a : AV} {va : Value} {sub : Nat} {v : AV} (ha : VRep c a va) (hv : partV ti a sub = some v) :
    ∃ V : Array Value, va = .agg V ∧ (ti.agg = true → VRep c v (.agg (V.extract sub (sub + ti.size)))) ∧ (ti.agg = false → ∃ u, V[sub]? = some u ∧ VRep c v u) := by
  unfold partV at hv
  split at hv
  · rename_i u y
    cases hua : u.isAgg with
    | false => simp [hua] at hv
    | true =>
      simp only [hua, cond_true] at hv
      simp only [VRep, TRep, hua, if_true] at ha
      obtain ⟨V, hV, hc⟩ := ha
      obtain ⟨p, q⟩ := partT_ok hc hv
      refine ⟨V, hV, fun hag => ?_, fun hag => ?_⟩
      · rw [eshr']; exact (p hag).2
      · obtain ⟨_, u', hu', hr'⟩ := q hag
        exact ⟨u', by simpa using hu', hr'⟩
  · rename_i cs
    simp only [VRep] at ha
    obtain ⟨V, hV, hc⟩ := ha
    obtain ⟨p, q⟩ := partC_ok hc hv
    refine ⟨V, hV, fun hag => ?_, fun hag => ?_⟩
    · rw [eshr']; exact (p hag).2
    · obtain ⟨_, u', hu', hr'⟩ := q hag
      exact ⟨u', by simpa using hu', hr'⟩
  · cases hv

theorem struct_field (hT : TOk P E) {t : TypeId} {fs : List (Nat × TypeId)} {j off : Nat} {ft : TypeId} (hti : kindOf E t = some (.struct fs)) (hj : fs[j]? = some (off, ft)) :
    ∃ gs g, P.underlying t = some (.struct gs) ∧ gs[j]? = some g ∧ g.offset = off ∧ g.type = ft ∧ P.cellsOf ft ≠ 0 := by
  obtain ⟨gs, hu, hfs, hn, _⟩ := hT.struct hti
  rw [← hfs, List.getElem?_map, Option.map_eq_some_iff] at hj
  obtain ⟨g, hg, he⟩ := hj
  simp only [Prod.mk.injEq] at he
  exact ⟨gs, g, hu, by simpa using hg, he.1, he.2, he.2 ▸ (hn g (List.mem_of_getElem? hg)).2⟩

theorem told_field (hT : TOk P E) {t : TypeId} {y : Operand} {j : Nat} (ho : o.op = .field t y j) {K : AV → Heap → Bool → Option ρ}
    (hk : (match E.ty t with
     | some ⟨.struct fs, _, _, _, _, _⟩ =>
       (match fs[j]? with
        | some (off, ft) =>
          (match E.ty ft with
           | some ti => (match partV ti (aeval s y) off with | some v => K v h false | none => none)
           | none => none)
        | none => none)
     | _ => none) = some x) : Told P s h o K x := by
  split at hk
  · rename_i fs _ _ _ _ _ hti
    have hkd : kindOf E t = some (.struct fs) := by simp [kindOf, hti]
    split at hk
    · rename_i off ft hj
      obtain ⟨gs, g, hu, hg, hgo, hgt, _⟩ := struct_field hT hkd hj
      split at hk
      · rename_i ti hfi
        split at hk
        · rename_i v hv
          have key : ∀ (c : Ctx) (ac : Act), Slots c s ac → ∃ v', (execOp ac.eval o).run P c.w = .ok (.value v') c.w ∧ VRep c v v' := by
            intro c ac hsl
            obtain ⟨V, hV, p, q⟩ := partV_ok (hsl.eval y) hv
            have run : ∀ v', (part ft V off).run P c.w = .ok v' c.w → (execOp ac.eval o).run P c.w = .ok (.value v') c.w := by
              intro v' h'
              simp [execOp, ho, hV, Instr.field, run_underlying hu, hg, hgo, hgt, asAgg, h']
            cases hag : ti.agg with
            | true => exact ⟨_, run _ (by rw [run_part hT hfi, if_pos hag]), p hag⟩
            | false =>
              obtain ⟨u', hu', hr'⟩ := q hag
              exact ⟨u', run _ (by rw [run_part hT hfi, if_neg (by simp [hag]), hu']), hr'⟩
          exact told_pure hk fun c ac _ hsl => key c ac hsl
        · cases hk
      · cases hk
    · cases hk
  · cases hk

theorem told_index (hT : TOk P E) {t : TypeId} {y z : Operand} (ho : o.op = .index t y z) {K : AV → Heap → Bool → Option ρ}
    (hk : (match kindOf E t, aeval s y, aeval s z with
     | some TK.str, .str b, .int _ n => bif decide (0 ≤ n) then bif decide (n < (b.size : Int)) then K (.int .u8 (byteAt b n.toNat)) h false else none else none
     | _, _, _ => none) = some x) : Told P s h o K x := by
  split at hk
  · rename_i b k n hkd hy hz
    have hu := hT.str hkd
    by_cases h0 : 0 ≤ n
    · simp only [h0, decide_true, cond_true] at hk
      by_cases h1 : n < (b.size : Int)
      · simp only [h1, decide_true, cond_true] at hk
        have hlt : n.toNat < b.size := by omega
        refine told_pure hk fun c ac _ hsl => ⟨_, ?_, by simp only [VRep]; rfl⟩
        have ha := hsl.eval y; rw [hy] at ha
        have hb := hsl.eval z; rw [hz] at hb
        have hx : b[n.toNat]? = some b[n.toNat] := by simp [hlt]
        simp [execOp, ho, ha.str, hb.int, Instr.index, asIntOf, run_underlying hu, h0, hx, byteAt]
      · simp [h1] at hk
    · simp [h0] at hk
  · cases hk
end
end Go.AM
namespace Go.AM

/-! Soundness: memory that is read, and memory that grows. -/
theorem add_none (b o n : Nat) : (⟨b, o, none⟩ : Addr).add n = ⟨b, o + n, none⟩ := by unfold Addr.add; split <;> simp_all

theorem Lies.drop {w : World} {b o : Nat} {vs : List Value} (h : Lies w b o vs) (n : Nat) : Lies w b (o + n) (vs.drop n) := fun j v hj => by
  have := h (n + j) v (by simpa using hj); rwa [← Nat.add_assoc] at this
theorem Lies.take {w : World} {b o : Nat} {vs : List Value} (h : Lies w b o vs) (n : Nat) : Lies w b o (vs.take n) := fun j v hj => by
  rw [List.getElem?_take] at hj
  split at hj
  · exact h j v hj
  · cases hj
theorem Lies.append {w : World} {b o : Nat} {vs us : List Value} (h : Lies w b o vs) (h' : Lies w b (o + vs.length) us) : Lies w b o (vs ++ us) := fun j v hj => by
  by_cases hl : j < vs.length
  · rw [List.getElem?_append_left hl] at hj; exact h j v hj
  · rw [List.getElem?_append_right (by omega)] at hj
    have := h' _ v hj; rwa [show o + vs.length + (j - vs.length) = o + j by omega] at this

section
variable {ρ : Type} {P : Program} {E : Env} {s : List AV} {h : Heap} {o : Oper} {x : ρ}

theorem run_loadLies (w : World) (b off : Nat) (vs : List Value) (hl : Lies w b off vs) : (loadCells ⟨b, off, none⟩ vs.length).run P w = .ok vs.toArray w :=
  run_loadCells_list w _ vs fun j v hj => by rw [add_none]; exact hl j v hj

/-- A load where all is told. -/
theorem run_loadVar (hT : TOk P E) {t : TypeId} {ti : TI} (hi : E.ty t = some ti) {w : World} {b off sub : Nat} {vs : List Value} (hl : Lies w b off vs) {c : Ctx} {v : AV}
    (hv : (ti.agg = true → sub + ti.size ≤ vs.length ∧ VRep c v (.agg ((vs.drop sub).take ti.size).toArray)) ∧ (ti.agg = false → ti.size = 1 ∧ ∃ u, vs[sub]? = some u ∧ VRep c v u)) :
    ∃ v', (loadVar t ⟨b, off + sub, none⟩).run P w = .ok v' w ∧ VRep c v v' := by
  have hag := (hT.is hi).isAgg w
  have hsz := (hT.is hi).size w
  cases ha : ti.agg with
  | true =>
    obtain ⟨h1, h2⟩ := hv.1 ha
    refine ⟨_, ?_, h2⟩
    have hlen : ((vs.drop sub).take ti.size).length = ti.size := by simp; omega
    have := run_loadLies (P := P) w b (off + sub) _ ((hl.drop sub).take ti.size)
    rw [hlen] at this
    simp [loadVar, hag, ha, hsz, this]
  | false =>
    obtain ⟨_, u, hu, hr⟩ := hv.2 ha
    refine ⟨u, ?_, hr⟩
    have hc : w.cell? ⟨b, off + sub, none⟩ = some u := hl sub u hu
    simp [loadVar, hag, ha, hc]

theorem VReps.split {c : Ctx} : ∀ {as bs : List AV} {vs : List Value}, VReps c (as ++ bs) vs → VReps c as (vs.take as.length) ∧ VReps c bs (vs.drop as.length)
  | [], _, vs, h => by simpa [VReps] using h
  | a :: as, bs, [], h => by simp [VReps] at h
  | a :: as, bs, v :: vs, h => by
    simp only [List.cons_append, VReps] at h
    obtain ⟨h1, h2⟩ := VReps.split h.2
    simp only [List.length_cons, List.take_succ_cons, List.drop_succ_cons, VReps]
    exact ⟨⟨h.1, h1⟩, h2⟩

theorem cellsT_len : ∀ {t : Ty} {x : t.C}, (cellsT t x).length = t.size := by
  intro t
  induction t with
  | pair a b iha ihb => intro x; simp [cellsT, Ty.size, iha, ihb]
  | _ => intro x; rfl

theorem CellsRep.of_vreps {c : Ctx} : ∀ {t : Ty} {x : t.C} {vs : List Value}, VReps c (cellsT t x) vs → CellsRep c.pr c.w t x vs := by
  intro t
  have one : ∀ {a : AV} {vs : List Value}, VReps c [a] vs → ∃ u, vs = [u] ∧ VRep c a u := by
    intro a vs h
    match vs, h with
    | [u], h => exact ⟨u, rfl, by simpa [VReps] using h⟩
    | [], h => simp [VReps] at h
    | _ :: _ :: _, h => simp [VReps] at h
  induction t with
  | int k => intro x vs h; obtain ⟨u, rfl, hu⟩ := one h; simp only [CellsRep]; rw [hu.int]
  | bool => intro x vs h; obtain ⟨u, rfl, hu⟩ := one h; simp only [CellsRep]; rw [hu.bool]
  | str => intro x vs h; obtain ⟨u, rfl, hu⟩ := one h; simp only [CellsRep]; rw [hu.str]
  | row e _ =>
    intro x vs h
    obtain ⟨u, rfl, hu⟩ := one h
    simp only [VRep, TRep, Ty.isAgg, Bool.false_eq_true, if_false] at hu
    exact hu
  | unit => intro x vs h; cases vs <;> simp [cellsT, VReps] at h; simp [CellsRep]
  | pair a b iha ihb =>
    intro x vs h
    obtain ⟨h1, h2⟩ := VReps.split (as := cellsT a x.1) (bs := cellsT b x.2) h
    exact ⟨_, _, (List.take_append_drop _ vs).symm, iha h1, ihb h2⟩
  | node =>
    intro x vs h
    simp only [CellsRep]
    match vs, h with
    | [v1, v2, v3, v4], h =>
      simp only [cellsT, VReps, and_true] at h
      obtain ⟨h1, h2, h3, h4⟩ := h
      rw [h1.int, h2.str, h3.int]
      simp only [VRep, TRep, Ty.isAgg, Bool.false_eq_true, if_false, CellsRep] at h4
      obtain ⟨v, hv, a, cap, rfl, hle, hnone, hne⟩ := h4
      simp only [List.cons.injEq, and_true] at hv
      subst hv
      cases x with
      | mk o s n kids =>
        simp only [Node.op, Node.s, Node.n, Node.kids] at *
        by_cases hk : kids = []
        · subst hk
          exact .mk o s n [] a cap 0 0 (fun _ => []) hle hnone (by simp) (by simp) (by simp)
        · obtain ⟨b, off, ha, hp, hx⟩ := hne hk
          have ch : ∀ i, ∃ vs : List Value, ∀ x, kids[i]? = some x → vs.length = 4 ∧ Lies c.w b (off + i * 4) vs ∧ NodeRep c.pr c.w x vs := by
            intro i
            cases hi : kids[i]? with
            | none => exact ⟨[], by simp⟩
            | some y =>
              obtain ⟨vs, q1, q2, q3⟩ := hx i y hi
              exact ⟨vs, fun x hx => by cases hx; exact ⟨q1, q2, q3⟩⟩
          let vsf := fun i => Classical.choose (ch i)
          have hvs := fun i => Classical.choose_spec (ch i)
          exact .mk o s n kids a cap b off vsf hle hnone (fun _ => ⟨ha, hp⟩) (fun i x hi => ⟨(hvs i x hi).1, (hvs i x hi).2.1⟩) (fun i x hi => (hvs i x hi).2.2)
    | [], h => simp [cellsT, VReps] at h
    | [_], h => simp [cellsT, VReps] at h
    | [_, _], h => simp [cellsT, VReps] at h
    | [_, _, _], h => simp [cellsT, VReps] at h
    | _ :: _ :: _ :: _ :: _ :: _, h => simp [cellsT, VReps] at h

/-- A value of its cells. -/
theorem VRep.of_cells {c : Ctx} {a : AV} {vs : List Value} (ha : a.isAgg = true) (h : VReps c a.cells vs) : VRep c a (.agg vs.toArray) := by
  cases a <;> simp [AV.isAgg] at ha
  case agg cs => simp only [VRep]; exact ⟨_, rfl, by simpa [AV.cells] using h⟩
  case tv t y =>
    simp only [VRep, TRep, ha, if_true]
    refine ⟨_, rfl, ?_⟩
    simp only [AV.cells, ha, cond_true] at h
    exact CellsRep.of_vreps h

/-- What a row's element tells of its cells, and a load finds there. -/
theorem part_ok {c : Ctx} {b base : Nat} {ct : Cont} {ti : TI} {idx sub : Nat} {v : AV} (hnd : ct.isDeep = false) (hc : contRep c b base ct) (hidx : idx < ct.len) (hv : ct.part ti idx sub = some v) :
    ∃ vs, Lies c.w b (base + idx * ct.es) vs ∧
      ((ti.agg = true → sub + ti.size ≤ vs.length ∧ VRep c v (.agg ((vs.drop sub).take ti.size).toArray)) ∧ (ti.agg = false → ti.size = 1 ∧ ∃ u, vs[sub]? = some u ∧ VRep c v u)) := by
  cases ct with
  | typed e xs =>
    simp only [Cont.part, Cont.len, contRep, Cont.es] at *
    have hx : xs[idx]? = some xs[idx] := by simp [hidx]
    obtain ⟨vs, hl, hlies, hr⟩ := hc idx _ hx
    have hd : xs.getD idx e.dflt = xs[idx] := by simp [List.getD, hidx]
    rw [hd] at hv
    exact ⟨vs, hlies, partT_ok hr hv⟩
  | raw a es d xs =>
    simp only [Cont.part, Cont.len, contRep, Cont.es] at *
    have hx : xs[idx]? = some xs[idx] := by simp [hidx]
    obtain ⟨_, _, hc⟩ := hc
    obtain ⟨hag, hsz, vs, hl, hlies, hr, hone⟩ := hc idx _ hx
    have hd : xs.getD idx d = xs[idx] := by simp [List.getD, hidx]
    rw [hd] at hv
    by_cases hw : ((sub == 0) && (ti.size == es) && (ti.agg == a)) = true
    · simp only [hw, cond_true, Option.some.injEq] at hv
      subst hv
      simp only [Bool.and_eq_true, beq_iff_eq] at hw
      obtain ⟨⟨rfl, h2⟩, h3⟩ := hw
      refine ⟨vs, hlies, fun ha => ⟨by omega, ?_⟩, fun ha => ?_⟩
      · have e1 : (vs.drop 0).take ti.size = vs := by rw [List.drop_zero, h2, ← hl, List.take_length]
        rw [e1]
        have hxa : xs[idx].isAgg = true := by rw [hag, ← h3, ha]
        exact VRep.of_cells hxa hr
      · have hxa : xs[idx].isAgg = false := by rw [hag, ← h3, ha]
        have hcs := AV.cells_one hxa
        rw [hcs] at hr
        have hes : es = 1 := by
          rw [← hsz]; cases hxi : xs[idx] <;> rw [hxi] at hxa <;> simp [AV.isAgg, AV.size] at hxa ⊢
          simp [hxa]
        match vs, hr with
        | [u], hr => exact ⟨by omega, u, by simp, by simpa [VReps] using hr⟩
        | [], hr => simp [VReps] at hr
        | _ :: _ :: _, hr => simp [VReps] at hr
    · simp only [Bool.not_eq_true] at hw
      simp only [hw, cond_false] at hv
      exact ⟨vs, hlies, partC_ok hr hv⟩
  | deep fx e xs => cases hnd

/-! Deep rows. -/
theorem DCells.len {w : World} : ∀ {t : Ty} {x : t.C} {vs : List Value} {F : Nat → Prop}, DCells w t x vs F → vs.length = t.size := by
  intro t
  induction t with
  | int k => intro x vs F h; cases h; rfl
  | bool => intro x vs F h; cases h; rfl
  | str => intro x vs F h; cases h; rfl
  | row e _ => intro x vs F h; rcases h with ⟨_, a, rfl⟩ | ⟨b, o, cap, n, rfl, _⟩ <;> rfl
  | unit => intro x vs F h; cases h; rfl
  | node => intro x vs F h; exact h.elim
  | pair a b iha ihb => rintro x vs F ⟨l, r, L, R, rfl, _, _, _, hl, hr⟩; simp [Ty.size, iha hl, ihb hr]

theorem DCells.cells {w : World} : ∀ {t : Ty} {x : t.C} {vs : List Value} {F G : Nat → Prop}, (∀ k, F k → G k) → DCells w t x vs F → CellsRep G w t x vs := by
  intro t
  induction t with
  | int k => intro x vs F G _ h; exact h
  | bool => intro x vs F G _ h; exact h
  | str => intro x vs F G _ h; exact h
  | unit => intro x vs F G _ h; exact h
  | node => intro x vs F G _ h; exact h.elim
  | row e ih =>
    intro x vs F G hF h
    have x' : List e.C := x
    rcases h with ⟨h0, a, rfl⟩ | ⟨b, o, cap, n, rfl, hle, hb, _, _, J, hJ, _, hx⟩
    · exact ⟨_, rfl, a, 0, by rw [h0], Nat.le_of_eq h0, fun _ => rfl, fun hne => absurd (List.eq_nil_of_length_eq_zero h0) hne⟩
    · refine ⟨_, rfl, _, cap, rfl, hle, by simp, fun _ => ⟨b, o, rfl, hF b hb, fun i y hi => ?_⟩⟩
      obtain ⟨us, q1, q2, q3⟩ := hx i y hi
      exact ⟨us, q1, q2, ih (fun k hk => hF k (hJ i k hk).1) q3⟩
  | pair a b iha ihb =>
    rintro x vs F G hF ⟨l, r, L, R, rfl, h1, h2, _, hl, hr⟩
    exact ⟨l, r, rfl, iha (fun k hk => hF k (h1 k hk)) hl, ihb (fun k hk => hF k (h2 k hk)) hr⟩

theorem DCells.atRow {w : World} : ∀ {t : Ty} {x : t.C} {vs : List Value} {F : Nat → Prop} {sub : Nat}, DCells w t x vs F → (rowAt t sub).isSome = true → ∃ u, vs[sub]? = some u ∧ ∃ a n m, u = .slice a n m := by
  intro t
  induction t with
  | row e _ =>
    intro x vs F sub h hs
    cases sub with
    | zero => rcases h with ⟨_, a, rfl⟩ | ⟨b, o, cap, n, rfl, _⟩ <;> exact ⟨_, rfl, _, _, _, rfl⟩
    | succ n => simp [rowAt] at hs
  | pair a b iha ihb =>
    rintro x vs F sub ⟨l, r, L, R, rfl, _, _, _, hl, hr⟩ hs
    unfold rowAt at hs
    by_cases hlt : sub < a.size
    · rw [show Nat.blt sub a.size = true by simpa [Nat.blt_eq] using hlt, cond_true] at hs
      obtain ⟨u, h1, h2⟩ := iha hl hs
      exact ⟨u, by rw [List.getElem?_append_left (by rw [hl.len]; exact hlt)]; exact h1, h2⟩
    · rw [show Nat.blt sub a.size = false from Bool.eq_false_iff.2 fun h => hlt (by simpa [Nat.blt_eq] using h), cond_false] at hs
      obtain ⟨u, h1, h2⟩ := ihb hr hs
      exact ⟨u, by rw [List.getElem?_append_right (by rw [hl.len]; omega), hl.len]; exact h1, h2⟩
  | _ => intro x vs F sub h hs; simp [rowAt] at hs

theorem wordAt_part {t : Ty} {x : t.C} {sub : Nat} {v : AV} (h : wordAt t x sub = some v) : partT false 1 t x sub = some v ∧ ∀ (c c2 : Ctx) (u : Value), VRep c v u → VRep c2 v u := by
  unfold wordAt at h
  split at h
  · rename_i k n hh; cases h; exact ⟨hh, fun c c2 u hv => by simpa [VRep] using hv⟩
  · rename_i b hh; cases h; exact ⟨hh, fun c c2 u hv => by simpa [VRep] using hv⟩
  · rename_i s hh; cases h; exact ⟨hh, fun c c2 u hv => by simpa [VRep] using hv⟩
  · cases h

theorem part_deep {c : Ctx} {id : Nat} {i : Info} {fx : Bool} {e : Ty} {xs : List e.C} {ti : TI} {idx sub : Nat} {v : AV} (hD : DeepRow c id i fx e xs) (hidx : idx < List.length xs) (hv : (Cont.deep fx e xs).part ti idx sub = some v) :
    ∃ vs, Lies c.w i.b (i.base + idx * e.size) vs ∧
      ((ti.agg = true → sub + ti.size ≤ vs.length ∧ VRep c v (.agg ((vs.drop sub).take ti.size).toArray)) ∧ (ti.agg = false → ti.size = 1 ∧ ∃ u, vs[sub]? = some u ∧ VRep c v u)) := by
  obtain ⟨G, _, _, hx⟩ := hD.row
  have hxi : xs[idx]? = some xs[idx] := by simp [hidx]
  obtain ⟨vs, h1, h2, h3⟩ := hx idx _ hxi
  have hd : xs.getD idx e.dflt = xs[idx] := by simp [List.getD, hidx]
  refine ⟨vs, h2, ?_⟩
  simp only [Cont.part] at hv
  by_cases hc : (!ti.agg && (ti.size == 1)) = true
  · rw [hc, cond_true, hd] at hv
    simp only [Bool.and_eq_true, Bool.not_eq_true', beq_iff_eq] at hc
    obtain ⟨hp, hw⟩ := wordAt_part hv
    obtain ⟨_, q⟩ := partT_ok (c := { c with pr := G idx }) (h3.cells fun _ h => h) hp
    refine ⟨fun ha => (by rw [hc.1] at ha; cases ha), fun _ => ⟨hc.2, ?_⟩⟩
    obtain ⟨_, u, hu, hr⟩ := q rfl
    exact ⟨u, hu, hw _ _ _ hr⟩
  · simp only [Bool.not_eq_true] at hc
    rw [hc] at hv; cases hv

theorem dp_deep {c : Ctx} {id : Nat} {i : Info} {ct : Cont} {ti : TI} {idx sub : Nat} (hm : c.m id = some i) (hidx : idx < ct.len) (hD : ∀ fx e xs, ct = .deep fx e xs → DeepRow c id i fx e xs) (hv : dpOk ti ct sub = true) :
    ∃ vs, Lies c.w i.b (i.base + idx * ct.es) vs ∧
      ((ti.agg = true → sub + ti.size ≤ vs.length ∧ VRep c (.dp id idx sub) (.agg ((vs.drop sub).take ti.size).toArray)) ∧ (ti.agg = false → ti.size = 1 ∧ ∃ u, vs[sub]? = some u ∧ VRep c (.dp id idx sub) u)) := by
  unfold dpOk at hv
  split at hv
  · rename_i e xs
    simp only [Bool.and_eq_true, Bool.not_eq_true', beq_iff_eq] at hv
    obtain ⟨⟨h1, h2⟩, h4⟩ := hv
    have h3 : idx < List.length xs := hidx
    have D := hD _ _ _ rfl
    obtain ⟨G, _, _, hx⟩ := D.row
    have hxi : xs[idx]? = some xs[idx] := by simp [h3]
    obtain ⟨vs, q1, q2, q3⟩ := hx idx _ hxi
    obtain ⟨u, hu, hs⟩ := q3.atRow h4
    refine ⟨vs, q2, fun ha => (by rw [h1] at ha; cases ha), fun _ => ⟨h2, u, hu, ?_⟩⟩
    simp only [VRep, dpRep]
    exact ⟨hs, .inr ⟨i, hm, D.hd rfl idx sub u h3 h4 (q2 sub u hu)⟩⟩
  · cases hv

theorem told_load (hT : TOk P E) {t : TypeId} {y : Operand} (ho : o.op = .load t y) {K : AV → Heap → Bool → Option ρ}
    (hk : aload E t (aeval s y) h (fun v => K v h false) = some x) : Told P s h o K x := by
  have run : ∀ (c : Ctx) (ac : Act) (p : Addr) v', ac.eval y = .pointer (some p) → (loadVar t p).run P c.w = .ok v' c.w → (execOp ac.eval o).run P c.w = .ok (.value v') c.w := by
    intro c ac p v' hp hr
    simp [execOp, ho, hp, Instr.loadAt, Instr.sureAddr, hr]
  generalize hya : aeval s y = a at hk
  unfold aload at hk
  split at hk
  · cases hk
  · rename_i ti hti
    split at hk
    · rename_i id idx sub
      split at hk
      · rename_i ob hob
        have key : ∀ (v : AV), (∀ (c : Ctx) (i : Info), Sim c h → c.m id = some i → ¬ c.dead id → idx < ob.c.len → ObjRep c i ob → ∃ vs, Lies c.w i.b (i.base + idx * ob.c.es) vs ∧
            ((ti.agg = true → sub + ti.size ≤ vs.length ∧ VRep c v (.agg ((vs.drop sub).take ti.size).toArray)) ∧ (ti.agg = false → ti.size = 1 ∧ ∃ u, vs[sub]? = some u ∧ VRep c v u))) →
            K v h false = some x → Told P s h o K x := by
          intro v hp hk
          refine told_pure hk fun c ac hs hsl => ?_
          have hr := hsl.eval y; rw [hya] at hr
          simp only [VRep, ptrRep] at hr
          have hid : id < h.length := by
            simp only [hget] at hob
            rcases Nat.lt_or_ge id h.length with hl | hl
            · exact hl
            · simp [List.getD, List.getElem?_eq_none hl] at hob
          rcases hr.2 with hd | ⟨i, hi, hix, hv'⟩
          · rw [hs.gone id hid hd] at hob; cases hob
          · by_cases hd : c.dead id
            · rw [hs.gone id hid hd] at hob; cases hob
            · obtain ⟨ob', hob', hrep⟩ := hs.obj id i hid hi hd
              rw [hob] at hob'; cases hob'
              obtain ⟨vs, hlies, hpart⟩ := hp c i hs hi hd (by rw [← hrep.len]; exact hix) hrep
              rw [← hrep.es] at hlies
              obtain ⟨v', hrun, hrv⟩ := run_loadVar hT hti hlies hpart
              exact ⟨v', run c ac _ v' hv' hrun, hrv⟩
        have hid : id < h.length := by
          simp only [hget] at hob
          rcases Nat.lt_or_ge id h.length with hl | hl
          · exact hl
          · simp [List.getD, List.getElem?_eq_none hl] at hob
        have hdeep : ∀ (c : Ctx) (i : Info), Sim c h → c.m id = some i → ¬ c.dead id → ∀ fx e xs, ob.c = .deep fx e xs → DeepRow c id i fx e xs := fun c i hs hm hd fx e xs hc => hs.deep id i fx e xs ob.full hid hm hd (by rw [hob, ← hc])
        by_cases hdp : dpOk ti ob.c sub = true
        · rw [hdp, cond_true] at hk
          exact key _ (fun c i hs hm hd hlt _ => dp_deep hm hlt (hdeep c i hs hm hd) hdp) hk
        · simp only [Bool.not_eq_true] at hdp
          rw [hdp, cond_false] at hk
          split at hk
          · rename_i v hv
            refine key _ (fun c i hs hm hd hlt hrep => ?_) hk
            cases hc : ob.c with
            | deep fx e xs =>
              rw [hc] at hv hlt
              exact part_deep (hdeep c i hs hm hd fx e xs hc) hlt hv
            | typed e xs => rw [← hc]; exact part_ok (by rw [hc]; rfl) hrep.cont hlt hv
            | raw a es d xs => rw [← hc]; exact part_ok (by rw [hc]; rfl) hrep.cont hlt hv
          · cases hk
      · cases hk
    · rename_i e z sub
      split at hk
      · rename_i v hv
        refine told_pure hk fun c ac hs hsl => ?_
        have hr := hsl.eval y; rw [hya] at hr
        simp only [VRep] at hr
        obtain ⟨b, off, vs, hp, _, _, hlies, hc⟩ := hr
        obtain ⟨v', hrun, hrv⟩ := run_loadVar hT hti hlies (partT_ok hc hv)
        exact ⟨v', run c ac _ v' hp hrun, hrv⟩
      · cases hk
    · rename_i cs sub
      split at hk
      · rename_i v hv
        refine told_pure hk fun c ac hs hsl => ?_
        have hr := hsl.eval y; rw [hya] at hr
        simp only [VRep] at hr
        obtain ⟨b, off, vs, hp, _, hlies, hc⟩ := hr
        obtain ⟨v', hrun, hrv⟩ := run_loadVar hT hti hlies (partC_ok hc hv)
        exact ⟨v', run c ac _ v' hp hrun, hrv⟩
      · cases hk
    · cases hk

theorem told_fieldAddr (hT : TOk P E) {t : TypeId} {y : Operand} {j : Nat} (ho : o.op = .fieldAddr t y j) {K : AV → Heap → Bool → Option ρ}
    (hk : (match E.ty t with
     | some ⟨.struct fs, _, _, _, _, _⟩ =>
       (match fs[j]? with
        | some (off, _) =>
          (match aeval s y with
           | .ptr id idx sub => K (.ptr id idx (sub + off)) h false
           | .tp t y sub => K (.tp t y (sub + off)) h false
           | .bp cs sub => K (.bp cs (sub + off)) h false
           | _ => none)
        | none => none)
     | _ => none) = some x) : Told P s h o K x := by
  split at hk
  · rename_i fs _ _ _ _ _ hti
    have hkd : kindOf E t = some (.struct fs) := by simp [kindOf, hti]
    split at hk
    · rename_i off ft hj
      obtain ⟨gs, g, hu, hg, hgo, hgt, hcs⟩ := struct_field hT hkd hj
      have run : ∀ (c : Ctx) (ac : Act) (p : Addr), ac.eval y = .pointer (some p) → (execOp ac.eval o).run P c.w = .ok (.value (.pointer (some (p.add off)))) c.w := by
        intro c ac p hp
        cases hq : P.info? ft with
        | none => simp [Program.cellsOf, hq] at hcs
        | some it =>
          have hn : it.size ≠ 0 := by simpa [Program.cellsOf, hq] using hcs
          simp [execOp, ho, hp, Instr.fieldAt, run_underlying hu, hg, Instr.sureAddr, fieldPlace, sizeOf, typeInfo, hgt, hq, hn, hgo]
      generalize hya : aeval s y = a at hk
      cases a <;> simp only [reduceCtorEq] at hk
      case ptr id idx sub =>
        refine told_pure hk fun c ac hs hsl => ?_
        have hr := hsl.eval y; rw [hya] at hr
        simp only [VRep, ptrRep] at hr
        obtain ⟨⟨p, hp⟩, hr⟩ := hr
        refine ⟨_, run c ac p hp, ?_⟩
        simp only [VRep, ptrRep]
        refine ⟨⟨_, rfl⟩, ?_⟩
        rcases hr with hd | ⟨i, hi, hix, hv'⟩
        · exact .inl hd
        · refine .inr ⟨i, hi, hix, ?_⟩
          rw [hp] at hv'; cases hv'
          rw [add_none, Nat.add_assoc]
      case tp t z sub =>
        refine told_pure hk fun c ac hs hsl => ?_
        have hr := hsl.eval y; rw [hya] at hr
        simp only [VRep] at hr
        obtain ⟨b, q, vs, hp, hrest⟩ := hr
        exact ⟨_, run c ac _ hp, by simp only [VRep]; exact ⟨b, q, vs, by rw [add_none, Nat.add_assoc], hrest⟩⟩
      case bp cs sub =>
        refine told_pure hk fun c ac hs hsl => ?_
        have hr := hsl.eval y; rw [hya] at hr
        simp only [VRep] at hr
        obtain ⟨b, q, vs, hp, hrest⟩ := hr
        exact ⟨_, run c ac _ hp, by simp only [VRep]; exact ⟨b, q, vs, by rw [add_none, Nat.add_assoc], hrest⟩⟩
    · cases hk
  · cases hk

theorem hget_lt {h : Heap} {id : Nat} {ob : Obj} (hob : hget h id = some ob) : id < h.length := by
  simp only [hget] at hob
  rcases Nat.lt_or_ge id h.length with hl | hl
  · exact hl
  · simp [List.getD, List.getElem?_eq_none hl] at hob

/-- A row that is there, is not gone. -/
theorem Sim.alive {c : Ctx} {h : Heap} (hs : Sim c h) {id : Nat} {ob : Obj} (hob : hget h id = some ob) : ¬ c.dead id := by
  intro hd
  rw [hs.gone id (hget_lt hob) hd] at hob; cases hob

theorem Sim.rep {c : Ctx} {h : Heap} (hs : Sim c h) {id : Nat} {ob : Obj} {i : Info} (hob : hget h id = some ob) (hi : c.m id = some i) : ObjRep c i ob := by
  obtain ⟨ob', hob', hrep⟩ := hs.obj id i (hget_lt hob) hi (hs.alive hob)
  rw [hob] at hob'; cases hob'; exact hrep

theorem fits_some {t : TypeId} {y : AV} (hf : fits E t y h = true) : ∃ e ti n, kindOf E t = some (.slice e) ∧ E.ty e = some ti ∧ esOf h y = some n ∧ ti.size = n := by
  unfold fits at hf
  split at hf
  · rename_i e he
    split at hf
    · rename_i ti n h1 h2; exact ⟨e, ti, n, he, h1, h2, by simpa using hf⟩
    · cases hf
  · cases hf

theorem told_indexAddr (hT : TOk P E) {t : TypeId} {y z : Operand} (ho : o.op = .indexAddr t y z) {K : AV → Heap → Bool → Option ρ}
    (hk : (match aeval s z with | .int _ n => aindexAddr E t (aeval s y) n h K | _ => none) = some x) : Told P s h o K x := by
  generalize hza : aeval s z = q at hk
  cases q <;> simp only [reduceCtorEq] at hk
  rename_i kk n
  unfold aindexAddr at hk
  generalize hya : aeval s y = a at hk
  cases hf : fits E t a h with
  | false => simp [hf] at hk
  | true =>
    simp only [hf, cond_true] at hk
    obtain ⟨e, ti, es, hkt, hti, hes, hts⟩ := fits_some hf
    have hu := hT.slice hkt
    have hsz := fun w => (hT.is hti).size w
    have run : ∀ (c : Ctx) (ac : Act) (b q len cap : Nat), Slots c s ac → ac.eval y = .slice (some ⟨b, q, none⟩) len cap → 0 ≤ n → n < (len : Int) →
        (execOp ac.eval o).run P c.w = .ok (.value (.pointer (some ⟨b, q + n.toNat * es, none⟩))) c.w := by
      intro c ac b q len cap hsl hy h0 h1
      have hz := hsl.eval z; rw [hza] at hz
      simp [execOp, ho, hy, hz.int, Instr.indexAt, asIntOf, run_underlying hu, h0, h1, hsz, hts, add_none]
    cases a <;> (try simp only [reduceCtorEq] at hk)
    case sl id =>
      split at hk
      · rename_i ob hob
        by_cases h0 : 0 ≤ n
        · simp only [h0, decide_true, cond_true] at hk
          by_cases h1 : n < (ob.c.len : Int)
          · simp only [h1, decide_true, cond_true] at hk
            refine told_pure hk fun c ac hs hsl => ?_
            have hr := hsl.eval y; rw [hya] at hr
            simp only [VRep, slRep] at hr
            rcases hr.2 with hd | ⟨i, hi, hr⟩
            · exact absurd hd (hs.alive hob)
            · have hrep := hs.rep hob hi
              have hlen := hrep.len
              have hes' : i.es = es := by simp [esOf, hob] at hes; rw [hrep.es]; exact hes
              rcases hr with ⟨hl, cap, nn, hv, hle, hb, hbn, _⟩ | ⟨_, hl0, _⟩
              · refine ⟨_, run c ac i.b i.base i.len cap hsl hv h0 (by omega), ?_⟩
                simp only [VRep, ptrRep]
                exact ⟨⟨_, rfl⟩, .inr ⟨i, hi, by omega, by rw [hes']; rfl⟩⟩
              · omega
          · simp [h1] at hk
        · simp [h0] at hk
      · cases hk
    case ss id off len =>
      by_cases h0 : 0 ≤ n
      · simp only [h0, decide_true, cond_true] at hk
        by_cases h1 : n < (len : Int)
        · simp only [h1, decide_true, cond_true] at hk
          simp only [esOf, Option.map_eq_some_iff] at hes
          obtain ⟨ob, hob, hes⟩ := hes
          refine told_pure hk fun c ac hs hsl => ?_
          have hr := hsl.eval y; rw [hya] at hr
          simp only [VRep, ssRep] at hr
          rcases hr.2 with hd | ⟨i, hi, hle', hr⟩
          · exact absurd hd (hs.alive hob)
          · have hrep := hs.rep hob hi
            have hes' : i.es = es := by rw [hrep.es]; exact hes
            rcases hr with ⟨hl, cap, nn, hv, hle, hb, hbn⟩ | ⟨hl0, _⟩
            · refine ⟨_, run c ac i.b _ len cap hsl hv h0 h1, ?_⟩
              simp only [VRep, ptrRep]
              refine ⟨⟨_, rfl⟩, .inr ⟨i, hi, by omega, ?_⟩⟩
              rw [hes', Nat.add_mul, Nat.add_assoc]; rfl
            · omega
        · simp [h1] at hk
      · simp [h0] at hk
    case tv u xs =>
      cases u <;> simp only [reduceCtorEq] at hk
      rename_i e'
      change List e'.C at xs
      by_cases h0 : 0 ≤ n
      · simp only [h0, decide_true, cond_true] at hk
        by_cases h1 : n < (List.length xs : Int)
        · simp only [h1, decide_true, cond_true] at hk
          refine told_pure hk fun c ac hs hsl => ?_
          have hr := hsl.eval y; rw [hya] at hr
          simp only [VRep, TRep, Ty.isAgg, Bool.false_eq_true, if_false, CellsRep] at hr
          obtain ⟨v, hv, a, cap, rfl, hle, hnone, hne⟩ := hr
          simp only [List.cons.injEq, and_true] at hv
          have hlt : n.toNat < List.length xs := by omega
          have hxn : xs ≠ [] := by rintro rfl; simp at hlt
          obtain ⟨b, q, ha, hp, hx⟩ := hne hxn
          have hx' : xs[n.toNat]? = some xs[n.toNat] := by simp [hlt]
          obtain ⟨vs, hl, hlies, hrep⟩ := hx _ _ hx'
          have hes' : e'.size = es := by simpa [esOf] using hes
          rw [ha] at hv
          refine ⟨_, run c ac b q _ cap hsl hv h0 h1, ?_⟩
          simp only [VRep]
          have hd : List.getD xs n.toNat e'.dflt = xs[n.toNat] := by simp [List.getD, hlt]
          rw [hd]
          exact ⟨b, q + n.toNat * e'.size, vs, by rw [hes']; rfl, hp, hl, hlies, hrep⟩
        · simp [h1] at hk
      · simp [h0] at hk

/-- What a load from the heap finds. -/
theorem part_at {c : Ctx} {h : Heap} (hs : Sim c h) {id : Nat} {ob : Obj} (hob : hget h id = some ob) {i : Info} (hi : c.m id = some i) {ti : TI} {idx sub : Nat} {v : AV} (hix : idx < i.len)
    (hv : (dpOk ti ob.c sub = true ∧ v = .dp id idx sub) ∨ ob.c.part ti idx sub = some v) :
    ∃ vs, Lies c.w i.b (i.base + idx * i.es) vs ∧
      ((ti.agg = true → sub + ti.size ≤ vs.length ∧ VRep c v (.agg ((vs.drop sub).take ti.size).toArray)) ∧ (ti.agg = false → ti.size = 1 ∧ ∃ u, vs[sub]? = some u ∧ VRep c v u)) := by
  have rep := hs.rep hob hi
  have hdeep : ∀ fx e xs, ob.c = .deep fx e xs → DeepRow c id i fx e xs := fun fx e xs hc => hs.deep id i fx e xs ob.full (hget_lt hob) hi (hs.alive hob) (by rw [hob, ← hc])
  rw [rep.es]
  rcases hv with ⟨hv, rfl⟩ | hv
  · exact dp_deep hi (by rw [← rep.len]; exact hix) hdeep hv
  · have hlt : idx < ob.c.len := by rw [← rep.len]; exact hix
    cases hc : ob.c with
    | deep fx e xs => rw [hc] at hv hlt; exact part_deep (hdeep fx e xs hc) hlt hv
    | typed e xs => rw [← hc]; exact part_ok (by rw [hc]; rfl) rep.cont hlt hv
    | raw a es d xs => rw [← hc]; exact part_ok (by rw [hc]; rfl) rep.cont hlt hv
end
end Go.AM
