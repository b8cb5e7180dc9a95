/- An interpreter of the model's code over values that are told, and its soundness. -/
import Derived.Test.YteojdaobpjhddaaARel
import Derived.Laws.StructEq
import Derived.Laws.Rows
import Derived.Laws.NewBlocks
namespace Go.AM

/-! Soundness: operations. -/

/-- Zero values: the same at any world. -/
def zOk : AV → Value → Bool
  | .int k n, .int k' n' => k = k' && n == n'
  | .bool b, .bool b' => b == b'
  | .str s, .string s' => s.toList == s'.toList
  | .nilp, .pointer none => true
  | .nils, .slice none 0 0 => true
  | .undef, _ => true
  | _, _ => false
def zsOk : List AV → List Value → Bool
  | [], [] => true
  | a :: as, v :: vs => zOk a v && zsOk as vs
  | _, _ => false

/-- The zero of a code, cell by cell. -/
def czOk : (t : Ty) → List AV → Bool
  | .int k, [.int k' n] => k = k' && n == 0
  | .bool, [.bool b] => !b
  | .str, [.str s] => s.toList == []
  | .row _, [.nils] => true
  | .unit, [] => true
  | .pair a b, cs => czOk a (cs.take a.size) && czOk b (cs.drop a.size)
  | .node, [.int .i64 o, .str s, .int .i64 n, .nils] => o == 0 && s.toList == [] && n == 0
  | _, _ => false

def kindOk (P : Program) (t : TypeId) : TK → Bool
  | .int k => match P.underlying t with | some (.int k') => k = k' | _ => false
  | .bool => match P.underlying t with | some .bool => true | _ => false
  | .str => match P.underlying t with | some .string => true | _ => false
  | .slice e => match P.underlying t with | some (.slice e') => e == e' | _ => false
  | .ptr e => match P.underlying t with | some (.pointer e') => e == e' && P.cellsOf e != 0 | _ => false
  | .func => match P.underlying t with | some (.func ..) => true | _ => false
  | .struct fs => match P.underlying t with
    | some (.struct gs) => (gs.toList.map fun g => (g.offset, g.type)) == fs && gs.toList.all (fun g => g.name != "_" && P.cellsOf g.type != 0) && !P.stoodInHeld t && !P.eqGuardType P.depth t
    | _ => false

def isAggV : Value → Bool
  | .agg _ => true
  | _ => false

/-- Is a type as the table tells it? -/
def tyOk (P : Program) (t : TypeId) (ti : TI) : Bool :=
  (match P.info? t with
   | some i => i.size == ti.size && i.bytes == ti.bytes && (match i.zero with | some z => zsOk ti.zero.cells z.cells.toList && (ti.zero.isAgg == isAggV z && z.cells.toList.all Value.oneCell') | none => false)
   | none => false) &&
  kindOk P t ti.kind && (ti.zero.isAgg == ti.agg) && (ti.zero.cells.length == ti.size) && Nat.blt 0 ti.size &&
  (match ti.zero with | .agg _ => true | .tv _ _ => false | _ => true) &&
  (match ti.code with | some c => c.size == ti.size && c.isAgg == ti.agg && czOk c ti.zero.cells | none => true)

def TOk (P : Program) (E : Env) : Prop := ∀ t ti, E.ty t = some ti → tyOk P t ti = true

/-- Slots tell of a frame. -/
def Slots (c : Ctx) (s : List AV) (a : Act) : Prop := s.length = a.tmps.size ∧ ∀ t, VRep c (s.getD t .undef) (a.tmps.getD t undef)

theorem ofVal_rep (c : Ctx) (v : Value) : VRep c (ofVal v) v := by
  cases v with
  | pointer a => cases a <;> simp [ofVal, VRep]
  | slice a n m =>
    cases a with
    | none =>
      cases n with
      | zero => cases m with
        | zero => simp [ofVal, VRep]
        | succ m => simp [ofVal, VRep]
      | succ n => simp [ofVal, VRep]
    | some _ => simp [ofVal, VRep]
  | _ => simp [ofVal, VRep]

theorem Slots.eval {c : Ctx} {s : List AV} {a : Act} (h : Slots c s a) (x : Operand) : VRep c (aeval s x) (a.eval x) := by
  cases x with
  | tmp t => exact h.2 t
  | const v => exact ofVal_rep c v
  | func f => simp only [aeval, Act.eval, VRep]; exact ⟨#[], rfl, by simp [VReps]⟩
  | global g => simp [aeval, VRep]

theorem Slots.mono {c c' : Ctx} (t : Tells c c') {s : List AV} {a : Act} (h : Slots c s a) : Slots c' s a := ⟨h.1, fun i => VRep.mono t (h.2 i)⟩

theorem Slots.put {c : Ctx} {s : List AV} {a : Act} (h : Slots c s a) (d : Option Tmp) {v : AV} {v' : Value} (hv : VRep c v v') : Slots c (putSlot s d v) (a.put d v') := by
  cases d with
  | none => exact h
  | some d =>
    refine ⟨by simp [putSlot, Act.put, h.1], fun t => ?_⟩
    simp only [putSlot, Act.put]
    by_cases ht : t = d
    · subst ht
      by_cases hl : t < s.length
      · have hl' : t < a.tmps.size := by rw [← h.1]; exact hl
        simp [List.getD, Array.getD, hl, hl', hv]
      · simp [List.getD, hl, VRep]
    · have := h.2 t
      simp only [List.getD, Array.getD_eq_getD_getElem?] at this ⊢
      rw [List.getElem?_set_ne (fun e => ht e.symm), Array.getElem?_setIfInBounds_ne (fun e => ht e.symm)]
      exact this

theorem Tells.refl (c : Ctx) : Tells c c := ⟨fun _ _ h => h, fun _ h => h, ⟨fun _ h => h, fun _ _ => rfl⟩, fun _ _ h => h⟩
theorem Was.refl (c : Ctx) (h : Heap) : Was c h c h :=
  ⟨fun _ h => h, Nat.le_refl _, fun _ _ => rfl, fun _ _ h => h, fun _ _ _ => rfl, fun _ h => .inr h, fun _ h => .inl h, rfl, rfl, rfl⟩
theorem Ext.refl (c : Ctx) (h : Heap) : Ext c h c h :=
  ⟨Was.refl c h, Nat.le_refl _, fun _ _ h => h, fun _ _ h h' => absurd (h'.symm.trans h) (by simp), fun _ h => h, fun _ h => .inl h⟩
theorem Was.trans {c c1 c2 : Ctx} {h h1 h2 : Heap} (x : Was c h c1 h1) (y : Was c1 h1 c2 h2) : Was c h c2 h2 where
  pr b hb := y.pr b (x.pr b hb)
  size := Nat.le_trans x.size y.size
  keep b hb := (y.keep b (x.pr b hb)).trans (x.keep b hb)
  blk b n hb := y.blk b n (x.blk b n hb)
  frame b hb hn := (y.frame b (Nat.lt_of_lt_of_le hb x.size) fun hh => (x.own b hh).elim (fun h => by omega) hn).trans (x.frame b hb hn)
  own b hh := (y.own b hh).elim (fun h => .inl (Nat.le_trans x.size h)) (x.own b)
  pnew b hb := by
    rcases y.pnew b hb with h | h
    · exact x.pnew b h
    · exact .inr (Nat.le_trans x.size h)
  os := y.os.trans x.os
  tape := y.tape.trans x.tape
  output := y.output.trans x.output
theorem Ext.trans {c c1 c2 : Ctx} {h h1 h2 : Heap} (x : Ext c h c1 h1) (y : Ext c1 h1 c2 h2) : Ext c h c2 h2 where
  toWas := x.toWas.trans y.toWas
  len := Nat.le_trans x.len y.len
  m id i hi := y.m id i (x.m id i hi)
  fresh id i hi hn := by
    have hl := x.len
    have hl' := y.len
    cases h1 : c1.m id with
    | none => have := y.fresh id i hi h1; omega
    | some j => have := x.fresh id j h1 hn; omega
  dead id hd := y.dead id (x.dead id hd)
  dead' id hd := by
    have hl' := y.len
    rcases y.dead' id hd with h | h
    · rcases x.dead' id h with h | h
      · exact .inl h
      · exact .inr (by omega)
    · exact .inr h
theorem Grow.refl (c : Ctx) (h : Heap) : Grow c h c h := ⟨fun _ _ => rfl, fun _ _ => rfl, rfl, fun _ _ => rfl⟩

/-- A heap that another goes on. -/
def Pre (h h' : Heap) : Prop := h.length ≤ h'.length ∧ ∀ id, id < h.length → hget h' id = hget h id
theorem Pre.refl (h : Heap) : Pre h h := ⟨Nat.le_refl _, fun _ _ => rfl⟩
theorem Pre.trans {h h1 h2 : Heap} (x : Pre h h1) (y : Pre h1 h2) : Pre h h2 := ⟨Nat.le_trans x.1 y.1, fun id hid => (y.2 id (Nat.lt_of_lt_of_le hid x.1)).trans (x.2 id hid)⟩
theorem Pre.snoc (h h' : Heap) : Pre h (h ++ h') := ⟨by simp, fun id hid => by simp [hget, List.getD, List.getElem?_append_left hid]⟩

/-- What is known of heaps before anything runs. -/
def Sta (vs : List AV) (h h' : Heap) (mod : Bool) : Prop := h.length ≤ h'.length ∧ (mod = false → Pre h h') ∧ ∀ id, id < h.length → touch id vs = false → hget h' id = hget h id
theorem Pre.sta {vs : List AV} {h h' : Heap} (p : Pre h h') (mod : Bool) : Sta vs h h' mod := ⟨p.1, fun _ => p, fun id hid _ => p.2 id hid⟩
theorem touch_of {id : Nat} {vs : List AV} (h : touch id vs = false) {v : AV} (hv : v ∈ vs) : tells id 4 v = false := by
  cases ht : tells id 4 v with
  | false => rfl
  | true => rw [touch, List.any_eq_true.2 ⟨v, hv, ht⟩] at h; cases h
theorem touch_sl {id j : Nat} {vs : List AV} (h : touch id vs = false) (hv : AV.sl j ∈ vs) : id ≠ j := fun e => by have := touch_of h hv; subst e; simp [tells] at this
theorem touch_ss {id j a b : Nat} {vs : List AV} (h : touch id vs = false) (hv : AV.ss j a b ∈ vs) : id ≠ j := fun e => by have := touch_of h hv; subst e; simp [tells] at this
theorem touch_ptr {id j a b : Nat} {vs : List AV} (h : touch id vs = false) (hv : AV.ptr j a b ∈ vs) : id ≠ j := fun e => by have := touch_of h hv; subst e; simp [tells] at this
theorem touch_dp {id j a b : Nat} {vs : List AV} (h : touch id vs = false) (hv : AV.dp j a b ∈ vs) : id ≠ j := fun e => by have := touch_of h hv; subst e; simp [tells] at this
theorem hget_set_ne {h : Heap} {id j : Nat} {o : Option Obj} (hn : id ≠ j) : hget (h.set j o) id = hget h id := by
  simp only [hget, List.getD_eq_getElem?_getD]
  rw [List.getElem?_set_ne (fun e => hn e.symm)]
theorem hget_app {h h2 : Heap} {id : Nat} (hid : id < h.length) : hget (h ++ h2) id = hget h id := by
  simp only [hget, List.getD_eq_getElem?_getD]
  rw [List.getElem?_append_left hid]
/-- One row put anew; and rows behind all. -/
theorem sta_set {vs : List AV} {h : Heap} {j : Nat} {o : Option Obj} (hv : ∀ id, touch id vs = false → id ≠ j) : Sta vs h (h.set j o) true :=
  ⟨by simp, fun e => (by cases e), fun id _ ht => hget_set_ne (hv id ht)⟩
theorem sta_setApp {vs : List AV} {h h2 : Heap} {j : Nat} {o : Option Obj} (hv : ∀ id, touch id vs = false → id ≠ j) : Sta vs h (h.set j o ++ h2) true :=
  ⟨by simp, fun e => (by cases e), fun id hid ht => by rw [hget_app (by simpa using hid)]; exact hget_set_ne (hv id ht)⟩

/-- What it takes for an operation to be told: from any state that is told, whatever follows. -/
def OpW (P : Program) (s : List AV) (h : Heap) (o : Oper) (v : AV) (h' : Heap) (mod : Bool) : Prop :=
  ∀ (c : Ctx) (a : Act), Sim c h → Free c h h' → Slots c s a → ∀ (next : Act → World → Prop) (Q : Exit → Act → World → Prop),
    (∀ c' v', Ext c h c' h' → Sim c' h' → VRep c' v v' → (mod = false → Grow c h c' h') → next (a.put o.dst v') c'.w) → o.wp P a c.w next Q
def OpOk (P : Program) (s : List AV) (h : Heap) (o : Oper) (v : AV) (h' : Heap) (mod : Bool) : Prop := OpW P s h o v h' mod ∧ Sta (opVals s o.op) h h' mod

theorem OpOk.value {P : Program} {s : List AV} {h : Heap} {o : Oper} {v : AV}
    (hv : ∀ c a, Sim c h → Slots c s a → ∃ v', (execOp a.eval o).run P c.w = .ok (.value v') c.w ∧ VRep c v v') : OpOk P s h o v h false := by
  refine ⟨?_, (Pre.refl h).sta _⟩
  intro c a hs _ hsl next Q hn
  obtain ⟨v', hr, hv'⟩ := hv c a hs hsl
  unfold Oper.wp
  rw [hr]
  exact hn c v' (Ext.refl c h) hs hv' (fun _ => Grow.refl c h)

/-- A step of the interpreter, told. -/
def Told {ρ : Type} (P : Program) (s : List AV) (h : Heap) (o : Oper) (K : AV → Heap → Bool → Option ρ) (x : ρ) : Prop :=
  ∃ v h' mod, K v h' mod = some x ∧ OpOk P s h o v h' mod

theorem wrapInt {k k' : IntKind} {n n' : Int} (h : Value.int k n = .int k' n') : k = k' ∧ n = n' := by cases h; exact ⟨rfl, rfl⟩

theorem VRep.int {c : Ctx} {k : IntKind} {n : Int} {v : Value} (h : VRep c (.int k n) v) : v = .int k n := by simpa [VRep] using h
theorem VRep.bool {c : Ctx} {b : Bool} {v : Value} (h : VRep c (.bool b) v) : v = .bool b := by simpa [VRep] using h
theorem VRep.str {c : Ctx} {s : ByteArray} {v : Value} (h : VRep c (.str s) v) : v = .string s := by simpa [VRep] using h

section
variable {ρ : Type} {P : Program} {E : Env} {s : List AV} {h : Heap} {o : Oper} {x : ρ}

theorem told_move {y : Operand} (ho : o.op = .move y ∨ o.op = .assign y) {K : AV → Heap → Bool → Option ρ} (hk : K (aeval s y) h false = some x) : Told P s h o K x := by
  refine ⟨_, _, _, hk, .value fun c a _ hsl => ⟨a.eval y, ?_, hsl.eval y⟩⟩
  rcases ho with ho | ho <;> simp [execOp, ho]

theorem told_pick {q a b : Operand} (ho : o.op = .pick q a b) {t : Bool} (ht : aeval s q = .bool t) {K : AV → Heap → Bool → Option ρ}
    (hk : (bif t then K (aeval s a) h false else K (aeval s b) h false) = some x) : Told P s h o K x := by
  cases t with
  | true =>
    refine ⟨_, _, _, hk, .value fun c ac _ hsl => ⟨ac.eval a, ?_, hsl.eval a⟩⟩
    have := hsl.eval q; rw [ht] at this
    simp [execOp, ho, this.bool, asBool]
  | false =>
    refine ⟨_, _, _, hk, .value fun c ac _ hsl => ⟨ac.eval b, ?_, hsl.eval b⟩⟩
    have := hsl.eval q; rw [ht] at this
    simp [execOp, ho, this.bool, asBool]

/-- What is told of a value that needs no memory. -/
theorem told_pure {v : AV} {K : AV → Heap → Bool → Option ρ} (hk : K v h false = some x)
    (hv : ∀ c a, Sim c h → Slots c s a → ∃ v', (execOp a.eval o).run P c.w = .ok (.value v') c.w ∧ VRep c v v') : Told P s h o K x :=
  ⟨v, h, false, hk, .value hv⟩

/-- A word as a value. -/
def AV.word : AV → Value
  | .int k n => .int k n
  | .bool b => .bool b
  | .str s => .string s
  | _ => Go.undef

theorem abinInt_ok {op : BinOp} {k : IntKind} {a b : Int} {K : AV → Option ρ} (hk : abinInt op k a b K = some x) :
    ∃ v, K v = some x ∧ (∀ c, VRep c v v.word) ∧ ∀ (t : TypeId) (w : World), (binOp op t (.int k a) (.int k b)).run P w = .ok v.word w := by
  cases op <;> simp only [abinInt] at hk <;> try (cases hk; done)
  case quo =>
    by_cases hb : b = 0
    · simp [hb] at hk
    · have : (b == 0) = false := by simpa using hb
      simp only [this, cond_false] at hk
      exact ⟨_, hk, fun c => by simp [VRep, AV.word], fun t w => by simp [binOp, Op.intDiv, hb, AV.word]⟩
  case rem =>
    by_cases hb : b = 0
    · simp [hb] at hk
    · have : (b == 0) = false := by simpa using hb
      simp only [this, cond_false] at hk
      exact ⟨_, hk, fun c => by simp [VRep, AV.word], fun t w => by simp [binOp, Op.intDiv, hb, AV.word]⟩
  all_goals exact ⟨_, hk, fun c => by simp [VRep, AV.word], fun t w => by simp [binOp, Op.intArith, Op.intBits, Op.intCmp, AV.word]⟩

theorem ashift_ok {op : BinOp} {k k' : IntKind} {a b : Int} {K : AV → Option ρ} (hop : op = .shl ∨ op = .shr) (hk : ashift op k a b K = some x) :
    ∃ v, K v = some x ∧ (∀ c, VRep c v v.word) ∧ ∀ (t : TypeId) (w : World), (binOp op t (.int k a) (.int k' b)).run P w = .ok v.word w := by
  unfold ashift at hk
  by_cases hb : b < 0
  · simp [hb] at hk
  · simp only [hb, decide_false, cond_false] at hk
    rcases hop with rfl | rfl <;> exact ⟨_, hk, fun c => by simp [VRep, AV.word], fun t w => by simp [binOp, Op.shift, hb, AV.word]⟩

theorem abinStr_ok {op : BinOp} {a b : ByteArray} {K : AV → Option ρ} (hk : abinStr op a b K = some x) :
    ∃ v, K v = some x ∧ (∀ c, VRep c v v.word) ∧ ∀ (t : TypeId) (w : World), (binOp op t (.string a) (.string b)).run P w = .ok v.word w := by
  cases op <;> simp only [abinStr] at hk <;> try (cases hk; done)
  case add =>
    by_cases hb : a.size + b.size ≤ 9223372036854775807
    · simp only [hb, decide_true, cond_true] at hk
      refine ⟨_, hk, fun c => by simp [VRep, AV.word], fun t w => ?_⟩
      have : ¬ (((a.size + b.size : Nat) : Int) > IntKind.i64.max) := by
        have : IntKind.i64.max = 9223372036854775807 := rfl
        omega
      simp only [binOp, Op.stringOp, this, if_false, Sem.run_pure, AV.word]
    · simp [hb] at hk
  all_goals exact ⟨_, hk, fun c => by simp [VRep, AV.word], fun t w => by simp [binOp, Op.stringOp, AV.word]⟩

/-! Structs: cell by cell. -/
theorem CellsRep.vreps {c : Ctx} : ∀ {t : Ty} {x : t.C} {vs : List Value}, CellsRep c.pr c.w t x vs → VReps c (cellsT t x) vs := by
  intro t
  induction t with
  | int k => intro x vs h; simp only [CellsRep] at h; subst h; simp [cellsT, VReps, VRep]
  | bool => intro x vs h; simp only [CellsRep] at h; subst h; simp [cellsT, VReps, VRep]
  | str => intro x vs h; simp only [CellsRep] at h; subst h; simp [cellsT, VReps, VRep]
  | row e ih =>
    intro x vs h
    obtain ⟨v, rfl, hr⟩ := h
    simp only [cellsT, VReps, VRep, TRep, Ty.isAgg, Bool.false_eq_true, if_false, CellsRep, and_true]
    exact ⟨v, rfl, hr⟩
  | unit => intro x vs h; simp only [CellsRep] at h; subst h; simp [cellsT, VReps]
  | pair a b iha ihb =>
    rintro x vs ⟨l, r, rfl, hl, hr⟩
    have h1 := iha hl
    have h2 := ihb hr
    simp only [cellsT]
    clear iha ihb hl hr
    generalize cellsT a x.1 = as at h1
    induction l generalizing as with
    | nil => cases as with
      | nil => simpa using h2
      | cons _ _ => simp [VReps] at h1
    | cons v l ih => cases as with
      | nil => simp [VReps] at h1
      | cons a' as => simp only [VReps, List.cons_append] at h1 ⊢; exact ⟨h1.1, ih _ h1.2⟩
  | node =>
    intro x vs h
    simp only [CellsRep] at h
    cases h with
    | mk o s n kids a cap b off vsf h1 h2 h3 h4 h5 =>
      simp only [cellsT, VReps, VRep, Node.op, Node.s, Node.n, Node.kids, and_true, true_and]
      simp only [TRep, Ty.isAgg, Bool.false_eq_true, if_false, CellsRep]
      refine ⟨_, rfl, a, cap, rfl, h1, h2, fun hne => ⟨b, off, (h3 hne).1, (h3 hne).2, fun i x hi => ⟨vsf i, (h4 i x hi).1, (h4 i x hi).2, h5 i x hi⟩⟩⟩

theorem VReps.length {c : Ctx} : ∀ {as : List AV} {vs : List Value}, VReps c as vs → as.length = vs.length
  | [], [], _ => rfl
  | _ :: as, _ :: vs, h => by simp only [VReps] at h; simp [VReps.length h.2]
  | [], _ :: _, h => by simp [VReps] at h
  | _ :: _, [], h => by simp [VReps] at h

theorem VReps.get {c : Ctx} : ∀ {as : List AV} {vs : List Value}, VReps c as vs → ∀ {i : Nat} {a : AV}, as[i]? = some a → ∃ v, vs[i]? = some v ∧ VRep c a v
  | [], [], _, i, a, hi => by simp at hi
  | a :: as, v :: vs, h, i, b, hi => by
    simp only [VReps] at h
    cases i with
    | zero => simp at hi; subst hi; exact ⟨v, by simp, h.1⟩
    | succ i => simp at hi; obtain ⟨v', hv, hr⟩ := VReps.get h.2 hi; exact ⟨v', by simpa using hv, hr⟩
  | [], _ :: _, h, _, _, _ => by simp [VReps] at h
  | _ :: _, [], h, _, _, _ => by simp [VReps] at h

theorem VReps.append {c : Ctx} : ∀ {as : List AV} {vs : List Value} {bs : List AV} {us : List Value}, VReps c as vs → VReps c bs us → VReps c (as ++ bs) (vs ++ us)
  | [], [], _, _, _, h => by simpa using h
  | a :: as, v :: vs, bs, us, h, h' => by simp only [VReps, List.cons_append] at h ⊢; exact ⟨h.1, VReps.append h.2 h'⟩
  | [], _ :: _, _, _, h, _ => by simp [VReps] at h
  | _ :: _, [], _, _, h, _ => by simp [VReps] at h

theorem VReps.take {c : Ctx} : ∀ {as : List AV} {vs : List Value} (n : Nat), VReps c as vs → VReps c (as.take n) (vs.take n)
  | [], [], _, _ => by simp [VReps]
  | a :: as, v :: vs, n, h => by
    cases n with
    | zero => simp [VReps]
    | succ n => simp only [VReps, List.take_succ_cons] at h ⊢; exact ⟨h.1, VReps.take n h.2⟩
  | [], _ :: _, _, h => by simp [VReps] at h
  | _ :: _, [], _, h => by simp [VReps] at h

theorem VReps.drop {c : Ctx} : ∀ {as : List AV} {vs : List Value} (n : Nat), VReps c as vs → VReps c (as.drop n) (vs.drop n)
  | [], [], _, _ => by simp [VReps]
  | a :: as, v :: vs, n, h => by
    cases n with
    | zero => simpa using h
    | succ n => simp only [VReps, List.drop_succ_cons] at h ⊢; exact VReps.drop n h.2
  | [], _ :: _, _, h => by simp [VReps] at h
  | _ :: _, [], _, h => by simp [VReps] at h

theorem VRep.agg {c : Ctx} {a : AV} {v : Value} (h : VRep c a v) (ha : a.isAgg = true) : ∃ vs : Array Value, v = .agg vs ∧ VReps c a.cells vs.toList := by
  cases a <;> simp [AV.isAgg] at ha
  case agg cs => simpa [VRep, AV.cells] using h
  case tv t x =>
    simp only [VRep, TRep, ha, if_true] at h
    obtain ⟨vs, hv, hc⟩ := h
    exact ⟨vs, hv, by simpa [AV.cells, ha] using hc.vreps⟩

/-- What is no struct has one cell: itself. -/
theorem AV.cells_one {a : AV} (ha : a.isAgg = false) : a.cells = [a] := by
  cases a <;> simp [AV.isAgg, AV.cells] at *
  simp [ha]

end
end Go.AM
