/- An interpreter of the model's code over values that are told, and its soundness. -/
import Derived.Test.YteojdaobpjhddaaAAM
import Derived.Laws.IdiomCopy
namespace Go.AM

/-! What abstract values and heaps tell of a world. -/

/-- Where a row lies, if anywhere: block, first cell; its elements, an element's cells; has it no room. -/
structure Info where
  loc : Bool
  b : Nat
  base : Nat
  len : Nat
  es : Nat
  full : Bool
  /-- The slices that stay in the cells of a deep row's elements. -/
  hd : Nat → Nat → Value → Prop := fun _ _ _ => False

/-- Where a row lies; no slices in it stay. -/
@[reducible] def inf (loc : Bool) (b base len es : Nat) (full : Bool) : Info := { loc, b, base, len, es, full }

structure Ctx where
  m : Nat → Option Info
  dead : Nat → Prop
  pr : Nat → Prop
  w : World
  /-- The blocks that a row's elements lead to, nobody else's. -/
  own : Nat → Nat → Prop

def cellAt (w : World) (b o : Nat) : Option Value := w.cell? ⟨b, o, none⟩

/-- Cells from a place on. -/
def Lies (w : World) (b o : Nat) (vs : List Value) : Prop := ∀ (j : Nat) (v : Value), vs[j]? = some v → cellAt w b (o + j) = some v

/-- A slice value that stays. -/
def RowG {α : Type} (pr : Nat → Prop) (w : World) (size : Nat) (R : α → List Value → Prop) (xs : List α) (v : Value) : Prop :=
  ∃ (a : Option Addr) (cap : Nat), v = .slice a xs.length cap ∧ xs.length ≤ cap ∧ (a = none → cap = 0) ∧
    (xs ≠ [] → ∃ b o, a = some ⟨b, o, none⟩ ∧ pr b ∧ ∀ (i : Nat) (x : α), xs[i]? = some x → ∃ vs, vs.length = size ∧ Lies w b (o + i * size) vs ∧ R x vs)

inductive NodeRep (pr : Nat → Prop) (w : World) : Node → List Value → Prop
  | mk (o : Int) (s : ByteArray) (n : Int) (kids : List Node) (a : Option Addr) (cap : Nat) (b off : Nat) (vsf : Nat → List Value) :
      kids.length ≤ cap → (a = none → cap = 0) → (kids ≠ [] → a = some ⟨b, off, none⟩ ∧ pr b) →
      (∀ (i : Nat) (x : Node), kids[i]? = some x → (vsf i).length = 4 ∧ Lies w b (off + i * 4) (vsf i)) →
      (∀ (i : Nat) (x : Node), kids[i]? = some x → NodeRep pr w x (vsf i)) →
      NodeRep pr w (.mk o s n kids) [.int .i64 o, .string s, .int .i64 n, .slice a kids.length cap]

/-- Cells that hold a typed value. -/
def CellsRep (pr : Nat → Prop) (w : World) : (t : Ty) → t.C → List Value → Prop
  | .int k, n, vs => vs = [.int k n]
  | .bool, b, vs => vs = [.bool b]
  | .str, s, vs => vs = [.string s]
  | .row e, xs, vs => ∃ v, vs = [v] ∧ RowG pr w e.size (CellsRep pr w e) xs v
  | .unit, _, vs => vs = []
  | .pair a b, x, vs => ∃ l r, vs = l ++ r ∧ CellsRep pr w a x.1 l ∧ CellsRep pr w b x.2 r
  | .node, x, vs => NodeRep pr w x vs

/-- A row's elements, what each leads to its own. -/
def DRow {α : Type} (w : World) (size : Nat) (R : α → List Value → (Nat → Prop) → Prop) (F : Nat → Prop) (b base : Nat) (xs : List α) : Prop :=
  ∃ G : Nat → Nat → Prop, (∀ j k, G j k → F k ∧ k ≠ b) ∧ (∀ j j' k, G j k → G j' k → j = j') ∧
    ∀ (j : Nat) (x : α), xs[j]? = some x → ∃ vs, vs.length = size ∧ Lies w b (base + j * size) vs ∧ R x vs (G j)

/-- The block of a row: so many cells, none frozen. -/
def Blk (w : World) (b n : Nat) : Prop :=
  ∃ C T fr, w.heap[b]? = some (.cells C T fr) ∧ C.size = n ∧ ∀ i, i < n → w.frozen? ⟨b, i, none⟩ = false

/-- Cells that hold a typed value, all that it leads to in blocks of its own. -/
def DCells (w : World) : (t : Ty) → t.C → List Value → (Nat → Prop) → Prop
  | .int k, n, vs, _ => vs = [.int k n]
  | .bool, b, vs, _ => vs = [.bool b]
  | .str, s, vs, _ => vs = [.string s]
  | .row e, xs, vs, F => (List.length xs = 0 ∧ ∃ a, vs = [.slice a 0 0]) ∨
      ∃ b o cap n, vs = [.slice (some ⟨b, o, none⟩) (List.length xs) cap] ∧ List.length xs ≤ cap ∧ F b ∧ Blk w b n ∧ o + cap * e.size ≤ n ∧ DRow w e.size (DCells w e) F b o xs
  | .unit, _, vs, _ => vs = []
  | .pair a b, x, vs, F => ∃ l r L R, vs = l ++ r ∧ (∀ k, L k → F k) ∧ (∀ k, R k → F k) ∧ (∀ k, L k → ¬ R k) ∧ DCells w a x.1 l L ∧ DCells w b x.2 r R
  | .node, _, _, _ => False

def TRep (pr : Nat → Prop) (w : World) (t : Ty) (x : t.C) (v : Value) : Prop :=
  if t.isAgg then ∃ vs : Array Value, v = .agg vs ∧ CellsRep pr w t x vs.toList else CellsRep pr w t x [v]

def slRep (c : Ctx) (id : Nat) (v : Value) : Prop :=
  (∃ a n m, v = .slice a n m) ∧ (c.dead id ∨ ∃ i, c.m id = some i ∧
    ((i.loc = true ∧ ∃ cap n, v = .slice (some ⟨i.b, i.base, none⟩) i.len cap ∧ i.len ≤ cap ∧ Blk c.w i.b n ∧ i.base + cap * i.es ≤ n ∧ (i.full = true → cap = i.len)) ∨
     (i.loc = false ∧ i.len = 0 ∧ ∃ a, v = .slice a 0 0)))

def ssRep (c : Ctx) (id off len : Nat) (v : Value) : Prop :=
  (∃ a n m, v = .slice a n m) ∧ (c.dead id ∨ ∃ i, c.m id = some i ∧ off + len ≤ i.len ∧
    ((i.loc = true ∧ ∃ cap n, v = .slice (some ⟨i.b, i.base + off * i.es, none⟩) len cap ∧ len ≤ cap ∧ Blk c.w i.b n ∧ i.base + (off + cap) * i.es ≤ n) ∨
     (len = 0 ∧ ∃ a, v = .slice a 0 0)))

def ptrRep (c : Ctx) (id idx sub : Nat) (v : Value) : Prop :=
  (∃ p, v = .pointer (some p)) ∧ (c.dead id ∨ ∃ i, c.m id = some i ∧ idx < i.len ∧ v = .pointer (some ⟨i.b, i.base + idx * i.es + sub, none⟩))

def dpRep (c : Ctx) (id idx sub : Nat) (v : Value) : Prop :=
  (∃ a n m, v = .slice a n m) ∧ (c.dead id ∨ ∃ i, c.m id = some i ∧ i.hd idx sub v)

mutual
/-- What an abstract value tells of a value. -/
def VRep (c : Ctx) : AV → Value → Prop
  | .undef, _ => True
  | .int k n, v => v = .int k n
  | .bool b, v => v = .bool b
  | .str s, v => v = .string s
  | .nilp, v => v = .pointer none
  | .fn f caps, v => ∃ ws : Array Value, v = .func (.func f) #[] ws ∧ VReps c caps ws.toList
  | .agg cs, v => ∃ ws : Array Value, v = .agg ws ∧ VReps c cs ws.toList
  | .tup vs, v => ∃ ws : Array Value, v = .tuple ws ∧ VReps c vs ws.toList
  | .ptr id idx sub, v => ptrRep c id idx sub v
  | .sl id, v => slRep c id v
  | .ss id off len, v => ssRep c id off len v
  | .dp id idx sub, v => dpRep c id idx sub v
  | .nils, v => ∃ a, v = .slice a 0 0
  | .tv t x, v => TRep c.pr c.w t x v
  | .tp t x sub, v => ∃ b o vs, v = .pointer (some ⟨b, o + sub, none⟩) ∧ c.pr b ∧ vs.length = t.size ∧ Lies c.w b o vs ∧ CellsRep c.pr c.w t x vs
  | .bp cs sub, v => ∃ b o ws, v = .pointer (some ⟨b, o + sub, none⟩) ∧ c.pr b ∧ Lies c.w b o ws ∧ VReps c cs ws
def VReps (c : Ctx) : List AV → List Value → Prop
  | [], [] => True
  | a :: as, v :: vs => VRep c a v ∧ VReps c as vs
  | _, _ => False
end

/-- What a row of the heap tells of its block. -/
def contRep (c : Ctx) (b base : Nat) : Cont → Prop
  | .typed e xs => ∀ (i : Nat) (x : e.C), xs[i]? = some x → ∃ vs, vs.length = e.size ∧ Lies c.w b (base + i * e.size) vs ∧ CellsRep c.pr c.w e x vs
  | .raw a es d xs => d.isAgg = a ∧ d.size = es ∧ ∀ (i : Nat) (x : AV), xs[i]? = some x → x.isAgg = a ∧ x.size = es ∧ ∃ vs, vs.length = es ∧ Lies c.w b (base + i * es) vs ∧ VReps c x.cells vs ∧ ∀ v ∈ vs, v.oneCell' = true
  | .deep _ e xs => ∀ (i : Nat) (x : e.C), xs[i]? = some x → ∃ vs, vs.length = e.size ∧ Lies c.w b (base + i * e.size) vs ∧ ∀ v ∈ vs, v.oneCell' = true

structure ObjRep (c : Ctx) (i : Info) (o : Obj) : Prop where
  len : i.len = o.c.len
  es : i.es = o.c.es
  pos : 0 < i.es
  full : i.full = o.full
  loc : 0 < i.len → i.loc = true
  blk : i.loc = true → ∃ n, Blk c.w i.b n ∧ i.base + i.len * i.es ≤ n
  cont : contRep c i.b i.base o.c

/-- The blocks that rows have beside their own. -/
structure OwnOk (c : Ctx) : Prop where
  low : ∀ id b, ¬ c.dead id → c.own id b → b < c.w.heap.size
  inj : ∀ id id' b, ¬ c.dead id → ¬ c.dead id' → c.own id b → c.own id' b → id = id'
  row : ∀ id id' i, ¬ c.dead id → ¬ c.dead id' → c.m id' = some i → i.loc = true → ¬ c.own id i.b
  apart : ∀ id b, ¬ c.dead id → c.own id b → ¬ c.pr b
  told : ∀ id b, c.own id b → c.m id ≠ none

/-- A deep row. -/
structure DeepRow (c : Ctx) (id : Nat) (i : Info) (fx : Bool) (e : Ty) (xs : List e.C) : Prop where
  row : DRow c.w e.size (DCells c.w e) (c.own id) i.b i.base xs
  hd : fx = true → ∀ idx sub v, idx < List.length xs → (rowAt e sub).isSome = true → cellAt c.w i.b (i.base + idx * e.size + sub) = some v → i.hd idx sub v
  hd' : ∀ idx sub v, i.hd idx sub v → fx = true ∧ idx < List.length xs ∧ (rowAt e sub).isSome = true ∧ cellAt c.w i.b (i.base + idx * e.size + sub) = some v

/-- Does a row have a block? -/
def Ctx.at (c : Ctx) (id b : Nat) : Prop := c.own id b ∨ ∃ i, c.m id = some i ∧ i.loc = true ∧ i.b = b
def Ctx.has (c : Ctx) (n b : Nat) : Prop := ∃ id, id < n ∧ ¬ c.dead id ∧ c.at id b

structure Sim (c : Ctx) (h : Heap) : Prop where
  obj : ∀ id i, id < h.length → c.m id = some i → ¬ c.dead id → ∃ o, hget h id = some o ∧ ObjRep c i o
  gone : ∀ id, id < h.length → c.dead id → hget h id = none
  low : ∀ id i, c.m id = some i → ¬ c.dead id → i.loc = true → i.b < c.w.heap.size
  inj : ∀ id id' i i', c.m id = some i → c.m id' = some i' → ¬ c.dead id → ¬ c.dead id' → i.loc = true → i'.loc = true → i.b = i'.b → id = id'
  plow : ∀ b, c.pr b → b < c.w.heap.size
  apart : ∀ id i, c.m id = some i → ¬ c.dead id → i.loc = true → ¬ c.pr i.b
  own : OwnOk c
  deep : ∀ id i fx e xs f, id < h.length → c.m id = some i → ¬ c.dead id → hget h id = some ⟨.deep fx e xs, f⟩ → DeepRow c id i fx e xs

/-- From a state on: what stays, by whatever numbers. -/
structure Was (c : Ctx) (h : Heap) (c' : Ctx) (h' : Heap) : Prop where
  pr : ∀ b, c.pr b → c'.pr b
  size : c.w.heap.size ≤ c'.w.heap.size
  keep : ∀ b, c.pr b → c'.w.heap[b]? = c.w.heap[b]?
  blk : ∀ b n, Blk c.w b n → Blk c'.w b n
  frame : ∀ b, b < c.w.heap.size → ¬ c.has h.length b → c'.w.heap[b]? = c.w.heap[b]?
  own : ∀ b, c'.has h'.length b → c.w.heap.size ≤ b ∨ c.has h.length b
  pnew : ∀ b, c'.pr b → c.pr b ∨ c.w.heap.size ≤ b
  os : c'.w.os = c.w.os
  tape : c'.w.tape = c.w.tape
  output : c'.w.output = c.w.output

/-- From a state on: what was told stays told. -/
structure Ext (c : Ctx) (h : Heap) (c' : Ctx) (h' : Heap) : Prop extends Was c h c' h' where
  len : h.length ≤ h'.length
  m : ∀ id i, c.m id = some i → c'.m id = some i
  fresh : ∀ id i, c'.m id = some i → c.m id = none → h.length ≤ id ∧ id < h'.length
  dead : ∀ id, c.dead id → c'.dead id
  dead' : ∀ id, c'.dead id → c.dead id ∨ id < h'.length

/-- A state in which memory has grown alone. -/
structure Grow (c : Ctx) (h : Heap) (c' : Ctx) (h' : Heap) : Prop where
  old : ∀ b, b < c.w.heap.size → c'.w.heap[b]? = c.w.heap[b]?
  heap : ∀ id, id < h.length → hget h' id = hget h id
  dead : c'.dead = c.dead
  own : ∀ id, c.m id ≠ none → c'.own id = c.own id

/-- The rows to come are not told of yet. -/
def Free (c : Ctx) (h h' : Heap) : Prop := ∀ id, h.length ≤ id → id < h'.length → c.m id = none ∧ ¬ c.dead id


/-! What stays told. -/
theorem cellAt_of_block {w w' : World} {b o : Nat} (h : w'.heap[b]? = w.heap[b]?) : cellAt w' b o = cellAt w b o := by
  simp [cellAt, World.cell?, h]

theorem Lies.of_block {w w' : World} {b o : Nat} {vs : List Value} (h : w'.heap[b]? = w.heap[b]?) (hl : Lies w b o vs) : Lies w' b o vs :=
  fun j v hv => (cellAt_of_block h).trans (hl j v hv)

/-- The protected blocks stay: what they hold stays told. -/
structure Keeps (p p' : Nat → Prop) (w w' : World) : Prop where
  pr : ∀ b, p b → p' b
  keep : ∀ b, p b → w'.heap[b]? = w.heap[b]?

theorem RowG.mono {α : Type} {pr pr' : Nat → Prop} {w w' : World} {size : Nat} {R R' : α → List Value → Prop} {xs : List α} {v : Value}
    (k : Keeps pr pr' w w') (hR : ∀ x vs, R x vs → R' x vs) (h : RowG pr w size R xs v) : RowG pr' w' size R' xs v := by
  obtain ⟨a, cap, hv, hl, hn, hb⟩ := h
  refine ⟨a, cap, hv, hl, hn, fun hne => ?_⟩
  obtain ⟨b, o, ha, hp, hx⟩ := hb hne
  refine ⟨b, o, ha, k.pr _ hp, fun i x hi => ?_⟩
  obtain ⟨vs, hlen, hlies, hr⟩ := hx i x hi
  exact ⟨vs, hlen, hlies.of_block (k.keep _ hp), hR _ _ hr⟩

theorem NodeRep.mono {pr pr' : Nat → Prop} {w w' : World} (k : Keeps pr pr' w w') {x : Node} {vs : List Value} (h : NodeRep pr w x vs) : NodeRep pr' w' x vs := by
  induction h with
  | mk o s n kids a cap b off vsf h1 h2 h3 h4 h5 ih =>
    refine .mk o s n kids a cap b off vsf h1 h2 (fun hne => ⟨(h3 hne).1, k.pr _ (h3 hne).2⟩) (fun i x hi => ⟨(h4 i x hi).1, ?_⟩) ih
    have hne : kids ≠ [] := by rintro rfl; simp at hi
    exact (h4 i x hi).2.of_block (k.keep _ (h3 hne).2)

theorem CellsRep.mono {pr pr' : Nat → Prop} {w w' : World} (k : Keeps pr pr' w w') : ∀ {t : Ty} {x : t.C} {vs : List Value}, CellsRep pr w t x vs → CellsRep pr' w' t x vs := by
  intro t
  induction t with
  | int _ => intro x vs h; exact h
  | bool => intro x vs h; exact h
  | str => intro x vs h; exact h
  | row e ih => rintro x vs ⟨v, rfl, h⟩; exact ⟨v, rfl, h.mono k (fun x vs hx => ih hx)⟩
  | unit => intro x vs h; exact h
  | pair a b iha ihb => rintro x vs ⟨l, r, rfl, hl, hr⟩; exact ⟨l, r, rfl, iha hl, ihb hr⟩
  | node => intro x vs h; exact NodeRep.mono k h

theorem TRep.mono {pr pr' : Nat → Prop} {w w' : World} (k : Keeps pr pr' w w') {t : Ty} {x : t.C} {v : Value} (h : TRep pr w t x v) : TRep pr' w' t x v := by
  unfold TRep at *
  split
  · rename_i ht; rw [if_pos ht] at h; obtain ⟨vs, hv, hc⟩ := h; exact ⟨vs, hv, hc.mono k⟩
  · rename_i ht; rw [if_neg ht] at h; exact h.mono k

/-- From one frame of telling to another. -/
structure Tells (c c' : Ctx) : Prop where
  m : ∀ id i, c.m id = some i → c'.m id = some i
  dead : ∀ id, c.dead id → c'.dead id
  k : Keeps c.pr c'.pr c.w c'.w
  blk : ∀ b n, Blk c.w b n → Blk c'.w b n

theorem Ext.tells {c c' : Ctx} {h h' : Heap} (x : Ext c h c' h') : Tells c c' := ⟨x.m, x.dead, ⟨x.pr, x.keep⟩, x.blk⟩

theorem slRep.mono {c c' : Ctx} (t : Tells c c') {id : Nat} {v : Value} (h : slRep c id v) : slRep c' id v := by
  refine ⟨h.1, ?_⟩
  rcases h.2 with h | ⟨i, hi, h⟩
  · exact .inl (t.dead _ h)
  · refine .inr ⟨i, t.m _ _ hi, ?_⟩
    rcases h with ⟨hl, cap, n, h1, h2, h3, h4⟩ | h
    · exact .inl ⟨hl, cap, n, h1, h2, t.blk _ _ h3, h4⟩
    · exact .inr h

theorem ssRep.mono {c c' : Ctx} (t : Tells c c') {id off len : Nat} {v : Value} (h : ssRep c id off len v) : ssRep c' id off len v := by
  refine ⟨h.1, ?_⟩
  rcases h.2 with h | ⟨i, hi, hle, h⟩
  · exact .inl (t.dead _ h)
  · refine .inr ⟨i, t.m _ _ hi, hle, ?_⟩
    rcases h with ⟨hl, cap, n, h1, h2, h3, h4⟩ | h
    · exact .inl ⟨hl, cap, n, h1, h2, t.blk _ _ h3, h4⟩
    · exact .inr h

theorem dpRep.mono {c c' : Ctx} (t : Tells c c') {id idx sub : Nat} {v : Value} (h : dpRep c id idx sub v) : dpRep c' id idx sub v := by
  refine ⟨h.1, ?_⟩
  rcases h.2 with h | ⟨i, hi, h⟩
  · exact .inl (t.dead _ h)
  · exact .inr ⟨i, t.m _ _ hi, h⟩

theorem ptrRep.mono {c c' : Ctx} (t : Tells c c') {id idx sub : Nat} {v : Value} (h : ptrRep c id idx sub v) : ptrRep c' id idx sub v := by
  refine ⟨h.1, ?_⟩
  rcases h.2 with h | ⟨i, hi, h⟩
  · exact .inl (t.dead _ h)
  · exact .inr ⟨i, t.m _ _ hi, h⟩

mutual
theorem VRep.mono {c c' : Ctx} (t : Tells c c') : ∀ {a : AV} {v : Value}, VRep c a v → VRep c' a v
  | .undef, _, _ => by simp [VRep]
  | .int _ _, _, h => by simpa [VRep] using h
  | .bool _, _, h => by simpa [VRep] using h
  | .str _, _, h => by simpa [VRep] using h
  | .nilp, _, h => by simpa [VRep] using h
  | .nils, _, h => by simpa [VRep] using h
  | .fn f caps, v, h => by
    simp only [VRep] at h ⊢
    obtain ⟨ws, hv, h⟩ := h
    exact ⟨ws, hv, VReps.mono t h⟩
  | .agg cs, v, h => by
    simp only [VRep] at h ⊢
    obtain ⟨ws, hv, h⟩ := h
    exact ⟨ws, hv, VReps.mono t h⟩
  | .tup cs, v, h => by
    simp only [VRep] at h ⊢
    obtain ⟨ws, hv, h⟩ := h
    exact ⟨ws, hv, VReps.mono t h⟩
  | .ptr _ _ _, _, h => by simp only [VRep] at h ⊢; exact h.mono t
  | .sl _, _, h => by simp only [VRep] at h ⊢; exact h.mono t
  | .ss _ _ _, _, h => by simp only [VRep] at h ⊢; exact h.mono t
  | .dp _ _ _, _, h => by simp only [VRep] at h ⊢; exact h.mono t
  | .tv _ _, _, h => by simp only [VRep] at h ⊢; exact h.mono t.k
  | .tp ty x sub, v, h => by
    simp only [VRep] at h ⊢
    obtain ⟨b, o, vs, hv, hp, hl, hlies, hc⟩ := h
    exact ⟨b, o, vs, hv, t.k.pr _ hp, hl, hlies.of_block (t.k.keep _ hp), hc.mono t.k⟩
  | .bp cs sub, v, h => by
    simp only [VRep] at h ⊢
    obtain ⟨b, o, ws, hv, hp, hlies, hc⟩ := h
    exact ⟨b, o, ws, hv, t.k.pr _ hp, hlies.of_block (t.k.keep _ hp), VReps.mono t hc⟩
theorem VReps.mono {c c' : Ctx} (t : Tells c c') : ∀ {as : List AV} {vs : List Value}, VReps c as vs → VReps c' as vs
  | [], [], _ => by simp [VReps]
  | a :: as, v :: vs, h => by
    simp only [VReps] at h ⊢
    exact ⟨VRep.mono t h.1, VReps.mono t h.2⟩
  | [], _ :: _, h => by simp [VReps] at h
  | _ :: _, [], h => by simp [VReps] at h
end

theorem Blk.of_block' {w w' : World} {b n : Nat} (h : w'.heap[b]? = w.heap[b]?) (hb : Blk w b n) : Blk w' b n := by
  obtain ⟨C, T, fr, h1, h2, h3⟩ := hb
  exact ⟨C, T, fr, h.trans h1, h2, fun i hi => (show w'.frozen? ⟨b, i, none⟩ = w.frozen? ⟨b, i, none⟩ by simp [World.frozen?, h]).trans (h3 i hi)⟩

theorem DRow.mono {α : Type} {w w' : World} {size : Nat} {R R' : α → List Value → (Nat → Prop) → Prop} {F F' : Nat → Prop} {b base : Nat} {xs : List α} (hb : xs ≠ [] → w'.heap[b]? = w.heap[b]?) (hF : ∀ k, F k → F' k)
    (hR : ∀ x vs G, (∀ k, G k → F k) → R x vs G → R' x vs G) (h : DRow w size R F b base xs) : DRow w' size R' F' b base xs := by
  obtain ⟨G, h1, h2, h3⟩ := h
  refine ⟨G, fun j k hk => ⟨hF k (h1 j k hk).1, (h1 j k hk).2⟩, h2, fun j x hj => ?_⟩
  obtain ⟨vs, q1, q2, q3⟩ := h3 j x hj
  exact ⟨vs, q1, q2.of_block (hb (fun e => by rw [e] at hj; simp at hj)), hR x vs (G j) (fun k hk => (h1 j k hk).1) q3⟩

theorem DCells.mono {w w' : World} : ∀ {t : Ty} {x : t.C} {vs : List Value} {F F' : Nat → Prop}, (∀ b, F b → w'.heap[b]? = w.heap[b]?) → (∀ k, F k → F' k) → DCells w t x vs F → DCells w' t x vs F' := by
  intro t
  induction t with
  | int _ => intro x vs F F' _ _ h; exact h
  | bool => intro x vs F F' _ _ h; exact h
  | str => intro x vs F F' _ _ h; exact h
  | unit => intro x vs F F' _ _ h; exact h
  | node => intro x vs F F' _ _ h; exact h
  | row e ih =>
    intro x vs F F' hk hF h
    rcases h with h | ⟨b, o, cap, n, h1, h2, h3, h4, h5, h6⟩
    · exact .inl h
    · exact .inr ⟨b, o, cap, n, h1, h2, hF b h3, h4.of_block' (hk b h3), h5, h6.mono (fun _ => hk b h3) hF fun y us G hG hy => ih (fun k hk' => hk k (hG k hk')) (fun _ h => h) hy⟩
  | pair a b iha ihb =>
    intro x vs F F' hk hF h
    obtain ⟨l, r, L, R, h1, h2, h3, h4, h5, h6⟩ := h
    exact ⟨l, r, L, R, h1, fun k q => hF k (h2 k q), fun k q => hF k (h3 k q), h4, iha (fun k q => hk k (h2 k q)) (fun _ h => h) h5, ihb (fun k q => hk k (h3 k q)) (fun _ h => h) h6⟩

theorem DeepRow.mono {c c' : Ctx} {id id' : Nat} {i : Info} {fx : Bool} {e : Ty} {xs : List e.C} (ho : ∀ b, c.own id b → c'.own id' b) (hk : ∀ b, c.own id b → c'.w.heap[b]? = c.w.heap[b]?) (hb : xs ≠ [] → c'.w.heap[i.b]? = c.w.heap[i.b]?)
    (h : DeepRow c id i fx e xs) : DeepRow c' id' i fx e xs where
  row := h.row.mono hb ho fun _ _ _ hG q => q.mono (fun b hb => hk b (hG b hb)) (fun _ h => h)
  hd hf idx sub v h1 h2 h3 := h.hd hf idx sub v h1 h2 (by rw [← cellAt_of_block (hb (fun e => by rw [e] at h1; simp at h1))]; exact h3)
  hd' idx sub v q := by
    obtain ⟨q1, q2, q3, q4⟩ := h.hd' idx sub v q
    exact ⟨q1, q2, q3, by rw [cellAt_of_block (hb (fun e => by rw [e] at q2; simp at q2))]; exact q4⟩

theorem OwnOk.step {c c' : Ctx} (s : OwnOk c) (ho : c'.own = c.own) (hd : ∀ id, c.dead id → c'.dead id) (hm : ∀ id i, c.m id = some i → c'.m id = some i) (hsz : c.w.heap.size ≤ c'.w.heap.size) (hpr : ∀ b, c'.pr b → c.pr b ∨ c.w.heap.size ≤ b)
    (hrow : ∀ id i, c'.m id = some i → ¬ c'.dead id → i.loc = true → ∀ k, ¬ c.dead k → ¬ c.own k i.b) : OwnOk c' where
  low id b h1 h2 := by rw [ho] at h2; have := s.low id b (fun h => h1 (hd _ h)) h2; omega
  inj id id' b h1 h2 h3 h4 := by rw [ho] at h3 h4; exact s.inj id id' b (fun h => h1 (hd _ h)) (fun h => h2 (hd _ h)) h3 h4
  row id id' i h1 h2 h3 h4 h5 := by rw [ho] at h5; exact hrow id' i h3 h2 h4 id (fun h => h1 (hd _ h)) h5
  apart id b h1 h2 h3 := by
    rw [ho] at h2
    have h1' := fun h => h1 (hd _ h)
    rcases hpr b h3 with h | h
    · exact s.apart id b h1' h2 h
    · have := s.low id b h1' h2; omega
  told id b h1 h2 := by
    rw [ho] at h1
    have := s.told id b h1
    cases hh : c.m id with
    | none => exact this hh
    | some i => rw [hm id i hh] at h2; cases h2
theorem OwnOk.fresh {c : Ctx} (s : OwnOk c) {b : Nat} (h : c.w.heap.size ≤ b) : ∀ k, ¬ c.dead k → ¬ c.own k b := fun k hk ho => by have := s.low k b hk ho; omega
theorem OwnOk.off {c : Ctx} (s : OwnOk c) {id : Nat} {i : Info} (h1 : c.m id = some i) (h2 : ¬ c.dead id) (h3 : i.loc = true) : ∀ k, ¬ c.dead k → ¬ c.own k i.b := fun k hk => s.row k id i hk h2 h1 h3
end Go.AM
