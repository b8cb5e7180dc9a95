/- An interpreter of the model's code over values that are told, and its soundness. -/
import Derived.Test.YteojdaobpjhddaaAS5
namespace Go.AM

/-! Soundness: memory that is written, taken over, made. -/
theorem Blk.of_block {w w' : World} {b n : Nat} (h : w'.heap[b]? = w.heap[b]?) (hb : Blk w b n) : Blk w' b n := by
  obtain ⟨C, T, fr, h1, h2, h3⟩ := hb
  exact ⟨C, T, fr, h.trans h1, h2, fun i hi => (World.frozen?_of_block (a := ⟨b, i, none⟩) h).trans (h3 i hi)⟩

/-- Nothing but one block changes. -/
structure Only (w w' : World) (b : Nat) : Prop where
  size : w'.heap.size = w.heap.size
  other : ∀ k, k ≠ b → w'.heap[k]? = w.heap[k]?
  blk' : ∀ n, Blk w b n → Blk w' b n
  os : w'.os = w.os
  tape : w'.tape = w.tape
  output : w'.output = w.output

theorem Only.refl (w : World) (b : Nat) : Only w w b := ⟨rfl, fun _ _ => rfl, fun _ h => h, rfl, rfl, rfl⟩
theorem Only.trans {w w1 w2 : World} {b : Nat} (x : Only w w1 b) (y : Only w1 w2 b) : Only w w2 b :=
  ⟨y.size.trans x.size, fun k hk => (y.other k hk).trans (x.other k hk), fun n h => y.blk' n (x.blk' n h), y.os.trans x.os, y.tape.trans x.tape, y.output.trans x.output⟩
theorem Only.blk {w w' : World} {b : Nat} (x : Only w w' b) (k n : Nat) (h : Blk w k n) : Blk w' k n := by
  by_cases hk : k = b
  · subst hk; exact x.blk' n h
  · exact h.of_block (x.other k hk)

theorem only_setCell (w : World) (b o : Nat) (v : Value) : Only w (w.setCell ⟨b, o, none⟩ v) b := by
  refine ⟨by simp, fun k hk => heap_setCell_other w _ k v hk, fun n hb => ?_, rfl, rfl, rfl⟩
  obtain ⟨C, T, fr, h1, h2, h3⟩ := hb
  refine ⟨C.setIfInBounds o v, T, fr, ?_, by simpa using h2, fun i hi => by rw [World.frozen?_setCell]; exact h3 i hi⟩
  simp [World.setCell, Array.getElem?_modify, h1]

theorem only_setCells (b : Nat) : ∀ (vs : List Value) (o : Nat) (w : World), Only w (w.setCells b o vs) b
  | [], _, w => Only.refl w b
  | v :: vs, o, w => (only_setCell w b o v).trans (only_setCells b vs (o + 1) _)

theorem Blk.cell {w : World} {b n o : Nat} (hb : Blk w b n) (ho : o < n) : (w.cell? ⟨b, o, none⟩).isSome = true := by
  obtain ⟨C, T, fr, h1, h2, _⟩ := hb
  rw [cell_of_row w b o C T fr h1]
  simp [h2, ho]

theorem Blk.frozen {w : World} {b n o : Nat} (hb : Blk w b n) (ho : o < n) : w.frozen? ⟨b, o, none⟩ = false := by
  obtain ⟨C, T, fr, h1, h2, h3⟩ := hb
  exact h3 o ho

theorem run_store_blk {P : Program} {w : World} {b n o : Nat} {vs : List Value} (hb : Blk w b n) (hn : o + vs.length ≤ n) (h1 : ∀ v ∈ vs, v.oneCell' = true) :
    (storeCells ⟨b, o, none⟩ vs).run P w = .ok () (w.setCells b o vs) := by
  have := run_storeCells_cells (P := P) b o vs 0 w (fun j hj => hb.cell (by omega)) (fun j hj => hb.frozen (by omega)) h1
  simpa using this

/-- What a written block's cells hold. -/
theorem lies_set_in {w : World} {b n o : Nat} {vs : List Value} (hb : Blk w b n) (hn : o + vs.length ≤ n) : Lies (w.setCells b o vs) b o vs := by
  intro j v hj
  have hlt : j < vs.length := (List.getElem?_eq_some_iff.1 hj).1
  have := World.cell?_setCells_in b vs o w (fun j hj => hb.cell (by omega)) j hlt
  rw [cellAt, this]
  exact congrArg some (List.getElem?_eq_some_iff.1 hj).2

theorem lies_set_out {w : World} {b o o' : Nat} {vs us : List Value} (hd : o' + us.length ≤ o ∨ o + vs.length ≤ o') (h : Lies w b o' us) : Lies (w.setCells b o vs) b o' us := by
  intro j v hj
  have hlt : j < us.length := (List.getElem?_eq_some_iff.1 hj).1
  rw [cellAt, World.cell?_setCells_out b vs o w ⟨b, o' + j, none⟩ (fun _ _ => by simp only; omega)]
  exact h j v hj

theorem Only.keeps {c : Ctx} {w' : World} {b : Nat} (x : Only c.w w' b) (hb : ¬ c.pr b) : Tells c { c with w := w' } :=
  ⟨fun _ _ h => h, fun _ h => h, ⟨fun _ h => h, fun k hk => x.other k (fun e => hb (e ▸ hk))⟩, x.blk⟩

theorem ObjRep.mono {c c' : Ctx} (t : Tells c c') {i : Info} {o : Obj} (hb : i.loc = true → c'.w.heap[i.b]? = c.w.heap[i.b]?) (r : ObjRep c i o) : ObjRep c' i o where
  len := r.len
  es := r.es
  pos := r.pos
  full := r.full
  loc := r.loc
  blk hl := by obtain ⟨n, h1, h2⟩ := r.blk hl; exact ⟨n, t.blk _ _ h1, h2⟩
  cont := by
    obtain ⟨L, hL, hl⟩ := contRep_iff.1 r.cont
    refine contRep_iff.2 ⟨L, hL.mono t, ?_⟩
    cases hloc : i.loc with
    | true => exact hl.of_block (hb hloc)
    | false =>
      have hlen := r.len
      have h0 : ¬ 0 < i.len := fun h => by simp [r.loc h] at hloc
      have : L = [] := List.eq_nil_of_length_eq_zero (by rw [hL.len, ← hlen]; omega)
      subst this
      simp [Lies]

/-- A deep row that is not empty lies somewhere. -/
theorem Sim.deepLoc {c : Ctx} {h : Heap} (hs : Sim c h) {id : Nat} {i : Info} {fx : Bool} {e : Ty} {xs : List e.C} {f : Bool} (hid : id < h.length) (hm : c.m id = some i) (hd : ¬ c.dead id) (hg : hget h id = some ⟨.deep fx e xs, f⟩) (hne : xs ≠ []) : i.loc = true := by
  obtain ⟨o, ho, hr⟩ := hs.obj id i hid hm hd
  rw [hg] at ho; cases ho
  refine hr.loc ?_
  have := hr.len
  have h0 : 0 < List.length xs := List.length_pos_iff.2 hne
  simp only [Cont.len] at this
  omega

/-- A deep row stays where its blocks stay. -/
theorem Sim.deepStay {c c' : Ctx} {h : Heap} (hs : Sim c h) {id : Nat} {i : Info} {fx : Bool} {e : Ty} {xs : List e.C} {f : Bool} (hid : id < h.length) (hm : c.m id = some i) (hd : ¬ c.dead id) (hg : hget h id = some ⟨.deep fx e xs, f⟩)
    (ho : ∀ b, c.own id b → c'.own id b) (hk : ∀ b, c.at id b → c'.w.heap[b]? = c.w.heap[b]?) : DeepRow c' id i fx e xs :=
  (hs.deep id i fx e xs f hid hm hd hg).mono ho (fun b hb => hk b (.inl hb)) fun hne => hk _ (.inr ⟨i, hm, hs.deepLoc hid hm hd hg hne, rfl⟩)

/-- A row of the heap is written. -/
theorem write_ok {c : Ctx} {h : Heap} (hs : Sim c h) {id : Nat} {i : Info} (hi : c.m id = some i) (hd : ¬ c.dead id) (hid : id < h.length) {w' : World} (hl : i.loc = true ∨ w' = c.w) (x : Only c.w w' i.b)
    {h' : Heap} (hlen : h'.length = h.length) (hoth : ∀ k, k ≠ id → hget h' k = hget h k) {o' : Obj} (hob : hget h' id = some o') (hr : ObjRep { c with w := w' } i o')
    (hdp : ∀ fx e xs, o'.c = .deep fx e xs → DeepRow { c with w := w' } id i fx e xs) : Ext c h { c with w := w' } h' ∧ Sim { c with w := w' } h' := by
  have hkeep : ∀ b, c.pr b → w'.heap[b]? = c.w.heap[b]? := fun b hp => by
    rcases hl with hl | he
    · exact x.other b (fun e => hs.apart id i hi hd hl (e ▸ hp))
    · rw [he]
  have t : Tells c { c with w := w' } := ⟨fun _ _ h => h, fun _ h => h, ⟨fun _ h => h, hkeep⟩, x.blk⟩
  constructor
  · refine ⟨⟨fun _ h => h, by simp [x.size], hkeep, x.blk, fun k hk hn => ?_, ?_, fun _ h => .inl h, x.os, x.tape, x.output⟩,
      by omega, fun _ _ h => h, fun id' i' h1 h2 => absurd (h2.symm.trans h1) (by simp), fun _ h => h, fun _ h => .inl h⟩
    · rcases hl with hl | he
      · exact x.other k (fun e => hn ⟨id, hid, hd, .inr ⟨i, hi, hl, e.symm⟩⟩)
      · rw [he]
    · rintro b ⟨id', h1, h2, h3⟩
      exact .inr ⟨id', by omega, h2, h3⟩
  · refine ⟨fun id' i' h1 h2 h3 => ?_, fun id' h1 h2 => ?_, fun id' i' h1 h2 h3 => ?_, hs.inj, fun b hb => by simp only [x.size]; exact hs.plow b hb, hs.apart,
      hs.own.step rfl (fun _ h => h) (fun _ _ h => h) (by simp [x.size]) (fun _ h => .inl h) (fun id' i' h1 h2 h3 => hs.own.off h1 h2 h3), fun id' i' fx e xs f h1 h2 h3 h4 => ?_⟩
    case refine_4 =>
      by_cases he : id' = id
      · subst he
        have : i' = i := by rw [hi] at h2; exact (Option.some.inj h2).symm
        subst this
        rw [hob] at h4
        exact hdp fx e xs (by rw [Option.some.inj h4])
      · rw [hoth _ he] at h4
        refine hs.deepStay (by omega) h2 h3 h4 (fun _ h => h) fun b hb => ?_
        rcases hl with hl | he'
        · refine x.other b fun e => ?_
          subst e
          rcases hb with hb | ⟨j, q1, q2, q3⟩
          · exact hs.own.off hi hd hl id' h3 hb
          · exact he (hs.inj id' id j i q1 hi h3 hd q2 hl q3)
        · rw [he']
    · by_cases he : id' = id
      · subst he
        have : i' = i := by rw [hi] at h2; exact (Option.some.inj h2).symm
        subst this
        exact ⟨o', hob, hr⟩
      · obtain ⟨o, ho, hr'⟩ := hs.obj id' i' (by omega) h2 h3
        refine ⟨o, by rw [hoth _ he]; exact ho, hr'.mono t (fun hl' => ?_)⟩
        rcases hl with hl | he'
        · exact x.other _ (fun e => he (hs.inj id' id i' i h2 hi h3 hd hl' hl e))
        · rw [he']
    · have : id' ≠ id := fun e => hd (e ▸ h2)
      rw [hoth _ this]; exact hs.gone id' (by omega) h2
    · simp only [x.size]; exact hs.low id' i' h1 h2 h3

/-- One block more. -/
structure Pushed (w w' : World) (C : List Value) : Prop where
  size : w'.heap.size = w.heap.size + 1
  old : ∀ k, k < w.heap.size → w'.heap[k]? = w.heap[k]?
  new : ∃ T fr, w'.heap[w.heap.size]? = some (.cells C.toArray T fr)
  soft : ∀ i, i < C.length → w'.frozen? ⟨w.heap.size, i, none⟩ = false
  os : w'.os = w.os
  tape : w'.tape = w.tape
  output : w'.output = w.output

theorem pushed_alloc (w : World) (C : Array Value) (T : TypeId) : Pushed w (w.alloc (.cells C T)) C.toList :=
  ⟨by simp, fun k hk => heap_alloc_old w _ k hk, ⟨T, (0, 0), by simpa using heap_alloc_new w (.cells C T)⟩, fun i _ => frozen_of_row _ _ i C T (heap_alloc_new w (.cells C T)), rfl, rfl, rfl⟩
theorem pushed_drew (w : World) (C : Array Value) (T : TypeId) : Pushed w (w.drew.alloc (.cells C T)) C.toList :=
  ⟨by simp, fun k hk => heap_alloc_old w.drew _ k hk, ⟨T, (0, 0), by simpa using heap_alloc_new w.drew (.cells C T)⟩, fun i _ => frozen_of_row _ _ i C T (heap_alloc_new w.drew (.cells C T)), rfl, rfl, rfl⟩

theorem Pushed.blkNew {w w' : World} {C : List Value} (p : Pushed w w' C) : Blk w' w.heap.size C.length := by
  obtain ⟨T, fr, h⟩ := p.new
  exact ⟨_, T, fr, h, by simp, p.soft⟩

theorem Pushed.blk {w w' : World} {C : List Value} (p : Pushed w w' C) (b n : Nat) (h : Blk w b n) : Blk w' b n := by
  have hlt : b < w.heap.size := by obtain ⟨_, _, _, h1, _⟩ := h; exact (Array.getElem?_eq_some_iff.1 h1).1
  exact h.of_block (p.old b hlt)

theorem Pushed.lies {w w' : World} {C D : List Value} (p : Pushed w w' (C ++ D)) : Lies w' w.heap.size 0 C := by
  obtain ⟨T, fr, h⟩ := p.new
  intro j v hj
  rw [cellAt, Nat.zero_add, cell_of_row w' _ j _ T _ h]
  simp [List.getElem?_append_left (List.getElem?_eq_some_iff.1 hj).1, hj]

def upd (m : Nat → Option Info) (id : Nat) (i : Info) : Nat → Option Info := fun k => if k = id then some i else m k

/-- A state with one row more. -/
def Ctx.more (c : Ctx) (h : Heap) (w' : World) (i : Info) : Ctx := { c with m := upd c.m h.length i, w := w' }

theorem hget_append_old {h h' : Heap} {id : Nat} (hid : id < h.length) : hget (h ++ h') id = hget h id := by
  simp [hget, List.getD, List.getElem?_append_left hid]
theorem hget_append_new {h : Heap} {o : Option Obj} : hget (h ++ [o]) h.length = o := by
  simp [hget, List.getD]
theorem hget_set_other {h : Heap} {id k : Nat} {o : Option Obj} (hk : k ≠ id) : hget (h.set id o) k = hget h k := by
  simp [hget, List.getD, List.getElem?_set_ne (Ne.symm hk)]
theorem hget_set_same {h : Heap} {id : Nat} {o : Option Obj} (hid : id < h.length) : hget (h.set id o) id = o := by
  simp [hget, List.getD, hid]

theorem grow_ok {c : Ctx} {h : Heap} (hs : Sim c h) (hf : c.m h.length = none ∧ ¬ c.dead h.length) {w' : World} {L : List (List Value)} {D : List Value} (p : Pushed c.w w' (L.flatten ++ D)) {o : Obj}
    (hL : ContV c o.c L) (hpos : 0 < o.c.es) (hdp : ∀ fx e xs, o.c = .deep fx e xs → DeepRow (c.more h w' (inf true c.w.heap.size 0 o.c.len o.c.es o.full)) h.length (inf true c.w.heap.size 0 o.c.len o.c.es o.full) fx e xs) :
    let c' := c.more h w' (inf true c.w.heap.size 0 o.c.len o.c.es o.full)
    Ext c h c' (h ++ [some o]) ∧ Sim c' (h ++ [some o]) ∧ Grow c h c' (h ++ [some o]) ∧ Tells c c' := by
  intro c'
  have hm : ∀ id, id ≠ h.length → c'.m id = c.m id := fun id hid => by simp [c', Ctx.more, upd, hid]
  have hmn : c'.m h.length = some (inf true c.w.heap.size 0 o.c.len o.c.es o.full) := by simp [c', Ctx.more, upd]
  have hmono : ∀ id i, c.m id = some i → c'.m id = some i := fun id i hi => by
    rw [hm id (fun e => by rw [e, hf.1] at hi; cases hi)]; exact hi
  have t : Tells c c' := ⟨hmono, fun _ h => h, ⟨fun _ h => h, fun b hb => p.old b (hs.plow b hb)⟩, p.blk⟩
  have hsz : c'.w.heap.size = c.w.heap.size + 1 := p.size
  refine ⟨⟨⟨fun _ h => h, by omega, fun b hb => p.old b (hs.plow b hb), p.blk, fun b hb _ => p.old b hb, ?_, fun _ h => .inl h, p.os, p.tape, p.output⟩,
      by simp, hmono, ?_, fun _ h => h, fun _ h => .inl h⟩, ⟨?_, ?_, ?_, ?_, ?_, ?_, ?_, ?_⟩, ⟨p.old, fun id hid => hget_append_old hid, rfl, fun _ _ => rfl⟩, t⟩
  · rintro b ⟨id, hid, hd, ho | ⟨i, hi, hl, hb⟩⟩
    · have hne : id ≠ h.length := fun e => hs.own.told id b ho (e ▸ hf.1)
      simp only [List.length_append, List.length_cons, List.length_nil] at hid
      exact .inr ⟨id, by omega, hd, .inl ho⟩
    · by_cases he : id = h.length
      · subst he; rw [hmn] at hi; cases hi; exact .inl (Nat.le_of_eq hb)
      · rw [hm id he] at hi
        simp only [List.length_append, List.length_cons, List.length_nil] at hid
        exact .inr ⟨id, by omega, hd, .inr ⟨i, hi, hl, hb⟩⟩
  · intro id i hi hn
    by_cases he : id = h.length
    · simp [he]
    · rw [hm id he, hn] at hi; cases hi
  · intro id i hid hi hd
    by_cases he : id = h.length
    · subst he
      rw [hmn] at hi; cases hi
      refine ⟨o, hget_append_new, rfl, rfl, hpos, rfl, fun _ => rfl, fun _ => ⟨_, p.blkNew, ?_⟩, contRep_iff.2 ⟨L, hL.mono t, p.lies⟩⟩
      have := flat_len hL.es
      simp only [List.length_append, this, hL.len]; omega
    · rw [hm id he] at hi
      simp only [List.length_append, List.length_cons, List.length_nil] at hid
      obtain ⟨o', ho', hr⟩ := hs.obj id i (by omega) hi hd
      exact ⟨o', by rw [hget_append_old (by omega)]; exact ho', hr.mono t (fun hl => p.old _ (hs.low id i hi hd hl))⟩
  · intro id hid hd
    have he : id ≠ h.length := fun e => hf.2 (e ▸ hd)
    simp only [List.length_append, List.length_cons, List.length_nil] at hid
    rw [hget_append_old (by omega)]; exact hs.gone id (by omega) hd
  · intro id i hi hd hl
    by_cases he : id = h.length
    · subst he; rw [hmn] at hi; cases hi; simp only [hsz]; omega
    · rw [hm id he] at hi; have := hs.low id i hi hd hl; omega
  · intro id id' i i' hi hi' hd hd' hl hl' hb
    by_cases he : id = h.length
    · by_cases he' : id' = h.length
      · rw [he, he']
      · subst he; rw [hmn] at hi; cases hi; rw [hm id' he'] at hi'; have := hs.low id' i' hi' hd' hl'; simp only at hb; omega
    · rw [hm id he] at hi
      by_cases he' : id' = h.length
      · subst he'; rw [hmn] at hi'; cases hi'; have := hs.low id i hi hd hl; simp only at hb; omega
      · rw [hm id' he'] at hi'; exact hs.inj id id' i i' hi hi' hd hd' hl hl' hb
  · intro b hb; have := hs.plow b hb; omega
  · intro id i hi hd hl
    by_cases he : id = h.length
    · subst he; rw [hmn] at hi; cases hi; intro hp; have := hs.plow _ hp; simp only at this; omega
    · rw [hm id he] at hi; exact hs.apart id i hi hd hl
  · refine hs.own.step rfl (fun _ h => h) hmono (by omega) (fun _ h => .inl h) fun id i hi hd hl => ?_
    by_cases he : id = h.length
    · subst he; rw [hmn] at hi; cases hi; exact hs.own.fresh (Nat.le_refl _)
    · rw [hm id he] at hi; exact hs.own.off hi hd hl
  · intro id i fx e xs f hid hi hd hg
    by_cases he : id = h.length
    · subst he; rw [hmn] at hi; cases hi
      rw [hget_append_new] at hg; cases hg
      exact hdp fx e xs rfl
    · rw [hm id he] at hi
      simp only [List.length_append, List.length_cons, List.length_nil] at hid
      rw [hget_append_old (by omega)] at hg
      refine hs.deepStay (by omega) hi hd hg (fun _ h => h) fun b hb => p.old b ?_
      rcases hb with hb | ⟨j, q1, q2, q3⟩
      · exact hs.own.low id b hd hb
      · rw [← q3]; exact hs.low id j q1 hd q2

/-- A row is struck. -/
theorem kill_ok {c : Ctx} {h : Heap} (hs : Sim c h) {id : Nat} (hid : id < h.length) :
    let c' : Ctx := { c with dead := fun k => c.dead k ∨ k = id }
    Ext c h c' (h.set id none) ∧ Sim c' (h.set id none) := by
  intro c'
  have nd : ∀ {k}, ¬ c'.dead k → ¬ c.dead k ∧ k ≠ id := fun {k} hk => ⟨fun h => hk (.inl h), fun h => hk (.inr h)⟩
  have t : Tells c c' := ⟨fun _ _ h => h, fun _ h => Or.inl h, ⟨fun _ h => h, fun _ _ => rfl⟩, fun _ _ h => h⟩
  refine ⟨⟨⟨fun _ h => h, Nat.le_refl _, fun _ _ => rfl, fun _ _ h => h, fun _ _ _ => rfl, ?_, fun _ h => .inl h, rfl, rfl, rfl⟩, by simp, fun _ _ h => h, fun id' i' h1 h2 => absurd (h2.symm.trans h1) (by simp), fun _ h => .inl h, ?_⟩, ⟨?_, ?_, ?_, ?_, hs.plow, ?_, ?_, ?_⟩⟩
  · rintro b ⟨id', h1, h2, h3⟩
    exact .inr ⟨id', by simpa using h1, (nd h2).1, h3⟩
  · intro k hk
    rcases hk with h | h
    · exact .inl h
    · subst h; exact .inr (by simpa using hid)
  · intro id' i h1 h2 h3
    obtain ⟨o, ho, hr⟩ := hs.obj id' i (by simpa using h1) h2 (nd h3).1
    refine ⟨o, by rw [hget_set_other (nd h3).2]; exact ho, hr.mono t (fun _ => rfl)⟩
  · intro id' h1 h2
    by_cases he : id' = id
    · subst he; exact hget_set_same hid
    · rw [hget_set_other he]
      rcases h2 with h | h
      · exact hs.gone id' (by simpa using h1) h
      · exact absurd h he
  · intro id' i h1 h2 h3; exact hs.low id' i h1 (nd h2).1 h3
  · intro a b i j h1 h2 h3 h4; exact hs.inj a b i j h1 h2 (nd h3).1 (nd h4).1
  · intro id' i h1 h2 h3; exact hs.apart id' i h1 (nd h2).1 h3
  · exact hs.own.step rfl (fun _ h => .inl h) (fun _ _ h => h) (Nat.le_refl _) (fun _ h => .inl h) (fun id' i h1 h2 h3 => hs.own.off h1 (nd h2).1 h3)
  · intro id' i fx e xs f h1 h2 h3 h4
    rw [hget_set_other (nd h3).2] at h4
    exact hs.deepStay (by simpa using h1) h2 (nd h3).1 h4 (fun _ h => h) fun _ _ => rfl

/-- A row takes over another's place. -/
theorem adopt_ok {c : Ctx} {h : Heap} (hs : Sim c h) {id : Nat} {i i' : Info} (hid : id < h.length) (hi : c.m id = some i) (hd : ¬ c.dead id) (hf : c.m h.length = none ∧ ¬ c.dead h.length) {w' : World} (x : Only c.w w' i.b)
    (hw : i.loc = true ∨ w' = c.w) (hb : i'.loc = true → i.loc = true ∧ i'.b = i.b) {o : Obj} :
    let c' : Ctx := { c with m := upd c.m h.length i', dead := fun k => c.dead k ∨ k = id, w := w' }
    Tells c c' ∧ (ObjRep c' i' o → o.c.isDeep = false → Ext c h c' (h.set id none ++ [some o]) ∧ Sim c' (h.set id none ++ [some o])) := by
  intro c'
  have nd : ∀ {k}, ¬ c'.dead k → ¬ c.dead k ∧ k ≠ id := fun {k} hk => ⟨fun h => hk (.inl h), fun h => hk (.inr h)⟩
  have hm : ∀ id, id ≠ h.length → c'.m id = c.m id := fun id hid => by simp [c', upd, hid]
  have hmn : c'.m h.length = some i' := by simp [c', upd]
  have hmono : ∀ id i, c.m id = some i → c'.m id = some i := fun id i hi => by
    rw [hm id (fun e => by rw [e, hf.1] at hi; cases hi)]; exact hi
  have hkeep : ∀ b, c.pr b → w'.heap[b]? = c.w.heap[b]? := fun b hp => by
    rcases hw with hl | he
    · exact x.other b (fun e => hs.apart id i hi hd hl (e ▸ hp))
    · rw [he]
  have t : Tells c c' := ⟨hmono, fun _ h => .inl h, ⟨fun _ h => h, hkeep⟩, x.blk⟩
  refine ⟨t, fun hr hnd => ?_⟩
  have hne : id ≠ h.length := by omega
  have hlen : (h.set id none ++ [some o]).length = h.length + 1 := by simp
  have hgo : ∀ k, k < h.length → k ≠ id → hget (h.set id none ++ [some o]) k = hget h k := fun k hk hk' => by
    rw [hget_append_old (by simpa using hk), hget_set_other hk']
  have hsz : w'.heap.size = c.w.heap.size := x.size
  refine ⟨⟨⟨fun _ h => h, Nat.le_of_eq hsz.symm, hkeep, x.blk, ?_, ?_, fun _ h => .inl h, x.os, x.tape, x.output⟩, by simp, hmono, ?_, fun _ h => .inl h, ?_⟩, ⟨?_, ?_, ?_, ?_, fun b hb => by simp only [c', hsz]; exact hs.plow b hb, ?_, ?_, ?_⟩⟩
  · intro b hb' hn
    rcases hw with hl | he
    · exact x.other b (fun e => hn ⟨id, hid, hd, .inr ⟨i, hi, hl, e.symm⟩⟩)
    · show w'.heap[b]? = _; rw [he]
  · rintro b ⟨k, h1, h3, ho | ⟨j, h2, h4, h5⟩⟩
    · have hne : k ≠ h.length := fun e => hs.own.told k b ho (e ▸ hf.1)
      exact .inr ⟨k, by omega, (nd h3).1, .inl ho⟩
    · by_cases he : k = h.length
      · subst he; rw [hmn] at h2; cases h2
        exact .inr ⟨id, hid, hd, .inr ⟨i, hi, (hb h4).1, (hb h4).2.symm.trans h5⟩⟩
      · rw [hm k he] at h2; exact .inr ⟨k, by omega, (nd h3).1, .inr ⟨j, h2, h4, h5⟩⟩
  · intro k j h1 h2
    by_cases he : k = h.length
    · omega
    · rw [hm k he, h2] at h1; cases h1
  · intro k hk
    rcases hk with h | h
    · exact .inl h
    · exact .inr (by omega)
  · intro k j h1 h2 h3
    by_cases he : k = h.length
    · subst he; rw [hmn] at h2; cases h2
      refine ⟨o, ?_, hr⟩
      have : h.length = (h.set id none).length := by simp
      rw [this]; exact hget_append_new
    · rw [hm k he] at h2
      obtain ⟨o', ho', hr'⟩ := hs.obj k j (by omega) h2 (nd h3).1
      refine ⟨o', by rw [hgo k (by omega) (nd h3).2]; exact ho', hr'.mono t (fun hl => ?_)⟩
      rcases hw with hl' | he'
      · exact x.other _ (fun e => (nd h3).2 (hs.inj k id j i h2 hi (nd h3).1 hd hl hl' e))
      · show w'.heap[j.b]? = _; rw [he']
  · intro k h1 h2
    by_cases he : k = id
    · subst he; rw [hget_append_old (by simpa using hid)]; exact hget_set_same hid
    · have hk : c.dead k := h2.resolve_right he
      have : k ≠ h.length := fun e => hf.2 (e ▸ hk)
      rw [hgo k (by omega) he]; exact hs.gone k (by omega) hk
  · intro k j h1 h2 h3
    simp only [c', hsz]
    by_cases he : k = h.length
    · subst he; rw [hmn] at h1; cases h1
      have := hs.low id i hi hd (hb h3).1
      rw [(hb h3).2]; exact this
    · rw [hm k he] at h1; exact hs.low k j h1 (nd h2).1 h3
  · intro k k' j j' h1 h2 h3 h4 h5 h6 h7
    by_cases he : k = h.length
    · by_cases he' : k' = h.length
      · rw [he, he']
      · subst he; rw [hmn] at h1; cases h1; rw [hm k' he'] at h2
        exact absurd (hs.inj id k' i j' hi h2 hd (nd h4).1 (hb h5).1 h6 ((hb h5).2.symm.trans h7)).symm (nd h4).2
    · rw [hm k he] at h1
      by_cases he' : k' = h.length
      · subst he'; rw [hmn] at h2; cases h2
        exact absurd (hs.inj id k i j hi h1 hd (nd h3).1 (hb h6).1 h5 ((hb h6).2.symm.trans h7.symm)).symm (nd h3).2
      · rw [hm k' he'] at h2; exact hs.inj k k' j j' h1 h2 (nd h3).1 (nd h4).1 h5 h6 h7
  · intro k j h1 h2 h3
    by_cases he : k = h.length
    · subst he; rw [hmn] at h1; cases h1
      rw [(hb h3).2]; exact hs.apart id i hi hd (hb h3).1
    · rw [hm k he] at h1; exact hs.apart k j h1 (nd h2).1 h3
  · refine hs.own.step rfl (fun _ h => .inl h) hmono (Nat.le_of_eq hsz.symm) (fun _ h => .inl h) fun k j h1 h2 h3 => ?_
    by_cases he : k = h.length
    · subst he; rw [hmn] at h1; cases h1
      rw [(hb h3).2]; exact hs.own.off hi hd (hb h3).1
    · rw [hm k he] at h1; exact hs.own.off h1 (nd h2).1 h3
  · intro k j fx e xs f h1 h2 h3 h4
    by_cases he : k = h.length
    · subst he
      have : h.length = (h.set id none).length := by simp
      rw [this, hget_append_new] at h4
      cases h4; cases hnd
    · rw [hm k he] at h2
      rw [hgo k (by omega) (nd h3).2] at h4
      refine hs.deepStay (by omega) h2 (nd h3).1 h4 (fun _ h => h) fun b hb' => ?_
      rcases hw with hl' | he'
      · refine x.other b fun e => ?_
        subst e
        rcases hb' with hb' | ⟨j', q1, q2, q3⟩
        · exact hs.own.off hi hd hl' k (nd h3).1 hb'
        · exact (nd h3).2 (hs.inj k id j' i q1 hi (nd h3).1 hd q2 hl' q3)
      · show w'.heap[b]? = _; rw [he']

/-- An empty row that lies nowhere. -/
theorem grow0_ok {c : Ctx} {h : Heap} (hs : Sim c h) (hf : c.m h.length = none ∧ ¬ c.dead h.length) {o : Obj} (hl : o.c.len = 0) (hL : ContV c o.c []) (hpos : 0 < o.c.es) (hnd : o.c.isDeep = false) :
    let c' : Ctx := { c with m := upd c.m h.length (inf false 0 0 0 o.c.es o.full) }
    Ext c h c' (h ++ [some o]) ∧ Sim c' (h ++ [some o]) ∧ Grow c h c' (h ++ [some o]) ∧ Tells c c' := by
  intro c'
  have hm : ∀ id, id ≠ h.length → c'.m id = c.m id := fun id hid => by simp [c', upd, hid]
  have hmn : c'.m h.length = some (inf false 0 0 0 o.c.es o.full) := by simp [c', upd]
  have hmono : ∀ id i, c.m id = some i → c'.m id = some i := fun id i hi => by
    rw [hm id (fun e => by rw [e, hf.1] at hi; cases hi)]; exact hi
  have t : Tells c c' := ⟨hmono, fun _ h => h, ⟨fun _ h => h, fun b hb => rfl⟩, fun _ _ h => h⟩
  have old : ∀ {id i}, c'.m id = some i → i.loc = true → id ≠ h.length := fun {id i} h1 h2 e => by
    subst e; rw [hmn] at h1; cases h1; cases h2
  refine ⟨⟨⟨fun _ h => h, Nat.le_refl _, fun b hb => rfl, fun _ _ h => h, fun b hb _ => rfl, ?_, fun _ h => .inl h, rfl, rfl, rfl⟩,
      by simp, hmono, ?_, fun _ h => h, fun _ h => .inl h⟩, ⟨?_, ?_, ?_, ?_, hs.plow, ?_, ?_, ?_⟩, ⟨fun _ _ => rfl, fun id hid => hget_append_old hid, rfl, fun _ _ => rfl⟩, t⟩
  · rintro b ⟨id, hid, hd, ho | ⟨i, hi, hl, hb⟩⟩
    · have hne : id ≠ h.length := fun e => hs.own.told id b ho (e ▸ hf.1)
      simp only [List.length_append, List.length_cons, List.length_nil] at hid
      exact .inr ⟨id, by omega, hd, .inl ho⟩
    · have he := old hi hl
      rw [hm id he] at hi
      simp only [List.length_append, List.length_cons, List.length_nil] at hid
      exact .inr ⟨id, by omega, hd, .inr ⟨i, hi, hl, hb⟩⟩
  · intro id i hi hn
    by_cases he : id = h.length
    · simp [he]
    · rw [hm id he, hn] at hi; cases hi
  · intro id i hid hi hd
    by_cases he : id = h.length
    · subst he
      rw [hmn] at hi; cases hi
      exact ⟨o, hget_append_new, hl.symm, rfl, hpos, rfl, fun h => absurd h (Nat.lt_irrefl 0), fun h => (by cases h), contRep_iff.2 ⟨[], hL.mono t, by simp [Lies]⟩⟩
    · rw [hm id he] at hi
      simp only [List.length_append, List.length_cons, List.length_nil] at hid
      obtain ⟨o', ho', hr⟩ := hs.obj id i (by omega) hi hd
      exact ⟨o', by rw [hget_append_old (by omega)]; exact ho', hr.mono t (fun hl => rfl)⟩
  · intro id hid hd
    have he : id ≠ h.length := fun e => hf.2 (e ▸ hd)
    simp only [List.length_append, List.length_cons, List.length_nil] at hid
    rw [hget_append_old (by omega)]; exact hs.gone id (by omega) hd
  · intro id i hi hd hl
    rw [hm id (old hi hl)] at hi; exact hs.low id i hi hd hl
  · intro id id' i i' hi hi' hd hd' hl hl' hb
    rw [hm id (old hi hl)] at hi
    rw [hm id' (old hi' hl')] at hi'
    exact hs.inj id id' i i' hi hi' hd hd' hl hl' hb
  · intro id i hi hd hl
    rw [hm id (old hi hl)] at hi; exact hs.apart id i hi hd hl
  · refine hs.own.step rfl (fun _ h => h) hmono (Nat.le_refl _) (fun _ h => .inl h) fun id i hi hd hl => ?_
    rw [hm id (old hi hl)] at hi; exact hs.own.off hi hd hl
  · intro id i fx e xs f hid hi hd hg
    by_cases he : id = h.length
    · subst he
      rw [hget_append_new] at hg; cases hg; cases hnd
    · rw [hm id he] at hi
      simp only [List.length_append, List.length_cons, List.length_nil] at hid
      rw [hget_append_old (by omega)] at hg
      exact hs.deepStay (by omega) hi hd hg (fun _ h => h) fun _ _ => rfl
end Go.AM
