/- An interpreter of the model's code over values that are told, and its soundness. -/
import Derived.Test.YtajlenpookikoaaAS1
import Derived.Laws.Tables
import Derived.Laws.MakeOwn
import Derived.Laws.Strings
namespace Go.AM

/-! Soundness: rows as lists of elements; memory that is written, taken over, made. -/

def All2 {α β : Type} (R : α → β → Prop) : List α → List β → Prop
  | [], [] => True
  | a :: as, b :: bs => R a b ∧ All2 R as bs
  | _, _ => False

section
variable {α β : Type} {R S : α → β → Prop}
theorem All2.length : ∀ {as : List α} {bs : List β}, All2 R as bs → as.length = bs.length
  | [], [], _ => rfl
  | _ :: _, _ :: _, h => by simp [All2.length h.2]
theorem All2.append : ∀ {as : List α} {bs : List β} {as' : List α} {bs' : List β}, All2 R as bs → All2 R as' bs' → All2 R (as ++ as') (bs ++ bs')
  | [], [], _, _, _, h => h
  | _ :: _, _ :: _, _, _, h, h' => ⟨h.1, All2.append h.2 h'⟩
theorem All2.take : ∀ {as : List α} {bs : List β} (n : Nat), All2 R as bs → All2 R (as.take n) (bs.take n)
  | [], [], _, _ => by simp [All2]
  | _ :: _, _ :: _, 0, _ => by simp [All2]
  | _ :: _, _ :: _, n + 1, h => by simp only [List.take_succ_cons]; exact ⟨h.1, All2.take n h.2⟩
theorem All2.drop : ∀ {as : List α} {bs : List β} (n : Nat), All2 R as bs → All2 R (as.drop n) (bs.drop n)
  | [], [], _, _ => by simp [All2]
  | _ :: _, _ :: _, 0, h => h
  | _ :: _, _ :: _, n + 1, h => by simp only [List.drop_succ_cons]; exact All2.drop n h.2
theorem All2.set : ∀ {as : List α} {bs : List β} (n : Nat) {a : α} {b : β}, All2 R as bs → R a b → All2 R (as.set n a) (bs.set n b)
  | [], [], _, _, _, _, _ => by simp [All2]
  | _ :: _, _ :: _, 0, _, _, h, h' => ⟨h', h.2⟩
  | _ :: _, _ :: _, n + 1, _, _, h, h' => ⟨h.1, All2.set n h.2 h'⟩
theorem All2.get : ∀ {as : List α} {bs : List β}, All2 R as bs → ∀ {i : Nat} {a : α}, as[i]? = some a → ∃ b, bs[i]? = some b ∧ R a b
  | [], [], _, _, _, hi => by simp at hi
  | _ :: _, b :: _, h, 0, _, hi => by simp at hi; subst hi; exact ⟨b, by simp, h.1⟩
  | _ :: _, _ :: _, h, i + 1, _, hi => by simp at hi; obtain ⟨b, hb, hr⟩ := All2.get h.2 hi; exact ⟨b, by simpa using hb, hr⟩
theorem All2.mono (hRS : ∀ a b, R a b → S a b) : ∀ {as : List α} {bs : List β}, All2 R as bs → All2 S as bs
  | [], [], _ => trivial
  | _ :: _, _ :: _, h => ⟨hRS _ _ h.1, All2.mono hRS h.2⟩
theorem All2.replicate {a : α} {b : β} (h : R a b) : ∀ (n : Nat), All2 R (List.replicate n a) (List.replicate n b)
  | 0 => trivial
  | n + 1 => ⟨h, All2.replicate h n⟩
theorem All2.right {p : β → Prop} (hp : ∀ a b, R a b → p b) : ∀ {as : List α} {bs : List β}, All2 R as bs → ∀ b ∈ bs, p b
  | [], [], _, _, hb => by simp at hb
  | _ :: _, b :: _, h, c, hc => by
    rcases List.mem_cons.1 hc with rfl | hc
    · exact hp _ _ h.1
    · exact All2.right hp h.2 c hc
theorem All2.of_index : ∀ (as : List α), (∀ (i : Nat) (a : α), as[i]? = some a → ∃ b, R a b) → ∃ bs, All2 R as bs
  | [], _ => ⟨[], trivial⟩
  | a :: as, h => by
    obtain ⟨b, hb⟩ := h 0 a (by simp)
    obtain ⟨bs, hbs⟩ := All2.of_index as (fun i x hx => h (i + 1) x (by simpa using hx))
    exact ⟨b :: bs, hb, hbs⟩
end

/-- Cells of one element. -/
def ElemT (c : Ctx) (e : Ty) (x : e.C) (vs : List Value) : Prop := vs.length = e.size ∧ CellsRep c.pr c.w e x vs
def ElemR (c : Ctx) (a : Bool) (es : Nat) (x : AV) (vs : List Value) : Prop := x.isAgg = a ∧ x.size = es ∧ vs.length = es ∧ VReps c x.cells vs ∧ ∀ v ∈ vs, v.oneCell' = true

def ElemD {α : Type} (es : Nat) (_ : α) (vs : List Value) : Prop := vs.length = es ∧ ∀ v ∈ vs, v.oneCell' = true

/-- A row's elements, cells of each. -/
def ContV (c : Ctx) : Cont → List (List Value) → Prop
  | .typed e xs, L => All2 (ElemT c e) xs L
  | .raw a es d xs, L => d.isAgg = a ∧ d.size = es ∧ All2 (ElemR c a es) xs L
  | .deep _ e xs, L => All2 (ElemD e.size) xs L

theorem ContV.len {c : Ctx} {ct : Cont} {L : List (List Value)} (h : ContV c ct L) : L.length = ct.len := by
  cases ct with
  | typed e xs => exact h.length.symm
  | raw a es d xs => exact h.2.2.length.symm
  | deep fx e xs => exact (All2.length (R := ElemD e.size) h).symm

theorem ContV.es {c : Ctx} {ct : Cont} {L : List (List Value)} (h : ContV c ct L) : ∀ vs ∈ L, vs.length = ct.es := by
  cases ct with
  | typed e xs => exact All2.right (fun _ _ h => h.1) h
  | raw a es d xs => exact All2.right (fun _ _ h => h.2.2.1) h.2.2
  | deep fx e xs => exact All2.right (R := ElemD e.size) (fun _ _ h => h.1) h

theorem flat_len {es : Nat} : ∀ {L : List (List Value)}, (∀ vs ∈ L, vs.length = es) → L.flatten.length = L.length * es
  | [], _ => by simp
  | vs :: L, h => by
    have ih := flat_len (es := es) (L := L) (fun v hv => h v (List.mem_cons_of_mem _ hv))
    simp only [List.flatten_cons, List.length_append, List.length_cons, h vs (by simp), ih, Nat.add_mul, Nat.one_mul]
    omega

theorem flat_drop {es : Nat} : ∀ {L : List (List Value)} (n : Nat), (∀ vs ∈ L, vs.length = es) → L.flatten.drop (n * es) = (L.drop n).flatten
  | _, 0, _ => by simp
  | [], n + 1, _ => by simp
  | vs :: L, n + 1, h => by
    have h1 := h vs (by simp)
    rw [List.flatten_cons, List.drop_append, h1, List.drop_eq_nil_of_le (by rw [h1, Nat.add_mul]; omega), List.nil_append, List.drop_succ_cons, ← flat_drop n (fun v hv => h v (List.mem_cons_of_mem _ hv))]
    congr 1
    rw [Nat.add_mul]; omega

theorem flat_take {es : Nat} : ∀ {L : List (List Value)} (n : Nat), (∀ vs ∈ L, vs.length = es) → L.flatten.take (n * es) = (L.take n).flatten
  | _, 0, _ => by simp
  | [], n + 1, _ => by simp
  | vs :: L, n + 1, h => by
    have h1 := h vs (by simp)
    rw [List.flatten_cons, List.take_append, h1, List.take_of_length_le (by rw [h1, Nat.add_mul]; omega), List.take_succ_cons, List.flatten_cons, ← flat_take n (fun v hv => h v (List.mem_cons_of_mem _ hv))]
    congr 2
    rw [Nat.add_mul]; omega

/-- Element by element, or all of it. -/
theorem lies_flat {w : World} {b es : Nat} : ∀ {L : List (List Value)} {base : Nat}, (∀ vs ∈ L, vs.length = es) → (Lies w b base L.flatten ↔ ∀ (i : Nat) (vs : List Value), L[i]? = some vs → Lies w b (base + i * es) vs)
  | [], base, _ => by simp [Lies]
  | vs :: L, base, h => by
    have h1 := h vs (by simp)
    have ih := lies_flat (w := w) (b := b) (L := L) (base := base + es) (fun v hv => h v (List.mem_cons_of_mem _ hv))
    constructor
    · intro hl i us hi
      cases i with
      | zero => simp at hi; subst hi; intro j v hj; have := hl j v (by rw [List.flatten_cons, List.getElem?_append_left (List.getElem?_eq_some_iff.1 hj).1]; exact hj); simpa using this
      | succ i =>
        have h2 : Lies w b (base + es) L.flatten := by
          have := hl.drop es
          rwa [List.flatten_cons, List.drop_append, h1, List.drop_eq_nil_of_le (by omega), Nat.sub_self, List.drop_zero, List.nil_append] at this
        have := ih.1 h2 i us (by simpa using hi)
        rwa [show base + (i + 1) * es = base + es + i * es by rw [Nat.add_mul]; omega]
    · intro hl
      have h0 := hl 0 vs (by simp)
      rw [List.flatten_cons]
      refine Lies.append (by simpa using h0) ?_
      rw [h1]
      refine ih.2 fun i us hi => ?_
      have := hl (i + 1) us (by simpa using hi)
      rwa [show base + (i + 1) * es = base + es + i * es by rw [Nat.add_mul]; omega] at this

theorem contRep_iff {c : Ctx} {b base : Nat} {ct : Cont} : contRep c b base ct ↔ ∃ L, ContV c ct L ∧ Lies c.w b base L.flatten := by
  cases ct with
  | typed e xs =>
    constructor
    · intro h
      have : ∃ L : List (List Value), L.length = xs.length ∧ ∀ (i : Nat) x vs, xs[i]? = some x → L[i]? = some vs → vs.length = e.size ∧ Lies c.w b (base + i * e.size) vs ∧ CellsRep c.pr c.w e x vs := by
        have : ∀ (xs : List e.C) (base : Nat), contRep c b base (.typed e xs) → ∃ L : List (List Value), L.length = xs.length ∧ ∀ (i : Nat) x vs, xs[i]? = some x → L[i]? = some vs → vs.length = e.size ∧ Lies c.w b (base + i * e.size) vs ∧ CellsRep c.pr c.w e x vs := by
          intro xs
          induction xs with
          | nil => intro base _; exact ⟨[], rfl, by simp⟩
          | cons x xs ih =>
            intro base h
            obtain ⟨vs, hvs⟩ := h 0 x (by simp)
            obtain ⟨L, hL, hL'⟩ := ih (base + e.size) (fun i y hy => by
              have := h (i + 1) y (by simpa using hy)
              rwa [show base + (i + 1) * e.size = base + e.size + i * e.size by rw [Nat.add_mul]; omega] at this)
            refine ⟨vs :: L, by simp [hL], fun i y us hy hu => ?_⟩
            cases i with
            | zero => simp at hy hu; subst hy; subst hu; exact hvs
            | succ i =>
              have := hL' i y us (by simpa using hy) (by simpa using hu)
              rwa [show base + (i + 1) * e.size = base + e.size + i * e.size by rw [Nat.add_mul]; omega]
        exact this xs base h
      obtain ⟨L, hL, hx⟩ := this
      have all : ∀ (xs : List e.C) (L : List (List Value)), L.length = xs.length → (∀ (i : Nat) x vs, xs[i]? = some x → L[i]? = some vs → ElemT c e x vs) → All2 (ElemT c e) xs L := by
        intro xs
        induction xs with
        | nil => intro L hL _; simp at hL; subst hL; trivial
        | cons x xs ih =>
          intro L hL h
          match L, hL with
          | vs :: L, hL => exact ⟨h 0 x vs (by simp) (by simp), ih L (by simpa using hL) (fun i y us h1 h2 => h (i + 1) y us (by simpa using h1) (by simpa using h2))⟩
      have ha := all xs L hL (fun i x vs h1 h2 => ⟨(hx i x vs h1 h2).1, (hx i x vs h1 h2).2.2⟩)
      refine ⟨L, ha, (lies_flat (base := base) (All2.right (fun _ _ h => h.1) ha)).2 fun i vs hi => ?_⟩
      have hlt : i < xs.length := by rw [← hL]; exact (List.getElem?_eq_some_iff.1 hi).1
      exact (hx i xs[i] vs (by simp [hlt]) hi).2.1
    · rintro ⟨L, ha, hl⟩ i x hi
      have ha' : All2 (ElemT c e) xs L := ha
      obtain ⟨vs, hvs, hr⟩ := ha'.get hi
      exact ⟨vs, hr.1, (lies_flat (base := base) (All2.right (fun _ _ h => h.1) ha')).1 hl i vs hvs, hr.2⟩
  | raw a es d xs =>
    constructor
    · rintro ⟨h1, h2, h⟩
      have key : ∀ (xs : List AV) (base : Nat), (∀ (i : Nat) (x : AV), xs[i]? = some x → x.isAgg = a ∧ x.size = es ∧ ∃ vs, vs.length = es ∧ Lies c.w b (base + i * es) vs ∧ VReps c x.cells vs ∧ ∀ v ∈ vs, v.oneCell' = true) →
          ∃ L : List (List Value), All2 (ElemR c a es) xs L ∧ Lies c.w b base L.flatten := by
        intro xs
        induction xs with
        | nil => intro base _; exact ⟨[], trivial, by simp [Lies]⟩
        | cons x xs ih =>
          intro base h
          obtain ⟨q1, q2, vs, q3, q4, q5, q6⟩ := h 0 x (by simp)
          obtain ⟨L, hL, hL'⟩ := ih (base + es) (fun i y hy => by
            have := h (i + 1) y (by simpa using hy)
            rwa [show base + (i + 1) * es = base + es + i * es by rw [Nat.add_mul]; omega] at this)
          exact ⟨vs :: L, ⟨⟨q1, q2, q3, q5, q6⟩, hL⟩, by rw [List.flatten_cons]; exact Lies.append (by simpa using q4) (by rw [q3]; exact hL')⟩
      obtain ⟨L, hL, hl⟩ := key xs base h
      exact ⟨L, ⟨h1, h2, hL⟩, hl⟩
    · rintro ⟨L, ⟨h1, h2, ha⟩, hl⟩
      refine ⟨h1, h2, fun i x hi => ?_⟩
      obtain ⟨vs, hvs, hr⟩ := ha.get hi
      exact ⟨hr.1, hr.2.1, vs, hr.2.2.1, (lies_flat (base := base) (All2.right (fun _ _ h => h.2.2.1) ha)).1 hl i vs hvs, hr.2.2.2.1, hr.2.2.2.2⟩
  | deep fx e xs =>
    constructor
    · intro h
      have key : ∀ (xs : List e.C) (base : Nat), (∀ (i : Nat) (x : e.C), xs[i]? = some x → ∃ vs, vs.length = e.size ∧ Lies c.w b (base + i * e.size) vs ∧ ∀ v ∈ vs, v.oneCell' = true) →
          ∃ L : List (List Value), All2 (ElemD e.size) xs L ∧ Lies c.w b base L.flatten := by
        intro xs
        induction xs with
        | nil => intro base _; exact ⟨[], trivial, by simp [Lies]⟩
        | cons x xs ih =>
          intro base h
          obtain ⟨vs, q3, q4, q6⟩ := h 0 x (by simp)
          obtain ⟨L, hL, hL'⟩ := ih (base + e.size) (fun i y hy => by
            have := h (i + 1) y (by simpa using hy)
            rwa [show base + (i + 1) * e.size = base + e.size + i * e.size by rw [Nat.add_mul]; omega] at this)
          exact ⟨vs :: L, ⟨⟨q3, q6⟩, hL⟩, by rw [List.flatten_cons]; exact Lies.append (by simpa using q4) (by rw [q3]; exact hL')⟩
      obtain ⟨L, hL, hl⟩ := key xs base h
      exact ⟨L, hL, hl⟩
    · rintro ⟨L, ha, hl⟩ i x hi
      have ha' : All2 (ElemD e.size) xs L := ha
      obtain ⟨vs, hvs, hr⟩ := ha'.get hi
      exact ⟨vs, hr.1, (lies_flat (base := base) (All2.right (fun _ _ h => h.1) ha')).1 hl i vs hvs, hr.2⟩

theorem ContV.mono {c c' : Ctx} (t : Tells c c') {ct : Cont} {L : List (List Value)} (h : ContV c ct L) : ContV c' ct L := by
  cases ct with
  | typed e xs => exact All2.mono (fun _ _ h => ⟨h.1, h.2.mono t.k⟩) h
  | raw a es d xs => exact ⟨h.1, h.2.1, All2.mono (fun _ _ h => ⟨h.1, h.2.1, h.2.2.1, VReps.mono t h.2.2.2.1, h.2.2.2.2⟩) h.2.2⟩
  | deep fx e xs => exact h

theorem NodeRep.one {pr : Nat → Prop} {w : World} {x : Node} {vs : List Value} (h : NodeRep pr w x vs) : ∀ v ∈ vs, v.oneCell' = true := by
  cases h with
  | mk o s n kids a cap b off vsf h1 h2 h3 h4 h5 =>
    intro v hv
    simp only [List.mem_cons, List.not_mem_nil, or_false] at hv
    rcases hv with rfl | rfl | rfl | rfl <;> rfl

theorem CellsRep.one {pr : Nat → Prop} {w : World} : ∀ {t : Ty} {x : t.C} {vs : List Value}, CellsRep pr w t x vs → ∀ v ∈ vs, v.oneCell' = true := by
  intro t
  induction t with
  | int k => intro x vs h v hv; simp only [CellsRep] at h; subst h; simp at hv; subst hv; rfl
  | bool => intro x vs h v hv; simp only [CellsRep] at h; subst h; simp at hv; subst hv; rfl
  | str => intro x vs h v hv; simp only [CellsRep] at h; subst h; simp at hv; subst hv; rfl
  | row e _ => rintro x vs ⟨u, rfl, a, cap, rfl, _⟩ v hv; simp at hv; subst hv; rfl
  | unit => intro x vs h v hv; simp only [CellsRep] at h; subst h; simp at hv
  | pair a b iha ihb =>
    rintro x vs ⟨l, r, rfl, hl, hr⟩ v hv
    rcases List.mem_append.1 hv with hv | hv
    · exact iha hl v hv
    · exact ihb hr v hv
  | node => intro x vs h; exact NodeRep.one h

theorem ContV.one {c : Ctx} {ct : Cont} {L : List (List Value)} (h : ContV c ct L) : ∀ v ∈ L.flatten, v.oneCell' = true := by
  intro v hv
  obtain ⟨vs, hvs, hv⟩ := List.mem_flatten.1 hv
  cases ct with
  | typed e xs => exact All2.right (p := fun vs => ∀ v ∈ vs, v.oneCell' = true) (fun _ _ h => h.2.one) h vs hvs v hv
  | raw a es d xs => exact All2.right (p := fun vs => ∀ v ∈ vs, v.oneCell' = true) (fun _ _ h => h.2.2.2.2) h.2.2 vs hvs v hv
  | deep fx e xs => exact All2.right (R := ElemD e.size) (p := fun vs => ∀ v ∈ vs, v.oneCell' = true) (fun _ _ h => h.2) h vs hvs v hv
end Go.AM
namespace Go.AM

/-! Soundness: memory that is written, taken over, made. -/
theorem Blk.of_block {w w' : World} {b n : Nat} (h : w'.heap[b]? = w.heap[b]?) (hb : Blk w b n) : Blk w' b n := by
  obtain ⟨C, T, fr, h1, h2, h3⟩ := hb
  exact ⟨C, T, fr, h.trans h1, h2, fun i hi => (World.frozen?_of_block (a := ⟨b, i, none⟩) h).trans (h3 i hi)⟩

/-- Nothing but one block changes. -/
structure Only (w w' : World) (b : Nat) : Prop where
  size : w'.heap.size = w.heap.size
  other : ∀ k, k ≠ b → w'.heap[k]? = w.heap[k]?
  blk' : ∀ n, Blk w b n → Blk w' b n
  os : w'.os = w.os
  tape : w'.tape = w.tape
  output : w'.output = w.output

theorem Only.refl (w : World) (b : Nat) : Only w w b := ⟨rfl, fun _ _ => rfl, fun _ h => h, rfl, rfl, rfl⟩
theorem Only.trans {w w1 w2 : World} {b : Nat} (x : Only w w1 b) (y : Only w1 w2 b) : Only w w2 b :=
  ⟨y.size.trans x.size, fun k hk => (y.other k hk).trans (x.other k hk), fun n h => y.blk' n (x.blk' n h), y.os.trans x.os, y.tape.trans x.tape, y.output.trans x.output⟩
theorem Only.blk {w w' : World} {b : Nat} (x : Only w w' b) (k n : Nat) (h : Blk w k n) : Blk w' k n := by
  by_cases hk : k = b
  · subst hk; exact x.blk' n h
  · exact h.of_block (x.other k hk)

theorem only_setCell (w : World) (b o : Nat) (v : Value) : Only w (w.setCell ⟨b, o, none⟩ v) b := by
  refine ⟨by simp, fun k hk => heap_setCell_other w _ k v hk, fun n hb => ?_, rfl, rfl, rfl⟩
  obtain ⟨C, T, fr, h1, h2, h3⟩ := hb
  refine ⟨C.setIfInBounds o v, T, fr, ?_, by simpa using h2, fun i hi => by rw [World.frozen?_setCell]; exact h3 i hi⟩
  simp [World.setCell, Array.getElem?_modify, h1]

theorem only_setCells (b : Nat) : ∀ (vs : List Value) (o : Nat) (w : World), Only w (w.setCells b o vs) b
  | [], _, w => Only.refl w b
  | v :: vs, o, w => (only_setCell w b o v).trans (only_setCells b vs (o + 1) _)

theorem Blk.cell {w : World} {b n o : Nat} (hb : Blk w b n) (ho : o < n) : (w.cell? ⟨b, o, none⟩).isSome = true := by
  obtain ⟨C, T, fr, h1, h2, _⟩ := hb
  rw [cell_of_row w b o C T fr h1]
  simp [h2, ho]

theorem Blk.frozen {w : World} {b n o : Nat} (hb : Blk w b n) (ho : o < n) : w.frozen? ⟨b, o, none⟩ = false := by
  obtain ⟨C, T, fr, h1, h2, h3⟩ := hb
  exact h3 o ho

theorem run_store_blk {P : Program} {w : World} {b n o : Nat} {vs : List Value} (hb : Blk w b n) (hn : o + vs.length ≤ n) (h1 : ∀ v ∈ vs, v.oneCell' = true) :
    (storeCells ⟨b, o, none⟩ vs).run P w = .ok () (w.setCells b o vs) := by
  have := run_storeCells_cells (P := P) b o vs 0 w (fun j hj => hb.cell (by omega)) (fun j hj => hb.frozen (by omega)) h1
  simpa using this

/-- What a written block's cells hold. -/
theorem lies_set_in {w : World} {b n o : Nat} {vs : List Value} (hb : Blk w b n) (hn : o + vs.length ≤ n) : Lies (w.setCells b o vs) b o vs := by
  intro j v hj
  have hlt : j < vs.length := (List.getElem?_eq_some_iff.1 hj).1
  have := World.cell?_setCells_in b vs o w (fun j hj => hb.cell (by omega)) j hlt
  rw [cellAt, this]
  exact congrArg some (List.getElem?_eq_some_iff.1 hj).2

theorem lies_set_out {w : World} {b o o' : Nat} {vs us : List Value} (hd : o' + us.length ≤ o ∨ o + vs.length ≤ o') (h : Lies w b o' us) : Lies (w.setCells b o vs) b o' us := by
  intro j v hj
  have hlt : j < us.length := (List.getElem?_eq_some_iff.1 hj).1
  rw [cellAt, World.cell?_setCells_out b vs o w ⟨b, o' + j, none⟩ (fun _ _ => by simp only; omega)]
  exact h j v hj

theorem Only.keeps {c : Ctx} {w' : World} {b : Nat} (x : Only c.w w' b) (hb : ¬ c.pr b) : Tells c { c with w := w' } :=
  ⟨fun _ _ h => h, fun _ h => h, ⟨fun _ h => h, fun k hk => x.other k (fun e => hb (e ▸ hk))⟩, x.blk⟩

theorem ObjRep.mono {c c' : Ctx} (t : Tells c c') {i : Info} {o : Obj} (hb : i.loc = true → c'.w.heap[i.b]? = c.w.heap[i.b]?) (r : ObjRep c i o) : ObjRep c' i o where
  len := r.len
  es := r.es
  pos := r.pos
  full := r.full
  loc := r.loc
  blk hl := by obtain ⟨n, h1, h2⟩ := r.blk hl; exact ⟨n, t.blk _ _ h1, h2⟩
  cont := by
    obtain ⟨L, hL, hl⟩ := contRep_iff.1 r.cont
    refine contRep_iff.2 ⟨L, hL.mono t, ?_⟩
    cases hloc : i.loc with
    | true => exact hl.of_block (hb hloc)
    | false =>
      have hlen := r.len
      have h0 : ¬ 0 < i.len := fun h => by simp [r.loc h] at hloc
      have : L = [] := List.eq_nil_of_length_eq_zero (by rw [hL.len, ← hlen]; omega)
      subst this
      simp [Lies]

/-- A deep row that is not empty lies somewhere. -/
theorem Sim.deepLoc {c : Ctx} {h : Heap} (hs : Sim c h) {id : Nat} {i : Info} {fx : Bool} {e : Ty} {xs : List e.C} {f : Bool} (hid : id < h.length) (hm : c.m id = some i) (hd : ¬ c.dead id) (hg : hget h id = some ⟨.deep fx e xs, f⟩) (hne : xs ≠ []) : i.loc = true := by
  obtain ⟨o, ho, hr⟩ := hs.obj id i hid hm hd
  rw [hg] at ho; cases ho
  refine hr.loc ?_
  have := hr.len
  have h0 : 0 < List.length xs := List.length_pos_iff.2 hne
  simp only [Cont.len] at this
  omega

/-- A deep row stays where its blocks stay. -/
theorem Sim.deepStay {c c' : Ctx} {h : Heap} (hs : Sim c h) {id : Nat} {i : Info} {fx : Bool} {e : Ty} {xs : List e.C} {f : Bool} (hid : id < h.length) (hm : c.m id = some i) (hd : ¬ c.dead id) (hg : hget h id = some ⟨.deep fx e xs, f⟩)
    (ho : ∀ b, c.own id b → c'.own id b) (hk : ∀ b, c.at id b → c'.w.heap[b]? = c.w.heap[b]?) : DeepRow c' id i fx e xs :=
  (hs.deep id i fx e xs f hid hm hd hg).mono ho (fun b hb => hk b (.inl hb)) fun hne => hk _ (.inr ⟨i, hm, hs.deepLoc hid hm hd hg hne, rfl⟩)

/-- A row of the heap is written. -/
theorem write_ok {c : Ctx} {h : Heap} (hs : Sim c h) {id : Nat} {i : Info} (hi : c.m id = some i) (hd : ¬ c.dead id) (hid : id < h.length) {w' : World} (hl : i.loc = true ∨ w' = c.w) (x : Only c.w w' i.b)
    {h' : Heap} (hlen : h'.length = h.length) (hoth : ∀ k, k ≠ id → hget h' k = hget h k) {o' : Obj} (hob : hget h' id = some o') (hr : ObjRep { c with w := w' } i o')
    (hdp : ∀ fx e xs, o'.c = .deep fx e xs → DeepRow { c with w := w' } id i fx e xs) : Ext c h { c with w := w' } h' ∧ Sim { c with w := w' } h' := by
  have hkeep : ∀ b, c.pr b → w'.heap[b]? = c.w.heap[b]? := fun b hp => by
    rcases hl with hl | he
    · exact x.other b (fun e => hs.apart id i hi hd hl (e ▸ hp))
    · rw [he]
  have t : Tells c { c with w := w' } := ⟨fun _ _ h => h, fun _ h => h, ⟨fun _ h => h, hkeep⟩, x.blk⟩
  constructor
  · refine ⟨⟨fun _ h => h, by simp [x.size], hkeep, x.blk, fun k hk hn => ?_, ?_, fun _ h => .inl h, x.os, x.tape, x.output⟩,
      by omega, fun _ _ h => h, fun id' i' h1 h2 => absurd (h2.symm.trans h1) (by simp), fun _ h => h, fun _ h => .inl h⟩
    · rcases hl with hl | he
      · exact x.other k (fun e => hn ⟨id, hid, hd, .inr ⟨i, hi, hl, e.symm⟩⟩)
      · rw [he]
    · rintro b ⟨id', h1, h2, h3⟩
      exact .inr ⟨id', by omega, h2, h3⟩
  · refine ⟨fun id' i' h1 h2 h3 => ?_, fun id' h1 h2 => ?_, fun id' i' h1 h2 h3 => ?_, hs.inj, fun b hb => by simp only [x.size]; exact hs.plow b hb, hs.apart,
      hs.own.step rfl (fun _ h => h) (fun _ _ h => h) (by simp [x.size]) (fun _ h => .inl h) (fun id' i' h1 h2 h3 => hs.own.off h1 h2 h3), fun id' i' fx e xs f h1 h2 h3 h4 => ?_⟩
    case refine_4 =>
      by_cases he : id' = id
      · subst he
        have : i' = i := by rw [hi] at h2; exact (Option.some.inj h2).symm
        subst this
        rw [hob] at h4
        exact hdp fx e xs (by rw [Option.some.inj h4])
      · rw [hoth _ he] at h4
        refine hs.deepStay (by omega) h2 h3 h4 (fun _ h => h) fun b hb => ?_
        rcases hl with hl | he'
        · refine x.other b fun e => ?_
          subst e
          rcases hb with hb | ⟨j, q1, q2, q3⟩
          · exact hs.own.off hi hd hl id' h3 hb
          · exact he (hs.inj id' id j i q1 hi h3 hd q2 hl q3)
        · rw [he']
    · by_cases he : id' = id
      · subst he
        have : i' = i := by rw [hi] at h2; exact (Option.some.inj h2).symm
        subst this
        exact ⟨o', hob, hr⟩
      · obtain ⟨o, ho, hr'⟩ := hs.obj id' i' (by omega) h2 h3
        refine ⟨o, by rw [hoth _ he]; exact ho, hr'.mono t (fun hl' => ?_)⟩
        rcases hl with hl | he'
        · exact x.other _ (fun e => he (hs.inj id' id i' i h2 hi h3 hd hl' hl e))
        · rw [he']
    · have : id' ≠ id := fun e => hd (e ▸ h2)
      rw [hoth _ this]; exact hs.gone id' (by omega) h2
    · simp only [x.size]; exact hs.low id' i' h1 h2 h3

/-- One block more. -/
structure Pushed (w w' : World) (C : List Value) : Prop where
  size : w'.heap.size = w.heap.size + 1
  old : ∀ k, k < w.heap.size → w'.heap[k]? = w.heap[k]?
  new : ∃ T fr, w'.heap[w.heap.size]? = some (.cells C.toArray T fr)
  soft : ∀ i, i < C.length → w'.frozen? ⟨w.heap.size, i, none⟩ = false
  os : w'.os = w.os
  tape : w'.tape = w.tape
  output : w'.output = w.output

theorem pushed_alloc (w : World) (C : Array Value) (T : TypeId) : Pushed w (w.alloc (.cells C T)) C.toList :=
  ⟨by simp, fun k hk => heap_alloc_old w _ k hk, ⟨T, (0, 0), by simpa using heap_alloc_new w (.cells C T)⟩, fun i _ => frozen_of_row _ _ i C T (heap_alloc_new w (.cells C T)), rfl, rfl, rfl⟩
theorem pushed_drew (w : World) (C : Array Value) (T : TypeId) : Pushed w (w.drew.alloc (.cells C T)) C.toList :=
  ⟨by simp, fun k hk => heap_alloc_old w.drew _ k hk, ⟨T, (0, 0), by simpa using heap_alloc_new w.drew (.cells C T)⟩, fun i _ => frozen_of_row _ _ i C T (heap_alloc_new w.drew (.cells C T)), rfl, rfl, rfl⟩

theorem Pushed.blkNew {w w' : World} {C : List Value} (p : Pushed w w' C) : Blk w' w.heap.size C.length := by
  obtain ⟨T, fr, h⟩ := p.new
  exact ⟨_, T, fr, h, by simp, p.soft⟩

theorem Pushed.blk {w w' : World} {C : List Value} (p : Pushed w w' C) (b n : Nat) (h : Blk w b n) : Blk w' b n := by
  have hlt : b < w.heap.size := by obtain ⟨_, _, _, h1, _⟩ := h; exact (Array.getElem?_eq_some_iff.1 h1).1
  exact h.of_block (p.old b hlt)

theorem Pushed.lies {w w' : World} {C D : List Value} (p : Pushed w w' (C ++ D)) : Lies w' w.heap.size 0 C := by
  obtain ⟨T, fr, h⟩ := p.new
  intro j v hj
  rw [cellAt, Nat.zero_add, cell_of_row w' _ j _ T _ h]
  simp [List.getElem?_append_left (List.getElem?_eq_some_iff.1 hj).1, hj]

def upd (m : Nat → Option Info) (id : Nat) (i : Info) : Nat → Option Info := fun k => if k = id then some i else m k

/-- A state with one row more. -/
def Ctx.more (c : Ctx) (h : Heap) (w' : World) (i : Info) : Ctx := { c with m := upd c.m h.length i, w := w' }

theorem hget_append_old {h h' : Heap} {id : Nat} (hid : id < h.length) : hget (h ++ h') id = hget h id := by
  simp [hget, List.getD, List.getElem?_append_left hid]
theorem hget_append_new {h : Heap} {o : Option Obj} : hget (h ++ [o]) h.length = o := by
  simp [hget, List.getD]
theorem hget_set_other {h : Heap} {id k : Nat} {o : Option Obj} (hk : k ≠ id) : hget (h.set id o) k = hget h k := by
  simp [hget, List.getD, List.getElem?_set_ne (Ne.symm hk)]
theorem hget_set_same {h : Heap} {id : Nat} {o : Option Obj} (hid : id < h.length) : hget (h.set id o) id = o := by
  simp [hget, List.getD, hid]

theorem grow_ok {c : Ctx} {h : Heap} (hs : Sim c h) (hf : c.m h.length = none ∧ ¬ c.dead h.length) {w' : World} {L : List (List Value)} {D : List Value} (p : Pushed c.w w' (L.flatten ++ D)) {o : Obj}
    (hL : ContV c o.c L) (hpos : 0 < o.c.es) (hdp : ∀ fx e xs, o.c = .deep fx e xs → DeepRow (c.more h w' (inf true c.w.heap.size 0 o.c.len o.c.es o.full)) h.length (inf true c.w.heap.size 0 o.c.len o.c.es o.full) fx e xs) :
    let c' := c.more h w' (inf true c.w.heap.size 0 o.c.len o.c.es o.full)
    Ext c h c' (h ++ [some o]) ∧ Sim c' (h ++ [some o]) ∧ Grow c h c' (h ++ [some o]) ∧ Tells c c' := by
  intro c'
  have hm : ∀ id, id ≠ h.length → c'.m id = c.m id := fun id hid => by simp [c', Ctx.more, upd, hid]
  have hmn : c'.m h.length = some (inf true c.w.heap.size 0 o.c.len o.c.es o.full) := by simp [c', Ctx.more, upd]
  have hmono : ∀ id i, c.m id = some i → c'.m id = some i := fun id i hi => by
    rw [hm id (fun e => by rw [e, hf.1] at hi; cases hi)]; exact hi
  have t : Tells c c' := ⟨hmono, fun _ h => h, ⟨fun _ h => h, fun b hb => p.old b (hs.plow b hb)⟩, p.blk⟩
  have hsz : c'.w.heap.size = c.w.heap.size + 1 := p.size
  refine ⟨⟨⟨fun _ h => h, by omega, fun b hb => p.old b (hs.plow b hb), p.blk, fun b hb _ => p.old b hb, ?_, fun _ h => .inl h, p.os, p.tape, p.output⟩,
      by simp, hmono, ?_, fun _ h => h, fun _ h => .inl h⟩, ⟨?_, ?_, ?_, ?_, ?_, ?_, ?_, ?_⟩, ⟨p.old, fun id hid => hget_append_old hid, rfl, fun _ _ => rfl⟩, t⟩
  · rintro b ⟨id, hid, hd, ho | ⟨i, hi, hl, hb⟩⟩
    · have hne : id ≠ h.length := fun e => hs.own.told id b ho (e ▸ hf.1)
      simp only [List.length_append, List.length_cons, List.length_nil] at hid
      exact .inr ⟨id, by omega, hd, .inl ho⟩
    · by_cases he : id = h.length
      · subst he; rw [hmn] at hi; cases hi; exact .inl (Nat.le_of_eq hb)
      · rw [hm id he] at hi
        simp only [List.length_append, List.length_cons, List.length_nil] at hid
        exact .inr ⟨id, by omega, hd, .inr ⟨i, hi, hl, hb⟩⟩
  · intro id i hi hn
    by_cases he : id = h.length
    · simp [he]
    · rw [hm id he, hn] at hi; cases hi
  · intro id i hid hi hd
    by_cases he : id = h.length
    · subst he
      rw [hmn] at hi; cases hi
      refine ⟨o, hget_append_new, rfl, rfl, hpos, rfl, fun _ => rfl, fun _ => ⟨_, p.blkNew, ?_⟩, contRep_iff.2 ⟨L, hL.mono t, p.lies⟩⟩
      have := flat_len hL.es
      simp only [List.length_append, this, hL.len]; omega
    · rw [hm id he] at hi
      simp only [List.length_append, List.length_cons, List.length_nil] at hid
      obtain ⟨o', ho', hr⟩ := hs.obj id i (by omega) hi hd
      exact ⟨o', by rw [hget_append_old (by omega)]; exact ho', hr.mono t (fun hl => p.old _ (hs.low id i hi hd hl))⟩
  · intro id hid hd
    have he : id ≠ h.length := fun e => hf.2 (e ▸ hd)
    simp only [List.length_append, List.length_cons, List.length_nil] at hid
    rw [hget_append_old (by omega)]; exact hs.gone id (by omega) hd
  · intro id i hi hd hl
    by_cases he : id = h.length
    · subst he; rw [hmn] at hi; cases hi; simp only [hsz]; omega
    · rw [hm id he] at hi; have := hs.low id i hi hd hl; omega
  · intro id id' i i' hi hi' hd hd' hl hl' hb
    by_cases he : id = h.length
    · by_cases he' : id' = h.length
      · rw [he, he']
      · subst he; rw [hmn] at hi; cases hi; rw [hm id' he'] at hi'; have := hs.low id' i' hi' hd' hl'; simp only at hb; omega
    · rw [hm id he] at hi
      by_cases he' : id' = h.length
      · subst he'; rw [hmn] at hi'; cases hi'; have := hs.low id i hi hd hl; simp only at hb; omega
      · rw [hm id' he'] at hi'; exact hs.inj id id' i i' hi hi' hd hd' hl hl' hb
  · intro b hb; have := hs.plow b hb; omega
  · intro id i hi hd hl
    by_cases he : id = h.length
    · subst he; rw [hmn] at hi; cases hi; intro hp; have := hs.plow _ hp; simp only at this; omega
    · rw [hm id he] at hi; exact hs.apart id i hi hd hl
  · refine hs.own.step rfl (fun _ h => h) hmono (by omega) (fun _ h => .inl h) fun id i hi hd hl => ?_
    by_cases he : id = h.length
    · subst he; rw [hmn] at hi; cases hi; exact hs.own.fresh (Nat.le_refl _)
    · rw [hm id he] at hi; exact hs.own.off hi hd hl
  · intro id i fx e xs f hid hi hd hg
    by_cases he : id = h.length
    · subst he; rw [hmn] at hi; cases hi
      rw [hget_append_new] at hg; cases hg
      exact hdp fx e xs rfl
    · rw [hm id he] at hi
      simp only [List.length_append, List.length_cons, List.length_nil] at hid
      rw [hget_append_old (by omega)] at hg
      refine hs.deepStay (by omega) hi hd hg (fun _ h => h) fun b hb => p.old b ?_
      rcases hb with hb | ⟨j, q1, q2, q3⟩
      · exact hs.own.low id b hd hb
      · rw [← q3]; exact hs.low id j q1 hd q2

/-- A row is struck. -/
theorem kill_ok {c : Ctx} {h : Heap} (hs : Sim c h) {id : Nat} (hid : id < h.length) :
    let c' : Ctx := { c with dead := fun k => c.dead k ∨ k = id }
    Ext c h c' (h.set id none) ∧ Sim c' (h.set id none) := by
  intro c'
  have nd : ∀ {k}, ¬ c'.dead k → ¬ c.dead k ∧ k ≠ id := fun {k} hk => ⟨fun h => hk (.inl h), fun h => hk (.inr h)⟩
  have t : Tells c c' := ⟨fun _ _ h => h, fun _ h => Or.inl h, ⟨fun _ h => h, fun _ _ => rfl⟩, fun _ _ h => h⟩
  refine ⟨⟨⟨fun _ h => h, Nat.le_refl _, fun _ _ => rfl, fun _ _ h => h, fun _ _ _ => rfl, ?_, fun _ h => .inl h, rfl, rfl, rfl⟩, by simp, fun _ _ h => h, fun id' i' h1 h2 => absurd (h2.symm.trans h1) (by simp), fun _ h => .inl h, ?_⟩, ⟨?_, ?_, ?_, ?_, hs.plow, ?_, ?_, ?_⟩⟩
  · rintro b ⟨id', h1, h2, h3⟩
    exact .inr ⟨id', by simpa using h1, (nd h2).1, h3⟩
  · intro k hk
    rcases hk with h | h
    · exact .inl h
    · subst h; exact .inr (by simpa using hid)
  · intro id' i h1 h2 h3
    obtain ⟨o, ho, hr⟩ := hs.obj id' i (by simpa using h1) h2 (nd h3).1
    refine ⟨o, by rw [hget_set_other (nd h3).2]; exact ho, hr.mono t (fun _ => rfl)⟩
  · intro id' h1 h2
    by_cases he : id' = id
    · subst he; exact hget_set_same hid
    · rw [hget_set_other he]
      rcases h2 with h | h
      · exact hs.gone id' (by simpa using h1) h
      · exact absurd h he
  · intro id' i h1 h2 h3; exact hs.low id' i h1 (nd h2).1 h3
  · intro a b i j h1 h2 h3 h4; exact hs.inj a b i j h1 h2 (nd h3).1 (nd h4).1
  · intro id' i h1 h2 h3; exact hs.apart id' i h1 (nd h2).1 h3
  · exact hs.own.step rfl (fun _ h => .inl h) (fun _ _ h => h) (Nat.le_refl _) (fun _ h => .inl h) (fun id' i h1 h2 h3 => hs.own.off h1 (nd h2).1 h3)
  · intro id' i fx e xs f h1 h2 h3 h4
    rw [hget_set_other (nd h3).2] at h4
    exact hs.deepStay (by simpa using h1) h2 (nd h3).1 h4 (fun _ h => h) fun _ _ => rfl

/-- A row takes over another's place. -/
theorem adopt_ok {c : Ctx} {h : Heap} (hs : Sim c h) {id : Nat} {i i' : Info} (hid : id < h.length) (hi : c.m id = some i) (hd : ¬ c.dead id) (hf : c.m h.length = none ∧ ¬ c.dead h.length) {w' : World} (x : Only c.w w' i.b)
    (hw : i.loc = true ∨ w' = c.w) (hb : i'.loc = true → i.loc = true ∧ i'.b = i.b) {o : Obj} :
    let c' : Ctx := { c with m := upd c.m h.length i', dead := fun k => c.dead k ∨ k = id, w := w' }
    Tells c c' ∧ (ObjRep c' i' o → o.c.isDeep = false → Ext c h c' (h.set id none ++ [some o]) ∧ Sim c' (h.set id none ++ [some o])) := by
  intro c'
  have nd : ∀ {k}, ¬ c'.dead k → ¬ c.dead k ∧ k ≠ id := fun {k} hk => ⟨fun h => hk (.inl h), fun h => hk (.inr h)⟩
  have hm : ∀ id, id ≠ h.length → c'.m id = c.m id := fun id hid => by simp [c', upd, hid]
  have hmn : c'.m h.length = some i' := by simp [c', upd]
  have hmono : ∀ id i, c.m id = some i → c'.m id = some i := fun id i hi => by
    rw [hm id (fun e => by rw [e, hf.1] at hi; cases hi)]; exact hi
  have hkeep : ∀ b, c.pr b → w'.heap[b]? = c.w.heap[b]? := fun b hp => by
    rcases hw with hl | he
    · exact x.other b (fun e => hs.apart id i hi hd hl (e ▸ hp))
    · rw [he]
  have t : Tells c c' := ⟨hmono, fun _ h => .inl h, ⟨fun _ h => h, hkeep⟩, x.blk⟩
  refine ⟨t, fun hr hnd => ?_⟩
  have hne : id ≠ h.length := by omega
  have hlen : (h.set id none ++ [some o]).length = h.length + 1 := by simp
  have hgo : ∀ k, k < h.length → k ≠ id → hget (h.set id none ++ [some o]) k = hget h k := fun k hk hk' => by
    rw [hget_append_old (by simpa using hk), hget_set_other hk']
  have hsz : w'.heap.size = c.w.heap.size := x.size
  refine ⟨⟨⟨fun _ h => h, Nat.le_of_eq hsz.symm, hkeep, x.blk, ?_, ?_, fun _ h => .inl h, x.os, x.tape, x.output⟩, by simp, hmono, ?_, fun _ h => .inl h, ?_⟩, ⟨?_, ?_, ?_, ?_, fun b hb => by simp only [c', hsz]; exact hs.plow b hb, ?_, ?_, ?_⟩⟩
  · intro b hb' hn
    rcases hw with hl | he
    · exact x.other b (fun e => hn ⟨id, hid, hd, .inr ⟨i, hi, hl, e.symm⟩⟩)
    · show w'.heap[b]? = _; rw [he]
  · rintro b ⟨k, h1, h3, ho | ⟨j, h2, h4, h5⟩⟩
    · have hne : k ≠ h.length := fun e => hs.own.told k b ho (e ▸ hf.1)
      exact .inr ⟨k, by omega, (nd h3).1, .inl ho⟩
    · by_cases he : k = h.length
      · subst he; rw [hmn] at h2; cases h2
        exact .inr ⟨id, hid, hd, .inr ⟨i, hi, (hb h4).1, (hb h4).2.symm.trans h5⟩⟩
      · rw [hm k he] at h2; exact .inr ⟨k, by omega, (nd h3).1, .inr ⟨j, h2, h4, h5⟩⟩
  · intro k j h1 h2
    by_cases he : k = h.length
    · omega
    · rw [hm k he, h2] at h1; cases h1
  · intro k hk
    rcases hk with h | h
    · exact .inl h
    · exact .inr (by omega)
  · intro k j h1 h2 h3
    by_cases he : k = h.length
    · subst he; rw [hmn] at h2; cases h2
      refine ⟨o, ?_, hr⟩
      have : h.length = (h.set id none).length := by simp
      rw [this]; exact hget_append_new
    · rw [hm k he] at h2
      obtain ⟨o', ho', hr'⟩ := hs.obj k j (by omega) h2 (nd h3).1
      refine ⟨o', by rw [hgo k (by omega) (nd h3).2]; exact ho', hr'.mono t (fun hl => ?_)⟩
      rcases hw with hl' | he'
      · exact x.other _ (fun e => (nd h3).2 (hs.inj k id j i h2 hi (nd h3).1 hd hl hl' e))
      · show w'.heap[j.b]? = _; rw [he']
  · intro k h1 h2
    by_cases he : k = id
    · subst he; rw [hget_append_old (by simpa using hid)]; exact hget_set_same hid
    · have hk : c.dead k := h2.resolve_right he
      have : k ≠ h.length := fun e => hf.2 (e ▸ hk)
      rw [hgo k (by omega) he]; exact hs.gone k (by omega) hk
  · intro k j h1 h2 h3
    simp only [c', hsz]
    by_cases he : k = h.length
    · subst he; rw [hmn] at h1; cases h1
      have := hs.low id i hi hd (hb h3).1
      rw [(hb h3).2]; exact this
    · rw [hm k he] at h1; exact hs.low k j h1 (nd h2).1 h3
  · intro k k' j j' h1 h2 h3 h4 h5 h6 h7
    by_cases he : k = h.length
    · by_cases he' : k' = h.length
      · rw [he, he']
      · subst he; rw [hmn] at h1; cases h1; rw [hm k' he'] at h2
        exact absurd (hs.inj id k' i j' hi h2 hd (nd h4).1 (hb h5).1 h6 ((hb h5).2.symm.trans h7)).symm (nd h4).2
    · rw [hm k he] at h1
      by_cases he' : k' = h.length
      · subst he'; rw [hmn] at h2; cases h2
        exact absurd (hs.inj id k i j hi h1 hd (nd h3).1 (hb h6).1 h5 ((hb h6).2.symm.trans h7.symm)).symm (nd h3).2
      · rw [hm k' he'] at h2; exact hs.inj k k' j j' h1 h2 (nd h3).1 (nd h4).1 h5 h6 h7
  · intro k j h1 h2 h3
    by_cases he : k = h.length
    · subst he; rw [hmn] at h1; cases h1
      rw [(hb h3).2]; exact hs.apart id i hi hd (hb h3).1
    · rw [hm k he] at h1; exact hs.apart k j h1 (nd h2).1 h3
  · refine hs.own.step rfl (fun _ h => .inl h) hmono (Nat.le_of_eq hsz.symm) (fun _ h => .inl h) fun k j h1 h2 h3 => ?_
    by_cases he : k = h.length
    · subst he; rw [hmn] at h1; cases h1
      rw [(hb h3).2]; exact hs.own.off hi hd (hb h3).1
    · rw [hm k he] at h1; exact hs.own.off h1 (nd h2).1 h3
  · intro k j fx e xs f h1 h2 h3 h4
    by_cases he : k = h.length
    · subst he
      have : h.length = (h.set id none).length := by simp
      rw [this, hget_append_new] at h4
      cases h4; cases hnd
    · rw [hm k he] at h2
      rw [hgo k (by omega) (nd h3).2] at h4
      refine hs.deepStay (by omega) h2 (nd h3).1 h4 (fun _ h => h) fun b hb' => ?_
      rcases hw with hl' | he'
      · refine x.other b fun e => ?_
        subst e
        rcases hb' with hb' | ⟨j', q1, q2, q3⟩
        · exact hs.own.off hi hd hl' k (nd h3).1 hb'
        · exact (nd h3).2 (hs.inj k id j' i q1 hi (nd h3).1 hd q2 hl' q3)
      · show w'.heap[b]? = _; rw [he']

/-- An empty row that lies nowhere. -/
theorem grow0_ok {c : Ctx} {h : Heap} (hs : Sim c h) (hf : c.m h.length = none ∧ ¬ c.dead h.length) {o : Obj} (hl : o.c.len = 0) (hL : ContV c o.c []) (hpos : 0 < o.c.es) (hnd : o.c.isDeep = false) :
    let c' : Ctx := { c with m := upd c.m h.length (inf false 0 0 0 o.c.es o.full) }
    Ext c h c' (h ++ [some o]) ∧ Sim c' (h ++ [some o]) ∧ Grow c h c' (h ++ [some o]) ∧ Tells c c' := by
  intro c'
  have hm : ∀ id, id ≠ h.length → c'.m id = c.m id := fun id hid => by simp [c', upd, hid]
  have hmn : c'.m h.length = some (inf false 0 0 0 o.c.es o.full) := by simp [c', upd]
  have hmono : ∀ id i, c.m id = some i → c'.m id = some i := fun id i hi => by
    rw [hm id (fun e => by rw [e, hf.1] at hi; cases hi)]; exact hi
  have t : Tells c c' := ⟨hmono, fun _ h => h, ⟨fun _ h => h, fun b hb => rfl⟩, fun _ _ h => h⟩
  have old : ∀ {id i}, c'.m id = some i → i.loc = true → id ≠ h.length := fun {id i} h1 h2 e => by
    subst e; rw [hmn] at h1; cases h1; cases h2
  refine ⟨⟨⟨fun _ h => h, Nat.le_refl _, fun b hb => rfl, fun _ _ h => h, fun b hb _ => rfl, ?_, fun _ h => .inl h, rfl, rfl, rfl⟩,
      by simp, hmono, ?_, fun _ h => h, fun _ h => .inl h⟩, ⟨?_, ?_, ?_, ?_, hs.plow, ?_, ?_, ?_⟩, ⟨fun _ _ => rfl, fun id hid => hget_append_old hid, rfl, fun _ _ => rfl⟩, t⟩
  · rintro b ⟨id, hid, hd, ho | ⟨i, hi, hl, hb⟩⟩
    · have hne : id ≠ h.length := fun e => hs.own.told id b ho (e ▸ hf.1)
      simp only [List.length_append, List.length_cons, List.length_nil] at hid
      exact .inr ⟨id, by omega, hd, .inl ho⟩
    · have he := old hi hl
      rw [hm id he] at hi
      simp only [List.length_append, List.length_cons, List.length_nil] at hid
      exact .inr ⟨id, by omega, hd, .inr ⟨i, hi, hl, hb⟩⟩
  · intro id i hi hn
    by_cases he : id = h.length
    · simp [he]
    · rw [hm id he, hn] at hi; cases hi
  · intro id i hid hi hd
    by_cases he : id = h.length
    · subst he
      rw [hmn] at hi; cases hi
      exact ⟨o, hget_append_new, hl.symm, rfl, hpos, rfl, fun h => absurd h (Nat.lt_irrefl 0), fun h => (by cases h), contRep_iff.2 ⟨[], hL.mono t, by simp [Lies]⟩⟩
    · rw [hm id he] at hi
      simp only [List.length_append, List.length_cons, List.length_nil] at hid
      obtain ⟨o', ho', hr⟩ := hs.obj id i (by omega) hi hd
      exact ⟨o', by rw [hget_append_old (by omega)]; exact ho', hr.mono t (fun hl => rfl)⟩
  · intro id hid hd
    have he : id ≠ h.length := fun e => hf.2 (e ▸ hd)
    simp only [List.length_append, List.length_cons, List.length_nil] at hid
    rw [hget_append_old (by omega)]; exact hs.gone id (by omega) hd
  · intro id i hi hd hl
    rw [hm id (old hi hl)] at hi; exact hs.low id i hi hd hl
  · intro id id' i i' hi hi' hd hd' hl hl' hb
    rw [hm id (old hi hl)] at hi
    rw [hm id' (old hi' hl')] at hi'
    exact hs.inj id id' i i' hi hi' hd hd' hl hl' hb
  · intro id i hi hd hl
    rw [hm id (old hi hl)] at hi; exact hs.apart id i hi hd hl
  · refine hs.own.step rfl (fun _ h => h) hmono (Nat.le_refl _) (fun _ h => .inl h) fun id i hi hd hl => ?_
    rw [hm id (old hi hl)] at hi; exact hs.own.off hi hd hl
  · intro id i fx e xs f hid hi hd hg
    by_cases he : id = h.length
    · subst he
      rw [hget_append_new] at hg; cases hg; cases hnd
    · rw [hm id he] at hi
      simp only [List.length_append, List.length_cons, List.length_nil] at hid
      rw [hget_append_old (by omega)] at hg
      exact hs.deepStay (by omega) hi hd hg (fun _ h => h) fun _ _ => rfl
end Go.AM
namespace Go.AM

/-! Soundness: variables and rows that are made; stores. -/
theorem AV.size_cells (a : AV) : a.size = a.cells.length := by
  cases a <;> simp [AV.size, AV.cells]
  rename_i t x
  cases h : t.isAgg <;> simp [cellsT_len]

theorem bytes_ext {a b : ByteArray} (h : a.toList = b.toList) : a = b := by
  have : a.data.toList = b.data.toList := by rwa [ByteArray.toList_eq, ByteArray.toList_eq] at h
  cases a; cases b; congr 1; exact Array.toList_inj.1 this

theorem z_rep (c : Ctx) {a : AV} {v : Value} (h : zOk a v = true) : VRep c a v := by
  unfold zOk at h
  split at h
  · simp at h; simp [VRep, h]
  · simp at h; simp [VRep, h]
  · simp at h; simp only [VRep]; rw [bytes_ext h]
  · simp [VRep]
  · simp [VRep]
  · simp [VRep]
  · cases h

theorem zs_reps (c : Ctx) : ∀ {as : List AV} {vs : List Value}, zsOk as vs = true → VReps c as vs
  | [], [], _ => by simp [VReps]
  | a :: as, v :: vs, h => by
    simp only [zsOk, Bool.and_eq_true] at h
    simp only [VReps]; exact ⟨z_rep c h.1, zs_reps c h.2⟩
  | [], _ :: _, h => by simp [zsOk] at h
  | _ :: _, [], h => by simp [zsOk] at h

theorem VRep.one {c : Ctx} {a : AV} {v : Value} (h : VRep c a v) (ha : a.one = true) : v.oneCell' = true := by
  cases a <;> simp only [AV.one, Bool.false_eq_true, Bool.not_eq_true'] at ha <;> simp only [VRep] at h
  case int => rw [h]; rfl
  case bool => rw [h]; rfl
  case str => rw [h]; rfl
  case nilp => rw [h]; rfl
  case fn => obtain ⟨ws, h, _⟩ := h; rw [h]; rfl
  case ptr => obtain ⟨⟨p, h⟩, _⟩ := h; rw [h]; rfl
  case sl => obtain ⟨⟨_, _, _, h⟩, _⟩ := h; rw [h]; rfl
  case ss => obtain ⟨⟨_, _, _, h⟩, _⟩ := h; rw [h]; rfl
  case dp => obtain ⟨⟨_, _, _, h⟩, _⟩ := h; rw [h]; rfl
  case nils => obtain ⟨_, h⟩ := h; rw [h]; rfl
  case tv t x =>
    rw [TRep, if_neg (by simp [ha])] at h
    exact h.one v (by simp)
  case tp => obtain ⟨_, _, _, h, _⟩ := h; rw [h]; rfl
  case bp => obtain ⟨_, _, _, h, _⟩ := h; rw [h]; rfl

theorem one_cells {v : Value} (h : v.oneCell' = true) : v.cells = #[v] := by cases v <;> simp [Value.oneCell', Value.cells] at *

theorem VReps.one {c : Ctx} : ∀ {as : List AV} {vs : List Value}, VReps c as vs → as.all AV.one = true → ∀ v ∈ vs, v.oneCell' = true
  | [], [], _, _ => by simp
  | a :: as, v :: vs, h, ha => by
    simp only [VReps] at h
    simp only [List.all_cons, Bool.and_eq_true] at ha
    intro u hu
    rcases List.mem_cons.1 hu with rfl | hu
    · exact h.1.one ha.1
    · exact VReps.one h.2 ha.2 u hu
  | [], _ :: _, h, _ => by simp [VReps] at h
  | _ :: _, [], h, _ => by simp [VReps] at h

/-- A value's cells. -/
theorem VRep.cells {c : Ctx} {a : AV} {v : Value} (h : VRep c a v) (ha : a.cells.all AV.one = true) : VReps c a.cells v.cells.toList ∧ ∀ u ∈ v.cells.toList, u.oneCell' = true := by
  cases hg : a.isAgg with
  | true =>
    obtain ⟨vs, hv, hc⟩ := h.agg hg
    subst hv
    exact ⟨hc, VReps.one hc ha⟩
  | false =>
    have hcs := AV.cells_one hg
    rw [hcs] at ha ⊢
    have h1 := h.one (by simpa using ha)
    rw [one_cells h1]
    exact ⟨by simp [VReps, h], by simp [h1]⟩

theorem TyIs.zsize {P : Program} {t : TypeId} {ti : TI} (h : TyIs P t ti) : ti.zero.size = ti.size := by rw [AV.size_cells, h.zlen]

theorem TyIs.zrun {P : Program} {t : TypeId} {ti : TI} (h : TyIs P t ti) : ∃ i z, P.info? t = some i ∧ i.zero = some z ∧ i.size = ti.size ∧ i.bytes = ti.bytes ∧ (∀ w, (zeroValue t).run P w = .ok z w) ∧ z.cells.size = ti.size ∧
    (∀ c, VReps c ti.zero.cells z.cells.toList) ∧ (∀ v ∈ z.cells.toList, v.oneCell' = true) := by
  obtain ⟨i, z, hi, hs, hb, hz, hzs, hag, hone⟩ := h.info
  refine ⟨i, z, hi, hz, hs, hb, fun w => by simp [zeroValue, typeInfo, hi, hz], ?_, fun c => zs_reps c hzs, hone⟩
  have := (zs_reps ⟨fun _ => none, fun _ => False, fun _ => False, default, fun _ _ => False⟩ hzs).length
  rw [← h.zlen, this]; simp

section
variable {ρ : Type} {P : Program} {E : Env} {s : List AV} {h : Heap} {o : Oper} {x : ρ}

theorem OpOk.growQ {ob : Obj} (hpos : 0 < ob.c.es) {Q : Ctx → List (List Value) → Prop} (hdp : ∀ (c : Ctx) (w' : World) (L : List (List Value)) (D : List Value), Pushed c.w w' (L.flatten ++ D) → Q c L → ∀ fx e xs, ob.c = .deep fx e xs →
      DeepRow (c.more h w' (inf true c.w.heap.size 0 ob.c.len ob.c.es ob.full)) h.length (inf true c.w.heap.size 0 ob.c.len ob.c.es ob.full) fx e xs) {v : AV}
    (run : ∀ c a, Sim c h → Slots c s a → ∃ v' w' L D, (execOp a.eval o).run P c.w = .ok (.value v') w' ∧ Pushed c.w w' (L.flatten ++ D) ∧ ContV c ob.c L ∧ Q c L ∧
      (∀ c', Tells c c' → c'.w = w' → c'.m h.length = some (inf true c.w.heap.size 0 ob.c.len ob.c.es ob.full) → VRep c' v v')) : OpOk P s h o v (h ++ [some ob]) false := by
  refine ⟨?_, (Pre.snoc _ _).sta _⟩
  intro c a hs hf hsl next Q hn
  obtain ⟨v', w', L, D, hr, hp, hL, hq, hv⟩ := run c a hs hsl
  unfold Oper.wp
  rw [hr]
  obtain ⟨h1, h2, h3, h4⟩ := grow_ok hs (hf _ (Nat.le_refl _) (by simp)) hp hL hpos (hdp c w' L D hp hq)
  exact hn _ v' h1 h2 (hv _ h4 rfl (by simp [Ctx.more, upd])) (fun _ => h3)

theorem OpOk.grow {ob : Obj} (hpos : 0 < ob.c.es) (hnd : ob.c.isDeep = false) {v : AV}
    (run : ∀ c a, Sim c h → Slots c s a → ∃ v' w' L D, (execOp a.eval o).run P c.w = .ok (.value v') w' ∧ Pushed c.w w' (L.flatten ++ D) ∧ ContV c ob.c L ∧
      (∀ c', Tells c c' → c'.w = w' → c'.m h.length = some (inf true c.w.heap.size 0 ob.c.len ob.c.es ob.full) → VRep c' v v')) : OpOk P s h o v (h ++ [some ob]) false := by
  refine ⟨?_, (Pre.snoc _ _).sta _⟩
  intro c a hs hf hsl next Q hn
  obtain ⟨v', w', L, D, hr, hp, hL, hv⟩ := run c a hs hsl
  unfold Oper.wp
  rw [hr]
  obtain ⟨h1, h2, h3, h4⟩ := grow_ok hs (hf _ (Nat.le_refl _) (by simp)) hp hL hpos (fun fx e xs hc => by rw [hc] at hnd; cases hnd)
  exact hn _ v' h1 h2 (hv _ h4 rfl (by simp [Ctx.more, upd])) (fun _ => h3)

theorem raw_one {c : Ctx} {ti : TI} {z : AV} {vs : List Value} (hzs : ti.zero.size = ti.size) (hza : ti.zero.isAgg = ti.agg) (ha : z.isAgg = ti.agg) (hs : z.size = ti.size) (hr : VReps c z.cells vs) (h1 : ∀ v ∈ vs, v.oneCell' = true) :
    ContV c (.raw ti.agg ti.size ti.zero [z]) [vs] :=
  ⟨hza, hzs, ⟨ha, hs, by rw [← hr.length, ← AV.size_cells, hs], hr, h1⟩, trivial⟩

theorem told_alloc (hT : TOk P E) {t : TypeId} (ho : o.op = .alloc t) {K : AV → Heap → Bool → Option ρ}
    (hk : (match E.ty t with | some ti => K (.ptr h.length 0 0) (h ++ [some ⟨.raw ti.agg ti.size ti.zero [ti.zero], true⟩]) false | none => none) = some x) : Told P s h o K x := by
  split at hk
  · rename_i ti hti
    have ty := hT.is hti
    obtain ⟨i, z, hi, hz, hsz, hb, hrun, hzc, hzr, hz1⟩ := ty.zrun
    refine ⟨_, _, _, hk, OpOk.grow (hpos := by exact ty.pos) rfl fun c a hs hsl => ⟨.pointer (some ⟨c.w.heap.size, 0, none⟩), c.w.alloc (.cells z.cells t), [z.cells.toList], [], ?_, ?_, ?_, ?_⟩⟩
    · simp [execOp, ho, Instr.alloc, hrun, newVar, newRow]
    · simpa using pushed_alloc c.w z.cells t
    · exact raw_one ty.zsize ty.zagg ty.zagg ty.zsize (hzr c) hz1
    · intro c' _ _ hm
      simp only [VRep, ptrRep]
      exact ⟨⟨_, rfl⟩, .inr ⟨_, hm, by simp [Cont.len], by simp⟩⟩
  · cases hk

theorem told_box (hT : TOk P E) {t : TypeId} {y : Operand} (ho : o.op = .box t y) {K : AV → Heap → Bool → Option ρ}
    (hk : (match E.ty t with
     | some ti => bif ((aeval s y).isAgg == ti.agg) && ((aeval s y).size == ti.size) && (aeval s y).cells.all AV.one then K (.ptr h.length 0 0) (h ++ [some ⟨.raw ti.agg ti.size ti.zero [aeval s y], true⟩]) false else none
     | none => none) = some x) : Told P s h o K x := by
  split at hk
  · rename_i ti hti
    have ty := hT.is hti
    by_cases hb : (((aeval s y).isAgg == ti.agg) && ((aeval s y).size == ti.size) && (aeval s y).cells.all AV.one) = true
    · simp only [hb, cond_true] at hk
      simp only [Bool.and_eq_true, beq_iff_eq] at hb
      obtain ⟨⟨h1, h2⟩, h3⟩ := hb
      refine ⟨_, _, _, hk, OpOk.grow (hpos := by exact ty.pos) rfl fun c a hs hsl => ⟨.pointer (some ⟨c.w.heap.size, 0, none⟩), c.w.alloc (.cells (a.eval y).cells t), [(a.eval y).cells.toList], [], ?_, ?_, ?_, ?_⟩⟩
      · simp [execOp, ho, Instr.box, newVar, newRow]
      · simpa using pushed_alloc c.w (a.eval y).cells t
      · obtain ⟨q1, q2⟩ := (hsl.eval y).cells h3
        exact raw_one ty.zsize ty.zagg h1 h2 q1 q2
      · intro c' _ _ hm
        simp only [VRep, ptrRep]
        exact ⟨⟨_, rfl⟩, .inr ⟨_, hm, by simp [Cont.len], by simp⟩⟩
    · simp only [Bool.not_eq_true] at hb; simp [hb] at hk
  · cases hk
end

/-! A value read as of a type. -/
theorem asOne_ok {c : Ctx} {t : Ty} {a : AV} {x : t.C} {v : Value} (h : asOne t a = some x) (hr : VRep c a v) : CellsRep c.pr c.w t x [v] := by
  unfold asOne at h
  split at h
  · split at h
    · rename_i hk; subst hk; cases h; simp only [CellsRep]; rw [hr.int]
    · cases h
  · cases h; simp only [CellsRep]; rw [hr.bool]
  · cases h; simp only [CellsRep]; rw [hr.str]
  · rename_i u y
    split at h
    · rename_i hu
      subst hu
      cases h
      simp only [VRep, TRep, Ty.isAgg, Bool.false_eq_true, if_false] at hr
      exact hr
    · cases h
  · cases h
    simp only [VRep] at hr
    obtain ⟨a, rfl⟩ := hr
    exact ⟨_, rfl, a, 0, rfl, Nat.le_refl _, fun _ => rfl, fun h => absurd rfl h⟩
  · cases h

theorem VReps.one_of {c : Ctx} {a : AV} {vs : List Value} (h : VReps c [a] vs) : ∃ u, vs = [u] ∧ VRep c a u := by
  match vs, h with
  | [u], h => exact ⟨u, rfl, by simpa [VReps] using h⟩
  | [], h => simp [VReps] at h
  | _ :: _ :: _, h => simp [VReps] at h

theorem asCells_ok {c : Ctx} : ∀ {t : Ty} {as : List AV} {x : t.C} {vs : List Value}, asCells t as = some x → VReps c as vs → CellsRep c.pr c.w t x vs := by
  intro t
  have scalar : ∀ (t : Ty), (∀ as, asCells t as = match as with | [v] => asOne t v | _ => none) → ∀ {as : List AV} {x : t.C} {vs : List Value}, asCells t as = some x → VReps c as vs → CellsRep c.pr c.w t x vs := by
    intro t ht as x vs h hr
    rw [ht] at h
    match as, h, hr with
    | [v], h, hr => obtain ⟨u, rfl, hu⟩ := hr.one_of; exact asOne_ok h hu
    | [], h, _ => cases h
    | _ :: _ :: _, h, _ => cases h
  have sh : ∀ (as : List AV) (t : Ty), (∀ v, asCells t [v] = asOne t v) → asCells t [] = none → (∀ a b l, asCells t (a :: b :: l) = none) → asCells t as = match as with | [v] => asOne t v | _ => none := by
    intro as t h1 h2 h3
    match as with
    | [v] => exact h1 v
    | [] => exact h2
    | a :: b :: l => exact h3 a b l
  induction t with
  | int k => exact scalar _ (fun as => sh as _ (fun _ => rfl) rfl (fun _ _ _ => rfl))
  | bool => exact scalar _ (fun as => sh as _ (fun _ => rfl) rfl (fun _ _ _ => rfl))
  | str => exact scalar _ (fun as => sh as _ (fun _ => rfl) rfl (fun _ _ _ => rfl))
  | row e _ => exact scalar _ (fun as => sh as _ (fun _ => rfl) rfl (fun _ _ _ => rfl))
  | unit =>
    intro as x vs h hr
    match as, h with
    | [], h => match vs, hr with
      | [], _ => simp [CellsRep]
      | _ :: _, hr => simp [VReps] at hr
    | _ :: _, h => simp [asCells] at h
  | pair a b iha ihb =>
    intro as x vs h hr
    simp only [asCells] at h
    cases hp : asCells a (as.take a.size) with
    | none => simp [hp] at h
    | some p =>
      cases hq : asCells b (as.drop a.size) with
      | none => simp only [hp, hq, Option.bind_some] at h; cases h
      | some q =>
        simp only [hp, hq, Option.bind_some] at h
        cases h
        exact ⟨_, _, (List.take_append_drop a.size vs).symm, iha hp (hr.take _), ihb hq (hr.drop _)⟩
  | node =>
    intro as x vs h hr
    rcases as with _ | ⟨a1, as⟩
    · cases h
    cases a1 <;> try (cases h; done)
    rename_i k1 o
    cases k1 <;> try (cases h; done)
    rcases as with _ | ⟨a2, as⟩
    · cases h
    cases a2 <;> try (cases h; done)
    rename_i s
    rcases as with _ | ⟨a3, as⟩
    · cases h
    cases a3 <;> try (cases h; done)
    rename_i k3 n
    cases k3 <;> try (cases h; done)
    rcases as with _ | ⟨v, as⟩
    · cases h
    rcases as with _ | ⟨_, _⟩
    · replace h : (asOne (.row .node) v).map (fun k => Node.mk o s n k) = some x := h
      cases hk : asOne (.row .node) v with
      | none => simp only [hk] at h; cases h
      | some k =>
        simp only [hk] at h
        cases h
        match vs, hr with
        | [v1, v2, v3, v4], hr =>
          simp only [VReps, and_true] at hr
          obtain ⟨h1, h2, h3, h4⟩ := hr
          refine CellsRep.of_vreps (t := .node) ?_
          simp only [cellsT, VReps, and_true, Node.op, Node.s, Node.n, Node.kids]
          refine ⟨h1, h2, h3, ?_⟩
          simp only [VRep, TRep, Ty.isAgg, Bool.false_eq_true, if_false]
          exact asOne_ok hk h4
    · cases h

theorem as_ok {c : Ctx} {t : Ty} {a : AV} {x : t.C} {vs : List Value} (h : a.as t = some x) (hr : VReps c a.cells vs) : CellsRep c.pr c.w t x vs := by
  unfold AV.as at h
  split at h
  · rename_i cs
    cases ht : t.isAgg with
    | false => simp [ht] at h
    | true => simp only [ht, cond_true] at h; exact asCells_ok h (by simpa [AV.cells] using hr)
  · rename_i u y
    split at h
    · rename_i hu
      subst hu
      cases h
      simp only [AV.cells] at hr
      cases ht : u.isAgg with
      | true => simp only [ht, cond_true] at hr; exact CellsRep.of_vreps hr
      | false =>
        simp only [ht, cond_false] at hr
        obtain ⟨v, rfl, hv⟩ := hr.one_of
        simp only [VRep, TRep, ht, Bool.false_eq_true, if_false] at hv
        exact hv
    · cases h
  · rename_i hag1 hag2
    have hag : a.isAgg = false := by
      cases a <;> try rfl
      · exact absurd rfl (hag1 _)
      · exact (hag2 _ _ rfl).elim
    rw [AV.cells_one hag] at hr
    obtain ⟨v, rfl, hv⟩ := hr.one_of
    exact asOne_ok h hv
end Go.AM
