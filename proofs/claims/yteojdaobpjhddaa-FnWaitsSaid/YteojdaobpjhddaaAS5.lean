/- An interpreter of the model's code over values that are told, and its soundness. -/
import Derived.Test.YteojdaobpjhddaaAS4
import Derived.Laws.Tables
import Derived.Laws.MakeOwn
namespace Go.AM

/-! Soundness: rows as lists of elements; memory that is written, taken over, made. -/

def All2 {α β : Type} (R : α → β → Prop) : List α → List β → Prop
  | [], [] => True
  | a :: as, b :: bs => R a b ∧ All2 R as bs
  | _, _ => False

section
variable {α β : Type} {R S : α → β → Prop}
theorem All2.length : ∀ {as : List α} {bs : List β}, All2 R as bs → as.length = bs.length
  | [], [], _ => rfl
  | _ :: _, _ :: _, h => by simp [All2.length h.2]
theorem All2.append : ∀ {as : List α} {bs : List β} {as' : List α} {bs' : List β}, All2 R as bs → All2 R as' bs' → All2 R (as ++ as') (bs ++ bs')
  | [], [], _, _, _, h => h
  | _ :: _, _ :: _, _, _, h, h' => ⟨h.1, All2.append h.2 h'⟩
theorem All2.take : ∀ {as : List α} {bs : List β} (n : Nat), All2 R as bs → All2 R (as.take n) (bs.take n)
  | [], [], _, _ => by simp [All2]
  | _ :: _, _ :: _, 0, _ => by simp [All2]
  | _ :: _, _ :: _, n + 1, h => by simp only [List.take_succ_cons]; exact ⟨h.1, All2.take n h.2⟩
theorem All2.drop : ∀ {as : List α} {bs : List β} (n : Nat), All2 R as bs → All2 R (as.drop n) (bs.drop n)
  | [], [], _, _ => by simp [All2]
  | _ :: _, _ :: _, 0, h => h
  | _ :: _, _ :: _, n + 1, h => by simp only [List.drop_succ_cons]; exact All2.drop n h.2
theorem All2.set : ∀ {as : List α} {bs : List β} (n : Nat) {a : α} {b : β}, All2 R as bs → R a b → All2 R (as.set n a) (bs.set n b)
  | [], [], _, _, _, _, _ => by simp [All2]
  | _ :: _, _ :: _, 0, _, _, h, h' => ⟨h', h.2⟩
  | _ :: _, _ :: _, n + 1, _, _, h, h' => ⟨h.1, All2.set n h.2 h'⟩
theorem All2.get : ∀ {as : List α} {bs : List β}, All2 R as bs → ∀ {i : Nat} {a : α}, as[i]? = some a → ∃ b, bs[i]? = some b ∧ R a b
  | [], [], _, _, _, hi => by simp at hi
  | _ :: _, b :: _, h, 0, _, hi => by simp at hi; subst hi; exact ⟨b, by simp, h.1⟩
  | _ :: _, _ :: _, h, i + 1, _, hi => by simp at hi; obtain ⟨b, hb, hr⟩ := All2.get h.2 hi; exact ⟨b, by simpa using hb, hr⟩
theorem All2.mono (hRS : ∀ a b, R a b → S a b) : ∀ {as : List α} {bs : List β}, All2 R as bs → All2 S as bs
  | [], [], _ => trivial
  | _ :: _, _ :: _, h => ⟨hRS _ _ h.1, All2.mono hRS h.2⟩
theorem All2.replicate {a : α} {b : β} (h : R a b) : ∀ (n : Nat), All2 R (List.replicate n a) (List.replicate n b)
  | 0 => trivial
  | n + 1 => ⟨h, All2.replicate h n⟩
theorem All2.right {p : β → Prop} (hp : ∀ a b, R a b → p b) : ∀ {as : List α} {bs : List β}, All2 R as bs → ∀ b ∈ bs, p b
  | [], [], _, _, hb => by simp at hb
  | _ :: _, b :: _, h, c, hc => by
    rcases List.mem_cons.1 hc with rfl | hc
    · exact hp _ _ h.1
    · exact All2.right hp h.2 c hc
theorem All2.of_index : ∀ (as : List α), (∀ (i : Nat) (a : α), as[i]? = some a → ∃ b, R a b) → ∃ bs, All2 R as bs
  | [], _ => ⟨[], trivial⟩
  | a :: as, h => by
    obtain ⟨b, hb⟩ := h 0 a (by simp)
    obtain ⟨bs, hbs⟩ := All2.of_index as (fun i x hx => h (i + 1) x (by simpa using hx))
    exact ⟨b :: bs, hb, hbs⟩
end

/-- Cells of one element. -/
def ElemT (c : Ctx) (e : Ty) (x : e.C) (vs : List Value) : Prop := vs.length = e.size ∧ CellsRep c.pr c.w e x vs
def ElemR (c : Ctx) (a : Bool) (es : Nat) (x : AV) (vs : List Value) : Prop := x.isAgg = a ∧ x.size = es ∧ vs.length = es ∧ VReps c x.cells vs ∧ ∀ v ∈ vs, v.oneCell' = true

def ElemD {α : Type} (es : Nat) (_ : α) (vs : List Value) : Prop := vs.length = es ∧ ∀ v ∈ vs, v.oneCell' = true

/-- A row's elements, cells of each. -/
def ContV (c : Ctx) : Cont → List (List Value) → Prop
  | .typed e xs, L => All2 (ElemT c e) xs L
  | .raw a es d xs, L => d.isAgg = a ∧ d.size = es ∧ All2 (ElemR c a es) xs L
  | .deep _ e xs, L => All2 (ElemD e.size) xs L

theorem ContV.len {c : Ctx} {ct : Cont} {L : List (List Value)} (h : ContV c ct L) : L.length = ct.len := by
  cases ct with
  | typed e xs => exact h.length.symm
  | raw a es d xs => exact h.2.2.length.symm
  | deep fx e xs => exact (All2.length (R := ElemD e.size) h).symm

theorem ContV.es {c : Ctx} {ct : Cont} {L : List (List Value)} (h : ContV c ct L) : ∀ vs ∈ L, vs.length = ct.es := by
  cases ct with
  | typed e xs => exact All2.right (fun _ _ h => h.1) h
  | raw a es d xs => exact All2.right (fun _ _ h => h.2.2.1) h.2.2
  | deep fx e xs => exact All2.right (R := ElemD e.size) (fun _ _ h => h.1) h

theorem flat_len {es : Nat} : ∀ {L : List (List Value)}, (∀ vs ∈ L, vs.length = es) → L.flatten.length = L.length * es
  | [], _ => by simp
  | vs :: L, h => by
    have ih := flat_len (es := es) (L := L) (fun v hv => h v (List.mem_cons_of_mem _ hv))
    simp only [List.flatten_cons, List.length_append, List.length_cons, h vs (by simp), ih, Nat.add_mul, Nat.one_mul]
    omega

theorem flat_drop {es : Nat} : ∀ {L : List (List Value)} (n : Nat), (∀ vs ∈ L, vs.length = es) → L.flatten.drop (n * es) = (L.drop n).flatten
  | _, 0, _ => by simp
  | [], n + 1, _ => by simp
  | vs :: L, n + 1, h => by
    have h1 := h vs (by simp)
    rw [List.flatten_cons, List.drop_append, h1, List.drop_eq_nil_of_le (by rw [h1, Nat.add_mul]; omega), List.nil_append, List.drop_succ_cons, ← flat_drop n (fun v hv => h v (List.mem_cons_of_mem _ hv))]
    congr 1
    rw [Nat.add_mul]; omega

theorem flat_take {es : Nat} : ∀ {L : List (List Value)} (n : Nat), (∀ vs ∈ L, vs.length = es) → L.flatten.take (n * es) = (L.take n).flatten
  | _, 0, _ => by simp
  | [], n + 1, _ => by simp
  | vs :: L, n + 1, h => by
    have h1 := h vs (by simp)
    rw [List.flatten_cons, List.take_append, h1, List.take_of_length_le (by rw [h1, Nat.add_mul]; omega), List.take_succ_cons, List.flatten_cons, ← flat_take n (fun v hv => h v (List.mem_cons_of_mem _ hv))]
    congr 2
    rw [Nat.add_mul]; omega

/-- Element by element, or all of it. -/
theorem lies_flat {w : World} {b es : Nat} : ∀ {L : List (List Value)} {base : Nat}, (∀ vs ∈ L, vs.length = es) → (Lies w b base L.flatten ↔ ∀ (i : Nat) (vs : List Value), L[i]? = some vs → Lies w b (base + i * es) vs)
  | [], base, _ => by simp [Lies]
  | vs :: L, base, h => by
    have h1 := h vs (by simp)
    have ih := lies_flat (w := w) (b := b) (L := L) (base := base + es) (fun v hv => h v (List.mem_cons_of_mem _ hv))
    constructor
    · intro hl i us hi
      cases i with
      | zero => simp at hi; subst hi; intro j v hj; have := hl j v (by rw [List.flatten_cons, List.getElem?_append_left (List.getElem?_eq_some_iff.1 hj).1]; exact hj); simpa using this
      | succ i =>
        have h2 : Lies w b (base + es) L.flatten := by
          have := hl.drop es
          rwa [List.flatten_cons, List.drop_append, h1, List.drop_eq_nil_of_le (by omega), Nat.sub_self, List.drop_zero, List.nil_append] at this
        have := ih.1 h2 i us (by simpa using hi)
        rwa [show base + (i + 1) * es = base + es + i * es by rw [Nat.add_mul]; omega]
    · intro hl
      have h0 := hl 0 vs (by simp)
      rw [List.flatten_cons]
      refine Lies.append (by simpa using h0) ?_
      rw [h1]
      refine ih.2 fun i us hi => ?_
      have := hl (i + 1) us (by simpa using hi)
      rwa [show base + (i + 1) * es = base + es + i * es by rw [Nat.add_mul]; omega] at this

theorem contRep_iff {c : Ctx} {b base : Nat} {ct : Cont} : contRep c b base ct ↔ ∃ L, ContV c ct L ∧ Lies c.w b base L.flatten := by
  cases ct with
  | typed e xs =>
    constructor
    · intro h
      have : ∃ L : List (List Value), L.length = xs.length ∧ ∀ (i : Nat) x vs, xs[i]? = some x → L[i]? = some vs → vs.length = e.size ∧ Lies c.w b (base + i * e.size) vs ∧ CellsRep c.pr c.w e x vs := by
        have : ∀ (xs : List e.C) (base : Nat), contRep c b base (.typed e xs) → ∃ L : List (List Value), L.length = xs.length ∧ ∀ (i : Nat) x vs, xs[i]? = some x → L[i]? = some vs → vs.length = e.size ∧ Lies c.w b (base + i * e.size) vs ∧ CellsRep c.pr c.w e x vs := by
          intro xs
          induction xs with
          | nil => intro base _; exact ⟨[], rfl, by simp⟩
          | cons x xs ih =>
            intro base h
            obtain ⟨vs, hvs⟩ := h 0 x (by simp)
            obtain ⟨L, hL, hL'⟩ := ih (base + e.size) (fun i y hy => by
              have := h (i + 1) y (by simpa using hy)
              rwa [show base + (i + 1) * e.size = base + e.size + i * e.size by rw [Nat.add_mul]; omega] at this)
            refine ⟨vs :: L, by simp [hL], fun i y us hy hu => ?_⟩
            cases i with
            | zero => simp at hy hu; subst hy; subst hu; exact hvs
            | succ i =>
              have := hL' i y us (by simpa using hy) (by simpa using hu)
              rwa [show base + (i + 1) * e.size = base + e.size + i * e.size by rw [Nat.add_mul]; omega]
        exact this xs base h
      obtain ⟨L, hL, hx⟩ := this
      have all : ∀ (xs : List e.C) (L : List (List Value)), L.length = xs.length → (∀ (i : Nat) x vs, xs[i]? = some x → L[i]? = some vs → ElemT c e x vs) → All2 (ElemT c e) xs L := by
        intro xs
        induction xs with
        | nil => intro L hL _; simp at hL; subst hL; trivial
        | cons x xs ih =>
          intro L hL h
          match L, hL with
          | vs :: L, hL => exact ⟨h 0 x vs (by simp) (by simp), ih L (by simpa using hL) (fun i y us h1 h2 => h (i + 1) y us (by simpa using h1) (by simpa using h2))⟩
      have ha := all xs L hL (fun i x vs h1 h2 => ⟨(hx i x vs h1 h2).1, (hx i x vs h1 h2).2.2⟩)
      refine ⟨L, ha, (lies_flat (base := base) (All2.right (fun _ _ h => h.1) ha)).2 fun i vs hi => ?_⟩
      have hlt : i < xs.length := by rw [← hL]; exact (List.getElem?_eq_some_iff.1 hi).1
      exact (hx i xs[i] vs (by simp [hlt]) hi).2.1
    · rintro ⟨L, ha, hl⟩ i x hi
      have ha' : All2 (ElemT c e) xs L := ha
      obtain ⟨vs, hvs, hr⟩ := ha'.get hi
      exact ⟨vs, hr.1, (lies_flat (base := base) (All2.right (fun _ _ h => h.1) ha')).1 hl i vs hvs, hr.2⟩
  | raw a es d xs =>
    constructor
    · rintro ⟨h1, h2, h⟩
      have key : ∀ (xs : List AV) (base : Nat), (∀ (i : Nat) (x : AV), xs[i]? = some x → x.isAgg = a ∧ x.size = es ∧ ∃ vs, vs.length = es ∧ Lies c.w b (base + i * es) vs ∧ VReps c x.cells vs ∧ ∀ v ∈ vs, v.oneCell' = true) →
          ∃ L : List (List Value), All2 (ElemR c a es) xs L ∧ Lies c.w b base L.flatten := by
        intro xs
        induction xs with
        | nil => intro base _; exact ⟨[], trivial, by simp [Lies]⟩
        | cons x xs ih =>
          intro base h
          obtain ⟨q1, q2, vs, q3, q4, q5, q6⟩ := h 0 x (by simp)
          obtain ⟨L, hL, hL'⟩ := ih (base + es) (fun i y hy => by
            have := h (i + 1) y (by simpa using hy)
            rwa [show base + (i + 1) * es = base + es + i * es by rw [Nat.add_mul]; omega] at this)
          exact ⟨vs :: L, ⟨⟨q1, q2, q3, q5, q6⟩, hL⟩, by rw [List.flatten_cons]; exact Lies.append (by simpa using q4) (by rw [q3]; exact hL')⟩
      obtain ⟨L, hL, hl⟩ := key xs base h
      exact ⟨L, ⟨h1, h2, hL⟩, hl⟩
    · rintro ⟨L, ⟨h1, h2, ha⟩, hl⟩
      refine ⟨h1, h2, fun i x hi => ?_⟩
      obtain ⟨vs, hvs, hr⟩ := ha.get hi
      exact ⟨hr.1, hr.2.1, vs, hr.2.2.1, (lies_flat (base := base) (All2.right (fun _ _ h => h.2.2.1) ha)).1 hl i vs hvs, hr.2.2.2.1, hr.2.2.2.2⟩
  | deep fx e xs =>
    constructor
    · intro h
      have key : ∀ (xs : List e.C) (base : Nat), (∀ (i : Nat) (x : e.C), xs[i]? = some x → ∃ vs, vs.length = e.size ∧ Lies c.w b (base + i * e.size) vs ∧ ∀ v ∈ vs, v.oneCell' = true) →
          ∃ L : List (List Value), All2 (ElemD e.size) xs L ∧ Lies c.w b base L.flatten := by
        intro xs
        induction xs with
        | nil => intro base _; exact ⟨[], trivial, by simp [Lies]⟩
        | cons x xs ih =>
          intro base h
          obtain ⟨vs, q3, q4, q6⟩ := h 0 x (by simp)
          obtain ⟨L, hL, hL'⟩ := ih (base + e.size) (fun i y hy => by
            have := h (i + 1) y (by simpa using hy)
            rwa [show base + (i + 1) * e.size = base + e.size + i * e.size by rw [Nat.add_mul]; omega] at this)
          exact ⟨vs :: L, ⟨⟨q3, q6⟩, hL⟩, by rw [List.flatten_cons]; exact Lies.append (by simpa using q4) (by rw [q3]; exact hL')⟩
      obtain ⟨L, hL, hl⟩ := key xs base h
      exact ⟨L, hL, hl⟩
    · rintro ⟨L, ha, hl⟩ i x hi
      have ha' : All2 (ElemD e.size) xs L := ha
      obtain ⟨vs, hvs, hr⟩ := ha'.get hi
      exact ⟨vs, hr.1, (lies_flat (base := base) (All2.right (fun _ _ h => h.1) ha')).1 hl i vs hvs, hr.2⟩

theorem ContV.mono {c c' : Ctx} (t : Tells c c') {ct : Cont} {L : List (List Value)} (h : ContV c ct L) : ContV c' ct L := by
  cases ct with
  | typed e xs => exact All2.mono (fun _ _ h => ⟨h.1, h.2.mono t.k⟩) h
  | raw a es d xs => exact ⟨h.1, h.2.1, All2.mono (fun _ _ h => ⟨h.1, h.2.1, h.2.2.1, VReps.mono t h.2.2.2.1, h.2.2.2.2⟩) h.2.2⟩
  | deep fx e xs => exact h

theorem NodeRep.one {pr : Nat → Prop} {w : World} {x : Node} {vs : List Value} (h : NodeRep pr w x vs) : ∀ v ∈ vs, v.oneCell' = true := by
  cases h with
  | mk o s n kids a cap b off vsf h1 h2 h3 h4 h5 =>
    intro v hv
    simp only [List.mem_cons, List.not_mem_nil, or_false] at hv
    rcases hv with rfl | rfl | rfl | rfl <;> rfl

theorem CellsRep.one {pr : Nat → Prop} {w : World} : ∀ {t : Ty} {x : t.C} {vs : List Value}, CellsRep pr w t x vs → ∀ v ∈ vs, v.oneCell' = true := by
  intro t
  induction t with
  | int k => intro x vs h v hv; simp only [CellsRep] at h; subst h; simp at hv; subst hv; rfl
  | bool => intro x vs h v hv; simp only [CellsRep] at h; subst h; simp at hv; subst hv; rfl
  | str => intro x vs h v hv; simp only [CellsRep] at h; subst h; simp at hv; subst hv; rfl
  | row e _ => rintro x vs ⟨u, rfl, a, cap, rfl, _⟩ v hv; simp at hv; subst hv; rfl
  | unit => intro x vs h v hv; simp only [CellsRep] at h; subst h; simp at hv
  | pair a b iha ihb =>
    rintro x vs ⟨l, r, rfl, hl, hr⟩ v hv
    rcases List.mem_append.1 hv with hv | hv
    · exact iha hl v hv
    · exact ihb hr v hv
  | node => intro x vs h; exact NodeRep.one h

theorem ContV.one {c : Ctx} {ct : Cont} {L : List (List Value)} (h : ContV c ct L) : ∀ v ∈ L.flatten, v.oneCell' = true := by
  intro v hv
  obtain ⟨vs, hvs, hv⟩ := List.mem_flatten.1 hv
  cases ct with
  | typed e xs => exact All2.right (p := fun vs => ∀ v ∈ vs, v.oneCell' = true) (fun _ _ h => h.2.one) h vs hvs v hv
  | raw a es d xs => exact All2.right (p := fun vs => ∀ v ∈ vs, v.oneCell' = true) (fun _ _ h => h.2.2.2.2) h.2.2 vs hvs v hv
  | deep fx e xs => exact All2.right (R := ElemD e.size) (p := fun vs => ∀ v ∈ vs, v.oneCell' = true) (fun _ _ h => h.2) h vs hvs v hv
end Go.AM
