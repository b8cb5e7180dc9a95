/- Loops over lists, and what holds from some fuel on. -/
import Derived.Test.YtajlenpookikoaaAS29
namespace Go.AM

/-! Loops over lists, and what holds from some fuel on. -/
/-- From some fuel on. -/
def Ev (p : Nat → Prop) : Prop := ∃ K, ∀ k, K ≤ k → p k
theorem Ev.of {p : Nat → Prop} (h : ∀ k, p k) : Ev p := ⟨0, fun k _ => h k⟩
theorem Ev.mono {p q : Nat → Prop} (h : Ev p) (f : ∀ k, p k → q k) : Ev q := by obtain ⟨K, h⟩ := h; exact ⟨K, fun k hk => f k (h k hk)⟩
theorem Ev.and {p q : Nat → Prop} (h : Ev p) (g : Ev q) : Ev fun k => p k ∧ q k := by
  obtain ⟨K, h⟩ := h; obtain ⟨L, g⟩ := g
  exact ⟨max K L, fun k hk => ⟨h k (by omega), g k (by omega)⟩⟩
theorem Ev.two {p q r : Nat → Prop} (h : Ev p) (g : Ev q) (f : ∀ k, p k → q k → r k) : Ev r := (h.and g).mono fun k x => f k x.1 x.2
theorem Ev.gt (n : Nat) : Ev fun k => n < k := ⟨n + 1, fun k hk => by omega⟩
theorem Ev.succ {p : Nat → Prop} (h : Ev fun k => p (k + 1)) : Ev p := by
  obtain ⟨K, h⟩ := h
  exact ⟨K + 1, fun k hk => by obtain ⟨m, rfl⟩ : ∃ m, k = m + 1 := ⟨k - 1, by omega⟩; exact h m (by omega)⟩
theorem Ev.all {α : Type} {p : α → Nat → Prop} : ∀ {l : List α}, (∀ x ∈ l, Ev (p x)) → Ev fun k => ∀ x ∈ l, p x k
  | [], _ => Ev.of fun k => by simp
  | a :: l, h => ((h a (by simp)).and (Ev.all fun x hx => h x (List.mem_cons_of_mem _ hx))).mono fun k hk x hx => by
    rcases List.mem_cons.1 hx with rfl | hx
    · exact hk.1
    · exact hk.2 x hx
theorem Ev.get {p : Nat → Prop} (h : Ev p) : ∃ k, p k := by obtain ⟨K, h⟩ := h; exact ⟨K, h K (Nat.le_refl _)⟩

theorem Node.ind {p : Node → Prop} (h : ∀ o s n kids, (∀ y ∈ kids, p y) → p (.mk o s n kids)) (x : Node) : p x :=
  Node.rec (motive_1 := p) (motive_2 := fun l => ∀ y ∈ l, p y) (fun o s n kids ih => h o s n kids ih) (by simp) (fun a l ha hl y hy => by
    rcases List.mem_cons.1 hy with rfl | hy
    · exact ha
    · exact hl y hy) x

theorem wrap_id {x : Int} (h : -9223372036854775808 ≤ x) (h' : x ≤ 9223372036854775807) : IntKind.wrap .i64 x = x := by
  simp [IntKind.wrap, IntKind.signed, IntKind.bits]
  try omega
theorem next_i {i : Int} {n : Nat} (h0 : 0 ≤ i) (h : i < (n : Int)) (hn : n ≤ 9223372036854775807) : IntKind.wrap .i64 (i + 1) = i + 1 := wrap_id (by omega) (by omega)

theorem getD_mem {α : Type} (l : List α) (d : α) {i : Int} (h0 : 0 ≤ i) (h : i < (l.length : Int)) : l.getD i.toNat d ∈ l := by
  have hi : i.toNat < l.length := by omega
  simp [List.getD, hi]

/-- A loop over a list: at each element B, with what follows; at the end e. -/
def runIdx {α β : Type} (B : Int → α → Option β → Option β) (e : Option β) : List α → Int → Option β
  | [], _ => e
  | x :: r, i => B i x (runIdx B e r (i + 1))
theorem drop_at {α : Type} (xs : List α) (d : α) (i : Int) (h0 : 0 ≤ i) (h : i < (xs.length : Int)) : xs.drop i.toNat = xs.getD i.toNat d :: xs.drop (i + 1).toNat := by
  have hi : i.toNat < xs.length := by omega
  have h1 : (i + 1).toNat = i.toNat + 1 := by omega
  rw [h1, List.drop_eq_getElem_cons hi]
  congr 1
  simp [List.getD, hi]
theorem loop_list {α β : Type} (xs : List α) (d : α) (F : Nat → Int → Option β) (B : Int → α → Option β → Option β) (e : Option β)
    (hstep : ∀ k i, 0 ≤ i → i < (xs.length : Int) → F (k + 1) i = B i (xs.getD i.toNat d) (F k (i + 1)))
    (hend : ∀ k i, (xs.length : Int) ≤ i → F (k + 1) i = e) : ∀ (n k : Nat) (i : Int), 0 ≤ i → (xs.length : Int) - i = n → n < k → F k i = runIdx B e (xs.drop i.toNat) i
  | 0, k, i, h0, hn, hk => by
    obtain ⟨k, rfl⟩ : ∃ m, k = m + 1 := ⟨k - 1, by omega⟩
    rw [hend k i (by omega), List.drop_eq_nil_of_le (by omega)]
    rfl
  | n + 1, k, i, h0, hn, hk => by
    obtain ⟨k, rfl⟩ : ∃ m, k = m + 1 := ⟨k - 1, by omega⟩
    have hlt : i < (xs.length : Int) := by omega
    rw [hstep k i h0 hlt, loop_list xs d F B e hstep hend n k (i + 1) (by omega) (by omega) (by omega), drop_at xs d i h0 hlt]
    rfl
theorem loop_all {α β : Type} (xs : List α) (d : α) (F : Nat → Int → Option β) (B : Int → α → Option β → Option β) (e : Option β)
    (hstep : ∀ k i, 0 ≤ i → i < (xs.length : Int) → F (k + 1) i = B i (xs.getD i.toNat d) (F k (i + 1)))
    (hend : ∀ k i, (xs.length : Int) ≤ i → F (k + 1) i = e) (k : Nat) (hk : xs.length < k) : F k 0 = runIdx B e xs 0 :=
  loop_list xs d F B e hstep hend xs.length k 0 (by omega) (by omega) (by omega)

/-- The same with a state. -/
def runSt {α β σ : Type} (B : Int → α → σ → (σ → Option β) → Option β) (e : σ → Option β) : List α → Int → σ → Option β
  | [], _, s => e s
  | x :: r, i, s => B i x s (fun s' => runSt B e r (i + 1) s')
theorem loop_st {α β σ : Type} (xs : List α) (d : α) (F : Nat → Int → σ → Option β) (B : Int → α → σ → (σ → Option β) → Option β) (e : σ → Option β)
    (hstep : ∀ k i s, 0 ≤ i → i < (xs.length : Int) → F (k + 1) i s = B i (xs.getD i.toNat d) s (fun s' => F k (i + 1) s'))
    (hend : ∀ k i s, (xs.length : Int) ≤ i → F (k + 1) i s = e s) : ∀ (n k : Nat) (i : Int) (s : σ), 0 ≤ i → (xs.length : Int) - i = n → n < k → F k i s = runSt B e (xs.drop i.toNat) i s
  | 0, k, i, s, h0, hn, hk => by
    obtain ⟨k, rfl⟩ : ∃ m, k = m + 1 := ⟨k - 1, by omega⟩
    rw [hend k i s (by omega), List.drop_eq_nil_of_le (by omega)]
    rfl
  | n + 1, k, i, s, h0, hn, hk => by
    obtain ⟨k, rfl⟩ : ∃ m, k = m + 1 := ⟨k - 1, by omega⟩
    have hlt : i < (xs.length : Int) := by omega
    rw [hstep k i s h0 hlt, drop_at xs d i h0 hlt]
    show _ = B i _ s _
    congr 1
    funext s'
    exact loop_st xs d F B e hstep hend n k (i + 1) s' (by omega) (by omega) (by omega)
theorem loop_st0 {α β σ : Type} (xs : List α) (d : α) (F : Nat → Int → σ → Option β) (B : Int → α → σ → (σ → Option β) → Option β) (e : σ → Option β)
    (hstep : ∀ k i s, 0 ≤ i → i < (xs.length : Int) → F (k + 1) i s = B i (xs.getD i.toNat d) s (fun s' => F k (i + 1) s'))
    (hend : ∀ k i s, (xs.length : Int) ≤ i → F (k + 1) i s = e s) (k : Nat) (s : σ) (hk : xs.length < k) : F k 0 s = runSt B e xs 0 s :=
  loop_st xs d F B e hstep hend xs.length k 0 s (by omega) (by omega) hk

/-- All of a list: what a loop that stops at the first that is not so tells. -/
theorem run_all {α : Type} (p : α → Bool) : ∀ (xs : List α) (i : Int), runIdx (fun _ x r => bif p x then r else some false) (some true) xs i = some (xs.all p)
  | [], _ => rfl
  | x :: r, i => by
    unfold runIdx
    rw [run_all p r (i + 1), List.all_cons]
    cases h : p x <;> simp
theorem run_all_e {α : Type} (p : α → Bool) (b : Bool) : ∀ (xs : List α) (i : Int), runIdx (fun _ x r => bif p x then r else some false) (some b) xs i = some (xs.all p && b)
  | [], _ => rfl
  | x :: r, i => by
    unfold runIdx
    rw [run_all_e p b r (i + 1), List.all_cons]
    cases h : p x <;> simp
/-- The first of a list that is so, counted from i; -1. -/
def firstOf {α : Type} (p : α → Bool) : List α → Int → Int
  | [], _ => -1
  | x :: r, i => bif p x then i else firstOf p r (i + 1)
theorem run_firstOf {α : Type} (p : α → Bool) : ∀ (xs : List α) (i : Int), runIdx (fun i x r => bif p x then some i else r) (some (-1)) xs i = some (firstOf p xs i)
  | [], _ => rfl
  | x :: r, i => by
    unfold runIdx firstOf
    rw [run_firstOf p r (i + 1)]
    cases h : p x <;> simp
theorem firstOf_any {α : Type} (p : α → Bool) : ∀ (xs : List α) (i : Int), 0 ≤ i → decide (firstOf p xs i ≥ 0) = xs.any p
  | [], _, _ => rfl
  | x :: r, i, h => by
    unfold firstOf
    rw [List.any_cons]
    cases hp : p x
    · simpa using firstOf_any p r (i + 1) (by omega)
    · simp [h]

/-- A row filled by an index. -/
theorem fill_loop {α β : Type} (l : List α) (da : α) (db : β) (g : α → β) (F : Nat → List β → Int → Option (List β))
    (hstep : ∀ k x i, 0 ≤ i → i < (l.length : Int) → i < (x.length : Int) → F (k + 1) x i = F k (x.set i.toNat (g (l.getD i.toNat da))) (i + 1))
    (hend : ∀ k x i, (l.length : Int) ≤ i → F (k + 1) x i = some x) : ∀ (n k j : Nat), j + n = l.length → n < k →
      F k ((l.take j).map g ++ List.replicate n db) (j : Int) = some (l.map g)
  | 0, k, j, hj, hk => by
    obtain ⟨k, rfl⟩ : ∃ m, k = m + 1 := ⟨k - 1, by omega⟩
    rw [hend k _ _ (by omega), List.take_of_length_le (by omega)]
    simp
  | n + 1, k, j, hj, hk => by
    obtain ⟨k, rfl⟩ : ∃ m, k = m + 1 := ⟨k - 1, by omega⟩
    have hlen : ((l.take j).map g).length = j := by simp; omega
    rw [hstep k _ _ (by omega) (by omega) (by simp; omega)]
    have h1 : ((j : Int)).toNat = j := by omega
    have hjl : j < l.length := by omega
    have h2 : ((l.take j).map g ++ List.replicate (n + 1) db).set j (g (l.getD j da)) = (l.take (j + 1)).map g ++ List.replicate n db := by
      rw [List.set_append_right _ _ (by omega), hlen, Nat.sub_self, List.replicate_succ, List.set_cons_zero, List.take_succ_eq_append_getElem hjl, List.map_append, List.append_assoc]
      have hg : l.getD j da = l[j] := by simp [List.getD, hjl]
      rw [hg]
      rfl
    have h3 : ((j : Int) + 1) = ((j + 1 : Nat) : Int) := by omega
    rw [h1, h2, h3]
    exact fill_loop l da db g F hstep hend n k (j + 1) (by omega) (by omega)
theorem fill_all {α β : Type} (l : List α) (da : α) (db : β) (g : α → β) (F : Nat → List β → Int → Option (List β))
    (hstep : ∀ k x i, 0 ≤ i → i < (l.length : Int) → i < (x.length : Int) → F (k + 1) x i = F k (x.set i.toNat (g (l.getD i.toNat da))) (i + 1))
    (hend : ∀ k x i, (l.length : Int) ≤ i → F (k + 1) x i = some x) (k : Nat) (hk : l.length < k) : F k (List.replicate l.length db) 0 = some (l.map g) := by
  have := fill_loop l da db g F hstep hend l.length k 0 (by omega) hk
  simpa using this
theorem pick_fn {α β : Type} [Inhabited β] {Q : α → β → Prop} {xs : List α} (h : ∀ x ∈ xs, ∃ v, Q x v) : ∃ p : α → β, ∀ x ∈ xs, Q x (p x) := by
  have : ∀ x, ∃ v, x ∈ xs → Q x v := fun x => by
    by_cases hx : x ∈ xs
    · obtain ⟨v, hv⟩ := h x hx; exact ⟨v, fun _ => hv⟩
    · exact ⟨default, fun h => absurd h hx⟩
  obtain ⟨p, hp⟩ := Classical.axiomOfChoice this
  exact ⟨p, fun x hx => hp x hx⟩

/-- A loop that gathers, element by element. -/
theorem fold_rounds {α σ β ρ : Type} (xs : List α) (d : α) {f : Nat → α → Option β} {p : α → β} {g : σ → β → σ} {e : σ → Option ρ} {L : Nat → Nat → σ → Int → Option ρ} (hf : ∀ x ∈ xs, Ev fun k => f k x = some (p x))
    (hL : ∀ k n s i, 0 ≤ i → i < (xs.length : Int) → L k (n + 1) s i = bindO (f k (xs.getD i.toNat d)) fun r => L k n (g s r) (i + 1))
    (hE : ∀ k n s i, (xs.length : Int) ≤ i → L k (n + 1) s i = e s) (s : σ) : Ev fun k => L k k s 0 = e (xs.foldl (fun s x => g s (p x)) s) := by
  refine (Ev.all hf).two (Ev.gt xs.length) fun k h1 h2 => ?_
  have key : ∀ (m : Nat) (i : Int) (s : σ) (q : Nat), 0 ≤ i → (xs.length : Int) - i = m → m < q → L k q s i = e ((xs.drop i.toNat).foldl (fun s x => g s (p x)) s) := by
    intro m
    induction m with
    | zero =>
      intro i s q hi hm hq
      obtain ⟨q, rfl⟩ : ∃ p, q = p + 1 := ⟨q - 1, by omega⟩
      rw [hE k q s i (by omega), List.drop_eq_nil_of_le (by omega)]; rfl
    | succ m ih =>
      intro i s q hi hm hq
      obtain ⟨q, rfl⟩ : ∃ p, q = p + 1 := ⟨q - 1, by omega⟩
      have hlt : i < (xs.length : Int) := by omega
      rw [hL k q s i hi hlt, h1 _ (getD_mem xs d hi hlt), bindO_some, ih (i + 1) _ q (by omega) (by omega) (by omega), drop_at xs d i hi hlt]
      rfl
  have := key xs.length 0 s k (by omega) (by omega) h2
  simpa using this
/-- A loop that stops at the first that is not so, the others asked one by one. -/
theorem all_rounds {α : Type} (xs : List α) (d : α) {f : Nat → α → Option Bool} {p : α → Bool} {L : Nat → Nat → Int → Option Bool} {e : Nat → Option Bool} {b : Bool} (hf : ∀ x ∈ xs, Ev fun k => f k x = some (p x)) (he : Ev fun k => e k = some b)
    (hL : ∀ k n i, 0 ≤ i → i < (xs.length : Int) → L k (n + 1) i = bindO (f k (xs.getD i.toNat d)) fun r => iteB (!r) (some false) (L k n (i + 1)))
    (hE : ∀ k n i, (xs.length : Int) ≤ i → L k (n + 1) i = e k) : Ev fun k => L k k 0 = some (xs.all p && b) := by
  refine ((Ev.all hf).and he).two (Ev.gt xs.length) fun k h1 h2 => ?_
  rw [loop_all xs d (fun n i => L k n i) (fun _ x r => bif p x then r else some false) (some b) (by
    intro n i g0 g1
    show L k (n + 1) i = _
    rw [hL k n i g0 g1, h1.1 _ (getD_mem xs d g0 g1), bindO_some]
    cases p (xs.getD i.toNat d) <;> rfl) (by
    intro n i g
    show L k (n + 1) i = _
    rw [hE k n i g, h1.2]) k h2, run_all_e]
/-- A loop that stops at the first that is so, with its place. -/
theorem index_rounds {α : Type} (xs : List α) (d : α) {f : Nat → α → Option Bool} {p : α → Bool} {L : Nat → Nat → Int → Option Int} (hf : ∀ x ∈ xs, Ev fun k => f k x = some (p x))
    (hL : ∀ k n i, 0 ≤ i → i < (xs.length : Int) → L k (n + 1) i = bindO (f k (xs.getD i.toNat d)) fun r => iteB r (some i) (L k n (i + 1)))
    (hE : ∀ k n i, (xs.length : Int) ≤ i → L k (n + 1) i = some (-1)) : Ev fun k => L k k 0 = some (firstOf p xs 0) := by
  refine (Ev.all hf).two (Ev.gt xs.length) fun k h1 h2 => ?_
  rw [loop_all xs d (fun n i => L k n i) (fun i x r => bif p x then some i else r) (some (-1)) (by
    intro n i g0 g1
    show L k (n + 1) i = _
    rw [hL k n i g0 g1, h1 _ (getD_mem xs d g0 g1), bindO_some]
    cases p (xs.getD i.toNat d) <;> rfl) (by
    intro n i g
    show L k (n + 1) i = _
    rw [hE k n i g]) k h2, run_firstOf]
theorem any_not {α : Type} (p : α → Bool) (l : List α) : (l.any fun x => !p x) = !l.all p := by
  induction l with
  | nil => rfl
  | cons x r ih => rw [List.any_cons, List.all_cons, ih]; cases p x <;> simp
/-- Both ways told. -/
theorem iteB_ss {α : Type} (b : Bool) (x y : α) : iteB b (some x) (some y) = some (bif b then x else y) := by cases b <;> rfl
theorem ngt (a b : Int) : (!(decide (a > b))) = decide (a ≤ b) := by
  by_cases h : a > b
  · rw [decide_eq_true h, decide_eq_false (by omega)]; rfl
  · rw [decide_eq_false h, decide_eq_true (by omega)]; rfl
theorem in_ge (x lo hi : Int) : iteB (decide (x ≥ lo)) (some (decide (x ≤ hi))) (some false) = some (decide (lo ≤ x ∧ x ≤ hi)) := by
  by_cases h : x ≥ lo
  · rw [iteB_pos h]; have : lo ≤ x := h; simp [this]
  · rw [iteB_neg h]; have : ¬ lo ≤ x := h; simp [this]
/-- Does a row hold one that is so: asked through its place. -/
theorem contains_of {α : Type} {d : α} {p : α → Bool} {C : Nat → α → Option Bool} {I : Nat → List α → Option Int} {L : Nat → Nat → List α → Int → Int → Option Int} {S : Nat → List α → Option Bool}
    (hL : ∀ k n (xs : List α) m i, L k (n + 1) xs m i = iteB (decide (i < m)) (iteB (decide (0 ≤ i)) (iteB (decide (i < (xs.length : Int))) (bindO (C k (xs.getD i.toNat d)) fun r => iteB r (some i) (L k n xs m (IntKind.wrap .i64 (i + 1)))) none) none) (some (-1)))
    (hI : ∀ k (xs : List α), I k xs = L k k xs (xs.length : Int) 0) (hS : ∀ k (xs : List α), S k xs = bindO (I k xs) fun r => some (decide (r ≥ 0)))
    (xs : List α) (hl : xs.length ≤ 1048576) (hC : ∀ x ∈ xs, Ev fun k => C k x = some (p x)) : Ev fun k => S k xs = some (xs.any p) := by
  refine (index_rounds xs d (L := fun k n i => L k n xs (xs.length : Int) i) hC (fun k n i h0 h1 => ?_) (fun k n i h => ?_)).mono fun k h => ?_
  · show L k (n + 1) xs (xs.length : Int) i = _
    rw [hL, iteB_pos h1, iteB_pos h0, iteB_pos h1, next_i h0 h1 (by omega)]
  · show L k (n + 1) xs (xs.length : Int) i = _
    rw [hL, iteB_neg (by omega)]
  · have h' : L k k xs (xs.length : Int) 0 = some (firstOf p xs 0) := h
    rw [hS, hI, h', bindO_some, firstOf_any p xs 0 (by omega)]
end Go.AM
