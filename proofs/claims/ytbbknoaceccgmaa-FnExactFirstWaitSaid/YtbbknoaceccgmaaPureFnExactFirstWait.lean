/- FirstWait of the program returns what the reference's returns, for all lists of waits and tickets, and leaves them as they were. Conditions: none beyond the row's own. -/
import Derived.Test.YtbbknoaceccgmaaXFnExactFirstWaitx3
namespace Go.Proofs.Ytbbknoaceccgmaa.Pure
open Go.RowKit Go.Proofs.Ytbbknoaceccgmaa.XFnExactFirstWait Go.Proofs.YtbbknoaceccgmaaW.PrintWords Go.Proofs.YtbbknoaceccgmaaW.PrintLast Go.Proofs.YtbbknoaceccgmaaW.PrintMore
set_option linter.unusedVariables false
set_option linter.unusedSimpArgs false

/-! Loops over a list by an index, told once. -/
/-- A loop over a list: at each element B, with what follows; at the end e. -/
def runIdx {α β : Type} (B : Int → α → Option β → Option β) (e : Option β) : List α → Int → Option β
  | [], _ => e
  | x :: r, i => B i x (runIdx B e r (i + 1))
theorem drop_at {α : Type} (xs : List α) (d : α) (i : Int) (h0 : 0 ≤ i) (h : i < (xs.length : Int)) : xs.drop i.toNat = xs.getD i.toNat d :: xs.drop (i + 1).toNat := by
  have hi : i.toNat < xs.length := by omega
  have h1 : (i + 1).toNat = i.toNat + 1 := by omega
  rw [h1, List.drop_eq_getElem_cons hi]
  congr 1
  simp [List.getD, hi]
theorem loop_list {α β : Type} (xs : List α) (d : α) (K : Nat) (F : Nat → Int → Option β) (B : Int → α → Option β → Option β) (e : Option β)
    (hstep : ∀ k i, K ≤ k → 0 ≤ i → i < (xs.length : Int) → F (k + 1) i = B i (xs.getD i.toNat d) (F k (i + 1)))
    (hend : ∀ k i, K ≤ k → (xs.length : Int) ≤ i → F (k + 1) i = e) : ∀ (n k : Nat) (i : Int), 0 ≤ i → (xs.length : Int) - i = n → K + n < k → F k i = runIdx B e (xs.drop i.toNat) i
  | 0, k, i, h0, hn, hk => by
    obtain ⟨k, rfl⟩ : ∃ m, k = m + 1 := ⟨k - 1, by omega⟩
    rw [hend k i (by omega) (by omega), List.drop_eq_nil_of_le (by omega)]
    rfl
  | n + 1, k, i, h0, hn, hk => by
    obtain ⟨k, rfl⟩ : ∃ m, k = m + 1 := ⟨k - 1, by omega⟩
    have hlt : i < (xs.length : Int) := by omega
    rw [hstep k i (by omega) h0 hlt, loop_list xs d K F B e hstep hend n k (i + 1) (by omega) (by omega) (by omega), drop_at xs d i h0 hlt]
    rfl
theorem loop_all {α β : Type} (xs : List α) (d : α) (K : Nat) (F : Nat → Int → Option β) (B : Int → α → Option β → Option β) (e : Option β)
    (hstep : ∀ k i, K ≤ k → 0 ≤ i → i < (xs.length : Int) → F (k + 1) i = B i (xs.getD i.toNat d) (F k (i + 1)))
    (hend : ∀ k i, K ≤ k → (xs.length : Int) ≤ i → F (k + 1) i = e) (k : Nat) (hk : K + xs.length < k) : F k 0 = runIdx B e xs 0 :=
  loop_list xs d K F B e hstep hend xs.length k 0 (by omega) (by omega) (by omega)

/-- The same with a state. -/
def runSt {α β σ : Type} (B : Int → α → σ → (σ → Option β) → Option β) (e : σ → Option β) : List α → Int → σ → Option β
  | [], _, s => e s
  | x :: r, i, s => B i x s (fun s' => runSt B e r (i + 1) s')
theorem loop_st {α β σ : Type} (xs : List α) (d : α) (K : Nat) (F : Nat → Int → σ → Option β) (B : Int → α → σ → (σ → Option β) → Option β) (e : σ → Option β)
    (hstep : ∀ k i s, K ≤ k → 0 ≤ i → i < (xs.length : Int) → F (k + 1) i s = B i (xs.getD i.toNat d) s (fun s' => F k (i + 1) s'))
    (hend : ∀ k i s, K ≤ k → (xs.length : Int) ≤ i → F (k + 1) i s = e s) : ∀ (n k : Nat) (i : Int) (s : σ), 0 ≤ i → (xs.length : Int) - i = n → K + n < k → F k i s = runSt B e (xs.drop i.toNat) i s
  | 0, k, i, s, h0, hn, hk => by
    obtain ⟨k, rfl⟩ : ∃ m, k = m + 1 := ⟨k - 1, by omega⟩
    rw [hend k i s (by omega) (by omega), List.drop_eq_nil_of_le (by omega)]
    rfl
  | n + 1, k, i, s, h0, hn, hk => by
    obtain ⟨k, rfl⟩ : ∃ m, k = m + 1 := ⟨k - 1, by omega⟩
    have hlt : i < (xs.length : Int) := by omega
    rw [hstep k i s (by omega) h0 hlt, drop_at xs d i h0 hlt]
    show _ = B i _ s _
    congr 1
    funext s'
    exact loop_st xs d K F B e hstep hend n k (i + 1) s' (by omega) (by omega) (by omega)

theorem next_i {i : Int} {n : Nat} (h0 : 0 ≤ i) (h : i < (n : Int)) (hn : n ≤ 9223372036854775807) : wrap64 (i + 1) = i + 1 := by
  unfold wrap64; omega

/-- All of a list: what a loop that stops at the first that is not so tells. -/
theorem run_all {α : Type} (p : α → Bool) : ∀ (xs : List α) (i : Int), runIdx (fun _ x r => if p x = true then r else some false) (some true) xs i = some (xs.all p)
  | [], _ => rfl
  | x :: r, i => by
    unfold runIdx
    rw [run_all p r (i + 1), List.all_cons]
    cases h : p x <;> simp
/-- Some of a list. -/
theorem run_any {α : Type} (p : α → Bool) : ∀ (xs : List α) (i : Int), runIdx (fun _ x r => if p x = true then some true else r) (some false) xs i = some (xs.any p)
  | [], _ => rfl
  | x :: r, i => by
    unfold runIdx
    rw [run_any p r (i + 1), List.any_cons]
    cases h : p x <;> simp
/-- The first of a list that is so, counted from i; -1. -/
def firstOf {α : Type} (p : α → Bool) : List α → Int → Int
  | [], _ => -1
  | x :: r, i => if p x = true then i else firstOf p r (i + 1)
theorem run_first {α : Type} (p : α → Bool) : ∀ (xs : List α) (i : Int), runIdx (fun i x r => if p x = true then some i else r) (some (-1)) xs i = some (firstOf p xs i)
  | [], _ => rfl
  | x :: r, i => by
    unfold runIdx firstOf
    rw [run_first p r (i + 1)]
    cases h : p x <;> simp
theorem firstOf_any {α : Type} (p : α → Bool) : ∀ (xs : List α) (i : Int), 0 ≤ i → decide (firstOf p xs i ≥ 0) = xs.any p
  | [], _, _ => rfl
  | x :: r, i, h => by
    unfold firstOf
    rw [List.any_cons]
    cases hp : p x
    · simpa using firstOf_any p r (i + 1) (by omega)
    · simp [h]
theorem firstOf_bd {α : Type} (p : α → Bool) : ∀ (xs : List α) (i : Int), 0 ≤ i → -1 ≤ firstOf p xs i ∧ firstOf p xs i < i + xs.length ∨ firstOf p xs i = -1
  | [], i, h => .inr rfl
  | x :: r, i, h => by
    unfold firstOf
    split
    · simp; omega
    · rcases firstOf_bd p r (i + 1) (by omega) with ⟨h1, h2⟩ | h1
      · left; simp; omega
      · exact .inr h1

/-- A row filled by an index. -/
theorem fill_loop {α β : Type} (l : List α) (da : α) (db : β) (g : α → β) (K : Nat) (F : Nat → List β → Int → Option (List β))
    (hstep : ∀ k x i, K ≤ k → 0 ≤ i → i < (l.length : Int) → i < (x.length : Int) → F (k + 1) x i = F k (x.set i.toNat (g (l.getD i.toNat da))) (i + 1))
    (hend : ∀ k x i, (l.length : Int) ≤ i → F (k + 1) x i = some x) : ∀ (n k j : Nat), j + n = l.length → K + n < k →
      F k ((l.take j).map g ++ List.replicate n db) (j : Int) = some (l.map g)
  | 0, k, j, hj, hk => by
    obtain ⟨k, rfl⟩ : ∃ m, k = m + 1 := ⟨k - 1, by omega⟩
    rw [hend k _ _ (by omega), List.take_of_length_le (by omega)]
    simp
  | n + 1, k, j, hj, hk => by
    obtain ⟨k, rfl⟩ : ∃ m, k = m + 1 := ⟨k - 1, by omega⟩
    have hlen : ((l.take j).map g).length = j := by simp; omega
    rw [hstep k _ _ (by omega) (by omega) (by omega) (by simp; omega)]
    have h1 : ((j : Int)).toNat = j := by omega
    have hjl : j < l.length := by omega
    have h2 : ((l.take j).map g ++ List.replicate (n + 1) db).set j (g (l.getD j da)) = (l.take (j + 1)).map g ++ List.replicate n db := by
      rw [List.set_append_right _ _ (by omega), hlen, Nat.sub_self, List.replicate_succ, List.set_cons_zero, List.take_succ_eq_append_getElem hjl, List.map_append, List.append_assoc]
      have hg : l.getD j da = l[j] := by simp [List.getD, hjl]
      rw [hg]
      rfl
    have h3 : ((j : Int) + 1) = ((j + 1 : Nat) : Int) := by omega
    rw [h1, h2, h3]
    exact fill_loop l da db g K F hstep hend n k (j + 1) (by omega) (by omega)
theorem fill_all {α β : Type} (l : List α) (da : α) (db : β) (g : α → β) (K : Nat) (F : Nat → List β → Int → Option (List β))
    (hstep : ∀ k x i, K ≤ k → 0 ≤ i → i < (l.length : Int) → i < (x.length : Int) → F (k + 1) x i = F k (x.set i.toNat (g (l.getD i.toNat da))) (i + 1))
    (hend : ∀ k x i, (l.length : Int) ≤ i → F (k + 1) x i = some x) (k : Nat) (hk : K + l.length < k) : F k (List.replicate l.length db) 0 = some (l.map g) := by
  have := fill_loop l da db g K F hstep hend l.length k 0 (by omega) hk
  simpa using this

theorem spec_in (x lo hi : Int) : spec_l1In.f x lo hi = some (decide (lo ≤ x ∧ x ≤ hi)) := by
  unfold spec_l1In.f
  by_cases h : x ≥ lo
  · have h' : lo ≤ x := h
    rw [if_pos h]; simp [h']
  · have h' : ¬ lo ≤ x := h
    rw [if_neg h]; simp [h']

theorem to_ints (l : List Int) (hl : l.length ≤ 1048576) (k : Nat) (hk : l.length < k) : laws_toIntS.f k l = some l := by
  unfold laws_toIntS.f
  have e : ((l.length : Int)).toNat = l.length := by omega
  rw [if_pos (by omega), if_pos (by omega), e]
  have := fill_all l 0 0 (fun x => x) 0 (fun k x i => laws_toIntS.l0 k l x i) (by
    intro k x i _ h0 h1 h2
    simp only [laws_toIntS.l0]
    rw [if_pos h1, if_pos h0, if_pos h2, next_i h0 h1 (by omega)]
    rfl) (by
    intro k x i h
    simp only [laws_toIntS.l0]
    rw [if_neg (by omega)]) k (by omega)
  rw [this]; simp

theorem run_true {α : Type} (p : α → Bool) (hp : ∀ x, p x = true) : ∀ (xs : List α) (i : Int), runIdx (fun _ x r => if p x = true then r else some false) (some true) xs i = some true
  | [], _ => rfl
  | x :: r, i => by
    unfold runIdx
    rw [run_true p hp r (i + 1), if_pos (hp x)]
theorem eq_ints (l : List Int) (hl : l.length ≤ 1048576) (k : Nat) (hk : l.length < k) : laws_eqIntS.f k l l = some true := by
  unfold laws_eqIntS.f
  rw [if_pos rfl, loop_all l 0 0 (fun k i => laws_eqIntS.l0 k l l i) (fun _ x r => if (x == x) = true then r else some false) (some true) (by
    intro k i _ h0 h1
    show laws_eqIntS.l0 (k + 1) l l i = _
    simp only [laws_eqIntS.l0]
    rw [if_pos h1, if_pos h0, if_pos h1, if_pos trivial, next_i h0 h1 (by omega), if_pos (by simp)]) (by
    intro k i _ h
    show laws_eqIntS.l0 (k + 1) l l i = _
    simp only [laws_eqIntS.l0]
    rw [if_neg (by omega)]) k (by omega), run_true (fun x : Int => x == x) (fun x => by simp)]

theorem sz_waits (l : List S58) (n : Int) (h0 : 0 ≤ n) (h1 : n ≤ 1048576) (hl : l.length ≤ 9223372036854775807) : laws_szWaitS.f l n = some (if (l.length : Int) ≤ n then n - l.length else -1) := by
  have e : wrap64 (n - (l.length : Int)) = n - l.length := by unfold wrap64; omega
  unfold laws_szWaitS.f
  rw [e]
  by_cases h : (l.length : Int) ≤ n
  · rw [if_neg (by omega), if_pos h]
  · rw [if_pos (by omega), if_neg h]
def toW (x : S58) : S60 := ⟨x.f0, x.f1, x.f2, x.f3⟩
theorem to_waits (l : List S58) (hl : l.length ≤ 1048576) (k : Nat) (hk : l.length < k) : laws_toWaitS.f k l = some (l.map toW) := by
  unfold laws_toWaitS.f
  have e : ((l.length : Int)).toNat = l.length := by omega
  rw [if_pos (by omega), if_pos (by omega), e]
  exact fill_all l z58 z60 toW 0 (fun k x i => laws_toWaitS.l0 k l x i) (by
    intro k x i _ h0 h1 h2
    simp only [laws_toWaitS.l0]
    unfold laws_toWait.f
    rw [if_pos h1, if_pos h0, Option.bind_some, if_pos h2, next_i h0 h1 (by omega)]
    rfl) (by
    intro k x i h
    simp only [laws_toWaitS.l0]
    rw [if_neg (by omega)]) k (by omega)
theorem eq_waits (l : List S60) (hl : l.length ≤ 2000000) (k : Nat) (hk : l.length < k) : laws_eqWaitS.f k l l = some true := by
  unfold laws_eqWaitS.f
  rw [if_pos rfl, loop_all l z60 0 (fun k i => laws_eqWaitS.l0 k l l i) (fun _ x r => if true = true then r else some false) (some true) (by
    intro k i _ h0 h1
    show laws_eqWaitS.l0 (k + 1) l l i = _
    simp only [laws_eqWaitS.l0]
    unfold laws_eqWait.f
    rw [if_pos h1, if_pos h0, if_pos h1, if_pos rfl, if_pos rfl, if_pos rfl, if_pos rfl, Option.bind_some, if_pos rfl, next_i h0 h1 (by omega), if_pos trivial]) (by
    intro k i _ h
    show laws_eqWaitS.l0 (k + 1) l l i = _
    simp only [laws_eqWaitS.l0]
    rw [if_neg (by omega)]) k (by omega), run_true (fun _ : S60 => true) (fun x => rfl)]

theorem impl_in (x lo hi : Int) : impl_within.f x lo hi = some (decide (lo ≤ x ∧ x ≤ hi)) := by
  unfold impl_within.f
  by_cases h : x ≥ lo
  · have h' : lo ≤ x := h
    rw [if_pos h]; simp [h']
  · have h' : ¬ lo ≤ x := h
    rw [if_neg h]; simp [h']
/-- Is a wait still one. -/
def liveB (ts : List Int) (w : S60) : Bool := decide (0 ≤ w.f0 ∧ w.f0 < ts.length) && (rd ts w.f0 == w.f1)
theorem last_i (ts : List Int) (h : ts.length ≤ 1048576) : wrap64 ((ts.length : Int) - 1) = (ts.length : Int) - 1 := by unfold wrap64; omega
theorem spec_live (w : S60) (ts : List Int) (h : ts.length ≤ 1048576) : spec_l12Live.f w.f0 w.f1 w.f2 w.f3 ts = some (liveB ts w) := by
  unfold spec_l12Live.f liveB
  rw [last_i ts h, spec_in, Option.bind_some]
  by_cases hb : 0 ≤ w.f0 ∧ w.f0 < ts.length
  · rw [if_pos (by simp; omega), if_pos hb.1, if_pos hb.2]; simp [hb]
  · rw [if_neg (by simp; omega)]; simp only [hb, decide_false, Bool.false_and]
theorem impl_live (w : S60) (ts : List Int) (h : ts.length ≤ 1048576) : impl_isLive.f w.f0 w.f1 w.f2 w.f3 ts = some (liveB ts w) := by
  unfold impl_isLive.f liveB
  rw [last_i ts h, impl_in, Option.bind_some]
  by_cases hb : 0 ≤ w.f0 ∧ w.f0 < ts.length
  · rw [if_pos (by simp; omega), if_pos hb.1, if_pos hb.2]; simp [hb]
  · rw [if_neg (by simp; omega)]; simp only [hb, decide_false, Bool.false_and]

theorem spec_firstwait (l : List S60) (hl : l.length ≤ 1048576) (ts : List Int) (ht : ts.length ≤ 1048576) (k : Nat) (hk : l.length < k) : spec_FirstWait.f k l ts = some (firstOf (liveB ts) l 0) := by
  unfold spec_FirstWait.f
  rw [loop_all l z60 0 (fun k i => spec_FirstWait.l0 k l ts i) (fun i x r => if liveB ts x = true then some i else r) (some (-1)) (by
    intro k i _ h0 h1
    show spec_FirstWait.l0 (k + 1) l ts i = _
    simp only [spec_FirstWait.l0]
    rw [if_pos h1, if_pos h0, spec_live _ ts ht, Option.bind_some, next_i h0 h1 (by omega)]
    rfl) (by
    intro k i _ h
    show spec_FirstWait.l0 (k + 1) l ts i = _
    simp only [spec_FirstWait.l0]
    rw [if_neg (by omega)]) k (by omega), run_first]
theorem index_waits (l : List S60) (hl : l.length ≤ 1048576) (p : S60 → Option Bool) (q : S60 → Bool) (hp : ∀ x, p x = some (q x)) (k : Nat) (hk : l.length < k) : slices_IndexFunc_impl_Wait.f k l p = some (firstOf q l 0) := by
  unfold slices_IndexFunc_impl_Wait.f
  rw [loop_all l z60 0 (fun k i => slices_IndexFunc_impl_Wait.l0 k l p (l.length : Int) i) (fun i x r => if q x = true then some i else r) (some (-1)) (by
    intro k i _ h0 h1
    show slices_IndexFunc_impl_Wait.l0 (k + 1) l p (l.length : Int) i = _
    simp only [slices_IndexFunc_impl_Wait.l0]
    rw [if_pos h1, if_pos h0, if_pos h1, hp, Option.bind_some, next_i h0 h1 (by omega)]
    rfl) (by
    intro k i _ h
    show slices_IndexFunc_impl_Wait.l0 (k + 1) l p (l.length : Int) i = _
    simp only [slices_IndexFunc_impl_Wait.l0]
    rw [if_neg (by omega)]) k (by omega), run_first]
theorem impl_firstwait (l : List S60) (hl : l.length ≤ 1048576) (ts : List Int) (ht : ts.length ≤ 1048576) (k : Nat) (hk : l.length < k) : impl_FirstWait.f k l ts = some (firstOf (liveB ts) l 0) := by
  unfold impl_FirstWait.f
  rw [index_waits l hl _ (liveB ts) (fun x => by unfold impl_FirstWait_1.f; rw [impl_live x ts ht, Option.bind_some]) k hk, Option.bind_some]


theorem FnExactFirstWait : laws_FnExactFirstWait.Pure := by
  intro l ts hl _
  refine ⟨1048600, ?_⟩
  unfold laws_FnExactFirstWait.f
  by_cases ht : (ts.length : Int) > 1048576
  · rw [if_pos ht]
  · have h2 : ts.length ≤ 1048576 := by omega
    rw [if_neg ht, sz_waits l 1048576 (by omega) (by omega) hl.1, Option.bind_some]
    by_cases hb : (l.length : Int) ≤ 1048576
    · have h1 : l.length ≤ 1048576 := by omega
      have h1' : (l.map toW).length ≤ 1048576 := by rw [List.length_map]; exact h1
      rw [if_pos hb, if_neg (by omega), to_waits l h1 _ (by omega), Option.bind_some, to_ints ts h2 _ (by omega), Option.bind_some, spec_firstwait _ h1' ts h2 _ (by omega), Option.bind_some, Option.bind_some, Option.bind_some, impl_firstwait _ h1' ts h2 _ (by omega), Option.bind_some, if_pos rfl, Option.bind_some, eq_waits _ (by omega) _ (by omega), Option.bind_some, if_pos rfl, Option.bind_some, eq_ints ts h2 _ (by omega)]
      rfl
    · rw [if_neg hb, if_pos (by omega)]


end Go.Proofs.Ytbbknoaceccgmaa.Pure
