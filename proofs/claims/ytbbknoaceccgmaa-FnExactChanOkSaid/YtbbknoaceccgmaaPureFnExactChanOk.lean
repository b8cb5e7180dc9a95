/- ChanOk of the program returns what the reference's returns, for all channels, and leaves them as they were. Conditions: none beyond the row's own. -/
import Derived.Test.YtbbknoaceccgmaaXFnExactChanOkx4
namespace Go.Proofs.Ytbbknoaceccgmaa.Pure
open Go.RowKit Go.Proofs.Ytbbknoaceccgmaa.XFnExactChanOk Go.Proofs.YtbbknoaceccgmaaW.PrintWords Go.Proofs.YtbbknoaceccgmaaW.PrintLast Go.Proofs.YtbbknoaceccgmaaW.PrintMore
set_option linter.unusedVariables false
set_option linter.unusedSimpArgs false

/-! Loops over a list by an index, told once. -/
/-- A loop over a list: at each element B, with what follows; at the end e. -/
def runIdx {α β : Type} (B : Int → α → Option β → Option β) (e : Option β) : List α → Int → Option β
  | [], _ => e
  | x :: r, i => B i x (runIdx B e r (i + 1))
theorem drop_at {α : Type} (xs : List α) (d : α) (i : Int) (h0 : 0 ≤ i) (h : i < (xs.length : Int)) : xs.drop i.toNat = xs.getD i.toNat d :: xs.drop (i + 1).toNat := by
  have hi : i.toNat < xs.length := by omega
  have h1 : (i + 1).toNat = i.toNat + 1 := by omega
  rw [h1, List.drop_eq_getElem_cons hi]
  congr 1
  simp [List.getD, hi]
theorem loop_list {α β : Type} (xs : List α) (d : α) (K : Nat) (F : Nat → Int → Option β) (B : Int → α → Option β → Option β) (e : Option β)
    (hstep : ∀ k i, K ≤ k → 0 ≤ i → i < (xs.length : Int) → F (k + 1) i = B i (xs.getD i.toNat d) (F k (i + 1)))
    (hend : ∀ k i, K ≤ k → (xs.length : Int) ≤ i → F (k + 1) i = e) : ∀ (n k : Nat) (i : Int), 0 ≤ i → (xs.length : Int) - i = n → K + n < k → F k i = runIdx B e (xs.drop i.toNat) i
  | 0, k, i, h0, hn, hk => by
    obtain ⟨k, rfl⟩ : ∃ m, k = m + 1 := ⟨k - 1, by omega⟩
    rw [hend k i (by omega) (by omega), List.drop_eq_nil_of_le (by omega)]
    rfl
  | n + 1, k, i, h0, hn, hk => by
    obtain ⟨k, rfl⟩ : ∃ m, k = m + 1 := ⟨k - 1, by omega⟩
    have hlt : i < (xs.length : Int) := by omega
    rw [hstep k i (by omega) h0 hlt, loop_list xs d K F B e hstep hend n k (i + 1) (by omega) (by omega) (by omega), drop_at xs d i h0 hlt]
    rfl
theorem loop_all {α β : Type} (xs : List α) (d : α) (K : Nat) (F : Nat → Int → Option β) (B : Int → α → Option β → Option β) (e : Option β)
    (hstep : ∀ k i, K ≤ k → 0 ≤ i → i < (xs.length : Int) → F (k + 1) i = B i (xs.getD i.toNat d) (F k (i + 1)))
    (hend : ∀ k i, K ≤ k → (xs.length : Int) ≤ i → F (k + 1) i = e) (k : Nat) (hk : K + xs.length < k) : F k 0 = runIdx B e xs 0 :=
  loop_list xs d K F B e hstep hend xs.length k 0 (by omega) (by omega) (by omega)

/-- The same with a state. -/
def runSt {α β σ : Type} (B : Int → α → σ → (σ → Option β) → Option β) (e : σ → Option β) : List α → Int → σ → Option β
  | [], _, s => e s
  | x :: r, i, s => B i x s (fun s' => runSt B e r (i + 1) s')
theorem loop_st {α β σ : Type} (xs : List α) (d : α) (K : Nat) (F : Nat → Int → σ → Option β) (B : Int → α → σ → (σ → Option β) → Option β) (e : σ → Option β)
    (hstep : ∀ k i s, K ≤ k → 0 ≤ i → i < (xs.length : Int) → F (k + 1) i s = B i (xs.getD i.toNat d) s (fun s' => F k (i + 1) s'))
    (hend : ∀ k i s, K ≤ k → (xs.length : Int) ≤ i → F (k + 1) i s = e s) : ∀ (n k : Nat) (i : Int) (s : σ), 0 ≤ i → (xs.length : Int) - i = n → K + n < k → F k i s = runSt B e (xs.drop i.toNat) i s
  | 0, k, i, s, h0, hn, hk => by
    obtain ⟨k, rfl⟩ : ∃ m, k = m + 1 := ⟨k - 1, by omega⟩
    rw [hend k i s (by omega) (by omega), List.drop_eq_nil_of_le (by omega)]
    rfl
  | n + 1, k, i, s, h0, hn, hk => by
    obtain ⟨k, rfl⟩ : ∃ m, k = m + 1 := ⟨k - 1, by omega⟩
    have hlt : i < (xs.length : Int) := by omega
    rw [hstep k i s (by omega) h0 hlt, drop_at xs d i h0 hlt]
    show _ = B i _ s _
    congr 1
    funext s'
    exact loop_st xs d K F B e hstep hend n k (i + 1) s' (by omega) (by omega) (by omega)

theorem next_i {i : Int} {n : Nat} (h0 : 0 ≤ i) (h : i < (n : Int)) (hn : n ≤ 9223372036854775807) : wrap64 (i + 1) = i + 1 := by
  unfold wrap64; omega

/-- All of a list: what a loop that stops at the first that is not so tells. -/
theorem run_all {α : Type} (p : α → Bool) : ∀ (xs : List α) (i : Int), runIdx (fun _ x r => if p x = true then r else some false) (some true) xs i = some (xs.all p)
  | [], _ => rfl
  | x :: r, i => by
    unfold runIdx
    rw [run_all p r (i + 1), List.all_cons]
    cases h : p x <;> simp
/-- Some of a list. -/
theorem run_any {α : Type} (p : α → Bool) : ∀ (xs : List α) (i : Int), runIdx (fun _ x r => if p x = true then some true else r) (some false) xs i = some (xs.any p)
  | [], _ => rfl
  | x :: r, i => by
    unfold runIdx
    rw [run_any p r (i + 1), List.any_cons]
    cases h : p x <;> simp
/-- The first of a list that is so, counted from i; -1. -/
def firstOf {α : Type} (p : α → Bool) : List α → Int → Int
  | [], _ => -1
  | x :: r, i => if p x = true then i else firstOf p r (i + 1)
theorem run_first {α : Type} (p : α → Bool) : ∀ (xs : List α) (i : Int), runIdx (fun i x r => if p x = true then some i else r) (some (-1)) xs i = some (firstOf p xs i)
  | [], _ => rfl
  | x :: r, i => by
    unfold runIdx firstOf
    rw [run_first p r (i + 1)]
    cases h : p x <;> simp
theorem firstOf_any {α : Type} (p : α → Bool) : ∀ (xs : List α) (i : Int), 0 ≤ i → decide (firstOf p xs i ≥ 0) = xs.any p
  | [], _, _ => rfl
  | x :: r, i, h => by
    unfold firstOf
    rw [List.any_cons]
    cases hp : p x
    · simpa using firstOf_any p r (i + 1) (by omega)
    · simp [h]
theorem firstOf_bd {α : Type} (p : α → Bool) : ∀ (xs : List α) (i : Int), 0 ≤ i → -1 ≤ firstOf p xs i ∧ firstOf p xs i < i + xs.length ∨ firstOf p xs i = -1
  | [], i, h => .inr rfl
  | x :: r, i, h => by
    unfold firstOf
    split
    · simp; omega
    · rcases firstOf_bd p r (i + 1) (by omega) with ⟨h1, h2⟩ | h1
      · left; simp; omega
      · exact .inr h1

/-- A row filled by an index. -/
theorem fill_loop {α β : Type} (l : List α) (da : α) (db : β) (g : α → β) (K : Nat) (F : Nat → List β → Int → Option (List β))
    (hstep : ∀ k x i, K ≤ k → 0 ≤ i → i < (l.length : Int) → i < (x.length : Int) → F (k + 1) x i = F k (x.set i.toNat (g (l.getD i.toNat da))) (i + 1))
    (hend : ∀ k x i, (l.length : Int) ≤ i → F (k + 1) x i = some x) : ∀ (n k j : Nat), j + n = l.length → K + n < k →
      F k ((l.take j).map g ++ List.replicate n db) (j : Int) = some (l.map g)
  | 0, k, j, hj, hk => by
    obtain ⟨k, rfl⟩ : ∃ m, k = m + 1 := ⟨k - 1, by omega⟩
    rw [hend k _ _ (by omega), List.take_of_length_le (by omega)]
    simp
  | n + 1, k, j, hj, hk => by
    obtain ⟨k, rfl⟩ : ∃ m, k = m + 1 := ⟨k - 1, by omega⟩
    have hlen : ((l.take j).map g).length = j := by simp; omega
    rw [hstep k _ _ (by omega) (by omega) (by omega) (by simp; omega)]
    have h1 : ((j : Int)).toNat = j := by omega
    have hjl : j < l.length := by omega
    have h2 : ((l.take j).map g ++ List.replicate (n + 1) db).set j (g (l.getD j da)) = (l.take (j + 1)).map g ++ List.replicate n db := by
      rw [List.set_append_right _ _ (by omega), hlen, Nat.sub_self, List.replicate_succ, List.set_cons_zero, List.take_succ_eq_append_getElem hjl, List.map_append, List.append_assoc]
      have hg : l.getD j da = l[j] := by simp [List.getD, hjl]
      rw [hg]
      rfl
    have h3 : ((j : Int) + 1) = ((j + 1 : Nat) : Int) := by omega
    rw [h1, h2, h3]
    exact fill_loop l da db g K F hstep hend n k (j + 1) (by omega) (by omega)
theorem fill_all {α β : Type} (l : List α) (da : α) (db : β) (g : α → β) (K : Nat) (F : Nat → List β → Int → Option (List β))
    (hstep : ∀ k x i, K ≤ k → 0 ≤ i → i < (l.length : Int) → i < (x.length : Int) → F (k + 1) x i = F k (x.set i.toNat (g (l.getD i.toNat da))) (i + 1))
    (hend : ∀ k x i, (l.length : Int) ≤ i → F (k + 1) x i = some x) (k : Nat) (hk : K + l.length < k) : F k (List.replicate l.length db) 0 = some (l.map g) := by
  have := fill_loop l da db g K F hstep hend l.length k 0 (by omega) hk
  simpa using this

/-- Is it a word. -/
def wok (x : Int) : Bool := decide (-2147483648 ≤ x ∧ x ≤ 2147483647)
theorem spec_wordok (x : Int) : spec_WordOk.f x = some (wok x) := by
  unfold spec_WordOk.f spec_l1In.f wok
  by_cases h : x ≥ -2147483648
  · have h' : -2147483648 ≤ x := h
    rw [if_pos h, Option.bind_some]; simp [h']
  · have h' : ¬ -2147483648 ≤ x := h
    rw [if_neg h, Option.bind_some]; simp [h']
theorem impl_wordok (x : Int) : impl_WordOk.f x = some (wok x) := by
  unfold impl_WordOk.f impl_within.f wok
  by_cases h : x ≥ -2147483648
  · have h' : -2147483648 ≤ x := h
    rw [if_pos h, Option.bind_some]; simp [h']
  · have h' : ¬ -2147483648 ≤ x := h
    rw [if_neg h, Option.bind_some]; simp [h']
theorem wok_iff (x : Int) : wok x = true ↔ -2147483648 ≤ x ∧ x ≤ 2147483647 := by unfold wok; simp

theorem spec_words (l : List Int) (hl : l.length ≤ 1048576) (k : Nat) (hk : l.length < k) : spec_l3Words.f k l = some (l.all wok) := by
  unfold spec_l3Words.f
  rw [loop_all l 0 0 (fun k i => spec_l3Words.l0 k l i) (fun _ x r => if wok x = true then r else some false) (some true) (by
    intro k i _ h0 h1
    show spec_l3Words.l0 (k + 1) l i = _
    simp only [spec_l3Words.l0]
    rw [if_pos h1, if_pos h0, spec_wordok, Option.bind_some, next_i h0 h1 (by omega)]
    rfl) (by
    intro k i _ h
    show spec_l3Words.l0 (k + 1) l i = _
    simp only [spec_l3Words.l0]
    rw [if_neg (by omega)]) k (by omega), run_all]

theorem contains_ints (l : List Int) (hl : l.length ≤ 1048576) (p : Int → Option Bool) (q : Int → Bool) (hp : ∀ x, p x = some (q x)) (k : Nat) (hk : l.length < k) : slices_ContainsFunc_int.f k l p = some (l.any q) := by
  unfold slices_ContainsFunc_int.f slices_IndexFunc_int.f
  rw [loop_all l 0 0 (fun k i => slices_IndexFunc_int.l0 k l p (l.length : Int) i) (fun i x r => if q x = true then some i else r) (some (-1)) (by
    intro k i _ h0 h1
    show slices_IndexFunc_int.l0 (k + 1) l p (l.length : Int) i = _
    simp only [slices_IndexFunc_int.l0]
    rw [if_pos h1, if_pos h0, if_pos h1, hp, Option.bind_some, next_i h0 h1 (by omega)]
    rfl) (by
    intro k i _ h
    show slices_IndexFunc_int.l0 (k + 1) l p (l.length : Int) i = _
    simp only [slices_IndexFunc_int.l0]
    rw [if_neg (by omega)]) k (by omega), run_first, Option.bind_some, firstOf_any q l 0 (by omega)]
theorem any_not {α : Type} (p : α → Bool) (l : List α) : (l.any fun x => !p x) = !l.all p := by
  induction l with
  | nil => rfl
  | cons x r ih => rw [List.any_cons, List.all_cons, ih]; cases p x <;> simp

theorem sz_ints (l : List Int) (n : Int) (h0 : 0 ≤ n) (h1 : n ≤ 1048576) (hl : l.length ≤ 9223372036854775807) : laws_szIntS.f l n = some (if (l.length : Int) ≤ n then n - l.length else -1) := by
  have e : wrap64 (n - (l.length : Int)) = n - l.length := by unfold wrap64; omega
  unfold laws_szIntS.f
  rw [e]
  by_cases h : (l.length : Int) ≤ n
  · rw [if_neg (by omega), if_pos h]
  · rw [if_pos (by omega), if_neg h]

theorem to_ints (l : List Int) (hl : l.length ≤ 1048576) (k : Nat) (hk : l.length < k) : laws_toIntS.f k l = some l := by
  unfold laws_toIntS.f
  have e : ((l.length : Int)).toNat = l.length := by omega
  rw [if_pos (by omega), if_pos (by omega), e]
  have := fill_all l 0 0 (fun x => x) 0 (fun k x i => laws_toIntS.l0 k l x i) (by
    intro k x i _ h0 h1 h2
    simp only [laws_toIntS.l0]
    rw [if_pos h1, if_pos h0, if_pos h2, next_i h0 h1 (by omega)]
    rfl) (by
    intro k x i h
    simp only [laws_toIntS.l0]
    rw [if_neg (by omega)]) k (by omega)
  rw [this]; simp

theorem run_true {α : Type} (p : α → Bool) (hp : ∀ x, p x = true) : ∀ (xs : List α) (i : Int), runIdx (fun _ x r => if p x = true then r else some false) (some true) xs i = some true
  | [], _ => rfl
  | x :: r, i => by
    unfold runIdx
    rw [run_true p hp r (i + 1), if_pos (hp x)]
theorem eq_ints (l : List Int) (hl : l.length ≤ 1048576) (k : Nat) (hk : l.length < k) : laws_eqIntS.f k l l = some true := by
  unfold laws_eqIntS.f
  rw [if_pos rfl, loop_all l 0 0 (fun k i => laws_eqIntS.l0 k l l i) (fun _ x r => if (x == x) = true then r else some false) (some true) (by
    intro k i _ h0 h1
    show laws_eqIntS.l0 (k + 1) l l i = _
    simp only [laws_eqIntS.l0]
    rw [if_pos h1, if_pos h0, if_pos h1, if_pos trivial, next_i h0 h1 (by omega), if_pos (by simp)]) (by
    intro k i _ h
    show laws_eqIntS.l0 (k + 1) l l i = _
    simp only [laws_eqIntS.l0]
    rw [if_neg (by omega)]) k (by omega), run_true (fun x : Int => x == x) (fun x => by simp)]

theorem sz_waits (l : List S58) (n : Int) (h0 : 0 ≤ n) (h1 : n ≤ 1048576) (hl : l.length ≤ 9223372036854775807) : laws_szWaitS.f l n = some (if (l.length : Int) ≤ n then n - l.length else -1) := by
  have e : wrap64 (n - (l.length : Int)) = n - l.length := by unfold wrap64; omega
  unfold laws_szWaitS.f
  rw [e]
  by_cases h : (l.length : Int) ≤ n
  · rw [if_neg (by omega), if_pos h]
  · rw [if_pos (by omega), if_neg h]
def toW (x : S58) : S60 := ⟨x.f0, x.f1, x.f2, x.f3⟩
theorem to_waits (l : List S58) (hl : l.length ≤ 1048576) (k : Nat) (hk : l.length < k) : laws_toWaitS.f k l = some (l.map toW) := by
  unfold laws_toWaitS.f
  have e : ((l.length : Int)).toNat = l.length := by omega
  rw [if_pos (by omega), if_pos (by omega), e]
  exact fill_all l z58 z60 toW 0 (fun k x i => laws_toWaitS.l0 k l x i) (by
    intro k x i _ h0 h1 h2
    simp only [laws_toWaitS.l0]
    unfold laws_toWait.f
    rw [if_pos h1, if_pos h0, Option.bind_some, if_pos h2, next_i h0 h1 (by omega)]
    rfl) (by
    intro k x i h
    simp only [laws_toWaitS.l0]
    rw [if_neg (by omega)]) k (by omega)
theorem eq_waits (l : List S60) (hl : l.length ≤ 2000000) (k : Nat) (hk : l.length < k) : laws_eqWaitS.f k l l = some true := by
  unfold laws_eqWaitS.f
  rw [if_pos rfl, loop_all l z60 0 (fun k i => laws_eqWaitS.l0 k l l i) (fun _ x r => if true = true then r else some false) (some true) (by
    intro k i _ h0 h1
    show laws_eqWaitS.l0 (k + 1) l l i = _
    simp only [laws_eqWaitS.l0]
    unfold laws_eqWait.f
    rw [if_pos h1, if_pos h0, if_pos h1, if_pos rfl, if_pos rfl, if_pos rfl, if_pos rfl, Option.bind_some, if_pos rfl, next_i h0 h1 (by omega), if_pos trivial]) (by
    intro k i _ h
    show laws_eqWaitS.l0 (k + 1) l l i = _
    simp only [laws_eqWaitS.l0]
    rw [if_neg (by omega)]) k (by omega), run_true (fun _ : S60 => true) (fun x => rfl)]

theorem contains_waits (l : List S60) (hl : l.length ≤ 1048576) (p : S60 → Option Bool) (q : S60 → Bool) (hp : ∀ x, p x = some (q x)) (k : Nat) (hk : l.length < k) : slices_ContainsFunc_impl_Wait.f k l p = some (l.any q) := by
  unfold slices_ContainsFunc_impl_Wait.f slices_IndexFunc_impl_Wait.f
  rw [loop_all l z60 0 (fun k i => slices_IndexFunc_impl_Wait.l0 k l p (l.length : Int) i) (fun i x r => if q x = true then some i else r) (some (-1)) (by
    intro k i _ h0 h1
    show slices_IndexFunc_impl_Wait.l0 (k + 1) l p (l.length : Int) i = _
    simp only [slices_IndexFunc_impl_Wait.l0]
    have e : p (rd_T60 l i) = some (q (l.getD i.toNat z60)) := hp _
    rw [if_pos h1, if_pos h0, if_pos h1, e, Option.bind_some, next_i h0 h1 (by omega)]) (by
    intro k i _ h
    show slices_IndexFunc_impl_Wait.l0 (k + 1) l p (l.length : Int) i = _
    simp only [slices_IndexFunc_impl_Wait.l0]
    rw [if_neg (by omega)]) k (by omega), run_first, Option.bind_some, firstOf_any q l 0 (by omega)]
/-- What a wait's fields must be. -/
def waitB (x : S60) : Bool := decide (0 ≤ x.f0 ∧ x.f0 ≤ 5) && wok x.f2 && decide (0 ≤ x.f1) && decide (0 ≤ x.f3)
/-- At an index of a list of waits. -/
def waitsB (l : List S60) (i : Int) (x : S60) (r : Option Bool) : Option Bool :=
  if waitB x = true then (if ((l.take i.toNat).any fun y => y.f0 == x.f0) = true then some false else r) else some false
def waitsM (l : List S60) : Option Bool := runIdx (waitsB l) (some (decide ((l.length : Int) ≤ 6))) l 0
theorem take_getD {α : Type} (l : List α) (d : α) (i j : Nat) (h : j < i) : (l.take i).getD j d = l.getD j d := by
  simp [List.getD, List.getElem?_take, h]
theorem spec_in5 (x : Int) : spec_l1In.f x 0 5 = some (decide (0 ≤ x ∧ x ≤ 5)) := by
  unfold spec_l1In.f
  by_cases h : x ≥ 0
  · have h' : 0 ≤ x := h
    rw [if_pos h]; simp [h']
  · have h' : ¬ 0 ≤ x := h
    rw [if_neg h]; simp [h']
theorem spec_in8 (x : Int) : spec_l1In.f x 0 8 = some (decide (0 ≤ x ∧ x ≤ 8)) := by
  unfold spec_l1In.f
  by_cases h : x ≥ 0
  · have h' : 0 ≤ x := h
    rw [if_pos h]; simp [h']
  · have h' : ¬ 0 ≤ x := h
    rw [if_neg h]; simp [h']
theorem impl_in5 (x : Int) : impl_within.f x 0 5 = some (decide (0 ≤ x ∧ x ≤ 5)) := by
  unfold impl_within.f
  by_cases h : x ≥ 0
  · have h' : 0 ≤ x := h
    rw [if_pos h]; simp [h']
  · have h' : ¬ 0 ≤ x := h
    rw [if_neg h]; simp [h']
theorem impl_in8 (x : Int) : impl_within.f x 0 8 = some (decide (0 ≤ x ∧ x ≤ 8)) := by
  unfold impl_within.f
  by_cases h : x ≥ 0
  · have h' : 0 ≤ x := h
    rw [if_pos h]; simp [h']
  · have h' : ¬ 0 ≤ x := h
    rw [if_neg h]; simp [h']
theorem spec_l12_in (l : List S60) (hl : l.length ≤ 1048576) (i : Int) (hil : i < (l.length : Int)) (a b c d : Int) (k : Nat) :
    ∀ (m : Nat) (j : Int), 0 ≤ j → j + m = i → spec_l12Waits.l1 (k + m + 1) l i j a b c d = if (((l.take i.toNat).drop j.toNat).any fun y => y.f0 == a) = true then some false else spec_l12Waits.l0 k l (i + 1)
  | 0, j, h0, h1 => by
    rw [List.drop_eq_nil_of_le (by rw [List.length_take]; omega), List.any_nil, if_neg (by simp)]
    show spec_l12Waits.l1 (k + 1) l i j a b c d = _
    simp only [spec_l12Waits.l1]
    rw [if_neg (by omega), next_i (by omega) hil (by omega)]
  | m + 1, j, h0, h1 => by
    have hj : j < ((l.take i.toNat).length : Int) := by rw [List.length_take]; omega
    have e : rd_T60 l j = (l.take i.toNat).getD j.toNat z60 := (take_getD l z60 i.toNat j.toNat (by omega)).symm
    rw [drop_at (l.take i.toNat) z60 j h0 hj, List.any_cons]
    have ih := spec_l12_in l hl i hil a b c d k m (j + 1) (by omega) (by omega)
    show spec_l12Waits.l1 ((k + m + 1) + 1) l i j a b c d = _
    generalize k + m + 1 = K at ih ⊢
    simp only [spec_l12Waits.l1]
    rw [if_pos (by omega), if_pos h0, if_pos (by omega), e, next_i h0 (by omega : j < (l.length : Int)) (by omega), ih]
    generalize ((l.take i.toNat).getD j.toNat z60) = x
    by_cases h : x.f0 = a
    · rw [if_pos h, if_pos (by simp [h])]
    · rw [if_neg h]
      have h' : (x.f0 == a) = false := by simp [h]
      rw [h', Bool.false_or]
theorem spec_l12_j (l : List S60) (hl : l.length ≤ 1048576) (i : Int) (h0 : 0 ≤ i) (hil : i < (l.length : Int)) (bad : Bool) (a b c d : Int) (k : Nat) (hk : i + 3 ≤ k) :
    spec_l12Waits.j1 k l i bad a b c d = if bad = true then some false else if (((l.take i.toNat)).any fun y => y.f0 == a) = true then some false else spec_l12Waits.l0 (k - i.toNat - 2) l (i + 1) := by
  obtain ⟨q, rfl⟩ : ∃ q, k = q + i.toNat + 1 + 1 := ⟨k - i.toNat - 2, by omega⟩
  simp only [spec_l12Waits.j1]
  rw [spec_l12_in l hl i hil a b c d q i.toNat 0 (by omega) (by omega)]
  have e : q + i.toNat + 1 + 1 - i.toNat - 2 = q := by omega
  rw [e]
  rfl
theorem spec_l12_loop (l : List S60) (hl : l.length ≤ 1048576) : ∀ (n : Nat) (i : Int) (k : Nat), 0 ≤ i → i + n = l.length → n * (l.length + 4) < k →
    spec_l12Waits.l0 k l i = runIdx (waitsB l) (some (decide ((l.length : Int) ≤ 6))) (l.drop i.toNat) i
  | 0, i, k, h0, h1, hk => by
    obtain ⟨k, rfl⟩ : ∃ m, k = m + 1 := ⟨k - 1, by omega⟩
    rw [List.drop_eq_nil_of_le (by omega)]
    simp only [spec_l12Waits.l0]
    rw [if_neg (by omega)]
    rfl
  | n + 1, i, k, h0, h1, hk => by
    have hlt : i < (l.length : Int) := by omega
    rw [Nat.succ_mul] at hk
    obtain ⟨k, rfl⟩ : ∃ m, k = m + 1 := ⟨k - 1, by omega⟩
    have e : rd_T60 l i = l.getD i.toNat z60 := rfl
    rw [drop_at l z60 i h0 hlt]
    unfold runIdx
    rw [← spec_l12_loop l hl n (i + 1) (k - i.toNat - 2) (by omega) (by omega) (by omega)]
    simp only [spec_l12Waits.l0]
    rw [if_pos hlt, if_pos h0, spec_in5, Option.bind_some, e]
    generalize l.getD i.toNat z60 = x
    rw [spec_l12_j l hl i h0 hlt _ _ _ _ _ _ (by omega), spec_l12_j l hl i h0 hlt _ _ _ _ _ _ (by omega), spec_wordok, Option.bind_some]
    unfold waitsB waitB
    by_cases h2 : 0 ≤ x.f0 ∧ x.f0 ≤ 5
    · cases h3 : wok x.f2
      · simp
      · by_cases h4 : x.f1 < 0
        · have h4' : ¬ 0 ≤ x.f1 := by omega
          simp [h2, h4, h4']
        · have h4' : 0 ≤ x.f1 := by omega
          by_cases h5 : x.f3 < 0
          · have h5' : ¬ 0 ≤ x.f3 := by omega
            simp [h2, h4, h4', h5, h5']
          · have h5' : 0 ≤ x.f3 := by omega
            simp [h2, h4, h4', h5, h5']
    · simp [h2]
theorem spec_waits (l : List S60) (hl : l.length ≤ 1048576) (k : Nat) (hk : l.length * (l.length + 4) < k) : spec_l12Waits.f k l = waitsM l := by
  unfold spec_l12Waits.f waitsM
  rw [spec_l12_loop l hl l.length 0 k (by omega) (by omega) hk]
  rfl
theorem impl_waits (l : List S60) (hl : l.length ≤ 1048576) (k : Nat) (hk : l.length + 1 + l.length < k) : impl_waitsOk.f k l = waitsM l := by
  unfold impl_waitsOk.f waitsM
  exact loop_all l z60 (l.length + 1) (fun k i => impl_waitsOk.l0 k l l (l.length : Int) i) (waitsB l) (some (decide ((l.length : Int) ≤ 6))) (by
    intro k i hK h0 h1
    show impl_waitsOk.l0 (k + 1) l l (l.length : Int) i = _
    simp only [impl_waitsOk.l0]
    have e : rd_T60 l i = l.getD i.toNat z60 := rfl
    have hlt : (l.take i.toNat).length ≤ l.length := by rw [List.length_take]; omega
    rw [if_pos h1, if_pos h0, if_pos h1, impl_in5, Option.bind_some, if_pos (by omega : i ≤ (l.length : Int)), e, impl_wordok, Option.bind_some, next_i h0 h1 (by omega)]
    generalize l.getD i.toNat z60 = x
    rw [contains_waits (l.take i.toNat) (by omega) (fun z => impl_waitsOk_1.f z.f0 z.f1 z.f2 z.f3 x.f0 x.f1 x.f2 x.f3) (fun y => y.f0 == x.f0) (fun y => rfl) k (by omega), Option.bind_some]
    unfold waitsB waitB
    by_cases h2 : 0 ≤ x.f0 ∧ x.f0 ≤ 5
    · cases h3 : wok x.f2
      · simp
      · by_cases h4 : x.f1 < 0
        · have h4' : ¬ 0 ≤ x.f1 := by omega
          simp [h2, h4, h4']
        · have h4' : 0 ≤ x.f1 := by omega
          by_cases h5 : x.f3 < 0
          · have h5' : ¬ 0 ≤ x.f3 := by omega
            simp [h2, h4, h4', h5, h5']
          · have h5' : 0 ≤ x.f3 := by omega
            simp [h2, h4, h4', h5, h5']
    · simp [h2]) (by
    intro k i _ h
    show impl_waitsOk.l0 (k + 1) l l (l.length : Int) i = _
    simp only [impl_waitsOk.l0]
    rw [if_neg (by omega)]) k (by omega)
theorem waitsM_some (l : List S60) : ∃ b, waitsM l = some b := by
  unfold waitsM
  generalize decide ((l.length : Int) ≤ 6) = e
  have : ∀ (xs : List S60) (i : Int), ∃ b, runIdx (waitsB l) (some e) xs i = some b := by
    intro xs
    induction xs with
    | nil => intro i; exact ⟨e, rfl⟩
    | cons x r ih =>
      intro i
      obtain ⟨b, hb⟩ := ih (i + 1)
      unfold runIdx
      rw [hb]
      unfold waitsB
      split
      · split
        · exact ⟨_, rfl⟩
        · exact ⟨_, rfl⟩
      · exact ⟨_, rfl⟩
  exact this l 0
/-- A channel is right. -/
def chanB (size : Int) (q : List Int) (s r : Bool) : Bool := decide (0 ≤ size ∧ size ≤ 8) && decide ((q.length : Int) ≤ size) && q.all wok && s && r
theorem spec_chanok (size : Int) (cl : Bool) (q : List Int) (s r : List S60) (bs br : Bool) (hq : q.length ≤ 1048576) (hs : s.length ≤ 1048576) (hr : r.length ≤ 1048576) (es : waitsM s = some bs) (er : waitsM r = some br) (k : Nat) (hk : 1048576 * (1048576 + 4) < k) : spec_ChanOk.f k size cl q s r = some (chanB size q bs br) := by
  have h1 : s.length * (s.length + 4) < k := Nat.lt_of_le_of_lt (Nat.mul_le_mul hs (by omega)) hk
  have h2 : r.length * (r.length + 4) < k := Nat.lt_of_le_of_lt (Nat.mul_le_mul hr (by omega)) hk
  unfold spec_ChanOk.f chanB
  rw [spec_in8, Option.bind_some, spec_words q hq k (by omega), spec_waits s hs k h1, spec_waits r hr k h2, es, er]
  by_cases h3 : 0 ≤ size ∧ size ≤ 8
  · by_cases h4 : (q.length : Int) ≤ size
    · cases h5 : q.all wok <;> cases bs <;> cases br <;> simp [h3, h4]
    · simp [h4]
  · simp [h3]
theorem impl_chanok (size : Int) (cl : Bool) (q : List Int) (s r : List S60) (bs br : Bool) (hq : q.length ≤ 1048576) (hs : s.length ≤ 1048576) (hr : r.length ≤ 1048576) (es : waitsM s = some bs) (er : waitsM r = some br) (k : Nat) (hk : 1048576 * (1048576 + 4) < k) : impl_ChanOk.f k size cl q s r = some (chanB size q bs br) := by
  unfold impl_ChanOk.f impl_wordsOk.f chanB
  rw [impl_in8, Option.bind_some, contains_ints q hq _ (fun x => !wok x) (fun x => by unfold impl_wordsOk_1.f; rw [impl_wordok, Option.bind_some]) k (by omega), impl_waits s hs k (by omega), impl_waits r hr k (by omega), es, er, any_not]
  by_cases h3 : 0 ≤ size ∧ size ≤ 8
  · by_cases h4 : (q.length : Int) ≤ size
    · cases h5 : q.all wok <;> cases bs <;> cases br <;> simp [h3, h4]
    · simp [h4]
  · simp [h3]

theorem to_chan (size : Int) (cl : Bool) (q : List Int) (s r : List S58) (hq : q.length ≤ 1048576) (hs : s.length ≤ 1048576) (hr : r.length ≤ 1048576) (k : Nat) (hk : 1048576 < k) : laws_toChan.f k size cl q s r = some (size, cl, q, s.map toW, r.map toW) := by
  unfold laws_toChan.f
  rw [to_ints q hq k (by omega), Option.bind_some, to_waits s hs k (by omega), Option.bind_some, to_waits r hr k (by omega), Option.bind_some]
theorem eq_chan (size : Int) (cl : Bool) (q : List Int) (s r : List S60) (hq : q.length ≤ 1048576) (hs : s.length ≤ 1048576) (hr : r.length ≤ 1048576) (k : Nat) (hk : 1048576 < k) : laws_eqChan.f k size cl q s r size cl q s r = some true := by
  unfold laws_eqChan.f
  rw [if_pos rfl, if_neg (by simp), eq_ints q hq k (by omega), Option.bind_some, if_pos rfl, eq_waits s (by omega) k (by omega), Option.bind_some, if_pos rfl, eq_waits r (by omega) k (by omega), Option.bind_some, if_pos rfl]
theorem sz_chan (size : Int) (cl : Bool) (q : List Int) (s r : List S58) (hq : q.length ≤ 9223372036854775807) (hs : s.length ≤ 9223372036854775807) (hr : r.length ≤ 9223372036854775807) :
    ∃ n, laws_szChan.f size cl q s r 1048576 = some n ∧ (¬ n < 0 → q.length ≤ 1048576 ∧ s.length ≤ 1048576 ∧ r.length ≤ 1048576) := by
  unfold laws_szChan.f
  rw [sz_ints q 1048576 (by omega) (by omega) hq, Option.bind_some]
  by_cases h1 : (q.length : Int) ≤ 1048576
  · rw [if_pos h1, if_neg (by omega), sz_waits s _ (by omega) (by omega) hs, Option.bind_some]
    by_cases h2 : (s.length : Int) ≤ 1048576 - q.length
    · rw [if_pos h2, if_neg (by omega), sz_waits r _ (by omega) (by omega) hr, Option.bind_some]
      by_cases h3 : (r.length : Int) ≤ 1048576 - q.length - s.length
      · rw [if_pos h3, if_neg (by omega)]
        exact ⟨_, rfl, fun _ => by omega⟩
      · rw [if_neg h3, if_pos (by omega)]
        exact ⟨_, rfl, fun h => by omega⟩
    · rw [if_neg h2, if_pos (by omega)]
      exact ⟨_, rfl, fun h => by omega⟩
  · rw [if_neg h1, if_pos (by omega)]
    exact ⟨_, rfl, fun h => by omega⟩
theorem law_chan (size : Int) (cl : Bool) (q : List Int) (s r : List S58) (hq : q.length ≤ 9223372036854775807) (hs : s.length ≤ 9223372036854775807) (hr : r.length ≤ 9223372036854775807) (k : Nat) (hk : 1048576 * (1048576 + 4) < k) : laws_FnExactChanOk.f k size cl q s r = some true := by
  unfold laws_FnExactChanOk.f
  obtain ⟨n, hn, hb⟩ := sz_chan size cl q s r hq hs hr
  rw [hn, Option.bind_some]
  by_cases h : n < 0
  · rw [if_pos h]
  · obtain ⟨h1, h2, h3⟩ := hb h
    have h2' : (s.map toW).length ≤ 1048576 := by rw [List.length_map]; exact h2
    have h3' : (r.map toW).length ≤ 1048576 := by rw [List.length_map]; exact h3
    obtain ⟨bs, es⟩ := waitsM_some (s.map toW)
    obtain ⟨br, er⟩ := waitsM_some (r.map toW)
    rw [if_neg h, to_chan size cl q s r h1 h2 h3 k (by omega), Option.bind_some, spec_chanok size cl q _ _ bs br h1 h2' h3' es er k hk, Option.bind_some, Option.bind_some, impl_chanok size cl q _ _ bs br h1 h2' h3' es er k hk, Option.bind_some, if_neg (by simp), Option.bind_some, eq_chan size cl q _ _ h1 h2' h3' k (by omega), Option.bind_some, if_pos rfl]

theorem FnExactChanOk : laws_FnExactChanOk.Pure := by
  intro size cl q s r _ hq hs hr
  exact ⟨1048576 * (1048576 + 4) + 1, law_chan size cl q s r hq.1 hs.1 hr.1 _ (Nat.lt_succ_self _)⟩


end Go.Proofs.Ytbbknoaceccgmaa.Pure
