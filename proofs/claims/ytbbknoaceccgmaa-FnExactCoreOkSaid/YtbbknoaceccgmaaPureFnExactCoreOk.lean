/- CoreOk of the program returns what the reference's returns, for every core, and leaves it as it was. Conditions: none beyond the row's own. -/
import Derived.Test.YtbbknoaceccgmaaXFnExactCoreOkx2
namespace Go.Proofs.Ytbbknoaceccgmaa.Pure
open Go.RowKit Go.Proofs.Ytbbknoaceccgmaa.XFnExactCoreOk Go.Proofs.YtbbknoaceccgmaaW.PrintWords Go.Proofs.YtbbknoaceccgmaaW.PrintLast Go.Proofs.YtbbknoaceccgmaaW.PrintMore
set_option linter.unusedVariables false
set_option linter.unusedSimpArgs false

/-! Loops over a list by an index, told once. -/
/-- A loop over a list: at each element B, with what follows; at the end e. -/
def runIdx {α β : Type} (B : Int → α → Option β → Option β) (e : Option β) : List α → Int → Option β
  | [], _ => e
  | x :: r, i => B i x (runIdx B e r (i + 1))
theorem drop_at {α : Type} (xs : List α) (d : α) (i : Int) (h0 : 0 ≤ i) (h : i < (xs.length : Int)) : xs.drop i.toNat = xs.getD i.toNat d :: xs.drop (i + 1).toNat := by
  have hi : i.toNat < xs.length := by omega
  have h1 : (i + 1).toNat = i.toNat + 1 := by omega
  rw [h1, List.drop_eq_getElem_cons hi]
  congr 1
  simp [List.getD, hi]
theorem loop_list {α β : Type} (xs : List α) (d : α) (K : Nat) (F : Nat → Int → Option β) (B : Int → α → Option β → Option β) (e : Option β)
    (hstep : ∀ k i, K ≤ k → 0 ≤ i → i < (xs.length : Int) → F (k + 1) i = B i (xs.getD i.toNat d) (F k (i + 1)))
    (hend : ∀ k i, K ≤ k → (xs.length : Int) ≤ i → F (k + 1) i = e) : ∀ (n k : Nat) (i : Int), 0 ≤ i → (xs.length : Int) - i = n → K + n < k → F k i = runIdx B e (xs.drop i.toNat) i
  | 0, k, i, h0, hn, hk => by
    obtain ⟨k, rfl⟩ : ∃ m, k = m + 1 := ⟨k - 1, by omega⟩
    rw [hend k i (by omega) (by omega), List.drop_eq_nil_of_le (by omega)]
    rfl
  | n + 1, k, i, h0, hn, hk => by
    obtain ⟨k, rfl⟩ : ∃ m, k = m + 1 := ⟨k - 1, by omega⟩
    have hlt : i < (xs.length : Int) := by omega
    rw [hstep k i (by omega) h0 hlt, loop_list xs d K F B e hstep hend n k (i + 1) (by omega) (by omega) (by omega), drop_at xs d i h0 hlt]
    rfl
theorem loop_all {α β : Type} (xs : List α) (d : α) (K : Nat) (F : Nat → Int → Option β) (B : Int → α → Option β → Option β) (e : Option β)
    (hstep : ∀ k i, K ≤ k → 0 ≤ i → i < (xs.length : Int) → F (k + 1) i = B i (xs.getD i.toNat d) (F k (i + 1)))
    (hend : ∀ k i, K ≤ k → (xs.length : Int) ≤ i → F (k + 1) i = e) (k : Nat) (hk : K + xs.length < k) : F k 0 = runIdx B e xs 0 :=
  loop_list xs d K F B e hstep hend xs.length k 0 (by omega) (by omega) (by omega)

/-- The same with a state. -/
def runSt {α β σ : Type} (B : Int → α → σ → (σ → Option β) → Option β) (e : σ → Option β) : List α → Int → σ → Option β
  | [], _, s => e s
  | x :: r, i, s => B i x s (fun s' => runSt B e r (i + 1) s')
theorem loop_st {α β σ : Type} (xs : List α) (d : α) (K : Nat) (F : Nat → Int → σ → Option β) (B : Int → α → σ → (σ → Option β) → Option β) (e : σ → Option β)
    (hstep : ∀ k i s, K ≤ k → 0 ≤ i → i < (xs.length : Int) → F (k + 1) i s = B i (xs.getD i.toNat d) s (fun s' => F k (i + 1) s'))
    (hend : ∀ k i s, K ≤ k → (xs.length : Int) ≤ i → F (k + 1) i s = e s) : ∀ (n k : Nat) (i : Int) (s : σ), 0 ≤ i → (xs.length : Int) - i = n → K + n < k → F k i s = runSt B e (xs.drop i.toNat) i s
  | 0, k, i, s, h0, hn, hk => by
    obtain ⟨k, rfl⟩ : ∃ m, k = m + 1 := ⟨k - 1, by omega⟩
    rw [hend k i s (by omega) (by omega), List.drop_eq_nil_of_le (by omega)]
    rfl
  | n + 1, k, i, s, h0, hn, hk => by
    obtain ⟨k, rfl⟩ : ∃ m, k = m + 1 := ⟨k - 1, by omega⟩
    have hlt : i < (xs.length : Int) := by omega
    rw [hstep k i s (by omega) h0 hlt, drop_at xs d i h0 hlt]
    show _ = B i _ s _
    congr 1
    funext s'
    exact loop_st xs d K F B e hstep hend n k (i + 1) s' (by omega) (by omega) (by omega)

theorem next_i {i : Int} {n : Nat} (h0 : 0 ≤ i) (h : i < (n : Int)) (hn : n ≤ 9223372036854775807) : wrap64 (i + 1) = i + 1 := by
  unfold wrap64; omega

/-- All of a list: what a loop that stops at the first that is not so tells. -/
theorem run_all {α : Type} (p : α → Bool) : ∀ (xs : List α) (i : Int), runIdx (fun _ x r => if p x = true then r else some false) (some true) xs i = some (xs.all p)
  | [], _ => rfl
  | x :: r, i => by
    unfold runIdx
    rw [run_all p r (i + 1), List.all_cons]
    cases h : p x <;> simp
/-- Some of a list. -/
theorem run_any {α : Type} (p : α → Bool) : ∀ (xs : List α) (i : Int), runIdx (fun _ x r => if p x = true then some true else r) (some false) xs i = some (xs.any p)
  | [], _ => rfl
  | x :: r, i => by
    unfold runIdx
    rw [run_any p r (i + 1), List.any_cons]
    cases h : p x <;> simp
/-- The first of a list that is so, counted from i; -1. -/
def firstOf {α : Type} (p : α → Bool) : List α → Int → Int
  | [], _ => -1
  | x :: r, i => if p x = true then i else firstOf p r (i + 1)
theorem run_first {α : Type} (p : α → Bool) : ∀ (xs : List α) (i : Int), runIdx (fun i x r => if p x = true then some i else r) (some (-1)) xs i = some (firstOf p xs i)
  | [], _ => rfl
  | x :: r, i => by
    unfold runIdx firstOf
    rw [run_first p r (i + 1)]
    cases h : p x <;> simp
theorem firstOf_any {α : Type} (p : α → Bool) : ∀ (xs : List α) (i : Int), 0 ≤ i → decide (firstOf p xs i ≥ 0) = xs.any p
  | [], _, _ => rfl
  | x :: r, i, h => by
    unfold firstOf
    rw [List.any_cons]
    cases hp : p x
    · simpa using firstOf_any p r (i + 1) (by omega)
    · simp [h]
theorem firstOf_bd {α : Type} (p : α → Bool) : ∀ (xs : List α) (i : Int), 0 ≤ i → -1 ≤ firstOf p xs i ∧ firstOf p xs i < i + xs.length ∨ firstOf p xs i = -1
  | [], i, h => .inr rfl
  | x :: r, i, h => by
    unfold firstOf
    split
    · simp; omega
    · rcases firstOf_bd p r (i + 1) (by omega) with ⟨h1, h2⟩ | h1
      · left; simp; omega
      · exact .inr h1

/-- A row filled by an index. -/
theorem fill_loop {α β : Type} (l : List α) (da : α) (db : β) (g : α → β) (K : Nat) (F : Nat → List β → Int → Option (List β))
    (hstep : ∀ k x i, K ≤ k → 0 ≤ i → i < (l.length : Int) → i < (x.length : Int) → F (k + 1) x i = F k (x.set i.toNat (g (l.getD i.toNat da))) (i + 1))
    (hend : ∀ k x i, (l.length : Int) ≤ i → F (k + 1) x i = some x) : ∀ (n k j : Nat), j + n = l.length → K + n < k →
      F k ((l.take j).map g ++ List.replicate n db) (j : Int) = some (l.map g)
  | 0, k, j, hj, hk => by
    obtain ⟨k, rfl⟩ : ∃ m, k = m + 1 := ⟨k - 1, by omega⟩
    rw [hend k _ _ (by omega), List.take_of_length_le (by omega)]
    simp
  | n + 1, k, j, hj, hk => by
    obtain ⟨k, rfl⟩ : ∃ m, k = m + 1 := ⟨k - 1, by omega⟩
    have hlen : ((l.take j).map g).length = j := by simp; omega
    rw [hstep k _ _ (by omega) (by omega) (by omega) (by simp; omega)]
    have h1 : ((j : Int)).toNat = j := by omega
    have hjl : j < l.length := by omega
    have h2 : ((l.take j).map g ++ List.replicate (n + 1) db).set j (g (l.getD j da)) = (l.take (j + 1)).map g ++ List.replicate n db := by
      rw [List.set_append_right _ _ (by omega), hlen, Nat.sub_self, List.replicate_succ, List.set_cons_zero, List.take_succ_eq_append_getElem hjl, List.map_append, List.append_assoc]
      have hg : l.getD j da = l[j] := by simp [List.getD, hjl]
      rw [hg]
      rfl
    have h3 : ((j : Int) + 1) = ((j + 1 : Nat) : Int) := by omega
    rw [h1, h2, h3]
    exact fill_loop l da db g K F hstep hend n k (j + 1) (by omega) (by omega)
theorem fill_all {α β : Type} (l : List α) (da : α) (db : β) (g : α → β) (K : Nat) (F : Nat → List β → Int → Option (List β))
    (hstep : ∀ k x i, K ≤ k → 0 ≤ i → i < (l.length : Int) → i < (x.length : Int) → F (k + 1) x i = F k (x.set i.toNat (g (l.getD i.toNat da))) (i + 1))
    (hend : ∀ k x i, (l.length : Int) ≤ i → F (k + 1) x i = some x) (k : Nat) (hk : K + l.length < k) : F k (List.replicate l.length db) 0 = some (l.map g) := by
  have := fill_loop l da db g K F hstep hend l.length k 0 (by omega) hk
  simpa using this

/-- Is it a word. -/
def wok (x : Int) : Bool := decide (-2147483648 ≤ x ∧ x ≤ 2147483647)
theorem spec_wordok (x : Int) : spec_WordOk.f x = some (wok x) := by
  unfold spec_WordOk.f spec_l1In.f wok
  by_cases h : x ≥ -2147483648
  · have h' : -2147483648 ≤ x := h
    rw [if_pos h, Option.bind_some]; simp [h']
  · have h' : ¬ -2147483648 ≤ x := h
    rw [if_neg h, Option.bind_some]; simp [h']
theorem impl_wordok (x : Int) : impl_WordOk.f x = some (wok x) := by
  unfold impl_WordOk.f impl_within.f wok
  by_cases h : x ≥ -2147483648
  · have h' : -2147483648 ≤ x := h
    rw [if_pos h, Option.bind_some]; simp [h']
  · have h' : ¬ -2147483648 ≤ x := h
    rw [if_neg h, Option.bind_some]; simp [h']
theorem wok_iff (x : Int) : wok x = true ↔ -2147483648 ≤ x ∧ x ≤ 2147483647 := by unfold wok; simp

theorem sz_ints (l : List Int) (n : Int) (h0 : 0 ≤ n) (h1 : n ≤ 1048576) (hl : l.length ≤ 9223372036854775807) : laws_szIntS.f l n = some (if (l.length : Int) ≤ n then n - l.length else -1) := by
  have e : wrap64 (n - (l.length : Int)) = n - l.length := by unfold wrap64; omega
  unfold laws_szIntS.f
  rw [e]
  by_cases h : (l.length : Int) ≤ n
  · rw [if_neg (by omega), if_pos h]
  · rw [if_pos (by omega), if_neg h]
theorem to_ints (l : List Int) (hl : l.length ≤ 1048576) (k : Nat) (hk : l.length < k) : laws_toIntS.f k l = some l := by
  unfold laws_toIntS.f
  have e : ((l.length : Int)).toNat = l.length := by omega
  rw [if_pos (by omega), if_pos (by omega), e]
  have := fill_all l 0 0 (fun x => x) 0 (fun k x i => laws_toIntS.l0 k l x i) (by
    intro k x i _ h0 h1 h2
    simp only [laws_toIntS.l0]
    rw [if_pos h1, if_pos h0, if_pos h2, next_i h0 h1 (by omega)]
    rfl) (by
    intro k x i h
    simp only [laws_toIntS.l0]
    rw [if_neg (by omega)]) k (by omega)
  rw [this]; simp

theorem run_true {α : Type} (p : α → Bool) (hp : ∀ x, p x = true) : ∀ (xs : List α) (i : Int), runIdx (fun _ x r => if p x = true then r else some false) (some true) xs i = some true
  | [], _ => rfl
  | x :: r, i => by
    unfold runIdx
    rw [run_true p hp r (i + 1), if_pos (hp x)]
theorem eq_ints (l : List Int) (hl : l.length ≤ 1048576) (k : Nat) (hk : l.length < k) : laws_eqIntS.f k l l = some true := by
  unfold laws_eqIntS.f
  rw [if_pos rfl, loop_all l 0 0 (fun k i => laws_eqIntS.l0 k l l i) (fun _ x r => if (x == x) = true then r else some false) (some true) (by
    intro k i _ h0 h1
    show laws_eqIntS.l0 (k + 1) l l i = _
    simp only [laws_eqIntS.l0]
    rw [if_pos h1, if_pos h0, if_pos h1, if_pos trivial, next_i h0 h1 (by omega), if_pos (by simp)]) (by
    intro k i _ h
    show laws_eqIntS.l0 (k + 1) l l i = _
    simp only [laws_eqIntS.l0]
    rw [if_neg (by omega)]) k (by omega), run_true (fun x : Int => x == x) (fun x => by simp)]

theorem spec_words (l : List Int) (hl : l.length ≤ 1048576) (k : Nat) (hk : l.length < k) : spec_l3Words.f k l = some (l.all wok) := by
  unfold spec_l3Words.f
  rw [loop_all l 0 0 (fun k i => spec_l3Words.l0 k l i) (fun _ x r => if wok x = true then r else some false) (some true) (by
    intro k i _ h0 h1
    show spec_l3Words.l0 (k + 1) l i = _
    simp only [spec_l3Words.l0]
    rw [if_pos h1, if_pos h0, spec_wordok, Option.bind_some, next_i h0 h1 (by omega)]
    rfl) (by
    intro k i _ h
    show spec_l3Words.l0 (k + 1) l i = _
    simp only [spec_l3Words.l0]
    rw [if_neg (by omega)]) k (by omega), run_all]
theorem contains_ints (l : List Int) (hl : l.length ≤ 1048576) (p : Int → Option Bool) (q : Int → Bool) (hp : ∀ x, p x = some (q x)) (k : Nat) (hk : l.length < k) : slices_ContainsFunc_int_int.f k l p = some (l.any q) := by
  unfold slices_ContainsFunc_int_int.f slices_IndexFunc_int_int.f
  rw [loop_all l 0 0 (fun k i => slices_IndexFunc_int_int.l0 k l p (l.length : Int) i) (fun i x r => if q x = true then some i else r) (some (-1)) (by
    intro k i _ h0 h1
    show slices_IndexFunc_int_int.l0 (k + 1) l p (l.length : Int) i = _
    simp only [slices_IndexFunc_int_int.l0]
    rw [if_pos h1, if_pos h0, if_pos h1, hp, Option.bind_some, next_i h0 h1 (by omega)]
    rfl) (by
    intro k i _ h
    show slices_IndexFunc_int_int.l0 (k + 1) l p (l.length : Int) i = _
    simp only [slices_IndexFunc_int_int.l0]
    rw [if_neg (by omega)]) k (by omega), run_first, Option.bind_some, firstOf_any q l 0 (by omega)]
theorem any_not {α : Type} (p : α → Bool) (l : List α) : (l.any fun x => !p x) = !l.all p := by
  induction l with
  | nil => rfl
  | cons x r ih => rw [List.any_cons, List.all_cons, ih]; cases p x <;> simp
/-- A core is right. -/
def coreB (pc fp : Int) (l : List Int) : Bool := wok pc && wok fp && decide (l.length = 6) && l.all wok
theorem spec_coreok (pc fp : Int) (l : List Int) (hl : l.length ≤ 1048576) (k : Nat) (hk : l.length < k) : spec_CoreOk.f k pc fp l = some (coreB pc fp l) := by
  unfold spec_CoreOk.f coreB
  rw [spec_wordok, Option.bind_some, spec_wordok, spec_words l hl k hk]
  cases h1 : wok pc
  · simp
  · cases h2 : wok fp
    · simp
    · by_cases h3 : l.length = 6
      · simp [h3]
      · have : ¬ (l.length : Int) = 6 := by omega
        simp [h3, this]
theorem impl_coreok (pc fp : Int) (l : List Int) (hl : l.length ≤ 1048576) (k : Nat) (hk : l.length < k) : impl_CoreOk.f k pc fp l = some (coreB pc fp l) := by
  unfold impl_CoreOk.f coreB
  rw [impl_wordok, Option.bind_some, impl_wordok, contains_ints l hl _ (fun x => !wok x) (fun x => by unfold impl_CoreOk_1.f; rw [impl_wordok, Option.bind_some]) k hk]
  cases h1 : wok pc
  · simp
  · cases h2 : wok fp
    · simp
    · by_cases h3 : l.length = 6
      · simp [h3, any_not]
      · have : ¬ (l.length : Int) = 6 := by omega
        simp [h3, this]


theorem FnExactCoreOk : laws_FnExactCoreOk.Pure := by
  intro pc fp l _ _ hl
  refine ⟨1048600, ?_⟩
  unfold laws_FnExactCoreOk.f laws_szCore.f
  rw [sz_ints l 1048576 (by omega) (by omega) hl.1, Option.bind_some]
  by_cases hb : (l.length : Int) ≤ 1048576
  · have h1 : l.length ≤ 1048576 := by omega
    rw [if_pos hb, if_neg (by omega), Option.bind_some, if_neg (by omega)]
    unfold laws_toCore.f
    rw [to_ints l h1 _ (by omega), Option.bind_some, Option.bind_some, spec_coreok pc fp l h1 _ (by omega), Option.bind_some, Option.bind_some, impl_coreok pc fp l h1 _ (by omega), Option.bind_some, if_neg (by simp), Option.bind_some]
    unfold laws_eqCore.f
    rw [if_pos rfl, if_pos rfl, eq_ints l h1 _ (by omega)]
    rfl
  · rw [if_neg hb, if_pos (by omega), Option.bind_some, if_pos (by omega)]


end Go.Proofs.Ytbbknoaceccgmaa.Pure
