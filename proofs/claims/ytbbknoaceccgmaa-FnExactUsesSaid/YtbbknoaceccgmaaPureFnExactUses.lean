/- Uses of the program returns what the reference's returns, for all lines, and leaves them as they were. Conditions: none beyond the row's own. -/
import Derived.Test.YtbbknoaceccgmaaXFnExactUsesx6
namespace Go.Proofs.Ytbbknoaceccgmaa.Pure
open Go.RowKit Go.Proofs.Ytbbknoaceccgmaa.XFnExactUses Go.Proofs.YtbbknoaceccgmaaW.PrintWords Go.Proofs.YtbbknoaceccgmaaW.PrintLast Go.Proofs.YtbbknoaceccgmaaW.PrintMore
set_option linter.unusedVariables false
set_option linter.unusedSimpArgs false

/-! Loops over a list by an index, told once. -/
/-- A loop over a list: at each element B, with what follows; at the end e. -/
def runIdx {α β : Type} (B : Int → α → Option β → Option β) (e : Option β) : List α → Int → Option β
  | [], _ => e
  | x :: r, i => B i x (runIdx B e r (i + 1))
theorem drop_at {α : Type} (xs : List α) (d : α) (i : Int) (h0 : 0 ≤ i) (h : i < (xs.length : Int)) : xs.drop i.toNat = xs.getD i.toNat d :: xs.drop (i + 1).toNat := by
  have hi : i.toNat < xs.length := by omega
  have h1 : (i + 1).toNat = i.toNat + 1 := by omega
  rw [h1, List.drop_eq_getElem_cons hi]
  congr 1
  simp [List.getD, hi]
theorem loop_list {α β : Type} (xs : List α) (d : α) (K : Nat) (F : Nat → Int → Option β) (B : Int → α → Option β → Option β) (e : Option β)
    (hstep : ∀ k i, K ≤ k → 0 ≤ i → i < (xs.length : Int) → F (k + 1) i = B i (xs.getD i.toNat d) (F k (i + 1)))
    (hend : ∀ k i, K ≤ k → (xs.length : Int) ≤ i → F (k + 1) i = e) : ∀ (n k : Nat) (i : Int), 0 ≤ i → (xs.length : Int) - i = n → K + n < k → F k i = runIdx B e (xs.drop i.toNat) i
  | 0, k, i, h0, hn, hk => by
    obtain ⟨k, rfl⟩ : ∃ m, k = m + 1 := ⟨k - 1, by omega⟩
    rw [hend k i (by omega) (by omega), List.drop_eq_nil_of_le (by omega)]
    rfl
  | n + 1, k, i, h0, hn, hk => by
    obtain ⟨k, rfl⟩ : ∃ m, k = m + 1 := ⟨k - 1, by omega⟩
    have hlt : i < (xs.length : Int) := by omega
    rw [hstep k i (by omega) h0 hlt, loop_list xs d K F B e hstep hend n k (i + 1) (by omega) (by omega) (by omega), drop_at xs d i h0 hlt]
    rfl
theorem loop_all {α β : Type} (xs : List α) (d : α) (K : Nat) (F : Nat → Int → Option β) (B : Int → α → Option β → Option β) (e : Option β)
    (hstep : ∀ k i, K ≤ k → 0 ≤ i → i < (xs.length : Int) → F (k + 1) i = B i (xs.getD i.toNat d) (F k (i + 1)))
    (hend : ∀ k i, K ≤ k → (xs.length : Int) ≤ i → F (k + 1) i = e) (k : Nat) (hk : K + xs.length < k) : F k 0 = runIdx B e xs 0 :=
  loop_list xs d K F B e hstep hend xs.length k 0 (by omega) (by omega) (by omega)

/-- The same with a state. -/
def runSt {α β σ : Type} (B : Int → α → σ → (σ → Option β) → Option β) (e : σ → Option β) : List α → Int → σ → Option β
  | [], _, s => e s
  | x :: r, i, s => B i x s (fun s' => runSt B e r (i + 1) s')
theorem loop_st {α β σ : Type} (xs : List α) (d : α) (K : Nat) (F : Nat → Int → σ → Option β) (B : Int → α → σ → (σ → Option β) → Option β) (e : σ → Option β)
    (hstep : ∀ k i s, K ≤ k → 0 ≤ i → i < (xs.length : Int) → F (k + 1) i s = B i (xs.getD i.toNat d) s (fun s' => F k (i + 1) s'))
    (hend : ∀ k i s, K ≤ k → (xs.length : Int) ≤ i → F (k + 1) i s = e s) : ∀ (n k : Nat) (i : Int) (s : σ), 0 ≤ i → (xs.length : Int) - i = n → K + n < k → F k i s = runSt B e (xs.drop i.toNat) i s
  | 0, k, i, s, h0, hn, hk => by
    obtain ⟨k, rfl⟩ : ∃ m, k = m + 1 := ⟨k - 1, by omega⟩
    rw [hend k i s (by omega) (by omega), List.drop_eq_nil_of_le (by omega)]
    rfl
  | n + 1, k, i, s, h0, hn, hk => by
    obtain ⟨k, rfl⟩ : ∃ m, k = m + 1 := ⟨k - 1, by omega⟩
    have hlt : i < (xs.length : Int) := by omega
    rw [hstep k i s (by omega) h0 hlt, drop_at xs d i h0 hlt]
    show _ = B i _ s _
    congr 1
    funext s'
    exact loop_st xs d K F B e hstep hend n k (i + 1) s' (by omega) (by omega) (by omega)

theorem next_i {i : Int} {n : Nat} (h0 : 0 ≤ i) (h : i < (n : Int)) (hn : n ≤ 9223372036854775807) : wrap64 (i + 1) = i + 1 := by
  unfold wrap64; omega

/-- All of a list: what a loop that stops at the first that is not so tells. -/
theorem run_all {α : Type} (p : α → Bool) : ∀ (xs : List α) (i : Int), runIdx (fun _ x r => if p x = true then r else some false) (some true) xs i = some (xs.all p)
  | [], _ => rfl
  | x :: r, i => by
    unfold runIdx
    rw [run_all p r (i + 1), List.all_cons]
    cases h : p x <;> simp
/-- Some of a list. -/
theorem run_any {α : Type} (p : α → Bool) : ∀ (xs : List α) (i : Int), runIdx (fun _ x r => if p x = true then some true else r) (some false) xs i = some (xs.any p)
  | [], _ => rfl
  | x :: r, i => by
    unfold runIdx
    rw [run_any p r (i + 1), List.any_cons]
    cases h : p x <;> simp
/-- The first of a list that is so, counted from i; -1. -/
def firstOf {α : Type} (p : α → Bool) : List α → Int → Int
  | [], _ => -1
  | x :: r, i => if p x = true then i else firstOf p r (i + 1)
theorem run_first {α : Type} (p : α → Bool) : ∀ (xs : List α) (i : Int), runIdx (fun i x r => if p x = true then some i else r) (some (-1)) xs i = some (firstOf p xs i)
  | [], _ => rfl
  | x :: r, i => by
    unfold runIdx firstOf
    rw [run_first p r (i + 1)]
    cases h : p x <;> simp
theorem firstOf_any {α : Type} (p : α → Bool) : ∀ (xs : List α) (i : Int), 0 ≤ i → decide (firstOf p xs i ≥ 0) = xs.any p
  | [], _, _ => rfl
  | x :: r, i, h => by
    unfold firstOf
    rw [List.any_cons]
    cases hp : p x
    · simpa using firstOf_any p r (i + 1) (by omega)
    · simp [h]
theorem firstOf_bd {α : Type} (p : α → Bool) : ∀ (xs : List α) (i : Int), 0 ≤ i → -1 ≤ firstOf p xs i ∧ firstOf p xs i < i + xs.length ∨ firstOf p xs i = -1
  | [], i, h => .inr rfl
  | x :: r, i, h => by
    unfold firstOf
    split
    · simp; omega
    · rcases firstOf_bd p r (i + 1) (by omega) with ⟨h1, h2⟩ | h1
      · left; simp; omega
      · exact .inr h1

/-- A row filled by an index. -/
theorem fill_loop {α β : Type} (l : List α) (da : α) (db : β) (g : α → β) (K : Nat) (F : Nat → List β → Int → Option (List β))
    (hstep : ∀ k x i, K ≤ k → 0 ≤ i → i < (l.length : Int) → i < (x.length : Int) → F (k + 1) x i = F k (x.set i.toNat (g (l.getD i.toNat da))) (i + 1))
    (hend : ∀ k x i, (l.length : Int) ≤ i → F (k + 1) x i = some x) : ∀ (n k j : Nat), j + n = l.length → K + n < k →
      F k ((l.take j).map g ++ List.replicate n db) (j : Int) = some (l.map g)
  | 0, k, j, hj, hk => by
    obtain ⟨k, rfl⟩ : ∃ m, k = m + 1 := ⟨k - 1, by omega⟩
    rw [hend k _ _ (by omega), List.take_of_length_le (by omega)]
    simp
  | n + 1, k, j, hj, hk => by
    obtain ⟨k, rfl⟩ : ∃ m, k = m + 1 := ⟨k - 1, by omega⟩
    have hlen : ((l.take j).map g).length = j := by simp; omega
    rw [hstep k _ _ (by omega) (by omega) (by omega) (by simp; omega)]
    have h1 : ((j : Int)).toNat = j := by omega
    have hjl : j < l.length := by omega
    have h2 : ((l.take j).map g ++ List.replicate (n + 1) db).set j (g (l.getD j da)) = (l.take (j + 1)).map g ++ List.replicate n db := by
      rw [List.set_append_right _ _ (by omega), hlen, Nat.sub_self, List.replicate_succ, List.set_cons_zero, List.take_succ_eq_append_getElem hjl, List.map_append, List.append_assoc]
      have hg : l.getD j da = l[j] := by simp [List.getD, hjl]
      rw [hg]
      rfl
    have h3 : ((j : Int) + 1) = ((j + 1 : Nat) : Int) := by omega
    rw [h1, h2, h3]
    exact fill_loop l da db g K F hstep hend n k (j + 1) (by omega) (by omega)
theorem fill_all {α β : Type} (l : List α) (da : α) (db : β) (g : α → β) (K : Nat) (F : Nat → List β → Int → Option (List β))
    (hstep : ∀ k x i, K ≤ k → 0 ≤ i → i < (l.length : Int) → i < (x.length : Int) → F (k + 1) x i = F k (x.set i.toNat (g (l.getD i.toNat da))) (i + 1))
    (hend : ∀ k x i, (l.length : Int) ≤ i → F (k + 1) x i = some x) (k : Nat) (hk : K + l.length < k) : F k (List.replicate l.length db) 0 = some (l.map g) := by
  have := fill_loop l da db g K F hstep hend l.length k 0 (by omega) hk
  simpa using this

theorem sz_ints (l : List Int) (n : Int) (h0 : 0 ≤ n) (h1 : n ≤ 1048576) (hl : l.length ≤ 9223372036854775807) : laws_szIntS.f l n = some (if (l.length : Int) ≤ n then n - l.length else -1) := by
  have e : wrap64 (n - (l.length : Int)) = n - l.length := by unfold wrap64; omega
  unfold laws_szIntS.f
  rw [e]
  by_cases h : (l.length : Int) ≤ n
  · rw [if_neg (by omega), if_pos h]
  · rw [if_pos (by omega), if_neg h]

theorem to_ints (l : List Int) (hl : l.length ≤ 1048576) (k : Nat) (hk : l.length < k) : laws_toIntS.f k l = some l := by
  unfold laws_toIntS.f
  have e : ((l.length : Int)).toNat = l.length := by omega
  rw [if_pos (by omega), if_pos (by omega), e]
  have := fill_all l 0 0 (fun x => x) 0 (fun k x i => laws_toIntS.l0 k l x i) (by
    intro k x i _ h0 h1 h2
    simp only [laws_toIntS.l0]
    rw [if_pos h1, if_pos h0, if_pos h2, next_i h0 h1 (by omega)]
    rfl) (by
    intro k x i h
    simp only [laws_toIntS.l0]
    rw [if_neg (by omega)]) k (by omega)
  rw [this]; simp

theorem run_true {α : Type} (p : α → Bool) (hp : ∀ x, p x = true) : ∀ (xs : List α) (i : Int), runIdx (fun _ x r => if p x = true then r else some false) (some true) xs i = some true
  | [], _ => rfl
  | x :: r, i => by
    unfold runIdx
    rw [run_true p hp r (i + 1), if_pos (hp x)]
theorem eq_ints (l : List Int) (hl : l.length ≤ 1048576) (k : Nat) (hk : l.length < k) : laws_eqIntS.f k l l = some true := by
  unfold laws_eqIntS.f
  rw [if_pos rfl, loop_all l 0 0 (fun k i => laws_eqIntS.l0 k l l i) (fun _ x r => if (x == x) = true then r else some false) (some true) (by
    intro k i _ h0 h1
    show laws_eqIntS.l0 (k + 1) l l i = _
    simp only [laws_eqIntS.l0]
    rw [if_pos h1, if_pos h0, if_pos h1, if_pos trivial, next_i h0 h1 (by omega), if_pos (by simp)]) (by
    intro k i _ h
    show laws_eqIntS.l0 (k + 1) l l i = _
    simp only [laws_eqIntS.l0]
    rw [if_neg (by omega)]) k (by omega), run_true (fun x : Int => x == x) (fun x => by simp)]

theorem eq_ints_big (l : List Int) (hl : l.length ≤ 2000000) (k : Nat) (hk : l.length < k) : laws_eqIntS.f k l l = some true := by
  unfold laws_eqIntS.f
  rw [if_pos rfl, loop_all l 0 0 (fun k i => laws_eqIntS.l0 k l l i) (fun _ x r => if (x == x) = true then r else some false) (some true) (by
    intro k i _ h0 h1
    show laws_eqIntS.l0 (k + 1) l l i = _
    simp only [laws_eqIntS.l0]
    rw [if_pos h1, if_pos h0, if_pos h1, if_pos trivial, next_i h0 h1 (by omega), if_pos (by simp)]) (by
    intro k i _ h
    show laws_eqIntS.l0 (k + 1) l l i = _
    simp only [laws_eqIntS.l0]
    rw [if_neg (by omega)]) k (by omega), run_true (fun x : Int => x == x) (fun x => by simp)]

/-- A row of marks. -/
def mkI : Nat → Int → List Int
  | 0, _ => []
  | m + 1, n => n :: mkI m (n + 1)
theorem mkI_len : ∀ (m : Nat) (n : Int), (mkI m n).length = m
  | 0, _ => rfl
  | m + 1, n => by simp [mkI, mkI_len m]
theorem set_mid {α : Type} (p : List α) (x y : α) (r : List α) : (p ++ x :: r).set p.length y = p ++ y :: r := by
  rw [List.set_append_right _ _ (Nat.le_refl _), Nat.sub_self, List.set_cons_zero]
theorem get_mid {α : Type} (p : List α) (x d : α) (r : List α) : (p ++ x :: r).getD p.length d = x := by
  simp [List.getD]
theorem mark_ints_loop : ∀ (r p : List Int) (n : Int) (k : Nat), 0 ≤ n → n + (r.length : Int) ≤ 1000000000 → p.length + r.length ≤ 1000000000 → r.length < k →
    laws_markIntS.l0 k (p ++ r) n (p.length : Int) = some (n + r.length, p ++ mkI r.length n)
  | [], p, n, k, h0, h1, h2, hk => by
    obtain ⟨k, rfl⟩ : ∃ m, k = m + 1 := ⟨k - 1, by omega⟩
    simp only [laws_markIntS.l0, List.length_nil]
    rw [if_neg (by simp)]
    simp [mkI]
  | x :: r, p, n, k, h0, h1, h2, hk => by
    simp only [List.length_cons] at h1 h2 hk
    obtain ⟨k, rfl⟩ : ∃ m, k = m + 1 := ⟨k - 1, by omega⟩
    have e1 : ((p.length : Int)).toNat = p.length := by omega
    have e2 : wrap64 (n + 1) = n + 1 := by unfold wrap64; omega
    have e3 : wrap64 ((p.length : Int) + 1) = ((p ++ [n]).length : Int) := by rw [List.length_append]; simp only [List.length_singleton]; unfold wrap64; omega
    have e4 : p ++ n :: r = (p ++ [n]) ++ r := by simp
    simp only [laws_markIntS.l0]
    rw [if_pos (by simp; omega), if_pos (by omega), e1, set_mid, e2, e3, e4, mark_ints_loop r (p ++ [n]) (n + 1) k (by omega) (by omega) (by rw [List.length_append, List.length_singleton]; omega) (by omega)]
    simp only [mkI, List.length_cons, List.append_assoc, List.cons_append, List.nil_append, Option.some.injEq, Prod.mk.injEq, and_true]
    omega
theorem mark_ints (l : List Int) (n : Int) (h0 : 0 ≤ n) (h1 : n + (l.length : Int) ≤ 1000000000) (k : Nat) (hk : l.length < k) : laws_markIntS.f k l n = some (n + l.length, mkI l.length n) := by
  have := mark_ints_loop l [] n k h0 h1 (by simp; omega) hk
  simpa [laws_markIntS.f] using this

theorem held_ints_loop (L : List Int) (hL : L.length ≤ 1000000000) : ∀ (m : Nat) (c i : Int) (k : Nat), 0 ≤ i → L.drop i.toNat = mkI m c → 0 ≤ c → c + m ≤ 1000000000 → m < k → laws_heldIntS.l0 k L c i = some (c + m)
  | 0, c, i, k, h0, hd, hc, hb, hk => by
    obtain ⟨k, rfl⟩ : ∃ m, k = m + 1 := ⟨k - 1, by omega⟩
    have := List.drop_eq_nil_iff.1 hd
    simp only [laws_heldIntS.l0]
    rw [if_neg (by omega)]
    simp
  | m + 1, c, i, k, h0, hd, hc, hb, hk => by
    obtain ⟨k, rfl⟩ : ∃ m, k = m + 1 := ⟨k - 1, by omega⟩
    have hlt : i < (L.length : Int) := by
      apply Decidable.byContradiction
      intro hn
      rw [List.drop_eq_nil_of_le (by omega)] at hd
      cases hd
    rw [drop_at L 0 i h0 hlt] at hd
    injection hd with hx hr
    have e2 : wrap64 (c + 1) = c + 1 := by unfold wrap64; omega
    simp only [laws_heldIntS.l0]
    rw [if_pos hlt, if_pos h0, show rd L i = c from hx, if_pos rfl, e2, next_i h0 hlt (by omega), held_ints_loop L hL m (c + 1) (i + 1) k (by omega) hr (by omega) (by omega) (by omega)]
    simp only [Option.some.injEq]; omega
theorem held_ints (m : Nat) (n : Int) (h0 : 0 ≤ n) (h1 : n + (m : Int) ≤ 1000000000) (k : Nat) (hk : m < k) : laws_heldIntS.f k (mkI m n) n = some (n + m) :=
  held_ints_loop (mkI m n) (by rw [mkI_len]; omega) m n 0 k (by omega) rfl h0 h1 hk

theorem to_tac (o a b c d : Int) (s : ByteArray) (l : List Int) (hl : l.length ≤ 1048576) (k : Nat) (hk : 1048576 < k) : laws_toTac.f k o a b c d s l = some (o, a, b, c, d, s, l) := by
  unfold laws_toTac.f
  rw [to_ints l hl k (by omega), Option.bind_some]
theorem eq_tac (o a b c d : Int) (s : ByteArray) (l : List Int) (hl : l.length ≤ 1048576) (k : Nat) (hk : 1048576 < k) : laws_eqTac.f k o a b c d s l o a b c d s l = some true := by
  unfold laws_eqTac.f
  rw [if_pos rfl, if_pos rfl, if_pos rfl, if_pos rfl, if_pos rfl, if_pos rfl, eq_ints l hl k (by omega), Option.bind_some, if_pos rfl]
theorem mark_tac (o a b c d : Int) (s : ByteArray) (l : List Int) (n : Int) (h0 : 0 ≤ n) (h1 : n + (l.length : Int) ≤ 1000000000) (k : Nat) (hk : l.length < k) : laws_markTac.f k o a b c d s l n = some (n + l.length, mkI l.length n) := by
  unfold laws_markTac.f
  rw [mark_ints l n h0 h1 k hk, Option.bind_some]
theorem sz_tac (o a b c d : Int) (s : ByteArray) (l : List Int) (hs : s.size ≤ 9223372036854775807) (hl : l.length ≤ 9223372036854775807) : ∃ n, laws_szTac.f o a b c d s l 1048576 = some n ∧ (¬ n < 0 → l.length ≤ 1048576) := by
  unfold laws_szTac.f
  have e : wrap64 (1048576 - (s.size : Int)) = 1048576 - s.size := by unfold wrap64; omega
  rw [e]
  by_cases h : (1048576 - (s.size : Int)) < 0
  · rw [if_pos h]
    exact ⟨_, rfl, fun h => by omega⟩
  · rw [if_neg h, sz_ints l _ (by omega) (by omega) hl, Option.bind_some]
    by_cases h2 : (l.length : Int) ≤ 1048576 - s.size
    · rw [if_pos h2, if_neg (by omega)]
      exact ⟨_, rfl, fun _ => by omega⟩
    · rw [if_neg h2, if_pos (by omega)]
      exact ⟨_, rfl, fun h => by omega⟩

/-! What an op has: the reference's mask, the program's letters. -/
def hasT : List Int := [0, 9, 3, 7, 7, 7, 7, 7, 8, 8, 10, 49, 2, 2, 48, 3, 6, 3, 2, 45, 3, 6, 39, 1, 17, 2, 6, 6, 2]
def hasM (a : Int) : Int := if 1 ≤ a ∧ a ≤ 28 then hasT.getD a.toNat 0 else 0
theorem spec_has (a : Int) : spec_l10Has.f a = some (hasM a) := by
  unfold spec_l10Has.f spec_l1In.f hasM
  by_cases h : a ≥ 1
  · have h' : 1 ≤ a := h
    rw [if_pos h, Option.bind_some]
    by_cases h2 : a ≤ 28
    · rw [if_pos (decide_eq_true h2), Option.bind_some, if_pos (by omega), if_pos (by show a < 29; omega), if_pos ⟨h', h2⟩]
      rfl
    · rw [if_neg (by simp; omega), if_neg (by omega)]
  · rw [if_neg h, Option.bind_some, if_neg (by simp), if_neg (by omega)]
theorem contains_bytes (l : List Int) (hl : l.length ≤ 1048576) (c : Int) (k : Nat) (hk : l.length < k) : slices_Contains_byte.f k l c = some (l.any fun x => decide (c = x)) := by
  unfold slices_Contains_byte.f slices_Index_byte.f
  rw [loop_all l 0 0 (fun k i => slices_Index_byte.l0 k l c (l.length : Int) i) (fun i x r => if (decide (c = x)) = true then some i else r) (some (-1)) (by
    intro k i _ h0 h1
    show slices_Index_byte.l0 (k + 1) l c (l.length : Int) i = _
    simp only [slices_Index_byte.l0]
    rw [if_pos h1, if_pos h0, if_pos h1, next_i h0 h1 (by omega)]
    have e : rd l i = l.getD i.toNat 0 := rfl
    rw [e]
    by_cases h : c = l.getD i.toNat 0
    · rw [if_pos h, if_pos (decide_eq_true h)]
    · rw [if_neg h, if_neg (by simpa using h)]) (by
    intro k i _ h
    show slices_Index_byte.l0 (k + 1) l c (l.length : Int) i = _
    simp only [slices_Index_byte.l0]
    rw [if_neg (by omega)]) k (by omega), run_first, Option.bind_some, firstOf_any _ l 0 (by omega)]
theorem owned_eq (k : Nat) (a c : Int) (l : List UInt8) (h : impl_owns.f k a = some ⟨l.toArray⟩) (hl : l.length ≤ 100) (hk : 200 ≤ k) : impl_owned.f k a c = some ((l.map fun z => (z.toNat : Int)).any fun x => decide (c = x)) := by
  unfold impl_owned.f
  have e : (⟨l.toArray⟩ : ByteArray).size = l.length := by simp [ByteArray.size]
  rw [h, Option.bind_some, if_pos (by rw [e]; omega), ByteArray.toList_eq]
  rw [contains_bytes _ (by simp; omega) c k (by simp; omega), Option.bind_some]
def OpsOk (k : Nat) (a : Int) : Prop :=
  impl_owned.f k a 68 = some (!decide (Go.bits .and .i64 (hasM a) 1 = 0)) ∧ impl_owned.f k a 65 = some (!decide (Go.bits .and .i64 (hasM a) 2 = 0)) ∧
  impl_owned.f k a 66 = some (!decide (Go.bits .and .i64 (hasM a) 4 = 0)) ∧ impl_owned.f k a 88 = some (!decide (Go.bits .and .i64 (hasM a) 32 = 0))
theorem ops_one (k : Nat) (a : Int) (l : List UInt8) (m : Int) (hk : 200 ≤ k) (h : impl_owns.f k a = some ⟨l.toArray⟩) (hl : l.length ≤ 100) (hm : hasM a = m)
    (h1 : ((l.map fun z => (z.toNat : Int)).any fun x => decide (68 = x)) = !decide (Go.bits .and .i64 m 1 = 0)) (h2 : ((l.map fun z => (z.toNat : Int)).any fun x => decide (65 = x)) = !decide (Go.bits .and .i64 m 2 = 0))
    (h3 : ((l.map fun z => (z.toNat : Int)).any fun x => decide (66 = x)) = !decide (Go.bits .and .i64 m 4 = 0)) (h4 : ((l.map fun z => (z.toNat : Int)).any fun x => decide (88 = x)) = !decide (Go.bits .and .i64 m 32 = 0)) : OpsOk k a := by
  unfold OpsOk
  rw [owned_eq k a 68 l h hl hk, owned_eq k a 65 l h hl hk, owned_eq k a 66 l h hl hk, owned_eq k a 88 l h hl hk, hm, h1, h2, h3, h4]
  exact ⟨rfl, rfl, rfl, rfl⟩
theorem ops_ok (k : Nat) (a : Int) (hk : 200 ≤ k) : OpsOk k a := by
  by_cases h : 1 ≤ a ∧ a ≤ 28
  · obtain ⟨q, rfl⟩ : ∃ q, k = q + 8 := ⟨k - 8, by omega⟩
    have hc : a = 1 ∨ a = 2 ∨ a = 3 ∨ a = 4 ∨ a = 5 ∨ a = 6 ∨ a = 7 ∨ a = 8 ∨ a = 9 ∨ a = 10 ∨ a = 11 ∨ a = 12 ∨ a = 13 ∨ a = 14 ∨ a = 15 ∨ a = 16 ∨ a = 17 ∨ a = 18 ∨ a = 19 ∨ a = 20 ∨ a = 21 ∨ a = 22 ∨ a = 23 ∨ a = 24 ∨ a = 25 ∨ a = 26 ∨ a = 27 ∨ a = 28 := by omega
    rcases hc with rfl | rfl | rfl | rfl | rfl | rfl | rfl | rfl | rfl | rfl | rfl | rfl | rfl | rfl | rfl | rfl | rfl | rfl | rfl | rfl | rfl | rfl | rfl | rfl | rfl | rfl | rfl | rfl
    all_goals first
      | exact ops_one _ _ [68, 78] _ hk rfl (by decide) rfl (by decide) (by decide) (by decide) (by decide)
      | exact ops_one _ _ [68, 65] _ hk rfl (by decide) rfl (by decide) (by decide) (by decide) (by decide)
      | exact ops_one _ _ [68, 65, 66] _ hk rfl (by decide) rfl (by decide) (by decide) (by decide) (by decide)
      | exact ops_one _ _ [78] _ hk rfl (by decide) rfl (by decide) (by decide) (by decide) (by decide)
      | exact ops_one _ _ [65, 78] _ hk rfl (by decide) rfl (by decide) (by decide) (by decide) (by decide)
      | exact ops_one _ _ [68, 83, 88] _ hk rfl (by decide) rfl (by decide) (by decide) (by decide) (by decide)
      | exact ops_one _ _ [65] _ hk rfl (by decide) rfl (by decide) (by decide) (by decide) (by decide)
      | exact ops_one _ _ [83, 88] _ hk rfl (by decide) rfl (by decide) (by decide) (by decide) (by decide)
      | exact ops_one _ _ [65, 66] _ hk rfl (by decide) rfl (by decide) (by decide) (by decide) (by decide)
      | exact ops_one _ _ [68, 66, 78, 88] _ hk rfl (by decide) rfl (by decide) (by decide) (by decide) (by decide)
      | exact ops_one _ _ [68, 65, 66, 88] _ hk rfl (by decide) rfl (by decide) (by decide) (by decide) (by decide)
      | exact ops_one _ _ [68] _ hk rfl (by decide) rfl (by decide) (by decide) (by decide) (by decide)
      | exact ops_one _ _ [68, 83] _ hk rfl (by decide) rfl (by decide) (by decide) (by decide) (by decide)
  · have hm : hasM a = 0 := by unfold hasM; rw [if_neg h]
    have hn : ∀ c : Int, 1 ≤ c → c ≤ 28 → ¬ a = c := by intro c h1 h2 e; omega
    have e : impl_owns.f k a = some ⟨([] : List UInt8).toArray⟩ := by
      obtain ⟨q, rfl⟩ : ∃ q, k = q + 8 := ⟨k - 8, by omega⟩
      simp [impl_owns.f, impl_owns.j0, impl_owns.j1, impl_owns.j2, impl_owns.j3, impl_owns.j4, hn]
    exact ops_one k a [] 0 hk e (by decide) hm (by decide) (by decide) (by decide) (by decide)

/-- Which of select's arguments are used. -/
def selB (l : List Int) (i : Int) : Bool := if Int.tmod i 3 = 1 then true else if Int.tmod i 3 = 2 then decide (rd l (i - 2) = 2) else false
/-- A loop that gathers. -/
def gath (p : Int → Bool) : List Int → Int → List Int → List Int
  | [], _, r => r
  | x :: xs, i, r => gath p xs (i + 1) (if p i = true then r ++ [x] else r)
theorem gath_len (p : Int → Bool) : ∀ (xs : List Int) (i : Int) (r : List Int), (gath p xs i r).length ≤ r.length + xs.length
  | [], _, r => by simp [gath]
  | x :: xs, i, r => by
    unfold gath
    have := gath_len p xs (i + 1) (if p i = true then r ++ [x] else r)
    split at this
    · rw [List.length_append, List.length_singleton] at this
      rw [List.length_cons, if_pos (by assumption)]; omega
    · rw [List.length_cons, if_neg (by assumption)]; omega
theorem gath_true : ∀ (xs : List Int) (i : Int) (r : List Int), gath (fun _ => true) xs i r = r ++ xs
  | [], i, r => by simp [gath]
  | x :: xs, i, r => by
    unfold gath
    rw [if_pos rfl, gath_true xs (i + 1)]; simp
theorem gath_false : ∀ (xs : List Int) (i : Int) (r : List Int), gath (fun _ => false) xs i r = r
  | [], i, r => by simp [gath]
  | x :: xs, i, r => by
    unfold gath
    rw [if_neg (by simp), gath_false xs (i + 1)]
/-- What the op's letter X (mask 32) uses. -/
def useB (o : Int) (l : List Int) (i : Int) : Bool := if Go.bits .and .i64 (hasM o) 32 = 0 then false else if o = 19 then selB l i else true
theorem minus2 (i : Int) (h0 : 0 ≤ i) (h1 : i < 2000000) : wrap64 (i - 2) = i - 2 := by unfold wrap64; omega
theorem tmod2 (i : Int) (h0 : 0 ≤ i) (h : Int.tmod i 3 = 2) : 2 ≤ i := by
  have : Int.tmod i 3 = i % 3 := Int.tmod_eq_emod_of_nonneg h0
  omega
theorem spec_uses_loop (o a b c d : Int) (s : ByteArray) (l : List Int) (hl : l.length ≤ 1048576) : ∀ (n : Nat) (i : Int) (r : List Int) (k : Nat), 0 ≤ i → i + n = l.length → (r.length : Int) ≤ i + 5 → 2 * n + 2 < k →
    spec_Uses.l0 k r (hasM o) i o a b c d s l = some (gath (useB o l) (l.drop i.toNat) i r)
  | 0, i, r, k, h0, h1, hr, hk => by
    obtain ⟨k, rfl⟩ : ∃ m, k = m + 2 := ⟨k - 2, by omega⟩
    rw [List.drop_eq_nil_of_le (by omega)]
    simp only [spec_Uses.l0, spec_Uses.j4]
    rw [if_neg (by omega), if_neg (by simp)]
    rfl
  | n + 1, i, r, k, h0, h1, hr, hk => by
    have hlt : i < (l.length : Int) := by omega
    obtain ⟨k, rfl⟩ : ∃ m, k = m + 2 := ⟨k - 2, by omega⟩
    have ih1 := spec_uses_loop o a b c d s l hl n (i + 1) (r ++ [rd l i]) k (by omega) (by omega) (by rw [List.length_append, List.length_singleton]; omega) (by omega)
    have ih0 := spec_uses_loop o a b c d s l hl n (i + 1) r k (by omega) (by omega) (by omega) (by omega)
    have hroom : r.length < 17592186044416 := by omega
    have e : l.getD i.toNat 0 = rd l i := rfl
    rw [drop_at l 0 i h0 hlt, e]
    unfold gath
    simp only [spec_Uses.l0, spec_Uses.j4]
    rw [if_pos hlt, next_i h0 hlt (by omega), minus2 i h0 (by omega)]
    by_cases h32 : Go.bits .and .i64 (hasM o) 32 = 0
    · have hu : useB o l i = false := by unfold useB; rw [if_pos h32]
      have hz : Go.bits .and .i64 (hasM o) 32 = 0 := h32
      -- the mask has no X: the end
      have hg : useB o l = fun _ => false := by funext j; unfold useB; rw [if_pos h32]
      rw [if_neg (by simp [h32]), hg, if_neg (by simp), gath_false]
    · rw [if_pos (by simp [h32])]
      by_cases h19 : o = 19
      · rw [if_pos h19]
        by_cases m1 : Int.tmod i 3 = 1
        · have hu : useB o l i = true := by unfold useB selB; rw [if_neg h32, if_pos h19, if_pos m1]
          rw [if_pos m1, if_pos h0, if_pos hlt, if_pos hroom, ih1, hu, if_pos rfl]
        · rw [if_neg m1]
          by_cases m2 : Int.tmod i 3 = 2
          · have h2 := tmod2 i h0 m2
            rw [if_pos m2, if_pos (by omega), if_pos (by omega)]
            by_cases hv : rd l (i - 2) = 2
            · have hu : useB o l i = true := by unfold useB selB; rw [if_neg h32, if_pos h19, if_neg m1, if_pos m2]; simp [hv]
              rw [if_pos hv, if_pos h0, if_pos hlt, if_pos hroom, ih1, hu, if_pos rfl]
            · have hu : useB o l i = false := by unfold useB selB; rw [if_neg h32, if_pos h19, if_neg m1, if_pos m2]; simp [hv]
              rw [if_neg hv, ih0, hu, if_neg (by simp)]
          · have hu : useB o l i = false := by unfold useB selB; rw [if_neg h32, if_pos h19, if_neg m1, if_neg m2]
            rw [if_neg m2, ih0, hu, if_neg (by simp)]
      · have hu : useB o l i = true := by unfold useB; rw [if_neg h32, if_neg h19]
        rw [if_neg h19, if_pos h0, if_pos hlt, if_pos hroom, ih1, hu, if_pos rfl]
theorem impl_uses_loop (o a b c d : Int) (s : ByteArray) (l : List Int) (hl : l.length ≤ 1048576) : ∀ (n : Nat) (i : Int) (r : List Int) (k : Nat), 0 ≤ i → i + n = l.length → (r.length : Int) ≤ i + 5 → n < k →
    impl_Uses.l0 k r l (l.length : Int) i o a b c d s l = some (gath (selB l) (l.drop i.toNat) i r)
  | 0, i, r, k, h0, h1, hr, hk => by
    obtain ⟨k, rfl⟩ : ∃ m, k = m + 1 := ⟨k - 1, by omega⟩
    rw [List.drop_eq_nil_of_le (by omega)]
    simp only [impl_Uses.l0]
    rw [if_neg (by omega)]
    rfl
  | n + 1, i, r, k, h0, h1, hr, hk => by
    have hlt : i < (l.length : Int) := by omega
    obtain ⟨k, rfl⟩ : ∃ m, k = m + 1 := ⟨k - 1, by omega⟩
    have ih1 := impl_uses_loop o a b c d s l hl n (i + 1) (r ++ [rd l i]) k (by omega) (by omega) (by rw [List.length_append, List.length_singleton]; omega) (by omega)
    have ih0 := impl_uses_loop o a b c d s l hl n (i + 1) r k (by omega) (by omega) (by omega) (by omega)
    have hroom : r.length < 17592186044416 := by omega
    have e : l.getD i.toNat 0 = rd l i := rfl
    rw [drop_at l 0 i h0 hlt, e]
    unfold gath
    simp only [impl_Uses.l0]
    rw [if_pos hlt, if_pos h0, if_pos hlt, next_i h0 hlt (by omega), minus2 i h0 (by omega)]
    by_cases m1 : Int.tmod i 3 = 1
    · have hu : selB l i = true := by unfold selB; rw [if_pos m1]
      rw [if_pos m1, if_pos hroom, ih1, hu, if_pos rfl]
    · rw [if_neg m1]
      by_cases m2 : Int.tmod i 3 = 2
      · have h2 := tmod2 i h0 m2
        rw [if_pos m2, if_pos (by omega), if_pos (by omega)]
        by_cases hv : rd l (i - 2) = 2
        · have hu : selB l i = true := by unfold selB; rw [if_neg m1, if_pos m2]; simp [hv]
          rw [if_pos hv, if_pos hroom, ih1, hu, if_pos rfl]
        · have hu : selB l i = false := by unfold selB; rw [if_neg m1, if_pos m2]; simp [hv]
          rw [if_neg hv, ih0, hu, if_neg (by simp)]
      · have hu : selB l i = false := by unfold selB; rw [if_neg m1, if_neg m2]
        rw [if_neg m2, ih0, hu, if_neg (by simp)]
/-- What a line uses. -/
def usesM (o b c : Int) (l : List Int) : List Int :=
  gath (useB o l) l 0 ((if Go.bits .and .i64 (hasM o) 2 = 0 then [] else [b]) ++ (if Go.bits .and .i64 (hasM o) 4 = 0 then [] else if o = 19 then [] else [c]))
theorem usesM_len (o b c : Int) (l : List Int) : (usesM o b c l).length ≤ l.length + 2 := by
  unfold usesM
  refine Nat.le_trans (gath_len _ _ _ _) ?_
  split <;> split <;> (try split) <;> simp <;> omega
theorem spec_uses_j0 (o a b c d : Int) (s : ByteArray) (l r : List Int) (hl : l.length ≤ 1048576) (hr : r.length ≤ 1) (k : Nat) (hk : 3000000 ≤ k) :
    spec_Uses.j0 k r (hasM o) o a b c d s l = some (gath (useB o l) l 0 (r ++ (if Go.bits .and .i64 (hasM o) 4 = 0 then [] else if o = 19 then [] else [c]))) := by
  obtain ⟨k, rfl⟩ : ∃ m, k = m + 3 := ⟨k - 3, by omega⟩
  have loop : ∀ r : List Int, r.length ≤ 3 → spec_Uses.l0 k r (hasM o) 0 o a b c d s l = some (gath (useB o l) l 0 r) := fun r h => spec_uses_loop o a b c d s l hl l.length 0 r k (by omega) (by omega) (by omega) (by omega)
  simp only [spec_Uses.j0, spec_Uses.j1, spec_Uses.j2]
  rw [loop r (by omega), loop (r ++ [c]) (by simp; omega), if_pos (by omega : r.length < 17592186044416)]
  by_cases h4 : Go.bits .and .i64 (hasM o) 4 = 0
  · simp [h4]
  · by_cases h19 : o = 19
    · simp [h4, h19]
    · simp [h4, h19]
theorem spec_uses (o a b c d : Int) (s : ByteArray) (l : List Int) (hl : l.length ≤ 1048576) (k : Nat) (hk : 3000000 ≤ k) : spec_Uses.f k o a b c d s l = some (usesM o b c l) := by
  unfold spec_Uses.f usesM
  rw [Option.bind_some, spec_has, Option.bind_some, spec_uses_j0 o a b c d s l [] hl (by simp) k hk, spec_uses_j0 o a b c d s l ([] ++ [b]) hl (by simp) k hk, if_pos (by simp : ([] : List Int).length < 17592186044416)]
  by_cases h2 : Go.bits .and .i64 (hasM o) 2 = 0
  · rw [if_pos h2, if_pos h2]
  · rw [if_neg h2, if_neg h2]; rfl
theorem impl_uses_j1 (o a b c d : Int) (s : ByteArray) (l r : List Int) (hl : l.length ≤ 1048576) (hr : r.length ≤ 1) (h19 : ¬ o = 19) (k : Nat) (hk : 1000 ≤ k) :
    impl_Uses.j1 k r o a b c d s l = some (gath (useB o l) l 0 (r ++ (if Go.bits .and .i64 (hasM o) 4 = 0 then [] else if o = 19 then [] else [c]))) := by
  obtain ⟨k, rfl⟩ : ∃ m, k = m + 1 := ⟨k - 1, by omega⟩
  have hops := ops_ok k o (by omega)
  unfold OpsOk at hops
  obtain ⟨hD, hA, hB, hX⟩ := hops
  have hg : ∀ r : List Int, gath (useB o l) l 0 r = if Go.bits .and .i64 (hasM o) 32 = 0 then r else r ++ l := by
    intro r
    by_cases h : Go.bits .and .i64 (hasM o) 32 = 0
    · have : useB o l = fun _ => false := by funext j; unfold useB; rw [if_pos h]
      rw [this, gath_false, if_pos h]
    · have : useB o l = fun _ => true := by funext j; unfold useB; rw [if_neg h, if_neg h19]
      rw [this, gath_true, if_neg h]
  have l1 : r.length < 17592186044416 := by omega
  have l2 : r.length + l.length < 17592186044416 := by omega
  have l3 : (r ++ [c]).length + l.length < 17592186044416 := by rw [List.length_append, List.length_singleton]; omega
  simp only [impl_Uses.j1]
  rw [hB, Option.bind_some, hX, Option.bind_some, Option.bind_some, Option.bind_some, if_pos l1, if_pos l2, if_pos l3, hg, if_neg h19]
  by_cases h4 : Go.bits .and .i64 (hasM o) 4 = 0
  · by_cases h5 : Go.bits .and .i64 (hasM o) 32 = 0
    · simp [h4, h5]
    · simp [h4, h5]
  · by_cases h5 : Go.bits .and .i64 (hasM o) 32 = 0
    · simp [h4, h5]
    · simp [h4, h5]
theorem impl_uses (o a b c d : Int) (s : ByteArray) (l : List Int) (hl : l.length ≤ 1048576) (k : Nat) (hk : 3000000 ≤ k) : impl_Uses.f k o a b c d s l = some (usesM o b c l) := by
  unfold impl_Uses.f usesM
  rw [Option.bind_some]
  by_cases h19 : o = 19
  · have hg : useB o l = selB l := by
      funext j
      subst h19
      have : ¬ Go.bits .and .i64 (hasM 19) 32 = 0 := by decide
      unfold useB
      rw [if_neg this, if_pos rfl]
    have h2 : Go.bits .and .i64 (hasM o) 2 = 0 := by subst h19; decide
    rw [if_pos h19, impl_uses_loop o a b c d s l hl l.length 0 [] k (by omega) (by omega) (by simp) (by omega), hg, if_pos h2]
    simp [h19]
  · have hops := ops_ok k o (by omega)
    unfold OpsOk at hops
    obtain ⟨hD, hA, hB, hX⟩ := hops
    rw [if_neg h19, hA, Option.bind_some, impl_uses_j1 o a b c d s l [] hl (by simp) h19 k (by omega), impl_uses_j1 o a b c d s l ([] ++ [b]) hl (by simp) h19 k (by omega), if_pos (by simp : ([] : List Int).length < 17592186044416)]
    by_cases h2 : Go.bits .and .i64 (hasM o) 2 = 0
    · simp [h2]
    · simp [h2]

theorem both_ (o a b c d : Int) (s : ByteArray) (l : List Int) (hl : l.length ≤ 1048576) : ∃ R, R.length ≤ 2000000 ∧ (∀ k, 3000000 ≤ k → spec_Uses.f k o a b c d s l = some R) ∧ (∀ k, 3000000 ≤ k → impl_Uses.f k o a b c d s l = some R) :=
  ⟨usesM o b c l, by have := usesM_len o b c l; omega, fun k hk => spec_uses o a b c d s l hl k hk, fun k hk => impl_uses o a b c d s l hl k hk⟩
theorem law_j (o a b c d : Int) (s : ByteArray) (l R : List Int) (hl : l.length ≤ 1048576) (hR : R.length ≤ 2000000) (k : Nat) (hk : 3000000 ≤ k) (hi : ∀ k, 3000000 ≤ k → impl_Uses.f k o a b c d s l = some R) : laws_FnExactUses.j0 (k + 1) R R false o a b c d s l = some true := by
  simp only [laws_FnExactUses.j0]
  rw [if_neg (by simp), mark_ints R 1 (by omega) (by omega) k (by omega), Option.bind_some, held_ints R.length 1 (by omega) (by omega) k (by omega), Option.bind_some, if_neg (by omega), if_pos rfl, to_tac o a b c d s l hl k (by omega), Option.bind_some, hi k hk, Option.bind_some, eq_ints_big R hR k (by omega), Option.bind_some, if_pos rfl, Option.bind_some, if_neg (by omega), if_pos rfl]
theorem law_f (o a b c d : Int) (s : ByteArray) (l : List Int) (hs : s.size ≤ 9223372036854775807) (hl : l.length ≤ 9223372036854775807) (k : Nat) (hk : 3000001 ≤ k) : laws_FnExactUses.f k o a b c d s l = some true := by
  obtain ⟨k, rfl⟩ : ∃ m, k = m + 1 := ⟨k - 1, by omega⟩
  unfold laws_FnExactUses.f
  obtain ⟨n, hn, hb⟩ := sz_tac o a b c d s l hs hl
  rw [hn, Option.bind_some]
  by_cases h : n < 0
  · rw [if_pos h]
  · have h1 := hb h
    obtain ⟨R, hR, hsp, him⟩ := both_ o a b c d s l h1
    rw [if_neg h, to_tac o a b c d s l h1 (k + 1) (by omega), Option.bind_some, hsp (k + 1) (by omega), Option.bind_some, Option.bind_some, him (k + 1) (by omega), Option.bind_some, eq_ints_big R hR (k + 1) (by omega), Option.bind_some, if_pos rfl, Option.bind_some, eq_tac o a b c d s l h1 (k + 1) (by omega), Option.bind_some, if_pos rfl, mark_tac o a b c d s l 1 (by omega) (by omega) (k + 1) (by omega), Option.bind_some, if_neg (by omega), Option.bind_some]
    exact law_j o a b c d s l R h1 hR k (by omega) him

theorem FnExactUses : laws_FnExactUses.Pure := by
  intro o a b c d s l _ _ _ _ _ hs hl
  exact ⟨3000001, law_f o a b c d s l hs hl.1 _ (Nat.le_refl _)⟩


end Go.Proofs.Ytbbknoaceccgmaa.Pure
