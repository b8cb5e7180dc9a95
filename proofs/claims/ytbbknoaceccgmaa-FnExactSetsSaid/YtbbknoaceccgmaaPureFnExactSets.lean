/- Sets of the program returns what the reference's returns, for all lines, and leaves them as they were. Conditions: none beyond the row's own. -/
import Derived.Test.YtbbknoaceccgmaaXFnExactSetsx4
namespace Go.Proofs.Ytbbknoaceccgmaa.Pure
open Go.RowKit Go.Proofs.Ytbbknoaceccgmaa.XFnExactSets Go.Proofs.YtbbknoaceccgmaaW.PrintWords Go.Proofs.YtbbknoaceccgmaaW.PrintLast Go.Proofs.YtbbknoaceccgmaaW.PrintMore
set_option linter.unusedVariables false
set_option linter.unusedSimpArgs false

/-! Loops over a list by an index, told once. -/
/-- A loop over a list: at each element B, with what follows; at the end e. -/
def runIdx {α β : Type} (B : Int → α → Option β → Option β) (e : Option β) : List α → Int → Option β
  | [], _ => e
  | x :: r, i => B i x (runIdx B e r (i + 1))
theorem drop_at {α : Type} (xs : List α) (d : α) (i : Int) (h0 : 0 ≤ i) (h : i < (xs.length : Int)) : xs.drop i.toNat = xs.getD i.toNat d :: xs.drop (i + 1).toNat := by
  have hi : i.toNat < xs.length := by omega
  have h1 : (i + 1).toNat = i.toNat + 1 := by omega
  rw [h1, List.drop_eq_getElem_cons hi]
  congr 1
  simp [List.getD, hi]
theorem loop_list {α β : Type} (xs : List α) (d : α) (K : Nat) (F : Nat → Int → Option β) (B : Int → α → Option β → Option β) (e : Option β)
    (hstep : ∀ k i, K ≤ k → 0 ≤ i → i < (xs.length : Int) → F (k + 1) i = B i (xs.getD i.toNat d) (F k (i + 1)))
    (hend : ∀ k i, K ≤ k → (xs.length : Int) ≤ i → F (k + 1) i = e) : ∀ (n k : Nat) (i : Int), 0 ≤ i → (xs.length : Int) - i = n → K + n < k → F k i = runIdx B e (xs.drop i.toNat) i
  | 0, k, i, h0, hn, hk => by
    obtain ⟨k, rfl⟩ : ∃ m, k = m + 1 := ⟨k - 1, by omega⟩
    rw [hend k i (by omega) (by omega), List.drop_eq_nil_of_le (by omega)]
    rfl
  | n + 1, k, i, h0, hn, hk => by
    obtain ⟨k, rfl⟩ : ∃ m, k = m + 1 := ⟨k - 1, by omega⟩
    have hlt : i < (xs.length : Int) := by omega
    rw [hstep k i (by omega) h0 hlt, loop_list xs d K F B e hstep hend n k (i + 1) (by omega) (by omega) (by omega), drop_at xs d i h0 hlt]
    rfl
theorem loop_all {α β : Type} (xs : List α) (d : α) (K : Nat) (F : Nat → Int → Option β) (B : Int → α → Option β → Option β) (e : Option β)
    (hstep : ∀ k i, K ≤ k → 0 ≤ i → i < (xs.length : Int) → F (k + 1) i = B i (xs.getD i.toNat d) (F k (i + 1)))
    (hend : ∀ k i, K ≤ k → (xs.length : Int) ≤ i → F (k + 1) i = e) (k : Nat) (hk : K + xs.length < k) : F k 0 = runIdx B e xs 0 :=
  loop_list xs d K F B e hstep hend xs.length k 0 (by omega) (by omega) (by omega)

/-- The same with a state. -/
def runSt {α β σ : Type} (B : Int → α → σ → (σ → Option β) → Option β) (e : σ → Option β) : List α → Int → σ → Option β
  | [], _, s => e s
  | x :: r, i, s => B i x s (fun s' => runSt B e r (i + 1) s')
theorem loop_st {α β σ : Type} (xs : List α) (d : α) (K : Nat) (F : Nat → Int → σ → Option β) (B : Int → α → σ → (σ → Option β) → Option β) (e : σ → Option β)
    (hstep : ∀ k i s, K ≤ k → 0 ≤ i → i < (xs.length : Int) → F (k + 1) i s = B i (xs.getD i.toNat d) s (fun s' => F k (i + 1) s'))
    (hend : ∀ k i s, K ≤ k → (xs.length : Int) ≤ i → F (k + 1) i s = e s) : ∀ (n k : Nat) (i : Int) (s : σ), 0 ≤ i → (xs.length : Int) - i = n → K + n < k → F k i s = runSt B e (xs.drop i.toNat) i s
  | 0, k, i, s, h0, hn, hk => by
    obtain ⟨k, rfl⟩ : ∃ m, k = m + 1 := ⟨k - 1, by omega⟩
    rw [hend k i s (by omega) (by omega), List.drop_eq_nil_of_le (by omega)]
    rfl
  | n + 1, k, i, s, h0, hn, hk => by
    obtain ⟨k, rfl⟩ : ∃ m, k = m + 1 := ⟨k - 1, by omega⟩
    have hlt : i < (xs.length : Int) := by omega
    rw [hstep k i s (by omega) h0 hlt, drop_at xs d i h0 hlt]
    show _ = B i _ s _
    congr 1
    funext s'
    exact loop_st xs d K F B e hstep hend n k (i + 1) s' (by omega) (by omega) (by omega)

theorem next_i {i : Int} {n : Nat} (h0 : 0 ≤ i) (h : i < (n : Int)) (hn : n ≤ 9223372036854775807) : wrap64 (i + 1) = i + 1 := by
  unfold wrap64; omega

/-- All of a list: what a loop that stops at the first that is not so tells. -/
theorem run_all {α : Type} (p : α → Bool) : ∀ (xs : List α) (i : Int), runIdx (fun _ x r => if p x = true then r else some false) (some true) xs i = some (xs.all p)
  | [], _ => rfl
  | x :: r, i => by
    unfold runIdx
    rw [run_all p r (i + 1), List.all_cons]
    cases h : p x <;> simp
/-- Some of a list. -/
theorem run_any {α : Type} (p : α → Bool) : ∀ (xs : List α) (i : Int), runIdx (fun _ x r => if p x = true then some true else r) (some false) xs i = some (xs.any p)
  | [], _ => rfl
  | x :: r, i => by
    unfold runIdx
    rw [run_any p r (i + 1), List.any_cons]
    cases h : p x <;> simp
/-- The first of a list that is so, counted from i; -1. -/
def firstOf {α : Type} (p : α → Bool) : List α → Int → Int
  | [], _ => -1
  | x :: r, i => if p x = true then i else firstOf p r (i + 1)
theorem run_first {α : Type} (p : α → Bool) : ∀ (xs : List α) (i : Int), runIdx (fun i x r => if p x = true then some i else r) (some (-1)) xs i = some (firstOf p xs i)
  | [], _ => rfl
  | x :: r, i => by
    unfold runIdx firstOf
    rw [run_first p r (i + 1)]
    cases h : p x <;> simp
theorem firstOf_any {α : Type} (p : α → Bool) : ∀ (xs : List α) (i : Int), 0 ≤ i → decide (firstOf p xs i ≥ 0) = xs.any p
  | [], _, _ => rfl
  | x :: r, i, h => by
    unfold firstOf
    rw [List.any_cons]
    cases hp : p x
    · simpa using firstOf_any p r (i + 1) (by omega)
    · simp [h]
theorem firstOf_bd {α : Type} (p : α → Bool) : ∀ (xs : List α) (i : Int), 0 ≤ i → -1 ≤ firstOf p xs i ∧ firstOf p xs i < i + xs.length ∨ firstOf p xs i = -1
  | [], i, h => .inr rfl
  | x :: r, i, h => by
    unfold firstOf
    split
    · simp; omega
    · rcases firstOf_bd p r (i + 1) (by omega) with ⟨h1, h2⟩ | h1
      · left; simp; omega
      · exact .inr h1

/-- A row filled by an index. -/
theorem fill_loop {α β : Type} (l : List α) (da : α) (db : β) (g : α → β) (K : Nat) (F : Nat → List β → Int → Option (List β))
    (hstep : ∀ k x i, K ≤ k → 0 ≤ i → i < (l.length : Int) → i < (x.length : Int) → F (k + 1) x i = F k (x.set i.toNat (g (l.getD i.toNat da))) (i + 1))
    (hend : ∀ k x i, (l.length : Int) ≤ i → F (k + 1) x i = some x) : ∀ (n k j : Nat), j + n = l.length → K + n < k →
      F k ((l.take j).map g ++ List.replicate n db) (j : Int) = some (l.map g)
  | 0, k, j, hj, hk => by
    obtain ⟨k, rfl⟩ : ∃ m, k = m + 1 := ⟨k - 1, by omega⟩
    rw [hend k _ _ (by omega), List.take_of_length_le (by omega)]
    simp
  | n + 1, k, j, hj, hk => by
    obtain ⟨k, rfl⟩ : ∃ m, k = m + 1 := ⟨k - 1, by omega⟩
    have hlen : ((l.take j).map g).length = j := by simp; omega
    rw [hstep k _ _ (by omega) (by omega) (by omega) (by simp; omega)]
    have h1 : ((j : Int)).toNat = j := by omega
    have hjl : j < l.length := by omega
    have h2 : ((l.take j).map g ++ List.replicate (n + 1) db).set j (g (l.getD j da)) = (l.take (j + 1)).map g ++ List.replicate n db := by
      rw [List.set_append_right _ _ (by omega), hlen, Nat.sub_self, List.replicate_succ, List.set_cons_zero, List.take_succ_eq_append_getElem hjl, List.map_append, List.append_assoc]
      have hg : l.getD j da = l[j] := by simp [List.getD, hjl]
      rw [hg]
      rfl
    have h3 : ((j : Int) + 1) = ((j + 1 : Nat) : Int) := by omega
    rw [h1, h2, h3]
    exact fill_loop l da db g K F hstep hend n k (j + 1) (by omega) (by omega)
theorem fill_all {α β : Type} (l : List α) (da : α) (db : β) (g : α → β) (K : Nat) (F : Nat → List β → Int → Option (List β))
    (hstep : ∀ k x i, K ≤ k → 0 ≤ i → i < (l.length : Int) → i < (x.length : Int) → F (k + 1) x i = F k (x.set i.toNat (g (l.getD i.toNat da))) (i + 1))
    (hend : ∀ k x i, (l.length : Int) ≤ i → F (k + 1) x i = some x) (k : Nat) (hk : K + l.length < k) : F k (List.replicate l.length db) 0 = some (l.map g) := by
  have := fill_loop l da db g K F hstep hend l.length k 0 (by omega) hk
  simpa using this

theorem sz_ints (l : List Int) (n : Int) (h0 : 0 ≤ n) (h1 : n ≤ 1048576) (hl : l.length ≤ 9223372036854775807) : laws_szIntS.f l n = some (if (l.length : Int) ≤ n then n - l.length else -1) := by
  have e : wrap64 (n - (l.length : Int)) = n - l.length := by unfold wrap64; omega
  unfold laws_szIntS.f
  rw [e]
  by_cases h : (l.length : Int) ≤ n
  · rw [if_neg (by omega), if_pos h]
  · rw [if_pos (by omega), if_neg h]

theorem to_ints (l : List Int) (hl : l.length ≤ 1048576) (k : Nat) (hk : l.length < k) : laws_toIntS.f k l = some l := by
  unfold laws_toIntS.f
  have e : ((l.length : Int)).toNat = l.length := by omega
  rw [if_pos (by omega), if_pos (by omega), e]
  have := fill_all l 0 0 (fun x => x) 0 (fun k x i => laws_toIntS.l0 k l x i) (by
    intro k x i _ h0 h1 h2
    simp only [laws_toIntS.l0]
    rw [if_pos h1, if_pos h0, if_pos h2, next_i h0 h1 (by omega)]
    rfl) (by
    intro k x i h
    simp only [laws_toIntS.l0]
    rw [if_neg (by omega)]) k (by omega)
  rw [this]; simp

theorem run_true {α : Type} (p : α → Bool) (hp : ∀ x, p x = true) : ∀ (xs : List α) (i : Int), runIdx (fun _ x r => if p x = true then r else some false) (some true) xs i = some true
  | [], _ => rfl
  | x :: r, i => by
    unfold runIdx
    rw [run_true p hp r (i + 1), if_pos (hp x)]
theorem eq_ints (l : List Int) (hl : l.length ≤ 1048576) (k : Nat) (hk : l.length < k) : laws_eqIntS.f k l l = some true := by
  unfold laws_eqIntS.f
  rw [if_pos rfl, loop_all l 0 0 (fun k i => laws_eqIntS.l0 k l l i) (fun _ x r => if (x == x) = true then r else some false) (some true) (by
    intro k i _ h0 h1
    show laws_eqIntS.l0 (k + 1) l l i = _
    simp only [laws_eqIntS.l0]
    rw [if_pos h1, if_pos h0, if_pos h1, if_pos trivial, next_i h0 h1 (by omega), if_pos (by simp)]) (by
    intro k i _ h
    show laws_eqIntS.l0 (k + 1) l l i = _
    simp only [laws_eqIntS.l0]
    rw [if_neg (by omega)]) k (by omega), run_true (fun x : Int => x == x) (fun x => by simp)]

theorem eq_ints_big (l : List Int) (hl : l.length ≤ 2000000) (k : Nat) (hk : l.length < k) : laws_eqIntS.f k l l = some true := by
  unfold laws_eqIntS.f
  rw [if_pos rfl, loop_all l 0 0 (fun k i => laws_eqIntS.l0 k l l i) (fun _ x r => if (x == x) = true then r else some false) (some true) (by
    intro k i _ h0 h1
    show laws_eqIntS.l0 (k + 1) l l i = _
    simp only [laws_eqIntS.l0]
    rw [if_pos h1, if_pos h0, if_pos h1, if_pos trivial, next_i h0 h1 (by omega), if_pos (by simp)]) (by
    intro k i _ h
    show laws_eqIntS.l0 (k + 1) l l i = _
    simp only [laws_eqIntS.l0]
    rw [if_neg (by omega)]) k (by omega), run_true (fun x : Int => x == x) (fun x => by simp)]

/-- A row of marks. -/
def mkI : Nat → Int → List Int
  | 0, _ => []
  | m + 1, n => n :: mkI m (n + 1)
theorem mkI_len : ∀ (m : Nat) (n : Int), (mkI m n).length = m
  | 0, _ => rfl
  | m + 1, n => by simp [mkI, mkI_len m]
theorem set_mid {α : Type} (p : List α) (x y : α) (r : List α) : (p ++ x :: r).set p.length y = p ++ y :: r := by
  rw [List.set_append_right _ _ (Nat.le_refl _), Nat.sub_self, List.set_cons_zero]
theorem get_mid {α : Type} (p : List α) (x d : α) (r : List α) : (p ++ x :: r).getD p.length d = x := by
  simp [List.getD]
theorem mark_ints_loop : ∀ (r p : List Int) (n : Int) (k : Nat), 0 ≤ n → n + (r.length : Int) ≤ 1000000000 → p.length + r.length ≤ 1000000000 → r.length < k →
    laws_markIntS.l0 k (p ++ r) n (p.length : Int) = some (n + r.length, p ++ mkI r.length n)
  | [], p, n, k, h0, h1, h2, hk => by
    obtain ⟨k, rfl⟩ : ∃ m, k = m + 1 := ⟨k - 1, by omega⟩
    simp only [laws_markIntS.l0, List.length_nil]
    rw [if_neg (by simp)]
    simp [mkI]
  | x :: r, p, n, k, h0, h1, h2, hk => by
    simp only [List.length_cons] at h1 h2 hk
    obtain ⟨k, rfl⟩ : ∃ m, k = m + 1 := ⟨k - 1, by omega⟩
    have e1 : ((p.length : Int)).toNat = p.length := by omega
    have e2 : wrap64 (n + 1) = n + 1 := by unfold wrap64; omega
    have e3 : wrap64 ((p.length : Int) + 1) = ((p ++ [n]).length : Int) := by rw [List.length_append]; simp only [List.length_singleton]; unfold wrap64; omega
    have e4 : p ++ n :: r = (p ++ [n]) ++ r := by simp
    simp only [laws_markIntS.l0]
    rw [if_pos (by simp; omega), if_pos (by omega), e1, set_mid, e2, e3, e4, mark_ints_loop r (p ++ [n]) (n + 1) k (by omega) (by omega) (by rw [List.length_append, List.length_singleton]; omega) (by omega)]
    simp only [mkI, List.length_cons, List.append_assoc, List.cons_append, List.nil_append, Option.some.injEq, Prod.mk.injEq, and_true]
    omega
theorem mark_ints (l : List Int) (n : Int) (h0 : 0 ≤ n) (h1 : n + (l.length : Int) ≤ 1000000000) (k : Nat) (hk : l.length < k) : laws_markIntS.f k l n = some (n + l.length, mkI l.length n) := by
  have := mark_ints_loop l [] n k h0 h1 (by simp; omega) hk
  simpa [laws_markIntS.f] using this

theorem held_ints_loop (L : List Int) (hL : L.length ≤ 1000000000) : ∀ (m : Nat) (c i : Int) (k : Nat), 0 ≤ i → L.drop i.toNat = mkI m c → 0 ≤ c → c + m ≤ 1000000000 → m < k → laws_heldIntS.l0 k L c i = some (c + m)
  | 0, c, i, k, h0, hd, hc, hb, hk => by
    obtain ⟨k, rfl⟩ : ∃ m, k = m + 1 := ⟨k - 1, by omega⟩
    have := List.drop_eq_nil_iff.1 hd
    simp only [laws_heldIntS.l0]
    rw [if_neg (by omega)]
    simp
  | m + 1, c, i, k, h0, hd, hc, hb, hk => by
    obtain ⟨k, rfl⟩ : ∃ m, k = m + 1 := ⟨k - 1, by omega⟩
    have hlt : i < (L.length : Int) := by
      apply Decidable.byContradiction
      intro hn
      rw [List.drop_eq_nil_of_le (by omega)] at hd
      cases hd
    rw [drop_at L 0 i h0 hlt] at hd
    injection hd with hx hr
    have e2 : wrap64 (c + 1) = c + 1 := by unfold wrap64; omega
    simp only [laws_heldIntS.l0]
    rw [if_pos hlt, if_pos h0, show rd L i = c from hx, if_pos rfl, e2, next_i h0 hlt (by omega), held_ints_loop L hL m (c + 1) (i + 1) k (by omega) hr (by omega) (by omega) (by omega)]
    simp only [Option.some.injEq]; omega
theorem held_ints (m : Nat) (n : Int) (h0 : 0 ≤ n) (h1 : n + (m : Int) ≤ 1000000000) (k : Nat) (hk : m < k) : laws_heldIntS.f k (mkI m n) n = some (n + m) :=
  held_ints_loop (mkI m n) (by rw [mkI_len]; omega) m n 0 k (by omega) rfl h0 h1 hk

theorem to_tac (o a b c d : Int) (s : ByteArray) (l : List Int) (hl : l.length ≤ 1048576) (k : Nat) (hk : 1048576 < k) : laws_toTac.f k o a b c d s l = some (o, a, b, c, d, s, l) := by
  unfold laws_toTac.f
  rw [to_ints l hl k (by omega), Option.bind_some]
theorem eq_tac (o a b c d : Int) (s : ByteArray) (l : List Int) (hl : l.length ≤ 1048576) (k : Nat) (hk : 1048576 < k) : laws_eqTac.f k o a b c d s l o a b c d s l = some true := by
  unfold laws_eqTac.f
  rw [if_pos rfl, if_pos rfl, if_pos rfl, if_pos rfl, if_pos rfl, if_pos rfl, eq_ints l hl k (by omega), Option.bind_some, if_pos rfl]
theorem mark_tac (o a b c d : Int) (s : ByteArray) (l : List Int) (n : Int) (h0 : 0 ≤ n) (h1 : n + (l.length : Int) ≤ 1000000000) (k : Nat) (hk : l.length < k) : laws_markTac.f k o a b c d s l n = some (n + l.length, mkI l.length n) := by
  unfold laws_markTac.f
  rw [mark_ints l n h0 h1 k hk, Option.bind_some]
theorem sz_tac (o a b c d : Int) (s : ByteArray) (l : List Int) (hs : s.size ≤ 9223372036854775807) (hl : l.length ≤ 9223372036854775807) : ∃ n, laws_szTac.f o a b c d s l 1048576 = some n ∧ (¬ n < 0 → l.length ≤ 1048576) := by
  unfold laws_szTac.f
  have e : wrap64 (1048576 - (s.size : Int)) = 1048576 - s.size := by unfold wrap64; omega
  rw [e]
  by_cases h : (1048576 - (s.size : Int)) < 0
  · rw [if_pos h]
    exact ⟨_, rfl, fun h => by omega⟩
  · rw [if_neg h, sz_ints l _ (by omega) (by omega) hl, Option.bind_some]
    by_cases h2 : (l.length : Int) ≤ 1048576 - s.size
    · rw [if_pos h2, if_neg (by omega)]
      exact ⟨_, rfl, fun _ => by omega⟩
    · rw [if_neg h2, if_pos (by omega)]
      exact ⟨_, rfl, fun h => by omega⟩

/-! What an op has: the reference's mask, the program's letters. -/
def hasT : List Int := [0, 9, 3, 7, 7, 7, 7, 7, 8, 8, 10, 49, 2, 2, 48, 3, 6, 3, 2, 45, 3, 6, 39, 1, 17, 2, 6, 6, 2]
def hasM (a : Int) : Int := if 1 ≤ a ∧ a ≤ 28 then hasT.getD a.toNat 0 else 0
theorem spec_has (a : Int) : spec_l10Has.f a = some (hasM a) := by
  unfold spec_l10Has.f spec_l1In.f hasM
  by_cases h : a ≥ 1
  · have h' : 1 ≤ a := h
    rw [if_pos h, Option.bind_some]
    by_cases h2 : a ≤ 28
    · rw [if_pos (decide_eq_true h2), Option.bind_some, if_pos (by omega), if_pos (by show a < 29; omega), if_pos ⟨h', h2⟩]
      rfl
    · rw [if_neg (by simp; omega), if_neg (by omega)]
  · rw [if_neg h, Option.bind_some, if_neg (by simp), if_neg (by omega)]
theorem contains_bytes (l : List Int) (hl : l.length ≤ 1048576) (c : Int) (k : Nat) (hk : l.length < k) : slices_Contains_byte.f k l c = some (l.any fun x => decide (c = x)) := by
  unfold slices_Contains_byte.f slices_Index_byte.f
  rw [loop_all l 0 0 (fun k i => slices_Index_byte.l0 k l c (l.length : Int) i) (fun i x r => if (decide (c = x)) = true then some i else r) (some (-1)) (by
    intro k i _ h0 h1
    show slices_Index_byte.l0 (k + 1) l c (l.length : Int) i = _
    simp only [slices_Index_byte.l0]
    rw [if_pos h1, if_pos h0, if_pos h1, next_i h0 h1 (by omega)]
    have e : rd l i = l.getD i.toNat 0 := rfl
    rw [e]
    by_cases h : c = l.getD i.toNat 0
    · rw [if_pos h, if_pos (decide_eq_true h)]
    · rw [if_neg h, if_neg (by simpa using h)]) (by
    intro k i _ h
    show slices_Index_byte.l0 (k + 1) l c (l.length : Int) i = _
    simp only [slices_Index_byte.l0]
    rw [if_neg (by omega)]) k (by omega), run_first, Option.bind_some, firstOf_any _ l 0 (by omega)]
theorem owned_eq (k : Nat) (a c : Int) (l : List UInt8) (h : impl_owns.f k a = some ⟨l.toArray⟩) (hl : l.length ≤ 100) (hk : 200 ≤ k) : impl_owned.f k a c = some ((l.map fun z => (z.toNat : Int)).any fun x => decide (c = x)) := by
  unfold impl_owned.f
  have e : (⟨l.toArray⟩ : ByteArray).size = l.length := by simp [ByteArray.size]
  rw [h, Option.bind_some, if_pos (by rw [e]; omega), ByteArray.toList_eq]
  rw [contains_bytes _ (by simp; omega) c k (by simp; omega), Option.bind_some]
def OpsOk (k : Nat) (a : Int) : Prop :=
  impl_owned.f k a 68 = some (!decide (Go.bits .and .i64 (hasM a) 1 = 0)) ∧ impl_owned.f k a 65 = some (!decide (Go.bits .and .i64 (hasM a) 2 = 0)) ∧
  impl_owned.f k a 66 = some (!decide (Go.bits .and .i64 (hasM a) 4 = 0)) ∧ impl_owned.f k a 88 = some (!decide (Go.bits .and .i64 (hasM a) 32 = 0))
theorem ops_one (k : Nat) (a : Int) (l : List UInt8) (m : Int) (hk : 200 ≤ k) (h : impl_owns.f k a = some ⟨l.toArray⟩) (hl : l.length ≤ 100) (hm : hasM a = m)
    (h1 : ((l.map fun z => (z.toNat : Int)).any fun x => decide (68 = x)) = !decide (Go.bits .and .i64 m 1 = 0)) (h2 : ((l.map fun z => (z.toNat : Int)).any fun x => decide (65 = x)) = !decide (Go.bits .and .i64 m 2 = 0))
    (h3 : ((l.map fun z => (z.toNat : Int)).any fun x => decide (66 = x)) = !decide (Go.bits .and .i64 m 4 = 0)) (h4 : ((l.map fun z => (z.toNat : Int)).any fun x => decide (88 = x)) = !decide (Go.bits .and .i64 m 32 = 0)) : OpsOk k a := by
  unfold OpsOk
  rw [owned_eq k a 68 l h hl hk, owned_eq k a 65 l h hl hk, owned_eq k a 66 l h hl hk, owned_eq k a 88 l h hl hk, hm, h1, h2, h3, h4]
  exact ⟨rfl, rfl, rfl, rfl⟩
theorem ops_ok (k : Nat) (a : Int) (hk : 200 ≤ k) : OpsOk k a := by
  by_cases h : 1 ≤ a ∧ a ≤ 28
  · obtain ⟨q, rfl⟩ : ∃ q, k = q + 8 := ⟨k - 8, by omega⟩
    have hc : a = 1 ∨ a = 2 ∨ a = 3 ∨ a = 4 ∨ a = 5 ∨ a = 6 ∨ a = 7 ∨ a = 8 ∨ a = 9 ∨ a = 10 ∨ a = 11 ∨ a = 12 ∨ a = 13 ∨ a = 14 ∨ a = 15 ∨ a = 16 ∨ a = 17 ∨ a = 18 ∨ a = 19 ∨ a = 20 ∨ a = 21 ∨ a = 22 ∨ a = 23 ∨ a = 24 ∨ a = 25 ∨ a = 26 ∨ a = 27 ∨ a = 28 := by omega
    rcases hc with rfl | rfl | rfl | rfl | rfl | rfl | rfl | rfl | rfl | rfl | rfl | rfl | rfl | rfl | rfl | rfl | rfl | rfl | rfl | rfl | rfl | rfl | rfl | rfl | rfl | rfl | rfl | rfl
    all_goals first
      | exact ops_one _ _ [68, 78] _ hk rfl (by decide) rfl (by decide) (by decide) (by decide) (by decide)
      | exact ops_one _ _ [68, 65] _ hk rfl (by decide) rfl (by decide) (by decide) (by decide) (by decide)
      | exact ops_one _ _ [68, 65, 66] _ hk rfl (by decide) rfl (by decide) (by decide) (by decide) (by decide)
      | exact ops_one _ _ [78] _ hk rfl (by decide) rfl (by decide) (by decide) (by decide) (by decide)
      | exact ops_one _ _ [65, 78] _ hk rfl (by decide) rfl (by decide) (by decide) (by decide) (by decide)
      | exact ops_one _ _ [68, 83, 88] _ hk rfl (by decide) rfl (by decide) (by decide) (by decide) (by decide)
      | exact ops_one _ _ [65] _ hk rfl (by decide) rfl (by decide) (by decide) (by decide) (by decide)
      | exact ops_one _ _ [83, 88] _ hk rfl (by decide) rfl (by decide) (by decide) (by decide) (by decide)
      | exact ops_one _ _ [65, 66] _ hk rfl (by decide) rfl (by decide) (by decide) (by decide) (by decide)
      | exact ops_one _ _ [68, 66, 78, 88] _ hk rfl (by decide) rfl (by decide) (by decide) (by decide) (by decide)
      | exact ops_one _ _ [68, 65, 66, 88] _ hk rfl (by decide) rfl (by decide) (by decide) (by decide) (by decide)
      | exact ops_one _ _ [68] _ hk rfl (by decide) rfl (by decide) (by decide) (by decide) (by decide)
      | exact ops_one _ _ [68, 83] _ hk rfl (by decide) rfl (by decide) (by decide) (by decide) (by decide)
  · have hm : hasM a = 0 := by unfold hasM; rw [if_neg h]
    have hn : ∀ c : Int, 1 ≤ c → c ≤ 28 → ¬ a = c := by intro c h1 h2 e; omega
    have e : impl_owns.f k a = some ⟨([] : List UInt8).toArray⟩ := by
      obtain ⟨q, rfl⟩ : ∃ q, k = q + 8 := ⟨k - 8, by omega⟩
      simp [impl_owns.f, impl_owns.j0, impl_owns.j1, impl_owns.j2, impl_owns.j3, impl_owns.j4, hn]
    exact ops_one k a [] 0 hk e (by decide) hm (by decide) (by decide) (by decide) (by decide)

def setsM (o a c : Int) : List Int := (if Go.bits .and .i64 (hasM o) 1 = 0 then [] else [a]) ++ (if o = 19 then [c] else [])
theorem setsM_len (o a c : Int) : (setsM o a c).length ≤ 2 := by
  unfold setsM
  split <;> split <;> simp
theorem spec_sets (o a b c d : Int) (s : ByteArray) (l : List Int) : spec_Sets.f o a b c d s l = some (setsM o a c) := by
  unfold spec_Sets.f setsM
  rw [Option.bind_some, spec_has, Option.bind_some]
  by_cases h : Go.bits .and .i64 (hasM o) 1 = 0
  · rw [if_pos h, if_pos h]
    by_cases h2 : o = 19
    · rw [if_pos h2, if_pos (by simp), if_pos h2]
    · rw [if_neg h2, if_neg h2]; rfl
  · rw [if_neg h, if_neg h, if_pos (by simp), Option.bind_some]
    by_cases h2 : o = 19
    · rw [if_pos h2, if_pos (by simp), if_pos h2]; rfl
    · rw [if_neg h2, if_neg h2]; rfl
theorem impl_sets (o a b c d : Int) (s : ByteArray) (l : List Int) (k : Nat) (hk : 200 ≤ k) : impl_Sets.f k o a b c d s l = some (setsM o a c) := by
  unfold impl_Sets.f setsM
  by_cases h2 : o = 19
  · subst h2
    have : ¬ Go.bits .and .i64 (hasM 19) 1 = 0 := by decide
    rw [if_pos rfl, if_neg this, if_pos rfl]; rfl
  · rw [if_neg h2, (ops_ok k o hk).1, Option.bind_some, if_neg h2]
    by_cases h : Go.bits .and .i64 (hasM o) 1 = 0
    · rw [if_pos h, if_neg (by simp [h])]; rfl
    · rw [if_neg h, if_pos (by simp [h])]; rfl

theorem both_ (o a b c d : Int) (s : ByteArray) (l : List Int) (hl : l.length ≤ 1048576) : ∃ R, R.length ≤ 2000000 ∧ (∀ k, 3000000 ≤ k → spec_Sets.f o a b c d s l = some R) ∧ (∀ k, 3000000 ≤ k → impl_Sets.f k o a b c d s l = some R) :=
  ⟨setsM o a c, by have := setsM_len o a c; omega, fun _ _ => spec_sets o a b c d s l, fun k hk => impl_sets o a b c d s l k (by omega)⟩
theorem law_j (o a b c d : Int) (s : ByteArray) (l R : List Int) (hl : l.length ≤ 1048576) (hR : R.length ≤ 2000000) (k : Nat) (hk : 3000000 ≤ k) (hi : ∀ k, 3000000 ≤ k → impl_Sets.f k o a b c d s l = some R) : laws_FnExactSets.j0 (k + 1) R R false o a b c d s l = some true := by
  simp only [laws_FnExactSets.j0]
  rw [if_neg (by simp), mark_ints R 1 (by omega) (by omega) k (by omega), Option.bind_some, held_ints R.length 1 (by omega) (by omega) k (by omega), Option.bind_some, if_neg (by omega), if_pos rfl, to_tac o a b c d s l hl k (by omega), Option.bind_some, hi k hk, Option.bind_some, eq_ints_big R hR k (by omega), Option.bind_some, if_pos rfl, Option.bind_some, if_neg (by omega), if_pos rfl]
theorem law_f (o a b c d : Int) (s : ByteArray) (l : List Int) (hs : s.size ≤ 9223372036854775807) (hl : l.length ≤ 9223372036854775807) (k : Nat) (hk : 3000001 ≤ k) : laws_FnExactSets.f k o a b c d s l = some true := by
  obtain ⟨k, rfl⟩ : ∃ m, k = m + 1 := ⟨k - 1, by omega⟩
  unfold laws_FnExactSets.f
  obtain ⟨n, hn, hb⟩ := sz_tac o a b c d s l hs hl
  rw [hn, Option.bind_some]
  by_cases h : n < 0
  · rw [if_pos h]
  · have h1 := hb h
    obtain ⟨R, hR, hsp, him⟩ := both_ o a b c d s l h1
    rw [if_neg h, to_tac o a b c d s l h1 (k + 1) (by omega), Option.bind_some, hsp (k + 1) (by omega), Option.bind_some, Option.bind_some, him (k + 1) (by omega), Option.bind_some, eq_ints_big R hR (k + 1) (by omega), Option.bind_some, if_pos rfl, Option.bind_some, eq_tac o a b c d s l h1 (k + 1) (by omega), Option.bind_some, if_pos rfl, mark_tac o a b c d s l 1 (by omega) (by omega) (k + 1) (by omega), Option.bind_some, if_neg (by omega), Option.bind_some]
    exact law_j o a b c d s l R h1 hR k (by omega) him

theorem FnExactSets : laws_FnExactSets.Pure := by
  intro o a b c d s l _ _ _ _ _ hs hl
  exact ⟨3000001, law_f o a b c d s l hs hl.1 _ (Nat.le_refl _)⟩


end Go.Proofs.Ytbbknoaceccgmaa.Pure
