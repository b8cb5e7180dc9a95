/- AddWait of the program returns what the reference's returns, for all lists of waits and all waits, and leaves them as they were. Conditions: none beyond the row's own. -/
import Derived.Test.YtbbknoaceccgmaaXFnExactAddWaitx4
namespace Go.Proofs.Ytbbknoaceccgmaa.Pure
open Go.RowKit Go.Proofs.Ytbbknoaceccgmaa.XFnExactAddWait Go.Proofs.YtbbknoaceccgmaaW.PrintWords Go.Proofs.YtbbknoaceccgmaaW.PrintLast Go.Proofs.YtbbknoaceccgmaaW.PrintMore
set_option linter.unusedVariables false
set_option linter.unusedSimpArgs false

/-! Loops over a list by an index, told once. -/
/-- A loop over a list: at each element B, with what follows; at the end e. -/
def runIdx {α β : Type} (B : Int → α → Option β → Option β) (e : Option β) : List α → Int → Option β
  | [], _ => e
  | x :: r, i => B i x (runIdx B e r (i + 1))
theorem drop_at {α : Type} (xs : List α) (d : α) (i : Int) (h0 : 0 ≤ i) (h : i < (xs.length : Int)) : xs.drop i.toNat = xs.getD i.toNat d :: xs.drop (i + 1).toNat := by
  have hi : i.toNat < xs.length := by omega
  have h1 : (i + 1).toNat = i.toNat + 1 := by omega
  rw [h1, List.drop_eq_getElem_cons hi]
  congr 1
  simp [List.getD, hi]
theorem loop_list {α β : Type} (xs : List α) (d : α) (K : Nat) (F : Nat → Int → Option β) (B : Int → α → Option β → Option β) (e : Option β)
    (hstep : ∀ k i, K ≤ k → 0 ≤ i → i < (xs.length : Int) → F (k + 1) i = B i (xs.getD i.toNat d) (F k (i + 1)))
    (hend : ∀ k i, K ≤ k → (xs.length : Int) ≤ i → F (k + 1) i = e) : ∀ (n k : Nat) (i : Int), 0 ≤ i → (xs.length : Int) - i = n → K + n < k → F k i = runIdx B e (xs.drop i.toNat) i
  | 0, k, i, h0, hn, hk => by
    obtain ⟨k, rfl⟩ : ∃ m, k = m + 1 := ⟨k - 1, by omega⟩
    rw [hend k i (by omega) (by omega), List.drop_eq_nil_of_le (by omega)]
    rfl
  | n + 1, k, i, h0, hn, hk => by
    obtain ⟨k, rfl⟩ : ∃ m, k = m + 1 := ⟨k - 1, by omega⟩
    have hlt : i < (xs.length : Int) := by omega
    rw [hstep k i (by omega) h0 hlt, loop_list xs d K F B e hstep hend n k (i + 1) (by omega) (by omega) (by omega), drop_at xs d i h0 hlt]
    rfl
theorem loop_all {α β : Type} (xs : List α) (d : α) (K : Nat) (F : Nat → Int → Option β) (B : Int → α → Option β → Option β) (e : Option β)
    (hstep : ∀ k i, K ≤ k → 0 ≤ i → i < (xs.length : Int) → F (k + 1) i = B i (xs.getD i.toNat d) (F k (i + 1)))
    (hend : ∀ k i, K ≤ k → (xs.length : Int) ≤ i → F (k + 1) i = e) (k : Nat) (hk : K + xs.length < k) : F k 0 = runIdx B e xs 0 :=
  loop_list xs d K F B e hstep hend xs.length k 0 (by omega) (by omega) (by omega)

/-- The same with a state. -/
def runSt {α β σ : Type} (B : Int → α → σ → (σ → Option β) → Option β) (e : σ → Option β) : List α → Int → σ → Option β
  | [], _, s => e s
  | x :: r, i, s => B i x s (fun s' => runSt B e r (i + 1) s')
theorem loop_st {α β σ : Type} (xs : List α) (d : α) (K : Nat) (F : Nat → Int → σ → Option β) (B : Int → α → σ → (σ → Option β) → Option β) (e : σ → Option β)
    (hstep : ∀ k i s, K ≤ k → 0 ≤ i → i < (xs.length : Int) → F (k + 1) i s = B i (xs.getD i.toNat d) s (fun s' => F k (i + 1) s'))
    (hend : ∀ k i s, K ≤ k → (xs.length : Int) ≤ i → F (k + 1) i s = e s) : ∀ (n k : Nat) (i : Int) (s : σ), 0 ≤ i → (xs.length : Int) - i = n → K + n < k → F k i s = runSt B e (xs.drop i.toNat) i s
  | 0, k, i, s, h0, hn, hk => by
    obtain ⟨k, rfl⟩ : ∃ m, k = m + 1 := ⟨k - 1, by omega⟩
    rw [hend k i s (by omega) (by omega), List.drop_eq_nil_of_le (by omega)]
    rfl
  | n + 1, k, i, s, h0, hn, hk => by
    obtain ⟨k, rfl⟩ : ∃ m, k = m + 1 := ⟨k - 1, by omega⟩
    have hlt : i < (xs.length : Int) := by omega
    rw [hstep k i s (by omega) h0 hlt, drop_at xs d i h0 hlt]
    show _ = B i _ s _
    congr 1
    funext s'
    exact loop_st xs d K F B e hstep hend n k (i + 1) s' (by omega) (by omega) (by omega)

theorem next_i {i : Int} {n : Nat} (h0 : 0 ≤ i) (h : i < (n : Int)) (hn : n ≤ 9223372036854775807) : wrap64 (i + 1) = i + 1 := by
  unfold wrap64; omega

/-- All of a list: what a loop that stops at the first that is not so tells. -/
theorem run_all {α : Type} (p : α → Bool) : ∀ (xs : List α) (i : Int), runIdx (fun _ x r => if p x = true then r else some false) (some true) xs i = some (xs.all p)
  | [], _ => rfl
  | x :: r, i => by
    unfold runIdx
    rw [run_all p r (i + 1), List.all_cons]
    cases h : p x <;> simp
/-- Some of a list. -/
theorem run_any {α : Type} (p : α → Bool) : ∀ (xs : List α) (i : Int), runIdx (fun _ x r => if p x = true then some true else r) (some false) xs i = some (xs.any p)
  | [], _ => rfl
  | x :: r, i => by
    unfold runIdx
    rw [run_any p r (i + 1), List.any_cons]
    cases h : p x <;> simp
/-- The first of a list that is so, counted from i; -1. -/
def firstOf {α : Type} (p : α → Bool) : List α → Int → Int
  | [], _ => -1
  | x :: r, i => if p x = true then i else firstOf p r (i + 1)
theorem run_first {α : Type} (p : α → Bool) : ∀ (xs : List α) (i : Int), runIdx (fun i x r => if p x = true then some i else r) (some (-1)) xs i = some (firstOf p xs i)
  | [], _ => rfl
  | x :: r, i => by
    unfold runIdx firstOf
    rw [run_first p r (i + 1)]
    cases h : p x <;> simp
theorem firstOf_any {α : Type} (p : α → Bool) : ∀ (xs : List α) (i : Int), 0 ≤ i → decide (firstOf p xs i ≥ 0) = xs.any p
  | [], _, _ => rfl
  | x :: r, i, h => by
    unfold firstOf
    rw [List.any_cons]
    cases hp : p x
    · simpa using firstOf_any p r (i + 1) (by omega)
    · simp [h]
theorem firstOf_bd {α : Type} (p : α → Bool) : ∀ (xs : List α) (i : Int), 0 ≤ i → -1 ≤ firstOf p xs i ∧ firstOf p xs i < i + xs.length ∨ firstOf p xs i = -1
  | [], i, h => .inr rfl
  | x :: r, i, h => by
    unfold firstOf
    split
    · simp; omega
    · rcases firstOf_bd p r (i + 1) (by omega) with ⟨h1, h2⟩ | h1
      · left; simp; omega
      · exact .inr h1

/-- A row filled by an index. -/
theorem fill_loop {α β : Type} (l : List α) (da : α) (db : β) (g : α → β) (K : Nat) (F : Nat → List β → Int → Option (List β))
    (hstep : ∀ k x i, K ≤ k → 0 ≤ i → i < (l.length : Int) → i < (x.length : Int) → F (k + 1) x i = F k (x.set i.toNat (g (l.getD i.toNat da))) (i + 1))
    (hend : ∀ k x i, (l.length : Int) ≤ i → F (k + 1) x i = some x) : ∀ (n k j : Nat), j + n = l.length → K + n < k →
      F k ((l.take j).map g ++ List.replicate n db) (j : Int) = some (l.map g)
  | 0, k, j, hj, hk => by
    obtain ⟨k, rfl⟩ : ∃ m, k = m + 1 := ⟨k - 1, by omega⟩
    rw [hend k _ _ (by omega), List.take_of_length_le (by omega)]
    simp
  | n + 1, k, j, hj, hk => by
    obtain ⟨k, rfl⟩ : ∃ m, k = m + 1 := ⟨k - 1, by omega⟩
    have hlen : ((l.take j).map g).length = j := by simp; omega
    rw [hstep k _ _ (by omega) (by omega) (by omega) (by simp; omega)]
    have h1 : ((j : Int)).toNat = j := by omega
    have hjl : j < l.length := by omega
    have h2 : ((l.take j).map g ++ List.replicate (n + 1) db).set j (g (l.getD j da)) = (l.take (j + 1)).map g ++ List.replicate n db := by
      rw [List.set_append_right _ _ (by omega), hlen, Nat.sub_self, List.replicate_succ, List.set_cons_zero, List.take_succ_eq_append_getElem hjl, List.map_append, List.append_assoc]
      have hg : l.getD j da = l[j] := by simp [List.getD, hjl]
      rw [hg]
      rfl
    have h3 : ((j : Int) + 1) = ((j + 1 : Nat) : Int) := by omega
    rw [h1, h2, h3]
    exact fill_loop l da db g K F hstep hend n k (j + 1) (by omega) (by omega)
theorem fill_all {α β : Type} (l : List α) (da : α) (db : β) (g : α → β) (K : Nat) (F : Nat → List β → Int → Option (List β))
    (hstep : ∀ k x i, K ≤ k → 0 ≤ i → i < (l.length : Int) → i < (x.length : Int) → F (k + 1) x i = F k (x.set i.toNat (g (l.getD i.toNat da))) (i + 1))
    (hend : ∀ k x i, (l.length : Int) ≤ i → F (k + 1) x i = some x) (k : Nat) (hk : K + l.length < k) : F k (List.replicate l.length db) 0 = some (l.map g) := by
  have := fill_loop l da db g K F hstep hend l.length k 0 (by omega) hk
  simpa using this

theorem run_true {α : Type} (p : α → Bool) (hp : ∀ x, p x = true) : ∀ (xs : List α) (i : Int), runIdx (fun _ x r => if p x = true then r else some false) (some true) xs i = some true
  | [], _ => rfl
  | x :: r, i => by
    unfold runIdx
    rw [run_true p hp r (i + 1), if_pos (hp x)]

theorem sz_waits (l : List S58) (n : Int) (h0 : 0 ≤ n) (h1 : n ≤ 1048576) (hl : l.length ≤ 9223372036854775807) : laws_szWaitS.f l n = some (if (l.length : Int) ≤ n then n - l.length else -1) := by
  have e : wrap64 (n - (l.length : Int)) = n - l.length := by unfold wrap64; omega
  unfold laws_szWaitS.f
  rw [e]
  by_cases h : (l.length : Int) ≤ n
  · rw [if_neg (by omega), if_pos h]
  · rw [if_pos (by omega), if_neg h]
def toW (x : S58) : S60 := ⟨x.f0, x.f1, x.f2, x.f3⟩
theorem to_waits (l : List S58) (hl : l.length ≤ 1048576) (k : Nat) (hk : l.length < k) : laws_toWaitS.f k l = some (l.map toW) := by
  unfold laws_toWaitS.f
  have e : ((l.length : Int)).toNat = l.length := by omega
  rw [if_pos (by omega), if_pos (by omega), e]
  exact fill_all l z58 z60 toW 0 (fun k x i => laws_toWaitS.l0 k l x i) (by
    intro k x i _ h0 h1 h2
    simp only [laws_toWaitS.l0]
    unfold laws_toWait.f
    rw [if_pos h1, if_pos h0, Option.bind_some, if_pos h2, next_i h0 h1 (by omega)]
    rfl) (by
    intro k x i h
    simp only [laws_toWaitS.l0]
    rw [if_neg (by omega)]) k (by omega)
theorem eq_waits (l : List S60) (hl : l.length ≤ 2000000) (k : Nat) (hk : l.length < k) : laws_eqWaitS.f k l l = some true := by
  unfold laws_eqWaitS.f
  rw [if_pos rfl, loop_all l z60 0 (fun k i => laws_eqWaitS.l0 k l l i) (fun _ x r => if true = true then r else some false) (some true) (by
    intro k i _ h0 h1
    show laws_eqWaitS.l0 (k + 1) l l i = _
    simp only [laws_eqWaitS.l0]
    unfold laws_eqWait.f
    rw [if_pos h1, if_pos h0, if_pos h1, if_pos rfl, if_pos rfl, if_pos rfl, if_pos rfl, Option.bind_some, if_pos rfl, next_i h0 h1 (by omega), if_pos trivial]) (by
    intro k i _ h
    show laws_eqWaitS.l0 (k + 1) l l i = _
    simp only [laws_eqWaitS.l0]
    rw [if_neg (by omega)]) k (by omega), run_true (fun _ : S60 => true) (fun x => rfl)]

theorem eq_waits_big (l : List S60) (hl : l.length ≤ 3000000) (k : Nat) (hk : l.length < k) : laws_eqWaitS.f k l l = some true := by
  unfold laws_eqWaitS.f
  rw [if_pos rfl, loop_all l z60 0 (fun k i => laws_eqWaitS.l0 k l l i) (fun _ x r => if true = true then r else some false) (some true) (by
    intro k i _ h0 h1
    show laws_eqWaitS.l0 (k + 1) l l i = _
    simp only [laws_eqWaitS.l0]
    unfold laws_eqWait.f
    rw [if_pos h1, if_pos h0, if_pos h1, if_pos rfl, if_pos rfl, if_pos rfl, if_pos rfl, Option.bind_some, if_pos rfl, next_i h0 h1 (by omega), if_pos trivial]) (by
    intro k i _ h
    show laws_eqWaitS.l0 (k + 1) l l i = _
    simp only [laws_eqWaitS.l0]
    rw [if_neg (by omega)]) k (by omega), run_true (fun _ : S60 => true) (fun x => rfl)]

theorem set_mid {α : Type} (p : List α) (x y : α) (r : List α) : (p ++ x :: r).set p.length y = p ++ y :: r := by
  rw [List.set_append_right _ _ (Nat.le_refl _), Nat.sub_self, List.set_cons_zero]
theorem get_mid {α : Type} (p : List α) (x d : α) (r : List α) : (p ++ x :: r).getD p.length d = x := by
  simp [List.getD]

def mkW : Nat → Int → List S60
  | 0, _ => []
  | m + 1, n => ⟨n, n + 1, n + 2, n + 3⟩ :: mkW m (n + 4)
theorem mkW_len : ∀ (m : Nat) (n : Int), (mkW m n).length = m
  | 0, _ => rfl
  | m + 1, n => by simp [mkW, mkW_len m]
theorem w1 (n : Int) (h0 : 0 ≤ n) (h1 : n ≤ 1000000000) : wrap64 (n + 1) = n + 1 := by unfold wrap64; omega
theorem mark_waits_loop : ∀ (r p : List S60) (n : Int) (k : Nat), 0 ≤ n → n + 4 * (r.length : Int) ≤ 1000000000 → p.length + r.length ≤ 1000000000 → r.length < k →
    laws_markWaitS.l0 k (p ++ r) n (p.length : Int) = some (n + 4 * r.length, p ++ mkW r.length n)
  | [], p, n, k, h0, h1, h2, hk => by
    obtain ⟨k, rfl⟩ : ∃ m, k = m + 1 := ⟨k - 1, by omega⟩
    simp only [laws_markWaitS.l0, List.length_nil]
    rw [if_neg (by simp)]
    simp [mkW]
  | x :: r, p, n, k, h0, h1, h2, hk => by
    simp only [List.length_cons] at h1 h2 hk
    obtain ⟨k, rfl⟩ : ∃ m, k = m + 1 := ⟨k - 1, by omega⟩
    have e1 : ((p.length : Int)).toNat = p.length := by omega
    have rdm : ∀ y, rd_T60 (p ++ y :: r) (p.length : Int) = y := fun y => by unfold rd_T60; rw [e1]; exact get_mid p y _ r
    have e3 : ∀ y : S60, wrap64 ((p.length : Int) + 1) = ((p ++ [y]).length : Int) := fun y => by rw [List.length_append]; simp only [List.length_singleton]; unfold wrap64; omega
    have e4 : ∀ y : S60, p ++ y :: r = (p ++ [y]) ++ r := fun y => by simp
    have a1 := w1 n h0 (by omega)
    have a2 : wrap64 (n + 1 + 1) = n + 2 := by rw [w1 (n + 1) (by omega) (by omega)]; omega
    have a3 : wrap64 (n + 2 + 1) = n + 3 := by rw [w1 (n + 2) (by omega) (by omega)]; omega
    have a4 : wrap64 (n + 3 + 1) = n + 4 := by rw [w1 (n + 3) (by omega) (by omega)]; omega
    simp only [laws_markWaitS.l0]
    rw [if_pos (by simp; omega), if_pos (by omega), e1, rdm, set_mid, Option.bind_some, rdm, set_mid, Option.bind_some, rdm, set_mid, Option.bind_some, rdm, set_mid, a1, a2, a3, a4]
    dsimp only
    rw [e3 ⟨n, n + 1, n + 2, n + 3⟩, e4, mark_waits_loop r _ (n + 4) k (by omega) (by omega) (by rw [List.length_append, List.length_singleton]; omega) (by omega)]
    simp only [mkW, List.length_cons, List.append_assoc, List.cons_append, List.nil_append, Option.some.injEq, Prod.mk.injEq, and_true]
    omega
theorem mark_waits (l : List S60) (n : Int) (h0 : 0 ≤ n) (h1 : n + 4 * (l.length : Int) ≤ 1000000000) (k : Nat) (hk : l.length < k) : laws_markWaitS.f k l n = some (n + 4 * l.length, mkW l.length n) := by
  have := mark_waits_loop l [] n k h0 h1 (by simp; omega) hk
  simpa [laws_markWaitS.f] using this
theorem held_waits_loop (L : List S60) (hL : L.length ≤ 1000000000) : ∀ (m : Nat) (c i : Int) (k : Nat), 0 ≤ i → L.drop i.toNat = mkW m c → 0 ≤ c → c + 4 * m ≤ 1000000000 → m < k → laws_heldWaitS.l0 k L c i = some (c + 4 * m)
  | 0, c, i, k, h0, hd, hc, hb, hk => by
    obtain ⟨k, rfl⟩ : ∃ m, k = m + 1 := ⟨k - 1, by omega⟩
    have := List.drop_eq_nil_iff.1 hd
    simp only [laws_heldWaitS.l0]
    rw [if_neg (by omega)]
    simp
  | m + 1, c, i, k, h0, hd, hc, hb, hk => by
    obtain ⟨k, rfl⟩ : ∃ m, k = m + 1 := ⟨k - 1, by omega⟩
    have hlt : i < (L.length : Int) := by
      apply Decidable.byContradiction
      intro hn
      rw [List.drop_eq_nil_of_le (by omega)] at hd
      cases hd
    rw [drop_at L z60 i h0 hlt] at hd
    injection hd with hx hr
    have hx' : rd_T60 L i = ⟨c, c + 1, c + 2, c + 3⟩ := hx
    have a1 := w1 c hc (by omega)
    have a2 : wrap64 (c + 1 + 1) = c + 2 := by rw [w1 (c + 1) (by omega) (by omega)]; omega
    have a3 : wrap64 (c + 2 + 1) = c + 3 := by rw [w1 (c + 2) (by omega) (by omega)]; omega
    have a4 : wrap64 (c + 3 + 1) = c + 4 := by rw [w1 (c + 3) (by omega) (by omega)]; omega
    simp only [laws_heldWaitS.l0]
    rw [if_pos hlt, if_pos h0, hx', a1, a2, a3, a4]
    dsimp only
    rw [if_pos rfl, if_pos rfl, if_pos rfl, if_pos rfl, next_i h0 hlt (by omega), held_waits_loop L hL m (c + 4) (i + 1) k (by omega) hr (by omega) (by omega) (by omega)]
    simp only [Option.some.injEq]; omega
theorem held_waits (m : Nat) (n : Int) (h0 : 0 ≤ n) (h1 : n + 4 * (m : Int) ≤ 1000000000) (k : Nat) (hk : m < k) : laws_heldWaitS.f k (mkW m n) n = some (n + 4 * m) :=
  held_waits_loop (mkW m n) (by rw [mkW_len]; omega) m n 0 k (by omega) rfl h0 h1 hk

def addGo (l : List S60) (a b c d : Int) : List S60 → List S60 → List S60
  | [], r => r ++ [⟨a, b, c, d⟩]
  | x :: xs, r => if x.f0 = a then (if (x.f1 == b) = true then l else addGo l a b c d xs r) else addGo l a b c d xs (r ++ [x])
theorem addGo_len (l : List S60) (a b c d : Int) : ∀ (xs r : List S60), (addGo l a b c d xs r).length ≤ l.length + r.length + xs.length + 1
  | [], r => by
    simp only [addGo, List.length_append, List.length_cons, List.length_nil]
    omega
  | x :: xs, r => by
    unfold addGo
    rw [List.length_cons]
    have h1 := addGo_len l a b c d xs r
    have h2 := addGo_len l a b c d xs (r ++ [x])
    rw [List.length_append, List.length_singleton] at h2
    split
    · split <;> omega
    · omega
theorem addGo_cons (l : List S60) (a b c d : Int) (x : S60) (xs r : List S60) : addGo l a b c d (x :: xs) r = if x.f0 = a then (if (x.f1 == b) = true then l else addGo l a b c d xs r) else addGo l a b c d xs (r ++ [x]) := rfl
theorem mk_eta (x : S60) : (⟨x.f0, x.f1, x.f2, x.f3⟩ : S60) = x := rfl
theorem spec_add_loop (l : List S60) (hl : l.length ≤ 1048576) (a b c d : Int) : ∀ (n : Nat) (i : Int) (r : List S60) (k : Nat), 0 ≤ i → i + n = l.length → (r.length : Int) ≤ i → 2 * n + 1 < k →
    spec_AddWait.l0 k l r i a b c d = some (addGo l a b c d (l.drop i.toNat) r)
  | 0, i, r, k, h0, h1, hr, hk => by
    obtain ⟨k, rfl⟩ : ∃ m, k = m + 1 := ⟨k - 1, by omega⟩
    rw [List.drop_eq_nil_of_le (by omega)]
    simp only [spec_AddWait.l0]
    rw [if_neg (by omega), if_pos (by omega)]
    rfl
  | n + 1, i, r, k, h0, h1, hr, hk => by
    have hlt : i < (l.length : Int) := by omega
    obtain ⟨k, rfl⟩ : ∃ m, k = m + 2 := ⟨k - 2, by omega⟩
    have e : rd_T60 l i = l.getD i.toNat z60 := rfl
    have ih0 := spec_add_loop l hl a b c d n (i + 1) r k (by omega) (by omega) (by omega) (by omega)
    have ih1 := spec_add_loop l hl a b c d n (i + 1) (r ++ [l.getD i.toNat z60]) k (by omega) (by omega) (by rw [List.length_append, List.length_singleton]; omega) (by omega)
    rw [drop_at l z60 i h0 hlt]
    simp only [spec_AddWait.l0, spec_AddWait.j1]
    rw [if_pos hlt, if_pos h0, if_pos h0, if_pos hlt, e, next_i h0 hlt (by omega), mk_eta, ih0, ih1, if_pos (by omega : r.length < 4398046511104), Option.bind_some, if_pos (by simp only [List.length_nil]; omega : ([] : List S60).length + l.length < 4398046511104)]
    rw [addGo_cons]
    generalize l.getD i.toNat z60 = x
    by_cases h : x.f0 = a
    · rw [if_pos h, if_pos h, if_pos h]
      by_cases h2 : (x.f1 == b) = true
      · rw [if_pos h2, if_pos h2]; rfl
      · rw [if_neg h2, if_neg h2]
    · simp [h]
theorem impl_add_loop (l : List S60) (hl : l.length ≤ 1048576) (a b c d : Int) : ∀ (n : Nat) (i : Int) (r : List S60) (k : Nat), 0 ≤ i → i + n = l.length → (r.length : Int) ≤ i → 2 * n + 1 < k →
    impl_AddWait.l0 k l r l (l.length : Int) i a b c d = some (addGo l a b c d (l.drop i.toNat) r)
  | 0, i, r, k, h0, h1, hr, hk => by
    obtain ⟨k, rfl⟩ : ∃ m, k = m + 1 := ⟨k - 1, by omega⟩
    rw [List.drop_eq_nil_of_le (by omega)]
    simp only [impl_AddWait.l0]
    rw [if_neg (by omega), if_pos (by omega)]
    rfl
  | n + 1, i, r, k, h0, h1, hr, hk => by
    have hlt : i < (l.length : Int) := by omega
    obtain ⟨k, rfl⟩ : ∃ m, k = m + 2 := ⟨k - 2, by omega⟩
    have e : rd_T60 l i = l.getD i.toNat z60 := rfl
    have ih0 := impl_add_loop l hl a b c d n (i + 1) r k (by omega) (by omega) (by omega) (by omega)
    have ih1 := impl_add_loop l hl a b c d n (i + 1) (r ++ [l.getD i.toNat z60]) k (by omega) (by omega) (by rw [List.length_append, List.length_singleton]; omega) (by omega)
    have hc : slices_Clone_impl_Wait.f l = some l := by
      unfold slices_Clone_impl_Wait.f
      rw [Option.bind_some, if_pos (by simp; omega)]
      rfl
    rw [drop_at l z60 i h0 hlt]
    simp only [impl_AddWait.l0, impl_AddWait.j1]
    rw [if_pos hlt, if_pos h0, if_pos hlt, e, next_i h0 hlt (by omega), mk_eta, ih0, ih1, if_pos (by omega : r.length < 4398046511104), hc, Option.bind_some]
    rw [addGo_cons]
    generalize l.getD i.toNat z60 = x
    by_cases h : x.f0 = a
    · rw [if_pos h, if_pos h, if_pos h]
      by_cases h2 : (x.f1 == b) = true
      · rw [if_pos h2, if_pos h2]
      · rw [if_neg h2, if_neg h2]
    · simp [h]
def addM (l : List S60) (a b c d : Int) : List S60 := addGo l a b c d l []
theorem spec_add (l : List S60) (hl : l.length ≤ 1048576) (a b c d : Int) (k : Nat) (hk : 3000000 ≤ k) : spec_AddWait.f k l a b c d = some (addM l a b c d) := by
  unfold spec_AddWait.f addM
  rw [spec_add_loop l hl a b c d l.length 0 [] k (by omega) (by omega) (by simp) (by omega)]
  rfl
theorem impl_add (l : List S60) (hl : l.length ≤ 1048576) (a b c d : Int) (k : Nat) (hk : 3000000 ≤ k) : impl_AddWait.f k l a b c d = some (addM l a b c d) := by
  unfold impl_AddWait.f addM
  rw [impl_add_loop l hl a b c d l.length 0 [] k (by omega) (by omega) (by simp) (by omega)]
  rfl
theorem addM_len (l : List S60) (hl : l.length ≤ 1048576) (a b c d : Int) : (addM l a b c d).length ≤ 2097153 := by
  unfold addM
  have := addGo_len l a b c d l []
  simp only [List.length_nil] at this
  omega

theorem law_j (l : List S58) (a b c d : Int) (R : List S60) (hl : l.length ≤ 1048576) (hR : R.length ≤ 2097153) (k : Nat) (hk : 4000000 ≤ k) (hi : impl_AddWait.f k (l.map toW) a b c d = some R) : laws_FnExactAddWait.j0 (k + 1) l R R false a b c d = some true := by
  have ht : laws_toWait.f a b c d = some (a, b, c, d) := rfl
  simp only [laws_FnExactAddWait.j0]
  rw [if_neg (by simp), mark_waits R 1 (by omega) (by omega) k (by omega), Option.bind_some, held_waits R.length 1 (by omega) (by omega) k (by omega), Option.bind_some, if_neg (by omega), if_pos rfl, to_waits l hl k (by omega), Option.bind_some, ht, Option.bind_some]
  dsimp only
  rw [hi, Option.bind_some, eq_waits_big R (by omega) k (by omega), Option.bind_some, if_pos rfl, Option.bind_some, if_neg (by omega), if_pos rfl]
theorem law_f (l : List S58) (a b c d : Int) (hl : l.length ≤ 9223372036854775807) (k : Nat) (hk : 4000001 ≤ k) : laws_FnExactAddWait.f k l a b c d = some true := by
  obtain ⟨k, rfl⟩ : ∃ m, k = m + 1 := ⟨k - 1, by omega⟩
  have ht : laws_toWait.f a b c d = some (a, b, c, d) := rfl
  unfold laws_FnExactAddWait.f
  rw [sz_waits l 1048576 (by omega) (by omega) hl, Option.bind_some]
  by_cases hb : (l.length : Int) ≤ 1048576
  · have h1 : l.length ≤ 1048576 := by omega
    have h1' : (l.map toW).length ≤ 1048576 := by rw [List.length_map]; exact h1
    have hR := addM_len (l.map toW) h1' a b c d
    have hi := impl_add (l.map toW) h1' a b c d k (by omega)
    rw [if_pos hb, if_neg (by omega), to_waits l h1 (k + 1) (by omega), Option.bind_some, ht, Option.bind_some]
    dsimp only
    rw [spec_add (l.map toW) h1' a b c d (k + 1) (by omega), Option.bind_some, Option.bind_some, Option.bind_some, impl_add (l.map toW) h1' a b c d (k + 1) (by omega), Option.bind_some]
    generalize addM (l.map toW) a b c d = R at hR hi ⊢
    rw [eq_waits_big R (by omega) (k + 1) (by omega), Option.bind_some, if_pos rfl, Option.bind_some, eq_waits (l.map toW) (by omega) (k + 1) (by omega), Option.bind_some, if_pos rfl, mark_waits (l.map toW) 1 (by omega) (by omega) (k + 1) (by omega), Option.bind_some, if_neg (by omega), Option.bind_some]
    exact law_j l a b c d R h1 hR k (by omega) hi
  · rw [if_neg hb, if_pos (by omega)]

theorem FnExactAddWait : laws_FnExactAddWait.Pure := by
  intro l a b c d hl _ _ _ _
  exact ⟨4000001, law_f l a b c d hl.1 _ (Nat.le_refl _)⟩


end Go.Proofs.Ytbbknoaceccgmaa.Pure
