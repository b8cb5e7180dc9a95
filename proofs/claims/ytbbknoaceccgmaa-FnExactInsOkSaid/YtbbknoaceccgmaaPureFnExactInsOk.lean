/- InsOk of the program returns what the reference's returns, for every place of the machine. Conditions: none beyond the row's own. -/
import Derived.Test.YtbbknoaceccgmaaXFnExactInsOkx4
namespace Go.Proofs.Ytbbknoaceccgmaa.Pure
open Go.RowKit Go.Proofs.Ytbbknoaceccgmaa.XFnExactInsOk Go.Proofs.YtbbknoaceccgmaaW.PrintWords Go.Proofs.YtbbknoaceccgmaaW.PrintLast Go.Proofs.YtbbknoaceccgmaaW.PrintMore
set_option linter.unusedVariables false
set_option linter.unusedSimpArgs false

/-! Loops over a list by an index, told once. -/
/-- A loop over a list: at each element B, with what follows; at the end e. -/
def runIdx {α β : Type} (B : Int → α → Option β → Option β) (e : Option β) : List α → Int → Option β
  | [], _ => e
  | x :: r, i => B i x (runIdx B e r (i + 1))
theorem drop_at {α : Type} (xs : List α) (d : α) (i : Int) (h0 : 0 ≤ i) (h : i < (xs.length : Int)) : xs.drop i.toNat = xs.getD i.toNat d :: xs.drop (i + 1).toNat := by
  have hi : i.toNat < xs.length := by omega
  have h1 : (i + 1).toNat = i.toNat + 1 := by omega
  rw [h1, List.drop_eq_getElem_cons hi]
  congr 1
  simp [List.getD, hi]
theorem loop_list {α β : Type} (xs : List α) (d : α) (K : Nat) (F : Nat → Int → Option β) (B : Int → α → Option β → Option β) (e : Option β)
    (hstep : ∀ k i, K ≤ k → 0 ≤ i → i < (xs.length : Int) → F (k + 1) i = B i (xs.getD i.toNat d) (F k (i + 1)))
    (hend : ∀ k i, K ≤ k → (xs.length : Int) ≤ i → F (k + 1) i = e) : ∀ (n k : Nat) (i : Int), 0 ≤ i → (xs.length : Int) - i = n → K + n < k → F k i = runIdx B e (xs.drop i.toNat) i
  | 0, k, i, h0, hn, hk => by
    obtain ⟨k, rfl⟩ : ∃ m, k = m + 1 := ⟨k - 1, by omega⟩
    rw [hend k i (by omega) (by omega), List.drop_eq_nil_of_le (by omega)]
    rfl
  | n + 1, k, i, h0, hn, hk => by
    obtain ⟨k, rfl⟩ : ∃ m, k = m + 1 := ⟨k - 1, by omega⟩
    have hlt : i < (xs.length : Int) := by omega
    rw [hstep k i (by omega) h0 hlt, loop_list xs d K F B e hstep hend n k (i + 1) (by omega) (by omega) (by omega), drop_at xs d i h0 hlt]
    rfl
theorem loop_all {α β : Type} (xs : List α) (d : α) (K : Nat) (F : Nat → Int → Option β) (B : Int → α → Option β → Option β) (e : Option β)
    (hstep : ∀ k i, K ≤ k → 0 ≤ i → i < (xs.length : Int) → F (k + 1) i = B i (xs.getD i.toNat d) (F k (i + 1)))
    (hend : ∀ k i, K ≤ k → (xs.length : Int) ≤ i → F (k + 1) i = e) (k : Nat) (hk : K + xs.length < k) : F k 0 = runIdx B e xs 0 :=
  loop_list xs d K F B e hstep hend xs.length k 0 (by omega) (by omega) (by omega)

/-- The same with a state. -/
def runSt {α β σ : Type} (B : Int → α → σ → (σ → Option β) → Option β) (e : σ → Option β) : List α → Int → σ → Option β
  | [], _, s => e s
  | x :: r, i, s => B i x s (fun s' => runSt B e r (i + 1) s')
theorem loop_st {α β σ : Type} (xs : List α) (d : α) (K : Nat) (F : Nat → Int → σ → Option β) (B : Int → α → σ → (σ → Option β) → Option β) (e : σ → Option β)
    (hstep : ∀ k i s, K ≤ k → 0 ≤ i → i < (xs.length : Int) → F (k + 1) i s = B i (xs.getD i.toNat d) s (fun s' => F k (i + 1) s'))
    (hend : ∀ k i s, K ≤ k → (xs.length : Int) ≤ i → F (k + 1) i s = e s) : ∀ (n k : Nat) (i : Int) (s : σ), 0 ≤ i → (xs.length : Int) - i = n → K + n < k → F k i s = runSt B e (xs.drop i.toNat) i s
  | 0, k, i, s, h0, hn, hk => by
    obtain ⟨k, rfl⟩ : ∃ m, k = m + 1 := ⟨k - 1, by omega⟩
    rw [hend k i s (by omega) (by omega), List.drop_eq_nil_of_le (by omega)]
    rfl
  | n + 1, k, i, s, h0, hn, hk => by
    obtain ⟨k, rfl⟩ : ∃ m, k = m + 1 := ⟨k - 1, by omega⟩
    have hlt : i < (xs.length : Int) := by omega
    rw [hstep k i s (by omega) h0 hlt, drop_at xs d i h0 hlt]
    show _ = B i _ s _
    congr 1
    funext s'
    exact loop_st xs d K F B e hstep hend n k (i + 1) s' (by omega) (by omega) (by omega)

theorem next_i {i : Int} {n : Nat} (h0 : 0 ≤ i) (h : i < (n : Int)) (hn : n ≤ 9223372036854775807) : wrap64 (i + 1) = i + 1 := by
  unfold wrap64; omega

/-- All of a list: what a loop that stops at the first that is not so tells. -/
theorem run_all {α : Type} (p : α → Bool) : ∀ (xs : List α) (i : Int), runIdx (fun _ x r => if p x = true then r else some false) (some true) xs i = some (xs.all p)
  | [], _ => rfl
  | x :: r, i => by
    unfold runIdx
    rw [run_all p r (i + 1), List.all_cons]
    cases h : p x <;> simp
/-- Some of a list. -/
theorem run_any {α : Type} (p : α → Bool) : ∀ (xs : List α) (i : Int), runIdx (fun _ x r => if p x = true then some true else r) (some false) xs i = some (xs.any p)
  | [], _ => rfl
  | x :: r, i => by
    unfold runIdx
    rw [run_any p r (i + 1), List.any_cons]
    cases h : p x <;> simp
/-- The first of a list that is so, counted from i; -1. -/
def firstOf {α : Type} (p : α → Bool) : List α → Int → Int
  | [], _ => -1
  | x :: r, i => if p x = true then i else firstOf p r (i + 1)
theorem run_first {α : Type} (p : α → Bool) : ∀ (xs : List α) (i : Int), runIdx (fun i x r => if p x = true then some i else r) (some (-1)) xs i = some (firstOf p xs i)
  | [], _ => rfl
  | x :: r, i => by
    unfold runIdx firstOf
    rw [run_first p r (i + 1)]
    cases h : p x <;> simp
theorem firstOf_any {α : Type} (p : α → Bool) : ∀ (xs : List α) (i : Int), 0 ≤ i → decide (firstOf p xs i ≥ 0) = xs.any p
  | [], _, _ => rfl
  | x :: r, i, h => by
    unfold firstOf
    rw [List.any_cons]
    cases hp : p x
    · simpa using firstOf_any p r (i + 1) (by omega)
    · simp [h]
theorem firstOf_bd {α : Type} (p : α → Bool) : ∀ (xs : List α) (i : Int), 0 ≤ i → -1 ≤ firstOf p xs i ∧ firstOf p xs i < i + xs.length ∨ firstOf p xs i = -1
  | [], i, h => .inr rfl
  | x :: r, i, h => by
    unfold firstOf
    split
    · simp; omega
    · rcases firstOf_bd p r (i + 1) (by omega) with ⟨h1, h2⟩ | h1
      · left; simp; omega
      · exact .inr h1

/-- A row filled by an index. -/
theorem fill_loop {α β : Type} (l : List α) (da : α) (db : β) (g : α → β) (K : Nat) (F : Nat → List β → Int → Option (List β))
    (hstep : ∀ k x i, K ≤ k → 0 ≤ i → i < (l.length : Int) → i < (x.length : Int) → F (k + 1) x i = F k (x.set i.toNat (g (l.getD i.toNat da))) (i + 1))
    (hend : ∀ k x i, (l.length : Int) ≤ i → F (k + 1) x i = some x) : ∀ (n k j : Nat), j + n = l.length → K + n < k →
      F k ((l.take j).map g ++ List.replicate n db) (j : Int) = some (l.map g)
  | 0, k, j, hj, hk => by
    obtain ⟨k, rfl⟩ : ∃ m, k = m + 1 := ⟨k - 1, by omega⟩
    rw [hend k _ _ (by omega), List.take_of_length_le (by omega)]
    simp
  | n + 1, k, j, hj, hk => by
    obtain ⟨k, rfl⟩ : ∃ m, k = m + 1 := ⟨k - 1, by omega⟩
    have hlen : ((l.take j).map g).length = j := by simp; omega
    rw [hstep k _ _ (by omega) (by omega) (by omega) (by simp; omega)]
    have h1 : ((j : Int)).toNat = j := by omega
    have hjl : j < l.length := by omega
    have h2 : ((l.take j).map g ++ List.replicate (n + 1) db).set j (g (l.getD j da)) = (l.take (j + 1)).map g ++ List.replicate n db := by
      rw [List.set_append_right _ _ (by omega), hlen, Nat.sub_self, List.replicate_succ, List.set_cons_zero, List.take_succ_eq_append_getElem hjl, List.map_append, List.append_assoc]
      have hg : l.getD j da = l[j] := by simp [List.getD, hjl]
      rw [hg]
      rfl
    have h3 : ((j : Int) + 1) = ((j + 1 : Nat) : Int) := by omega
    rw [h1, h2, h3]
    exact fill_loop l da db g K F hstep hend n k (j + 1) (by omega) (by omega)
theorem fill_all {α β : Type} (l : List α) (da : α) (db : β) (g : α → β) (K : Nat) (F : Nat → List β → Int → Option (List β))
    (hstep : ∀ k x i, K ≤ k → 0 ≤ i → i < (l.length : Int) → i < (x.length : Int) → F (k + 1) x i = F k (x.set i.toNat (g (l.getD i.toNat da))) (i + 1))
    (hend : ∀ k x i, (l.length : Int) ≤ i → F (k + 1) x i = some x) (k : Nat) (hk : K + l.length < k) : F k (List.replicate l.length db) 0 = some (l.map g) := by
  have := fill_loop l da db g K F hstep hend l.length k 0 (by omega) hk
  simpa using this

theorem toList_data (s : ByteArray) : s.toList = s.data.toList := ByteArray.toList_eq s
theorem size_data (s : ByteArray) : s.size = s.data.toList.length := Array.length_toList.symm
/-- A text's bytes from a place on: the first of them, and the rest. -/
theorem bt_drop (s : ByteArray) (i : Int) (h0 : 0 ≤ i) {c : UInt8} {r : List UInt8} (h : s.data.toList.drop i.toNat = c :: r) :
    bt s i = (c.toNat : Int) ∧ i < (s.size : Int) ∧ s.data.toList.drop (i + 1).toNat = r := by
  have hl : i.toNat < s.data.toList.length := by
    apply Decidable.byContradiction
    intro hn
    rw [List.drop_eq_nil_of_le (by omega)] at h
    cases h
  have hs : i.toNat < s.size := by
    have : s.size = s.data.toList.length := size_data s
    omega
  rw [List.drop_eq_getElem_cons hl] at h
  injection h with h1 h2
  refine ⟨?_, by omega, ?_⟩
  · unfold bt
    rw [dif_pos hs, ← h1]
    rfl
  · rw [← h2]
    congr 1
    omega
theorem drop_end (s : ByteArray) (i : Int) (h0 : 0 ≤ i) (h : s.data.toList.drop i.toNat = []) : ¬ i < (s.size : Int) := by
  have h1 := List.drop_eq_nil_iff.1 h
  have : s.size = s.data.toList.length := size_data s
  omega


/-- Is it a word. -/
def wok (x : Int) : Bool := decide (-2147483648 ≤ x ∧ x ≤ 2147483647)
theorem spec_wordok (x : Int) : spec_WordOk.f x = some (wok x) := by
  unfold spec_WordOk.f spec_l1In.f wok
  by_cases h : x ≥ -2147483648
  · have h' : -2147483648 ≤ x := h
    rw [if_pos h, Option.bind_some]; simp [h']
  · have h' : ¬ -2147483648 ≤ x := h
    rw [if_neg h, Option.bind_some]; simp [h']
theorem impl_wordok (x : Int) : impl_WordOk.f x = some (wok x) := by
  unfold impl_WordOk.f impl_within.f wok
  by_cases h : x ≥ -2147483648
  · have h' : -2147483648 ≤ x := h
    rw [if_pos h, Option.bind_some]; simp [h']
  · have h' : ¬ -2147483648 ≤ x := h
    rw [if_neg h, Option.bind_some]; simp [h']
theorem wok_iff (x : Int) : wok x = true ↔ -2147483648 ≤ x ∧ x ≤ 2147483647 := by unfold wok; simp

/-- What an op has, as letters. -/
def hasL (op : Int) : List UInt8 := if op = 1 then [82, 78] else if op = 2 then [82, 65] else if op = 3 ∨ op = 4 ∨ op = 5 ∨ op = 6 ∨ op = 7 ∨ op = 10 then [82, 65, 66] else if op = 8 then [82, 65, 78] else if op = 9 then [65, 66, 78] else if op = 11 then [78] else if op = 12 then [65, 78] else if op = 13 then [78, 77] else if op = 14 then [45] else if op = 15 ∨ op = 19 then [65] else if op = 16 ∨ op = 17 then [65, 66] else if op = 18 then [82] else []
theorem op_cases (op : Int) : op = 1 ∨ op = 2 ∨ op = 3 ∨ op = 4 ∨ op = 5 ∨ op = 6 ∨ op = 7 ∨ op = 8 ∨ op = 9 ∨ op = 10 ∨ op = 11 ∨ op = 12 ∨ op = 13 ∨ op = 14 ∨ op = 15 ∨ op = 16 ∨ op = 17 ∨ op = 18 ∨ op = 19 ∨ (op < 1 ∨ 19 < op) := by omega
theorem impl_has_tells (op : Int) (k : Nat) (hk : 4 ≤ k) : impl_has.f k op = some ⟨(hasL op).toArray⟩ := by
  obtain ⟨k, rfl⟩ : ∃ m, k = m + 4 := ⟨k - 4, by omega⟩
  rcases op_cases op with h | h | h | h | h | h | h | h | h | h | h | h | h | h | h | h | h | h | h | h
  case inr.inr.inr.inr.inr.inr.inr.inr.inr.inr.inr.inr.inr.inr.inr.inr.inr.inr.inr =>
    have n1 : ¬ op = 1 := by omega
    have n2 : ¬ op = 2 := by omega
    have n3 : ¬ op = 3 := by omega
    have n4 : ¬ op = 4 := by omega
    have n5 : ¬ op = 5 := by omega
    have n6 : ¬ op = 6 := by omega
    have n7 : ¬ op = 7 := by omega
    have n8 : ¬ op = 8 := by omega
    have n9 : ¬ op = 9 := by omega
    have n10 : ¬ op = 10 := by omega
    have n11 : ¬ op = 11 := by omega
    have n12 : ¬ op = 12 := by omega
    have n13 : ¬ op = 13 := by omega
    have n14 : ¬ op = 14 := by omega
    have n15 : ¬ op = 15 := by omega
    have n16 : ¬ op = 16 := by omega
    have n17 : ¬ op = 17 := by omega
    have n18 : ¬ op = 18 := by omega
    have n19 : ¬ op = 19 := by omega
    simp [impl_has.f, impl_has.j0, impl_has.j1, impl_has.j2, hasL, n1, n2, n3, n4, n5, n6, n7, n8, n9, n10, n11, n12, n13, n14, n15, n16, n17, n18, n19]
  all_goals (subst h; rfl)

/-- What an op has, as the reference numbers it: R 1, A 2, B 4, N 8, M 16. -/
def hasN (op : Int) : Int := if 1 ≤ op ∧ op ≤ 19 then rd [0, 9, 3, 7, 7, 7, 7, 7, 11, 14, 7, 8, 10, 24, 0, 2, 6, 6, 1, 2] op else 0
theorem spec_in (x lo hi : Int) : spec_l1In.f x lo hi = some (decide (lo ≤ x ∧ x ≤ hi)) := by
  unfold spec_l1In.f
  by_cases h : x ≥ lo
  · have h' : lo ≤ x := h
    rw [if_pos h]; simp [h']
  · have h' : ¬ lo ≤ x := h
    rw [if_neg h]; simp [h']
theorem spec_has_tells (op : Int) : spec_l2Has.f op = some (hasN op) := by
  unfold spec_l2Has.f hasN
  rw [spec_in, Option.bind_some]
  by_cases h : 1 ≤ op ∧ op ≤ 19
  · rw [if_pos (decide_eq_true h), if_pos h, Option.bind_some, if_pos (by omega), if_pos (by simp; omega)]
  · rw [if_neg (by simp; omega), if_neg h]

theorem impl_in (x lo hi : Int) : impl_within.f x lo hi = some (decide (lo ≤ x ∧ x ≤ hi)) := by
  unfold impl_within.f
  by_cases h : x ≥ lo
  · have h' : lo ≤ x := h
    rw [if_pos h]; simp [h']
  · have h' : ¬ lo ≤ x := h
    rw [if_neg h]; simp [h']
/-- Is it a register. -/
def reg (x : Int) : Bool := decide (0 ≤ x ∧ x ≤ 5)
theorem impl_reg (x : Int) : impl_isReg.f x = some (reg x) := by
  unfold impl_isReg.f reg
  rw [impl_in, Option.bind_some]

/-- The program's look at a place, letter by letter. -/
def insRun (op r a b n m : Int) : List UInt8 → Bool → Int → Int → Int → Int → Int → Bool
  | [], ok, r', a', b', n', m' => ok && (r' == 0 && (a' == 0 && (b' == 0 && (n' == 0 && (m' == 0)))))
  | c :: t, ok, r', a', b', n', m' =>
    if c = 82 then insRun op r a b n m t (ok && reg r) 0 a' b' n' m'
    else if c = 65 then insRun op r a b n m t (ok && (reg a || (a == 6 && (op == 8 || op == 9)))) r' 0 b' n' m'
    else if c = 66 then insRun op r a b n m t (ok && reg b) r' a' 0 n' m'
    else if c = 78 then insRun op r a b n m t (ok && wok n) r' a' b' 0 m'
    else if c = 77 then insRun op r a b n m t (ok && decide (0 ≤ m ∧ m ≤ 60)) r' a' b' n' 0
    else insRun op r a b n m t ok r' a' b' n' m'

theorem byte_is (c : UInt8) (v : Nat) (hv : v < 256) : ((c.toNat : Int) = (v : Int)) ↔ c = UInt8.ofNat v := by
  constructor
  · intro h
    apply UInt8.toNat.inj
    have : c.toNat = v := by omega
    rw [this]
    simp; omega
  · rintro rfl
    simp; omega

theorem impl_ins_loop (s : ByteArray) (hs : s.size ≤ 1000) (op r a b n m : Int) : ∀ (D : List UInt8) (k : Nat) (i : Int) (ok : Bool) (r' a' b' n' m' : Int), 0 ≤ i → s.data.toList.drop i.toNat = D → D.length < k →
    impl_InsOk.l0 k s ok (s.size : Int) i op r a b n m 0 r' a' b' n' m' = some (insRun op r a b n m D ok r' a' b' n' m') := by
  intro D
  induction D with
  | nil =>
    intro k i ok r' a' b' n' m' h0 hD hk
    obtain ⟨k, rfl⟩ : ∃ m, k = m + 1 := ⟨k - 1, by omega⟩
    simp only [impl_InsOk.l0, insRun]
    rw [if_neg (drop_end s i h0 hD)]
    cases ok <;> simp
  | cons c t ih =>
    intro k i ok r' a' b' n' m' h0 hD hk
    simp only [List.length_cons] at hk
    obtain ⟨k, rfl⟩ : ∃ m, k = m + 1 := ⟨k - 1, by omega⟩
    obtain ⟨hb, hlt, hr⟩ := bt_drop s i h0 hD
    have e82 : ((c.toNat : Int) = 82) ↔ c = 82 := byte_is c 82 (by omega)
    have e65 : ((c.toNat : Int) = 65) ↔ c = 65 := byte_is c 65 (by omega)
    have e66 : ((c.toNat : Int) = 66) ↔ c = 66 := byte_is c 66 (by omega)
    have e78 : ((c.toNat : Int) = 78) ↔ c = 78 := byte_is c 78 (by omega)
    have e77 : ((c.toNat : Int) = 77) ↔ c = 77 := byte_is c 77 (by omega)
    simp only [impl_InsOk.l0]
    rw [if_pos hlt, if_pos h0, if_pos hlt, hb, next_i h0 hlt (by omega)]
    unfold insRun
    have IH := fun ok r' a' b' n' m' => ih k (i + 1) ok r' a' b' n' m' (by omega) hr (by omega)
    by_cases h1 : c = 82
    · rw [if_pos (e82.2 h1), if_pos h1, impl_reg, Option.bind_some, ← IH]
      cases ok <;> simp
    · rw [if_neg (fun h => h1 (e82.1 h)), if_neg h1]
      by_cases h2 : c = 65
      · rw [if_pos (e65.2 h2), if_pos h2, impl_reg, Option.bind_some, ← IH]
        cases ok
        · simp
        · cases hr2 : reg a
          · by_cases h6 : a = 6
            · by_cases h8 : op = 8
              · simp [h6, h8]
              · have : (op == 8) = false := by simp [h8]
                simp [h6, h8, this]
            · have : (a == 6) = false := by simp [h6]
              simp [h6, this]
          · simp
      · rw [if_neg (fun h => h2 (e65.1 h)), if_neg h2]
        by_cases h3 : c = 66
        · rw [if_pos (e66.2 h3), if_pos h3, impl_reg, Option.bind_some, ← IH]
          cases ok <;> simp
        · rw [if_neg (fun h => h3 (e66.1 h)), if_neg h3]
          by_cases h4 : c = 78
          · rw [if_pos (e78.2 h4), if_pos h4, impl_wordok, Option.bind_some, ← IH]
            cases ok <;> simp
          · rw [if_neg (fun h => h4 (e78.1 h)), if_neg h4]
            by_cases h5 : c = 77
            · rw [if_pos (e77.2 h5), if_pos h5, impl_in, Option.bind_some, ← IH]
              cases ok <;> simp
            · rw [if_neg (fun h => h5 (e77.1 h)), if_neg h5, ← IH]

/-- What an op has. -/
def hR (op : Int) : Bool := decide ((1 ≤ op ∧ op ≤ 8) ∨ op = 10 ∨ op = 18)
def hA (op : Int) : Bool := decide ((2 ≤ op ∧ op ≤ 10) ∨ op = 12 ∨ (15 ≤ op ∧ op ≤ 17) ∨ op = 19)
def hB (op : Int) : Bool := decide ((3 ≤ op ∧ op ≤ 7) ∨ op = 9 ∨ op = 10 ∨ op = 16 ∨ op = 17)
def hN (op : Int) : Bool := decide (op = 1 ∨ op = 8 ∨ op = 9 ∨ op = 11 ∨ op = 12 ∨ op = 13)
def hM (op : Int) : Bool := decide (op = 13)
theorem has_bits (op : Int) (h : 1 ≤ op ∧ op ≤ 19) : (Go.bits .and .i64 (hasN op) 1 != 0) = hR op ∧ (Go.bits .and .i64 (hasN op) 2 != 0) = hA op ∧ (Go.bits .and .i64 (hasN op) 4 != 0) = hB op ∧ (Go.bits .and .i64 (hasN op) 8 != 0) = hN op ∧ (Go.bits .and .i64 (hasN op) 16 != 0) = hM op := by
  rcases op_cases op with h | h | h | h | h | h | h | h | h | h | h | h | h | h | h | h | h | h | h | h
  case inr.inr.inr.inr.inr.inr.inr.inr.inr.inr.inr.inr.inr.inr.inr.inr.inr.inr.inr => omega
  all_goals (subst h; exact ⟨rfl, rfl, rfl, rfl, rfl⟩)

def fld (x most : Int) (has : Bool) : Bool := decide (0 ≤ x ∧ x ≤ most) && (has || x == 0)
theorem spec_field (x most : Int) (has : Bool) : spec_l2Field.f x most has = some (fld x most has) := by
  unfold spec_l2Field.f fld
  rw [spec_in, Option.bind_some]
  cases h : decide (0 ≤ x ∧ x ≤ most)
  · simp
  · cases has <;> simp

/-- A place is right. -/
def insB (op r a b n m : Int) : Bool := decide (1 ≤ op ∧ op ≤ 19) && (fld r 5 (hR op) && (fld a (if op = 8 ∨ op = 9 then 6 else 5) (hA op) && (fld b 5 (hB op) && (wok n && ((hN op || n == 0) && fld m 60 (hM op))))))
theorem spec_insok1 (op r a b n m most : Int) (k : Nat) (hk : 1 ≤ k) : spec_InsOk.j1 k (hasN op) most op r a b n m = some (decide (1 ≤ op ∧ op ≤ 19) && (fld r 5 (hR op) && (fld a most (hA op) && (fld b 5 (hB op) && (wok n && ((hN op || n == 0) && fld m 60 (hM op))))))) := by
  obtain ⟨k, rfl⟩ : ∃ m, k = m + 1 := ⟨k - 1, by omega⟩
  simp only [spec_InsOk.j1]
  rw [spec_in, Option.bind_some]
  by_cases h : 1 ≤ op ∧ op ≤ 19
  · obtain ⟨b1, b2, b3, b4, b5⟩ := has_bits op h
    rw [if_pos (decide_eq_true h), b1, b2, b3, b5, spec_field, Option.bind_some, spec_field, spec_field, spec_wordok, spec_field]
    have b4' : (Go.bits .and .i64 (hasN op) 8 = 0) ↔ hN op = false := by rw [← b4]; simp
    rw [decide_eq_true h]
    cases fld r 5 (hR op)
    · simp
    · cases fld a most (hA op)
      · simp
      · cases fld b 5 (hB op)
        · simp
        · cases wok n
          · simp
          · cases hn : hN op
            · by_cases hz : n = 0
              · simp [b4'.2 hn, hz]
              · simp [b4'.2 hn, hz]
            · have : ¬ Go.bits .and .i64 (hasN op) 8 = 0 := fun e => by rw [b4'.1 e] at hn; cases hn
              simp [this]
  · rw [if_neg (by simp; omega)]; simp [h]
theorem spec_insok (op r a b n m : Int) (k : Nat) (hk : 2 ≤ k) : spec_InsOk.f k op r a b n m = some (insB op r a b n m) := by
  obtain ⟨k, rfl⟩ : ∃ m, k = m + 1 := ⟨k - 1, by omega⟩
  unfold spec_InsOk.f insB
  rw [spec_has_tells, Option.bind_some]
  simp only [spec_InsOk.j0]
  by_cases h8 : op = 8
  · rw [if_pos h8, if_pos trivial, if_pos (.inl h8)]; exact spec_insok1 op r a b n m 6 k (by omega)
  · rw [if_neg h8]
    by_cases h9 : op = 9
    · rw [if_pos (by simp [h9]), if_pos (.inr h9)]; exact spec_insok1 op r a b n m 6 k (by omega)
    · rw [if_neg (by simp [h9]), if_neg (by omega)]; exact spec_insok1 op r a b n m 5 k (by omega)

set_option maxHeartbeats 8000000 in
theorem ins_same (op r a b n m : Int) : insRun op r a b n m (hasL op) (hasL op != []) r a b n m = insB op r a b n m := by
  rcases op_cases op with h | h | h | h | h | h | h | h | h | h | h | h | h | h | h | h | h | h | h | h
  case inr.inr.inr.inr.inr.inr.inr.inr.inr.inr.inr.inr.inr.inr.inr.inr.inr.inr.inr =>
    have e : hasL op = [] := by
      unfold hasL
      rw [if_neg (by omega), if_neg (by omega), if_neg (by omega), if_neg (by omega), if_neg (by omega), if_neg (by omega), if_neg (by omega), if_neg (by omega), if_neg (by omega), if_neg (by omega), if_neg (by omega), if_neg (by omega)]
    have e2 : decide (1 ≤ op ∧ op ≤ 19) = false := by simp; omega
    unfold insB
    rw [e, e2]; simp [insRun]
  all_goals
    subst h
    rw [Bool.eq_iff_iff]
    simp [insRun, hasL, insB, fld, reg, wok, hR, hA, hB, hN, hM]
    try omega
theorem hasL_short (op : Int) : (hasL op).length ≤ 3 := by
  rcases op_cases op with h | h | h | h | h | h | h | h | h | h | h | h | h | h | h | h | h | h | h | h
  case inr.inr.inr.inr.inr.inr.inr.inr.inr.inr.inr.inr.inr.inr.inr.inr.inr.inr.inr =>
    have e : hasL op = [] := by
      unfold hasL
      rw [if_neg (by omega), if_neg (by omega), if_neg (by omega), if_neg (by omega), if_neg (by omega), if_neg (by omega), if_neg (by omega), if_neg (by omega), if_neg (by omega), if_neg (by omega), if_neg (by omega), if_neg (by omega)]
    rw [e]; exact Nat.zero_le _
  all_goals (subst h; decide)
theorem impl_insok (op r a b n m : Int) (k : Nat) (hk : 10 ≤ k) : impl_InsOk.f k op r a b n m = some (insB op r a b n m) := by
  unfold impl_InsOk.f
  rw [impl_has_tells op k (by omega), Option.bind_some, ByteArray.toList_eq]
  have hl := hasL_short op
  generalize hL : hasL op = L at hl
  have hsz : (⟨L.toArray⟩ : ByteArray).size = L.length := List.size_toArray
  have h := impl_ins_loop ⟨L.toArray⟩ (by omega) op r a b n m L k 0 (L != []) r a b n m (by omega) rfl (by omega)
  rw [← ins_same, hL]
  exact h


theorem FnExactInsOk : laws_FnExactInsOk.Pure := by
  intro op r a b n m _ _ _ _ _ _
  refine ⟨20, ?_⟩
  unfold laws_FnExactInsOk.f laws_toIns.f
  rw [Option.bind_some, spec_insok _ _ _ _ _ _ _ (by omega), Option.bind_some, Option.bind_some, impl_insok _ _ _ _ _ _ _ (by omega), Option.bind_some]
  simp


end Go.Proofs.Ytbbknoaceccgmaa.Pure
