/- A drawn word is read from its digits, what is read has those digits, what goes round is a word: for all codes. Conditions: none beyond the row's own. -/
import Derived.Test.YtbbknoaceccgmaaXFnWordsx5
namespace Go.Proofs.Ytbbknoaceccgmaa.Pure
open Go.RowKit Go.Proofs.Ytbbknoaceccgmaa.XFnWords Go.Proofs.YtbbknoaceccgmaaW.PrintWords Go.Proofs.YtbbknoaceccgmaaW.PrintLast Go.Proofs.YtbbknoaceccgmaaW.PrintMore
set_option linter.unusedVariables false
set_option linter.unusedSimpArgs false

/-! Loops over a list by an index, told once. -/
/-- A loop over a list: at each element B, with what follows; at the end e. -/
def runIdx {α β : Type} (B : Int → α → Option β → Option β) (e : Option β) : List α → Int → Option β
  | [], _ => e
  | x :: r, i => B i x (runIdx B e r (i + 1))
theorem drop_at {α : Type} (xs : List α) (d : α) (i : Int) (h0 : 0 ≤ i) (h : i < (xs.length : Int)) : xs.drop i.toNat = xs.getD i.toNat d :: xs.drop (i + 1).toNat := by
  have hi : i.toNat < xs.length := by omega
  have h1 : (i + 1).toNat = i.toNat + 1 := by omega
  rw [h1, List.drop_eq_getElem_cons hi]
  congr 1
  simp [List.getD, hi]
theorem loop_list {α β : Type} (xs : List α) (d : α) (K : Nat) (F : Nat → Int → Option β) (B : Int → α → Option β → Option β) (e : Option β)
    (hstep : ∀ k i, K ≤ k → 0 ≤ i → i < (xs.length : Int) → F (k + 1) i = B i (xs.getD i.toNat d) (F k (i + 1)))
    (hend : ∀ k i, K ≤ k → (xs.length : Int) ≤ i → F (k + 1) i = e) : ∀ (n k : Nat) (i : Int), 0 ≤ i → (xs.length : Int) - i = n → K + n < k → F k i = runIdx B e (xs.drop i.toNat) i
  | 0, k, i, h0, hn, hk => by
    obtain ⟨k, rfl⟩ : ∃ m, k = m + 1 := ⟨k - 1, by omega⟩
    rw [hend k i (by omega) (by omega), List.drop_eq_nil_of_le (by omega)]
    rfl
  | n + 1, k, i, h0, hn, hk => by
    obtain ⟨k, rfl⟩ : ∃ m, k = m + 1 := ⟨k - 1, by omega⟩
    have hlt : i < (xs.length : Int) := by omega
    rw [hstep k i (by omega) h0 hlt, loop_list xs d K F B e hstep hend n k (i + 1) (by omega) (by omega) (by omega), drop_at xs d i h0 hlt]
    rfl
theorem loop_all {α β : Type} (xs : List α) (d : α) (K : Nat) (F : Nat → Int → Option β) (B : Int → α → Option β → Option β) (e : Option β)
    (hstep : ∀ k i, K ≤ k → 0 ≤ i → i < (xs.length : Int) → F (k + 1) i = B i (xs.getD i.toNat d) (F k (i + 1)))
    (hend : ∀ k i, K ≤ k → (xs.length : Int) ≤ i → F (k + 1) i = e) (k : Nat) (hk : K + xs.length < k) : F k 0 = runIdx B e xs 0 :=
  loop_list xs d K F B e hstep hend xs.length k 0 (by omega) (by omega) (by omega)

/-- The same with a state. -/
def runSt {α β σ : Type} (B : Int → α → σ → (σ → Option β) → Option β) (e : σ → Option β) : List α → Int → σ → Option β
  | [], _, s => e s
  | x :: r, i, s => B i x s (fun s' => runSt B e r (i + 1) s')
theorem loop_st {α β σ : Type} (xs : List α) (d : α) (K : Nat) (F : Nat → Int → σ → Option β) (B : Int → α → σ → (σ → Option β) → Option β) (e : σ → Option β)
    (hstep : ∀ k i s, K ≤ k → 0 ≤ i → i < (xs.length : Int) → F (k + 1) i s = B i (xs.getD i.toNat d) s (fun s' => F k (i + 1) s'))
    (hend : ∀ k i s, K ≤ k → (xs.length : Int) ≤ i → F (k + 1) i s = e s) : ∀ (n k : Nat) (i : Int) (s : σ), 0 ≤ i → (xs.length : Int) - i = n → K + n < k → F k i s = runSt B e (xs.drop i.toNat) i s
  | 0, k, i, s, h0, hn, hk => by
    obtain ⟨k, rfl⟩ : ∃ m, k = m + 1 := ⟨k - 1, by omega⟩
    rw [hend k i s (by omega) (by omega), List.drop_eq_nil_of_le (by omega)]
    rfl
  | n + 1, k, i, s, h0, hn, hk => by
    obtain ⟨k, rfl⟩ : ∃ m, k = m + 1 := ⟨k - 1, by omega⟩
    have hlt : i < (xs.length : Int) := by omega
    rw [hstep k i s (by omega) h0 hlt, drop_at xs d i h0 hlt]
    show _ = B i _ s _
    congr 1
    funext s'
    exact loop_st xs d K F B e hstep hend n k (i + 1) s' (by omega) (by omega) (by omega)

theorem next_i {i : Int} {n : Nat} (h0 : 0 ≤ i) (h : i < (n : Int)) (hn : n ≤ 9223372036854775807) : wrap64 (i + 1) = i + 1 := by
  unfold wrap64; omega

/-- All of a list: what a loop that stops at the first that is not so tells. -/
theorem run_all {α : Type} (p : α → Bool) : ∀ (xs : List α) (i : Int), runIdx (fun _ x r => if p x = true then r else some false) (some true) xs i = some (xs.all p)
  | [], _ => rfl
  | x :: r, i => by
    unfold runIdx
    rw [run_all p r (i + 1), List.all_cons]
    cases h : p x <;> simp
/-- Some of a list. -/
theorem run_any {α : Type} (p : α → Bool) : ∀ (xs : List α) (i : Int), runIdx (fun _ x r => if p x = true then some true else r) (some false) xs i = some (xs.any p)
  | [], _ => rfl
  | x :: r, i => by
    unfold runIdx
    rw [run_any p r (i + 1), List.any_cons]
    cases h : p x <;> simp
/-- The first of a list that is so, counted from i; -1. -/
def firstOf {α : Type} (p : α → Bool) : List α → Int → Int
  | [], _ => -1
  | x :: r, i => if p x = true then i else firstOf p r (i + 1)
theorem run_first {α : Type} (p : α → Bool) : ∀ (xs : List α) (i : Int), runIdx (fun i x r => if p x = true then some i else r) (some (-1)) xs i = some (firstOf p xs i)
  | [], _ => rfl
  | x :: r, i => by
    unfold runIdx firstOf
    rw [run_first p r (i + 1)]
    cases h : p x <;> simp
theorem firstOf_any {α : Type} (p : α → Bool) : ∀ (xs : List α) (i : Int), 0 ≤ i → decide (firstOf p xs i ≥ 0) = xs.any p
  | [], _, _ => rfl
  | x :: r, i, h => by
    unfold firstOf
    rw [List.any_cons]
    cases hp : p x
    · simpa using firstOf_any p r (i + 1) (by omega)
    · simp [h]
theorem firstOf_bd {α : Type} (p : α → Bool) : ∀ (xs : List α) (i : Int), 0 ≤ i → -1 ≤ firstOf p xs i ∧ firstOf p xs i < i + xs.length ∨ firstOf p xs i = -1
  | [], i, h => .inr rfl
  | x :: r, i, h => by
    unfold firstOf
    split
    · simp; omega
    · rcases firstOf_bd p r (i + 1) (by omega) with ⟨h1, h2⟩ | h1
      · left; simp; omega
      · exact .inr h1

/-- A row filled by an index. -/
theorem fill_loop {α β : Type} (l : List α) (da : α) (db : β) (g : α → β) (K : Nat) (F : Nat → List β → Int → Option (List β))
    (hstep : ∀ k x i, K ≤ k → 0 ≤ i → i < (l.length : Int) → i < (x.length : Int) → F (k + 1) x i = F k (x.set i.toNat (g (l.getD i.toNat da))) (i + 1))
    (hend : ∀ k x i, (l.length : Int) ≤ i → F (k + 1) x i = some x) : ∀ (n k j : Nat), j + n = l.length → K + n < k →
      F k ((l.take j).map g ++ List.replicate n db) (j : Int) = some (l.map g)
  | 0, k, j, hj, hk => by
    obtain ⟨k, rfl⟩ : ∃ m, k = m + 1 := ⟨k - 1, by omega⟩
    rw [hend k _ _ (by omega), List.take_of_length_le (by omega)]
    simp
  | n + 1, k, j, hj, hk => by
    obtain ⟨k, rfl⟩ : ∃ m, k = m + 1 := ⟨k - 1, by omega⟩
    have hlen : ((l.take j).map g).length = j := by simp; omega
    rw [hstep k _ _ (by omega) (by omega) (by omega) (by simp; omega)]
    have h1 : ((j : Int)).toNat = j := by omega
    have hjl : j < l.length := by omega
    have h2 : ((l.take j).map g ++ List.replicate (n + 1) db).set j (g (l.getD j da)) = (l.take (j + 1)).map g ++ List.replicate n db := by
      rw [List.set_append_right _ _ (by omega), hlen, Nat.sub_self, List.replicate_succ, List.set_cons_zero, List.take_succ_eq_append_getElem hjl, List.map_append, List.append_assoc]
      have hg : l.getD j da = l[j] := by simp [List.getD, hjl]
      rw [hg]
      rfl
    have h3 : ((j : Int) + 1) = ((j + 1 : Nat) : Int) := by omega
    rw [h1, h2, h3]
    exact fill_loop l da db g K F hstep hend n k (j + 1) (by omega) (by omega)
theorem fill_all {α β : Type} (l : List α) (da : α) (db : β) (g : α → β) (K : Nat) (F : Nat → List β → Int → Option (List β))
    (hstep : ∀ k x i, K ≤ k → 0 ≤ i → i < (l.length : Int) → i < (x.length : Int) → F (k + 1) x i = F k (x.set i.toNat (g (l.getD i.toNat da))) (i + 1))
    (hend : ∀ k x i, (l.length : Int) ≤ i → F (k + 1) x i = some x) (k : Nat) (hk : K + l.length < k) : F k (List.replicate l.length db) 0 = some (l.map g) := by
  have := fill_loop l da db g K F hstep hend l.length k 0 (by omega) hk
  simpa using this

/-! Draws: what the reference draws from a code's bytes. -/
theorem and_255 (x : Int) : Go.bits .and .i64 x 255 = x % 256 := by
  have hw : ∀ n : Int, 0 ≤ n → n < 4294967296 → IntKind.i64.wrap n = n := by
    intro n h0 h1
    rw [IntKind.wrap_i64]; omega
  have e : (BitVec.ofInt 64 x &&& BitVec.ofInt 64 255).toNat = (x % 256).toNat := by
    rw [BitVec.toNat_and, BitVec.toNat_ofInt, BitVec.toNat_ofInt]
    have h2 : ((255 : Int) % ((2 ^ 64 : Nat) : Int)).toNat = 2 ^ 8 - 1 := by decide
    rw [h2, Nat.and_two_pow_sub_one_eq_mod]
    have h3 : ((2 ^ 64 : Nat) : Int) = 18446744073709551616 := by decide
    rw [h3]
    omega
  show IntKind.i64.wrap (((BitVec.ofInt 64 x &&& BitVec.ofInt 64 255).toNat : Nat) : Int) = _
  rw [e, hw _ (by omega) (by omega)]
  omega
theorem draw_byte (l : List Int) (hl : l.length ≤ 1048576) (i h : Int) (h0 : 0 ≤ i) : ∃ v i' h', spec_l1Byte.f l i h = some (v, i', h') ∧ 0 ≤ v ∧ v < 256 ∧ 0 ≤ i' := by
  unfold spec_l1Byte.f
  rw [and_255, and_255]
  by_cases h1 : i < (l.length : Int)
  · rw [if_pos h1, if_pos h0]
    refine ⟨_, _, _, rfl, Int.emod_nonneg _ (by omega), Int.emod_lt_of_pos _ (by omega), ?_⟩
    rw [next_i h0 h1 (by omega)]; omega
  · rw [if_neg h1]
    exact ⟨_, _, _, rfl, Int.emod_nonneg _ (by omega), Int.emod_lt_of_pos _ (by omega), h0⟩
theorem draw_sum (a b c d : Int) (ha : 0 ≤ a) (ha1 : a < 256) (hb : 0 ≤ b) (hb1 : b < 256) (hc : 0 ≤ c) (hc1 : c < 256) (hd : 0 ≤ d) (hd1 : d < 256) :
    0 ≤ wrap64 (wrap64 (wrap64 (wrap64 (a * 16777216) + wrap64 (b * 65536)) + wrap64 (c * 256)) + d) := by
  have e1 : wrap64 (a * 16777216) = a * 16777216 := by unfold wrap64; omega
  have e2 : wrap64 (b * 65536) = b * 65536 := by unfold wrap64; omega
  have e3 : wrap64 (c * 256) = c * 256 := by unfold wrap64; omega
  rw [e1, e2, e3]
  have e4 : wrap64 (a * 16777216 + b * 65536) = a * 16777216 + b * 65536 := by unfold wrap64; omega
  rw [e4]
  have e5 : wrap64 (a * 16777216 + b * 65536 + c * 256) = a * 16777216 + b * 65536 + c * 256 := by unfold wrap64; omega
  rw [e5]
  have e6 : wrap64 (a * 16777216 + b * 65536 + c * 256 + d) = a * 16777216 + b * 65536 + c * 256 + d := by unfold wrap64; omega
  rw [e6]
  omega
theorem tmod_in (v n : Int) (hv : 0 ≤ v) (hn : 0 < n) : 0 ≤ Int.tmod v n ∧ Int.tmod v n < n :=
  ⟨Int.tmod_nonneg _ hv, Int.tmod_lt_of_pos _ hn⟩
theorem draw_below (l : List Int) (hl : l.length ≤ 1048576) (i h n : Int) (h0 : 0 ≤ i) : ∃ v i' h', spec_l1Below.f l i h n = some (v, i', h') ∧ 0 ≤ v ∧ (0 < n → v < n) ∧ 0 ≤ i' := by
  unfold spec_l1Below.f
  by_cases h1 : n ≤ 0
  · rw [if_pos h1]
    exact ⟨_, _, _, rfl, Int.le_refl _, fun h => by omega, h0⟩
  · rw [if_neg h1]
    obtain ⟨v, i1, g1, e1, hv, hv1, hi1⟩ := draw_byte l hl i h h0
    by_cases h2 : n ≤ 256
    · rw [if_pos h2, e1, Option.bind_some, if_neg (by omega)]
      have := tmod_in v n hv (by omega)
      exact ⟨_, _, _, rfl, this.1, fun _ => this.2, hi1⟩
    · obtain ⟨v2, i2, g2, e2, hv2, hv21, hi2⟩ := draw_byte l hl i1 g1 hi1
      obtain ⟨v3, i3, g3, e3, hv3, hv31, hi3⟩ := draw_byte l hl i2 g2 hi2
      obtain ⟨v4, i4, g4, e4, hv4, hv41, hi4⟩ := draw_byte l hl i3 g3 hi3
      rw [if_neg h2, e1, Option.bind_some]
      dsimp only
      rw [e2, Option.bind_some]
      dsimp only
      rw [e3, Option.bind_some]
      dsimp only
      rw [e4, Option.bind_some, if_neg (by omega)]
      have := tmod_in _ n (draw_sum v v2 v3 v4 hv hv1 hv2 hv21 hv3 hv31 hv4 hv41) (by omega)
      exact ⟨_, _, _, rfl, this.1, fun _ => this.2, hi4⟩
theorem draw_new_loop (l : List Int) (hl : l.length ≤ 1048576) : ∀ (n : Nat) (i h : Int) (k : Nat), 0 ≤ i → (l.length : Int) ≤ i + n → n < k → ∃ h', spec_l1New.l0 k l h i = some (l, 0, h')
  | 0, i, h, k, h0, h1, hk => by
    obtain ⟨k, rfl⟩ : ∃ m, k = m + 1 := ⟨k - 1, by omega⟩
    simp only [spec_l1New.l0]
    rw [if_neg (by omega)]
    exact ⟨_, rfl⟩
  | n + 1, i, h, k, h0, h1, hk => by
    obtain ⟨k, rfl⟩ : ∃ m, k = m + 1 := ⟨k - 1, by omega⟩
    simp only [spec_l1New.l0]
    by_cases h2 : i < (l.length : Int)
    · rw [if_pos h2]
      by_cases h3 : i < 4000
      · rw [if_pos h3, if_pos h0, next_i h0 h2 (by omega)]
        exact draw_new_loop l hl n (i + 1) _ k (by omega) (by omega) (by omega)
      · rw [if_neg h3]
        exact ⟨_, rfl⟩
    · rw [if_neg h2]
      exact ⟨_, rfl⟩
theorem draw_new (l : List Int) (hl : l.length ≤ 1048576) (k : Nat) (hk : l.length < k) : ∃ h, spec_l1New.f k l = some (l, 0, h) := by
  unfold spec_l1New.f
  exact draw_new_loop l hl l.length 0 _ k (by omega) (by omega) hk

/-- Decimal digits. -/
def digs (n : Nat) : List UInt8 := if n < 10 then [UInt8.ofNat (48 + n)] else digs (n / 10) ++ [UInt8.ofNat (48 + n % 10)]
termination_by n
decreasing_by omega

/-- Bytes as a text. -/
def txt (l : List UInt8) : ByteArray := ⟨l.toArray⟩
theorem txt_append (a b : List UInt8) : txt a ++ txt b = txt (a ++ b) := ByteArray.ext (by simp [txt, ByteArray.data_append])
theorem txt_size (l : List UInt8) : (txt l).size = l.length := by simp [txt, ByteArray.size]

theorem digs_small {n : Nat} (h : n < 10) : digs n = [UInt8.ofNat (48 + n)] := by rw [digs, if_pos h]
theorem digs_big {n : Nat} (h : 10 ≤ n) : digs n = digs (n / 10) ++ [UInt8.ofNat (48 + n % 10)] := by rw [digs, if_neg (by omega)]
theorem digs_len : ∀ (k n : Nat), n < 10 ^ (k + 1) → (digs n).length ≤ k + 1
  | 0, n, h => by rw [digs_small (by simpa using h)]; simp
  | k + 1, n, h => by
    by_cases h1 : n < 10
    · rw [digs_small h1]; simp
    · rw [digs_big (by omega), List.length_append]
      have : n / 10 < 10 ^ (k + 1) := by
        rw [Nat.pow_succ] at h
        omega
      have := digs_len k (n / 10) this
      simp; omega
theorem digs_short {n : Nat} (h : n ≤ 9223372036854775808) : (digs n).length ≤ 20 := digs_len 19 n (by
  have : (10 : Nat) ^ (19 + 1) = 100000000000000000000 := by simp only [Nat.reduceAdd, Nat.reducePow]
  omega)

/-- The digits of a whole number. -/
def dec (n : Int) : List UInt8 := if n < 0 then 45 :: digs n.natAbs else digs n.natAbs

theorem tmod_nat (m : Nat) : Int.tmod (m : Int) 10 = ((m % 10 : Nat) : Int) := rfl
theorem tmod_neg (m : Nat) : Int.tmod (-(m : Int)) 10 = -((m % 10 : Nat) : Int) := by rw [Int.neg_tmod, tmod_nat]
theorem tdiv_nat (m : Nat) : Int.tdiv (m : Int) 10 = ((m / 10 : Nat) : Int) := rfl
theorem tdiv_neg (m : Nat) : Int.tdiv (-(m : Int)) 10 = -((m / 10 : Nat) : Int) := by rw [Int.neg_tdiv, tdiv_nat]

theorem one_digit (m : Nat) (h : m < 10) (y : Int) (e : y = 48 + (m : Int)) : strOfNums [y] = txt [UInt8.ofNat (48 + m)] := by
  subst e
  unfold strOfNums txt
  have : (48 + (m : Int)).toNat = 48 + m := by omega
  simp [this]

theorem digs_last {m : Nat} (h : 0 < m) : digs m = (if m / 10 = 0 then [] else digs (m / 10)) ++ [UInt8.ofNat (48 + m % 10)] := by
  by_cases h1 : m < 10
  · have : m / 10 = 0 := by omega
    have h2 : m % 10 = m := by omega
    rw [digs_small h1, if_pos this, h2]; rfl
  · rw [digs_big (by omega), if_neg (by omega)]

theorem dig_pos (m : Nat) : wrap64 (48 + ((m % 10 : Nat) : Int)) % 256 = 48 + ((m % 10 : Nat) : Int) := by unfold wrap64; omega
theorem dig_neg (m : Nat) : wrap64 (48 + wrap64 (-(-((m % 10 : Nat) : Int)))) % 256 = 48 + ((m % 10 : Nat) : Int) := by unfold wrap64; omega
theorem dig_nul (m : Nat) (h : ¬ -((m % 10 : Nat) : Int) < 0) : wrap64 (48 + (-((m % 10 : Nat) : Int))) % 256 = 48 + ((m % 10 : Nat) : Int) := by unfold wrap64; omega
theorem rest_pos (m : Nat) (h : m ≤ 9223372036854775808) : (wrap64 ((m / 10 : Nat) : Int)).natAbs = m / 10 := by unfold wrap64; omega
theorem rest_neg (m : Nat) (h : m ≤ 9223372036854775808) : (wrap64 (-((m / 10 : Nat) : Int))).natAbs = m / 10 := by unfold wrap64; omega

/-- What the reference's loop does with what is left of a number. -/
theorem spec_digits_loop : ∀ (d k : Nat) (x : Int) (b : Bool) (l : List UInt8), x.natAbs ≤ d → d ≤ 9223372036854775808 → d < k → l.length + (if x.natAbs = 0 then 0 else (digs x.natAbs).length) ≤ 60 →
    spec_Digits.l0 k x b (txt l) = some (txt ((if b = true then [45] else []) ++ (if x.natAbs = 0 then [] else digs x.natAbs) ++ l)) := by
  intro d
  induction d with
  | zero =>
    intro k x b l hx _ hk hl
    obtain ⟨k, rfl⟩ : ∃ m, k = m + 1 := ⟨k - 1, by omega⟩
    have : x = 0 := by omega
    subst this
    have hl' : l.length ≤ 60 := by simpa using hl
    have he : (⟨#[45]⟩ : ByteArray) ++ txt l = txt (45 :: l) := txt_append [45] l
    simp only [spec_Digits.l0, if_true]
    rw [txt_size, if_pos (by omega : 1 + l.length ≤ 9223372036854775807), he]
    cases b <;> simp
  | succ d ih =>
    intro k x b l hx hd hk hl
    obtain ⟨k, rfl⟩ : ∃ m, k = m + 1 := ⟨k - 1, by omega⟩
    simp only [spec_Digits.l0]
    by_cases h0 : x = 0
    · subst h0
      have hl' : l.length ≤ 60 := by simpa using hl
      have he : (⟨#[45]⟩ : ByteArray) ++ txt l = txt (45 :: l) := txt_append [45] l
      simp only [if_true]
      rw [txt_size, if_pos (by omega : 1 + l.length ≤ 9223372036854775807), he]
      cases b <;> simp
    · rw [if_neg h0]
      obtain ⟨m, hm, hs⟩ : ∃ m : Nat, 0 < m ∧ (x = (m : Int) ∨ x = -(m : Int)) := ⟨x.natAbs, by omega, by omega⟩
      have hxm : x.natAbs = m := by omega
      have hlen : (digs m).length = (if m / 10 = 0 then ([] : List UInt8) else digs (m / 10)).length + 1 := by rw [digs_last hm]; simp
      have hl2 : l.length + (digs m).length ≤ 60 := by rwa [hxm, if_neg (by omega : ¬ m = 0)] at hl
      have hl3 : (UInt8.ofNat (48 + m % 10) :: l).length + (if m / 10 = 0 then 0 else (digs (m / 10)).length) ≤ 60 := by
        rw [List.length_cons]
        by_cases h1 : m / 10 = 0
        · rw [if_pos h1]; rw [if_pos h1] at hlen; simp at hlen; omega
        · rw [if_neg h1]; rw [if_neg h1] at hlen; omega
      have step : ∀ x' : Int, x'.natAbs = m / 10 → spec_Digits.l0 k x' b (txt (UInt8.ofNat (48 + m % 10) :: l)) = some (txt ((if b = true then [45] else []) ++ (if x.natAbs = 0 then [] else digs x.natAbs) ++ l)) := by
        intro x' hx'
        rw [ih k x' b _ (by omega) (by omega) (by omega) (by rw [hx']; exact hl3), hx', hxm, if_neg (by omega : ¬ m = 0), digs_last hm]
        simp
      have h10 : m % 10 < 10 := Nat.mod_lt _ (by omega)
      have size2 : (txt [UInt8.ofNat (48 + m % 10)]).size + (txt l).size ≤ 9223372036854775807 := by
        rw [txt_size, txt_size, List.length_singleton]; omega
      have join : txt [UInt8.ofNat (48 + m % 10)] ++ txt l = txt (UInt8.ofNat (48 + m % 10) :: l) := txt_append _ _
      have hm2 : m ≤ 9223372036854775808 := by omega
      rcases hs with e | e
      · rw [e, tmod_nat, tdiv_nat, if_neg (by omega)]
        rw [Option.bind_some]
        rw [one_digit (m % 10) h10 _ (dig_pos m), if_pos size2, join, step _ (rest_pos m hm2), e]
      · rw [e, tmod_neg, tdiv_neg]
        by_cases h1 : -((m % 10 : Nat) : Int) < 0
        · rw [if_pos h1]
          rw [Option.bind_some]
          rw [one_digit (m % 10) h10 _ (dig_neg m), if_pos size2, join, step _ (rest_neg m hm2), e]
        · rw [if_neg h1]
          rw [Option.bind_some]
          rw [one_digit (m % 10) h10 _ (dig_nul m h1), if_pos size2, join, step _ (rest_neg m hm2), e]

theorem spec_digits (x : Int) (hx : x.natAbs ≤ 9223372036854775808) (k : Nat) (hk : x.natAbs < k) : spec_Digits.f k x = some (txt (dec x)) := by
  unfold spec_Digits.f dec
  by_cases h0 : x = 0
  · subst h0
    rw [if_pos rfl, if_neg (by omega)]
    have : digs (0 : Int).natAbs = [48] := by rw [digs_small (by decide)]; rfl
    rw [this]; rfl
  · rw [if_neg h0]
    have h := spec_digits_loop x.natAbs k x (decide (x < 0)) [] (Nat.le_refl _) hx hk (by have := digs_short hx; rw [if_neg (by omega)]; simp only [List.length_nil]; omega)
    have e : txt [] = (⟨#[]⟩ : ByteArray) := rfl
    rw [← e, h]
    by_cases hn : x < 0
    · simp [hn, h0]
    · simp [hn, h0]


theorem encode_low (c : Int) (h0 : 0 ≤ c) (h1 : c < 128) : Go.Utf8.encode c = txt [UInt8.ofNat c.toNat] := by
  have hv : Go.Utf8.valid c = true := by
    unfold Go.Utf8.valid
    simp; omega
  unfold Go.Utf8.encode txt
  simp only [hv, if_true]
  rw [if_pos (by omega)]

theorem rune_digit (m : Nat) (h : m < 10) : Go.Utf8.encode (wrap32 (wrap64 (48 + (m : Int)))) = txt [UInt8.ofNat (48 + m)] := by
  have e : wrap32 (wrap64 (48 + (m : Int))) = 48 + (m : Int) := by unfold wrap32 wrap64; omega
  rw [e, encode_low _ (by omega) (by omega)]
  have : (48 + (m : Int)).toNat = 48 + m := by omega
  rw [this]

theorem keep_pos (m : Nat) (h : m ≤ 9223372036854775807) : wrap64 ((m / 10 : Nat) : Int) = ((m / 10 : Nat) : Int) := by unfold wrap64; omega
theorem keep_all (m : Nat) (h : m ≤ 9223372036854775807) : wrap64 (-(-(m : Int))) = (m : Int) := by unfold wrap64; omega
theorem keep_neg (m : Nat) (h : m ≤ 9223372036854775808) : wrap64 (-((m / 10 : Nat) : Int)) = -((m / 10 : Nat) : Int) := by unfold wrap64; omega
theorem keep_mod (m : Nat) : wrap64 (-(-((m % 10 : Nat) : Int))) = ((m % 10 : Nat) : Int) := by unfold wrap64; omega

theorem size_join (a b : List UInt8) (ha : a.length ≤ 20) (hb : b.length ≤ 20) : (txt a).size + (txt b).size ≤ 9223372036854775807 := by
  rw [txt_size, txt_size]; omega
theorem size_sign (a : List UInt8) (ha : a.length ≤ 20) : 1 + (txt a).size ≤ 9223372036854775807 := by
  rw [txt_size]; omega

theorem impl_digits_nat : ∀ (d n k : Nat), n ≤ d → d ≤ 9223372036854775808 → n ≤ 9223372036854775807 → 2 * d + 2 ≤ k → impl_Digits.f k (n : Int) = some (txt (digs n)) := by
  intro d
  induction d with
  | zero =>
    intro n k hn _ _ hk
    obtain ⟨k, rfl⟩ : ∃ m, k = m + 2 := ⟨k - 2, by omega⟩
    have : n = 0 := by omega
    subst this
    simp only [impl_Digits.f, impl_Digits.j0]
    rw [if_neg (by omega), if_neg (by simp), if_neg (by omega), if_pos (by omega), rune_digit 0 (by omega), digs_small (by omega)]
  | succ d ih =>
    intro n k hn hd hb hk
    obtain ⟨k, rfl⟩ : ∃ m, k = m + 2 := ⟨k - 2, by omega⟩
    simp only [impl_Digits.f, impl_Digits.j0]
    rw [if_neg (by omega), if_neg (by simp), if_neg (by omega)]
    by_cases h10 : n < 10
    · rw [if_pos (by omega), rune_digit n h10, digs_small h10]
    · rw [if_neg (by omega), tdiv_nat, tmod_nat]
      rw [keep_pos n hb, ih (n / 10) k (by omega) (by omega) (by omega) (by omega)]
      rw [Option.bind_some]
      have hs := digs_short (n := n / 10) (by omega)
      rw [rune_digit (n % 10) (by omega), if_pos (size_join _ _ hs (by simp)), txt_append, ← digs_big (by omega)]

theorem impl_digits_neg : ∀ (d n k : Nat), 0 < n → n ≤ d → n ≤ 9223372036854775808 → 2 * d + 30 ≤ k → impl_Digits.f k (-(n : Int)) = some (txt (45 :: digs n)) := by
  intro d
  induction d with
  | zero => intro n k h0 h1; omega
  | succ d ih =>
    intro n k h0 hn hb hk
    obtain ⟨k, rfl⟩ : ∃ m, k = m + 2 := ⟨k - 2, by omega⟩
    simp only [impl_Digits.f, impl_Digits.j0]
    rw [if_pos (by omega)]
    by_cases h10 : n < 10
    · rw [if_pos (by simp; omega)]
      rw [keep_all n (by omega), impl_digits_nat n n k (by omega) (by omega) (by omega) (by omega)]
      rw [Option.bind_some]
      have hs := digs_short (n := n) (by omega)
      have e1 : (⟨#[45]⟩ : ByteArray) = txt [45] := rfl
      rw [if_pos (size_sign _ hs), e1, txt_append]
      rfl
    · rw [if_neg (by simp; omega), if_pos (by omega), tdiv_neg, tmod_neg]
      rw [keep_neg n hb, keep_mod, ih (n / 10) k (by omega) (by omega) (by omega) (by omega)]
      rw [Option.bind_some]
      rw [impl_digits_nat (n % 10) (n % 10) k (by omega) (by omega) (by omega) (by omega)]
      rw [Option.bind_some]
      have hs := digs_short (n := n / 10) (by omega)
      have hs2 := digs_short (n := n % 10) (by omega)
      rw [if_pos (by rw [txt_size, txt_size, List.length_cons]; omega), txt_append, digs_small (n := n % 10) (by omega), List.cons_append, ← digs_big (by omega)]

theorem impl_digits (x : Int) (hx : (Lit.int .i64 x).wf = true) (k : Nat) (hk : 2 * x.natAbs + 30 ≤ k) : impl_Digits.f k x = some (txt (dec x)) := by
  have hb : -9223372036854775808 ≤ x ∧ x ≤ 9223372036854775807 := by
    simp only [Lit.wf, IntKind.min, IntKind.max, IntKind.signed, IntKind.bits, Bool.and_eq_true, decide_eq_true_eq, if_true] at hx
    omega
  unfold dec
  by_cases h : x < 0
  · rw [if_pos h]
    obtain ⟨n, hn, rfl⟩ : ∃ n : Nat, 0 < n ∧ x = -(n : Int) := ⟨x.natAbs, by omega, by omega⟩
    have e : (-(n : Int)).natAbs = n := by omega
    rw [e] at hk ⊢
    exact impl_digits_neg n n k hn (by omega) (by omega) (by omega)
  · rw [if_neg h]
    obtain ⟨n, rfl⟩ : ∃ n : Nat, x = (n : Int) := ⟨x.natAbs, by omega⟩
    have e : ((n : Int)).natAbs = n := by omega
    rw [e] at hk ⊢
    exact impl_digits_nat n n k (by omega) (by omega) (by omega) (by omega)

/-- Is it a word. -/
def wok (x : Int) : Bool := decide (-2147483648 ≤ x ∧ x ≤ 2147483647)
theorem spec_wordok (x : Int) : spec_WordOk.f x = some (wok x) := by
  unfold spec_WordOk.f spec_l1In.f wok
  by_cases h : x ≥ -2147483648
  · have h' : -2147483648 ≤ x := h
    rw [if_pos h, Option.bind_some]; simp [h']
  · have h' : ¬ -2147483648 ≤ x := h
    rw [if_neg h, Option.bind_some]; simp [h']
theorem impl_wordok (x : Int) : impl_WordOk.f x = some (wok x) := by
  unfold impl_WordOk.f impl_within.f wok
  by_cases h : x ≥ -2147483648
  · have h' : -2147483648 ≤ x := h
    rw [if_pos h, Option.bind_some]; simp [h']
  · have h' : ¬ -2147483648 ≤ x := h
    rw [if_neg h, Option.bind_some]; simp [h']
theorem wok_iff (x : Int) : wok x = true ↔ -2147483648 ≤ x ∧ x ≤ 2147483647 := by unfold wok; simp

theorem toList_data (s : ByteArray) : s.toList = s.data.toList := ByteArray.toList_eq s
theorem size_data (s : ByteArray) : s.size = s.data.toList.length := Array.length_toList.symm
/-- A text's bytes from a place on: the first of them, and the rest. -/
theorem bt_drop (s : ByteArray) (i : Int) (h0 : 0 ≤ i) {c : UInt8} {r : List UInt8} (h : s.data.toList.drop i.toNat = c :: r) :
    bt s i = (c.toNat : Int) ∧ i < (s.size : Int) ∧ s.data.toList.drop (i + 1).toNat = r := by
  have hl : i.toNat < s.data.toList.length := by
    apply Decidable.byContradiction
    intro hn
    rw [List.drop_eq_nil_of_le (by omega)] at h
    cases h
  have hs : i.toNat < s.size := by
    have : s.size = s.data.toList.length := size_data s
    omega
  rw [List.drop_eq_getElem_cons hl] at h
  injection h with h1 h2
  refine ⟨?_, by omega, ?_⟩
  · unfold bt
    rw [dif_pos hs, ← h1]
    rfl
  · rw [← h2]
    congr 1
    omega
theorem drop_end (s : ByteArray) (i : Int) (h0 : 0 ≤ i) (h : s.data.toList.drop i.toNat = []) : ¬ i < (s.size : Int) := by
  have h1 := List.drop_eq_nil_iff.1 h
  have : s.size = s.data.toList.length := size_data s
  omega


/-- What a number's digits come to: at their end fin tells it. -/
def numRun (fin : Int → Option (Int × Bool)) : List UInt8 → Int → Option (Int × Bool)
  | [], x => fin x
  | c :: r, x => if 48 ≤ c.toNat ∧ c.toNat ≤ 57 then numRun fin r (10 * x + c.toNat - 48) else some (0, false)
/-- The end of both: a word whose digits the text is. -/
def numEnd (a : ByteArray) (x : Int) : Option (Int × Bool) := if wok x = true then (if (txt (dec x)).toList = a.toList then some (x, true) else some (0, false)) else some (0, false)

theorem numRun_some (fin : Int → Option (Int × Bool)) (hf : ∀ x, ∃ r, fin x = some r) : ∀ (D : List UInt8) (x : Int), ∃ r, numRun fin D x = some r
  | [], x => hf x
  | c :: r, x => by
    unfold numRun
    split
    · exact numRun_some fin hf r _
    · exact ⟨_, rfl⟩
theorem numEnd_some (a : ByteArray) (x : Int) : ∃ r, numEnd a x = some r := by
  unfold numEnd
  split
  · split <;> exact ⟨_, rfl⟩
  · exact ⟨_, rfl⟩
theorem numRun_congr (f g : Int → Option (Int × Bool)) (h : ∀ x, f x = g x) : ∀ (D : List UInt8) (x : Int), numRun f D x = numRun g D x
  | [], x => h x
  | c :: r, x => by
    unfold numRun
    split
    · exact numRun_congr f g h r _
    · rfl

/-- How great a number of so many digits can be: what is left of ten. -/
def room (n : Nat) : Int := 10 ^ (10 - n)
theorem room_succ {n : Nat} (h : n + 1 ≤ 10) : room n = 10 * room (n + 1) := by
  unfold room
  have : 10 - n = (10 - (n + 1)) + 1 := by omega
  rw [this, Int.pow_succ, Int.mul_comm]
theorem room_le (n : Nat) : room n ≤ 10000000000 := by
  unfold room
  have h : (10 : Nat) ^ (10 - n) ≤ 10 ^ 10 := Nat.pow_le_pow_right (by decide) (by omega)
  have e : (10 : Nat) ^ 10 = 10000000000 := by decide
  have : (((10 : Nat) ^ (10 - n) : Nat) : Int) = (10 : Int) ^ (10 - n) := by simp
  omega

theorem spec_end (a : ByteArray) (x : Int) (k : Nat) (hk : 4294967400 ≤ k) : spec_Number.j4 k a x = numEnd a x := by
  obtain ⟨k, rfl⟩ : ∃ m, k = m + 1 := ⟨k - 1, by omega⟩
  unfold numEnd
  simp only [spec_Number.j4]
  rw [spec_wordok, Option.bind_some]
  by_cases h : wok x = true
  · have hb := (wok_iff x).1 h
    rw [if_pos h, if_pos h, spec_digits x (by omega) k (by omega), Option.bind_some]
  · rw [if_neg h, if_neg h]

theorem step_spec (x c : Int) (hx : 0 ≤ x) (hx1 : x < 10000000000) (hc : 0 ≤ c) (hc1 : c < 256) : wrap64 (wrap64 (wrap64 (10 * x) + wrap64 c) - 48) = 10 * x + c - 48 := by
  unfold wrap64; omega
theorem step_impl (x c : Int) (hx : 0 ≤ x) (hx1 : x < 10000000000) (hc : 48 ≤ c) (hc1 : c ≤ 57) : wrap64 (wrap64 (10 * x) + (c - 48) % 256) = 10 * x + c - 48 := by
  unfold wrap64; omega
theorem step_next (i : Int) (h0 : 0 ≤ i) (h1 : i < 9223372036854775807) : wrap64 (i + 1) = i + 1 := by unfold wrap64; omega
theorem step_neg (x : Int) (hx : 0 ≤ x) (hx1 : x ≤ 10000000000) : wrap64 (-x) = -x := by unfold wrap64; omega
theorem step_mul (x s : Int) (hx : 0 ≤ x) (hx1 : x ≤ 10000000000) (hs : s = 1 ∨ s = -1) : wrap64 (x * s) = x * s := by
  rcases hs with rfl | rfl <;> unfold wrap64 <;> omega

theorem room_step (x : Int) (c : UInt8) (n : Nat) (h : n + 1 ≤ 10) (hx : 0 ≤ x) (hx1 : x < room (n + 1)) (h1 : 48 ≤ c.toNat) (h2 : c.toNat ≤ 57) : 0 ≤ 10 * x + c.toNat - 48 ∧ 10 * x + c.toNat - 48 < room n := by
  rw [room_succ h]; omega

theorem spec_number_loop (a : ByteArray) (ha : a.size ≤ 1048576) (at_ : Int) : ∀ (D : List UInt8) (k : Nat) (i x : Int), 0 ≤ i → a.data.toList.drop i.toNat = D → 0 ≤ x → x < room D.length → D.length ≤ 10 → 4294967401 + D.length ≤ k →
    spec_Number.l0 k a at_ x i = numRun (fun x => if at_ = 1 then numEnd a (-x) else numEnd a x) D x := by
  intro D
  induction D with
  | nil =>
    intro k i x h0 hD hx hx1 hl hk
    simp only [List.length_nil, Nat.add_zero] at hk
    obtain ⟨k, rfl⟩ : ∃ m, k = m + 1 := ⟨k - 1, by omega⟩
    have hr := room_le 0
    simp only [List.length_nil] at hx1
    simp only [spec_Number.l0, numRun]
    rw [if_neg (drop_end a i h0 hD)]
    by_cases e : at_ = 1
    · rw [if_pos e, if_pos e, step_neg x hx (by omega), spec_end a _ k (by omega)]
    · rw [if_neg e, if_neg e, spec_end a _ k (by omega)]
  | cons c r ih =>
    intro k i x h0 hD hx hx1 hl hk
    simp only [List.length_cons] at hk hl hx1
    obtain ⟨k, rfl⟩ : ∃ m, k = m + 1 := ⟨k - 1, by omega⟩
    obtain ⟨hb, hlt, hr⟩ := bt_drop a i h0 hD
    have hroom := room_le (r.length + 1)
    have hc := c.toNat_lt
    simp only [spec_Number.l0, numRun]
    rw [if_pos hlt, if_pos h0, hb]
    by_cases h1 : (c.toNat : Int) < 48
    · rw [if_pos h1, if_neg (by omega)]
    · rw [if_neg h1]
      by_cases h2 : (c.toNat : Int) > 57
      · rw [if_pos h2, if_neg (by omega)]
      · rw [if_neg h2, if_pos (by omega), step_spec x _ hx (by omega) (by omega) (by omega), step_next i h0 (by omega)]
        have hs := room_step x c r.length hl hx hx1 (by omega) (by omega)
        exact ih k (i + 1) _ (by omega) hr hs.1 hs.2 (by omega) (by omega)

theorem impl_end (a : ByteArray) (x : Int) (k : Nat) (hk : 8589935000 ≤ k) :
    ((impl_WordOk.f x).bind fun t116 => (if t116 = true then ((impl_Digits.f k x).bind fun t117 => (if t117.toList = a.toList then (some (x, true)) else (some (0, false)))) else (some (0, false)))) = numEnd a x := by
  unfold numEnd
  rw [impl_wordok, Option.bind_some]
  by_cases h : wok x = true
  · have hb := (wok_iff x).1 h
    have hw : (Lit.int .i64 x).wf = true := by
      simp only [Lit.wf, IntKind.min, IntKind.max, IntKind.signed, IntKind.bits, Bool.and_eq_true, decide_eq_true_eq, if_true]
      omega
    rw [if_pos h, if_pos h, impl_digits x hw k (by omega), Option.bind_some]
  · rw [if_neg h, if_neg h]

theorem impl_number_loop (a ds : ByteArray) (hd : ds.size ≤ 1048576) (s : Int) (hs : s = 1 ∨ s = -1) : ∀ (D : List UInt8) (k : Nat) (i x : Int), 0 ≤ i → ds.data.toList.drop i.toNat = D → 0 ≤ x → x < room D.length → D.length ≤ 10 → 8589935001 + D.length ≤ k →
    impl_Number.l0 k a x ds s (ds.size : Int) i = numRun (fun x => numEnd a (x * s)) D x := by
  intro D
  induction D with
  | nil =>
    intro k i x h0 hD hx hx1 hl hk
    simp only [List.length_nil, Nat.add_zero] at hk
    obtain ⟨k, rfl⟩ : ∃ m, k = m + 1 := ⟨k - 1, by omega⟩
    have hr := room_le 0
    simp only [List.length_nil] at hx1
    simp only [impl_Number.l0, numRun]
    rw [if_neg (drop_end ds i h0 hD), step_mul x s hx (by omega) hs]
    exact impl_end a _ k (by omega)
  | cons c r ih =>
    intro k i x h0 hD hx hx1 hl hk
    simp only [List.length_cons] at hk hl hx1
    obtain ⟨k, rfl⟩ : ∃ m, k = m + 1 := ⟨k - 1, by omega⟩
    obtain ⟨hb, hlt, hr⟩ := bt_drop ds i h0 hD
    have hroom := room_le (r.length + 1)
    have hc := c.toNat_lt
    simp only [impl_Number.l0, numRun]
    rw [if_pos hlt, if_pos h0, if_pos hlt, hb]
    unfold impl_isDigit.f
    by_cases h1 : (c.toNat : Int) ≥ 48
    · rw [if_pos h1, Option.bind_some]
      by_cases h2 : (c.toNat : Int) ≤ 57
      · rw [if_pos (decide_eq_true h2), if_pos (by omega), step_impl x _ hx (by omega) (by omega) (by omega), step_next i h0 (by omega)]
        have hs := room_step x c r.length hl hx hx1 (by omega) (by omega)
        exact ih k (i + 1) _ (by omega) hr hs.1 hs.2 (by omega) (by omega)
      · rw [if_neg (by simp [h2]), if_neg (by omega)]
    · rw [if_neg h1, Option.bind_some, if_neg (by simp), if_neg (by omega)]


/-- The reference's Number, whole. -/
def numAll (a : ByteArray) : Option (Int × Bool) :=
  match a.data.toList with
  | [] => some (0, false)
  | c :: r => if c = 45 then (if r.length < 1 ∨ 10 < r.length then some (0, false) else numRun (fun x => numEnd a (-x)) r 0) else if 10 < (c :: r).length then some (0, false) else numRun (numEnd a) (c :: r) 0

theorem room_pos (n : Nat) : 0 < room n := by
  unfold room
  have h : 0 < (10 : Nat) ^ (10 - n) := Nat.pow_pos (by decide)
  have : (((10 : Nat) ^ (10 - n) : Nat) : Int) = (10 : Int) ^ (10 - n) := by simp
  omega

theorem spec_j2 (a : ByteArray) (ha : a.size ≤ 1048576) (at_ : Int) (h0 : 0 ≤ at_) (D : List UInt8) (hD : a.data.toList.drop at_.toNat = D) (hsz : (a.size : Int) - at_ = D.length) (k : Nat) (hk : 4294967500 ≤ k) :
    spec_Number.j1 k a at_ = if D.length < 1 ∨ 10 < D.length then some (0, false) else numRun (fun x => if at_ = 1 then numEnd a (-x) else numEnd a x) D 0 := by
  obtain ⟨k, rfl⟩ : ∃ m, k = m + 2 := ⟨k - 2, by omega⟩
  have hw : wrap64 ((a.size : Int) - at_) = D.length := by
    rw [hsz]
    unfold wrap64
    omega
  simp only [spec_Number.j1, spec_Number.j2]
  rw [hw]
  by_cases h1 : (D.length : Int) < 1
  · rw [if_pos h1, if_pos trivial, if_pos (by omega)]
  · rw [if_neg h1]
    by_cases h2 : (D.length : Int) > 10
    · rw [if_pos (decide_eq_true h2), if_pos (by omega)]
    · rw [if_neg (by simp; omega), if_neg (by omega)]
      exact spec_number_loop a ha at_ D k at_ 0 h0 hD (by omega) (room_pos _) (by omega) (by omega)

theorem spec_number (a : ByteArray) (ha : a.size ≤ 1048576) (k : Nat) (hk : 4294967600 ≤ k) : spec_Number.f k a = numAll a := by
  obtain ⟨k, rfl⟩ : ∃ m, k = m + 1 := ⟨k - 1, by omega⟩
  unfold spec_Number.f numAll
  rw [toList_data]
  have hsd := size_data a
  cases e : a.data.toList with
  | nil =>
    rw [e] at hsd
    simp only [List.length_nil] at hsd
    simp only [if_true, spec_Number.j0]
    rw [if_neg (by simp), spec_j2 a ha 0 (by omega) [] (by rw [e]; rfl) (by rw [hsd]; rfl) k (by omega), if_pos (by simp)]
  | cons c r =>
    have hsz : a.size = r.length + 1 := by rw [hsd, e]; rfl
    have hd0 : a.data.toList.drop (0 : Int).toNat = c :: r := by rw [e]; rfl
    obtain ⟨hb, hlt, hr⟩ := bt_drop a 0 (by omega) hd0
    have hc45 : (c.toNat : Int) = 45 ↔ c = 45 := by
      constructor
      · intro h; apply UInt8.toNat.inj; simpa using (by omega : c.toNat = 45)
      · rintro rfl; rfl
    rw [if_neg (by simp), if_pos (by omega), hb]
    simp only [spec_Number.j0]
    by_cases h45 : c = 45
    · rw [if_pos (by simpa using hc45.2 h45), spec_j2 a ha 1 (by omega) r (by simpa using hr) (by omega) k (by omega)]
      simp only [h45, if_true]
    · rw [if_neg (by simp; exact fun h => h45 (hc45.1 h)), spec_j2 a ha 0 (by omega) (c :: r) hd0 (by rw [hsz]; simp) k (by omega)]
      simp only [h45, if_false]
      by_cases h10 : 10 < (c :: r).length
      · rw [if_pos (.inr h10), if_pos h10]
      · rw [if_neg (by simp; simp at h10; omega), if_neg h10]
        exact numRun_congr _ _ (fun x => by rw [if_neg (by omega)]) _ _

theorem impl_j1 (a ds : ByteArray) (hd : ds.size ≤ 1048576) (s : Int) (hs : s = 1 ∨ s = -1) (k : Nat) (hk : 8589935100 ≤ k) :
    impl_Number.j1 k a 0 ds s = if ds.data.toList.length < 1 ∨ 10 < ds.data.toList.length then some (0, false) else numRun (fun x => numEnd a (x * s)) ds.data.toList 0 := by
  obtain ⟨k, rfl⟩ : ∃ m, k = m + 2 := ⟨k - 2, by omega⟩
  have hsd := size_data ds
  simp only [impl_Number.j1, impl_Number.j2]
  rw [toList_data]
  by_cases h1 : ds.data.toList = []
  · rw [if_pos h1, if_pos trivial, if_pos (by rw [h1]; simp)]
  · have hl : 1 ≤ ds.data.toList.length := by
      cases e : ds.data.toList with
      | nil => exact absurd e h1
      | cons _ _ => simp
    rw [if_neg h1]
    by_cases h2 : (ds.size : Int) > 10
    · rw [if_pos (decide_eq_true h2), if_pos (by omega)]
    · rw [if_neg (by simp; omega), if_neg (by omega)]
      exact impl_number_loop a ds hd s hs ds.data.toList k 0 0 (by omega) rfl (by omega) (room_pos _) (by omega) (by omega)

theorem impl_number (a : ByteArray) (ha : a.size ≤ 1048576) (k : Nat) (hk : 8589935200 ≤ k) : impl_Number.f k a = numAll a := by
  obtain ⟨k, rfl⟩ : ∃ m, k = m + 1 := ⟨k - 1, by omega⟩
  unfold impl_Number.f numAll
  rw [toList_data]
  have hsd := size_data a
  cases e : a.data.toList with
  | nil =>
    simp only [if_true, impl_Number.j0]
    rw [if_neg (by simp), impl_j1 a a ha 1 (.inl rfl) k (by omega), if_pos (by rw [e]; simp)]
  | cons c r =>
    have hsz : a.size = r.length + 1 := by rw [hsd, e]; rfl
    have hd0 : a.data.toList.drop (0 : Int).toNat = c :: r := by rw [e]; rfl
    obtain ⟨hb, hlt, hr⟩ := bt_drop a 0 (by omega) hd0
    have hc45 : (c.toNat : Int) = 45 ↔ c = 45 := by
      constructor
      · intro h; apply UInt8.toNat.inj; simpa using (by omega : c.toNat = 45)
      · rintro rfl; rfl
    have hx : (a.extract 1 a.size).data.toList = r := by
      rw [ByteArray.data_extract]
      simp [hsz, e]
    rw [if_neg (by simp), if_pos (by omega), hb]
    simp only [impl_Number.j0]
    by_cases h45 : c = 45
    · have hxs : (a.extract 1 a.size).size ≤ 1048576 := by rw [size_data, hx]; omega
      rw [if_pos (by simpa using hc45.2 h45), if_pos (by omega), impl_j1 a _ hxs (-1) (.inr rfl) k (by omega), hx]
      simp only [h45, if_true]
      by_cases h1 : r.length < 1 ∨ 10 < r.length
      · rw [if_pos h1, if_pos h1]
      · rw [if_neg h1, if_neg h1]
        exact numRun_congr _ _ (fun x => by rw [Int.mul_neg, Int.mul_one]) _ _
    · rw [if_neg (by simp; exact fun h => h45 (hc45.1 h)), impl_j1 a a ha 1 (.inl rfl) k (by omega), e]
      simp only [h45, if_false]
      by_cases h10 : 10 < (c :: r).length
      · rw [if_pos (.inr h10), if_pos h10]
      · rw [if_neg (by simp; simp at h10; omega), if_neg h10]
        exact numRun_congr _ _ (fun x => by rw [Int.mul_one]) _ _

theorem numAll_some (a : ByteArray) : ∃ r, numAll a = some r := by
  unfold numAll
  split
  · exact ⟨_, rfl⟩
  · split
    · split
      · exact ⟨_, rfl⟩
      · exact numRun_some _ (fun x => numEnd_some a _) _ _
    · split
      · exact ⟨_, rfl⟩
      · exact numRun_some _ (fun x => numEnd_some a _) _ _

theorem and_low (x : Int) : Go.bits .and .i64 x 4294967295 = x % 4294967296 := by
  have hw : ∀ n : Int, 0 ≤ n → n < 4294967296 → IntKind.i64.wrap n = n := by
    intro n h0 h1
    rw [IntKind.wrap_i64]; omega
  have e : (BitVec.ofInt 64 x &&& BitVec.ofInt 64 4294967295).toNat = (x % 4294967296).toNat := by
    rw [BitVec.toNat_and, BitVec.toNat_ofInt, BitVec.toNat_ofInt]
    have h2 : ((4294967295 : Int) % ((2 ^ 64 : Nat) : Int)).toNat = 2 ^ 32 - 1 := by decide
    rw [h2, Nat.and_two_pow_sub_one_eq_mod]
    have h3 : ((2 ^ 64 : Nat) : Int) = 18446744073709551616 := by decide
    rw [h3]
    omega
  show IntKind.i64.wrap (((BitVec.ofInt 64 x &&& BitVec.ofInt 64 4294967295).toNat : Nat) : Int) = _
  rw [e, hw _ (by omega) (by omega)]
  omega
theorem spec_round (a : Int) : spec_Round.f a = some (wrap64 (wrap32 a)) := by
  unfold spec_Round.f
  rw [and_low]
  have h : wrap64 (wrap32 a) = if a % 4294967296 > 2147483647 then wrap64 (a % 4294967296 - 4294967296) else a % 4294967296 := by
    unfold wrap64 wrap32
    split <;> omega
  rw [h]
  split <;> rfl
theorem round_wok (a : Int) : wok (wrap64 (wrap32 a)) = true := by
  rw [wok_iff]
  unfold wrap64 wrap32
  omega
theorem round_id (a : Int) : (wrap64 (wrap32 a) == a) = wok a := by
  by_cases h : wok a = true
  · rw [h]
    have hb := (wok_iff a).1 h
    have : wrap64 (wrap32 a) = a := by unfold wrap64 wrap32; omega
    simp [this]
  · have h2 : ¬ wrap64 (wrap32 a) = a := by
      intro e
      rw [← e] at h
      exact h (round_wok a)
    rw [Bool.not_eq_true] at h
    rw [h]
    simp [h2]

theorem numRun_append (fin : Int → Option (Int × Bool)) : ∀ (D E : List UInt8) (x : Int), numRun fin (D ++ E) x = numRun (fun y => numRun fin E y) D x
  | [], E, x => rfl
  | c :: r, E, x => by
    rw [List.cons_append]
    unfold numRun
    split
    · exact numRun_append fin r E _
    · rfl
theorem dig_toNat (m : Nat) (h : m < 10) : (UInt8.ofNat (48 + m)).toNat = 48 + m := by
  simp only [UInt8.toNat_ofNat']
  omega
theorem numRun_digs : ∀ (d m : Nat) (fin : Int → Option (Int × Bool)), m ≤ d → numRun fin (digs m) 0 = fin (m : Int) := by
  intro d
  induction d with
  | zero =>
    intro m fin hm
    have : m = 0 := by omega
    subst this
    rw [digs_small (by omega)]
    unfold numRun
    rw [dig_toNat 0 (by omega), if_pos (by omega)]
    rfl
  | succ d ih =>
    intro m fin hm
    by_cases h : m < 10
    · rw [digs_small h]
      unfold numRun
      rw [dig_toNat m h, if_pos (by omega)]
      unfold numRun
      congr 1
      omega
    · rw [digs_big (by omega), numRun_append, ih (m / 10) _ (by omega)]
      unfold numRun
      rw [dig_toNat (m % 10) (by omega), if_pos (by omega)]
      unfold numRun
      congr 1
      omega
theorem digs_ge : ∀ (d m : Nat), m ≤ d → ∀ c ∈ digs m, 48 ≤ c.toNat := by
  intro d
  induction d with
  | zero =>
    intro m hm c hc
    have : m = 0 := by omega
    subst this
    rw [digs_small (by omega), List.mem_singleton] at hc
    rw [hc, dig_toNat 0 (by omega)]
    omega
  | succ d ih =>
    intro m hm c hc
    by_cases h : m < 10
    · rw [digs_small h, List.mem_singleton] at hc
      rw [hc, dig_toNat m h]; omega
    · rw [digs_big (by omega), List.mem_append] at hc
      rcases hc with hc | hc
      · exact ih (m / 10) (by omega) c hc
      · rw [List.mem_singleton] at hc
        rw [hc, dig_toNat (m % 10) (by omega)]; omega
theorem digs_ne (m : Nat) : 1 ≤ (digs m).length := by
  by_cases h : m < 10
  · rw [digs_small h]; simp
  · rw [digs_big (by omega)]; simp
theorem digs_ten {m : Nat} (h : 10 < (digs m).length) : 10000000000 ≤ m := by
  apply Decidable.byContradiction
  intro hn
  have := digs_len 9 m (by
    have : (10 : Nat) ^ (9 + 1) = 10000000000 := by simp only [Nat.reduceAdd, Nat.reducePow]
    omega)
  omega
theorem wok_big {n : Int} (h : 10000000000 ≤ n.natAbs) : wok n = false := by
  rw [← Bool.not_eq_true, wok_iff]; omega
theorem numEnd_dec (n : Int) : numEnd (txt (dec n)) n = some (if wok n = true then (n, true) else (0, false)) := by
  unfold numEnd
  cases h : wok n
  · rfl
  · simp
theorem numAll_dec (n : Int) : numAll (txt (dec n)) = some (if wok n = true then (n, true) else (0, false)) := by
  unfold numAll
  have e : (txt (dec n)).data.toList = dec n := by simp [txt]
  have hd := digs_ne n.natAbs
  rw [e]
  by_cases hn : n < 0
  · have e1 : dec n = 45 :: digs n.natAbs := by unfold dec; rw [if_pos hn]
    rw [← numEnd_dec n]
    generalize txt (dec n) = t
    rw [e1]
    show (if (45 : UInt8) = 45 then (if (digs n.natAbs).length < 1 ∨ 10 < (digs n.natAbs).length then some (0, false) else numRun (fun x => numEnd t (-x)) (digs n.natAbs) 0) else _) = _
    rw [if_pos rfl]
    by_cases h10 : 10 < (digs n.natAbs).length
    · rw [if_pos (.inr h10)]
      unfold numEnd
      rw [wok_big (digs_ten h10)]
      rfl
    · rw [if_neg (by omega), numRun_digs n.natAbs n.natAbs _ (Nat.le_refl _)]
      congr 1
      omega
  · have e1 : dec n = digs n.natAbs := by unfold dec; rw [if_neg hn]
    rw [← numEnd_dec n]
    generalize txt (dec n) = t
    rw [e1]
    cases hc : digs n.natAbs with
    | nil => rw [hc] at hd; simp at hd
    | cons c r =>
      have h45 : ¬ c = 45 := by
        rintro rfl
        have := digs_ge n.natAbs n.natAbs (Nat.le_refl _) 45 (by rw [hc]; simp)
        have e45 : (45 : UInt8).toNat = 45 := rfl
        omega
      show (if c = 45 then _ else if 10 < (c :: r).length then some (0, false) else numRun (numEnd t) (c :: r) 0) = _
      rw [if_neg h45, ← hc]
      by_cases h10 : 10 < (digs n.natAbs).length
      · rw [if_pos h10]
        unfold numEnd
        rw [wok_big (digs_ten h10)]
        rfl
      · rw [if_neg h10, numRun_digs n.natAbs n.natAbs _ (Nat.le_refl _)]
        congr 1
        omega
theorem numRun_post (P : Int × Bool → Prop) (h0 : P (0, false)) (fin : Int → Option (Int × Bool)) (hf : ∀ x r, fin x = some r → P r) : ∀ (D : List UInt8) (x : Int) (r : Int × Bool), numRun fin D x = some r → P r
  | [], x, r, h => hf x r h
  | c :: l, x, r, h => by
    unfold numRun at h
    split at h
    · exact numRun_post P h0 fin hf l _ r h
    · injection h with h; rw [← h]; exact h0
def numP (a : ByteArray) (r : Int × Bool) : Prop := (r.2 = false ∧ r.1 = 0) ∨ (r.2 = true ∧ wok r.1 = true ∧ (txt (dec r.1)).toList = a.toList)
theorem numEnd_post (a : ByteArray) (x : Int) (r : Int × Bool) (h : numEnd a x = some r) : numP a r := by
  unfold numEnd at h
  split at h
  · rename_i hw
    split at h
    · rename_i ht
      injection h with h; rw [← h]; exact .inr ⟨rfl, hw, ht⟩
    · injection h with h; rw [← h]; exact .inl ⟨rfl, rfl⟩
  · injection h with h; rw [← h]; exact .inl ⟨rfl, rfl⟩
theorem numAll_post (a : ByteArray) (r : Int × Bool) (h : numAll a = some r) : numP a r := by
  have h0 : numP a (0, false) := .inl ⟨rfl, rfl⟩
  unfold numAll at h
  split at h
  · injection h with h; rw [← h]; exact h0
  · split at h
    · split at h
      · injection h with h; rw [← h]; exact h0
      · exact numRun_post (numP a) h0 _ (fun x r hr => numEnd_post a _ r hr) _ _ r h
    · split at h
      · injection h with h; rw [← h]; exact h0
      · exact numRun_post (numP a) h0 _ (fun x r hr => numEnd_post a _ r hr) _ _ r h

/-- An integer of 64 bits. -/
def i64 (x : Int) : Prop := -9223372036854775808 ≤ x ∧ x ≤ 9223372036854775807
theorem i64_wf {x : Int} (h : i64 x) : (Lit.int .i64 x).wf = true := by
  unfold i64 at h
  simp only [Lit.wf, IntKind.min, IntKind.max, IntKind.signed, IntKind.bits, Bool.and_eq_true, decide_eq_true_eq, if_true]
  omega
theorem rd_in (l : List Int) (P : Int → Prop) (h : ∀ x ∈ l, P x) (i : Int) (h0 : 0 ≤ i) (h1 : i < (l.length : Int)) : P (rd l i) := by
  have hl : i.toNat < l.length := by omega
  have e : rd l i = l[i.toNat] := by
    show l.getD i.toNat 0 = _
    simp [List.getD, hl]
  rw [e]
  exact h _ (List.getElem_mem hl)
theorem rdOf_in {α : Type} (d : α) (l : List α) (P : α → Prop) (h : ∀ x ∈ l, P x) (i : Int) (h0 : 0 ≤ i) (h1 : i < (l.length : Int)) : P (rdOf d l i) := by
  have hl : i.toNat < l.length := by omega
  have e : rdOf d l i = l[i.toNat] := by
    show l.getD i.toNat d = _
    simp [List.getD, hl]
  rw [e]
  exact h _ (List.getElem_mem hl)
theorem draw_any (l : List Int) (hl : l.length ≤ 1048576) (i h : Int) (h0 : 0 ≤ i) : ∃ v i' h', spec_l1DrawAny.f l i h = some (v, i', h') ∧ i64 v ∧ 0 ≤ i' := by
  unfold spec_l1DrawAny.f spec_l1PickInt.f
  obtain ⟨v, i1, g1, e1, hv, hv1, hi1⟩ := draw_below l hl i h (([0, 1, (-1), 5, 2147483647, 2147483648, (-2147483648), (-2147483649), 9223372036854775807, (-9223372036854775808)] : List Int).length : Int) h0
  have hb := hv1 (by simp)
  rw [e1, Option.bind_some]
  dsimp only
  rw [if_pos hv, if_pos hb, Option.bind_some]
  refine ⟨_, _, _, rfl, ?_, hi1⟩
  exact rd_in _ i64 (by
    intro x hx
    unfold i64
    simp only [List.mem_cons, List.not_mem_nil, or_false] at hx
    omega) _ hv hb
theorem draw_digits (l : List Int) (hl : l.length ≤ 1048576) (k : Nat) (hk : l.length < k) : ∃ n, spec_DrawDigits.f k l = some n ∧ i64 n := by
  unfold spec_DrawDigits.f
  obtain ⟨h, e⟩ := draw_new l hl k hk
  obtain ⟨v, i1, g1, e1, hv, _⟩ := draw_any l hl 0 h (by omega)
  rw [e, Option.bind_some]
  dsimp only
  rw [e1, Option.bind_some]
  exact ⟨_, rfl, hv⟩
theorem draw_round (l : List Int) (hl : l.length ≤ 1048576) (k : Nat) (hk : l.length < k) : ∃ n, spec_DrawRound.f k l = some n ∧ i64 n := by
  unfold spec_DrawRound.f
  obtain ⟨h, e⟩ := draw_new l hl k hk
  obtain ⟨v, i1, g1, e1, hv, _⟩ := draw_any l hl 0 h (by omega)
  rw [e, Option.bind_some]
  dsimp only
  rw [e1, Option.bind_some]
  exact ⟨_, rfl, hv⟩
theorem draw_wordok (l : List Int) (hl : l.length ≤ 1048576) (k : Nat) (hk : l.length < k) : ∃ n, spec_DrawWordOk.f k l = some n ∧ i64 n := by
  unfold spec_DrawWordOk.f
  obtain ⟨h, e⟩ := draw_new l hl k hk
  obtain ⟨v, i1, g1, e1, hv, _⟩ := draw_any l hl 0 h (by omega)
  rw [e, Option.bind_some]
  dsimp only
  rw [e1, Option.bind_some]
  exact ⟨_, rfl, hv⟩
theorem dec_short {n : Int} (h : i64 n) : (txt (dec n)).size ≤ 21 := by
  unfold i64 at h
  rw [txt_size]
  have := digs_short (n := n.natAbs) (by omega)
  unfold dec
  split
  · rw [List.length_cons]; omega
  · omega
theorem ext_size (t : ByteArray) (a b : Nat) : (t.extract a b).size ≤ t.size := by
  rw [ByteArray.size_extract]; omega
theorem app_size (a b : ByteArray) : (a ++ b).size = a.size + b.size := ByteArray.size_append
theorem draw_pick (l : List Int) (hl : l.length ≤ 1048576) (i h : Int) (h0 : 0 ≤ i) (ts : List ByteArray) (hne : 0 < ts.length) (m : Nat) (hm : ∀ t ∈ ts, t.size ≤ m) : ∃ v i' h', spec_l1Pick.f l i h ts = some (v, i', h') ∧ v.size ≤ m ∧ 0 ≤ i' := by
  unfold spec_l1Pick.f
  obtain ⟨v, i1, g1, e1, hv, hv1, hi1⟩ := draw_below l hl i h (ts.length : Int) h0
  have hb := hv1 (by omega)
  rw [e1, Option.bind_some]
  dsimp only
  rw [if_pos hv, if_pos hb]
  exact ⟨_, _, _, rfl, rdOf_in _ ts (fun t => t.size ≤ m) hm _ hv hb, hi1⟩
theorem draw_number (l : List Int) (hl : l.length ≤ 1048576) (k : Nat) (hk : 9223372036854775808 + 1048576 < k) : ∃ t, spec_DrawNumber.f k l = some t ∧ t.size ≤ 1048576 := by
  unfold spec_DrawNumber.f
  obtain ⟨h, e⟩ := draw_new l hl k (by omega)
  obtain ⟨n, i1, g1, e1, hn, hi1⟩ := draw_any l hl 0 h (by omega)
  have hn' := hn
  unfold i64 at hn'
  have hs := dec_short hn
  rw [e, Option.bind_some]
  dsimp only
  rw [e1, Option.bind_some]
  dsimp only
  rw [spec_digits n (by omega) k (by omega), Option.bind_some]
  generalize txt (dec n) = t at hs ⊢
  obtain ⟨a, i2, g2, e2, ha, ha1, hi2⟩ := draw_below l hl i1 g1 (wrap64 ((t.size : Int) + 1)) hi1
  have hw : wrap64 ((t.size : Int) + 1) = t.size + 1 := by unfold wrap64; omega
  have ha2 : a ≤ t.size := by
    rw [hw] at ha1
    have := ha1 (by omega)
    omega
  rw [e2, Option.bind_some]
  dsimp only
  obtain ⟨b, i3, g3, e3, hb, hb1, hi3⟩ := draw_below l hl i2 g2 6 hi2
  rw [e3, Option.bind_some]
  dsimp only
  by_cases h1 : b = 0
  · rw [if_pos h1, if_pos ha, if_pos ha2]
    obtain ⟨p, i4, g4, e4, hp, _⟩ := draw_pick l hl i3 g3 hi3 [(⟨#[48]⟩ : ByteArray), (⟨#[45]⟩ : ByteArray), (⟨#[32]⟩ : ByteArray), (⟨#[120]⟩ : ByteArray), (⟨#[57]⟩ : ByteArray)] (by simp) 1 (by
      intro x hx
      simp only [List.mem_cons, List.not_mem_nil, or_false] at hx
      rcases hx with rfl | rfl | rfl | rfl | rfl <;> exact Nat.le_refl 1)
    rw [e4, Option.bind_some]
    dsimp only
    have x1 := ext_size t 0 a.toNat
    have x2 := ext_size t a.toNat t.size
    rw [app_size, if_pos (by omega), if_pos (by omega)]
    refine ⟨_, rfl, ?_⟩
    rw [app_size, app_size]
    omega
  · rw [if_neg h1]
    by_cases h2 : b = 1
    · rw [if_pos h2, if_pos ha, if_pos ha2]
      have x1 := ext_size t 0 a.toNat
      exact ⟨_, rfl, by omega⟩
    · rw [if_neg h2]
      exact ⟨_, rfl, by omega⟩

theorem words_j0 (l : List Int) (hl : l.length ≤ 1048576) (k : Nat) (hk : 20000000000000000000 ≤ k) : laws_FnWords.j0 (k + 1) l false = some true := by
  obtain ⟨t, et, ht⟩ := draw_number l hl k (by omega)
  obtain ⟨r, er, hr⟩ := draw_round l hl k (by omega)
  obtain ⟨w, ew, hw⟩ := draw_wordok l hl k (by omega)
  obtain ⟨⟨y, b⟩, ey⟩ := numAll_some t
  have hp := numAll_post t _ ey
  simp only [laws_FnWords.j0]
  rw [if_neg (by simp), et, Option.bind_some, impl_number t ht k (by omega), ey, Option.bind_some, spec_number t ht k (by omega), ey, Option.bind_some, er, Option.bind_some, ew, Option.bind_some]
  dsimp only
  rw [if_pos (by simp)]
  have im : impl_Round.f r = some (wrap64 (wrap32 r)) := rfl
  unfold numP at hp
  dsimp only at hp
  rcases hp with ⟨hb, hy⟩ | ⟨hb, hy, hd⟩
  · rw [if_neg (by simp [hb]), if_pos hy, im, Option.bind_some, spec_round, Option.bind_some, if_pos rfl, Option.bind_some, impl_wordok, Option.bind_some, if_pos (round_wok r), impl_wordok, Option.bind_some, spec_wordok, Option.bind_some, if_pos (by simp), Option.bind_some, impl_wordok, Option.bind_some, round_id]
    simp
  · have hwy := (wok_iff y).1 hy
    have hi : i64 y := by unfold i64; omega
    rw [if_pos hb, impl_digits y (i64_wf hi) k (by omega), Option.bind_some, if_pos hd, im, Option.bind_some, spec_round, Option.bind_some, if_pos rfl, Option.bind_some, impl_wordok, Option.bind_some, if_pos (round_wok r), impl_wordok, Option.bind_some, spec_wordok, Option.bind_some, if_pos (by simp), Option.bind_some, impl_wordok, Option.bind_some, round_id]
    simp
theorem words_law (l : List Int) (k : Nat) (hk : 20000000000000000001 ≤ k) : laws_FnWords.f k l = some true := by
  obtain ⟨k, rfl⟩ : ∃ m, k = m + 1 := ⟨k - 1, by omega⟩
  unfold laws_FnWords.f laws_big.f
  rw [Option.bind_some]
  by_cases hb : (l.length : Int) > 1048576
  · rw [if_pos (decide_eq_true hb)]
  · have hl : l.length ≤ 1048576 := by omega
    rw [if_neg (by simp; omega)]
    obtain ⟨n, en, hn⟩ := draw_digits l hl (k + 1) (by omega)
    have hn' := hn
    unfold i64 at hn'
    have hs := dec_short hn
    rw [en, Option.bind_some, impl_digits n (i64_wf hn) (k + 1) (by omega), Option.bind_some, impl_number _ (by omega) (k + 1) (by omega), numAll_dec, Option.bind_some, spec_digits n (by omega) (k + 1) (by omega), Option.bind_some, if_pos rfl, impl_wordok, Option.bind_some]
    cases h : wok n
    · exact words_j0 l hl k (by omega)
    · have e : (((n, true) : Int × Bool).1 != n) = false := by simp
      show laws_FnWords.j0 (k + 1) l (((n, true) : Int × Bool).1 != n) = some true
      rw [e]
      exact words_j0 l hl k (by omega)

theorem FnWords : laws_FnWords.Pure := by
  intro l _ _ _
  exact ⟨20000000000000000001, words_law l _ (Nat.le_refl _)⟩


end Go.Proofs.Ytbbknoaceccgmaa.Pure
