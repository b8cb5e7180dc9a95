/- Digits of the program returns what the reference's returns, for every number. Conditions: none beyond the row's own. -/
import Derived.Test.YtleifmecmmpbjaaXFnExactDigitsx1
namespace Go.Proofs.Ytleifmecmmpbjaa.Pure
open Go.RowKit Go.Proofs.Ytleifmecmmpbjaa.XFnExactDigits Go.Proofs.YtleifmecmmpbjaaW.PrintWords Go.Proofs.YtleifmecmmpbjaaW.PrintLast Go.Proofs.YtleifmecmmpbjaaW.PrintMore
set_option linter.unusedVariables false
set_option linter.unusedSimpArgs false

/-- Decimal digits. -/
def digs (n : Nat) : List UInt8 := if n < 10 then [UInt8.ofNat (48 + n)] else digs (n / 10) ++ [UInt8.ofNat (48 + n % 10)]
termination_by n
decreasing_by omega

/-- Bytes as a text. -/
def txt (l : List UInt8) : ByteArray := ⟨l.toArray⟩
theorem txt_append (a b : List UInt8) : txt a ++ txt b = txt (a ++ b) := ByteArray.ext (by simp [txt, ByteArray.data_append])
theorem txt_size (l : List UInt8) : (txt l).size = l.length := by simp [txt, ByteArray.size]

theorem digs_small {n : Nat} (h : n < 10) : digs n = [UInt8.ofNat (48 + n)] := by rw [digs, if_pos h]
theorem digs_big {n : Nat} (h : 10 ≤ n) : digs n = digs (n / 10) ++ [UInt8.ofNat (48 + n % 10)] := by rw [digs, if_neg (by omega)]
theorem digs_len : ∀ (k n : Nat), n < 10 ^ (k + 1) → (digs n).length ≤ k + 1
  | 0, n, h => by rw [digs_small (by simpa using h)]; simp
  | k + 1, n, h => by
    by_cases h1 : n < 10
    · rw [digs_small h1]; simp
    · rw [digs_big (by omega), List.length_append]
      have : n / 10 < 10 ^ (k + 1) := by
        rw [Nat.pow_succ] at h
        omega
      have := digs_len k (n / 10) this
      simp; omega
theorem digs_short {n : Nat} (h : n ≤ 9223372036854775808) : (digs n).length ≤ 20 := digs_len 19 n (by
  have : (10 : Nat) ^ (19 + 1) = 100000000000000000000 := by simp only [Nat.reduceAdd, Nat.reducePow]
  omega)

/-- The digits of a whole number. -/
def dec (n : Int) : List UInt8 := if n < 0 then 45 :: digs n.natAbs else digs n.natAbs

theorem tmod_nat (m : Nat) : Int.tmod (m : Int) 10 = ((m % 10 : Nat) : Int) := rfl
theorem tmod_neg (m : Nat) : Int.tmod (-(m : Int)) 10 = -((m % 10 : Nat) : Int) := by rw [Int.neg_tmod, tmod_nat]
theorem tdiv_nat (m : Nat) : Int.tdiv (m : Int) 10 = ((m / 10 : Nat) : Int) := rfl
theorem tdiv_neg (m : Nat) : Int.tdiv (-(m : Int)) 10 = -((m / 10 : Nat) : Int) := by rw [Int.neg_tdiv, tdiv_nat]

theorem one_digit (m : Nat) (h : m < 10) (y : Int) (e : y = 48 + (m : Int)) : strOfNums [y] = txt [UInt8.ofNat (48 + m)] := by
  subst e
  unfold strOfNums txt
  have : (48 + (m : Int)).toNat = 48 + m := by omega
  simp [this]

theorem digs_last {m : Nat} (h : 0 < m) : digs m = (if m / 10 = 0 then [] else digs (m / 10)) ++ [UInt8.ofNat (48 + m % 10)] := by
  by_cases h1 : m < 10
  · have : m / 10 = 0 := by omega
    have h2 : m % 10 = m := by omega
    rw [digs_small h1, if_pos this, h2]; rfl
  · rw [digs_big (by omega), if_neg (by omega)]

theorem dig_pos (m : Nat) : wrap64 (48 + ((m % 10 : Nat) : Int)) % 256 = 48 + ((m % 10 : Nat) : Int) := by unfold wrap64; omega
theorem dig_neg (m : Nat) : wrap64 (48 + wrap64 (-(-((m % 10 : Nat) : Int)))) % 256 = 48 + ((m % 10 : Nat) : Int) := by unfold wrap64; omega
theorem dig_nul (m : Nat) (h : ¬ -((m % 10 : Nat) : Int) < 0) : wrap64 (48 + (-((m % 10 : Nat) : Int))) % 256 = 48 + ((m % 10 : Nat) : Int) := by unfold wrap64; omega
theorem rest_pos (m : Nat) (h : m ≤ 9223372036854775808) : (wrap64 ((m / 10 : Nat) : Int)).natAbs = m / 10 := by unfold wrap64; omega
theorem rest_neg (m : Nat) (h : m ≤ 9223372036854775808) : (wrap64 (-((m / 10 : Nat) : Int))).natAbs = m / 10 := by unfold wrap64; omega

/-- What the reference's loop does with what is left of a number. -/
theorem spec_digits_loop : ∀ (d k : Nat) (x : Int) (b : Bool) (l : List UInt8), x.natAbs ≤ d → d ≤ 9223372036854775808 → d < k → l.length + (if x.natAbs = 0 then 0 else (digs x.natAbs).length) ≤ 60 →
    spec_Digits.l0 k x b (txt l) = some (txt ((if b = true then [45] else []) ++ (if x.natAbs = 0 then [] else digs x.natAbs) ++ l)) := by
  intro d
  induction d with
  | zero =>
    intro k x b l hx _ hk hl
    obtain ⟨k, rfl⟩ : ∃ m, k = m + 1 := ⟨k - 1, by omega⟩
    have : x = 0 := by omega
    subst this
    have hl' : l.length ≤ 60 := by simpa using hl
    have he : (⟨#[45]⟩ : ByteArray) ++ txt l = txt (45 :: l) := txt_append [45] l
    simp only [spec_Digits.l0, if_true]
    rw [txt_size, if_pos (by omega : 1 + l.length ≤ 9223372036854775807), he]
    cases b <;> simp
  | succ d ih =>
    intro k x b l hx hd hk hl
    obtain ⟨k, rfl⟩ : ∃ m, k = m + 1 := ⟨k - 1, by omega⟩
    simp only [spec_Digits.l0]
    by_cases h0 : x = 0
    · subst h0
      have hl' : l.length ≤ 60 := by simpa using hl
      have he : (⟨#[45]⟩ : ByteArray) ++ txt l = txt (45 :: l) := txt_append [45] l
      simp only [if_true]
      rw [txt_size, if_pos (by omega : 1 + l.length ≤ 9223372036854775807), he]
      cases b <;> simp
    · rw [if_neg h0]
      obtain ⟨m, hm, hs⟩ : ∃ m : Nat, 0 < m ∧ (x = (m : Int) ∨ x = -(m : Int)) := ⟨x.natAbs, by omega, by omega⟩
      have hxm : x.natAbs = m := by omega
      have hlen : (digs m).length = (if m / 10 = 0 then ([] : List UInt8) else digs (m / 10)).length + 1 := by rw [digs_last hm]; simp
      have hl2 : l.length + (digs m).length ≤ 60 := by rwa [hxm, if_neg (by omega : ¬ m = 0)] at hl
      have hl3 : (UInt8.ofNat (48 + m % 10) :: l).length + (if m / 10 = 0 then 0 else (digs (m / 10)).length) ≤ 60 := by
        rw [List.length_cons]
        by_cases h1 : m / 10 = 0
        · rw [if_pos h1]; rw [if_pos h1] at hlen; simp at hlen; omega
        · rw [if_neg h1]; rw [if_neg h1] at hlen; omega
      have step : ∀ x' : Int, x'.natAbs = m / 10 → spec_Digits.l0 k x' b (txt (UInt8.ofNat (48 + m % 10) :: l)) = some (txt ((if b = true then [45] else []) ++ (if x.natAbs = 0 then [] else digs x.natAbs) ++ l)) := by
        intro x' hx'
        rw [ih k x' b _ (by omega) (by omega) (by omega) (by rw [hx']; exact hl3), hx', hxm, if_neg (by omega : ¬ m = 0), digs_last hm]
        simp
      have h10 : m % 10 < 10 := Nat.mod_lt _ (by omega)
      have size2 : (txt [UInt8.ofNat (48 + m % 10)]).size + (txt l).size ≤ 9223372036854775807 := by
        rw [txt_size, txt_size, List.length_singleton]; omega
      have join : txt [UInt8.ofNat (48 + m % 10)] ++ txt l = txt (UInt8.ofNat (48 + m % 10) :: l) := txt_append _ _
      have hm2 : m ≤ 9223372036854775808 := by omega
      rcases hs with e | e
      · rw [e, tmod_nat, tdiv_nat, if_neg (by omega)]
        rw [Option.bind_some]
        rw [one_digit (m % 10) h10 _ (dig_pos m), if_pos size2, join, step _ (rest_pos m hm2), e]
      · rw [e, tmod_neg, tdiv_neg]
        by_cases h1 : -((m % 10 : Nat) : Int) < 0
        · rw [if_pos h1]
          rw [Option.bind_some]
          rw [one_digit (m % 10) h10 _ (dig_neg m), if_pos size2, join, step _ (rest_neg m hm2), e]
        · rw [if_neg h1]
          rw [Option.bind_some]
          rw [one_digit (m % 10) h10 _ (dig_nul m h1), if_pos size2, join, step _ (rest_neg m hm2), e]

theorem spec_digits (x : Int) (hx : x.natAbs ≤ 9223372036854775808) (k : Nat) (hk : x.natAbs < k) : spec_Digits.f k x = some (txt (dec x)) := by
  unfold spec_Digits.f dec
  by_cases h0 : x = 0
  · subst h0
    rw [if_pos rfl, if_neg (by omega)]
    have : digs (0 : Int).natAbs = [48] := by rw [digs_small (by decide)]; rfl
    rw [this]; rfl
  · rw [if_neg h0]
    have h := spec_digits_loop x.natAbs k x (decide (x < 0)) [] (Nat.le_refl _) hx hk (by have := digs_short hx; rw [if_neg (by omega)]; simp only [List.length_nil]; omega)
    have e : txt [] = (⟨#[]⟩ : ByteArray) := rfl
    rw [← e, h]
    by_cases hn : x < 0
    · simp [hn, h0]
    · simp [hn, h0]


theorem encode_low (c : Int) (h0 : 0 ≤ c) (h1 : c < 128) : Go.Utf8.encode c = txt [UInt8.ofNat c.toNat] := by
  have hv : Go.Utf8.valid c = true := by
    unfold Go.Utf8.valid
    simp; omega
  unfold Go.Utf8.encode txt
  simp only [hv, if_true]
  rw [if_pos (by omega)]

theorem rune_digit (m : Nat) (h : m < 10) : Go.Utf8.encode (wrap32 (wrap64 (48 + (m : Int)))) = txt [UInt8.ofNat (48 + m)] := by
  have e : wrap32 (wrap64 (48 + (m : Int))) = 48 + (m : Int) := by unfold wrap32 wrap64; omega
  rw [e, encode_low _ (by omega) (by omega)]
  have : (48 + (m : Int)).toNat = 48 + m := by omega
  rw [this]

theorem keep_pos (m : Nat) (h : m ≤ 9223372036854775807) : wrap64 ((m / 10 : Nat) : Int) = ((m / 10 : Nat) : Int) := by unfold wrap64; omega
theorem keep_all (m : Nat) (h : m ≤ 9223372036854775807) : wrap64 (-(-(m : Int))) = (m : Int) := by unfold wrap64; omega
theorem keep_neg (m : Nat) (h : m ≤ 9223372036854775808) : wrap64 (-((m / 10 : Nat) : Int)) = -((m / 10 : Nat) : Int) := by unfold wrap64; omega
theorem keep_mod (m : Nat) : wrap64 (-(-((m % 10 : Nat) : Int))) = ((m % 10 : Nat) : Int) := by unfold wrap64; omega

theorem size_join (a b : List UInt8) (ha : a.length ≤ 20) (hb : b.length ≤ 20) : (txt a).size + (txt b).size ≤ 9223372036854775807 := by
  rw [txt_size, txt_size]; omega
theorem size_sign (a : List UInt8) (ha : a.length ≤ 20) : 1 + (txt a).size ≤ 9223372036854775807 := by
  rw [txt_size]; omega

theorem impl_digits_nat : ∀ (d n k : Nat), n ≤ d → d ≤ 9223372036854775808 → n ≤ 9223372036854775807 → 2 * d + 2 ≤ k → impl_Digits.f k (n : Int) = some (txt (digs n)) := by
  intro d
  induction d with
  | zero =>
    intro n k hn _ _ hk
    obtain ⟨k, rfl⟩ : ∃ m, k = m + 2 := ⟨k - 2, by omega⟩
    have : n = 0 := by omega
    subst this
    simp only [impl_Digits.f, impl_Digits.j0]
    rw [if_neg (by omega), if_neg (by simp), if_neg (by omega), if_pos (by omega), rune_digit 0 (by omega), digs_small (by omega)]
  | succ d ih =>
    intro n k hn hd hb hk
    obtain ⟨k, rfl⟩ : ∃ m, k = m + 2 := ⟨k - 2, by omega⟩
    simp only [impl_Digits.f, impl_Digits.j0]
    rw [if_neg (by omega), if_neg (by simp), if_neg (by omega)]
    by_cases h10 : n < 10
    · rw [if_pos (by omega), rune_digit n h10, digs_small h10]
    · rw [if_neg (by omega), tdiv_nat, tmod_nat]
      rw [keep_pos n hb, ih (n / 10) k (by omega) (by omega) (by omega) (by omega)]
      rw [Option.bind_some]
      have hs := digs_short (n := n / 10) (by omega)
      rw [rune_digit (n % 10) (by omega), if_pos (size_join _ _ hs (by simp)), txt_append, ← digs_big (by omega)]

theorem impl_digits_neg : ∀ (d n k : Nat), 0 < n → n ≤ d → n ≤ 9223372036854775808 → 2 * d + 30 ≤ k → impl_Digits.f k (-(n : Int)) = some (txt (45 :: digs n)) := by
  intro d
  induction d with
  | zero => intro n k h0 h1; omega
  | succ d ih =>
    intro n k h0 hn hb hk
    obtain ⟨k, rfl⟩ : ∃ m, k = m + 2 := ⟨k - 2, by omega⟩
    simp only [impl_Digits.f, impl_Digits.j0]
    rw [if_pos (by omega)]
    by_cases h10 : n < 10
    · rw [if_pos (by simp; omega)]
      rw [keep_all n (by omega), impl_digits_nat n n k (by omega) (by omega) (by omega) (by omega)]
      rw [Option.bind_some]
      have hs := digs_short (n := n) (by omega)
      have e1 : (⟨#[45]⟩ : ByteArray) = txt [45] := rfl
      rw [if_pos (size_sign _ hs), e1, txt_append]
      rfl
    · rw [if_neg (by simp; omega), if_pos (by omega), tdiv_neg, tmod_neg]
      rw [keep_neg n hb, keep_mod, ih (n / 10) k (by omega) (by omega) (by omega) (by omega)]
      rw [Option.bind_some]
      rw [impl_digits_nat (n % 10) (n % 10) k (by omega) (by omega) (by omega) (by omega)]
      rw [Option.bind_some]
      have hs := digs_short (n := n / 10) (by omega)
      have hs2 := digs_short (n := n % 10) (by omega)
      rw [if_pos (by rw [txt_size, txt_size, List.length_cons]; omega), txt_append, digs_small (n := n % 10) (by omega), List.cons_append, ← digs_big (by omega)]

theorem impl_digits (x : Int) (hx : (Lit.int .i64 x).wf = true) (k : Nat) (hk : 2 * x.natAbs + 30 ≤ k) : impl_Digits.f k x = some (txt (dec x)) := by
  have hb : -9223372036854775808 ≤ x ∧ x ≤ 9223372036854775807 := by
    simp only [Lit.wf, IntKind.min, IntKind.max, IntKind.signed, IntKind.bits, Bool.and_eq_true, decide_eq_true_eq, if_true] at hx
    omega
  unfold dec
  by_cases h : x < 0
  · rw [if_pos h]
    obtain ⟨n, hn, rfl⟩ : ∃ n : Nat, 0 < n ∧ x = -(n : Int) := ⟨x.natAbs, by omega, by omega⟩
    have e : (-(n : Int)).natAbs = n := by omega
    rw [e] at hk ⊢
    exact impl_digits_neg n n k hn (by omega) (by omega) (by omega)
  · rw [if_neg h]
    obtain ⟨n, rfl⟩ : ∃ n : Nat, x = (n : Int) := ⟨x.natAbs, by omega⟩
    have e : ((n : Int)).natAbs = n := by omega
    rw [e] at hk ⊢
    exact impl_digits_nat n n k (by omega) (by omega) (by omega) (by omega)


theorem FnExactDigits : laws_FnExactDigits.Pure := by
  intro x hx
  have hb : -9223372036854775808 ≤ x ∧ x ≤ 9223372036854775807 := by
    have hx' := hx
    simp only [Lit.wf, IntKind.min, IntKind.max, IntKind.signed, IntKind.bits, Bool.and_eq_true, decide_eq_true_eq, if_true] at hx'
    omega
  refine ⟨2 * x.natAbs + 30, ?_⟩
  unfold laws_FnExactDigits.f
  rw [spec_digits x (by omega) _ (by omega), impl_digits x hx _ (by omega)]
  simp


end Go.Proofs.Ytleifmecmmpbjaa.Pure
