/- Number of the program returns what the reference's returns, for every text. Conditions: none beyond the row's own. -/
import Derived.Test.YtleifmecmmpbjaaXFnExactNumberx2
namespace Go.Proofs.Ytleifmecmmpbjaa.Pure
open Go.RowKit Go.Proofs.Ytleifmecmmpbjaa.XFnExactNumber Go.Proofs.YtleifmecmmpbjaaW.PrintWords Go.Proofs.YtleifmecmmpbjaaW.PrintLast Go.Proofs.YtleifmecmmpbjaaW.PrintMore
set_option linter.unusedVariables false
set_option linter.unusedSimpArgs false

/-- Decimal digits. -/
def digs (n : Nat) : List UInt8 := if n < 10 then [UInt8.ofNat (48 + n)] else digs (n / 10) ++ [UInt8.ofNat (48 + n % 10)]
termination_by n
decreasing_by omega

/-- Bytes as a text. -/
def txt (l : List UInt8) : ByteArray := ⟨l.toArray⟩
theorem txt_append (a b : List UInt8) : txt a ++ txt b = txt (a ++ b) := ByteArray.ext (by simp [txt, ByteArray.data_append])
theorem txt_size (l : List UInt8) : (txt l).size = l.length := by simp [txt, ByteArray.size]

theorem digs_small {n : Nat} (h : n < 10) : digs n = [UInt8.ofNat (48 + n)] := by rw [digs, if_pos h]
theorem digs_big {n : Nat} (h : 10 ≤ n) : digs n = digs (n / 10) ++ [UInt8.ofNat (48 + n % 10)] := by rw [digs, if_neg (by omega)]
theorem digs_len : ∀ (k n : Nat), n < 10 ^ (k + 1) → (digs n).length ≤ k + 1
  | 0, n, h => by rw [digs_small (by simpa using h)]; simp
  | k + 1, n, h => by
    by_cases h1 : n < 10
    · rw [digs_small h1]; simp
    · rw [digs_big (by omega), List.length_append]
      have : n / 10 < 10 ^ (k + 1) := by
        rw [Nat.pow_succ] at h
        omega
      have := digs_len k (n / 10) this
      simp; omega
theorem digs_short {n : Nat} (h : n ≤ 9223372036854775808) : (digs n).length ≤ 20 := digs_len 19 n (by
  have : (10 : Nat) ^ (19 + 1) = 100000000000000000000 := by simp only [Nat.reduceAdd, Nat.reducePow]
  omega)

/-- The digits of a whole number. -/
def dec (n : Int) : List UInt8 := if n < 0 then 45 :: digs n.natAbs else digs n.natAbs

theorem tmod_nat (m : Nat) : Int.tmod (m : Int) 10 = ((m % 10 : Nat) : Int) := rfl
theorem tmod_neg (m : Nat) : Int.tmod (-(m : Int)) 10 = -((m % 10 : Nat) : Int) := by rw [Int.neg_tmod, tmod_nat]
theorem tdiv_nat (m : Nat) : Int.tdiv (m : Int) 10 = ((m / 10 : Nat) : Int) := rfl
theorem tdiv_neg (m : Nat) : Int.tdiv (-(m : Int)) 10 = -((m / 10 : Nat) : Int) := by rw [Int.neg_tdiv, tdiv_nat]

theorem one_digit (m : Nat) (h : m < 10) (y : Int) (e : y = 48 + (m : Int)) : strOfNums [y] = txt [UInt8.ofNat (48 + m)] := by
  subst e
  unfold strOfNums txt
  have : (48 + (m : Int)).toNat = 48 + m := by omega
  simp [this]

theorem digs_last {m : Nat} (h : 0 < m) : digs m = (if m / 10 = 0 then [] else digs (m / 10)) ++ [UInt8.ofNat (48 + m % 10)] := by
  by_cases h1 : m < 10
  · have : m / 10 = 0 := by omega
    have h2 : m % 10 = m := by omega
    rw [digs_small h1, if_pos this, h2]; rfl
  · rw [digs_big (by omega), if_neg (by omega)]

theorem dig_pos (m : Nat) : wrap64 (48 + ((m % 10 : Nat) : Int)) % 256 = 48 + ((m % 10 : Nat) : Int) := by unfold wrap64; omega
theorem dig_neg (m : Nat) : wrap64 (48 + wrap64 (-(-((m % 10 : Nat) : Int)))) % 256 = 48 + ((m % 10 : Nat) : Int) := by unfold wrap64; omega
theorem dig_nul (m : Nat) (h : ¬ -((m % 10 : Nat) : Int) < 0) : wrap64 (48 + (-((m % 10 : Nat) : Int))) % 256 = 48 + ((m % 10 : Nat) : Int) := by unfold wrap64; omega
theorem rest_pos (m : Nat) (h : m ≤ 9223372036854775808) : (wrap64 ((m / 10 : Nat) : Int)).natAbs = m / 10 := by unfold wrap64; omega
theorem rest_neg (m : Nat) (h : m ≤ 9223372036854775808) : (wrap64 (-((m / 10 : Nat) : Int))).natAbs = m / 10 := by unfold wrap64; omega

/-- What the reference's loop does with what is left of a number. -/
theorem spec_digits_loop : ∀ (d k : Nat) (x : Int) (b : Bool) (l : List UInt8), x.natAbs ≤ d → d ≤ 9223372036854775808 → d < k → l.length + (if x.natAbs = 0 then 0 else (digs x.natAbs).length) ≤ 60 →
    spec_Digits.l0 k x b (txt l) = some (txt ((if b = true then [45] else []) ++ (if x.natAbs = 0 then [] else digs x.natAbs) ++ l)) := by
  intro d
  induction d with
  | zero =>
    intro k x b l hx _ hk hl
    obtain ⟨k, rfl⟩ : ∃ m, k = m + 1 := ⟨k - 1, by omega⟩
    have : x = 0 := by omega
    subst this
    have hl' : l.length ≤ 60 := by simpa using hl
    have he : (⟨#[45]⟩ : ByteArray) ++ txt l = txt (45 :: l) := txt_append [45] l
    simp only [spec_Digits.l0, if_true]
    rw [txt_size, if_pos (by omega : 1 + l.length ≤ 9223372036854775807), he]
    cases b <;> simp
  | succ d ih =>
    intro k x b l hx hd hk hl
    obtain ⟨k, rfl⟩ : ∃ m, k = m + 1 := ⟨k - 1, by omega⟩
    simp only [spec_Digits.l0]
    by_cases h0 : x = 0
    · subst h0
      have hl' : l.length ≤ 60 := by simpa using hl
      have he : (⟨#[45]⟩ : ByteArray) ++ txt l = txt (45 :: l) := txt_append [45] l
      simp only [if_true]
      rw [txt_size, if_pos (by omega : 1 + l.length ≤ 9223372036854775807), he]
      cases b <;> simp
    · rw [if_neg h0]
      obtain ⟨m, hm, hs⟩ : ∃ m : Nat, 0 < m ∧ (x = (m : Int) ∨ x = -(m : Int)) := ⟨x.natAbs, by omega, by omega⟩
      have hxm : x.natAbs = m := by omega
      have hlen : (digs m).length = (if m / 10 = 0 then ([] : List UInt8) else digs (m / 10)).length + 1 := by rw [digs_last hm]; simp
      have hl2 : l.length + (digs m).length ≤ 60 := by rwa [hxm, if_neg (by omega : ¬ m = 0)] at hl
      have hl3 : (UInt8.ofNat (48 + m % 10) :: l).length + (if m / 10 = 0 then 0 else (digs (m / 10)).length) ≤ 60 := by
        rw [List.length_cons]
        by_cases h1 : m / 10 = 0
        · rw [if_pos h1]; rw [if_pos h1] at hlen; simp at hlen; omega
        · rw [if_neg h1]; rw [if_neg h1] at hlen; omega
      have step : ∀ x' : Int, x'.natAbs = m / 10 → spec_Digits.l0 k x' b (txt (UInt8.ofNat (48 + m % 10) :: l)) = some (txt ((if b = true then [45] else []) ++ (if x.natAbs = 0 then [] else digs x.natAbs) ++ l)) := by
        intro x' hx'
        rw [ih k x' b _ (by omega) (by omega) (by omega) (by rw [hx']; exact hl3), hx', hxm, if_neg (by omega : ¬ m = 0), digs_last hm]
        simp
      have h10 : m % 10 < 10 := Nat.mod_lt _ (by omega)
      have size2 : (txt [UInt8.ofNat (48 + m % 10)]).size + (txt l).size ≤ 9223372036854775807 := by
        rw [txt_size, txt_size, List.length_singleton]; omega
      have join : txt [UInt8.ofNat (48 + m % 10)] ++ txt l = txt (UInt8.ofNat (48 + m % 10) :: l) := txt_append _ _
      have hm2 : m ≤ 9223372036854775808 := by omega
      rcases hs with e | e
      · rw [e, tmod_nat, tdiv_nat, if_neg (by omega)]
        rw [Option.bind_some]
        rw [one_digit (m % 10) h10 _ (dig_pos m), if_pos size2, join, step _ (rest_pos m hm2), e]
      · rw [e, tmod_neg, tdiv_neg]
        by_cases h1 : -((m % 10 : Nat) : Int) < 0
        · rw [if_pos h1]
          rw [Option.bind_some]
          rw [one_digit (m % 10) h10 _ (dig_neg m), if_pos size2, join, step _ (rest_neg m hm2), e]
        · rw [if_neg h1]
          rw [Option.bind_some]
          rw [one_digit (m % 10) h10 _ (dig_nul m h1), if_pos size2, join, step _ (rest_neg m hm2), e]

theorem spec_digits (x : Int) (hx : x.natAbs ≤ 9223372036854775808) (k : Nat) (hk : x.natAbs < k) : spec_Digits.f k x = some (txt (dec x)) := by
  unfold spec_Digits.f dec
  by_cases h0 : x = 0
  · subst h0
    rw [if_pos rfl, if_neg (by omega)]
    have : digs (0 : Int).natAbs = [48] := by rw [digs_small (by decide)]; rfl
    rw [this]; rfl
  · rw [if_neg h0]
    have h := spec_digits_loop x.natAbs k x (decide (x < 0)) [] (Nat.le_refl _) hx hk (by have := digs_short hx; rw [if_neg (by omega)]; simp only [List.length_nil]; omega)
    have e : txt [] = (⟨#[]⟩ : ByteArray) := rfl
    rw [← e, h]
    by_cases hn : x < 0
    · simp [hn, h0]
    · simp [hn, h0]


theorem encode_low (c : Int) (h0 : 0 ≤ c) (h1 : c < 128) : Go.Utf8.encode c = txt [UInt8.ofNat c.toNat] := by
  have hv : Go.Utf8.valid c = true := by
    unfold Go.Utf8.valid
    simp; omega
  unfold Go.Utf8.encode txt
  simp only [hv, if_true]
  rw [if_pos (by omega)]

theorem rune_digit (m : Nat) (h : m < 10) : Go.Utf8.encode (wrap32 (wrap64 (48 + (m : Int)))) = txt [UInt8.ofNat (48 + m)] := by
  have e : wrap32 (wrap64 (48 + (m : Int))) = 48 + (m : Int) := by unfold wrap32 wrap64; omega
  rw [e, encode_low _ (by omega) (by omega)]
  have : (48 + (m : Int)).toNat = 48 + m := by omega
  rw [this]

theorem keep_pos (m : Nat) (h : m ≤ 9223372036854775807) : wrap64 ((m / 10 : Nat) : Int) = ((m / 10 : Nat) : Int) := by unfold wrap64; omega
theorem keep_all (m : Nat) (h : m ≤ 9223372036854775807) : wrap64 (-(-(m : Int))) = (m : Int) := by unfold wrap64; omega
theorem keep_neg (m : Nat) (h : m ≤ 9223372036854775808) : wrap64 (-((m / 10 : Nat) : Int)) = -((m / 10 : Nat) : Int) := by unfold wrap64; omega
theorem keep_mod (m : Nat) : wrap64 (-(-((m % 10 : Nat) : Int))) = ((m % 10 : Nat) : Int) := by unfold wrap64; omega

theorem size_join (a b : List UInt8) (ha : a.length ≤ 20) (hb : b.length ≤ 20) : (txt a).size + (txt b).size ≤ 9223372036854775807 := by
  rw [txt_size, txt_size]; omega
theorem size_sign (a : List UInt8) (ha : a.length ≤ 20) : 1 + (txt a).size ≤ 9223372036854775807 := by
  rw [txt_size]; omega

theorem impl_digits_nat : ∀ (d n k : Nat), n ≤ d → d ≤ 9223372036854775808 → n ≤ 9223372036854775807 → 2 * d + 2 ≤ k → impl_Digits.f k (n : Int) = some (txt (digs n)) := by
  intro d
  induction d with
  | zero =>
    intro n k hn _ _ hk
    obtain ⟨k, rfl⟩ : ∃ m, k = m + 2 := ⟨k - 2, by omega⟩
    have : n = 0 := by omega
    subst this
    simp only [impl_Digits.f, impl_Digits.j0]
    rw [if_neg (by omega), if_neg (by simp), if_neg (by omega), if_pos (by omega), rune_digit 0 (by omega), digs_small (by omega)]
  | succ d ih =>
    intro n k hn hd hb hk
    obtain ⟨k, rfl⟩ : ∃ m, k = m + 2 := ⟨k - 2, by omega⟩
    simp only [impl_Digits.f, impl_Digits.j0]
    rw [if_neg (by omega), if_neg (by simp), if_neg (by omega)]
    by_cases h10 : n < 10
    · rw [if_pos (by omega), rune_digit n h10, digs_small h10]
    · rw [if_neg (by omega), tdiv_nat, tmod_nat]
      rw [keep_pos n hb, ih (n / 10) k (by omega) (by omega) (by omega) (by omega)]
      rw [Option.bind_some]
      have hs := digs_short (n := n / 10) (by omega)
      rw [rune_digit (n % 10) (by omega), if_pos (size_join _ _ hs (by simp)), txt_append, ← digs_big (by omega)]

theorem impl_digits_neg : ∀ (d n k : Nat), 0 < n → n ≤ d → n ≤ 9223372036854775808 → 2 * d + 30 ≤ k → impl_Digits.f k (-(n : Int)) = some (txt (45 :: digs n)) := by
  intro d
  induction d with
  | zero => intro n k h0 h1; omega
  | succ d ih =>
    intro n k h0 hn hb hk
    obtain ⟨k, rfl⟩ : ∃ m, k = m + 2 := ⟨k - 2, by omega⟩
    simp only [impl_Digits.f, impl_Digits.j0]
    rw [if_pos (by omega)]
    by_cases h10 : n < 10
    · rw [if_pos (by simp; omega)]
      rw [keep_all n (by omega), impl_digits_nat n n k (by omega) (by omega) (by omega) (by omega)]
      rw [Option.bind_some]
      have hs := digs_short (n := n) (by omega)
      have e1 : (⟨#[45]⟩ : ByteArray) = txt [45] := rfl
      rw [if_pos (size_sign _ hs), e1, txt_append]
      rfl
    · rw [if_neg (by simp; omega), if_pos (by omega), tdiv_neg, tmod_neg]
      rw [keep_neg n hb, keep_mod, ih (n / 10) k (by omega) (by omega) (by omega) (by omega)]
      rw [Option.bind_some]
      rw [impl_digits_nat (n % 10) (n % 10) k (by omega) (by omega) (by omega) (by omega)]
      rw [Option.bind_some]
      have hs := digs_short (n := n / 10) (by omega)
      have hs2 := digs_short (n := n % 10) (by omega)
      rw [if_pos (by rw [txt_size, txt_size, List.length_cons]; omega), txt_append, digs_small (n := n % 10) (by omega), List.cons_append, ← digs_big (by omega)]

theorem impl_digits (x : Int) (hx : (Lit.int .i64 x).wf = true) (k : Nat) (hk : 2 * x.natAbs + 30 ≤ k) : impl_Digits.f k x = some (txt (dec x)) := by
  have hb : -9223372036854775808 ≤ x ∧ x ≤ 9223372036854775807 := by
    simp only [Lit.wf, IntKind.min, IntKind.max, IntKind.signed, IntKind.bits, Bool.and_eq_true, decide_eq_true_eq, if_true] at hx
    omega
  unfold dec
  by_cases h : x < 0
  · rw [if_pos h]
    obtain ⟨n, hn, rfl⟩ : ∃ n : Nat, 0 < n ∧ x = -(n : Int) := ⟨x.natAbs, by omega, by omega⟩
    have e : (-(n : Int)).natAbs = n := by omega
    rw [e] at hk ⊢
    exact impl_digits_neg n n k hn (by omega) (by omega) (by omega)
  · rw [if_neg h]
    obtain ⟨n, rfl⟩ : ∃ n : Nat, x = (n : Int) := ⟨x.natAbs, by omega⟩
    have e : ((n : Int)).natAbs = n := by omega
    rw [e] at hk ⊢
    exact impl_digits_nat n n k (by omega) (by omega) (by omega) (by omega)

/-- Is it a word. -/
def wok (x : Int) : Bool := decide (-2147483648 ≤ x ∧ x ≤ 2147483647)
theorem spec_wordok (x : Int) : spec_WordOk.f x = some (wok x) := by
  unfold spec_WordOk.f spec_l1In.f wok
  by_cases h : x ≥ -2147483648
  · have h' : -2147483648 ≤ x := h
    rw [if_pos h, Option.bind_some]; simp [h']
  · have h' : ¬ -2147483648 ≤ x := h
    rw [if_neg h, Option.bind_some]; simp [h']
theorem impl_wordok (x : Int) : impl_WordOk.f x = some (wok x) := by
  unfold impl_WordOk.f impl_within.f wok
  by_cases h : x ≥ -2147483648
  · have h' : -2147483648 ≤ x := h
    rw [if_pos h, Option.bind_some]; simp [h']
  · have h' : ¬ -2147483648 ≤ x := h
    rw [if_neg h, Option.bind_some]; simp [h']
theorem wok_iff (x : Int) : wok x = true ↔ -2147483648 ≤ x ∧ x ≤ 2147483647 := by unfold wok; simp

theorem toList_data (s : ByteArray) : s.toList = s.data.toList := ByteArray.toList_eq s
theorem size_data (s : ByteArray) : s.size = s.data.toList.length := Array.length_toList.symm
/-- A text's bytes from a place on: the first of them, and the rest. -/
theorem bt_drop (s : ByteArray) (i : Int) (h0 : 0 ≤ i) {c : UInt8} {r : List UInt8} (h : s.data.toList.drop i.toNat = c :: r) :
    bt s i = (c.toNat : Int) ∧ i < (s.size : Int) ∧ s.data.toList.drop (i + 1).toNat = r := by
  have hl : i.toNat < s.data.toList.length := by
    apply Decidable.byContradiction
    intro hn
    rw [List.drop_eq_nil_of_le (by omega)] at h
    cases h
  have hs : i.toNat < s.size := by
    have : s.size = s.data.toList.length := size_data s
    omega
  rw [List.drop_eq_getElem_cons hl] at h
  injection h with h1 h2
  refine ⟨?_, by omega, ?_⟩
  · unfold bt
    rw [dif_pos hs, ← h1]
    rfl
  · rw [← h2]
    congr 1
    omega
theorem drop_end (s : ByteArray) (i : Int) (h0 : 0 ≤ i) (h : s.data.toList.drop i.toNat = []) : ¬ i < (s.size : Int) := by
  have h1 := List.drop_eq_nil_iff.1 h
  have : s.size = s.data.toList.length := size_data s
  omega

/-- What a number's digits come to: at their end fin tells it. -/
def numRun (fin : Int → Option (Int × Bool)) : List UInt8 → Int → Option (Int × Bool)
  | [], x => fin x
  | c :: r, x => if 48 ≤ c.toNat ∧ c.toNat ≤ 57 then numRun fin r (10 * x + c.toNat - 48) else some (0, false)
/-- The end of both: a word whose digits the text is. -/
def numEnd (a : ByteArray) (x : Int) : Option (Int × Bool) := if wok x = true then (if (txt (dec x)).toList = a.toList then some (x, true) else some (0, false)) else some (0, false)

theorem numRun_some (fin : Int → Option (Int × Bool)) (hf : ∀ x, ∃ r, fin x = some r) : ∀ (D : List UInt8) (x : Int), ∃ r, numRun fin D x = some r
  | [], x => hf x
  | c :: r, x => by
    unfold numRun
    split
    · exact numRun_some fin hf r _
    · exact ⟨_, rfl⟩
theorem numEnd_some (a : ByteArray) (x : Int) : ∃ r, numEnd a x = some r := by
  unfold numEnd
  split
  · split <;> exact ⟨_, rfl⟩
  · exact ⟨_, rfl⟩
theorem numRun_congr (f g : Int → Option (Int × Bool)) (h : ∀ x, f x = g x) : ∀ (D : List UInt8) (x : Int), numRun f D x = numRun g D x
  | [], x => h x
  | c :: r, x => by
    unfold numRun
    split
    · exact numRun_congr f g h r _
    · rfl

/-- How great a number of so many digits can be: what is left of ten. -/
def room (n : Nat) : Int := 10 ^ (10 - n)
theorem room_succ {n : Nat} (h : n + 1 ≤ 10) : room n = 10 * room (n + 1) := by
  unfold room
  have : 10 - n = (10 - (n + 1)) + 1 := by omega
  rw [this, Int.pow_succ, Int.mul_comm]
theorem room_le (n : Nat) : room n ≤ 10000000000 := by
  unfold room
  have h : (10 : Nat) ^ (10 - n) ≤ 10 ^ 10 := Nat.pow_le_pow_right (by decide) (by omega)
  have e : (10 : Nat) ^ 10 = 10000000000 := by decide
  have : (((10 : Nat) ^ (10 - n) : Nat) : Int) = (10 : Int) ^ (10 - n) := by simp
  omega

theorem spec_end (a : ByteArray) (x : Int) (k : Nat) (hk : 4294967400 ≤ k) : spec_Number.j4 k a x = numEnd a x := by
  obtain ⟨k, rfl⟩ : ∃ m, k = m + 1 := ⟨k - 1, by omega⟩
  unfold numEnd
  simp only [spec_Number.j4]
  rw [spec_wordok, Option.bind_some]
  by_cases h : wok x = true
  · have hb := (wok_iff x).1 h
    rw [if_pos h, if_pos h, spec_digits x (by omega) k (by omega), Option.bind_some]
  · rw [if_neg h, if_neg h]

theorem step_spec (x c : Int) (hx : 0 ≤ x) (hx1 : x < 10000000000) (hc : 0 ≤ c) (hc1 : c < 256) : wrap64 (wrap64 (wrap64 (10 * x) + wrap64 c) - 48) = 10 * x + c - 48 := by
  unfold wrap64; omega
theorem step_impl (x c : Int) (hx : 0 ≤ x) (hx1 : x < 10000000000) (hc : 48 ≤ c) (hc1 : c ≤ 57) : wrap64 (wrap64 (10 * x) + (c - 48) % 256) = 10 * x + c - 48 := by
  unfold wrap64; omega
theorem step_next (i : Int) (h0 : 0 ≤ i) (h1 : i < 9223372036854775807) : wrap64 (i + 1) = i + 1 := by unfold wrap64; omega
theorem step_neg (x : Int) (hx : 0 ≤ x) (hx1 : x ≤ 10000000000) : wrap64 (-x) = -x := by unfold wrap64; omega
theorem step_mul (x s : Int) (hx : 0 ≤ x) (hx1 : x ≤ 10000000000) (hs : s = 1 ∨ s = -1) : wrap64 (x * s) = x * s := by
  rcases hs with rfl | rfl <;> unfold wrap64 <;> omega

theorem room_step (x : Int) (c : UInt8) (n : Nat) (h : n + 1 ≤ 10) (hx : 0 ≤ x) (hx1 : x < room (n + 1)) (h1 : 48 ≤ c.toNat) (h2 : c.toNat ≤ 57) : 0 ≤ 10 * x + c.toNat - 48 ∧ 10 * x + c.toNat - 48 < room n := by
  rw [room_succ h]; omega

theorem spec_number_loop (a : ByteArray) (ha : a.size ≤ 1048576) (at_ : Int) : ∀ (D : List UInt8) (k : Nat) (i x : Int), 0 ≤ i → a.data.toList.drop i.toNat = D → 0 ≤ x → x < room D.length → D.length ≤ 10 → 4294967401 + D.length ≤ k →
    spec_Number.l0 k a at_ x i = numRun (fun x => if at_ = 1 then numEnd a (-x) else numEnd a x) D x := by
  intro D
  induction D with
  | nil =>
    intro k i x h0 hD hx hx1 hl hk
    simp only [List.length_nil, Nat.add_zero] at hk
    obtain ⟨k, rfl⟩ : ∃ m, k = m + 1 := ⟨k - 1, by omega⟩
    have hr := room_le 0
    simp only [List.length_nil] at hx1
    simp only [spec_Number.l0, numRun]
    rw [if_neg (drop_end a i h0 hD)]
    by_cases e : at_ = 1
    · rw [if_pos e, if_pos e, step_neg x hx (by omega), spec_end a _ k (by omega)]
    · rw [if_neg e, if_neg e, spec_end a _ k (by omega)]
  | cons c r ih =>
    intro k i x h0 hD hx hx1 hl hk
    simp only [List.length_cons] at hk hl hx1
    obtain ⟨k, rfl⟩ : ∃ m, k = m + 1 := ⟨k - 1, by omega⟩
    obtain ⟨hb, hlt, hr⟩ := bt_drop a i h0 hD
    have hroom := room_le (r.length + 1)
    have hc := c.toNat_lt
    simp only [spec_Number.l0, numRun]
    rw [if_pos hlt, if_pos h0, hb]
    by_cases h1 : (c.toNat : Int) < 48
    · rw [if_pos h1, if_neg (by omega)]
    · rw [if_neg h1]
      by_cases h2 : (c.toNat : Int) > 57
      · rw [if_pos h2, if_neg (by omega)]
      · rw [if_neg h2, if_pos (by omega), step_spec x _ hx (by omega) (by omega) (by omega), step_next i h0 (by omega)]
        have hs := room_step x c r.length hl hx hx1 (by omega) (by omega)
        exact ih k (i + 1) _ (by omega) hr hs.1 hs.2 (by omega) (by omega)

theorem impl_end (a : ByteArray) (x : Int) (k : Nat) (hk : 8589935000 ≤ k) :
    ((impl_WordOk.f x).bind fun t116 => (if t116 = true then ((impl_Digits.f k x).bind fun t117 => (if t117.toList = a.toList then (some (x, true)) else (some (0, false)))) else (some (0, false)))) = numEnd a x := by
  unfold numEnd
  rw [impl_wordok, Option.bind_some]
  by_cases h : wok x = true
  · have hb := (wok_iff x).1 h
    have hw : (Lit.int .i64 x).wf = true := by
      simp only [Lit.wf, IntKind.min, IntKind.max, IntKind.signed, IntKind.bits, Bool.and_eq_true, decide_eq_true_eq, if_true]
      omega
    rw [if_pos h, if_pos h, impl_digits x hw k (by omega), Option.bind_some]
  · rw [if_neg h, if_neg h]

theorem impl_number_loop (a ds : ByteArray) (hd : ds.size ≤ 1048576) (s : Int) (hs : s = 1 ∨ s = -1) : ∀ (D : List UInt8) (k : Nat) (i x : Int), 0 ≤ i → ds.data.toList.drop i.toNat = D → 0 ≤ x → x < room D.length → D.length ≤ 10 → 8589935001 + D.length ≤ k →
    impl_Number.l0 k a x ds s (ds.size : Int) i = numRun (fun x => numEnd a (x * s)) D x := by
  intro D
  induction D with
  | nil =>
    intro k i x h0 hD hx hx1 hl hk
    simp only [List.length_nil, Nat.add_zero] at hk
    obtain ⟨k, rfl⟩ : ∃ m, k = m + 1 := ⟨k - 1, by omega⟩
    have hr := room_le 0
    simp only [List.length_nil] at hx1
    simp only [impl_Number.l0, numRun]
    rw [if_neg (drop_end ds i h0 hD), step_mul x s hx (by omega) hs]
    exact impl_end a _ k (by omega)
  | cons c r ih =>
    intro k i x h0 hD hx hx1 hl hk
    simp only [List.length_cons] at hk hl hx1
    obtain ⟨k, rfl⟩ : ∃ m, k = m + 1 := ⟨k - 1, by omega⟩
    obtain ⟨hb, hlt, hr⟩ := bt_drop ds i h0 hD
    have hroom := room_le (r.length + 1)
    have hc := c.toNat_lt
    simp only [impl_Number.l0, numRun]
    rw [if_pos hlt, if_pos h0, if_pos hlt, hb]
    unfold impl_isDigit.f
    by_cases h1 : (c.toNat : Int) ≥ 48
    · rw [if_pos h1, Option.bind_some]
      by_cases h2 : (c.toNat : Int) ≤ 57
      · rw [if_pos (decide_eq_true h2), if_pos (by omega), step_impl x _ hx (by omega) (by omega) (by omega), step_next i h0 (by omega)]
        have hs := room_step x c r.length hl hx hx1 (by omega) (by omega)
        exact ih k (i + 1) _ (by omega) hr hs.1 hs.2 (by omega) (by omega)
      · rw [if_neg (by simp [h2]), if_neg (by omega)]
    · rw [if_neg h1, Option.bind_some, if_neg (by simp), if_neg (by omega)]


/-- The reference's Number, whole. -/
def numAll (a : ByteArray) : Option (Int × Bool) :=
  match a.data.toList with
  | [] => some (0, false)
  | c :: r => if c = 45 then (if r.length < 1 ∨ 10 < r.length then some (0, false) else numRun (fun x => numEnd a (-x)) r 0) else if 10 < (c :: r).length then some (0, false) else numRun (numEnd a) (c :: r) 0

theorem room_pos (n : Nat) : 0 < room n := by
  unfold room
  have h : 0 < (10 : Nat) ^ (10 - n) := Nat.pow_pos (by decide)
  have : (((10 : Nat) ^ (10 - n) : Nat) : Int) = (10 : Int) ^ (10 - n) := by simp
  omega

theorem spec_j2 (a : ByteArray) (ha : a.size ≤ 1048576) (at_ : Int) (h0 : 0 ≤ at_) (D : List UInt8) (hD : a.data.toList.drop at_.toNat = D) (hsz : (a.size : Int) - at_ = D.length) (k : Nat) (hk : 4294967500 ≤ k) :
    spec_Number.j1 k a at_ = if D.length < 1 ∨ 10 < D.length then some (0, false) else numRun (fun x => if at_ = 1 then numEnd a (-x) else numEnd a x) D 0 := by
  obtain ⟨k, rfl⟩ : ∃ m, k = m + 2 := ⟨k - 2, by omega⟩
  have hw : wrap64 ((a.size : Int) - at_) = D.length := by
    rw [hsz]
    unfold wrap64
    omega
  simp only [spec_Number.j1, spec_Number.j2]
  rw [hw]
  by_cases h1 : (D.length : Int) < 1
  · rw [if_pos h1, if_pos trivial, if_pos (by omega)]
  · rw [if_neg h1]
    by_cases h2 : (D.length : Int) > 10
    · rw [if_pos (decide_eq_true h2), if_pos (by omega)]
    · rw [if_neg (by simp; omega), if_neg (by omega)]
      exact spec_number_loop a ha at_ D k at_ 0 h0 hD (by omega) (room_pos _) (by omega) (by omega)

theorem spec_number (a : ByteArray) (ha : a.size ≤ 1048576) (k : Nat) (hk : 4294967600 ≤ k) : spec_Number.f k a = numAll a := by
  obtain ⟨k, rfl⟩ : ∃ m, k = m + 1 := ⟨k - 1, by omega⟩
  unfold spec_Number.f numAll
  rw [toList_data]
  have hsd := size_data a
  cases e : a.data.toList with
  | nil =>
    rw [e] at hsd
    simp only [List.length_nil] at hsd
    simp only [if_true, spec_Number.j0]
    rw [if_neg (by simp), spec_j2 a ha 0 (by omega) [] (by rw [e]; rfl) (by rw [hsd]; rfl) k (by omega), if_pos (by simp)]
  | cons c r =>
    have hsz : a.size = r.length + 1 := by rw [hsd, e]; rfl
    have hd0 : a.data.toList.drop (0 : Int).toNat = c :: r := by rw [e]; rfl
    obtain ⟨hb, hlt, hr⟩ := bt_drop a 0 (by omega) hd0
    have hc45 : (c.toNat : Int) = 45 ↔ c = 45 := by
      constructor
      · intro h; apply UInt8.toNat.inj; simpa using (by omega : c.toNat = 45)
      · rintro rfl; rfl
    rw [if_neg (by simp), if_pos (by omega), hb]
    simp only [spec_Number.j0]
    by_cases h45 : c = 45
    · rw [if_pos (by simpa using hc45.2 h45), spec_j2 a ha 1 (by omega) r (by simpa using hr) (by omega) k (by omega)]
      simp only [h45, if_true]
    · rw [if_neg (by simp; exact fun h => h45 (hc45.1 h)), spec_j2 a ha 0 (by omega) (c :: r) hd0 (by rw [hsz]; simp) k (by omega)]
      simp only [h45, if_false]
      by_cases h10 : 10 < (c :: r).length
      · rw [if_pos (.inr h10), if_pos h10]
      · rw [if_neg (by simp; simp at h10; omega), if_neg h10]
        exact numRun_congr _ _ (fun x => by rw [if_neg (by omega)]) _ _

theorem impl_j1 (a ds : ByteArray) (hd : ds.size ≤ 1048576) (s : Int) (hs : s = 1 ∨ s = -1) (k : Nat) (hk : 8589935100 ≤ k) :
    impl_Number.j1 k a 0 ds s = if ds.data.toList.length < 1 ∨ 10 < ds.data.toList.length then some (0, false) else numRun (fun x => numEnd a (x * s)) ds.data.toList 0 := by
  obtain ⟨k, rfl⟩ : ∃ m, k = m + 2 := ⟨k - 2, by omega⟩
  have hsd := size_data ds
  simp only [impl_Number.j1, impl_Number.j2]
  rw [toList_data]
  by_cases h1 : ds.data.toList = []
  · rw [if_pos h1, if_pos trivial, if_pos (by rw [h1]; simp)]
  · have hl : 1 ≤ ds.data.toList.length := by
      cases e : ds.data.toList with
      | nil => exact absurd e h1
      | cons _ _ => simp
    rw [if_neg h1]
    by_cases h2 : (ds.size : Int) > 10
    · rw [if_pos (decide_eq_true h2), if_pos (by omega)]
    · rw [if_neg (by simp; omega), if_neg (by omega)]
      exact impl_number_loop a ds hd s hs ds.data.toList k 0 0 (by omega) rfl (by omega) (room_pos _) (by omega) (by omega)

theorem impl_number (a : ByteArray) (ha : a.size ≤ 1048576) (k : Nat) (hk : 8589935200 ≤ k) : impl_Number.f k a = numAll a := by
  obtain ⟨k, rfl⟩ : ∃ m, k = m + 1 := ⟨k - 1, by omega⟩
  unfold impl_Number.f numAll
  rw [toList_data]
  have hsd := size_data a
  cases e : a.data.toList with
  | nil =>
    simp only [if_true, impl_Number.j0]
    rw [if_neg (by simp), impl_j1 a a ha 1 (.inl rfl) k (by omega), if_pos (by rw [e]; simp)]
  | cons c r =>
    have hsz : a.size = r.length + 1 := by rw [hsd, e]; rfl
    have hd0 : a.data.toList.drop (0 : Int).toNat = c :: r := by rw [e]; rfl
    obtain ⟨hb, hlt, hr⟩ := bt_drop a 0 (by omega) hd0
    have hc45 : (c.toNat : Int) = 45 ↔ c = 45 := by
      constructor
      · intro h; apply UInt8.toNat.inj; simpa using (by omega : c.toNat = 45)
      · rintro rfl; rfl
    have hx : (a.extract 1 a.size).data.toList = r := by
      rw [ByteArray.data_extract]
      simp [hsz, e]
    rw [if_neg (by simp), if_pos (by omega), hb]
    simp only [impl_Number.j0]
    by_cases h45 : c = 45
    · have hxs : (a.extract 1 a.size).size ≤ 1048576 := by rw [size_data, hx]; omega
      rw [if_pos (by simpa using hc45.2 h45), if_pos (by omega), impl_j1 a _ hxs (-1) (.inr rfl) k (by omega), hx]
      simp only [h45, if_true]
      by_cases h1 : r.length < 1 ∨ 10 < r.length
      · rw [if_pos h1, if_pos h1]
      · rw [if_neg h1, if_neg h1]
        exact numRun_congr _ _ (fun x => by rw [Int.mul_neg, Int.mul_one]) _ _
    · rw [if_neg (by simp; exact fun h => h45 (hc45.1 h)), impl_j1 a a ha 1 (.inl rfl) k (by omega), e]
      simp only [h45, if_false]
      by_cases h10 : 10 < (c :: r).length
      · rw [if_pos (.inr h10), if_pos h10]
      · rw [if_neg (by simp; simp at h10; omega), if_neg h10]
        exact numRun_congr _ _ (fun x => by rw [Int.mul_one]) _ _

theorem numAll_some (a : ByteArray) : ∃ r, numAll a = some r := by
  unfold numAll
  split
  · exact ⟨_, rfl⟩
  · split
    · split
      · exact ⟨_, rfl⟩
      · exact numRun_some _ (fun x => numEnd_some a _) _ _
    · split
      · exact ⟨_, rfl⟩
      · exact numRun_some _ (fun x => numEnd_some a _) _ _


theorem FnExactNumber : laws_FnExactNumber.Pure := by
  intro a _
  refine ⟨8589935300, ?_⟩
  unfold laws_FnExactNumber.f
  by_cases hb : (a.size : Int) > 1048576
  · rw [if_pos hb]
  · obtain ⟨r, hr⟩ := numAll_some a
    rw [if_neg hb, spec_number a (by omega) _ (by omega), impl_number a (by omega) _ (by omega), hr, Option.bind_some, Option.bind_some]
    simp


end Go.Proofs.Ytleifmecmmpbjaa.Pure
