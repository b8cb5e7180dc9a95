/- What the functions that FnExactTokens runs come to, and that the law's own run comes to true. -/
import Derived.Test.YtkingfejeangbaaAC
import Derived.Test.YtkingfejeangbaaAMFnExactTokens0
import Derived.Test.YtkingfejeangbaaAMFnExactTokens1
namespace Go.Proofs.Ytkingfejeangbaa.Pure
open Go Go.AM Go.AMx Go.Proofs.Ytkingfejeangbaa.XFnExactTokens
set_option linter.unusedVariables false
set_option linter.unusedSimpArgs false
/-! Words. -/
def wok (x : Int) : Bool := decide (-2147483648 ≤ x ∧ x ≤ 2147483647)
theorem spec_in (k : Nat) (x lo hi : Int) : spec_l1In k x lo hi = some (decide (lo ≤ x ∧ x ≤ hi)) := by rw [spec_l1In_e, in_ge]
theorem impl_in (k : Nat) (x lo hi : Int) : impl_within k x lo hi = some (decide (lo ≤ x ∧ x ≤ hi)) := by rw [impl_within_e, in_ge]
theorem spec_wok (k : Nat) (x : Int) : spec_WordOk k x = some (wok x) := by rw [spec_WordOk_e, spec_in, bindO_some]; rfl
theorem impl_wok (k : Nat) (x : Int) : impl_WordOk k x = some (wok x) := by rw [impl_WordOk_e, impl_in, bindO_some]; rfl

/-! Numbers of digits alone: the program's and the reference's. -/
def isL (c : Int) : Bool := bif decide (c ≥ 97) then (bif !(decide (c ≤ 122)) then (bif decide (c ≥ 65) then decide (c ≤ 90) else false) else true) else (bif decide (c ≥ 65) then decide (c ≤ 90) else false)
def isD (c : Int) : Bool := decide (48 ≤ c ∧ c ≤ 57)
theorem spec_letter (k : Nat) (c : Int) : spec_l5Letter k c = some (isL c) := by rw [spec_l5Letter_e]; simp only [iteB_ss]; rfl
theorem impl_letter (k : Nat) (c : Int) : impl_isLetter k c = some (isL c) := by rw [impl_isLetter_e]; simp only [iteB_ss]; rfl
theorem spec_digit (k : Nat) (c : Int) : spec_l5Digit k c = some (isD c) := by rw [spec_l5Digit_e, in_ge]; rfl
theorem impl_digit (k : Nat) (c : Int) : impl_isDigit k c = some (isD c) := by rw [impl_isDigit_e, in_ge]; rfl
/-- A digit's text. -/
def ch (d : Int) : ByteArray := bytesVal [IntKind.wrap .u8 (IntKind.wrap .i64 (48 + d))]
theorem ch_size (d : Int) : (ch d).size = 1 := rfl
theorem ch_enc {d : Int} (h0 : 0 ≤ d) (h : d ≤ 9) : Utf8.encode (IntKind.wrap .i32 (IntKind.wrap .i64 (48 + d))) = ch d := by
  have : d = 0 ∨ d = 1 ∨ d = 2 ∨ d = 3 ∨ d = 4 ∨ d = 5 ∨ d = 6 ∨ d = 7 ∨ d = 8 ∨ d = 9 := by omega
  rcases this with rfl | rfl | rfl | rfl | rfl | rfl | rfl | rfl | rfl | rfl <;> rfl
def dg : Nat → Int → ByteArray
  | 0, _ => ByteArray.empty
  | m + 1, v => if v = 0 then ByteArray.empty else dg m (v / 10) ++ ch (v % 10)
theorem dg_size : ∀ (m : Nat) (v : Int), (dg m v).size ≤ m
  | 0, _ => Nat.le_refl _
  | m + 1, v => by
    unfold dg
    split
    · exact Nat.zero_le _
    · rw [ByteArray.size_append, ch_size]; have := dg_size m (v / 10); omega
theorem dg_zero : ∀ m : Nat, dg m 0 = ByteArray.empty
  | 0 => rfl
  | m + 1 => by unfold dg; rw [if_pos rfl]
theorem spec_dg (k : Nat) : ∀ (m n : Nat) (v : Int) (t : ByteArray), 0 ≤ v → v ≤ 99999999999 → v < 10 ^ m → m < n → t.size + m ≤ 1000 → spec_Digits.l5 k n v false t = some (dg m v ++ t)
  | 0, n, v, t, h0, hb0, h1, h2, h3 => by
    obtain ⟨n, rfl⟩ : ∃ p, n = p + 1 := ⟨n - 1, by omega⟩
    have hx : v = 0 := by simp at h1; omega
    subst hx
    rw [spec_Digits.l5_s]
    show iteB false _ (iteB false _ (some t)) = some (ByteArray.empty ++ t)
    rw [iteB_false, iteB_false, ByteArray.empty_append]
  | m + 1, n, v, t, h0, hb0, h1, h2, h3 => by
    obtain ⟨n, rfl⟩ : ∃ p, n = p + 1 := ⟨n - 1, by omega⟩
    by_cases hx : v = 0
    · subst hx
      rw [spec_Digits.l5_s, dg_zero]
      show iteB false _ (iteB false _ (some t)) = some (ByteArray.empty ++ t)
      rw [iteB_false, iteB_false, ByteArray.empty_append]
    · have hn : (v != 0) = true := by simp [hx]
      have hd : Int.tdiv v 10 = v / 10 := Int.tdiv_eq_ediv_of_nonneg h0
      have hm : Int.tmod v 10 = v % 10 := Int.tmod_eq_emod_of_nonneg h0
      have hw : IntKind.wrap .i64 (v / 10) = v / 10 := wrap_id (by omega) (by omega)
      rw [Int.pow_succ] at h1
      have hlt : v / 10 < 10 ^ m := by generalize (10 : Int) ^ m = P at h1; omega
      rw [spec_Digits.l5_s, hn, iteB_true, hm, hd, hw, decide_eq_false (by omega), iteB_false]
      show iteB (decide (ByteArray.size (ch (v % 10)) + ByteArray.size t ≤ 9223372036854775807)) (spec_Digits.l5 k n (v / 10) false (ch (v % 10) ++ t)) none = _
      rw [decide_eq_true (by rw [ch_size]; omega), iteB_true, spec_dg k m n (v / 10) _ (by omega) (by omega) hlt (by omega) (by rw [ByteArray.size_append, ch_size]; omega)]
      conv => rhs; unfold dg
      rw [if_neg hx, ByteArray.append_assoc]
/-- The text of a number that is not below 0. -/
def digV (v : Int) : ByteArray := if v = 0 then (⟨#[48]⟩ : ByteArray) else dg 11 v
theorem spec_dig (v : Int) (h0 : 0 ≤ v) (h : v ≤ 99999999999 - 1) : Ev fun k => spec_Digits k v = some (digV v) := by
  refine (Ev.gt 12).mono fun k hk => ?_
  rw [spec_Digits_e]
  unfold digV
  by_cases hx : v = 0
  · subst hx; rfl
  · have hn : (v == 0) = false := by simp [hx]
    rw [hn, iteB_false, decide_eq_false (by omega), if_neg hx]
    have := spec_dg k 11 k v (⟨#[]⟩ : ByteArray) h0 (by omega) (by omega) (by omega) (by show 0 + 11 ≤ 1000; omega)
    rw [this]
    exact congrArg some ByteArray.append_empty
theorem impl_dg : ∀ (m q : Nat) (v : Int), 0 < v → v ≤ 99999999999 → v < 10 ^ m → m ≤ 100 → impl_Digits (m + q) v = some (dg m v)
  | 0, q, v, h0, hb, h1, _ => by simp at h1; omega
  | m + 1, q, v, h0, hb, h1, hm1 => by
    have e : m + 1 + q = (m + q) + 1 := by omega
    have hd : Int.tdiv v 10 = v / 10 := Int.tdiv_eq_ediv_of_nonneg (by omega)
    have hm : Int.tmod v 10 = v % 10 := Int.tmod_eq_emod_of_nonneg (by omega)
    have hw : IntKind.wrap .i64 (v / 10) = v / 10 := wrap_id (by omega) (by omega)
    rw [Int.pow_succ] at h1
    have hlt : v / 10 < 10 ^ m := by generalize (10 : Int) ^ m = P at h1; omega
    rw [e, impl_Digits_e, decide_eq_false (show ¬ v < 0 by omega), iteB_false, iteB_false, hd, hm, hw, ch_enc (d := v % 10) (by omega) (by omega)]
    unfold dg
    rw [if_neg (show ¬ v = 0 by omega)]
    by_cases h10 : v < 10
    · rw [decide_eq_true h10, iteB_true, ch_enc (by omega) (by omega)]
      have z : v / 10 = 0 := by omega
      have r : v % 10 = v := by omega
      rw [z, r, dg_zero, ByteArray.empty_append]
    · rw [decide_eq_false h10, iteB_false, impl_dg m q (v / 10) (by omega) (by omega) hlt (by omega), bindO_some, decide_eq_true (by rw [ch_size]; have := dg_size m (v / 10); omega), iteB_true]
theorem impl_dig (v : Int) (h0 : 0 ≤ v) (h : v ≤ 99999999999 - 1) : Ev fun k => impl_Digits k v = some (digV v) := by
  refine (Ev.gt 12).mono fun k hk => ?_
  unfold digV
  by_cases hx : v = 0
  · subst hx
    obtain ⟨q, rfl⟩ : ∃ q, k = q + 1 := ⟨k - 1, by omega⟩
    rw [impl_Digits_e]; rfl
  · obtain ⟨q, rfl⟩ : ∃ q, k = 11 + q := ⟨k - 11, by omega⟩
    rw [if_neg hx]
    exact impl_dg 11 q v (by omega) (by omega) (by omega) (by omega)

/-! The value of a row of digits. -/
theorem list_of (s : ByteArray) : ByteArray.toList s = s.data.toList := ByteArray.toList_eq s
theorem not_nil {s : ByteArray} (h : 0 < s.size) : (!(ByteArray.toList s == ByteArray.toList (⟨#[]⟩ : ByteArray))) = true := by
  rw [list_of, list_of]
  have : s.data.toList ≠ [] := fun e => by
    have : s.data.toList.length = 0 := by rw [e]; rfl
    rw [Array.length_toList] at this
    exact absurd h (by show ¬ 0 < s.data.size; omega)
  have : (s.data.toList == (⟨#[]⟩ : ByteArray).data.toList) = false := beq_eq_false_iff_ne.2 this
  rw [this]; rfl
def dv (s : ByteArray) : Nat → Nat → Int → Int
  | 0, _, x => x
  | m + 1, i, x => dv s m (i + 1) (10 * x + byteAt s i - 48)
def Digs (s : ByteArray) : Prop := ∀ i, i < s.size → isD (byteAt s i) = true
theorem Digs.bd {s : ByteArray} (h : Digs s) {i : Nat} (hi : i < s.size) : 48 ≤ byteAt s i ∧ byteAt s i ≤ 57 := of_decide_eq_true (h i hi)
theorem pow_bd {i : Nat} (h : i ≤ 10) : (10 : Int) ^ i ≤ 10000000000 := by
  have : i = 0 ∨ i = 1 ∨ i = 2 ∨ i = 3 ∨ i = 4 ∨ i = 5 ∨ i = 6 ∨ i = 7 ∨ i = 8 ∨ i = 9 ∨ i = 10 := by omega
  rcases this with rfl | rfl | rfl | rfl | rfl | rfl | rfl | rfl | rfl | rfl | rfl <;> decide
theorem dv_bd {s : ByteArray} (h : Digs s) : ∀ (m i : Nat) (x : Int), i + m = s.size → 0 ≤ x → x < 10 ^ i → 0 ≤ dv s m i x ∧ dv s m i x < 10 ^ (i + m)
  | 0, i, x, _, h0, h1 => ⟨h0, h1⟩
  | m + 1, i, x, hi, h0, h1 => by
    have b := h.bd (i := i) (by omega)
    have e : i + (m + 1) = i + 1 + m := by omega
    rw [e]
    exact dv_bd h m (i + 1) _ (by omega) (by omega) (by rw [Int.pow_succ]; generalize (10 : Int) ^ i = P at h1 ⊢; omega)
theorem spec_l8 {s : ByteArray} (h : Digs s) (h10 : s.size ≤ 10) (k : Nat) : ∀ (m i n : Nat) (x : Int), i + m = s.size → m < n → 0 ≤ x → x < 10 ^ i → spec_Number.l8 k n s 0 x (i : Int) = gate k (spec_Number.j15 k s (dv s m i x))
  | 0, i, n, x, hi, hn, h0, h1 => by
    obtain ⟨n, rfl⟩ : ∃ p, n = p + 1 := ⟨n - 1, by omega⟩
    rw [spec_Number.l8_s, decide_eq_false (by omega), iteB_false]
    rfl
  | m + 1, i, n, x, hi, hn, h0, h1 => by
    obtain ⟨n, rfl⟩ : ∃ p, n = p + 1 := ⟨n - 1, by omega⟩
    have b := h.bd (i := i) (by omega)
    have pb := pow_bd (i := i) (by omega)
    have e1 : ((i : Int) + 1) = ((i + 1 : Nat) : Int) := by omega
    have hw : IntKind.wrap .i64 ((i : Int) + 1) = ((i + 1 : Nat) : Int) := by rw [wrap_id (by omega) (by omega)]; exact e1
    have hv : IntKind.wrap .i64 ((IntKind.wrap .i64 ((IntKind.wrap .i64 (10 * x)) + (IntKind.wrap .i64 (byteAt s i)))) - 48) = 10 * x + byteAt s i - 48 := by
      rw [wrap_id (x := 10 * x) (by omega) (by omega), wrap_id (x := byteAt s i) (by omega) (by omega), wrap_id (x := 10 * x + byteAt s i) (by omega) (by omega), wrap_id (by omega) (by omega)]
    rw [spec_Number.l8_s, decide_eq_true (show (i : Int) < (s.size : Int) by omega), decide_eq_true (show 0 ≤ (i : Int) by omega), Int.toNat_natCast, decide_eq_false (show ¬ byteAt s i < 48 by omega), decide_eq_false (show ¬ byteAt s i > 57 by omega), hw, hv]
    simp only [iteB_true, iteB_false, Bool.not_false]
    exact spec_l8 h h10 k m (i + 1) n _ (by omega) (by omega) (by omega) (by rw [Int.pow_succ]; generalize (10 : Int) ^ i = P at h1 ⊢; omega)
def endV (s : ByteArray) (v : Int) : Int × Bool × Unit := bif wok v then (bif !(ByteArray.toList (digV v) == ByteArray.toList s) then (0, false, ()) else (v, true, ())) else (0, false, ())
def numV (s : ByteArray) : Int × Bool × Unit := bif decide (s.size ≤ 10) then endV s (dv s s.size 0 0) else (0, false, ())
theorem spec_num {s : ByteArray} (h : Digs s) (h0 : 0 < s.size) (hb : s.size ≤ 6000) : Ev fun k => spec_Number k s = some (numV s) := by
  have hn := not_nil h0
  have b := h.bd h0
  have h45 : (byteAt s 0 == 45) = false := by simp only [beq_eq_false_iff_ne, ne_eq]; omega
  have hz : IntKind.wrap .i64 ((s.size : Int) - 0) = (s.size : Int) := by rw [Int.sub_zero]; exact wrap_id (by omega) (by omega)
  unfold numV
  by_cases h10 : s.size ≤ 10
  · have vb := dv_bd h s.size 0 0 (by omega) (by omega) (by decide)
    have pb := pow_bd (i := s.size) h10
    rw [Nat.zero_add] at vb
    rw [decide_eq_true h10, cond_true]
    refine ((spec_dig (dv s s.size 0 0) vb.1 (by omega)).and (Ev.gt 12)).mono fun k hk => ?_
    obtain ⟨hd, hk⟩ := hk
    have := spec_l8 h h10 k s.size 0 k 0 (by omega) (by omega) (by omega) (by decide)
    rw [spec_Number_e, hn, iteB_true, decide_eq_true (show 0 < (s.size : Int) by omega), iteB_true, h45, iteB_false, gate_pos (by omega), spec_Number.j4_e, hz, decide_eq_false (show ¬ (s.size : Int) < 1 by omega), Bool.not_false, iteB_true, decide_eq_false (show ¬ (s.size : Int) > 10 by omega), iteB_false, gate_pos (by omega), spec_Number.j6_e]
    refine Eq.trans this ?_
    rw [gate_pos (by omega), spec_Number.j15_e, spec_wok, bindO_some, hd, bindO_some, Bool.not_not, iteB_ss, iteB_ss]
    rfl
  · rw [decide_eq_false h10, cond_false]
    refine (Ev.gt 12).mono fun k hk => ?_
    rw [spec_Number_e, hn, iteB_true, decide_eq_true (show 0 < (s.size : Int) by omega), iteB_true, h45, iteB_false, gate_pos (by omega), spec_Number.j4_e, hz, decide_eq_false (show ¬ (s.size : Int) < 1 by omega), Bool.not_false, iteB_true, decide_eq_true (show (s.size : Int) > 10 by omega), iteB_true]
theorem impl_l7 {s : ByteArray} (h : Digs s) (h10 : s.size ≤ 10) (k : Nat) (d : ByteArray) (hd : impl_Digits k (dv s s.size 0 0) = some d) : ∀ (m i n : Nat) (x : Int), i + m = s.size → m < n → 0 ≤ x → x < 10 ^ i → dv s m i x = dv s s.size 0 0 →
    impl_Number.l7 k n s x s 1 (s.size : Int) (i : Int) = some (bif wok (dv s s.size 0 0) then (bif !(ByteArray.toList d == ByteArray.toList s) then (0, false, ()) else (dv s s.size 0 0, true, ())) else (0, false, ()))
  | 0, i, n, x, hi, hn, h0, h1, hv => by
    obtain ⟨n, rfl⟩ : ∃ p, n = p + 1 := ⟨n - 1, by omega⟩
    have pb := pow_bd (i := i) (by omega)
    have hx : x = dv s s.size 0 0 := hv
    have hw : IntKind.wrap .i64 (x * 1) = dv s s.size 0 0 := by rw [Int.mul_one, wrap_id (by omega) (by omega)]; exact hx
    rw [impl_Number.l7_s, decide_eq_false (by omega), iteB_false, hw, impl_wok, bindO_some, hd, bindO_some, Bool.not_not, iteB_ss, iteB_ss]
  | m + 1, i, n, x, hi, hn, h0, h1, hv => by
    obtain ⟨n, rfl⟩ : ∃ p, n = p + 1 := ⟨n - 1, by omega⟩
    have b := h.bd (i := i) (by omega)
    have pb := pow_bd (i := i) (by omega)
    have e1 : ((i : Int) + 1) = ((i + 1 : Nat) : Int) := by omega
    have hw : IntKind.wrap .i64 ((i : Int) + 1) = ((i + 1 : Nat) : Int) := by rw [wrap_id (by omega) (by omega)]; exact e1
    have hu : IntKind.wrap .u8 (byteAt s i - 48) = byteAt s i - 48 := by
      have : byteAt s i = 48 ∨ byteAt s i = 49 ∨ byteAt s i = 50 ∨ byteAt s i = 51 ∨ byteAt s i = 52 ∨ byteAt s i = 53 ∨ byteAt s i = 54 ∨ byteAt s i = 55 ∨ byteAt s i = 56 ∨ byteAt s i = 57 := by omega
      rcases this with e | e | e | e | e | e | e | e | e | e <;> rw [e] <;> rfl
    have hy : IntKind.wrap .i64 ((IntKind.wrap .i64 (10 * x)) + (IntKind.wrap .i64 (IntKind.wrap .u8 (byteAt s i - 48)))) = 10 * x + byteAt s i - 48 := by
      rw [hu, wrap_id (x := 10 * x) (by omega) (by omega), wrap_id (x := byteAt s i - 48) (by omega) (by omega), wrap_id (by omega) (by omega)]; omega
    rw [impl_Number.l7_s, decide_eq_true (show (i : Int) < (s.size : Int) by omega), decide_eq_true (show 0 ≤ (i : Int) by omega), Int.toNat_natCast, impl_digit, bindO_some, h i (by omega), hw, hy]
    simp only [iteB_true, iteB_false, Bool.not_true]
    exact impl_l7 h h10 k d hd m (i + 1) n _ (by omega) (by omega) (by omega) (by rw [Int.pow_succ]; generalize (10 : Int) ^ i = P at h1 ⊢; omega) hv
theorem impl_num {s : ByteArray} (h : Digs s) (h0 : 0 < s.size) (hb : s.size ≤ 6000) : Ev fun k => impl_Number k s = some (numV s) := by
  have hn := not_nil h0
  have b := h.bd h0
  have h45 : (byteAt s 0 == 45) = false := by simp only [beq_eq_false_iff_ne, ne_eq]; omega
  unfold numV
  by_cases h10 : s.size ≤ 10
  · have vb := dv_bd h s.size 0 0 (by omega) (by omega) (by decide)
    have pb := pow_bd (i := s.size) h10
    rw [Nat.zero_add] at vb
    rw [decide_eq_true h10, cond_true]
    refine ((impl_dig (dv s s.size 0 0) vb.1 (by omega)).and (Ev.gt 12)).mono fun k hk => ?_
    obtain ⟨hd, hk⟩ := hk
    have := impl_l7 h h10 k _ hd s.size 0 k 0 (by omega) (by omega) (by omega) (by decide) rfl
    rw [impl_Number_e, hn, iteB_true, decide_eq_true (show 0 < (s.size : Int) by omega), iteB_true, h45, iteB_false, gate_pos (by omega), impl_Number.j4_e, hn, iteB_true, decide_eq_false (show ¬ (s.size : Int) > 10 by omega), iteB_false, gate_pos (by omega), impl_Number.j6_e]
    exact this
  · rw [decide_eq_false h10, cond_false]
    refine (Ev.gt 12).mono fun k hk => ?_
    rw [impl_Number_e, hn, iteB_true, decide_eq_true (show 0 < (s.size : Int) by omega), iteB_true, h45, iteB_false, gate_pos (by omega), impl_Number.j4_e, hn, iteB_true, decide_eq_true (show (s.size : Int) > 10 by omega), iteB_true]

/-! Scanners of a text. -/
theorem byte_bd (s : ByteArray) (i : Nat) : 0 ≤ byteAt s i ∧ byteAt s i ≤ 255 := by
  unfold byteAt
  split
  · rename_i b _; have := b.toNat_lt; omega
  · omega
def runN (p : Int → Bool) (s : ByteArray) : Nat → Nat → Nat
  | 0, _ => 0
  | m + 1, i => bif p (byteAt s i) then runN p s m (i + 1) + 1 else 0
theorem runN_le (p : Int → Bool) (s : ByteArray) : ∀ m i : Nat, runN p s m i ≤ m
  | 0, _ => Nat.le_refl _
  | m + 1, i => by
    unfold runN
    have := runN_le p s m (i + 1)
    cases p (byteAt s i)
    · exact Nat.zero_le _
    · show runN p s m (i + 1) + 1 ≤ m + 1; omega
theorem runN_ok (p : Int → Bool) (s : ByteArray) : ∀ m i j : Nat, i ≤ j → j < i + runN p s m i → p (byteAt s j) = true
  | 0, i, j, h, h' => by simp only [runN] at h'; omega
  | m + 1, i, j, h, h' => by
    unfold runN at h'
    cases hb : p (byteAt s i) with
    | false => rw [hb] at h'; simp only [cond_false] at h'; omega
    | true =>
      rw [hb] at h'
      simp only [cond_true] at h'
      by_cases e : j = i
      · subst e; exact hb
      · exact runN_ok p s m (i + 1) j (by omega) (by omega)
theorem runN_pos (p : Int → Bool) (s : ByteArray) (m i : Nat) (hm : 0 < m) (h : p (byteAt s i) = true) : 0 < runN p s m i := by
  obtain ⟨m, rfl⟩ : ∃ q, m = q + 1 := ⟨m - 1, by omega⟩
  unfold runN
  rw [h]
  exact Nat.succ_pos _
theorem impl_runL (s : ByteArray) (hb : s.size ≤ 6000) (k : Nat) : ∀ (m i j n : Nat), i + j + m = s.size → m < n → impl_run__impl_isLetter.l2 k n s (i : Int) (j : Int) = some ((j + runN isL s m (i + j) : Nat) : Int)
  | 0, i, j, n, h, hn => by
    obtain ⟨n, rfl⟩ : ∃ p, n = p + 1 := ⟨n - 1, by omega⟩
    have hw : IntKind.wrap .i64 ((i : Int) + (j : Int)) = (i : Int) + (j : Int) := wrap_id (by omega) (by omega)
    rw [impl_run__impl_isLetter.l2_s, hw, decide_eq_false (by omega), iteB_false]
    rfl
  | m + 1, i, j, n, h, hn => by
    obtain ⟨n, rfl⟩ : ∃ p, n = p + 1 := ⟨n - 1, by omega⟩
    have hw : IntKind.wrap .i64 ((i : Int) + (j : Int)) = (i : Int) + (j : Int) := wrap_id (by omega) (by omega)
    have e1 : ((j : Int) + 1) = ((j + 1 : Nat) : Int) := by omega
    have hw1 : IntKind.wrap .i64 ((j : Int) + 1) = ((j + 1 : Nat) : Int) := by rw [wrap_id (by omega) (by omega)]; exact e1
    have et : Int.toNat ((i : Int) + (j : Int)) = i + j := by omega
    rw [impl_run__impl_isLetter.l2_s, hw, hw1, decide_eq_true (show (i : Int) + (j : Int) < (s.size : Int) by omega), iteB_true, decide_eq_true (show 0 ≤ (i : Int) + (j : Int) by omega), iteB_true, iteB_true, et, impl_letter, bindO_some]
    conv => rhs; unfold runN
    cases isL (byteAt s (i + j)) with
    | false => rw [iteB_false]; rfl
    | true =>
      rw [iteB_true, impl_runL s hb k m i (j + 1) n (by omega) (by omega)]
      have : i + (j + 1) = i + j + 1 := by omega
      rw [this, cond_true]
      congr 2; omega
theorem impl_runD (s : ByteArray) (hb : s.size ≤ 6000) (k : Nat) : ∀ (m i j n : Nat), i + j + m = s.size → m < n → impl_run__impl_isDigit.l2 k n s (i : Int) (j : Int) = some ((j + runN isD s m (i + j) : Nat) : Int)
  | 0, i, j, n, h, hn => by
    obtain ⟨n, rfl⟩ : ∃ p, n = p + 1 := ⟨n - 1, by omega⟩
    have hw : IntKind.wrap .i64 ((i : Int) + (j : Int)) = (i : Int) + (j : Int) := wrap_id (by omega) (by omega)
    rw [impl_run__impl_isDigit.l2_s, hw, decide_eq_false (by omega), iteB_false]
    rfl
  | m + 1, i, j, n, h, hn => by
    obtain ⟨n, rfl⟩ : ∃ p, n = p + 1 := ⟨n - 1, by omega⟩
    have hw : IntKind.wrap .i64 ((i : Int) + (j : Int)) = (i : Int) + (j : Int) := wrap_id (by omega) (by omega)
    have e1 : ((j : Int) + 1) = ((j + 1 : Nat) : Int) := by omega
    have hw1 : IntKind.wrap .i64 ((j : Int) + 1) = ((j + 1 : Nat) : Int) := by rw [wrap_id (by omega) (by omega)]; exact e1
    have et : Int.toNat ((i : Int) + (j : Int)) = i + j := by omega
    rw [impl_run__impl_isDigit.l2_s, hw, hw1, decide_eq_true (show (i : Int) + (j : Int) < (s.size : Int) by omega), iteB_true, decide_eq_true (show 0 ≤ (i : Int) + (j : Int) by omega), iteB_true, iteB_true, et, impl_digit, bindO_some]
    conv => rhs; unfold runN
    cases isD (byteAt s (i + j)) with
    | false => rw [iteB_false]; rfl
    | true =>
      rw [iteB_true, impl_runD s hb k m i (j + 1) n (by omega) (by omega)]
      have : i + (j + 1) = i + j + 1 := by omega
      rw [this, cond_true]
      congr 2; omega
theorem spec_l3 (s : ByteArray) (hb : s.size ≤ 6000) (k a : Nat) (y0 : Int) (y1 : ByteArray) (y2 y3 : Int) : ∀ (m i n : Nat), a ≤ i → i + m = s.size → m < n →
    spec_l5One.l3 k n s (a : Int) (i : Int) y0 y1 y2 y3 = some ((1, ByteArray.extract s a (i + runN isL s m i), 0, (a : Int), ()), ((i + runN isL s m i : Nat) : Int), decide (((i + runN isL s m i : Nat) : Int) - (a : Int) ≤ 10), ())
  | 0, i, n, ha, h, hn => by
    obtain ⟨n, rfl⟩ : ∃ p, n = p + 1 := ⟨n - 1, by omega⟩
    have hw : IntKind.wrap .i64 ((i : Int) - (a : Int)) = (i : Int) - (a : Int) := wrap_id (by omega) (by omega)
    rw [spec_l5One.l3_s, hw, decide_eq_false (show ¬ (i : Int) < (s.size : Int) by omega), iteB_false, decide_eq_true (show 0 ≤ (i : Int) by omega), iteB_true, decide_eq_true (show (i : Int) ≤ (s.size : Int) by omega), iteB_true, decide_eq_true (show 0 ≤ (a : Int) by omega), iteB_true, decide_eq_true (show (a : Int) ≤ (i : Int) by omega), iteB_true]
    rfl
  | m + 1, i, n, ha, h, hn => by
    obtain ⟨n, rfl⟩ : ∃ p, n = p + 1 := ⟨n - 1, by omega⟩
    have hw : IntKind.wrap .i64 ((i : Int) - (a : Int)) = (i : Int) - (a : Int) := wrap_id (by omega) (by omega)
    have e1 : ((i : Int) + 1) = ((i + 1 : Nat) : Int) := by omega
    have hw1 : IntKind.wrap .i64 ((i : Int) + 1) = ((i + 1 : Nat) : Int) := by rw [wrap_id (by omega) (by omega)]; exact e1
    rw [spec_l5One.l3_s, hw, hw1, decide_eq_true (show (i : Int) < (s.size : Int) by omega), iteB_true, decide_eq_true (show 0 ≤ (i : Int) by omega), iteB_true, iteB_true, Int.toNat_natCast, spec_letter, bindO_some]
    unfold runN
    cases isL (byteAt s i) with
    | false =>
      rw [iteB_false, iteB_true, decide_eq_true (show (i : Int) ≤ (s.size : Int) by omega), iteB_true, decide_eq_true (show 0 ≤ (a : Int) by omega), iteB_true, decide_eq_true (show (a : Int) ≤ (i : Int) by omega), iteB_true]
      rfl
    | true =>
      rw [iteB_true, spec_l3 s hb k a y0 y1 y2 y3 m (i + 1) n (by omega) (by omega) (by omega), cond_true]
      have : i + 1 + runN isL s m (i + 1) = i + (runN isL s m (i + 1) + 1) := by omega
      rw [this]
theorem spec_l7 (s : ByteArray) (hb : s.size ≤ 6000) (k a : Nat) (y0 : Int) (y1 : ByteArray) (y2 y3 : Int) (N : Int × Bool × Unit) : ∀ (m i n : Nat), a ≤ i → i + m = s.size → m < n →
    spec_Number k (ByteArray.extract s a (i + runN isD s m i)) = some N →
    spec_l5One.l7 k n s (a : Int) (i : Int) y0 y1 y2 y3 = some ((2, ByteArray.empty, N.1, (a : Int), ()), ((i + runN isD s m i : Nat) : Int), N.2.1, ())
  | 0, i, n, ha, h, hn, hN => by
    obtain ⟨n, rfl⟩ : ∃ p, n = p + 1 := ⟨n - 1, by omega⟩
    rw [spec_l5One.l7_s, decide_eq_false (show ¬ (i : Int) < (s.size : Int) by omega), iteB_false, decide_eq_true (show 0 ≤ (i : Int) by omega), iteB_true, decide_eq_true (show (i : Int) ≤ (s.size : Int) by omega), iteB_true, decide_eq_true (show 0 ≤ (a : Int) by omega), iteB_true, decide_eq_true (show (a : Int) ≤ (i : Int) by omega), iteB_true]
    replace hN : spec_Number k (ByteArray.extract s a i) = some N := hN
    rw [Int.toNat_natCast, Int.toNat_natCast, hN, bindO_some]
    rfl
  | m + 1, i, n, ha, h, hn, hN => by
    obtain ⟨n, rfl⟩ : ∃ p, n = p + 1 := ⟨n - 1, by omega⟩
    have e1 : ((i : Int) + 1) = ((i + 1 : Nat) : Int) := by omega
    have hw1 : IntKind.wrap .i64 ((i : Int) + 1) = ((i + 1 : Nat) : Int) := by rw [wrap_id (by omega) (by omega)]; exact e1
    rw [spec_l5One.l7_s, hw1, decide_eq_true (show (i : Int) < (s.size : Int) by omega), iteB_true, decide_eq_true (show 0 ≤ (i : Int) by omega), iteB_true, iteB_true, Int.toNat_natCast, spec_digit, bindO_some]
    unfold runN at hN ⊢
    cases hd : isD (byteAt s i) with
    | false =>
      rw [hd] at hN
      replace hN : spec_Number k (ByteArray.extract s a i) = some N := hN
      rw [iteB_false, iteB_true, decide_eq_true (show (i : Int) ≤ (s.size : Int) by omega), iteB_true, decide_eq_true (show 0 ≤ (a : Int) by omega), iteB_true, decide_eq_true (show (a : Int) ≤ (i : Int) by omega), iteB_true, Int.toNat_natCast, hN, bindO_some]
      rfl
    | true =>
      rw [hd, cond_true] at hN
      have : i + 1 + runN isD s m (i + 1) = i + (runN isD s m (i + 1) + 1) := by omega
      rw [iteB_true, spec_l7 s hb k a y0 y1 y2 y3 N m (i + 1) n (by omega) (by omega) (by omega) (by rw [this]; exact hN), cond_true, this]

/-! Signs of a text. -/
theorem ext_byte (s : ByteArray) (a b i : Nat) (hb : b ≤ s.size) (hi : a + i < b) : byteAt (ByteArray.extract s a b) i = byteAt s (a + i) := by
  have h1 : i < (ByteArray.extract s a b).size := by rw [ByteArray.size_extract]; omega
  have h2 : a + i < s.size := by omega
  unfold byteAt
  rw [getElem?_pos _ i h1, getElem?_pos s (a + i) h2, ByteArray.getElem_extract]
theorem list_two (s : ByteArray) (h : s.size = 2) : (ByteArray.toList s == ByteArray.toList (⟨#[61, 61]⟩ : ByteArray)) = (byteAt s 0 == 61 && byteAt s 1 == 61) := by
  obtain ⟨⟨l⟩⟩ := s
  match l, h with
  | [x, y], _ =>
    have e : ByteArray.toList (⟨⟨[x, y]⟩⟩ : ByteArray) = [x, y] := ByteArray.toList_eq _
    have e' : ByteArray.toList (⟨#[61, 61]⟩ : ByteArray) = [61, 61] := ByteArray.toList_eq _
    have b0 : byteAt (⟨⟨[x, y]⟩⟩ : ByteArray) 0 = (x.toNat : Int) := rfl
    have b1 : byteAt (⟨⟨[x, y]⟩⟩ : ByteArray) 1 = (y.toNat : Int) := rfl
    rw [e, e', b0, b1]
    have t (z : UInt8) : z = 61 ↔ (z.toNat : Int) = 61 := by
      constructor
      · intro h; subst h; rfl
      · intro h; exact UInt8.toNat_inj.1 (by show z.toNat = 61; omega)
    rw [Bool.eq_iff_iff]
    simp only [beq_iff_eq, List.cons.injEq, and_true, t, Bool.and_eq_true]
abbrev sg : ByteArray := (⟨#[40, 41, 123, 125, 44, 59, 61, 43, 45, 42, 60]⟩ : ByteArray)
def isS (b : Int) : Bool := (List.range' 0 11).any fun j => byteAt sg j == b
theorem idx_all : ((List.range 256).all fun n => decide (decide (Lib.indexByte sg.data.toList (Int.toNat (n : Int)).toUInt8 ≥ 0) = isS (n : Int))) = true := by kernel_rfl
theorem idx_ok (b : Int) (h : 0 ≤ b ∧ b ≤ 255) : decide (Lib.indexByte sg.data.toList b.toNat.toUInt8 ≥ 0) = isS b := by
  have := of_decide_eq_true (List.all_eq_true.1 idx_all b.toNat (List.mem_range.2 (by omega)))
  have e : ((b.toNat : Nat) : Int) = b := by omega
  rw [e] at this
  exact this
theorem spec_sgl (s : ByteArray) (hb : s.size ≤ 6000) (k a : Nat) (ha : a < s.size) : ∀ (m i n : Nat), i + m = 11 → m < n → spec_l5Sign.l5 k n s (a : Int) sg (i : Int) = some (bif (List.range' i m).any (fun j => byteAt sg j == byteAt s a) then ByteArray.extract s a (a + 1) else (⟨#[]⟩ : ByteArray))
  | 0, i, n, h, hn => by
    obtain ⟨n, rfl⟩ : ∃ p, n = p + 1 := ⟨n - 1, by omega⟩
    have hs : ((ByteArray.size sg : Nat) : Int) = 11 := rfl
    rw [spec_l5Sign.l5_s, hs, decide_eq_false (show ¬ (i : Int) < 11 by omega), iteB_false]
    rfl
  | m + 1, i, n, h, hn => by
    obtain ⟨n, rfl⟩ : ∃ p, n = p + 1 := ⟨n - 1, by omega⟩
    have hs : ((ByteArray.size sg : Nat) : Int) = 11 := rfl
    have e1 : ((i : Int) + 1) = ((i + 1 : Nat) : Int) := by omega
    have hw1 : IntKind.wrap .i64 ((i : Int) + 1) = ((i + 1 : Nat) : Int) := by rw [wrap_id (by omega) (by omega)]; exact e1
    have hwa : IntKind.wrap .i64 ((a : Int) + 1) = (a : Int) + 1 := wrap_id (by omega) (by omega)
    have et : Int.toNat ((a : Int) + 1) = a + 1 := by omega
    rw [spec_l5Sign.l5_s, hs, hw1, hwa, decide_eq_true (show (i : Int) < 11 by omega), iteB_true, decide_eq_true (show 0 ≤ (i : Int) by omega), iteB_true, iteB_true, decide_eq_true (show 0 ≤ (a : Int) by omega), iteB_true, decide_eq_true (show (a : Int) < (s.size : Int) by omega), iteB_true, Int.toNat_natCast, Int.toNat_natCast, decide_eq_true (show 0 ≤ (a : Int) + 1 by omega), iteB_true, decide_eq_true (show (a : Int) + 1 ≤ (s.size : Int) by omega), iteB_true, iteB_true, decide_eq_true (show (a : Int) ≤ (a : Int) + 1 by omega), iteB_true, et, spec_sgl s hb k a ha m (i + 1) n (by omega) (by omega)]
    rw [List.range'_succ, List.any_cons]
    cases byteAt sg i == byteAt s a <;> simp [iteB]
def eqq (s : ByteArray) (a : Nat) : Bool := decide (a + 2 ≤ s.size) && (byteAt s a == 61 && byteAt s (a + 1) == 61)
def signV (s : ByteArray) (a : Nat) : ByteArray := bif eqq s a then (⟨#[61, 61]⟩ : ByteArray) else bif isS (byteAt s a) then ByteArray.extract s a (a + 1) else (⟨#[]⟩ : ByteArray)
theorem spec_sign (s : ByteArray) (hb : s.size ≤ 6000) (a : Nat) (ha : a < s.size) (k : Nat) (hk : 12 < k) : spec_l5Sign k s (a : Int) = some (signV s a) := by
  have hj : spec_l5Sign.j3 k s (a : Int) = some (bif isS (byteAt s a) then ByteArray.extract s a (a + 1) else (⟨#[]⟩ : ByteArray)) := by
    rw [spec_l5Sign.j3_e]
    exact spec_sgl s hb k a ha 11 0 k (by omega) (by omega)
  have hwa : IntKind.wrap .i64 ((a : Int) + 1) = (a : Int) + 1 := wrap_id (by omega) (by omega)
  have et : Int.toNat ((a : Int) + 1) = a + 1 := by omega
  rw [spec_l5Sign_e, hwa, et, Int.toNat_natCast, decide_eq_true (show 0 ≤ (a : Int) by omega), iteB_true, decide_eq_true (show (a : Int) < (s.size : Int) by omega), iteB_true, gate_pos (by omega), hj, decide_eq_true (show 0 ≤ (a : Int) + 1 by omega)]
  unfold signV eqq
  by_cases h2 : a + 2 ≤ s.size
  · rw [decide_eq_true (show (a : Int) + 1 < (s.size : Int) by omega), decide_eq_true h2]
    cases byteAt s a == 61 <;> cases byteAt s (a + 1) == 61 <;> simp [iteB]
  · rw [decide_eq_false (show ¬ (a : Int) + 1 < (s.size : Int) by omega), decide_eq_false h2]
    cases byteAt s a == 61 <;> simp [iteB]
theorem impl_pre (s : ByteArray) (a : Nat) (ha : a < s.size) (k : Nat) : strings_HasPrefix k (ByteArray.extract s a s.size) (⟨#[61, 61]⟩ : ByteArray) = some (eqq s a) := by
  have hs : ((ByteArray.size (⟨#[61, 61]⟩ : ByteArray) : Nat) : Int) = 2 := rfl
  have hx : (ByteArray.extract s a s.size).size = s.size - a := by rw [ByteArray.size_extract]; omega
  rw [strings_HasPrefix_e, internal_stringslite_HasPrefix_e, hs, hx]
  unfold eqq
  by_cases h2 : a + 2 ≤ s.size
  · have hy : (ByteArray.extract (ByteArray.extract s a s.size) 0 2).size = 2 := by rw [ByteArray.size_extract, hx]; omega
    have b0 : byteAt (ByteArray.extract (ByteArray.extract s a s.size) 0 2) 0 = byteAt s a := by rw [ext_byte _ 0 2 0 (by omega) (by omega), ext_byte s a s.size (0 + 0) (by omega) (by omega)]; rfl
    have b1 : byteAt (ByteArray.extract (ByteArray.extract s a s.size) 0 2) 1 = byteAt s (a + 1) := by rw [ext_byte _ 0 2 1 (by omega) (by omega), ext_byte s a s.size (0 + 1) (by omega) (by omega)]
    have et : Int.toNat (2 : Int) = 2 := rfl
    rw [decide_eq_true (show ((s.size - a : Nat) : Int) ≥ 2 by omega), decide_eq_true h2, iteB_true, decide_eq_true (show (0 : Int) ≤ 2 by omega), iteB_true, iteB_true, et, list_two _ hy, b0, b1, bindO_some, Bool.true_and]
  · rw [decide_eq_false (show ¬ ((s.size - a : Nat) : Int) ≥ 2 by omega), decide_eq_false h2, iteB_false, bindO_some, Bool.false_and]

/-! The token at a place: the program's and the reference's. -/
abbrev TK : Type := Int × ByteArray × Int × Int × Unit
def StepP (s : ByteArray) (a : Nat) (o : Option (TK × Nat)) : Prop :=
  (∀ t e, o = some (t, e) → a < e ∧ e ≤ s.size ∧ t.2.1.size ≤ s.size) ∧
  (Ev fun k => ∃ r, spec_l5One k s (a : Int) = some r ∧ (o = none → r.2.2.1 = false) ∧ ∀ t e, o = some (t, e) → r = (t, (e : Int), true, ())) ∧
  (Ev fun k => ∃ r, impl_token k s (a : Int) = some r ∧ (o = none → r.1 = 0) ∧ ∀ t e, o = some (t, e) → r.1 ≠ 0 ∧ (a : Int) + (r.2.1.size : Int) = (e : Int) ∧ (r.1 = 2 → t = (r.1, (⟨#[]⟩ : ByteArray), r.2.2.1, r.2.2.2.1, ())) ∧ (r.1 ≠ 2 → t = r))
theorem step_letter (s : ByteArray) (hb : s.size ≤ 6000) (a : Nat) (ha : a < s.size) (hL : isL (byteAt s a) = true) : ∃ o, StepP s a o := by
  have hr := runN_le isL s (s.size - a) a
  have hp := runN_pos isL s (s.size - a) a (by omega) hL
  have hR (k : Nat) (hk : s.size < k) : impl_run__impl_isLetter k s (a : Int) = some ((runN isL s (s.size - a) a : Nat) : Int) := by
    have := impl_runL s hb k (s.size - a) a 0 k (by omega) (by omega)
    rw [Nat.add_zero, Nat.zero_add] at this
    rw [impl_run__impl_isLetter_e]
    exact this
  have hS (k : Nat) (hk : s.size < k) := spec_l3 s hb k a 0 ByteArray.empty 0 0 (s.size - a) a k (by omega) (by omega) (by omega)
  generalize runN isL s (s.size - a) a = r at hr hp hR hS
  have hx : (ByteArray.extract s a (a + r)).size = r := by rw [ByteArray.size_extract]; omega
  have hw : IntKind.wrap .i64 ((a : Int) + (r : Int)) = (a : Int) + (r : Int) := wrap_id (by omega) (by omega)
  have et : Int.toNat ((a : Int) + (r : Int)) = a + r := by omega
  refine ⟨if r ≤ 10 then some ((1, ByteArray.extract s a (a + r), 0, (a : Int), ()), a + r) else none, ?_, (Ev.gt s.size).mono fun k hk => ?_, (Ev.gt s.size).mono fun k hk => ?_⟩
  · intro t e h
    split at h
    · cases h; exact ⟨by omega, by omega, by show (ByteArray.extract s a (a + r)).size ≤ s.size; rw [hx]; omega⟩
    · cases h
  · refine ⟨_, by
      rw [spec_l5One_e, decide_eq_true (show 0 ≤ (a : Int) by omega), iteB_true, decide_eq_true (show (a : Int) < (s.size : Int) by omega), iteB_true, Int.toNat_natCast, spec_letter, bindO_some, hL, iteB_true]
      exact hS k hk, fun h => ?_, fun t e h => ?_⟩
    · split at h
      · cases h
      · exact decide_eq_false (by omega)
    · split at h
      · cases h
        rw [decide_eq_true (show ((a + r : Nat) : Int) - (a : Int) ≤ 10 by omega)]
      · cases h
  · have hi : impl_token k s (a : Int) = some (bif decide (((ByteArray.extract s a (a + r)).size : Int) > 10) then (0, ByteArray.empty, 0, 0, ()) else (1, ByteArray.extract s a (a + r), 0, (a : Int), ())) := by
      rw [impl_token_e, decide_eq_true (show 0 ≤ (a : Int) by omega), iteB_true, decide_eq_true (show (a : Int) < (s.size : Int) by omega), iteB_true, Int.toNat_natCast, impl_letter, bindO_some, hL, iteB_true, hR k hk, bindO_some, hw, et, decide_eq_true (show 0 ≤ (a : Int) + (r : Int) by omega), iteB_true, decide_eq_true (show (a : Int) + (r : Int) ≤ (s.size : Int) by omega), iteB_true, iteB_true, decide_eq_true (show (a : Int) ≤ (a : Int) + (r : Int) by omega), iteB_true, iteB_ss]
    refine ⟨_, hi, fun h => ?_, fun t e h => ?_⟩
    · split at h
      · cases h
      · rw [hx, decide_eq_true (show (r : Int) > 10 by omega)]; rfl
    · split at h
      · cases h
        rw [hx, decide_eq_false (show ¬ (r : Int) > 10 by omega)]
        exact ⟨by show (1 : Int) ≠ 0; decide, by show (a : Int) + ((ByteArray.extract s a (a + r)).size : Int) = _; rw [hx]; omega, fun h => absurd h (by show ¬ (1 : Int) = 2; decide), fun _ => rfl⟩
      · cases h
theorem step_digit (s : ByteArray) (hb : s.size ≤ 6000) (a : Nat) (ha : a < s.size) (hL : isL (byteAt s a) = false) (hD : isD (byteAt s a) = true) : ∃ o, StepP s a o := by
  have hr := runN_le isD s (s.size - a) a
  have hp := runN_pos isD s (s.size - a) a (by omega) hD
  have hok := runN_ok isD s (s.size - a) a
  have hR (k : Nat) (hk : s.size < k) : impl_run__impl_isDigit k s (a : Int) = some ((runN isD s (s.size - a) a : Nat) : Int) := by
    have := impl_runD s hb k (s.size - a) a 0 k (by omega) (by omega)
    rw [Nat.add_zero, Nat.zero_add] at this
    rw [impl_run__impl_isDigit_e]
    exact this
  have hS (k : Nat) (hk : s.size < k) (N : Int × Bool × Unit) := spec_l7 s hb k a 0 ByteArray.empty 0 0 N (s.size - a) a k (by omega) (by omega) (by omega)
  generalize runN isD s (s.size - a) a = r at hr hp hR hS hok
  have hx : (ByteArray.extract s a (a + r)).size = r := by rw [ByteArray.size_extract]; omega
  have hdig : Digs (ByteArray.extract s a (a + r)) := fun i hi => by
    rw [hx] at hi
    rw [ext_byte s a (a + r) i (by omega) (by omega)]
    exact hok (a + i) (by omega) (by omega)
  have hw : IntKind.wrap .i64 ((a : Int) + (r : Int)) = (a : Int) + (r : Int) := wrap_id (by omega) (by omega)
  have et : Int.toNat ((a : Int) + (r : Int)) = a + r := by omega
  have n1 := spec_num hdig (by omega) (by omega)
  have n2 := impl_num hdig (by omega) (by omega)
  generalize hN : numV (ByteArray.extract s a (a + r)) = N at n1 n2
  refine ⟨if N.2.1 = true then some ((2, ByteArray.empty, N.1, (a : Int), ()), a + r) else none, ?_, (n1.and (Ev.gt s.size)).mono fun k hk => ?_, (n2.and (Ev.gt s.size)).mono fun k hk => ?_⟩
  · intro t e h
    split at h
    · cases h; exact ⟨by omega, by omega, Nat.zero_le _⟩
    · cases h
  · obtain ⟨hn, hk⟩ := hk
    refine ⟨_, by
      rw [spec_l5One_e, decide_eq_true (show 0 ≤ (a : Int) by omega), iteB_true, decide_eq_true (show (a : Int) < (s.size : Int) by omega), iteB_true, Int.toNat_natCast, spec_letter, bindO_some, hL, iteB_false, iteB_true, iteB_true, spec_digit, bindO_some, hD, iteB_true]
      exact hS k hk N hn, fun h => ?_, fun t e h => ?_⟩
    · split at h
      · cases h
      · rename_i hf; simpa using hf
    · split at h
      · rename_i hf
        cases h
        rw [hf]
      · cases h
  · obtain ⟨hn, hk⟩ := hk
    have hi : impl_token k s (a : Int) = some (bif !N.2.1 then (0, ByteArray.empty, 0, 0, ()) else (2, ByteArray.extract s a (a + r), N.1, (a : Int), ())) := by
      rw [impl_token_e, decide_eq_true (show 0 ≤ (a : Int) by omega), iteB_true, decide_eq_true (show (a : Int) < (s.size : Int) by omega), iteB_true, Int.toNat_natCast, impl_letter, bindO_some, hL, iteB_false, impl_digit, bindO_some, hD, iteB_true, hR k hk, bindO_some, hw, et, decide_eq_true (show 0 ≤ (a : Int) + (r : Int) by omega), iteB_true, decide_eq_true (show (a : Int) + (r : Int) ≤ (s.size : Int) by omega), iteB_true, iteB_true, decide_eq_true (show (a : Int) ≤ (a : Int) + (r : Int) by omega), iteB_true, hn, bindO_some, iteB_ss]
    refine ⟨_, hi, fun h => ?_, fun t e h => ?_⟩
    · split at h
      · cases h
      · rename_i hf
        have : N.2.1 = false := by simpa using hf
        rw [this]; rfl
    · split at h
      · rename_i hf
        cases h
        rw [hf]
        exact ⟨by show (2 : Int) ≠ 0; decide, by show (a : Int) + ((ByteArray.extract s a (a + r)).size : Int) = _; rw [hx]; omega, fun _ => rfl, fun h => absurd rfl h⟩
      · cases h

theorem step_sign (s : ByteArray) (hb : s.size ≤ 6000) (a : Nat) (ha : a < s.size) (hL : isL (byteAt s a) = false) (hD : isD (byteAt s a) = false) : ∃ o, StepP s a o := by
  have hz : (!(ByteArray.toList (⟨#[]⟩ : ByteArray) == ByteArray.toList (⟨#[]⟩ : ByteArray))) = false := by simp
  have hx : (ByteArray.extract s a (a + 1)).size = 1 := by rw [ByteArray.size_extract]; omega
  have hs2 : (⟨#[61, 61]⟩ : ByteArray).size = 2 := rfl
  have hw1 : IntKind.wrap .i64 ((a : Int) + 1) = (a : Int) + 1 := wrap_id (by omega) (by omega)
  have et : Int.toNat ((a : Int) + 1) = a + 1 := by omega
  have hS (k : Nat) (hk : 12 < k) : spec_l5One k s (a : Int) = some ((3, signV s a, 0, (a : Int), ()), IntKind.wrap .i64 ((a : Int) + ((signV s a).size : Int)), !(ByteArray.toList (signV s a) == ByteArray.toList (⟨#[]⟩ : ByteArray)), ()) := by
    rw [spec_l5One_e, decide_eq_true (show 0 ≤ (a : Int) by omega), iteB_true, decide_eq_true (show (a : Int) < (s.size : Int) by omega), iteB_true, Int.toNat_natCast, spec_letter, bindO_some, hL, iteB_false, iteB_true, iteB_true, spec_digit, bindO_some, hD, iteB_false, spec_sign s hb a ha k hk, bindO_some]
  have hI (k : Nat) : impl_token k s (a : Int) = some (bif eqq s a then (3, (⟨#[61, 61]⟩ : ByteArray), 0, (a : Int), ()) else bif isS (byteAt s a) then (3, ByteArray.extract s a (a + 1), 0, (a : Int), ()) else (0, ByteArray.empty, 0, 0, ())) := by
    have hi : strings_IndexByte k sg (byteAt s a) = some (Lib.indexByte sg.data.toList (byteAt s a).toNat.toUInt8) := rfl
    rw [impl_token_e, decide_eq_true (show 0 ≤ (a : Int) by omega), iteB_true, decide_eq_true (show (a : Int) < (s.size : Int) by omega), iteB_true, Int.toNat_natCast, impl_letter, bindO_some, hL, iteB_false, impl_digit, bindO_some, hD, iteB_false, iteB_true, decide_eq_true (show (a : Int) ≤ (s.size : Int) by omega), iteB_true, impl_pre s a ha k, bindO_some, hi, bindO_some, idx_ok _ (byte_bd s a), hw1, et, decide_eq_true (show 0 ≤ (a : Int) + 1 by omega), iteB_true, decide_eq_true (show (a : Int) + 1 ≤ (s.size : Int) by omega), iteB_true, iteB_true, decide_eq_true (show (a : Int) ≤ (a : Int) + 1 by omega), iteB_true, iteB_ss, iteB_ss]
  unfold signV at hS
  cases he : eqq s a with
  | true =>
    have h2 : a + 2 ≤ s.size := by
      unfold eqq at he
      simp only [Bool.and_eq_true, decide_eq_true_eq] at he
      exact he.1
    simp only [he, cond_true] at hS hI
    refine ⟨some ((3, (⟨#[61, 61]⟩ : ByteArray), 0, (a : Int), ()), a + 2), fun t e h => ?_, (Ev.gt 12).mono fun k hk => ⟨_, hS k hk, fun h => (by cases h), fun t e h => ?_⟩, Ev.of fun k => ⟨_, hI k, fun h => (by cases h), fun t e h => ?_⟩⟩
    · cases h; exact ⟨by omega, by omega, by show (⟨#[61, 61]⟩ : ByteArray).size ≤ s.size; rw [hs2]; omega⟩
    · cases h
      rw [not_nil (by rw [hs2]; omega), hs2, wrap_id (by omega) (by omega)]
      rfl
    · cases h
      exact ⟨by show (3 : Int) ≠ 0; decide, rfl, fun h => absurd h (by show ¬ (3 : Int) = 2; decide), fun _ => rfl⟩
  | false =>
    cases hi : isS (byteAt s a) with
    | true =>
      simp only [he, hi, cond_true, cond_false] at hS hI
      refine ⟨some ((3, ByteArray.extract s a (a + 1), 0, (a : Int), ()), a + 1), fun t e h => ?_, (Ev.gt 12).mono fun k hk => ⟨_, hS k hk, fun h => (by cases h), fun t e h => ?_⟩, Ev.of fun k => ⟨_, hI k, fun h => (by cases h), fun t e h => ?_⟩⟩
      · cases h; exact ⟨by omega, by omega, by show (ByteArray.extract s a (a + 1)).size ≤ s.size; rw [hx]; omega⟩
      · cases h
        rw [not_nil (by rw [hx]; omega), hx, wrap_id (by omega) (by omega)]
        rfl
      · cases h
        exact ⟨by show (3 : Int) ≠ 0; decide, by show (a : Int) + ((ByteArray.extract s a (a + 1)).size : Int) = _; rw [hx]; omega, fun h => absurd h (by show ¬ (3 : Int) = 2; decide), fun _ => rfl⟩
    | false =>
      simp only [he, hi, cond_false] at hS hI
      refine ⟨none, fun t e h => by (cases h), (Ev.gt 12).mono fun k hk => ⟨_, hS k hk, fun _ => hz, fun t e h => by (cases h)⟩, Ev.of fun k => ⟨_, hI k, fun _ => rfl, fun t e h => by (cases h)⟩⟩
theorem step_ok (s : ByteArray) (hb : s.size ≤ 6000) (a : Nat) (ha : a < s.size) : ∃ o, StepP s a o := by
  cases hL : isL (byteAt s a) with
  | true => exact step_letter s hb a ha hL
  | false =>
    cases hD : isD (byteAt s a) with
    | true => exact step_digit s hb a ha hL hD
    | false => exact step_sign s hb a ha hL hD
/-- All tokens from a place on. -/
def runT (s : ByteArray) (f : Nat → Option (TK × Nat)) : Nat → Nat → List TK → List TK × Int × Unit
  | 0, _, _ => ([], 0, ())
  | m + 1, a, acc => bif decide (a < s.size) then (bif byteAt s a == 32 || byteAt s a == 10 then runT s f m (a + 1) acc else match f a with
    | none => ([], (a : Int), ())
    | some p => runT s f m p.2 (acc ++ [p.1])) else (acc ++ [(0, ByteArray.empty, 0, (s.size : Int), ())], -1, ())
theorem lim40 {l : List TK} {t : TK} (h : l.length ≤ 6000) : decide ((List.length (l ++ [t])) * 40 ≤ lim) = true := decide_eq_true (by rw [List.length_append]; simp [lim]; omega)
theorem spec_tk_l5 (k : Nat) (s : ByteArray) : ∀ (n : Nat) (i : Int), spec_Tokens.l5 k n s i = spec_Tokens.l5b k n s i [] := by
  intro n
  induction n with
  | zero => intro i; rw [spec_Tokens.l5_0, spec_Tokens.l5b_0]
  | succ n ih => intro i; rw [spec_Tokens.l5_s, spec_Tokens.l5b_s, spec_Tokens.j8_e, spec_Tokens.j8b_e]; simp only [ih]; rfl
theorem impl_tk_l5 (k : Nat) (s : ByteArray) : ∀ (n : Nat) (i : Int), impl_Tokens.l5 k n s i = impl_Tokens.l5b k n s i [] := by
  intro n
  induction n with
  | zero => intro i; rw [impl_Tokens.l5_0, impl_Tokens.l5b_0]
  | succ n ih => intro i; rw [impl_Tokens.l5_s, impl_Tokens.l5b_s, impl_Tokens.j8_e, impl_Tokens.j8b_e]; simp only [ih]; rfl
theorem spec_run (s : ByteArray) (hb : s.size ≤ 6000) (f : Nat → Option (TK × Nat)) (k : Nat) (hk : 0 < k)
    (hf : ∀ a, a < s.size → (∀ t e, f a = some (t, e) → a < e ∧ e ≤ s.size ∧ t.2.1.size ≤ s.size) ∧ ∃ r, spec_l5One k s (a : Int) = some r ∧ (f a = none → r.2.2.1 = false) ∧ ∀ t e, f a = some (t, e) → r = (t, (e : Int), true, ())) :
    ∀ (m a n : Nat) (acc : List TK), a ≤ s.size → s.size - a < m → m ≤ n → acc.length ≤ a → spec_Tokens.l5b k n s (a : Int) acc = some (runT s f m a acc)
  | 0, a, n, acc, h1, h2, _, _ => by omega
  | m + 1, a, n, acc, h1, h2, h3, h4 => by
    obtain ⟨n, rfl⟩ : ∃ p, n = p + 1 := ⟨n - 1, by omega⟩
    unfold runT
    rw [spec_Tokens.l5b_s]
    by_cases ha : a < s.size
    · have e1 : ((a : Int) + 1) = ((a + 1 : Nat) : Int) := by omega
      have hw1 : IntKind.wrap .i64 ((a : Int) + 1) = ((a + 1 : Nat) : Int) := by rw [wrap_id (by omega) (by omega)]; exact e1
      obtain ⟨hp, r, er, r0, r1⟩ := hf a ha
      rw [decide_eq_true ha, cond_true, decide_eq_true (show (a : Int) < (s.size : Int) by omega), iteB_true, decide_eq_true (show 0 ≤ (a : Int) by omega), iteB_true, iteB_true, Int.toNat_natCast, hw1, spec_run s hb f k hk hf m (a + 1) n acc (by omega) (by omega) (by omega) (by omega), gate_pos hk, spec_Tokens.j8b_e, er, bindO_some]
      cases h32 : byteAt s a == 32
      · cases h10 : byteAt s a == 10
        · simp only [Bool.not_false, Bool.or_false, iteB_true, iteB_false, cond_false]
          cases hfa : f a with
          | none => rw [r0 hfa]; rfl
          | some p =>
            obtain ⟨t, e⟩ := p
            have := r1 t e hfa
            subst this
            have hp := hp t e hfa
            show iteB false _ (iteB (decide ((List.length (acc ++ [t])) * 40 ≤ lim)) (spec_Tokens.l5b k n s (e : Int) (acc ++ [t])) none) = _
            rw [iteB_false, lim40 (by omega), iteB_true]
            exact spec_run s hb f k hk hf m e n _ hp.2.1 (by omega) (by omega) (by rw [List.length_append]; show acc.length + 1 ≤ e; omega)
        · rfl
      · rfl
    · rw [decide_eq_false ha, cond_false, decide_eq_false (show ¬ (a : Int) < (s.size : Int) by omega), iteB_false, lim40 (by omega), iteB_true]
theorem impl_run (s : ByteArray) (hb : s.size ≤ 6000) (f : Nat → Option (TK × Nat)) (k : Nat) (hk : 0 < k)
    (hf : ∀ a, a < s.size → (∀ t e, f a = some (t, e) → a < e ∧ e ≤ s.size ∧ t.2.1.size ≤ s.size) ∧ ∃ r, impl_token k s (a : Int) = some r ∧ (f a = none → r.1 = 0) ∧ ∀ t e, f a = some (t, e) → r.1 ≠ 0 ∧ (a : Int) + (r.2.1.size : Int) = (e : Int) ∧ (r.1 = 2 → t = (r.1, (⟨#[]⟩ : ByteArray), r.2.2.1, r.2.2.2.1, ())) ∧ (r.1 ≠ 2 → t = r)) :
    ∀ (m a n : Nat) (acc : List TK), a ≤ s.size → s.size - a < m → m ≤ n → acc.length ≤ a → impl_Tokens.l5b k n s (a : Int) acc = some (runT s f m a acc)
  | 0, a, n, acc, h1, h2, _, _ => by omega
  | m + 1, a, n, acc, h1, h2, h3, h4 => by
    obtain ⟨n, rfl⟩ : ∃ p, n = p + 1 := ⟨n - 1, by omega⟩
    unfold runT
    rw [impl_Tokens.l5b_s]
    by_cases ha : a < s.size
    · have e1 : ((a : Int) + 1) = ((a + 1 : Nat) : Int) := by omega
      have hw1 : IntKind.wrap .i64 ((a : Int) + 1) = ((a + 1 : Nat) : Int) := by rw [wrap_id (by omega) (by omega)]; exact e1
      obtain ⟨hp, r, er, r0, r1⟩ := hf a ha
      rw [decide_eq_true ha, cond_true, decide_eq_true (show (a : Int) < (s.size : Int) by omega), iteB_true, decide_eq_true (show 0 ≤ (a : Int) by omega), iteB_true, iteB_true, Int.toNat_natCast, hw1, impl_run s hb f k hk hf m (a + 1) n acc (by omega) (by omega) (by omega) (by omega), gate_pos hk, impl_Tokens.j8b_e, er, bindO_some]
      cases h32 : byteAt s a == 32
      · cases h10 : byteAt s a == 10
        · simp only [Bool.not_false, Bool.or_false, iteB_true, iteB_false, cond_false]
          cases hfa : f a with
          | none => rw [r0 hfa]; rfl
          | some p =>
            obtain ⟨t, e⟩ := p
            obtain ⟨q0, q1, q2, q3⟩ := r1 t e hfa
            have hp := hp t e hfa
            have z0 : (r.1 == 0) = false := beq_eq_false_iff_ne.2 q0
            have hw : IntKind.wrap .i64 ((a : Int) + (r.2.1.size : Int)) = (e : Int) := by rw [q1]; exact wrap_id (by omega) (by omega)
            rw [z0, iteB_false, hw, lim40 (by omega), lim40 (by omega), iteB_true, iteB_true]
            have nx := impl_run s hb f k hk hf m e n (acc ++ [t]) hp.2.1 (by omega) (by omega) (by rw [List.length_append]; show acc.length + 1 ≤ e; omega)
            by_cases h2 : r.1 = 2
            · have z2 : (r.1 == 2) = true := by simp [h2]
              rw [z2, iteB_true, ← q2 h2]; exact nx
            · have z2 : (r.1 == 2) = false := by simp [h2]
              rw [z2, iteB_false, ← q3 h2]; exact nx
        · rfl
      · rfl
    · rw [decide_eq_false ha, cond_false, decide_eq_false (show ¬ (a : Int) < (s.size : Int) by omega), iteB_false, lim40 (by omega), iteB_true]

/-! The text of a mark. -/
theorem marks_l4 (k : Nat) : ∀ (m n : Nat) (x : Int) (t : ByteArray), 0 ≤ x → x ≤ 9223372036854775807 → x < 10 ^ m → m < n → t.size + m ≤ 1000 → ∃ u, laws_markText.l4 k n x t = some u
  | 0, n, x, t, h0, hb0, h1, h2, h3 => by
    obtain ⟨n, rfl⟩ : ∃ p, n = p + 1 := ⟨n - 1, by omega⟩
    have hx : x = 0 := by simp at h1; omega
    have hs : ByteArray.size (⟨#[109]⟩ : ByteArray) = 1 := rfl
    rw [laws_markText.l4_s, iteB_neg (by omega), hs, iteB_pos (by omega)]
    exact ⟨_, rfl⟩
  | m + 1, n, x, t, h0, hb0, h1, h2, h3 => by
    obtain ⟨n, rfl⟩ : ∃ p, n = p + 1 := ⟨n - 1, by omega⟩
    have hs : ByteArray.size (⟨#[109]⟩ : ByteArray) = 1 := rfl
    by_cases hx : x > 0
    · have hb : ∀ y : Int, ByteArray.size (bytesVal [y]) = 1 := fun y => rfl
      have hd : Int.tdiv x 10 = x / 10 := Int.tdiv_eq_ediv_of_nonneg h0
      rw [Int.pow_succ] at h1
      have hlt : x / 10 < 10 ^ m := by generalize (10 : Int) ^ m = P at h1; omega
      rw [laws_markText.l4_s, iteB_pos hx, hb, iteB_pos (by omega), hd, wrap_id (by omega) (by omega)]
      exact marks_l4 k m n (x / 10) _ (by omega) (by omega) hlt (by omega) (by rw [ByteArray.size_append, hb]; omega)
    · rw [laws_markText.l4_s, iteB_neg hx, hs, iteB_pos (by omega)]
      exact ⟨_, rfl⟩
theorem markText_ok : TextOk laws_markText := (Ev.gt 30).mono fun q hq kk h0 hM => by
  rw [laws_markText_e]
  by_cases h : kk ≤ 0
  · rw [iteB_pos h]; exact ⟨_, rfl⟩
  · rw [iteB_neg h]; exact marks_l4 q 20 q kk _ h0 (by omega) (by omega) (by omega) (by show 0 + 20 ≤ 1000; omega)

theorem eqToken_ok : EqOk (.pair (.int .i64) (.pair .str (.pair (.int .i64) (.pair (.int .i64) .unit)))) laws_eqToken := fun (a1 : Int × ByteArray × Int × Int × Unit) (hx : FitT (.pair (.int .i64) (.pair .str (.pair (.int .i64) (.pair (.int .i64) .unit)))) a1) => EqE.eq (fun k => laws_eqToken_e k a1 a1) (EqE.word (by simp) (EqE.word (by simp) (EqE.word (by simp) (EqE.word (by simp) (EqE.done)))))
theorem eqTokenS_ok : EqOk (.row (.pair (.int .i64) (.pair .str (.pair (.int .i64) (.pair (.int .i64) .unit))))) laws_eqTokenS := eq_row (α := (Int × ByteArray × Int × Int × Unit)) (F := FitT (.pair (.int .i64) (.pair .str (.pair (.int .i64) (.pair (.int .i64) .unit))))) (d := (Ty.dflt (.pair (.int .i64) (.pair .str (.pair (.int .i64) (.pair (.int .i64) .unit)))))) (S := laws_eqTokenS) (L := laws_eqTokenS.l4) (f := laws_eqToken) eqToken_ok laws_eqTokenS.l4_s laws_eqTokenS_e
theorem markTokenS_ok : MarkOk (FitT (.row (.pair (.int .i64) (.pair .str (.pair (.int .i64) (.pair (.int .i64) .unit)))))) laws_markTokenS 4194304 := mark_row (α := (Int × ByteArray × Int × Int × Unit)) (d := (Ty.dflt (.pair (.int .i64) (.pair .str (.pair (.int .i64) (.pair (.int .i64) .unit)))))) (F := FitT (.pair (.int .i64) (.pair .str (.pair (.int .i64) (.pair (.int .i64) .unit))))) (B := 4) (L := laws_markTokenS.l2) (by omega) (fun x hx => (((markText_ok).and (Ev.of fun _ => trivial))).mono fun q hq kk h0 hM n ys i i0 i1 hl hx' => by
  obtain ⟨t0, _⟩ := hq
  obtain ⟨s1, w1⟩ := t0 (kk + 1) (by omega) (by omega)
  refine ⟨kk + 1 + 1 + 1 + 1, ?_, by omega, by omega, ?_⟩
  rotate_left
  · rw [laws_markTokenS.l2_s]
    obtain ⟨dd, hdd⟩ : ∃ d : (Int × ByteArray × Int × Int × Unit), d = Ty.dflt (.pair (.int .i64) (.pair .str (.pair (.int .i64) (.pair (.int .i64) .unit)))) := ⟨_, rfl⟩
    rw [← hdd] at hx' ⊢
    simp (disch := omega) only [List.length_set, List.set_set, getD_set_same, iteB_pos, wrap_next, hx', bindO_some, w1]
    first | exact rfl | (simp (disch := omega) only [bindO_some, wrap_next, List.length_set, List.set_set, getD_set_same, iteB_pos]; exact rfl)) (fun q n kk i ys h => by rw [laws_markTokenS.l2_s, iteB_neg (by omega)]) (fun q xs kk => laws_markTokenS_e q xs kk) (by omega)

/-! Marks on tokens, and what is held of them. -/
def cntT (g : Int → ByteArray) : Int → Nat → List TK
  | _, 0 => []
  | k, n + 1 => (k, g (k + 1), k + 1 + 1, k + 1 + 1 + 1, ()) :: cntT g (k + 1 + 1 + 1 + 1) n
theorem cntT_len (g : Int → ByteArray) : ∀ (k : Int) (n : Nat), (cntT g k n).length = n
  | _, 0 => rfl
  | k, n + 1 => by simp [cntT, cntT_len g (k + 1 + 1 + 1 + 1) n]
theorem mark_toks (q : Nat) (g : Int → ByteArray) (hg : ∀ kk : Int, 0 ≤ kk → kk ≤ 1000000 → laws_markText q kk = some (g kk)) (xs : List TK) (hl : xs.length ≤ 6001) (hq : xs.length < q) : laws_markTokenS q xs 1 = some (1 + 4 * (xs.length : Int), cntT g 1 xs.length) := by
  have key : ∀ (m : Nat) (i kk : Int) (ys : List TK) (p : Nat), 0 ≤ i → (ys.length : Int) - i = m → m < p → ys.length ≤ 6001 → 0 ≤ kk → kk ≤ 1 + 4 * i → laws_markTokenS.l2 q p kk i ys = some (kk + 4 * (m : Int), ys.take i.toNat ++ cntT g kk m) := by
    intro m
    induction m with
    | zero =>
      intro i kk ys p hi hm hp hl h0 h1
      obtain ⟨p, rfl⟩ : ∃ q, p = q + 1 := ⟨p - 1, by omega⟩
      rw [laws_markTokenS.l2_s, iteB_neg (by omega), List.take_of_length_le (by omega)]
      simp [cntT]
    | succ m ih =>
      intro i kk ys p hi hm hp hl h0 h1
      obtain ⟨p, rfl⟩ : ∃ q, p = q + 1 := ⟨p - 1, by omega⟩
      have i1 : i < (ys.length : Int) := by omega
      have w1 := hg (kk + 1) (by omega) (by omega)
      have st : laws_markTokenS.l2 q (p + 1) kk i ys = laws_markTokenS.l2 q p (kk + 1 + 1 + 1 + 1) (i + 1) (ys.set i.toNat (kk, g (kk + 1), kk + 1 + 1, kk + 1 + 1 + 1, ())) := by
        rw [laws_markTokenS.l2_s]
        obtain ⟨dd, hdd⟩ : ∃ d : (Int × ByteArray × Int × Int × Unit), d = Ty.dflt (.pair (.int .i64) (.pair .str (.pair (.int .i64) (.pair (.int .i64) .unit)))) := ⟨_, rfl⟩
        rw [← hdd]
        obtain ⟨x, hx'⟩ : ∃ x, ys.getD i.toNat dd = x := ⟨_, rfl⟩
        rw [hx']
        simp (disch := omega) only [List.length_set, List.set_set, getD_set_same, iteB_pos, wrap_next, hx', bindO_some, w1]
        all_goals first | exact rfl | (simp (disch := omega) only [bindO_some, wrap_next, List.length_set, List.set_set, getD_set_same, iteB_pos]; exact rfl)
      have h3 : (i + 1).toNat = i.toNat + 1 := by omega
      rw [st, ih (i + 1) (kk + 1 + 1 + 1 + 1) _ p (by omega) (by rw [List.length_set]; omega) (by omega) (by rw [List.length_set]; exact hl) (by omega) (by omega)]
      congr 2
      · omega
      · rw [h3, List.take_succ_eq_append_getElem (by simp; omega), List.append_assoc]
        have e1 : List.take i.toNat (ys.set i.toNat (kk, g (kk + 1), kk + 1 + 1, kk + 1 + 1 + 1, ())) = ys.take i.toNat := by rw [List.take_set, List.set_eq_of_length_le (by simp; omega)]
        rw [e1]
        congr 1
        simp [cntT]
  have := key xs.length 0 1 xs q (by omega) (by omega) hq hl (by omega) (by omega)
  rw [laws_markTokenS_e, this]
  rfl
theorem held_toks (q : Nat) (g : Int → ByteArray) (hg : ∀ kk : Int, 0 ≤ kk → kk ≤ 1000000 → laws_markText q kk = some (g kk)) (n : Nat) (hl : n ≤ 6001) (hq : n < q) : laws_heldTokenS q (cntT g 1 n) 1 = some (1 + 4 * (n : Int)) := by
  have key : ∀ (m : Nat) (i kk : Int) (ys : List TK) (p : Nat), 0 ≤ i → (ys.length : Int) - i = m → m < p → ys.length ≤ 6001 → 0 ≤ kk → kk ≤ 1 + 4 * i → ys.drop i.toNat = cntT g kk m → laws_heldTokenS.l2 q p ys kk i = some (kk + 4 * (m : Int)) := by
    intro m
    induction m with
    | zero =>
      intro i kk ys p hi hm hp hl h0 h1 _
      obtain ⟨p, rfl⟩ : ∃ q, p = q + 1 := ⟨p - 1, by omega⟩
      rw [laws_heldTokenS.l2_s, iteB_neg (by omega)]
      simp
    | succ m ih =>
      intro i kk ys p hi hm hp hl h0 h1 hd
      obtain ⟨p, rfl⟩ : ∃ q, p = q + 1 := ⟨p - 1, by omega⟩
      have hlt : i < (ys.length : Int) := by omega
      have w1 := hg (kk + 1) (by omega) (by omega)
      rw [laws_heldTokenS.l2_s]
      obtain ⟨dd, hdd⟩ : ∃ d : (Int × ByteArray × Int × Int × Unit), d = Ty.dflt (.pair (.int .i64) (.pair .str (.pair (.int .i64) (.pair (.int .i64) .unit)))) := ⟨_, rfl⟩
      rw [← hdd]
      have h3 := drop_at ys dd i hi hlt
      rw [h3] at hd
      obtain ⟨e1, e2⟩ := List.cons.inj hd
      have b1 : (kk != kk) = false := by simp
      have b2 : (kk + 1 + 1 != kk + 1 + 1) = false := by simp
      have b3 : (kk + 1 + 1 + 1 != kk + 1 + 1 + 1) = false := by simp
      have b4 : (!(ByteArray.toList (g (kk + 1)) == ByteArray.toList (g (kk + 1)))) = false := by simp
      simp (disch := omega) only [e1, iteB_pos, wrap_next, bindO_some, w1, b1, b2, b3, b4, iteB_false]
      rw [ih (i + 1) (kk + 1 + 1 + 1 + 1) ys p (by omega) (by omega) (by omega) hl (by omega) (by omega) e2]
      congr 1; omega
  have hlen := cntT_len g 1 n
  have := key n 0 1 (cntT g 1 n) q (by omega) (by omega) hq (by omega) (by omega) (by omega) rfl
  rw [laws_heldTokenS_e, this]
theorem runT_fit (s : ByteArray) (hb : s.size ≤ 6000) (f : Nat → Option (TK × Nat)) (hf : ∀ a, a < s.size → ∀ t e, f a = some (t, e) → a < e ∧ e ≤ s.size ∧ t.2.1.size ≤ s.size) : ∀ (m a : Nat) (acc : List TK), a ≤ s.size → acc.length ≤ a → (∀ t ∈ acc, t.2.1.size ≤ 6000) → (runT s f m a acc).1.length ≤ 6001 ∧ ∀ t ∈ (runT s f m a acc).1, t.2.1.size ≤ 6000
  | 0, _, _, _, _, _ => ⟨Nat.zero_le _, fun t h => by cases h⟩
  | m + 1, a, acc, h1, h2, h3 => by
    unfold runT
    by_cases ha : a < s.size
    · rw [decide_eq_true ha, cond_true]
      cases byteAt s a == 32 || byteAt s a == 10
      · rw [cond_false]
        cases hfa : f a with
        | none => exact ⟨Nat.zero_le _, fun t h => by cases h⟩
        | some p =>
          obtain ⟨t, e⟩ := p
          have hp := hf a ha t e hfa
          exact runT_fit s hb f hf m e _ hp.2.1 (by rw [List.length_append]; show acc.length + 1 ≤ e; omega) (fun u hu => by
            rcases List.mem_append.1 hu with h | h
            · exact h3 u h
            · rw [List.mem_singleton.1 h]; show t.2.1.size ≤ 6000; omega)
      · exact runT_fit s hb f hf m (a + 1) acc (by omega) (by omega) h3
    · rw [decide_eq_false ha, cond_false]
      refine ⟨by rw [List.length_append]; show acc.length + 1 ≤ 6001; omega, fun u hu => ?_⟩
      rcases List.mem_append.1 hu with h | h
      · exact h3 u h
      · rw [List.mem_singleton.1 h]; exact Nat.zero_le _
theorem both_ok (s : ByteArray) : ∃ o : List TK × Int × Unit, (Ev fun k => spec_Tokens k s = some o) ∧ (Ev fun k => impl_Tokens k s = some o) ∧ o.1.length ≤ 6001 ∧ ∀ t ∈ o.1, t.2.1.size ≤ 6000 := by
  by_cases hb : s.size ≤ 6000
  · have hall : ∀ a, ∃ o, a < s.size → StepP s a o := fun a => by
      by_cases ha : a < s.size
      · obtain ⟨o, h⟩ := step_ok s hb a ha; exact ⟨o, fun _ => h⟩
      · exact ⟨none, fun h => absurd h ha⟩
    let f : Nat → Option (TK × Nat) := fun a => Classical.choose (hall a)
    have hf : ∀ a, a < s.size → StepP s a (f a) := fun a => Classical.choose_spec (hall a)
    refine ⟨runT s f (s.size + 1) 0 [], ?_, ?_, runT_fit s hb f (fun a ha => (hf a ha).1) _ 0 [] (Nat.zero_le _) (Nat.le_refl _) (fun t h => by cases h)⟩
    · have ev := Ev.all (l := List.range s.size) (fun a ha => (hf a (List.mem_range.1 ha)).2.1)
      refine ev.two (Ev.gt (s.size + 1)) fun k h1 h2 => ?_
      have := spec_run s hb f k (by omega) (fun a ha => ⟨(hf a ha).1, h1 a (List.mem_range.2 ha)⟩) (s.size + 1) 0 k [] (by omega) (by omega) (by omega) (Nat.le_refl _)
      rw [spec_Tokens_e, decide_eq_false (by omega), iteB_false, spec_tk_l5]
      exact this
    · have ev := Ev.all (l := List.range s.size) (fun a ha => (hf a (List.mem_range.1 ha)).2.2)
      refine ev.two (Ev.gt (s.size + 1)) fun k h1 h2 => ?_
      have := impl_run s hb f k (by omega) (fun a ha => ⟨(hf a ha).1, h1 a (List.mem_range.2 ha)⟩) (s.size + 1) 0 k [] (by omega) (by omega) (by omega) (Nat.le_refl _)
      rw [impl_Tokens_e, decide_eq_false (by omega), iteB_false, impl_tk_l5]
      exact this
  · exact ⟨([], 0, ()), Ev.of fun k => by rw [spec_Tokens_e, decide_eq_true (by omega), iteB_true], Ev.of fun k => by rw [impl_Tokens_e, decide_eq_true (by omega), iteB_true], Nat.zero_le _, fun t h => by cases h⟩
theorem FnExactTokens : ∀ (x0 : ByteArray), WfT .str x0 → ∃ k, laws_FnExactTokens k x0 = some true := by
  intro s _
  by_cases hbig : (ByteArray.size s : Int) > 1048576
  · exact ⟨0, by rw [laws_FnExactTokens_e, decide_eq_true hbig, iteB_true]⟩
  refine Ev.get ?_
  obtain ⟨⟨o, w, u⟩, e1, e2, hl, ht⟩ := both_ok s
  replace hl : o.length ≤ 6001 := hl
  have hfit : FitT (.row (.pair (.int .i64) (.pair .str (.pair (.int .i64) (.pair (.int .i64) .unit))))) o := ⟨Nat.le_trans hl (by omega), fun t m => ⟨trivial, Nat.le_trans (ht t m) (by omega), trivial, trivial, trivial⟩⟩
  refine ((e1.and e2).and (eqTokenS_ok o hfit)).two (markText_ok.and ((Ev.gt 0).and (Ev.gt o.length))) fun k h1 h2 => ?_
  obtain ⟨⟨a1, a2⟩, a3⟩ := h1
  obtain ⟨b1, b2, b3⟩ := h2
  replace a3 : laws_eqTokenS k o o = some true := a3
  have hg : ∀ kk : Int, 0 ≤ kk → kk ≤ 1000000 → laws_markText k kk = some ((laws_markText k kk).getD ByteArray.empty) := fun kk g0 g1 => by
    obtain ⟨t, e⟩ := b1 kk g0 (by omega)
    rw [e]; rfl
  have m1 := mark_toks k _ hg o hl b3
  have m2 := held_toks k _ hg o.length hl b3
  have n1 : decide (1 + 4 * (o.length : Int) < 0) = false := decide_eq_false (by omega)
  have n2 : ((1 + 4 * (o.length : Int)) != (1 + 4 * (o.length : Int))) = false := by simp
  have n3 : (w != w) = false := by simp
  rw [laws_FnExactTokens_e, decide_eq_false hbig, iteB_false]
  simp only [a1, a2, a3, bindO_some, Bool.not_true, Bool.not_false, iteB_true, iteB_false, n3, gate_pos b2, laws_FnExactTokens.j7_e, laws_FnExactTokens.j18_e, m1, m2, n1, n2]

end Go.Proofs.Ytkingfejeangbaa.Pure
