/- What the functions that FnInsNamed runs come to, and that the law's own run comes to true. -/
import Derived.Test.YtkingfejeangbaaAC
import Derived.Test.YtkingfejeangbaaAMFnInsNamed0
import Derived.Test.YtkingfejeangbaaAMFnInsNamed1
namespace Go.Proofs.Ytkingfejeangbaa.Pure
open Go Go.AM Go.AMx Go.Proofs.Ytkingfejeangbaa.XFnInsNamed
set_option linter.unusedVariables false
set_option linter.unusedSimpArgs false
/-! Words. -/
def wok (x : Int) : Bool := decide (-2147483648 ≤ x ∧ x ≤ 2147483647)
theorem spec_in (k : Nat) (x lo hi : Int) : spec_l1In k x lo hi = some (decide (lo ≤ x ∧ x ≤ hi)) := by rw [spec_l1In_e, in_ge]
theorem impl_in (k : Nat) (x lo hi : Int) : impl_within k x lo hi = some (decide (lo ≤ x ∧ x ≤ hi)) := by rw [impl_within_e, in_ge]
theorem spec_wok (k : Nat) (x : Int) : spec_WordOk k x = some (wok x) := by rw [spec_WordOk_e, spec_in, bindO_some]; rfl
theorem impl_wok (k : Nat) (x : Int) : impl_WordOk k x = some (wok x) := by rw [impl_WordOk_e, impl_in, bindO_some]; rfl

/-! Sorts of no more than three words, their runs. -/
def six : List Int := [0, 1, 2, 3, 4, 5]
def inSix (l : List Int) : List Int := six.filter fun r => l.contains r
def put1 (a b : Int) : List Int := bif decide (a ≤ b) then [a, b] else [b, a]
def put2 (a b c : Int) : List Int := bif decide (a ≤ c) then a :: (bif decide (b ≤ c) then [b, c] else [c, b]) else [c, a, b]
def put3 (a b c : Int) : List Int := bif decide (a ≤ b) then put2 a b c else put2 b a c
theorem sort_2 (a b : Int) : List.mergeSort [a, b] (fun x y => decide (x ≤ y)) = put1 a b := by
  rw [List.mergeSort]
  simp only [List.MergeSort.Internal.splitInTwo]
  by_cases h : a ≤ b <;> simp [h, put1]
theorem sort_3 (a b c : Int) : List.mergeSort [a, b, c] (fun x y => decide (x ≤ y)) = put3 a b c := by
  rw [List.mergeSort]
  simp only [List.MergeSort.Internal.splitInTwo]
  simp only [put3, put2]
  by_cases h : a ≤ b <;> by_cases h1 : a ≤ c <;> by_cases h2 : b ≤ c <;> simp [put1, h, h1, h2, sort_2]
theorem chk1 : (six.all fun a => decide (Lib.compact [a] = inSix [a])) = true := by kernel_rfl
theorem chk2 : (six.all fun a => six.all fun b => decide (Lib.compact (put1 a b) = inSix [a, b])) = true := by kernel_rfl
theorem chk3 : (six.all fun a => six.all fun b => six.all fun c => decide (Lib.compact (put3 a b c) = inSix [a, b, c])) = true := by kernel_rfl
theorem uniq0 : Lib.compact (List.mergeSort ([] : List Int) fun x y => decide (x ≤ y)) = inSix [] := by rw [List.mergeSort_nil]; rfl
theorem mem_six {a : Int} (h0 : 0 ≤ a) (h : a ≤ 5) : a ∈ six := by
  have : a = 0 ∨ a = 1 ∨ a = 2 ∨ a = 3 ∨ a = 4 ∨ a = 5 := by omega
  rcases this with rfl | rfl | rfl | rfl | rfl | rfl <;> decide
theorem uniq1 {a : Int} (ha : a ∈ six) : Lib.compact (List.mergeSort [a] fun x y => decide (x ≤ y)) = inSix [a] := by
  rw [List.mergeSort_singleton]; exact of_decide_eq_true (List.all_eq_true.1 chk1 a ha)
theorem uniq2 {a b : Int} (ha : a ∈ six) (hb : b ∈ six) : Lib.compact (List.mergeSort [a, b] fun x y => decide (x ≤ y)) = inSix [a, b] := by
  rw [sort_2]; exact of_decide_eq_true (List.all_eq_true.1 (List.all_eq_true.1 chk2 a ha) b hb)
theorem uniq3 {a b c : Int} (ha : a ∈ six) (hb : b ∈ six) (hc : c ∈ six) : Lib.compact (List.mergeSort [a, b, c] fun x y => decide (x ≤ y)) = inSix [a, b, c] := by
  rw [sort_3]; exact of_decide_eq_true (List.all_eq_true.1 (List.all_eq_true.1 (List.all_eq_true.1 chk3 a ha) b hb) c hc)
/-- Registers of a place that are there, sorted, once each. -/
theorem uniq_le (l : List Int) (hl : l.length ≤ 3) (h : ∀ x ∈ l, x ∈ six) : Lib.compact (l.mergeSort fun x y => decide (x ≤ y)) = inSix l := by
  match l, hl, h with
  | [], _, _ => exact uniq0
  | [a], _, h => exact uniq1 (h a (by simp))
  | [a, b], _, h => exact uniq2 (h a (by simp)) (h b (by simp))
  | [a, b, c], _, h => exact uniq3 (h a (by simp)) (h b (by simp)) (h c (by simp))
  | _ :: _ :: _ :: _ :: _, hl, _ => simp at hl

/-! Places of an image. -/
theorem fsz_0 : ((ByteArray.size (⟨#[82, 78]⟩ : ByteArray) : Nat) : Int) = 2 := rfl
theorem fby_0_0 : byteAt (⟨#[82, 78]⟩ : ByteArray) 0 = 82 := rfl
theorem fby_0_1 : byteAt (⟨#[82, 78]⟩ : ByteArray) 1 = 78 := rfl
theorem fnil_0 : (!(ByteArray.toList (⟨#[82, 78]⟩ : ByteArray) == ByteArray.toList (⟨#[]⟩ : ByteArray))) = true := by kernel_rfl
theorem fsz_1 : ((ByteArray.size (⟨#[82, 65]⟩ : ByteArray) : Nat) : Int) = 2 := rfl
theorem fby_1_0 : byteAt (⟨#[82, 65]⟩ : ByteArray) 0 = 82 := rfl
theorem fby_1_1 : byteAt (⟨#[82, 65]⟩ : ByteArray) 1 = 65 := rfl
theorem fnil_1 : (!(ByteArray.toList (⟨#[82, 65]⟩ : ByteArray) == ByteArray.toList (⟨#[]⟩ : ByteArray))) = true := by kernel_rfl
theorem fsz_2 : ((ByteArray.size (⟨#[82, 65, 66]⟩ : ByteArray) : Nat) : Int) = 3 := rfl
theorem fby_2_0 : byteAt (⟨#[82, 65, 66]⟩ : ByteArray) 0 = 82 := rfl
theorem fby_2_1 : byteAt (⟨#[82, 65, 66]⟩ : ByteArray) 1 = 65 := rfl
theorem fby_2_2 : byteAt (⟨#[82, 65, 66]⟩ : ByteArray) 2 = 66 := rfl
theorem fnil_2 : (!(ByteArray.toList (⟨#[82, 65, 66]⟩ : ByteArray) == ByteArray.toList (⟨#[]⟩ : ByteArray))) = true := by kernel_rfl
theorem fsz_3 : ((ByteArray.size (⟨#[82, 65, 78]⟩ : ByteArray) : Nat) : Int) = 3 := rfl
theorem fby_3_0 : byteAt (⟨#[82, 65, 78]⟩ : ByteArray) 0 = 82 := rfl
theorem fby_3_1 : byteAt (⟨#[82, 65, 78]⟩ : ByteArray) 1 = 65 := rfl
theorem fby_3_2 : byteAt (⟨#[82, 65, 78]⟩ : ByteArray) 2 = 78 := rfl
theorem fnil_3 : (!(ByteArray.toList (⟨#[82, 65, 78]⟩ : ByteArray) == ByteArray.toList (⟨#[]⟩ : ByteArray))) = true := by kernel_rfl
theorem fsz_4 : ((ByteArray.size (⟨#[65, 66, 78]⟩ : ByteArray) : Nat) : Int) = 3 := rfl
theorem fby_4_0 : byteAt (⟨#[65, 66, 78]⟩ : ByteArray) 0 = 65 := rfl
theorem fby_4_1 : byteAt (⟨#[65, 66, 78]⟩ : ByteArray) 1 = 66 := rfl
theorem fby_4_2 : byteAt (⟨#[65, 66, 78]⟩ : ByteArray) 2 = 78 := rfl
theorem fnil_4 : (!(ByteArray.toList (⟨#[65, 66, 78]⟩ : ByteArray) == ByteArray.toList (⟨#[]⟩ : ByteArray))) = true := by kernel_rfl
theorem fsz_5 : ((ByteArray.size (⟨#[78]⟩ : ByteArray) : Nat) : Int) = 1 := rfl
theorem fby_5_0 : byteAt (⟨#[78]⟩ : ByteArray) 0 = 78 := rfl
theorem fnil_5 : (!(ByteArray.toList (⟨#[78]⟩ : ByteArray) == ByteArray.toList (⟨#[]⟩ : ByteArray))) = true := by kernel_rfl
theorem fsz_6 : ((ByteArray.size (⟨#[65, 78]⟩ : ByteArray) : Nat) : Int) = 2 := rfl
theorem fby_6_0 : byteAt (⟨#[65, 78]⟩ : ByteArray) 0 = 65 := rfl
theorem fby_6_1 : byteAt (⟨#[65, 78]⟩ : ByteArray) 1 = 78 := rfl
theorem fnil_6 : (!(ByteArray.toList (⟨#[65, 78]⟩ : ByteArray) == ByteArray.toList (⟨#[]⟩ : ByteArray))) = true := by kernel_rfl
theorem fsz_7 : ((ByteArray.size (⟨#[78, 77]⟩ : ByteArray) : Nat) : Int) = 2 := rfl
theorem fby_7_0 : byteAt (⟨#[78, 77]⟩ : ByteArray) 0 = 78 := rfl
theorem fby_7_1 : byteAt (⟨#[78, 77]⟩ : ByteArray) 1 = 77 := rfl
theorem fnil_7 : (!(ByteArray.toList (⟨#[78, 77]⟩ : ByteArray) == ByteArray.toList (⟨#[]⟩ : ByteArray))) = true := by kernel_rfl
theorem fsz_8 : ((ByteArray.size (⟨#[45]⟩ : ByteArray) : Nat) : Int) = 1 := rfl
theorem fby_8_0 : byteAt (⟨#[45]⟩ : ByteArray) 0 = 45 := rfl
theorem fnil_8 : (!(ByteArray.toList (⟨#[45]⟩ : ByteArray) == ByteArray.toList (⟨#[]⟩ : ByteArray))) = true := by kernel_rfl
theorem fsz_9 : ((ByteArray.size (⟨#[65]⟩ : ByteArray) : Nat) : Int) = 1 := rfl
theorem fby_9_0 : byteAt (⟨#[65]⟩ : ByteArray) 0 = 65 := rfl
theorem fnil_9 : (!(ByteArray.toList (⟨#[65]⟩ : ByteArray) == ByteArray.toList (⟨#[]⟩ : ByteArray))) = true := by kernel_rfl
theorem fsz_10 : ((ByteArray.size (⟨#[65, 66]⟩ : ByteArray) : Nat) : Int) = 2 := rfl
theorem fby_10_0 : byteAt (⟨#[65, 66]⟩ : ByteArray) 0 = 65 := rfl
theorem fby_10_1 : byteAt (⟨#[65, 66]⟩ : ByteArray) 1 = 66 := rfl
theorem fnil_10 : (!(ByteArray.toList (⟨#[65, 66]⟩ : ByteArray) == ByteArray.toList (⟨#[]⟩ : ByteArray))) = true := by kernel_rfl
theorem fsz_11 : ((ByteArray.size (⟨#[82]⟩ : ByteArray) : Nat) : Int) = 1 := rfl
theorem fby_11_0 : byteAt (⟨#[82]⟩ : ByteArray) 0 = 82 := rfl
theorem fnil_11 : (!(ByteArray.toList (⟨#[82]⟩ : ByteArray) == ByteArray.toList (⟨#[]⟩ : ByteArray))) = true := by kernel_rfl
theorem fsz_12 : ((ByteArray.size (⟨#[]⟩ : ByteArray) : Nat) : Int) = 0 := rfl
theorem fnil_12 : (!(ByteArray.toList (⟨#[]⟩ : ByteArray) == ByteArray.toList (⟨#[]⟩ : ByteArray))) = false := by kernel_rfl
theorem wr_1 : IntKind.wrap .i64 1 = 1 := rfl
theorem wr_2 : IntKind.wrap .i64 2 = 2 := rfl
theorem wr_3 : IntKind.wrap .i64 3 = 3 := rfl
theorem wr_4 : IntKind.wrap .i64 4 = 4 := rfl
def bit (h b : Int) : Bool := (IntKind.wrap .i64 ((BitVec.ofInt (IntKind.bits .i64) h &&& BitVec.ofInt (IntKind.bits .i64) b).toNat : Int)) != 0
theorem bit_0_1 : bit 0 1 = false := by kernel_rfl
theorem bit_0_2 : bit 0 2 = false := by kernel_rfl
theorem bit_0_4 : bit 0 4 = false := by kernel_rfl
theorem bit_0_8 : bit 0 8 = false := by kernel_rfl
theorem bit_0_16 : bit 0 16 = false := by kernel_rfl
theorem bit_1_1 : bit 1 1 = true := by kernel_rfl
theorem bit_1_2 : bit 1 2 = false := by kernel_rfl
theorem bit_1_4 : bit 1 4 = false := by kernel_rfl
theorem bit_1_8 : bit 1 8 = false := by kernel_rfl
theorem bit_1_16 : bit 1 16 = false := by kernel_rfl
theorem bit_2_1 : bit 2 1 = false := by kernel_rfl
theorem bit_2_2 : bit 2 2 = true := by kernel_rfl
theorem bit_2_4 : bit 2 4 = false := by kernel_rfl
theorem bit_2_8 : bit 2 8 = false := by kernel_rfl
theorem bit_2_16 : bit 2 16 = false := by kernel_rfl
theorem bit_3_1 : bit 3 1 = true := by kernel_rfl
theorem bit_3_2 : bit 3 2 = true := by kernel_rfl
theorem bit_3_4 : bit 3 4 = false := by kernel_rfl
theorem bit_3_8 : bit 3 8 = false := by kernel_rfl
theorem bit_3_16 : bit 3 16 = false := by kernel_rfl
theorem bit_6_1 : bit 6 1 = false := by kernel_rfl
theorem bit_6_2 : bit 6 2 = true := by kernel_rfl
theorem bit_6_4 : bit 6 4 = true := by kernel_rfl
theorem bit_6_8 : bit 6 8 = false := by kernel_rfl
theorem bit_6_16 : bit 6 16 = false := by kernel_rfl
theorem bit_7_1 : bit 7 1 = true := by kernel_rfl
theorem bit_7_2 : bit 7 2 = true := by kernel_rfl
theorem bit_7_4 : bit 7 4 = true := by kernel_rfl
theorem bit_7_8 : bit 7 8 = false := by kernel_rfl
theorem bit_7_16 : bit 7 16 = false := by kernel_rfl
theorem bit_8_1 : bit 8 1 = false := by kernel_rfl
theorem bit_8_2 : bit 8 2 = false := by kernel_rfl
theorem bit_8_4 : bit 8 4 = false := by kernel_rfl
theorem bit_8_8 : bit 8 8 = true := by kernel_rfl
theorem bit_8_16 : bit 8 16 = false := by kernel_rfl
theorem bit_9_1 : bit 9 1 = true := by kernel_rfl
theorem bit_9_2 : bit 9 2 = false := by kernel_rfl
theorem bit_9_4 : bit 9 4 = false := by kernel_rfl
theorem bit_9_8 : bit 9 8 = true := by kernel_rfl
theorem bit_9_16 : bit 9 16 = false := by kernel_rfl
theorem bit_10_1 : bit 10 1 = false := by kernel_rfl
theorem bit_10_2 : bit 10 2 = true := by kernel_rfl
theorem bit_10_4 : bit 10 4 = false := by kernel_rfl
theorem bit_10_8 : bit 10 8 = true := by kernel_rfl
theorem bit_10_16 : bit 10 16 = false := by kernel_rfl
theorem bit_11_1 : bit 11 1 = true := by kernel_rfl
theorem bit_11_2 : bit 11 2 = true := by kernel_rfl
theorem bit_11_4 : bit 11 4 = false := by kernel_rfl
theorem bit_11_8 : bit 11 8 = true := by kernel_rfl
theorem bit_11_16 : bit 11 16 = false := by kernel_rfl
theorem bit_14_1 : bit 14 1 = false := by kernel_rfl
theorem bit_14_2 : bit 14 2 = true := by kernel_rfl
theorem bit_14_4 : bit 14 4 = true := by kernel_rfl
theorem bit_14_8 : bit 14 8 = true := by kernel_rfl
theorem bit_14_16 : bit 14 16 = false := by kernel_rfl
theorem bit_24_1 : bit 24 1 = false := by kernel_rfl
theorem bit_24_2 : bit 24 2 = false := by kernel_rfl
theorem bit_24_4 : bit 24 4 = false := by kernel_rfl
theorem bit_24_8 : bit 24 8 = true := by kernel_rfl
theorem bit_24_16 : bit 24 16 = true := by kernel_rfl
def fld (x hi : Int) (has : Bool) : Bool := bif decide (0 ≤ x ∧ x ≤ hi) then (bif !has then x == 0 else true) else false
theorem spec_fld (k : Nat) (x hi : Int) (b : Bool) : spec_l2Field k x hi b = some (fld x hi b) := by
  rw [spec_l2Field_e, spec_in, bindO_some, iteB_ss, iteB_ss]; rfl
def hasN (op : Int) : Int := if 1 ≤ op ∧ op ≤ 19 then List.getD [0, 9, 3, 7, 7, 7, 7, 7, 11, 14, 7, 8, 10, 24, 0, 2, 6, 6, 1, 2] op.toNat 0 else 0
theorem spec_has (k : Nat) (op : Int) : spec_l2Has k op = some (hasN op) := by
  rw [spec_l2Has_e, spec_in, bindO_some]
  unfold hasN
  by_cases h : 1 ≤ op ∧ op ≤ 19
  · rw [decide_eq_true h, Bool.not_true, iteB_false, iteB_pos (by omega), iteB_pos (by simp; omega), if_pos h]
  · rw [decide_eq_false h, Bool.not_false, iteB_true, if_neg h]
abbrev TI : Type := Int × Int × Int × Int × Int × Int × Unit
def insV (h most : Int) (x : TI) : Bool :=
  bif decide (1 ≤ x.1 ∧ x.1 ≤ 19) then (bif fld x.2.1 5 (bit h 1) then (bif fld x.2.2.1 most (bit h 2) then (bif fld x.2.2.2.1 5 (bit h 4) then (bif wok x.2.2.2.2.1 then (bif !(bit h 8) then (bif x.2.2.2.2.1 == 0 then fld x.2.2.2.2.2.1 60 (bit h 16) else false) else fld x.2.2.2.2.2.1 60 (bit h 16)) else false) else false) else false) else false) else false
theorem spec_insj (k : Nat) (h most : Int) (x : TI) : spec_InsOk.j5 k h most x = some (insV h most x) := by
  rw [spec_InsOk.j5_e]
  simp only [spec_in, spec_fld, spec_wok, bindO_some, iteB_ss]
  rfl
def insP (x : TI) : Bool := insV (hasN x.1) (if x.1 = 8 ∨ x.1 = 9 then 6 else 5) x
theorem spec_ins (x : TI) : Ev fun k => spec_InsOk k x = some (insP x) := by
  refine (Ev.gt 0).mono fun k hk => ?_
  rw [spec_InsOk_e, spec_has, bindO_some, gate_pos hk, gate_pos hk, spec_insj, spec_insj, iteB_ss, iteB_ss]
  unfold insP
  by_cases h8 : x.1 = 8
  · have : (!(x.1 == 8)) = false := by simp [h8]
    rw [this, if_pos (.inl h8)]; rfl
  · by_cases h9 : x.1 = 9
    · have a : (!(x.1 == 8)) = true := by simp [h8]
      have b : (x.1 == 9) = true := by simp [h9]
      rw [a, b, if_pos (.inr h9)]; rfl
    · have a : (!(x.1 == 8)) = true := by simp [h8]
      have b : (x.1 == 9) = false := by simp [h9]
      rw [a, b, if_neg (by omega)]; rfl
theorem impl_reg (k : Nat) (x : Int) : impl_isReg k x = some (decide (0 ≤ x ∧ x ≤ 5)) := by rw [impl_isReg_e, impl_in, bindO_some]
theorem op_cases (op : Int) : op = 1 ∨ op = 2 ∨ op = 3 ∨ op = 4 ∨ op = 5 ∨ op = 6 ∨ op = 7 ∨ op = 8 ∨ op = 9 ∨ op = 10 ∨ op = 11 ∨ op = 12 ∨ op = 13 ∨ op = 14 ∨ op = 15 ∨ op = 16 ∨ op = 17 ∨ op = 18 ∨ op = 19 ∨ (op < 1 ∨ 19 < op) := by omega
set_option maxRecDepth 100000 in
theorem impl_ins_1 (r a b n m : Int) (q : Nat) : impl_InsOk (q + 5) (1, r, a, b, n, m, ()) = some (insP (1, r, a, b, n, m, ())) := by
  have e : insP (1, r, a, b, n, m, ()) = insV 9 5 (1, r, a, b, n, m, ()) := rfl
  have hh : impl_has (q + 5) 1 = some (⟨#[82, 78]⟩ : ByteArray) := by rw [impl_has_e]; rfl
  rw [e, impl_InsOk_e, hh, bindO_some, fnil_0, fsz_0]
  simp only [impl_InsOk.l6_s, fsz_0, fby_0_0, fby_0_1, wr_1, wr_2, wr_3, wr_4, Int.toNat_zero, Int.reduceAdd, Int.reduceToNat, Int.reduceLT, Int.reduceLE, Int.reduceBEq, decide_true, decide_false, iteB_true, iteB_false, impl_reg, impl_wok, impl_in, bindO_some, iteB_ss, bit_9_1, bit_9_2, bit_9_4, bit_9_8, bit_9_16]
  congr 1
  simp only [insV, fld, bit_9_1, bit_9_2, bit_9_4, bit_9_8, bit_9_16, Bool.not_true, Bool.not_false, cond_true, cond_false]
  rw [Bool.eq_iff_iff]
  simp [wok]
  all_goals (intros; first | omega | (split <;> omega))
set_option maxRecDepth 100000 in
theorem impl_ins_2 (r a b n m : Int) (q : Nat) : impl_InsOk (q + 5) (2, r, a, b, n, m, ()) = some (insP (2, r, a, b, n, m, ())) := by
  have e : insP (2, r, a, b, n, m, ()) = insV 3 5 (2, r, a, b, n, m, ()) := rfl
  have hh : impl_has (q + 5) 2 = some (⟨#[82, 65]⟩ : ByteArray) := by rw [impl_has_e]; rfl
  rw [e, impl_InsOk_e, hh, bindO_some, fnil_1, fsz_1]
  simp only [impl_InsOk.l6_s, fsz_1, fby_1_0, fby_1_1, wr_1, wr_2, wr_3, wr_4, Int.toNat_zero, Int.reduceAdd, Int.reduceToNat, Int.reduceLT, Int.reduceLE, Int.reduceBEq, decide_true, decide_false, iteB_true, iteB_false, impl_reg, impl_wok, impl_in, bindO_some, iteB_ss, bit_3_1, bit_3_2, bit_3_4, bit_3_8, bit_3_16]
  congr 1
  simp only [insV, fld, bit_3_1, bit_3_2, bit_3_4, bit_3_8, bit_3_16, Bool.not_true, Bool.not_false, cond_true, cond_false]
  rw [Bool.eq_iff_iff]
  simp [wok]
  all_goals (intros; first | omega | (split <;> omega))
set_option maxRecDepth 100000 in
theorem impl_ins_3 (r a b n m : Int) (q : Nat) : impl_InsOk (q + 5) (3, r, a, b, n, m, ()) = some (insP (3, r, a, b, n, m, ())) := by
  have e : insP (3, r, a, b, n, m, ()) = insV 7 5 (3, r, a, b, n, m, ()) := rfl
  have hh : impl_has (q + 5) 3 = some (⟨#[82, 65, 66]⟩ : ByteArray) := by rw [impl_has_e]; rfl
  rw [e, impl_InsOk_e, hh, bindO_some, fnil_2, fsz_2]
  simp only [impl_InsOk.l6_s, fsz_2, fby_2_0, fby_2_1, fby_2_2, wr_1, wr_2, wr_3, wr_4, Int.toNat_zero, Int.reduceAdd, Int.reduceToNat, Int.reduceLT, Int.reduceLE, Int.reduceBEq, decide_true, decide_false, iteB_true, iteB_false, impl_reg, impl_wok, impl_in, bindO_some, iteB_ss, bit_7_1, bit_7_2, bit_7_4, bit_7_8, bit_7_16]
  congr 1
  simp only [insV, fld, bit_7_1, bit_7_2, bit_7_4, bit_7_8, bit_7_16, Bool.not_true, Bool.not_false, cond_true, cond_false]
  rw [Bool.eq_iff_iff]
  simp [wok]
  all_goals (intros; first | omega | (split <;> omega))
set_option maxRecDepth 100000 in
theorem impl_ins_4 (r a b n m : Int) (q : Nat) : impl_InsOk (q + 5) (4, r, a, b, n, m, ()) = some (insP (4, r, a, b, n, m, ())) := by
  have e : insP (4, r, a, b, n, m, ()) = insV 7 5 (4, r, a, b, n, m, ()) := rfl
  have hh : impl_has (q + 5) 4 = some (⟨#[82, 65, 66]⟩ : ByteArray) := by rw [impl_has_e]; rfl
  rw [e, impl_InsOk_e, hh, bindO_some, fnil_2, fsz_2]
  simp only [impl_InsOk.l6_s, fsz_2, fby_2_0, fby_2_1, fby_2_2, wr_1, wr_2, wr_3, wr_4, Int.toNat_zero, Int.reduceAdd, Int.reduceToNat, Int.reduceLT, Int.reduceLE, Int.reduceBEq, decide_true, decide_false, iteB_true, iteB_false, impl_reg, impl_wok, impl_in, bindO_some, iteB_ss, bit_7_1, bit_7_2, bit_7_4, bit_7_8, bit_7_16]
  congr 1
  simp only [insV, fld, bit_7_1, bit_7_2, bit_7_4, bit_7_8, bit_7_16, Bool.not_true, Bool.not_false, cond_true, cond_false]
  rw [Bool.eq_iff_iff]
  simp [wok]
  all_goals (intros; first | omega | (split <;> omega))
set_option maxRecDepth 100000 in
theorem impl_ins_5 (r a b n m : Int) (q : Nat) : impl_InsOk (q + 5) (5, r, a, b, n, m, ()) = some (insP (5, r, a, b, n, m, ())) := by
  have e : insP (5, r, a, b, n, m, ()) = insV 7 5 (5, r, a, b, n, m, ()) := rfl
  have hh : impl_has (q + 5) 5 = some (⟨#[82, 65, 66]⟩ : ByteArray) := by rw [impl_has_e]; rfl
  rw [e, impl_InsOk_e, hh, bindO_some, fnil_2, fsz_2]
  simp only [impl_InsOk.l6_s, fsz_2, fby_2_0, fby_2_1, fby_2_2, wr_1, wr_2, wr_3, wr_4, Int.toNat_zero, Int.reduceAdd, Int.reduceToNat, Int.reduceLT, Int.reduceLE, Int.reduceBEq, decide_true, decide_false, iteB_true, iteB_false, impl_reg, impl_wok, impl_in, bindO_some, iteB_ss, bit_7_1, bit_7_2, bit_7_4, bit_7_8, bit_7_16]
  congr 1
  simp only [insV, fld, bit_7_1, bit_7_2, bit_7_4, bit_7_8, bit_7_16, Bool.not_true, Bool.not_false, cond_true, cond_false]
  rw [Bool.eq_iff_iff]
  simp [wok]
  all_goals (intros; first | omega | (split <;> omega))
set_option maxRecDepth 100000 in
theorem impl_ins_6 (r a b n m : Int) (q : Nat) : impl_InsOk (q + 5) (6, r, a, b, n, m, ()) = some (insP (6, r, a, b, n, m, ())) := by
  have e : insP (6, r, a, b, n, m, ()) = insV 7 5 (6, r, a, b, n, m, ()) := rfl
  have hh : impl_has (q + 5) 6 = some (⟨#[82, 65, 66]⟩ : ByteArray) := by rw [impl_has_e]; rfl
  rw [e, impl_InsOk_e, hh, bindO_some, fnil_2, fsz_2]
  simp only [impl_InsOk.l6_s, fsz_2, fby_2_0, fby_2_1, fby_2_2, wr_1, wr_2, wr_3, wr_4, Int.toNat_zero, Int.reduceAdd, Int.reduceToNat, Int.reduceLT, Int.reduceLE, Int.reduceBEq, decide_true, decide_false, iteB_true, iteB_false, impl_reg, impl_wok, impl_in, bindO_some, iteB_ss, bit_7_1, bit_7_2, bit_7_4, bit_7_8, bit_7_16]
  congr 1
  simp only [insV, fld, bit_7_1, bit_7_2, bit_7_4, bit_7_8, bit_7_16, Bool.not_true, Bool.not_false, cond_true, cond_false]
  rw [Bool.eq_iff_iff]
  simp [wok]
  all_goals (intros; first | omega | (split <;> omega))
set_option maxRecDepth 100000 in
theorem impl_ins_7 (r a b n m : Int) (q : Nat) : impl_InsOk (q + 5) (7, r, a, b, n, m, ()) = some (insP (7, r, a, b, n, m, ())) := by
  have e : insP (7, r, a, b, n, m, ()) = insV 7 5 (7, r, a, b, n, m, ()) := rfl
  have hh : impl_has (q + 5) 7 = some (⟨#[82, 65, 66]⟩ : ByteArray) := by rw [impl_has_e]; rfl
  rw [e, impl_InsOk_e, hh, bindO_some, fnil_2, fsz_2]
  simp only [impl_InsOk.l6_s, fsz_2, fby_2_0, fby_2_1, fby_2_2, wr_1, wr_2, wr_3, wr_4, Int.toNat_zero, Int.reduceAdd, Int.reduceToNat, Int.reduceLT, Int.reduceLE, Int.reduceBEq, decide_true, decide_false, iteB_true, iteB_false, impl_reg, impl_wok, impl_in, bindO_some, iteB_ss, bit_7_1, bit_7_2, bit_7_4, bit_7_8, bit_7_16]
  congr 1
  simp only [insV, fld, bit_7_1, bit_7_2, bit_7_4, bit_7_8, bit_7_16, Bool.not_true, Bool.not_false, cond_true, cond_false]
  rw [Bool.eq_iff_iff]
  simp [wok]
  all_goals (intros; first | omega | (split <;> omega))
set_option maxRecDepth 100000 in
theorem impl_ins_8 (r a b n m : Int) (q : Nat) : impl_InsOk (q + 5) (8, r, a, b, n, m, ()) = some (insP (8, r, a, b, n, m, ())) := by
  have e : insP (8, r, a, b, n, m, ()) = insV 11 6 (8, r, a, b, n, m, ()) := rfl
  have hh : impl_has (q + 5) 8 = some (⟨#[82, 65, 78]⟩ : ByteArray) := by rw [impl_has_e]; rfl
  rw [e, impl_InsOk_e, hh, bindO_some, fnil_3, fsz_3]
  simp only [impl_InsOk.l6_s, fsz_3, fby_3_0, fby_3_1, fby_3_2, wr_1, wr_2, wr_3, wr_4, Int.toNat_zero, Int.reduceAdd, Int.reduceToNat, Int.reduceLT, Int.reduceLE, Int.reduceBEq, decide_true, decide_false, iteB_true, iteB_false, impl_reg, impl_wok, impl_in, bindO_some, iteB_ss, bit_11_1, bit_11_2, bit_11_4, bit_11_8, bit_11_16]
  congr 1
  simp only [insV, fld, bit_11_1, bit_11_2, bit_11_4, bit_11_8, bit_11_16, Bool.not_true, Bool.not_false, cond_true, cond_false]
  rw [Bool.eq_iff_iff]
  simp [wok]
  all_goals (intros; first | omega | (split <;> omega))
set_option maxRecDepth 100000 in
theorem impl_ins_9 (r a b n m : Int) (q : Nat) : impl_InsOk (q + 5) (9, r, a, b, n, m, ()) = some (insP (9, r, a, b, n, m, ())) := by
  have e : insP (9, r, a, b, n, m, ()) = insV 14 6 (9, r, a, b, n, m, ()) := rfl
  have hh : impl_has (q + 5) 9 = some (⟨#[65, 66, 78]⟩ : ByteArray) := by rw [impl_has_e]; rfl
  rw [e, impl_InsOk_e, hh, bindO_some, fnil_4, fsz_4]
  simp only [impl_InsOk.l6_s, fsz_4, fby_4_0, fby_4_1, fby_4_2, wr_1, wr_2, wr_3, wr_4, Int.toNat_zero, Int.reduceAdd, Int.reduceToNat, Int.reduceLT, Int.reduceLE, Int.reduceBEq, decide_true, decide_false, iteB_true, iteB_false, impl_reg, impl_wok, impl_in, bindO_some, iteB_ss, bit_14_1, bit_14_2, bit_14_4, bit_14_8, bit_14_16]
  congr 1
  simp only [insV, fld, bit_14_1, bit_14_2, bit_14_4, bit_14_8, bit_14_16, Bool.not_true, Bool.not_false, cond_true, cond_false]
  rw [Bool.eq_iff_iff]
  simp [wok]
  all_goals (intros; first | omega | (split <;> omega))
set_option maxRecDepth 100000 in
theorem impl_ins_10 (r a b n m : Int) (q : Nat) : impl_InsOk (q + 5) (10, r, a, b, n, m, ()) = some (insP (10, r, a, b, n, m, ())) := by
  have e : insP (10, r, a, b, n, m, ()) = insV 7 5 (10, r, a, b, n, m, ()) := rfl
  have hh : impl_has (q + 5) 10 = some (⟨#[82, 65, 66]⟩ : ByteArray) := by rw [impl_has_e]; rfl
  rw [e, impl_InsOk_e, hh, bindO_some, fnil_2, fsz_2]
  simp only [impl_InsOk.l6_s, fsz_2, fby_2_0, fby_2_1, fby_2_2, wr_1, wr_2, wr_3, wr_4, Int.toNat_zero, Int.reduceAdd, Int.reduceToNat, Int.reduceLT, Int.reduceLE, Int.reduceBEq, decide_true, decide_false, iteB_true, iteB_false, impl_reg, impl_wok, impl_in, bindO_some, iteB_ss, bit_7_1, bit_7_2, bit_7_4, bit_7_8, bit_7_16]
  congr 1
  simp only [insV, fld, bit_7_1, bit_7_2, bit_7_4, bit_7_8, bit_7_16, Bool.not_true, Bool.not_false, cond_true, cond_false]
  rw [Bool.eq_iff_iff]
  simp [wok]
  all_goals (intros; first | omega | (split <;> omega))
set_option maxRecDepth 100000 in
theorem impl_ins_11 (r a b n m : Int) (q : Nat) : impl_InsOk (q + 5) (11, r, a, b, n, m, ()) = some (insP (11, r, a, b, n, m, ())) := by
  have e : insP (11, r, a, b, n, m, ()) = insV 8 5 (11, r, a, b, n, m, ()) := rfl
  have hh : impl_has (q + 5) 11 = some (⟨#[78]⟩ : ByteArray) := by rw [impl_has_e]; rfl
  rw [e, impl_InsOk_e, hh, bindO_some, fnil_5, fsz_5]
  simp only [impl_InsOk.l6_s, fsz_5, fby_5_0, wr_1, wr_2, wr_3, wr_4, Int.toNat_zero, Int.reduceAdd, Int.reduceToNat, Int.reduceLT, Int.reduceLE, Int.reduceBEq, decide_true, decide_false, iteB_true, iteB_false, impl_reg, impl_wok, impl_in, bindO_some, iteB_ss, bit_8_1, bit_8_2, bit_8_4, bit_8_8, bit_8_16]
  congr 1
  simp only [insV, fld, bit_8_1, bit_8_2, bit_8_4, bit_8_8, bit_8_16, Bool.not_true, Bool.not_false, cond_true, cond_false]
  rw [Bool.eq_iff_iff]
  simp [wok]
  all_goals (intros; first | omega | (split <;> omega))
set_option maxRecDepth 100000 in
theorem impl_ins_12 (r a b n m : Int) (q : Nat) : impl_InsOk (q + 5) (12, r, a, b, n, m, ()) = some (insP (12, r, a, b, n, m, ())) := by
  have e : insP (12, r, a, b, n, m, ()) = insV 10 5 (12, r, a, b, n, m, ()) := rfl
  have hh : impl_has (q + 5) 12 = some (⟨#[65, 78]⟩ : ByteArray) := by rw [impl_has_e]; rfl
  rw [e, impl_InsOk_e, hh, bindO_some, fnil_6, fsz_6]
  simp only [impl_InsOk.l6_s, fsz_6, fby_6_0, fby_6_1, wr_1, wr_2, wr_3, wr_4, Int.toNat_zero, Int.reduceAdd, Int.reduceToNat, Int.reduceLT, Int.reduceLE, Int.reduceBEq, decide_true, decide_false, iteB_true, iteB_false, impl_reg, impl_wok, impl_in, bindO_some, iteB_ss, bit_10_1, bit_10_2, bit_10_4, bit_10_8, bit_10_16]
  congr 1
  simp only [insV, fld, bit_10_1, bit_10_2, bit_10_4, bit_10_8, bit_10_16, Bool.not_true, Bool.not_false, cond_true, cond_false]
  rw [Bool.eq_iff_iff]
  simp [wok]
  all_goals (intros; first | omega | (split <;> omega))
set_option maxRecDepth 100000 in
theorem impl_ins_13 (r a b n m : Int) (q : Nat) : impl_InsOk (q + 5) (13, r, a, b, n, m, ()) = some (insP (13, r, a, b, n, m, ())) := by
  have e : insP (13, r, a, b, n, m, ()) = insV 24 5 (13, r, a, b, n, m, ()) := rfl
  have hh : impl_has (q + 5) 13 = some (⟨#[78, 77]⟩ : ByteArray) := by rw [impl_has_e]; rfl
  rw [e, impl_InsOk_e, hh, bindO_some, fnil_7, fsz_7]
  simp only [impl_InsOk.l6_s, fsz_7, fby_7_0, fby_7_1, wr_1, wr_2, wr_3, wr_4, Int.toNat_zero, Int.reduceAdd, Int.reduceToNat, Int.reduceLT, Int.reduceLE, Int.reduceBEq, decide_true, decide_false, iteB_true, iteB_false, impl_reg, impl_wok, impl_in, bindO_some, iteB_ss, bit_24_1, bit_24_2, bit_24_4, bit_24_8, bit_24_16]
  congr 1
  simp only [insV, fld, bit_24_1, bit_24_2, bit_24_4, bit_24_8, bit_24_16, Bool.not_true, Bool.not_false, cond_true, cond_false]
  rw [Bool.eq_iff_iff]
  simp [wok]
  all_goals (intros; first | omega | (split <;> omega))
set_option maxRecDepth 100000 in
theorem impl_ins_14 (r a b n m : Int) (q : Nat) : impl_InsOk (q + 5) (14, r, a, b, n, m, ()) = some (insP (14, r, a, b, n, m, ())) := by
  have e : insP (14, r, a, b, n, m, ()) = insV 0 5 (14, r, a, b, n, m, ()) := rfl
  have hh : impl_has (q + 5) 14 = some (⟨#[45]⟩ : ByteArray) := by rw [impl_has_e]; rfl
  rw [e, impl_InsOk_e, hh, bindO_some, fnil_8, fsz_8]
  simp only [impl_InsOk.l6_s, fsz_8, fby_8_0, wr_1, wr_2, wr_3, wr_4, Int.toNat_zero, Int.reduceAdd, Int.reduceToNat, Int.reduceLT, Int.reduceLE, Int.reduceBEq, decide_true, decide_false, iteB_true, iteB_false, impl_reg, impl_wok, impl_in, bindO_some, iteB_ss, bit_0_1, bit_0_2, bit_0_4, bit_0_8, bit_0_16]
  congr 1
  simp only [insV, fld, bit_0_1, bit_0_2, bit_0_4, bit_0_8, bit_0_16, Bool.not_true, Bool.not_false, cond_true, cond_false]
  rw [Bool.eq_iff_iff]
  simp [wok]
  all_goals (intros; first | omega | (split <;> omega))
set_option maxRecDepth 100000 in
theorem impl_ins_15 (r a b n m : Int) (q : Nat) : impl_InsOk (q + 5) (15, r, a, b, n, m, ()) = some (insP (15, r, a, b, n, m, ())) := by
  have e : insP (15, r, a, b, n, m, ()) = insV 2 5 (15, r, a, b, n, m, ()) := rfl
  have hh : impl_has (q + 5) 15 = some (⟨#[65]⟩ : ByteArray) := by rw [impl_has_e]; rfl
  rw [e, impl_InsOk_e, hh, bindO_some, fnil_9, fsz_9]
  simp only [impl_InsOk.l6_s, fsz_9, fby_9_0, wr_1, wr_2, wr_3, wr_4, Int.toNat_zero, Int.reduceAdd, Int.reduceToNat, Int.reduceLT, Int.reduceLE, Int.reduceBEq, decide_true, decide_false, iteB_true, iteB_false, impl_reg, impl_wok, impl_in, bindO_some, iteB_ss, bit_2_1, bit_2_2, bit_2_4, bit_2_8, bit_2_16]
  congr 1
  simp only [insV, fld, bit_2_1, bit_2_2, bit_2_4, bit_2_8, bit_2_16, Bool.not_true, Bool.not_false, cond_true, cond_false]
  rw [Bool.eq_iff_iff]
  simp [wok]
  all_goals (intros; first | omega | (split <;> omega))
set_option maxRecDepth 100000 in
theorem impl_ins_16 (r a b n m : Int) (q : Nat) : impl_InsOk (q + 5) (16, r, a, b, n, m, ()) = some (insP (16, r, a, b, n, m, ())) := by
  have e : insP (16, r, a, b, n, m, ()) = insV 6 5 (16, r, a, b, n, m, ()) := rfl
  have hh : impl_has (q + 5) 16 = some (⟨#[65, 66]⟩ : ByteArray) := by rw [impl_has_e]; rfl
  rw [e, impl_InsOk_e, hh, bindO_some, fnil_10, fsz_10]
  simp only [impl_InsOk.l6_s, fsz_10, fby_10_0, fby_10_1, wr_1, wr_2, wr_3, wr_4, Int.toNat_zero, Int.reduceAdd, Int.reduceToNat, Int.reduceLT, Int.reduceLE, Int.reduceBEq, decide_true, decide_false, iteB_true, iteB_false, impl_reg, impl_wok, impl_in, bindO_some, iteB_ss, bit_6_1, bit_6_2, bit_6_4, bit_6_8, bit_6_16]
  congr 1
  simp only [insV, fld, bit_6_1, bit_6_2, bit_6_4, bit_6_8, bit_6_16, Bool.not_true, Bool.not_false, cond_true, cond_false]
  rw [Bool.eq_iff_iff]
  simp [wok]
  all_goals (intros; first | omega | (split <;> omega))
set_option maxRecDepth 100000 in
theorem impl_ins_17 (r a b n m : Int) (q : Nat) : impl_InsOk (q + 5) (17, r, a, b, n, m, ()) = some (insP (17, r, a, b, n, m, ())) := by
  have e : insP (17, r, a, b, n, m, ()) = insV 6 5 (17, r, a, b, n, m, ()) := rfl
  have hh : impl_has (q + 5) 17 = some (⟨#[65, 66]⟩ : ByteArray) := by rw [impl_has_e]; rfl
  rw [e, impl_InsOk_e, hh, bindO_some, fnil_10, fsz_10]
  simp only [impl_InsOk.l6_s, fsz_10, fby_10_0, fby_10_1, wr_1, wr_2, wr_3, wr_4, Int.toNat_zero, Int.reduceAdd, Int.reduceToNat, Int.reduceLT, Int.reduceLE, Int.reduceBEq, decide_true, decide_false, iteB_true, iteB_false, impl_reg, impl_wok, impl_in, bindO_some, iteB_ss, bit_6_1, bit_6_2, bit_6_4, bit_6_8, bit_6_16]
  congr 1
  simp only [insV, fld, bit_6_1, bit_6_2, bit_6_4, bit_6_8, bit_6_16, Bool.not_true, Bool.not_false, cond_true, cond_false]
  rw [Bool.eq_iff_iff]
  simp [wok]
  all_goals (intros; first | omega | (split <;> omega))
set_option maxRecDepth 100000 in
theorem impl_ins_18 (r a b n m : Int) (q : Nat) : impl_InsOk (q + 5) (18, r, a, b, n, m, ()) = some (insP (18, r, a, b, n, m, ())) := by
  have e : insP (18, r, a, b, n, m, ()) = insV 1 5 (18, r, a, b, n, m, ()) := rfl
  have hh : impl_has (q + 5) 18 = some (⟨#[82]⟩ : ByteArray) := by rw [impl_has_e]; rfl
  rw [e, impl_InsOk_e, hh, bindO_some, fnil_11, fsz_11]
  simp only [impl_InsOk.l6_s, fsz_11, fby_11_0, wr_1, wr_2, wr_3, wr_4, Int.toNat_zero, Int.reduceAdd, Int.reduceToNat, Int.reduceLT, Int.reduceLE, Int.reduceBEq, decide_true, decide_false, iteB_true, iteB_false, impl_reg, impl_wok, impl_in, bindO_some, iteB_ss, bit_1_1, bit_1_2, bit_1_4, bit_1_8, bit_1_16]
  congr 1
  simp only [insV, fld, bit_1_1, bit_1_2, bit_1_4, bit_1_8, bit_1_16, Bool.not_true, Bool.not_false, cond_true, cond_false]
  rw [Bool.eq_iff_iff]
  simp [wok]
  all_goals (intros; first | omega | (split <;> omega))
set_option maxRecDepth 100000 in
theorem impl_ins_19 (r a b n m : Int) (q : Nat) : impl_InsOk (q + 5) (19, r, a, b, n, m, ()) = some (insP (19, r, a, b, n, m, ())) := by
  have e : insP (19, r, a, b, n, m, ()) = insV 2 5 (19, r, a, b, n, m, ()) := rfl
  have hh : impl_has (q + 5) 19 = some (⟨#[65]⟩ : ByteArray) := by rw [impl_has_e]; rfl
  rw [e, impl_InsOk_e, hh, bindO_some, fnil_9, fsz_9]
  simp only [impl_InsOk.l6_s, fsz_9, fby_9_0, wr_1, wr_2, wr_3, wr_4, Int.toNat_zero, Int.reduceAdd, Int.reduceToNat, Int.reduceLT, Int.reduceLE, Int.reduceBEq, decide_true, decide_false, iteB_true, iteB_false, impl_reg, impl_wok, impl_in, bindO_some, iteB_ss, bit_2_1, bit_2_2, bit_2_4, bit_2_8, bit_2_16]
  congr 1
  simp only [insV, fld, bit_2_1, bit_2_2, bit_2_4, bit_2_8, bit_2_16, Bool.not_true, Bool.not_false, cond_true, cond_false]
  rw [Bool.eq_iff_iff]
  simp [wok]
  all_goals (intros; first | omega | (split <;> omega))

theorem impl_ins_no (op r a b n m : Int) (h : op < 1 ∨ 19 < op) (q : Nat) : impl_InsOk (q + 5) (op, r, a, b, n, m, ()) = some (insP (op, r, a, b, n, m, ())) := by
  have e : insP (op, r, a, b, n, m, ()) = false := by
    unfold insP insV
    have : decide (1 ≤ op ∧ op ≤ 19) = false := decide_eq_false (by omega)
    show (bif decide (1 ≤ op ∧ op ≤ 19) then _ else false) = false
    rw [this]; rfl
  have ne : ∀ c : Int, 1 ≤ c → c ≤ 19 → (op == c) = false := fun c h1 h2 => by simp; omega
  have hh : impl_has (q + 5) op = some (⟨#[]⟩ : ByteArray) := by
    rw [impl_has_e]
    simp only [ne 1 (by omega) (by omega), ne 2 (by omega) (by omega), ne 3 (by omega) (by omega), ne 4 (by omega) (by omega), ne 5 (by omega) (by omega), ne 6 (by omega) (by omega), ne 7 (by omega) (by omega), ne 8 (by omega) (by omega), ne 9 (by omega) (by omega), ne 10 (by omega) (by omega), ne 11 (by omega) (by omega), ne 12 (by omega) (by omega), ne 13 (by omega) (by omega), ne 14 (by omega) (by omega), ne 15 (by omega) (by omega), ne 16 (by omega) (by omega), ne 17 (by omega) (by omega), ne 18 (by omega) (by omega), ne 19 (by omega) (by omega), iteB_false]
  rw [e, impl_InsOk_e, hh, bindO_some, fnil_12, fsz_12, impl_InsOk.l6_s, iteB_neg (by omega), iteB_false]
theorem impl_ins (x : TI) : Ev fun k => impl_InsOk k x = some (insP x) := by
  refine ⟨5, fun k hk => ?_⟩
  obtain ⟨q, rfl⟩ : ∃ q, k = q + 5 := ⟨k - 5, by omega⟩
  obtain ⟨op, r, a, b, n, m, u⟩ := x
  rcases op_cases op with h | h | h | h | h | h | h | h | h | h | h | h | h | h | h | h | h | h | h | h
  case inr.inr.inr.inr.inr.inr.inr.inr.inr.inr.inr.inr.inr.inr.inr.inr.inr.inr.inr => exact impl_ins_no op r a b n m h q
  all_goals subst h
  · exact impl_ins_1 r a b n m q
  · exact impl_ins_2 r a b n m q
  · exact impl_ins_3 r a b n m q
  · exact impl_ins_4 r a b n m q
  · exact impl_ins_5 r a b n m q
  · exact impl_ins_6 r a b n m q
  · exact impl_ins_7 r a b n m q
  · exact impl_ins_8 r a b n m q
  · exact impl_ins_9 r a b n m q
  · exact impl_ins_10 r a b n m q
  · exact impl_ins_11 r a b n m q
  · exact impl_ins_12 r a b n m q
  · exact impl_ins_13 r a b n m q
  · exact impl_ins_14 r a b n m q
  · exact impl_ins_15 r a b n m q
  · exact impl_ins_16 r a b n m q
  · exact impl_ins_17 r a b n m q
  · exact impl_ins_18 r a b n m q
  · exact impl_ins_19 r a b n m q


/-! What a place of an image reads: sorts of no more than three words. -/
theorem run_sort (k : Nat) (xs : List Int) (h : xs.length < 4611686018427387904) : slices_Sort_int k xs = some ((), xs.mergeSort fun x y => decide (x ≤ y)) := by rw [slices_Sort_int_e, iteB_pos h]
theorem run_compact (k : Nat) (xs : List Int) (h : xs.length ≤ 9223372036854775807) : slices_Compact_int k xs = some ((Lib.compact xs).length, Lib.compact xs ++ List.replicate (xs.length - (Lib.compact xs).length) 0) := by rw [slices_Compact_int_e, iteB_pos h]
theorem cut_compact (xs : List Int) (n : Nat) : List.take (Lib.compact xs).length (List.drop 0 (Lib.compact xs ++ List.replicate n 0)) = Lib.compact xs := by simp
/-- A sort, its runs made one, cut. -/
theorem run_uniq (k : Nat) (xs : List Int) (h : xs.length ≤ 1048576) : (bindO (slices_Sort_int k xs) fun r1 => bindO (slices_Compact_int k r1.2) fun r2 => some (List.take r2.1 (List.drop 0 r2.2))) = some (Lib.compact (xs.mergeSort fun x y => decide (x ≤ y))) := by
  rw [run_sort k xs (by omega), bindO_some, run_compact k _ (by rw [List.length_mergeSort]; omega), bindO_some]
  simp only [cut_compact]
def bitR (h b : Int) : Bool := (IntKind.wrap .i64 ((BitVec.ofInt (IntKind.bits .i64) h &&& BitVec.ofInt (IntKind.bits .i64) b).toNat : Int)) != 0
theorem bitR_0_2 : bitR 0 2 = false := by kernel_rfl
theorem bitR_0_4 : bitR 0 4 = false := by kernel_rfl
theorem bitR_1_2 : bitR 1 2 = false := by kernel_rfl
theorem bitR_1_4 : bitR 1 4 = false := by kernel_rfl
theorem bitR_2_2 : bitR 2 2 = true := by kernel_rfl
theorem bitR_2_4 : bitR 2 4 = false := by kernel_rfl
theorem bitR_3_2 : bitR 3 2 = true := by kernel_rfl
theorem bitR_3_4 : bitR 3 4 = false := by kernel_rfl
theorem bitR_6_2 : bitR 6 2 = true := by kernel_rfl
theorem bitR_6_4 : bitR 6 4 = true := by kernel_rfl
theorem bitR_7_2 : bitR 7 2 = true := by kernel_rfl
theorem bitR_7_4 : bitR 7 4 = true := by kernel_rfl
theorem bitR_8_2 : bitR 8 2 = false := by kernel_rfl
theorem bitR_8_4 : bitR 8 4 = false := by kernel_rfl
theorem bitR_9_2 : bitR 9 2 = false := by kernel_rfl
theorem bitR_9_4 : bitR 9 4 = false := by kernel_rfl
theorem bitR_10_2 : bitR 10 2 = true := by kernel_rfl
theorem bitR_10_4 : bitR 10 4 = false := by kernel_rfl
theorem bitR_11_2 : bitR 11 2 = true := by kernel_rfl
theorem bitR_11_4 : bitR 11 4 = false := by kernel_rfl
theorem bitR_14_2 : bitR 14 2 = true := by kernel_rfl
theorem bitR_14_4 : bitR 14 4 = true := by kernel_rfl
theorem bitR_24_2 : bitR 24 2 = false := by kernel_rfl
theorem bitR_24_4 : bitR 24 4 = false := by kernel_rfl
def hasR (op : Int) : Int := if 1 ≤ op ∧ op ≤ 19 then List.getD [0, 9, 3, 7, 7, 7, 7, 7, 11, 14, 7, 8, 10, 24, 0, 2, 6, 6, 1, 2] op.toNat 0 else 0
theorem spec_hasR (k : Nat) (op : Int) : spec_l2Has k op = some (hasR op) := by
  rw [spec_l2Has_e, spec_in, bindO_some]
  unfold hasR
  by_cases h : 1 ≤ op ∧ op ≤ 19
  · rw [decide_eq_true h, Bool.not_true, iteB_false, iteB_pos (by omega), iteB_pos (by simp; omega), if_pos h]
  · rw [decide_eq_false h, Bool.not_false, iteB_true, if_neg h]
abbrev TR : Type := Int × Int × Int × Int × Int × Int × Unit
/-- Is it a register that the place reads? -/
def isRd (h : Int) (x : TR) (r : Int) : Bool := (bitR h 2 && x.2.2.1 == r) || (bitR h 4 && x.2.2.2.1 == r) || (x.1 == 10 && x.2.1 == r)
def seg (b : Bool) (r : Int) : List Int := bif b then [r] else []
theorem seg_len (b : Bool) (r : Int) : (seg b r).length ≤ 1 := by cases b <;> simp [seg]
theorem lim_le {l : List Int} {r : Int} (h : l.length ≤ 10) : decide ((List.length (l ++ [r])) * 8 ≤ lim) = true := decide_eq_true (by rw [List.length_append]; simp [lim]; omega)
theorem spec_rd_l4 (k : Nat) (h : Int) (x : TR) : ∀ (n : Nat) (i : Int), spec_Reads.l4 k n h i x = spec_Reads.l4b k n h i x [] := by
  intro n
  induction n with
  | zero => intro i; rw [spec_Reads.l4_0, spec_Reads.l4b_0]
  | succ n ih => intro i; rw [spec_Reads.l4_s, spec_Reads.l4b_s]; simp only [ih]
theorem spec_rd_step (k n : Nat) (h : Int) (x : TR) (i : Int) (l : List Int) (hi : i < 6) (h0 : 0 ≤ i) (hl : l.length ≤ 10) : spec_Reads.l4b k (n + 1) h i x l = spec_Reads.l4b k n h (i + 1) x (l ++ seg (isRd h x i) i) := by
  have hw : IntKind.wrap .i64 (i + 1) = i + 1 := wrap_id (by omega) (by omega)
  have e : decide ((List.length (l ++ [i])) * 8 ≤ lim) = true := lim_le hl
  rw [spec_Reads.l4b_s, decide_eq_true hi, hw, e]
  show iteB true (iteB (bitR h 2) (iteB (!(x.2.2.1 == i)) (iteB (bitR h 4) (iteB (!(x.2.2.2.1 == i)) _ _) _) _) (iteB (bitR h 4) (iteB (!(x.2.2.2.1 == i)) _ _) _)) _ = _
  unfold isRd
  cases bitR h 2 <;> cases bitR h 4 <;> cases x.2.2.1 == i <;> cases x.2.2.2.1 == i <;> cases x.1 == 10 <;> cases x.2.1 == i <;> simp [seg, iteB]
theorem seg_six (p : Int → Bool) : [] ++ seg (p 0) 0 ++ seg (p 1) 1 ++ seg (p 2) 2 ++ seg (p 3) 3 ++ seg (p 4) 4 ++ seg (p 5) 5 = six.filter p := by
  unfold six
  simp only [List.filter_cons, List.filter_nil]
  cases p 0 <;> cases p 1 <;> cases p 2 <;> cases p 3 <;> cases p 4 <;> cases p 5 <;> rfl
theorem spec_rd (x : TR) (q : Nat) : spec_Reads (q + 7) x = some (six.filter (isRd (hasR x.1) x)) := by
  rw [spec_Reads_e, spec_hasR, bindO_some, spec_rd_l4]
  have a (b : Bool) (r : Int) := seg_len b r
  rw [spec_rd_step _ (q + 6) _ _ _ _ (by omega) (by omega) (by simp)]
  rw [spec_rd_step _ (q + 5) _ _ _ _ (by omega) (by omega) (by simp only [List.length_append, List.length_nil]; have := a (isRd (hasR x.1) x 0) 0; omega)]
  rw [show (0 : Int) + 1 = 1 from rfl]
  rw [spec_rd_step _ (q + 4) _ _ _ _ (by omega) (by omega) (by simp only [List.length_append, List.length_nil]; have := a (isRd (hasR x.1) x 0) 0; have := a (isRd (hasR x.1) x 1) 1; omega)]
  rw [show (1 : Int) + 1 = 2 from rfl]
  rw [spec_rd_step _ (q + 3) _ _ _ _ (by omega) (by omega) (by simp only [List.length_append, List.length_nil]; have := a (isRd (hasR x.1) x 0) 0; have := a (isRd (hasR x.1) x 1) 1; have := a (isRd (hasR x.1) x 2) 2; omega)]
  rw [show (2 : Int) + 1 = 3 from rfl]
  rw [spec_rd_step _ (q + 2) _ _ _ _ (by omega) (by omega) (by simp only [List.length_append, List.length_nil]; have := a (isRd (hasR x.1) x 0) 0; have := a (isRd (hasR x.1) x 1) 1; have := a (isRd (hasR x.1) x 2) 2; have := a (isRd (hasR x.1) x 3) 3; omega)]
  rw [show (3 : Int) + 1 = 4 from rfl]
  rw [spec_rd_step _ (q + 1) _ _ _ _ (by omega) (by omega) (by simp only [List.length_append, List.length_nil]; have := a (isRd (hasR x.1) x 0) 0; have := a (isRd (hasR x.1) x 1) 1; have := a (isRd (hasR x.1) x 2) 2; have := a (isRd (hasR x.1) x 3) 3; have := a (isRd (hasR x.1) x 4) 4; omega)]
  rw [show (4 : Int) + 1 = 5 from rfl, show (5 : Int) + 1 = 6 from rfl, spec_Reads.l4b_s, decide_eq_false (by omega), iteB_false, seg_six]
theorem impl_regR (k : Nat) (x : Int) : impl_isReg k x = some (decide (0 ≤ x ∧ x ≤ 5)) := by rw [impl_isReg_e, impl_in, bindO_some]
def reg (x : Int) : Bool := decide (0 ≤ x ∧ x ≤ 5)
/-- What a letter adds. -/
def let1 (x : TR) (c : Int) : List Int := bif c == 65 && reg x.2.2.1 then [x.2.2.1] else bif c == 66 && reg x.2.2.2.1 then [x.2.2.2.1] else bif c == 82 && (x.1 == 10 && reg x.2.1) then [x.2.1] else []
theorem let1_len (x : TR) (c : Int) : (let1 x c).length ≤ 1 := by
  unfold let1
  cases c == 65 && reg x.2.2.1 <;> cases c == 66 && reg x.2.2.2.1 <;> cases c == 82 && (x.1 == 10 && reg x.2.1) <;> simp
theorem let1_six (x : TR) (c : Int) : ∀ r ∈ let1 x c, r ∈ six := by
  have m {v : Int} (h : reg v = true) : v ∈ six := by have := of_decide_eq_true h; exact mem_six this.1 this.2
  unfold let1
  intro r hr
  cases h1 : c == 65 && reg x.2.2.1
  · cases h2 : c == 66 && reg x.2.2.2.1
    · cases h3 : c == 82 && (x.1 == 10 && reg x.2.1)
      · rw [h1, h2, h3] at hr; simp at hr
      · rw [h1, h2, h3] at hr
        simp only [cond_false, cond_true, List.mem_singleton] at hr
        simp only [Bool.and_eq_true] at h3
        rw [hr]; exact m h3.2.2
    · rw [h1, h2] at hr
      simp only [cond_false, cond_true, List.mem_singleton] at hr
      simp only [Bool.and_eq_true] at h2
      rw [hr]; exact m h2.2
  · rw [h1] at hr
    simp only [cond_true, List.mem_singleton] at hr
    simp only [Bool.and_eq_true] at h1
    rw [hr]; exact m h1.2
theorem let1_has (x : TR) (c r : Int) (hr : r ∈ six) : (let1 x c).contains r = (bif c == 65 then x.2.2.1 == r else bif c == 66 then x.2.2.2.1 == r else bif c == 82 then (x.1 == 10 && x.2.1 == r) else false) := by
  have hb : 0 ≤ r ∧ r ≤ 5 := by simp only [six, List.mem_cons, List.not_mem_nil, or_false] at hr; omega
  have ne {v : Int} (h : reg v = false) : (v == r) = false := by
    have := of_decide_eq_false h
    simp only [beq_eq_false_iff_ne, ne_eq]
    intro e; subst e; exact this hb
  have cm (v : Int) : List.contains [v] r = (v == r) := by simp only [List.contains_cons, List.contains_nil, Bool.or_false]; exact Bool.eq_iff_iff.2 (by simp only [beq_iff_eq]; exact eq_comm)
  unfold let1
  cases h1 : c == 65
  · cases h2 : c == 66
    · cases h3 : c == 82
      · simp only [Bool.false_and, cond_false, List.contains_nil]
      · cases h4 : x.1 == 10
        · simp only [Bool.false_and, Bool.true_and, cond_false, cond_true, List.contains_nil]
        · cases h5 : reg x.2.1
          · simp only [Bool.false_and, Bool.true_and, cond_false, cond_true, List.contains_nil, ne h5]
          · simp only [Bool.false_and, Bool.true_and, cond_false, cond_true, cm]
    · have h3 : (c == 82) = false := by simp only [beq_iff_eq] at h2; subst h2; rfl
      cases h5 : reg x.2.2.2.1
      · simp only [h3, Bool.false_and, Bool.true_and, cond_false, cond_true, List.contains_nil, ne h5]
      · simp only [h3, Bool.false_and, Bool.true_and, cond_false, cond_true, cm]
  · have h2 : (c == 66) = false := by simp only [beq_iff_eq] at h1; subst h1; rfl
    have h3 : (c == 82) = false := by simp only [beq_iff_eq] at h1; subst h1; rfl
    cases h5 : reg x.2.2.1
    · simp only [h2, h3, Bool.false_and, Bool.true_and, cond_false, cond_true, List.contains_nil, ne h5]
    · simp only [h2, h3, Bool.false_and, Bool.true_and, cond_false, cond_true, cm]
theorem impl_rd_l4 (k : Nat) (s : ByteArray) (z : Int) (x : TR) : ∀ (n : Nat) (i : Int), impl_Reads.l4 k n s z i x = impl_Reads.l4b k n s z i x [] := by
  intro n
  induction n with
  | zero => intro i; rw [impl_Reads.l4_0, impl_Reads.l4b_0]
  | succ n ih => intro i; rw [impl_Reads.l4_s, impl_Reads.l4b_s]; simp only [ih]
theorem impl_rd_step (k n : Nat) (s : ByteArray) (x : TR) (i : Int) (l : List Int) (h0 : 0 ≤ i) (hi : i < (s.size : Int)) (hs : s.size ≤ 3) (hl : l.length ≤ 10) : impl_Reads.l4b k (n + 1) s (s.size : Int) i x l = impl_Reads.l4b k n s (s.size : Int) (i + 1) x (l ++ let1 x (byteAt s i.toNat)) := by
  have hw : IntKind.wrap .i64 (i + 1) = i + 1 := wrap_id (by omega) (by omega)
  rw [impl_Reads.l4b_s, decide_eq_true hi, decide_eq_true h0, hw, lim_le hl, lim_le hl, lim_le hl]
  simp only [impl_regR, bindO_some, iteB_true]
  unfold let1 reg
  generalize byteAt s i.toNat = c
  cases c == 65 <;> cases c == 66 <;> cases c == 82 <;> cases decide (0 ≤ x.2.2.1 ∧ x.2.2.1 ≤ 5) <;> cases decide (0 ≤ x.2.2.2.1 ∧ x.2.2.2.1 ≤ 5) <;> cases x.1 == 10 <;> cases decide (0 ≤ x.2.1 ∧ x.2.1 ≤ 5) <;> simp [iteB]
def bytesOf (s : ByteArray) (i m : Nat) : List Int := (List.range' i m).map (byteAt s)
theorem impl_rd_run (k : Nat) (s : ByteArray) (x : TR) (hs : s.size ≤ 3) : ∀ (m i n : Nat) (l : List Int), m + i = s.size → l.length ≤ i → m < n → impl_Reads.l4b k n s (s.size : Int) (i : Int) x l = some (Lib.compact ((l ++ (bytesOf s i m).flatMap (let1 x)).mergeSort fun x y => decide (x ≤ y))) := by
  intro m
  induction m with
  | zero =>
    intro i n l hm hl hn
    obtain ⟨n, rfl⟩ : ∃ m, n = m + 1 := ⟨n - 1, by omega⟩
    rw [impl_Reads.l4b_s, decide_eq_false (by omega), iteB_false, run_uniq k l (by omega)]
    simp [bytesOf]
  | succ m ih =>
    intro i n l hm hl hn
    obtain ⟨n, rfl⟩ : ∃ m, n = m + 1 := ⟨n - 1, by omega⟩
    have := let1_len x (byteAt s i)
    rw [impl_rd_step k n s x i l (by omega) (by omega) hs (by omega)]
    have e : ((i : Int) + 1) = ((i + 1 : Nat) : Int) := by omega
    rw [e, Int.toNat_natCast, ih (i + 1) n _ (by omega) (by rw [List.length_append]; omega) (by omega)]
    simp only [bytesOf, List.range'_succ, List.map_cons, List.flatMap_cons, List.append_assoc]
theorem impl_rd_of (s : ByteArray) (x : TR) (hs : s.size ≤ 3) (k : Nat) (hk : 3 < k) (hh : impl_has k x.1 = some s) (h : Int) (hp : ∀ r ∈ six, ((bytesOf s 0 s.size).flatMap (let1 x)).contains r = isRd h x r) : impl_Reads k x = some (six.filter (isRd h x)) := by
  have len : ∀ l : List Int, (l.flatMap (let1 x)).length ≤ l.length := by
    intro l
    induction l with
    | nil => simp
    | cons c l ih => rw [List.flatMap_cons, List.length_append, List.length_cons]; have := let1_len x c; omega
  rw [impl_Reads_e, hh, bindO_some, impl_rd_l4]
  have := impl_rd_run k s x hs s.size 0 k [] (by omega) (by simp) (by omega)
  refine Eq.trans this ?_
  rw [List.nil_append, uniq_le _ (Nat.le_trans (len _) (by simp [bytesOf]; exact hs)) (fun r hr => by
    obtain ⟨c, _, h⟩ := List.mem_flatMap.1 hr
    exact let1_six x c r h)]
  unfold inSix
  exact congrArg some (List.filter_congr fun r hr => hp r hr)
theorem has_app (a b : List Int) (r : Int) : (a ++ b).contains r = (a.contains r || b.contains r) := by
  induction a with
  | nil => simp
  | cons x a ih => simp only [List.cons_append, List.contains_cons, ih, Bool.or_assoc]
theorem reads_1 (x : TR) (hx : x.1 = 1) (q : Nat) : impl_Reads (q + 5) x = some (six.filter (isRd 9 x)) := by
  refine impl_rd_of (⟨#[82, 78]⟩ : ByteArray) x (by decide) (q + 5) (by omega) (by rw [hx, impl_has_e]; rfl) 9 fun r hr => ?_
  rw [show bytesOf (⟨#[82, 78]⟩ : ByteArray) 0 (ByteArray.size (⟨#[82, 78]⟩ : ByteArray)) = [82, 78] from rfl]
  simp only [List.flatMap_cons, List.flatMap_nil, has_app, let1_has x _ r hr, List.contains_nil, isRd, hx, bitR_9_2, bitR_9_4]
  cases x.2.2.1 == r <;> cases x.2.2.2.1 == r <;> cases x.2.1 == r <;> rfl
theorem reads_2 (x : TR) (hx : x.1 = 2) (q : Nat) : impl_Reads (q + 5) x = some (six.filter (isRd 3 x)) := by
  refine impl_rd_of (⟨#[82, 65]⟩ : ByteArray) x (by decide) (q + 5) (by omega) (by rw [hx, impl_has_e]; rfl) 3 fun r hr => ?_
  rw [show bytesOf (⟨#[82, 65]⟩ : ByteArray) 0 (ByteArray.size (⟨#[82, 65]⟩ : ByteArray)) = [82, 65] from rfl]
  simp only [List.flatMap_cons, List.flatMap_nil, has_app, let1_has x _ r hr, List.contains_nil, isRd, hx, bitR_3_2, bitR_3_4]
  cases x.2.2.1 == r <;> cases x.2.2.2.1 == r <;> cases x.2.1 == r <;> rfl
theorem reads_3 (x : TR) (hx : x.1 = 3) (q : Nat) : impl_Reads (q + 5) x = some (six.filter (isRd 7 x)) := by
  refine impl_rd_of (⟨#[82, 65, 66]⟩ : ByteArray) x (by decide) (q + 5) (by omega) (by rw [hx, impl_has_e]; rfl) 7 fun r hr => ?_
  rw [show bytesOf (⟨#[82, 65, 66]⟩ : ByteArray) 0 (ByteArray.size (⟨#[82, 65, 66]⟩ : ByteArray)) = [82, 65, 66] from rfl]
  simp only [List.flatMap_cons, List.flatMap_nil, has_app, let1_has x _ r hr, List.contains_nil, isRd, hx, bitR_7_2, bitR_7_4]
  cases x.2.2.1 == r <;> cases x.2.2.2.1 == r <;> cases x.2.1 == r <;> rfl
theorem reads_4 (x : TR) (hx : x.1 = 4) (q : Nat) : impl_Reads (q + 5) x = some (six.filter (isRd 7 x)) := by
  refine impl_rd_of (⟨#[82, 65, 66]⟩ : ByteArray) x (by decide) (q + 5) (by omega) (by rw [hx, impl_has_e]; rfl) 7 fun r hr => ?_
  rw [show bytesOf (⟨#[82, 65, 66]⟩ : ByteArray) 0 (ByteArray.size (⟨#[82, 65, 66]⟩ : ByteArray)) = [82, 65, 66] from rfl]
  simp only [List.flatMap_cons, List.flatMap_nil, has_app, let1_has x _ r hr, List.contains_nil, isRd, hx, bitR_7_2, bitR_7_4]
  cases x.2.2.1 == r <;> cases x.2.2.2.1 == r <;> cases x.2.1 == r <;> rfl
theorem reads_5 (x : TR) (hx : x.1 = 5) (q : Nat) : impl_Reads (q + 5) x = some (six.filter (isRd 7 x)) := by
  refine impl_rd_of (⟨#[82, 65, 66]⟩ : ByteArray) x (by decide) (q + 5) (by omega) (by rw [hx, impl_has_e]; rfl) 7 fun r hr => ?_
  rw [show bytesOf (⟨#[82, 65, 66]⟩ : ByteArray) 0 (ByteArray.size (⟨#[82, 65, 66]⟩ : ByteArray)) = [82, 65, 66] from rfl]
  simp only [List.flatMap_cons, List.flatMap_nil, has_app, let1_has x _ r hr, List.contains_nil, isRd, hx, bitR_7_2, bitR_7_4]
  cases x.2.2.1 == r <;> cases x.2.2.2.1 == r <;> cases x.2.1 == r <;> rfl
theorem reads_6 (x : TR) (hx : x.1 = 6) (q : Nat) : impl_Reads (q + 5) x = some (six.filter (isRd 7 x)) := by
  refine impl_rd_of (⟨#[82, 65, 66]⟩ : ByteArray) x (by decide) (q + 5) (by omega) (by rw [hx, impl_has_e]; rfl) 7 fun r hr => ?_
  rw [show bytesOf (⟨#[82, 65, 66]⟩ : ByteArray) 0 (ByteArray.size (⟨#[82, 65, 66]⟩ : ByteArray)) = [82, 65, 66] from rfl]
  simp only [List.flatMap_cons, List.flatMap_nil, has_app, let1_has x _ r hr, List.contains_nil, isRd, hx, bitR_7_2, bitR_7_4]
  cases x.2.2.1 == r <;> cases x.2.2.2.1 == r <;> cases x.2.1 == r <;> rfl
theorem reads_7 (x : TR) (hx : x.1 = 7) (q : Nat) : impl_Reads (q + 5) x = some (six.filter (isRd 7 x)) := by
  refine impl_rd_of (⟨#[82, 65, 66]⟩ : ByteArray) x (by decide) (q + 5) (by omega) (by rw [hx, impl_has_e]; rfl) 7 fun r hr => ?_
  rw [show bytesOf (⟨#[82, 65, 66]⟩ : ByteArray) 0 (ByteArray.size (⟨#[82, 65, 66]⟩ : ByteArray)) = [82, 65, 66] from rfl]
  simp only [List.flatMap_cons, List.flatMap_nil, has_app, let1_has x _ r hr, List.contains_nil, isRd, hx, bitR_7_2, bitR_7_4]
  cases x.2.2.1 == r <;> cases x.2.2.2.1 == r <;> cases x.2.1 == r <;> rfl
theorem reads_8 (x : TR) (hx : x.1 = 8) (q : Nat) : impl_Reads (q + 5) x = some (six.filter (isRd 11 x)) := by
  refine impl_rd_of (⟨#[82, 65, 78]⟩ : ByteArray) x (by decide) (q + 5) (by omega) (by rw [hx, impl_has_e]; rfl) 11 fun r hr => ?_
  rw [show bytesOf (⟨#[82, 65, 78]⟩ : ByteArray) 0 (ByteArray.size (⟨#[82, 65, 78]⟩ : ByteArray)) = [82, 65, 78] from rfl]
  simp only [List.flatMap_cons, List.flatMap_nil, has_app, let1_has x _ r hr, List.contains_nil, isRd, hx, bitR_11_2, bitR_11_4]
  cases x.2.2.1 == r <;> cases x.2.2.2.1 == r <;> cases x.2.1 == r <;> rfl
theorem reads_9 (x : TR) (hx : x.1 = 9) (q : Nat) : impl_Reads (q + 5) x = some (six.filter (isRd 14 x)) := by
  refine impl_rd_of (⟨#[65, 66, 78]⟩ : ByteArray) x (by decide) (q + 5) (by omega) (by rw [hx, impl_has_e]; rfl) 14 fun r hr => ?_
  rw [show bytesOf (⟨#[65, 66, 78]⟩ : ByteArray) 0 (ByteArray.size (⟨#[65, 66, 78]⟩ : ByteArray)) = [65, 66, 78] from rfl]
  simp only [List.flatMap_cons, List.flatMap_nil, has_app, let1_has x _ r hr, List.contains_nil, isRd, hx, bitR_14_2, bitR_14_4]
  cases x.2.2.1 == r <;> cases x.2.2.2.1 == r <;> cases x.2.1 == r <;> rfl
theorem reads_10 (x : TR) (hx : x.1 = 10) (q : Nat) : impl_Reads (q + 5) x = some (six.filter (isRd 7 x)) := by
  refine impl_rd_of (⟨#[82, 65, 66]⟩ : ByteArray) x (by decide) (q + 5) (by omega) (by rw [hx, impl_has_e]; rfl) 7 fun r hr => ?_
  rw [show bytesOf (⟨#[82, 65, 66]⟩ : ByteArray) 0 (ByteArray.size (⟨#[82, 65, 66]⟩ : ByteArray)) = [82, 65, 66] from rfl]
  simp only [List.flatMap_cons, List.flatMap_nil, has_app, let1_has x _ r hr, List.contains_nil, isRd, hx, bitR_7_2, bitR_7_4]
  cases x.2.2.1 == r <;> cases x.2.2.2.1 == r <;> cases x.2.1 == r <;> rfl
theorem reads_11 (x : TR) (hx : x.1 = 11) (q : Nat) : impl_Reads (q + 5) x = some (six.filter (isRd 8 x)) := by
  refine impl_rd_of (⟨#[78]⟩ : ByteArray) x (by decide) (q + 5) (by omega) (by rw [hx, impl_has_e]; rfl) 8 fun r hr => ?_
  rw [show bytesOf (⟨#[78]⟩ : ByteArray) 0 (ByteArray.size (⟨#[78]⟩ : ByteArray)) = [78] from rfl]
  simp only [List.flatMap_cons, List.flatMap_nil, has_app, let1_has x _ r hr, List.contains_nil, isRd, hx, bitR_8_2, bitR_8_4]
  cases x.2.2.1 == r <;> cases x.2.2.2.1 == r <;> cases x.2.1 == r <;> rfl
theorem reads_12 (x : TR) (hx : x.1 = 12) (q : Nat) : impl_Reads (q + 5) x = some (six.filter (isRd 10 x)) := by
  refine impl_rd_of (⟨#[65, 78]⟩ : ByteArray) x (by decide) (q + 5) (by omega) (by rw [hx, impl_has_e]; rfl) 10 fun r hr => ?_
  rw [show bytesOf (⟨#[65, 78]⟩ : ByteArray) 0 (ByteArray.size (⟨#[65, 78]⟩ : ByteArray)) = [65, 78] from rfl]
  simp only [List.flatMap_cons, List.flatMap_nil, has_app, let1_has x _ r hr, List.contains_nil, isRd, hx, bitR_10_2, bitR_10_4]
  cases x.2.2.1 == r <;> cases x.2.2.2.1 == r <;> cases x.2.1 == r <;> rfl
theorem reads_13 (x : TR) (hx : x.1 = 13) (q : Nat) : impl_Reads (q + 5) x = some (six.filter (isRd 24 x)) := by
  refine impl_rd_of (⟨#[78, 77]⟩ : ByteArray) x (by decide) (q + 5) (by omega) (by rw [hx, impl_has_e]; rfl) 24 fun r hr => ?_
  rw [show bytesOf (⟨#[78, 77]⟩ : ByteArray) 0 (ByteArray.size (⟨#[78, 77]⟩ : ByteArray)) = [78, 77] from rfl]
  simp only [List.flatMap_cons, List.flatMap_nil, has_app, let1_has x _ r hr, List.contains_nil, isRd, hx, bitR_24_2, bitR_24_4]
  cases x.2.2.1 == r <;> cases x.2.2.2.1 == r <;> cases x.2.1 == r <;> rfl
theorem reads_14 (x : TR) (hx : x.1 = 14) (q : Nat) : impl_Reads (q + 5) x = some (six.filter (isRd 0 x)) := by
  refine impl_rd_of (⟨#[45]⟩ : ByteArray) x (by decide) (q + 5) (by omega) (by rw [hx, impl_has_e]; rfl) 0 fun r hr => ?_
  rw [show bytesOf (⟨#[45]⟩ : ByteArray) 0 (ByteArray.size (⟨#[45]⟩ : ByteArray)) = [45] from rfl]
  simp only [List.flatMap_cons, List.flatMap_nil, has_app, let1_has x _ r hr, List.contains_nil, isRd, hx, bitR_0_2, bitR_0_4]
  cases x.2.2.1 == r <;> cases x.2.2.2.1 == r <;> cases x.2.1 == r <;> rfl
theorem reads_15 (x : TR) (hx : x.1 = 15) (q : Nat) : impl_Reads (q + 5) x = some (six.filter (isRd 2 x)) := by
  refine impl_rd_of (⟨#[65]⟩ : ByteArray) x (by decide) (q + 5) (by omega) (by rw [hx, impl_has_e]; rfl) 2 fun r hr => ?_
  rw [show bytesOf (⟨#[65]⟩ : ByteArray) 0 (ByteArray.size (⟨#[65]⟩ : ByteArray)) = [65] from rfl]
  simp only [List.flatMap_cons, List.flatMap_nil, has_app, let1_has x _ r hr, List.contains_nil, isRd, hx, bitR_2_2, bitR_2_4]
  cases x.2.2.1 == r <;> cases x.2.2.2.1 == r <;> cases x.2.1 == r <;> rfl
theorem reads_16 (x : TR) (hx : x.1 = 16) (q : Nat) : impl_Reads (q + 5) x = some (six.filter (isRd 6 x)) := by
  refine impl_rd_of (⟨#[65, 66]⟩ : ByteArray) x (by decide) (q + 5) (by omega) (by rw [hx, impl_has_e]; rfl) 6 fun r hr => ?_
  rw [show bytesOf (⟨#[65, 66]⟩ : ByteArray) 0 (ByteArray.size (⟨#[65, 66]⟩ : ByteArray)) = [65, 66] from rfl]
  simp only [List.flatMap_cons, List.flatMap_nil, has_app, let1_has x _ r hr, List.contains_nil, isRd, hx, bitR_6_2, bitR_6_4]
  cases x.2.2.1 == r <;> cases x.2.2.2.1 == r <;> cases x.2.1 == r <;> rfl
theorem reads_17 (x : TR) (hx : x.1 = 17) (q : Nat) : impl_Reads (q + 5) x = some (six.filter (isRd 6 x)) := by
  refine impl_rd_of (⟨#[65, 66]⟩ : ByteArray) x (by decide) (q + 5) (by omega) (by rw [hx, impl_has_e]; rfl) 6 fun r hr => ?_
  rw [show bytesOf (⟨#[65, 66]⟩ : ByteArray) 0 (ByteArray.size (⟨#[65, 66]⟩ : ByteArray)) = [65, 66] from rfl]
  simp only [List.flatMap_cons, List.flatMap_nil, has_app, let1_has x _ r hr, List.contains_nil, isRd, hx, bitR_6_2, bitR_6_4]
  cases x.2.2.1 == r <;> cases x.2.2.2.1 == r <;> cases x.2.1 == r <;> rfl
theorem reads_18 (x : TR) (hx : x.1 = 18) (q : Nat) : impl_Reads (q + 5) x = some (six.filter (isRd 1 x)) := by
  refine impl_rd_of (⟨#[82]⟩ : ByteArray) x (by decide) (q + 5) (by omega) (by rw [hx, impl_has_e]; rfl) 1 fun r hr => ?_
  rw [show bytesOf (⟨#[82]⟩ : ByteArray) 0 (ByteArray.size (⟨#[82]⟩ : ByteArray)) = [82] from rfl]
  simp only [List.flatMap_cons, List.flatMap_nil, has_app, let1_has x _ r hr, List.contains_nil, isRd, hx, bitR_1_2, bitR_1_4]
  cases x.2.2.1 == r <;> cases x.2.2.2.1 == r <;> cases x.2.1 == r <;> rfl
theorem reads_19 (x : TR) (hx : x.1 = 19) (q : Nat) : impl_Reads (q + 5) x = some (six.filter (isRd 2 x)) := by
  refine impl_rd_of (⟨#[65]⟩ : ByteArray) x (by decide) (q + 5) (by omega) (by rw [hx, impl_has_e]; rfl) 2 fun r hr => ?_
  rw [show bytesOf (⟨#[65]⟩ : ByteArray) 0 (ByteArray.size (⟨#[65]⟩ : ByteArray)) = [65] from rfl]
  simp only [List.flatMap_cons, List.flatMap_nil, has_app, let1_has x _ r hr, List.contains_nil, isRd, hx, bitR_2_2, bitR_2_4]
  cases x.2.2.1 == r <;> cases x.2.2.2.1 == r <;> cases x.2.1 == r <;> rfl
theorem impl_rd (x : TR) (q : Nat) : impl_Reads (q + 5) x = some (six.filter (isRd (hasR x.1) x)) := by
  have oc : x.1 = 1 ∨ x.1 = 2 ∨ x.1 = 3 ∨ x.1 = 4 ∨ x.1 = 5 ∨ x.1 = 6 ∨ x.1 = 7 ∨ x.1 = 8 ∨ x.1 = 9 ∨ x.1 = 10 ∨ x.1 = 11 ∨ x.1 = 12 ∨ x.1 = 13 ∨ x.1 = 14 ∨ x.1 = 15 ∨ x.1 = 16 ∨ x.1 = 17 ∨ x.1 = 18 ∨ x.1 = 19 ∨ (x.1 < 1 ∨ 19 < x.1) := by omega
  rcases oc with h | h | h | h | h | h | h | h | h | h | h | h | h | h | h | h | h | h | h | h
  · have e : hasR x.1 = 9 := by rw [h]; rfl
    rw [e]; exact reads_1 x h q
  · have e : hasR x.1 = 3 := by rw [h]; rfl
    rw [e]; exact reads_2 x h q
  · have e : hasR x.1 = 7 := by rw [h]; rfl
    rw [e]; exact reads_3 x h q
  · have e : hasR x.1 = 7 := by rw [h]; rfl
    rw [e]; exact reads_4 x h q
  · have e : hasR x.1 = 7 := by rw [h]; rfl
    rw [e]; exact reads_5 x h q
  · have e : hasR x.1 = 7 := by rw [h]; rfl
    rw [e]; exact reads_6 x h q
  · have e : hasR x.1 = 7 := by rw [h]; rfl
    rw [e]; exact reads_7 x h q
  · have e : hasR x.1 = 11 := by rw [h]; rfl
    rw [e]; exact reads_8 x h q
  · have e : hasR x.1 = 14 := by rw [h]; rfl
    rw [e]; exact reads_9 x h q
  · have e : hasR x.1 = 7 := by rw [h]; rfl
    rw [e]; exact reads_10 x h q
  · have e : hasR x.1 = 8 := by rw [h]; rfl
    rw [e]; exact reads_11 x h q
  · have e : hasR x.1 = 10 := by rw [h]; rfl
    rw [e]; exact reads_12 x h q
  · have e : hasR x.1 = 24 := by rw [h]; rfl
    rw [e]; exact reads_13 x h q
  · have e : hasR x.1 = 0 := by rw [h]; rfl
    rw [e]; exact reads_14 x h q
  · have e : hasR x.1 = 2 := by rw [h]; rfl
    rw [e]; exact reads_15 x h q
  · have e : hasR x.1 = 6 := by rw [h]; rfl
    rw [e]; exact reads_16 x h q
  · have e : hasR x.1 = 6 := by rw [h]; rfl
    rw [e]; exact reads_17 x h q
  · have e : hasR x.1 = 1 := by rw [h]; rfl
    rw [e]; exact reads_18 x h q
  · have e : hasR x.1 = 2 := by rw [h]; rfl
    rw [e]; exact reads_19 x h q
  · have e : hasR x.1 = 0 := if_neg (by omega)
    rw [e]
    refine impl_rd_of (⟨#[]⟩ : ByteArray) x (by decide) (q + 5) (by omega) ?_ 0 fun r hr => ?_
    · rw [impl_has_e]
      have ne (n : Int) (hn : 1 ≤ n ∧ n ≤ 19) : (x.1 == n) = false := by simp only [beq_eq_false_iff_ne, ne_eq]; omega
      simp only [ne 1 (by omega), ne 2 (by omega), ne 3 (by omega), ne 4 (by omega), ne 5 (by omega), ne 6 (by omega), ne 7 (by omega), ne 8 (by omega), ne 9 (by omega), ne 10 (by omega), ne 11 (by omega), ne 12 (by omega), ne 13 (by omega), ne 14 (by omega), ne 15 (by omega), ne 16 (by omega), ne 17 (by omega), ne 18 (by omega), ne 19 (by omega), iteB_false]
    · rw [show bytesOf (⟨#[]⟩ : ByteArray) 0 (ByteArray.size (⟨#[]⟩ : ByteArray)) = [] from rfl]
      have : (x.1 == 10) = false := by simp only [beq_eq_false_iff_ne, ne_eq]; omega
      simp only [List.flatMap_nil, List.contains_nil, isRd, bitR_0_2, bitR_0_4, this, Bool.false_and, Bool.or_false]

/-! Draws: each comes to something, whatever the bytes. -/
def TotP {α : Type} (f : Nat → Option α) (P : α → Prop) : Prop := ∃ x, P x ∧ Ev fun k => f k = some x
theorem TotP.bind {α β : Type} {f : Nat → Option α} {g : Nat → α → Option β} {P : α → Prop} {Q : β → Prop} (h : TotP f P) (hg : ∀ x, P x → TotP (fun k => g k x) Q) : TotP (fun k => bindO (f k) (g k)) Q := by
  obtain ⟨x, px, ev⟩ := h
  obtain ⟨y, qy, ev2⟩ := hg x px
  exact ⟨y, qy, ev.two ev2 fun k a b => by show bindO (f k) (g k) = some y; rw [a, bindO_some]; exact b⟩
theorem TotP.val {α : Type} {P : α → Prop} (x : α) (h : P x) : TotP (fun _ => some x) P := ⟨x, h, Ev.of fun _ => rfl⟩
theorem TotP.ite {α : Type} {f g : Nat → Option α} {P : α → Prop} (b : Bool) (h1 : b = true → TotP f P) (h2 : b = false → TotP g P) : TotP (fun k => iteB b (f k) (g k)) P := by
  cases b with
  | true => obtain ⟨x, p, e⟩ := h1 rfl; exact ⟨x, p, e.mono fun k h => by show iteB true (f k) (g k) = some x; rw [iteB_true]; exact h⟩
  | false => obtain ⟨x, p, e⟩ := h2 rfl; exact ⟨x, p, e.mono fun k h => by show iteB false (f k) (g k) = some x; rw [iteB_false]; exact h⟩
theorem TotP.gate {α : Type} {f : Nat → Option α} {P : α → Prop} (h : TotP f P) : TotP (fun k => gate k (f k)) P := by
  obtain ⟨x, p, e⟩ := h
  exact ⟨x, p, e.two (Ev.gt 0) fun k a b => by show AM.gate k (f k) = some x; rw [gate_pos b]; exact a⟩
theorem TotP.of_eq {α : Type} {f g : Nat → Option α} {P : α → Prop} (e : ∀ k, g k = f k) (h : TotP f P) : TotP g P := by
  obtain ⟨x, p, ev⟩ := h
  exact ⟨x, p, ev.mono fun k a => by rw [e]; exact a⟩
theorem TotP.imp {α : Type} {f : Nat → Option α} {P Q : α → Prop} (h : TotP f P) (i : ∀ x, P x → Q x) : TotP f Q := by
  obtain ⟨x, p, ev⟩ := h
  exact ⟨x, i x p, ev⟩
theorem and255 (x : Int) : 0 ≤ IntKind.wrap .i64 ((BitVec.ofInt (IntKind.bits .i64) x &&& BitVec.ofInt (IntKind.bits .i64) 255).toNat : Int) ∧ IntKind.wrap .i64 ((BitVec.ofInt (IntKind.bits .i64) x &&& BitVec.ofInt (IntKind.bits .i64) 255).toNat : Int) ≤ 255 := by
  have h : (BitVec.ofInt (IntKind.bits .i64) x &&& BitVec.ofInt (IntKind.bits .i64) 255).toNat ≤ 255 := by
    rw [BitVec.toNat_and]
    exact Nat.le_trans Nat.and_le_right (by decide)
  rw [wrap_id (by omega) (by omega)]
  omega
abbrev TC : Type := (List Int) × Int × Int × Unit
/-- A cursor over such bytes. -/
def CurOk (code : List Int) (c : TC) : Prop := c.1 = code ∧ 0 ≤ c.2.1 ∧ c.2.1 ≤ (code.length : Int)
section
variable {code : List Int} (hc : code.length ≤ 1048576)
include hc
theorem byte_ok (c : TC) (h : CurOk code c) : TotP (fun k => spec_l1Byte k c) fun r => (0 ≤ r.1 ∧ r.1 ≤ 255) ∧ CurOk code r.2 := by
  obtain ⟨e, h0, h1⟩ := h
  refine TotP.of_eq (fun k => spec_l1Byte_e k c) ?_
  refine TotP.ite _ (fun a => ?_) fun a => ?_
  · have a := of_decide_eq_true a
    rw [e] at a
    refine TotP.ite _ (fun _ => ?_) fun b => absurd (of_decide_eq_false b) (by omega)
    refine TotP.ite _ (fun _ => ?_) fun b => absurd (of_decide_eq_false b) (by rw [e]; omega)
    refine TotP.val _ ⟨and255 _, e, ?_⟩
    show 0 ≤ IntKind.wrap .i64 (c.2.1 + 1) ∧ IntKind.wrap .i64 (c.2.1 + 1) ≤ (code.length : Int)
    rw [wrap_id (by omega) (by omega)]
    omega
  · exact TotP.val _ ⟨and255 _, e, h0, h1⟩
theorem below_ok (c : TC) (h : CurOk code c) (n : Int) (h0 : 0 < n) (h1 : n ≤ 256) : TotP (fun k => spec_l1Below k c n) fun r => (0 ≤ r.1 ∧ r.1 < n) ∧ CurOk code r.2 := by
  refine TotP.of_eq (fun k => spec_l1Below_e k c n) ?_
  refine TotP.ite _ (fun a => absurd (of_decide_eq_true a) (by omega)) fun _ => ?_
  refine TotP.ite _ (fun _ => ?_) fun a => absurd (of_decide_eq_false a) (by omega)
  refine TotP.bind (byte_ok hc c h) fun r hr => ?_
  refine TotP.ite _ (fun a => absurd (eq_of_beq a) (by omega)) fun _ => ?_
  exact TotP.val _ ⟨⟨Int.tmod_nonneg _ hr.1.1, Int.tmod_lt_of_pos _ h0⟩, hr.2⟩
theorem pick_ok (c : TC) (h : CurOk code c) (l : List Int) (h0 : 0 < l.length) (h1 : l.length ≤ 256) : TotP (fun k => spec_l1PickInt k c l) fun r => CurOk code r.2.1 := by
  refine TotP.of_eq (fun k => spec_l1PickInt_e k c l) ?_
  refine TotP.bind (below_ok hc c h (l.length : Int) (by omega) (by omega)) fun r hr => ?_
  refine TotP.ite _ (fun _ => ?_) fun a => absurd (of_decide_eq_false a) (by omega)
  refine TotP.ite _ (fun _ => ?_) fun a => absurd (of_decide_eq_false a) (by omega)
  exact TotP.val _ hr.2
theorem new_ok : TotP (fun k => spec_l1New k code) (CurOk code) := by
  have run : ∀ (m : Nat) (x3 x4 : Int), 0 ≤ x4 → x4 + (m : Int) = (code.length : Int) → ∃ h : Int, ∀ k n : Nat, 0 < k → m < n → spec_l1New.l3 k n code x3 x4 = some (code, 0, h, ()) := by
    intro m
    induction m with
    | zero =>
      intro x3 x4 h0 h1
      refine ⟨x3, fun k n hk hn => ?_⟩
      obtain ⟨n, rfl⟩ : ∃ m, n = m + 1 := ⟨n - 1, by omega⟩
      rw [spec_l1New.l3_s, decide_eq_false (by omega), iteB_false]
    | succ m ih =>
      intro x3 x4 h0 h1
      by_cases h4 : x4 < 4000
      · have hw : IntKind.wrap .i64 (x4 + 1) = x4 + 1 := wrap_id (by omega) (by omega)
        obtain ⟨h, e⟩ := ih (IntKind.wrap .i64 ((BitVec.ofInt (IntKind.bits .i64) (IntKind.wrap .i64 ((IntKind.wrap .i64 ((IntKind.wrap .i64 (x3 * 131)) + (IntKind.wrap .i64 (List.getD code (Int.toNat x4) 0)))) + 7)) &&& BitVec.ofInt (IntKind.bits .i64) 1073741823).toNat : Int)) (x4 + 1) (by omega) (by omega)
        refine ⟨h, fun k n hk hn => ?_⟩
        obtain ⟨n, rfl⟩ : ∃ m, n = m + 1 := ⟨n - 1, by omega⟩
        rw [spec_l1New.l3_s, decide_eq_true (by omega), iteB_true, decide_eq_true h4, iteB_true, gate_pos hk, spec_l1New.j5_e, decide_eq_true h0, iteB_true, decide_eq_true (by omega), iteB_true, hw]
        exact e k n hk (by omega)
      · refine ⟨x3, fun k n hk hn => ?_⟩
        obtain ⟨n, rfl⟩ : ∃ m, n = m + 1 := ⟨n - 1, by omega⟩
        rw [spec_l1New.l3_s, decide_eq_true (by omega), iteB_true, decide_eq_false h4, iteB_false]
  obtain ⟨h, e⟩ := run code.length (IntKind.wrap .i64 (20589 + ((List.length code) : Int))) 0 (by omega) (by omega)
  refine ⟨(code, 0, h, ()), ⟨rfl, by simp, by simp⟩, (Ev.gt code.length).mono fun k hk => ?_⟩
  show spec_l1New k code = _
  rw [spec_l1New_e]
  exact e k k (by omega) hk
theorem j13_ok (x4 a0 a1 a2 a3 a4 a5 b0 b1 b2 b3 b4 b5 : Int) (c : TC) (h : CurOk code c) : TotP (fun k => spec_l2DrawRight.j13 k x4 c a0 a1 a2 a3 a4 a5 b0 b1 b2 b3 b4 b5) fun r => CurOk code r.2 := by
  refine TotP.of_eq (fun k => spec_l2DrawRight.j13_e k x4 c a0 a1 a2 a3 a4 a5 b0 b1 b2 b3 b4 b5) ?_
  refine TotP.ite _ (fun _ => ?_) fun _ => TotP.val _ h
  exact TotP.bind (pick_ok hc c h [2, 3, 8] (by decide) (by decide)) fun r hr => TotP.val _ hr
theorem j11_ok (x4 a0 a1 a2 a3 a4 a5 b0 b1 b2 b3 b4 b5 : Int) (c : TC) (h : CurOk code c) : TotP (fun k => spec_l2DrawRight.j11 k x4 c a0 a1 a2 a3 a4 a5 b0 b1 b2 b3 b4 b5) fun r => CurOk code r.2 := by
  refine TotP.of_eq (fun k => spec_l2DrawRight.j11_e k x4 c a0 a1 a2 a3 a4 a5 b0 b1 b2 b3 b4 b5) ?_
  refine TotP.ite _ (fun _ => ?_) fun _ => TotP.gate (j13_ok hc _ _ _ _ _ _ _ _ _ _ _ _ _ _ h)
  exact TotP.bind (pick_ok hc c h [0, 1, 2, 3, 5, (-1), 9] (by decide) (by decide)) fun r hr => TotP.gate (j13_ok hc _ _ _ _ _ _ _ _ _ _ _ _ _ _ hr)
theorem j9_ok (x4 a0 a1 a2 a3 a4 a5 b0 b1 b2 b3 b4 b5 : Int) (c : TC) (h : CurOk code c) : TotP (fun k => spec_l2DrawRight.j9 k x4 c a0 a1 a2 a3 a4 a5 b0 b1 b2 b3 b4 b5) fun r => CurOk code r.2 := by
  refine TotP.of_eq (fun k => spec_l2DrawRight.j9_e k x4 c a0 a1 a2 a3 a4 a5 b0 b1 b2 b3 b4 b5) ?_
  refine TotP.ite _ (fun _ => ?_) fun _ => TotP.gate (j11_ok hc _ _ _ _ _ _ _ _ _ _ _ _ _ _ h)
  exact TotP.bind (below_ok hc c h 6 (by omega) (by omega)) fun r hr => TotP.gate (j11_ok hc _ _ _ _ _ _ _ _ _ _ _ _ _ _ hr.2)
theorem j5_ok (x4 a0 a1 a2 a3 a4 a5 b0 b1 b2 b3 b4 b5 : Int) (c : TC) (h : CurOk code c) : TotP (fun k => spec_l2DrawRight.j5 k x4 c a0 a1 a2 a3 a4 a5 b0 b1 b2 b3 b4 b5) fun r => CurOk code r.2 := by
  refine TotP.of_eq (fun k => spec_l2DrawRight.j5_e k x4 c a0 a1 a2 a3 a4 a5 b0 b1 b2 b3 b4 b5) ?_
  refine TotP.ite _ (fun _ => ?_) fun _ => TotP.gate (j9_ok hc _ _ _ _ _ _ _ _ _ _ _ _ _ _ h)
  refine TotP.bind (below_ok hc c h 6 (by omega) (by omega)) fun r hr => ?_
  refine TotP.ite _ (fun _ => ?_) fun _ => ?_
  · refine TotP.ite _ (fun _ => ?_) fun _ => TotP.gate (j9_ok hc _ _ _ _ _ _ _ _ _ _ _ _ _ _ hr.2)
    exact TotP.bind (below_ok hc _ hr.2 7 (by omega) (by omega)) fun s hs => TotP.gate (j9_ok hc _ _ _ _ _ _ _ _ _ _ _ _ _ _ hs.2)
  · exact TotP.bind (below_ok hc _ hr.2 7 (by omega) (by omega)) fun s hs => TotP.gate (j9_ok hc _ _ _ _ _ _ _ _ _ _ _ _ _ _ hs.2)
theorem right_ok (c : TC) (h : CurOk code c) : TotP (fun k => spec_l2DrawRight k c) fun r => CurOk code r.2 := by
  refine TotP.of_eq (fun k => spec_l2DrawRight_e k c) ?_
  refine TotP.bind (below_ok hc c h 19 (by omega) (by omega)) fun r hr => ?_
  refine TotP.bind (P := fun _ => True) ⟨_, trivial, Ev.of fun k => spec_hasR k _⟩ fun z _ => ?_
  refine TotP.ite _ (fun _ => ?_) fun _ => TotP.gate (j5_ok hc _ _ _ _ _ _ _ _ _ _ _ _ _ _ hr.2)
  exact TotP.bind (below_ok hc _ hr.2 6 (by omega) (by omega)) fun s hs => TotP.gate (j5_ok hc _ _ _ _ _ _ _ _ _ _ _ _ _ _ hs.2)
theorem draw_ok (c : TC) (h : CurOk code c) : TotP (fun k => spec_l2Draw k c) fun _ => True := by
  refine TotP.of_eq (fun k => spec_l2Draw_e k c) ?_
  refine TotP.bind (right_ok hc c h) fun r hr => ?_
  refine TotP.bind (below_ok hc _ hr 10 (by omega) (by omega)) fun s hs => ?_
  refine TotP.ite _ (fun _ => TotP.bind (below_ok hc _ hs.2 22 (by omega) (by omega)) fun _ _ => TotP.val _ trivial) fun _ => ?_
  refine TotP.ite _ (fun _ => TotP.bind (pick_ok hc _ hs.2 [(-1), 5, 6] (by decide) (by decide)) fun _ _ => TotP.val _ trivial) fun _ => ?_
  refine TotP.ite _ (fun _ => TotP.bind (pick_ok hc _ hs.2 [(-1), 6, 7] (by decide) (by decide)) fun _ _ => TotP.val _ trivial) fun _ => ?_
  refine TotP.ite _ (fun _ => TotP.bind (pick_ok hc _ hs.2 [2147483648, 7] (by decide) (by decide)) fun _ _ => TotP.val _ trivial) fun _ => ?_
  exact TotP.ite _ (fun _ => TotP.bind (pick_ok hc _ hs.2 [(-1), 60, 61] (by decide) (by decide)) fun _ _ => TotP.val _ trivial) fun _ => TotP.val _ trivial
theorem drawReads_ok : TotP (fun k => spec_DrawReads k code) fun _ => True :=
  TotP.of_eq (fun k => spec_DrawReads_e k code) (TotP.bind (new_ok hc) fun c h => TotP.bind (draw_ok hc c h) fun _ _ => TotP.val _ trivial)
theorem drawWrites_ok : TotP (fun k => spec_DrawWrites k code) fun _ => True :=
  TotP.of_eq (fun k => spec_DrawWrites_e k code) (TotP.bind (new_ok hc) fun c h => TotP.bind (draw_ok hc c h) fun _ _ => TotP.val _ trivial)
theorem drawInsOk_ok : TotP (fun k => spec_DrawInsOk k code) fun _ => True :=
  TotP.of_eq (fun k => spec_DrawInsOk_e k code) (TotP.bind (new_ok hc) fun c h => TotP.bind (draw_ok hc c h) fun _ _ => TotP.val _ trivial)
end

/-! What a place of an image sets. -/
def wrB (op : Int) : Bool := !((IntKind.wrap .i64 ((BitVec.ofInt (IntKind.bits .i64) (hasR op) &&& BitVec.ofInt (IntKind.bits .i64) 1).toNat : Int)) == 0)
def wr (x : TR) : Int := bif wrB x.1 then x.2.1 else -1
theorem spec_wr (x : TR) (k : Nat) : spec_Writes k x = some (wr x) := by
  rw [spec_Writes_e, spec_hasR, bindO_some]
  unfold wr wrB
  generalize ((IntKind.wrap .i64 ((BitVec.ofInt (IntKind.bits .i64) (hasR x.1) &&& BitVec.ofInt (IntKind.bits .i64) 1).toNat : Int)) == 0) = b
  cases b <;> rfl
theorem writes_1 (x : TR) (hx : x.1 = 1) (k : Nat) : impl_Writes k x = some (wr x) := by
  have hh : impl_has k x.1 = some (⟨#[82, 78]⟩ : ByteArray) := by rw [hx, impl_has_e]; rfl
  have hb : wrB 1 = true := by kernel_rfl
  rw [impl_Writes_e, hh, bindO_some, fnil_0, iteB_true, fsz_0, fby_0_0]
  unfold wr
  rw [hx, hb]
  rfl
theorem writes_2 (x : TR) (hx : x.1 = 2) (k : Nat) : impl_Writes k x = some (wr x) := by
  have hh : impl_has k x.1 = some (⟨#[82, 65]⟩ : ByteArray) := by rw [hx, impl_has_e]; rfl
  have hb : wrB 2 = true := by kernel_rfl
  rw [impl_Writes_e, hh, bindO_some, fnil_1, iteB_true, fsz_1, fby_1_0]
  unfold wr
  rw [hx, hb]
  rfl
theorem writes_3 (x : TR) (hx : x.1 = 3) (k : Nat) : impl_Writes k x = some (wr x) := by
  have hh : impl_has k x.1 = some (⟨#[82, 65, 66]⟩ : ByteArray) := by rw [hx, impl_has_e]; rfl
  have hb : wrB 3 = true := by kernel_rfl
  rw [impl_Writes_e, hh, bindO_some, fnil_2, iteB_true, fsz_2, fby_2_0]
  unfold wr
  rw [hx, hb]
  rfl
theorem writes_4 (x : TR) (hx : x.1 = 4) (k : Nat) : impl_Writes k x = some (wr x) := by
  have hh : impl_has k x.1 = some (⟨#[82, 65, 66]⟩ : ByteArray) := by rw [hx, impl_has_e]; rfl
  have hb : wrB 4 = true := by kernel_rfl
  rw [impl_Writes_e, hh, bindO_some, fnil_2, iteB_true, fsz_2, fby_2_0]
  unfold wr
  rw [hx, hb]
  rfl
theorem writes_5 (x : TR) (hx : x.1 = 5) (k : Nat) : impl_Writes k x = some (wr x) := by
  have hh : impl_has k x.1 = some (⟨#[82, 65, 66]⟩ : ByteArray) := by rw [hx, impl_has_e]; rfl
  have hb : wrB 5 = true := by kernel_rfl
  rw [impl_Writes_e, hh, bindO_some, fnil_2, iteB_true, fsz_2, fby_2_0]
  unfold wr
  rw [hx, hb]
  rfl
theorem writes_6 (x : TR) (hx : x.1 = 6) (k : Nat) : impl_Writes k x = some (wr x) := by
  have hh : impl_has k x.1 = some (⟨#[82, 65, 66]⟩ : ByteArray) := by rw [hx, impl_has_e]; rfl
  have hb : wrB 6 = true := by kernel_rfl
  rw [impl_Writes_e, hh, bindO_some, fnil_2, iteB_true, fsz_2, fby_2_0]
  unfold wr
  rw [hx, hb]
  rfl
theorem writes_7 (x : TR) (hx : x.1 = 7) (k : Nat) : impl_Writes k x = some (wr x) := by
  have hh : impl_has k x.1 = some (⟨#[82, 65, 66]⟩ : ByteArray) := by rw [hx, impl_has_e]; rfl
  have hb : wrB 7 = true := by kernel_rfl
  rw [impl_Writes_e, hh, bindO_some, fnil_2, iteB_true, fsz_2, fby_2_0]
  unfold wr
  rw [hx, hb]
  rfl
theorem writes_8 (x : TR) (hx : x.1 = 8) (k : Nat) : impl_Writes k x = some (wr x) := by
  have hh : impl_has k x.1 = some (⟨#[82, 65, 78]⟩ : ByteArray) := by rw [hx, impl_has_e]; rfl
  have hb : wrB 8 = true := by kernel_rfl
  rw [impl_Writes_e, hh, bindO_some, fnil_3, iteB_true, fsz_3, fby_3_0]
  unfold wr
  rw [hx, hb]
  rfl
theorem writes_9 (x : TR) (hx : x.1 = 9) (k : Nat) : impl_Writes k x = some (wr x) := by
  have hh : impl_has k x.1 = some (⟨#[65, 66, 78]⟩ : ByteArray) := by rw [hx, impl_has_e]; rfl
  have hb : wrB 9 = false := by kernel_rfl
  rw [impl_Writes_e, hh, bindO_some, fnil_4, iteB_true, fsz_4, fby_4_0]
  unfold wr
  rw [hx, hb]
  rfl
theorem writes_10 (x : TR) (hx : x.1 = 10) (k : Nat) : impl_Writes k x = some (wr x) := by
  have hh : impl_has k x.1 = some (⟨#[82, 65, 66]⟩ : ByteArray) := by rw [hx, impl_has_e]; rfl
  have hb : wrB 10 = true := by kernel_rfl
  rw [impl_Writes_e, hh, bindO_some, fnil_2, iteB_true, fsz_2, fby_2_0]
  unfold wr
  rw [hx, hb]
  rfl
theorem writes_11 (x : TR) (hx : x.1 = 11) (k : Nat) : impl_Writes k x = some (wr x) := by
  have hh : impl_has k x.1 = some (⟨#[78]⟩ : ByteArray) := by rw [hx, impl_has_e]; rfl
  have hb : wrB 11 = false := by kernel_rfl
  rw [impl_Writes_e, hh, bindO_some, fnil_5, iteB_true, fsz_5, fby_5_0]
  unfold wr
  rw [hx, hb]
  rfl
theorem writes_12 (x : TR) (hx : x.1 = 12) (k : Nat) : impl_Writes k x = some (wr x) := by
  have hh : impl_has k x.1 = some (⟨#[65, 78]⟩ : ByteArray) := by rw [hx, impl_has_e]; rfl
  have hb : wrB 12 = false := by kernel_rfl
  rw [impl_Writes_e, hh, bindO_some, fnil_6, iteB_true, fsz_6, fby_6_0]
  unfold wr
  rw [hx, hb]
  rfl
theorem writes_13 (x : TR) (hx : x.1 = 13) (k : Nat) : impl_Writes k x = some (wr x) := by
  have hh : impl_has k x.1 = some (⟨#[78, 77]⟩ : ByteArray) := by rw [hx, impl_has_e]; rfl
  have hb : wrB 13 = false := by kernel_rfl
  rw [impl_Writes_e, hh, bindO_some, fnil_7, iteB_true, fsz_7, fby_7_0]
  unfold wr
  rw [hx, hb]
  rfl
theorem writes_14 (x : TR) (hx : x.1 = 14) (k : Nat) : impl_Writes k x = some (wr x) := by
  have hh : impl_has k x.1 = some (⟨#[45]⟩ : ByteArray) := by rw [hx, impl_has_e]; rfl
  have hb : wrB 14 = false := by kernel_rfl
  rw [impl_Writes_e, hh, bindO_some, fnil_8, iteB_true, fsz_8, fby_8_0]
  unfold wr
  rw [hx, hb]
  rfl
theorem writes_15 (x : TR) (hx : x.1 = 15) (k : Nat) : impl_Writes k x = some (wr x) := by
  have hh : impl_has k x.1 = some (⟨#[65]⟩ : ByteArray) := by rw [hx, impl_has_e]; rfl
  have hb : wrB 15 = false := by kernel_rfl
  rw [impl_Writes_e, hh, bindO_some, fnil_9, iteB_true, fsz_9, fby_9_0]
  unfold wr
  rw [hx, hb]
  rfl
theorem writes_16 (x : TR) (hx : x.1 = 16) (k : Nat) : impl_Writes k x = some (wr x) := by
  have hh : impl_has k x.1 = some (⟨#[65, 66]⟩ : ByteArray) := by rw [hx, impl_has_e]; rfl
  have hb : wrB 16 = false := by kernel_rfl
  rw [impl_Writes_e, hh, bindO_some, fnil_10, iteB_true, fsz_10, fby_10_0]
  unfold wr
  rw [hx, hb]
  rfl
theorem writes_17 (x : TR) (hx : x.1 = 17) (k : Nat) : impl_Writes k x = some (wr x) := by
  have hh : impl_has k x.1 = some (⟨#[65, 66]⟩ : ByteArray) := by rw [hx, impl_has_e]; rfl
  have hb : wrB 17 = false := by kernel_rfl
  rw [impl_Writes_e, hh, bindO_some, fnil_10, iteB_true, fsz_10, fby_10_0]
  unfold wr
  rw [hx, hb]
  rfl
theorem writes_18 (x : TR) (hx : x.1 = 18) (k : Nat) : impl_Writes k x = some (wr x) := by
  have hh : impl_has k x.1 = some (⟨#[82]⟩ : ByteArray) := by rw [hx, impl_has_e]; rfl
  have hb : wrB 18 = true := by kernel_rfl
  rw [impl_Writes_e, hh, bindO_some, fnil_11, iteB_true, fsz_11, fby_11_0]
  unfold wr
  rw [hx, hb]
  rfl
theorem writes_19 (x : TR) (hx : x.1 = 19) (k : Nat) : impl_Writes k x = some (wr x) := by
  have hh : impl_has k x.1 = some (⟨#[65]⟩ : ByteArray) := by rw [hx, impl_has_e]; rfl
  have hb : wrB 19 = false := by kernel_rfl
  rw [impl_Writes_e, hh, bindO_some, fnil_9, iteB_true, fsz_9, fby_9_0]
  unfold wr
  rw [hx, hb]
  rfl
theorem impl_wr (x : TR) (k : Nat) : impl_Writes k x = some (wr x) := by
  rcases op_cases x.1 with h | h | h | h | h | h | h | h | h | h | h | h | h | h | h | h | h | h | h | h
  · exact writes_1 x h k
  · exact writes_2 x h k
  · exact writes_3 x h k
  · exact writes_4 x h k
  · exact writes_5 x h k
  · exact writes_6 x h k
  · exact writes_7 x h k
  · exact writes_8 x h k
  · exact writes_9 x h k
  · exact writes_10 x h k
  · exact writes_11 x h k
  · exact writes_12 x h k
  · exact writes_13 x h k
  · exact writes_14 x h k
  · exact writes_15 x h k
  · exact writes_16 x h k
  · exact writes_17 x h k
  · exact writes_18 x h k
  · exact writes_19 x h k
  · have e : hasR x.1 = 0 := if_neg (by omega)
    have hh : impl_has k x.1 = some (⟨#[]⟩ : ByteArray) := by
      rw [impl_has_e]
      have ne (n : Int) (hn : 1 ≤ n ∧ n ≤ 19) : (x.1 == n) = false := by simp only [beq_eq_false_iff_ne, ne_eq]; omega
      simp only [ne 1 (by omega), ne 2 (by omega), ne 3 (by omega), ne 4 (by omega), ne 5 (by omega), ne 6 (by omega), ne 7 (by omega), ne 8 (by omega), ne 9 (by omega), ne 10 (by omega), ne 11 (by omega), ne 12 (by omega), ne 13 (by omega), ne 14 (by omega), ne 15 (by omega), ne 16 (by omega), ne 17 (by omega), ne 18 (by omega), ne 19 (by omega), iteB_false]
    rw [impl_Writes_e, hh, bindO_some, fnil_12, iteB_false]
    unfold wr wrB
    rw [e]
    rfl
theorem wr_own (x : TR) : iteB (!(wr x == (-1))) (some (wr x == x.2.1)) (some true) = some true := by
  unfold wr
  cases wrB x.1
  · rfl
  · simp only [cond_true, BEq.rfl]; cases x.2.1 == -1 <;> rfl
theorem same_ints (l : List Int) (hl : l.length ≤ 1048576) : Ev fun k => laws_sameInts k l l = some true := by
  have run : ∀ (k m i n : Nat), i + m = l.length → m < n → laws_sameInts.l4 k n l l (i : Int) = some true := by
    intro k m
    induction m with
    | zero =>
      intro i n h hn
      obtain ⟨n, rfl⟩ : ∃ m, n = m + 1 := ⟨n - 1, by omega⟩
      rw [laws_sameInts.l4_s, decide_eq_false (by omega), iteB_false]
    | succ m ih =>
      intro i n h hn
      obtain ⟨n, rfl⟩ : ∃ m, n = m + 1 := ⟨n - 1, by omega⟩
      have e : ((i : Int) + 1) = ((i + 1 : Nat) : Int) := by omega
      have hw : IntKind.wrap .i64 ((i : Int) + 1) = ((i + 1 : Nat) : Int) := by rw [wrap_id (by omega) (by omega)]; exact e
      have ne : (List.getD l (Int.toNat (i : Int)) 0 != List.getD l (Int.toNat (i : Int)) 0) = false := by simp
      rw [laws_sameInts.l4_s, decide_eq_true (show (i : Int) < (l.length : Int) by omega), decide_eq_true (show 0 ≤ (i : Int) by omega), hw, ne]
      simp only [iteB_true, iteB_false]
      exact ih (i + 1) n (by omega) (by omega)
  refine (Ev.gt l.length).mono fun k hk => ?_
  have ne : (((List.length l) : Int) != ((List.length l) : Int)) = false := by simp
  rw [laws_sameInts_e, ne, iteB_false]
  exact run k l.length 0 k (by omega) hk
theorem inc_run (o : List Int) (hp : o.Pairwise (· < ·)) (hs : ∀ r ∈ o, r ∈ six) (hl : o.length ≤ 1048576) (w : Int) (y : TR) (k : Nat) : ∀ (m i n : Nat), i + m = o.length → m < n →
    laws_FnInsNamed.l11 k n o w (i : Int) y = iteB (!(w == (-1))) (some (w == y.2.1)) (some true) := by
  intro m
  induction m with
  | zero =>
    intro i n h hn
    obtain ⟨n, rfl⟩ : ∃ m, n = m + 1 := ⟨n - 1, by omega⟩
    rw [laws_FnInsNamed.l11_s, decide_eq_false (by omega), iteB_false]
  | succ m ih =>
    intro i n h hn
    obtain ⟨n, rfl⟩ : ∃ m, n = m + 1 := ⟨n - 1, by omega⟩
    have e : ((i : Int) + 1) = ((i + 1 : Nat) : Int) := by omega
    have hw : IntKind.wrap .i64 ((i : Int) + 1) = ((i + 1 : Nat) : Int) := by rw [wrap_id (by omega) (by omega)]; exact e
    have hv := hs _ (getD_mem o 0 (i := (i : Int)) (by omega) (by omega))
    have hb : 0 ≤ List.getD o (Int.toNat (i : Int)) 0 ∧ List.getD o (Int.toNat (i : Int)) 0 ≤ 5 := by simp only [six, List.mem_cons, List.not_mem_nil, or_false] at hv; omega
    have hw1 : IntKind.wrap .i64 ((i : Int) - 1) = (i : Int) - 1 := wrap_id (by omega) (by omega)
    rw [laws_FnInsNamed.l11_s, decide_eq_true (show (i : Int) < (o.length : Int) by omega), decide_eq_true (show 0 ≤ (i : Int) by omega), hw, hw1, decide_eq_false (show ¬ List.getD o (Int.toNat (i : Int)) 0 < 0 by omega), decide_eq_false (show ¬ List.getD o (Int.toNat (i : Int)) 0 ≥ 6 by omega)]
    simp only [iteB_true, Bool.not_false]
    rw [ih (i + 1) n (by omega) (by omega)]
    by_cases h0 : (i : Int) > 0
    · have lt : List.getD o (Int.toNat ((i : Int) - 1)) 0 < List.getD o (Int.toNat (i : Int)) 0 := by
        have a1 : Int.toNat ((i : Int) - 1) = i - 1 := by omega
        have a2 : Int.toNat (i : Int) = i := by omega
        have gd (j : Nat) (hj : j < o.length) : List.getD o j 0 = o[j] := by simp [List.getD, hj]
        rw [a1, a2, gd (i - 1) (by omega), gd i (by omega)]
        exact List.pairwise_iff_getElem.1 hp (i - 1) i (by omega) (by omega) (by omega)
      rw [decide_eq_true h0, decide_eq_true (show 0 ≤ (i : Int) - 1 by omega), decide_eq_true (show (i : Int) - 1 < (o.length : Int) by omega), decide_eq_false (show ¬ List.getD o (Int.toNat ((i : Int) - 1)) 0 ≥ List.getD o (Int.toNat (i : Int)) 0 by omega)]
      simp only [iteB_true, iteB_false]
    · rw [decide_eq_false h0, iteB_false]
theorem six_inc : six.Pairwise (· < ·) := by decide
theorem FnInsNamed : ∀ (x0 : List Int), WfT (.row (.int .u8)) x0 → ∃ k, laws_FnInsNamed k x0 = some true := by
  intro code _
  by_cases hbig : ((List.length code) : Int) > 1048576
  · exact ⟨0, by rw [laws_FnInsNamed_e, laws_big_e, bindO_some, decide_eq_true hbig, iteB_true]⟩
  have hc : code.length ≤ 1048576 := by omega
  refine Ev.get ?_
  obtain ⟨x, _, ex⟩ := drawReads_ok hc
  obtain ⟨y, _, ey⟩ := drawWrites_ok hc
  obtain ⟨z, _, ez⟩ := drawInsOk_ok hc
  generalize ho : six.filter (isRd (hasR x.1) x) = o
  have hl : o.length ≤ 1048576 := by rw [← ho]; exact Nat.le_trans (List.length_filter_le _ _) (by decide)
  have hp : o.Pairwise (· < ·) := by rw [← ho]; exact six_inc.filter _
  have hs : ∀ r ∈ o, r ∈ six := by rw [← ho]; exact fun r hr => (List.mem_filter.1 hr).1
  refine ((ex.and ey).and (ez.and (same_ints o hl))).two (((spec_ins z).and (impl_ins z)).and ((Ev.gt 7).and (Ev.gt o.length))) fun k h1 h2 => ?_
  obtain ⟨⟨a1, a2⟩, a3, a4⟩ := h1
  obtain ⟨⟨b1, b2⟩, b3, b4⟩ := h2
  have e1 : spec_Reads k x = some o := by
    obtain ⟨q, rfl⟩ : ∃ q, k = q + 7 := ⟨k - 7, by omega⟩
    rw [← ho]; exact spec_rd x q
  have e2 : impl_Reads k x = some o := by
    obtain ⟨q, rfl⟩ : ∃ q, k = q + 5 := ⟨k - 5, by omega⟩
    rw [← ho]; exact impl_rd x q
  have n1 : (wr y != wr y) = false := by simp
  have n2 : (insP z == insP z) = true := by simp
  rw [laws_FnInsNamed_e, laws_big_e, bindO_some, decide_eq_false hbig, iteB_false]
  simp only [a1, a2, a3, a4, e1, e2, b1, b2, impl_wr, spec_wr, bindO_some, n1, n2, Bool.not_true, Bool.not_false, iteB_true, iteB_false]
  rw [gate_pos (by omega), laws_FnInsNamed.j10_e]
  exact (inc_run o hp hs hl (wr y) y k o.length 0 k (by omega) b4).trans (wr_own y)

end Go.Proofs.Ytkingfejeangbaa.Pure
