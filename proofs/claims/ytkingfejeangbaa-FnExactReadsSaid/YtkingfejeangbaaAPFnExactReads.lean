/- What the functions that FnExactReads runs come to, and that the law's own run comes to true. -/
import Derived.Test.YtkingfejeangbaaAC
import Derived.Test.YtkingfejeangbaaAMFnExactReads0
namespace Go.Proofs.Ytkingfejeangbaa.Pure
open Go Go.AM Go.AMx Go.Proofs.Ytkingfejeangbaa.XFnExactReads
set_option linter.unusedVariables false
set_option linter.unusedSimpArgs false
theorem spec_in (k : Nat) (x lo hi : Int) : spec_l1In k x lo hi = some (decide (lo ≤ x ∧ x ≤ hi)) := by rw [spec_l1In_e, in_ge]
theorem impl_in (k : Nat) (x lo hi : Int) : impl_within k x lo hi = some (decide (lo ≤ x ∧ x ≤ hi)) := by rw [impl_within_e, in_ge]

/-! Sorts of no more than three words, their runs. -/
def six : List Int := [0, 1, 2, 3, 4, 5]
def inSix (l : List Int) : List Int := six.filter fun r => l.contains r
def put1 (a b : Int) : List Int := bif decide (a ≤ b) then [a, b] else [b, a]
def put2 (a b c : Int) : List Int := bif decide (a ≤ c) then a :: (bif decide (b ≤ c) then [b, c] else [c, b]) else [c, a, b]
def put3 (a b c : Int) : List Int := bif decide (a ≤ b) then put2 a b c else put2 b a c
theorem sort_2 (a b : Int) : List.mergeSort [a, b] (fun x y => decide (x ≤ y)) = put1 a b := by
  rw [List.mergeSort]
  simp only [List.MergeSort.Internal.splitInTwo]
  by_cases h : a ≤ b <;> simp [h, put1]
theorem sort_3 (a b c : Int) : List.mergeSort [a, b, c] (fun x y => decide (x ≤ y)) = put3 a b c := by
  rw [List.mergeSort]
  simp only [List.MergeSort.Internal.splitInTwo]
  simp only [put3, put2]
  by_cases h : a ≤ b <;> by_cases h1 : a ≤ c <;> by_cases h2 : b ≤ c <;> simp [put1, h, h1, h2, sort_2]
theorem chk1 : (six.all fun a => decide (Lib.compact [a] = inSix [a])) = true := by kernel_rfl
theorem chk2 : (six.all fun a => six.all fun b => decide (Lib.compact (put1 a b) = inSix [a, b])) = true := by kernel_rfl
theorem chk3 : (six.all fun a => six.all fun b => six.all fun c => decide (Lib.compact (put3 a b c) = inSix [a, b, c])) = true := by kernel_rfl
theorem uniq0 : Lib.compact (List.mergeSort ([] : List Int) fun x y => decide (x ≤ y)) = inSix [] := by rw [List.mergeSort_nil]; rfl
theorem mem_six {a : Int} (h0 : 0 ≤ a) (h : a ≤ 5) : a ∈ six := by
  have : a = 0 ∨ a = 1 ∨ a = 2 ∨ a = 3 ∨ a = 4 ∨ a = 5 := by omega
  rcases this with rfl | rfl | rfl | rfl | rfl | rfl <;> decide
theorem uniq1 {a : Int} (ha : a ∈ six) : Lib.compact (List.mergeSort [a] fun x y => decide (x ≤ y)) = inSix [a] := by
  rw [List.mergeSort_singleton]; exact of_decide_eq_true (List.all_eq_true.1 chk1 a ha)
theorem uniq2 {a b : Int} (ha : a ∈ six) (hb : b ∈ six) : Lib.compact (List.mergeSort [a, b] fun x y => decide (x ≤ y)) = inSix [a, b] := by
  rw [sort_2]; exact of_decide_eq_true (List.all_eq_true.1 (List.all_eq_true.1 chk2 a ha) b hb)
theorem uniq3 {a b c : Int} (ha : a ∈ six) (hb : b ∈ six) (hc : c ∈ six) : Lib.compact (List.mergeSort [a, b, c] fun x y => decide (x ≤ y)) = inSix [a, b, c] := by
  rw [sort_3]; exact of_decide_eq_true (List.all_eq_true.1 (List.all_eq_true.1 (List.all_eq_true.1 chk3 a ha) b hb) c hc)
/-- Registers of a place that are there, sorted, once each. -/
theorem uniq_le (l : List Int) (hl : l.length ≤ 3) (h : ∀ x ∈ l, x ∈ six) : Lib.compact (l.mergeSort fun x y => decide (x ≤ y)) = inSix l := by
  match l, hl, h with
  | [], _, _ => exact uniq0
  | [a], _, h => exact uniq1 (h a (by simp))
  | [a, b], _, h => exact uniq2 (h a (by simp)) (h b (by simp))
  | [a, b, c], _, h => exact uniq3 (h a (by simp)) (h b (by simp)) (h c (by simp))
  | _ :: _ :: _ :: _ :: _, hl, _ => simp at hl

theorem toIns_ok : ToOk (.pair (.int .i64) (.pair (.int .i64) (.pair (.int .i64) (.pair (.int .i64) (.pair (.int .i64) (.pair (.int .i64) .unit)))))) laws_toIns := fun (a1 : Int × Int × Int × Int × Int × Int × Unit) (hx : FitT (.pair (.int .i64) (.pair (.int .i64) (.pair (.int .i64) (.pair (.int .i64) (.pair (.int .i64) (.pair (.int .i64) .unit)))))) a1) => (show Ev fun k => (some (a1.1, a1.2.1, a1.2.2.1, a1.2.2.2.1, a1.2.2.2.2.1, a1.2.2.2.2.2.1, ())) = some a1 from Ev.of fun _ => rfl).mono fun k h => (laws_toIns_e k a1).trans h
theorem eqIntS_ok : EqOk (.row (.int .i64)) laws_eqIntS := eq_words (α := Int) (F := FitT (.int .i64)) (d := 0) (S := laws_eqIntS) (L := laws_eqIntS.l4) (p := (fun x y => x != y)) (fun x => by simp) laws_eqIntS.l4_s laws_eqIntS_e
theorem markIntS_ok : MarkOk (FitT (.row (.int .i64))) laws_markIntS 1048576 := mark_row (α := Int) (d := 0) (F := FitT (.int .i64)) (B := 1) (L := laws_markIntS.l2) (by omega) (fun x hx => ((Ev.of fun _ => trivial)).mono fun q hq kk h0 hM n ys i i0 i1 hl hx' => by
  obtain ⟨_⟩ := hq
  refine ⟨kk + 1, ?_, by omega, by omega, ?_⟩
  rotate_left
  · rw [laws_markIntS.l2_s]
    simp (disch := omega) only [List.length_set, List.set_set, getD_set_same, iteB_pos, wrap_next, hx', bindO_some]
    first | exact rfl | (simp (disch := omega) only [bindO_some, wrap_next, List.length_set, List.set_set, getD_set_same, iteB_pos]; exact rfl)) (fun q n kk i ys h => by rw [laws_markIntS.l2_s, iteB_neg (by omega)]) (fun q xs kk => laws_markIntS_e q xs kk) (by omega)

/-! Marks on a row of words, and what is held of them. -/
def cntI : Int → Nat → List Int
  | _, 0 => []
  | k, n + 1 => k :: cntI (k + 1) n
theorem cntI_len : ∀ (k : Int) (n : Nat), (cntI k n).length = n
  | _, 0 => rfl
  | k, n + 1 => by simp [cntI, cntI_len (k + 1) n]
theorem mark_ints (xs : List Int) (hl : xs.length ≤ 1048576) : Ev fun q => laws_markIntS q xs 1 = some (1 + (xs.length : Int), cntI 1 xs.length) := by
  refine (Ev.gt xs.length).mono fun q hq => ?_
  have key : ∀ (m : Nat) (i kk : Int) (ys : List Int) (p : Nat), 0 ≤ i → (ys.length : Int) - i = m → m < p → ys.length ≤ 1048576 → 0 ≤ kk → kk ≤ 1048577 + i → laws_markIntS.l2 q p kk i ys = some (kk + m, ys.take i.toNat ++ cntI kk m) := by
    intro m
    induction m with
    | zero =>
      intro i kk ys p hi hm hp hl h0 h1
      obtain ⟨p, rfl⟩ : ∃ q, p = q + 1 := ⟨p - 1, by omega⟩
      rw [laws_markIntS.l2_s, iteB_neg (by omega), List.take_of_length_le (by omega)]
      simp [cntI]
    | succ m ih =>
      intro i kk ys p hi hm hp hl h0 h1
      obtain ⟨p, rfl⟩ : ∃ q, p = q + 1 := ⟨p - 1, by omega⟩
      have hlt : i < (ys.length : Int) := by omega
      have h3 : (i + 1).toNat = i.toNat + 1 := by omega
      rw [laws_markIntS.l2_s, iteB_pos hlt, iteB_pos hi, iteB_pos hlt, wrap_id (by omega) (by omega), wrap_id (by omega) (by omega), ih (i + 1) (kk + 1) (List.set ys i.toNat kk) p (by omega) (by simp; omega) (by omega) (by simpa using hl) (by omega) (by omega)]
      congr 2
      · omega
      · rw [h3, List.take_succ_eq_append_getElem (by simp; omega), List.append_assoc]
        have e1 : List.take i.toNat (ys.set i.toNat kk) = ys.take i.toNat := by rw [List.take_set, List.set_eq_of_length_le (by simp; omega)]
        rw [e1]
        congr 1
        simp [cntI]
  have := key xs.length 0 1 xs q (by omega) (by omega) hq hl (by omega) (by omega)
  rw [laws_markIntS_e, this]
  rfl
theorem held_ints (n : Nat) (hl : n ≤ 1048576) : Ev fun q => laws_heldIntS q (cntI 1 n) 1 = some (1 + (n : Int)) := by
  refine (Ev.gt n).mono fun q hq => ?_
  have key : ∀ (m : Nat) (i kk : Int) (ys : List Int) (p : Nat), 0 ≤ i → (ys.length : Int) - i = m → m < p → ys.length ≤ 1048576 → 0 ≤ kk → kk ≤ 1048577 + i → ys.drop i.toNat = cntI kk m → laws_heldIntS.l2 q p ys kk i = some (kk + m) := by
    intro m
    induction m with
    | zero =>
      intro i kk ys p hi hm hp hl h0 h1 _
      obtain ⟨p, rfl⟩ : ∃ q, p = q + 1 := ⟨p - 1, by omega⟩
      rw [laws_heldIntS.l2_s, iteB_neg (by omega)]
      simp
    | succ m ih =>
      intro i kk ys p hi hm hp hl h0 h1 hd
      obtain ⟨p, rfl⟩ : ∃ q, p = q + 1 := ⟨p - 1, by omega⟩
      have hlt : i < (ys.length : Int) := by omega
      have h3 := drop_at ys 0 i hi hlt
      rw [h3] at hd
      obtain ⟨e1, e2⟩ := List.cons.inj hd
      have e3 : (ys.getD i.toNat 0 != kk) = false := by rw [e1]; simp
      rw [laws_heldIntS.l2_s, iteB_pos hlt, iteB_pos hi, iteB_pos hlt, e3, iteB_false, wrap_id (by omega) (by omega), wrap_id (by omega) (by omega), ih (i + 1) (kk + 1) ys p (by omega) (by omega) (by omega) hl (by omega) (by omega) e2]
      congr 1; omega
  have hlen := cntI_len 1 n
  have := key n 0 1 (cntI 1 n) q (by omega) (by omega) hq (by omega) (by omega) (by omega) rfl
  rw [laws_heldIntS_e, this]

/-! What a place of an image reads: sorts of no more than three words. -/
theorem run_sort (k : Nat) (xs : List Int) (h : xs.length < 4611686018427387904) : slices_Sort_int k xs = some ((), xs.mergeSort fun x y => decide (x ≤ y)) := by rw [slices_Sort_int_e, iteB_pos h]
theorem run_compact (k : Nat) (xs : List Int) (h : xs.length ≤ 9223372036854775807) : slices_Compact_int k xs = some ((Lib.compact xs).length, Lib.compact xs ++ List.replicate (xs.length - (Lib.compact xs).length) 0) := by rw [slices_Compact_int_e, iteB_pos h]
theorem cut_compact (xs : List Int) (n : Nat) : List.take (Lib.compact xs).length (List.drop 0 (Lib.compact xs ++ List.replicate n 0)) = Lib.compact xs := by simp
/-- A sort, its runs made one, cut. -/
theorem run_uniq (k : Nat) (xs : List Int) (h : xs.length ≤ 1048576) : (bindO (slices_Sort_int k xs) fun r1 => bindO (slices_Compact_int k r1.2) fun r2 => some (List.take r2.1 (List.drop 0 r2.2))) = some (Lib.compact (xs.mergeSort fun x y => decide (x ≤ y))) := by
  rw [run_sort k xs (by omega), bindO_some, run_compact k _ (by rw [List.length_mergeSort]; omega), bindO_some]
  simp only [cut_compact]
def bitR (h b : Int) : Bool := (IntKind.wrap .i64 ((BitVec.ofInt (IntKind.bits .i64) h &&& BitVec.ofInt (IntKind.bits .i64) b).toNat : Int)) != 0
theorem bitR_0_2 : bitR 0 2 = false := by kernel_rfl
theorem bitR_0_4 : bitR 0 4 = false := by kernel_rfl
theorem bitR_1_2 : bitR 1 2 = false := by kernel_rfl
theorem bitR_1_4 : bitR 1 4 = false := by kernel_rfl
theorem bitR_2_2 : bitR 2 2 = true := by kernel_rfl
theorem bitR_2_4 : bitR 2 4 = false := by kernel_rfl
theorem bitR_3_2 : bitR 3 2 = true := by kernel_rfl
theorem bitR_3_4 : bitR 3 4 = false := by kernel_rfl
theorem bitR_6_2 : bitR 6 2 = true := by kernel_rfl
theorem bitR_6_4 : bitR 6 4 = true := by kernel_rfl
theorem bitR_7_2 : bitR 7 2 = true := by kernel_rfl
theorem bitR_7_4 : bitR 7 4 = true := by kernel_rfl
theorem bitR_8_2 : bitR 8 2 = false := by kernel_rfl
theorem bitR_8_4 : bitR 8 4 = false := by kernel_rfl
theorem bitR_9_2 : bitR 9 2 = false := by kernel_rfl
theorem bitR_9_4 : bitR 9 4 = false := by kernel_rfl
theorem bitR_10_2 : bitR 10 2 = true := by kernel_rfl
theorem bitR_10_4 : bitR 10 4 = false := by kernel_rfl
theorem bitR_11_2 : bitR 11 2 = true := by kernel_rfl
theorem bitR_11_4 : bitR 11 4 = false := by kernel_rfl
theorem bitR_14_2 : bitR 14 2 = true := by kernel_rfl
theorem bitR_14_4 : bitR 14 4 = true := by kernel_rfl
theorem bitR_24_2 : bitR 24 2 = false := by kernel_rfl
theorem bitR_24_4 : bitR 24 4 = false := by kernel_rfl
def hasR (op : Int) : Int := if 1 ≤ op ∧ op ≤ 19 then List.getD [0, 9, 3, 7, 7, 7, 7, 7, 11, 14, 7, 8, 10, 24, 0, 2, 6, 6, 1, 2] op.toNat 0 else 0
theorem spec_hasR (k : Nat) (op : Int) : spec_l2Has k op = some (hasR op) := by
  rw [spec_l2Has_e, spec_in, bindO_some]
  unfold hasR
  by_cases h : 1 ≤ op ∧ op ≤ 19
  · rw [decide_eq_true h, Bool.not_true, iteB_false, iteB_pos (by omega), iteB_pos (by simp; omega), if_pos h]
  · rw [decide_eq_false h, Bool.not_false, iteB_true, if_neg h]
abbrev TR : Type := Int × Int × Int × Int × Int × Int × Unit
/-- Is it a register that the place reads? -/
def isRd (h : Int) (x : TR) (r : Int) : Bool := (bitR h 2 && x.2.2.1 == r) || (bitR h 4 && x.2.2.2.1 == r) || (x.1 == 10 && x.2.1 == r)
def seg (b : Bool) (r : Int) : List Int := bif b then [r] else []
theorem seg_len (b : Bool) (r : Int) : (seg b r).length ≤ 1 := by cases b <;> simp [seg]
theorem lim_le {l : List Int} {r : Int} (h : l.length ≤ 10) : decide ((List.length (l ++ [r])) * 8 ≤ lim) = true := decide_eq_true (by rw [List.length_append]; simp [lim]; omega)
theorem spec_rd_l4 (k : Nat) (h : Int) (x : TR) : ∀ (n : Nat) (i : Int), spec_Reads.l4 k n h i x = spec_Reads.l4b k n h i x [] := by
  intro n
  induction n with
  | zero => intro i; rw [spec_Reads.l4_0, spec_Reads.l4b_0]
  | succ n ih => intro i; rw [spec_Reads.l4_s, spec_Reads.l4b_s]; simp only [ih]
theorem spec_rd_step (k n : Nat) (h : Int) (x : TR) (i : Int) (l : List Int) (hi : i < 6) (h0 : 0 ≤ i) (hl : l.length ≤ 10) : spec_Reads.l4b k (n + 1) h i x l = spec_Reads.l4b k n h (i + 1) x (l ++ seg (isRd h x i) i) := by
  have hw : IntKind.wrap .i64 (i + 1) = i + 1 := wrap_id (by omega) (by omega)
  have e : decide ((List.length (l ++ [i])) * 8 ≤ lim) = true := lim_le hl
  rw [spec_Reads.l4b_s, decide_eq_true hi, hw, e]
  show iteB true (iteB (bitR h 2) (iteB (!(x.2.2.1 == i)) (iteB (bitR h 4) (iteB (!(x.2.2.2.1 == i)) _ _) _) _) (iteB (bitR h 4) (iteB (!(x.2.2.2.1 == i)) _ _) _)) _ = _
  unfold isRd
  cases bitR h 2 <;> cases bitR h 4 <;> cases x.2.2.1 == i <;> cases x.2.2.2.1 == i <;> cases x.1 == 10 <;> cases x.2.1 == i <;> simp [seg, iteB]
theorem seg_six (p : Int → Bool) : [] ++ seg (p 0) 0 ++ seg (p 1) 1 ++ seg (p 2) 2 ++ seg (p 3) 3 ++ seg (p 4) 4 ++ seg (p 5) 5 = six.filter p := by
  unfold six
  simp only [List.filter_cons, List.filter_nil]
  cases p 0 <;> cases p 1 <;> cases p 2 <;> cases p 3 <;> cases p 4 <;> cases p 5 <;> rfl
theorem spec_rd (x : TR) (q : Nat) : spec_Reads (q + 7) x = some (six.filter (isRd (hasR x.1) x)) := by
  rw [spec_Reads_e, spec_hasR, bindO_some, spec_rd_l4]
  have a (b : Bool) (r : Int) := seg_len b r
  rw [spec_rd_step _ (q + 6) _ _ _ _ (by omega) (by omega) (by simp)]
  rw [spec_rd_step _ (q + 5) _ _ _ _ (by omega) (by omega) (by simp only [List.length_append, List.length_nil]; have := a (isRd (hasR x.1) x 0) 0; omega)]
  rw [show (0 : Int) + 1 = 1 from rfl]
  rw [spec_rd_step _ (q + 4) _ _ _ _ (by omega) (by omega) (by simp only [List.length_append, List.length_nil]; have := a (isRd (hasR x.1) x 0) 0; have := a (isRd (hasR x.1) x 1) 1; omega)]
  rw [show (1 : Int) + 1 = 2 from rfl]
  rw [spec_rd_step _ (q + 3) _ _ _ _ (by omega) (by omega) (by simp only [List.length_append, List.length_nil]; have := a (isRd (hasR x.1) x 0) 0; have := a (isRd (hasR x.1) x 1) 1; have := a (isRd (hasR x.1) x 2) 2; omega)]
  rw [show (2 : Int) + 1 = 3 from rfl]
  rw [spec_rd_step _ (q + 2) _ _ _ _ (by omega) (by omega) (by simp only [List.length_append, List.length_nil]; have := a (isRd (hasR x.1) x 0) 0; have := a (isRd (hasR x.1) x 1) 1; have := a (isRd (hasR x.1) x 2) 2; have := a (isRd (hasR x.1) x 3) 3; omega)]
  rw [show (3 : Int) + 1 = 4 from rfl]
  rw [spec_rd_step _ (q + 1) _ _ _ _ (by omega) (by omega) (by simp only [List.length_append, List.length_nil]; have := a (isRd (hasR x.1) x 0) 0; have := a (isRd (hasR x.1) x 1) 1; have := a (isRd (hasR x.1) x 2) 2; have := a (isRd (hasR x.1) x 3) 3; have := a (isRd (hasR x.1) x 4) 4; omega)]
  rw [show (4 : Int) + 1 = 5 from rfl, show (5 : Int) + 1 = 6 from rfl, spec_Reads.l4b_s, decide_eq_false (by omega), iteB_false, seg_six]
theorem impl_regR (k : Nat) (x : Int) : impl_isReg k x = some (decide (0 ≤ x ∧ x ≤ 5)) := by rw [impl_isReg_e, impl_in, bindO_some]
def reg (x : Int) : Bool := decide (0 ≤ x ∧ x ≤ 5)
/-- What a letter adds. -/
def let1 (x : TR) (c : Int) : List Int := bif c == 65 && reg x.2.2.1 then [x.2.2.1] else bif c == 66 && reg x.2.2.2.1 then [x.2.2.2.1] else bif c == 82 && (x.1 == 10 && reg x.2.1) then [x.2.1] else []
theorem let1_len (x : TR) (c : Int) : (let1 x c).length ≤ 1 := by
  unfold let1
  cases c == 65 && reg x.2.2.1 <;> cases c == 66 && reg x.2.2.2.1 <;> cases c == 82 && (x.1 == 10 && reg x.2.1) <;> simp
theorem let1_six (x : TR) (c : Int) : ∀ r ∈ let1 x c, r ∈ six := by
  have m {v : Int} (h : reg v = true) : v ∈ six := by have := of_decide_eq_true h; exact mem_six this.1 this.2
  unfold let1
  intro r hr
  cases h1 : c == 65 && reg x.2.2.1
  · cases h2 : c == 66 && reg x.2.2.2.1
    · cases h3 : c == 82 && (x.1 == 10 && reg x.2.1)
      · rw [h1, h2, h3] at hr; simp at hr
      · rw [h1, h2, h3] at hr
        simp only [cond_false, cond_true, List.mem_singleton] at hr
        simp only [Bool.and_eq_true] at h3
        rw [hr]; exact m h3.2.2
    · rw [h1, h2] at hr
      simp only [cond_false, cond_true, List.mem_singleton] at hr
      simp only [Bool.and_eq_true] at h2
      rw [hr]; exact m h2.2
  · rw [h1] at hr
    simp only [cond_true, List.mem_singleton] at hr
    simp only [Bool.and_eq_true] at h1
    rw [hr]; exact m h1.2
theorem let1_has (x : TR) (c r : Int) (hr : r ∈ six) : (let1 x c).contains r = (bif c == 65 then x.2.2.1 == r else bif c == 66 then x.2.2.2.1 == r else bif c == 82 then (x.1 == 10 && x.2.1 == r) else false) := by
  have hb : 0 ≤ r ∧ r ≤ 5 := by simp only [six, List.mem_cons, List.not_mem_nil, or_false] at hr; omega
  have ne {v : Int} (h : reg v = false) : (v == r) = false := by
    have := of_decide_eq_false h
    simp only [beq_eq_false_iff_ne, ne_eq]
    intro e; subst e; exact this hb
  have cm (v : Int) : List.contains [v] r = (v == r) := by simp only [List.contains_cons, List.contains_nil, Bool.or_false]; exact Bool.eq_iff_iff.2 (by simp only [beq_iff_eq]; exact eq_comm)
  unfold let1
  cases h1 : c == 65
  · cases h2 : c == 66
    · cases h3 : c == 82
      · simp only [Bool.false_and, cond_false, List.contains_nil]
      · cases h4 : x.1 == 10
        · simp only [Bool.false_and, Bool.true_and, cond_false, cond_true, List.contains_nil]
        · cases h5 : reg x.2.1
          · simp only [Bool.false_and, Bool.true_and, cond_false, cond_true, List.contains_nil, ne h5]
          · simp only [Bool.false_and, Bool.true_and, cond_false, cond_true, cm]
    · have h3 : (c == 82) = false := by simp only [beq_iff_eq] at h2; subst h2; rfl
      cases h5 : reg x.2.2.2.1
      · simp only [h3, Bool.false_and, Bool.true_and, cond_false, cond_true, List.contains_nil, ne h5]
      · simp only [h3, Bool.false_and, Bool.true_and, cond_false, cond_true, cm]
  · have h2 : (c == 66) = false := by simp only [beq_iff_eq] at h1; subst h1; rfl
    have h3 : (c == 82) = false := by simp only [beq_iff_eq] at h1; subst h1; rfl
    cases h5 : reg x.2.2.1
    · simp only [h2, h3, Bool.false_and, Bool.true_and, cond_false, cond_true, List.contains_nil, ne h5]
    · simp only [h2, h3, Bool.false_and, Bool.true_and, cond_false, cond_true, cm]
theorem impl_rd_l4 (k : Nat) (s : ByteArray) (z : Int) (x : TR) : ∀ (n : Nat) (i : Int), impl_Reads.l4 k n s z i x = impl_Reads.l4b k n s z i x [] := by
  intro n
  induction n with
  | zero => intro i; rw [impl_Reads.l4_0, impl_Reads.l4b_0]
  | succ n ih => intro i; rw [impl_Reads.l4_s, impl_Reads.l4b_s]; simp only [ih]
theorem impl_rd_step (k n : Nat) (s : ByteArray) (x : TR) (i : Int) (l : List Int) (h0 : 0 ≤ i) (hi : i < (s.size : Int)) (hs : s.size ≤ 3) (hl : l.length ≤ 10) : impl_Reads.l4b k (n + 1) s (s.size : Int) i x l = impl_Reads.l4b k n s (s.size : Int) (i + 1) x (l ++ let1 x (byteAt s i.toNat)) := by
  have hw : IntKind.wrap .i64 (i + 1) = i + 1 := wrap_id (by omega) (by omega)
  rw [impl_Reads.l4b_s, decide_eq_true hi, decide_eq_true h0, hw, lim_le hl, lim_le hl, lim_le hl]
  simp only [impl_regR, bindO_some, iteB_true]
  unfold let1 reg
  generalize byteAt s i.toNat = c
  cases c == 65 <;> cases c == 66 <;> cases c == 82 <;> cases decide (0 ≤ x.2.2.1 ∧ x.2.2.1 ≤ 5) <;> cases decide (0 ≤ x.2.2.2.1 ∧ x.2.2.2.1 ≤ 5) <;> cases x.1 == 10 <;> cases decide (0 ≤ x.2.1 ∧ x.2.1 ≤ 5) <;> simp [iteB]
def bytesOf (s : ByteArray) (i m : Nat) : List Int := (List.range' i m).map (byteAt s)
theorem impl_rd_run (k : Nat) (s : ByteArray) (x : TR) (hs : s.size ≤ 3) : ∀ (m i n : Nat) (l : List Int), m + i = s.size → l.length ≤ i → m < n → impl_Reads.l4b k n s (s.size : Int) (i : Int) x l = some (Lib.compact ((l ++ (bytesOf s i m).flatMap (let1 x)).mergeSort fun x y => decide (x ≤ y))) := by
  intro m
  induction m with
  | zero =>
    intro i n l hm hl hn
    obtain ⟨n, rfl⟩ : ∃ m, n = m + 1 := ⟨n - 1, by omega⟩
    rw [impl_Reads.l4b_s, decide_eq_false (by omega), iteB_false, run_uniq k l (by omega)]
    simp [bytesOf]
  | succ m ih =>
    intro i n l hm hl hn
    obtain ⟨n, rfl⟩ : ∃ m, n = m + 1 := ⟨n - 1, by omega⟩
    have := let1_len x (byteAt s i)
    rw [impl_rd_step k n s x i l (by omega) (by omega) hs (by omega)]
    have e : ((i : Int) + 1) = ((i + 1 : Nat) : Int) := by omega
    rw [e, Int.toNat_natCast, ih (i + 1) n _ (by omega) (by rw [List.length_append]; omega) (by omega)]
    simp only [bytesOf, List.range'_succ, List.map_cons, List.flatMap_cons, List.append_assoc]
theorem impl_rd_of (s : ByteArray) (x : TR) (hs : s.size ≤ 3) (k : Nat) (hk : 3 < k) (hh : impl_has k x.1 = some s) (h : Int) (hp : ∀ r ∈ six, ((bytesOf s 0 s.size).flatMap (let1 x)).contains r = isRd h x r) : impl_Reads k x = some (six.filter (isRd h x)) := by
  have len : ∀ l : List Int, (l.flatMap (let1 x)).length ≤ l.length := by
    intro l
    induction l with
    | nil => simp
    | cons c l ih => rw [List.flatMap_cons, List.length_append, List.length_cons]; have := let1_len x c; omega
  rw [impl_Reads_e, hh, bindO_some, impl_rd_l4]
  have := impl_rd_run k s x hs s.size 0 k [] (by omega) (by simp) (by omega)
  refine Eq.trans this ?_
  rw [List.nil_append, uniq_le _ (Nat.le_trans (len _) (by simp [bytesOf]; exact hs)) (fun r hr => by
    obtain ⟨c, _, h⟩ := List.mem_flatMap.1 hr
    exact let1_six x c r h)]
  unfold inSix
  exact congrArg some (List.filter_congr fun r hr => hp r hr)
theorem has_app (a b : List Int) (r : Int) : (a ++ b).contains r = (a.contains r || b.contains r) := by
  induction a with
  | nil => simp
  | cons x a ih => simp only [List.cons_append, List.contains_cons, ih, Bool.or_assoc]
theorem reads_1 (x : TR) (hx : x.1 = 1) (q : Nat) : impl_Reads (q + 5) x = some (six.filter (isRd 9 x)) := by
  refine impl_rd_of (⟨#[82, 78]⟩ : ByteArray) x (by decide) (q + 5) (by omega) (by rw [hx, impl_has_e]; rfl) 9 fun r hr => ?_
  rw [show bytesOf (⟨#[82, 78]⟩ : ByteArray) 0 (ByteArray.size (⟨#[82, 78]⟩ : ByteArray)) = [82, 78] from rfl]
  simp only [List.flatMap_cons, List.flatMap_nil, has_app, let1_has x _ r hr, List.contains_nil, isRd, hx, bitR_9_2, bitR_9_4]
  cases x.2.2.1 == r <;> cases x.2.2.2.1 == r <;> cases x.2.1 == r <;> rfl
theorem reads_2 (x : TR) (hx : x.1 = 2) (q : Nat) : impl_Reads (q + 5) x = some (six.filter (isRd 3 x)) := by
  refine impl_rd_of (⟨#[82, 65]⟩ : ByteArray) x (by decide) (q + 5) (by omega) (by rw [hx, impl_has_e]; rfl) 3 fun r hr => ?_
  rw [show bytesOf (⟨#[82, 65]⟩ : ByteArray) 0 (ByteArray.size (⟨#[82, 65]⟩ : ByteArray)) = [82, 65] from rfl]
  simp only [List.flatMap_cons, List.flatMap_nil, has_app, let1_has x _ r hr, List.contains_nil, isRd, hx, bitR_3_2, bitR_3_4]
  cases x.2.2.1 == r <;> cases x.2.2.2.1 == r <;> cases x.2.1 == r <;> rfl
theorem reads_3 (x : TR) (hx : x.1 = 3) (q : Nat) : impl_Reads (q + 5) x = some (six.filter (isRd 7 x)) := by
  refine impl_rd_of (⟨#[82, 65, 66]⟩ : ByteArray) x (by decide) (q + 5) (by omega) (by rw [hx, impl_has_e]; rfl) 7 fun r hr => ?_
  rw [show bytesOf (⟨#[82, 65, 66]⟩ : ByteArray) 0 (ByteArray.size (⟨#[82, 65, 66]⟩ : ByteArray)) = [82, 65, 66] from rfl]
  simp only [List.flatMap_cons, List.flatMap_nil, has_app, let1_has x _ r hr, List.contains_nil, isRd, hx, bitR_7_2, bitR_7_4]
  cases x.2.2.1 == r <;> cases x.2.2.2.1 == r <;> cases x.2.1 == r <;> rfl
theorem reads_4 (x : TR) (hx : x.1 = 4) (q : Nat) : impl_Reads (q + 5) x = some (six.filter (isRd 7 x)) := by
  refine impl_rd_of (⟨#[82, 65, 66]⟩ : ByteArray) x (by decide) (q + 5) (by omega) (by rw [hx, impl_has_e]; rfl) 7 fun r hr => ?_
  rw [show bytesOf (⟨#[82, 65, 66]⟩ : ByteArray) 0 (ByteArray.size (⟨#[82, 65, 66]⟩ : ByteArray)) = [82, 65, 66] from rfl]
  simp only [List.flatMap_cons, List.flatMap_nil, has_app, let1_has x _ r hr, List.contains_nil, isRd, hx, bitR_7_2, bitR_7_4]
  cases x.2.2.1 == r <;> cases x.2.2.2.1 == r <;> cases x.2.1 == r <;> rfl
theorem reads_5 (x : TR) (hx : x.1 = 5) (q : Nat) : impl_Reads (q + 5) x = some (six.filter (isRd 7 x)) := by
  refine impl_rd_of (⟨#[82, 65, 66]⟩ : ByteArray) x (by decide) (q + 5) (by omega) (by rw [hx, impl_has_e]; rfl) 7 fun r hr => ?_
  rw [show bytesOf (⟨#[82, 65, 66]⟩ : ByteArray) 0 (ByteArray.size (⟨#[82, 65, 66]⟩ : ByteArray)) = [82, 65, 66] from rfl]
  simp only [List.flatMap_cons, List.flatMap_nil, has_app, let1_has x _ r hr, List.contains_nil, isRd, hx, bitR_7_2, bitR_7_4]
  cases x.2.2.1 == r <;> cases x.2.2.2.1 == r <;> cases x.2.1 == r <;> rfl
theorem reads_6 (x : TR) (hx : x.1 = 6) (q : Nat) : impl_Reads (q + 5) x = some (six.filter (isRd 7 x)) := by
  refine impl_rd_of (⟨#[82, 65, 66]⟩ : ByteArray) x (by decide) (q + 5) (by omega) (by rw [hx, impl_has_e]; rfl) 7 fun r hr => ?_
  rw [show bytesOf (⟨#[82, 65, 66]⟩ : ByteArray) 0 (ByteArray.size (⟨#[82, 65, 66]⟩ : ByteArray)) = [82, 65, 66] from rfl]
  simp only [List.flatMap_cons, List.flatMap_nil, has_app, let1_has x _ r hr, List.contains_nil, isRd, hx, bitR_7_2, bitR_7_4]
  cases x.2.2.1 == r <;> cases x.2.2.2.1 == r <;> cases x.2.1 == r <;> rfl
theorem reads_7 (x : TR) (hx : x.1 = 7) (q : Nat) : impl_Reads (q + 5) x = some (six.filter (isRd 7 x)) := by
  refine impl_rd_of (⟨#[82, 65, 66]⟩ : ByteArray) x (by decide) (q + 5) (by omega) (by rw [hx, impl_has_e]; rfl) 7 fun r hr => ?_
  rw [show bytesOf (⟨#[82, 65, 66]⟩ : ByteArray) 0 (ByteArray.size (⟨#[82, 65, 66]⟩ : ByteArray)) = [82, 65, 66] from rfl]
  simp only [List.flatMap_cons, List.flatMap_nil, has_app, let1_has x _ r hr, List.contains_nil, isRd, hx, bitR_7_2, bitR_7_4]
  cases x.2.2.1 == r <;> cases x.2.2.2.1 == r <;> cases x.2.1 == r <;> rfl
theorem reads_8 (x : TR) (hx : x.1 = 8) (q : Nat) : impl_Reads (q + 5) x = some (six.filter (isRd 11 x)) := by
  refine impl_rd_of (⟨#[82, 65, 78]⟩ : ByteArray) x (by decide) (q + 5) (by omega) (by rw [hx, impl_has_e]; rfl) 11 fun r hr => ?_
  rw [show bytesOf (⟨#[82, 65, 78]⟩ : ByteArray) 0 (ByteArray.size (⟨#[82, 65, 78]⟩ : ByteArray)) = [82, 65, 78] from rfl]
  simp only [List.flatMap_cons, List.flatMap_nil, has_app, let1_has x _ r hr, List.contains_nil, isRd, hx, bitR_11_2, bitR_11_4]
  cases x.2.2.1 == r <;> cases x.2.2.2.1 == r <;> cases x.2.1 == r <;> rfl
theorem reads_9 (x : TR) (hx : x.1 = 9) (q : Nat) : impl_Reads (q + 5) x = some (six.filter (isRd 14 x)) := by
  refine impl_rd_of (⟨#[65, 66, 78]⟩ : ByteArray) x (by decide) (q + 5) (by omega) (by rw [hx, impl_has_e]; rfl) 14 fun r hr => ?_
  rw [show bytesOf (⟨#[65, 66, 78]⟩ : ByteArray) 0 (ByteArray.size (⟨#[65, 66, 78]⟩ : ByteArray)) = [65, 66, 78] from rfl]
  simp only [List.flatMap_cons, List.flatMap_nil, has_app, let1_has x _ r hr, List.contains_nil, isRd, hx, bitR_14_2, bitR_14_4]
  cases x.2.2.1 == r <;> cases x.2.2.2.1 == r <;> cases x.2.1 == r <;> rfl
theorem reads_10 (x : TR) (hx : x.1 = 10) (q : Nat) : impl_Reads (q + 5) x = some (six.filter (isRd 7 x)) := by
  refine impl_rd_of (⟨#[82, 65, 66]⟩ : ByteArray) x (by decide) (q + 5) (by omega) (by rw [hx, impl_has_e]; rfl) 7 fun r hr => ?_
  rw [show bytesOf (⟨#[82, 65, 66]⟩ : ByteArray) 0 (ByteArray.size (⟨#[82, 65, 66]⟩ : ByteArray)) = [82, 65, 66] from rfl]
  simp only [List.flatMap_cons, List.flatMap_nil, has_app, let1_has x _ r hr, List.contains_nil, isRd, hx, bitR_7_2, bitR_7_4]
  cases x.2.2.1 == r <;> cases x.2.2.2.1 == r <;> cases x.2.1 == r <;> rfl
theorem reads_11 (x : TR) (hx : x.1 = 11) (q : Nat) : impl_Reads (q + 5) x = some (six.filter (isRd 8 x)) := by
  refine impl_rd_of (⟨#[78]⟩ : ByteArray) x (by decide) (q + 5) (by omega) (by rw [hx, impl_has_e]; rfl) 8 fun r hr => ?_
  rw [show bytesOf (⟨#[78]⟩ : ByteArray) 0 (ByteArray.size (⟨#[78]⟩ : ByteArray)) = [78] from rfl]
  simp only [List.flatMap_cons, List.flatMap_nil, has_app, let1_has x _ r hr, List.contains_nil, isRd, hx, bitR_8_2, bitR_8_4]
  cases x.2.2.1 == r <;> cases x.2.2.2.1 == r <;> cases x.2.1 == r <;> rfl
theorem reads_12 (x : TR) (hx : x.1 = 12) (q : Nat) : impl_Reads (q + 5) x = some (six.filter (isRd 10 x)) := by
  refine impl_rd_of (⟨#[65, 78]⟩ : ByteArray) x (by decide) (q + 5) (by omega) (by rw [hx, impl_has_e]; rfl) 10 fun r hr => ?_
  rw [show bytesOf (⟨#[65, 78]⟩ : ByteArray) 0 (ByteArray.size (⟨#[65, 78]⟩ : ByteArray)) = [65, 78] from rfl]
  simp only [List.flatMap_cons, List.flatMap_nil, has_app, let1_has x _ r hr, List.contains_nil, isRd, hx, bitR_10_2, bitR_10_4]
  cases x.2.2.1 == r <;> cases x.2.2.2.1 == r <;> cases x.2.1 == r <;> rfl
theorem reads_13 (x : TR) (hx : x.1 = 13) (q : Nat) : impl_Reads (q + 5) x = some (six.filter (isRd 24 x)) := by
  refine impl_rd_of (⟨#[78, 77]⟩ : ByteArray) x (by decide) (q + 5) (by omega) (by rw [hx, impl_has_e]; rfl) 24 fun r hr => ?_
  rw [show bytesOf (⟨#[78, 77]⟩ : ByteArray) 0 (ByteArray.size (⟨#[78, 77]⟩ : ByteArray)) = [78, 77] from rfl]
  simp only [List.flatMap_cons, List.flatMap_nil, has_app, let1_has x _ r hr, List.contains_nil, isRd, hx, bitR_24_2, bitR_24_4]
  cases x.2.2.1 == r <;> cases x.2.2.2.1 == r <;> cases x.2.1 == r <;> rfl
theorem reads_14 (x : TR) (hx : x.1 = 14) (q : Nat) : impl_Reads (q + 5) x = some (six.filter (isRd 0 x)) := by
  refine impl_rd_of (⟨#[45]⟩ : ByteArray) x (by decide) (q + 5) (by omega) (by rw [hx, impl_has_e]; rfl) 0 fun r hr => ?_
  rw [show bytesOf (⟨#[45]⟩ : ByteArray) 0 (ByteArray.size (⟨#[45]⟩ : ByteArray)) = [45] from rfl]
  simp only [List.flatMap_cons, List.flatMap_nil, has_app, let1_has x _ r hr, List.contains_nil, isRd, hx, bitR_0_2, bitR_0_4]
  cases x.2.2.1 == r <;> cases x.2.2.2.1 == r <;> cases x.2.1 == r <;> rfl
theorem reads_15 (x : TR) (hx : x.1 = 15) (q : Nat) : impl_Reads (q + 5) x = some (six.filter (isRd 2 x)) := by
  refine impl_rd_of (⟨#[65]⟩ : ByteArray) x (by decide) (q + 5) (by omega) (by rw [hx, impl_has_e]; rfl) 2 fun r hr => ?_
  rw [show bytesOf (⟨#[65]⟩ : ByteArray) 0 (ByteArray.size (⟨#[65]⟩ : ByteArray)) = [65] from rfl]
  simp only [List.flatMap_cons, List.flatMap_nil, has_app, let1_has x _ r hr, List.contains_nil, isRd, hx, bitR_2_2, bitR_2_4]
  cases x.2.2.1 == r <;> cases x.2.2.2.1 == r <;> cases x.2.1 == r <;> rfl
theorem reads_16 (x : TR) (hx : x.1 = 16) (q : Nat) : impl_Reads (q + 5) x = some (six.filter (isRd 6 x)) := by
  refine impl_rd_of (⟨#[65, 66]⟩ : ByteArray) x (by decide) (q + 5) (by omega) (by rw [hx, impl_has_e]; rfl) 6 fun r hr => ?_
  rw [show bytesOf (⟨#[65, 66]⟩ : ByteArray) 0 (ByteArray.size (⟨#[65, 66]⟩ : ByteArray)) = [65, 66] from rfl]
  simp only [List.flatMap_cons, List.flatMap_nil, has_app, let1_has x _ r hr, List.contains_nil, isRd, hx, bitR_6_2, bitR_6_4]
  cases x.2.2.1 == r <;> cases x.2.2.2.1 == r <;> cases x.2.1 == r <;> rfl
theorem reads_17 (x : TR) (hx : x.1 = 17) (q : Nat) : impl_Reads (q + 5) x = some (six.filter (isRd 6 x)) := by
  refine impl_rd_of (⟨#[65, 66]⟩ : ByteArray) x (by decide) (q + 5) (by omega) (by rw [hx, impl_has_e]; rfl) 6 fun r hr => ?_
  rw [show bytesOf (⟨#[65, 66]⟩ : ByteArray) 0 (ByteArray.size (⟨#[65, 66]⟩ : ByteArray)) = [65, 66] from rfl]
  simp only [List.flatMap_cons, List.flatMap_nil, has_app, let1_has x _ r hr, List.contains_nil, isRd, hx, bitR_6_2, bitR_6_4]
  cases x.2.2.1 == r <;> cases x.2.2.2.1 == r <;> cases x.2.1 == r <;> rfl
theorem reads_18 (x : TR) (hx : x.1 = 18) (q : Nat) : impl_Reads (q + 5) x = some (six.filter (isRd 1 x)) := by
  refine impl_rd_of (⟨#[82]⟩ : ByteArray) x (by decide) (q + 5) (by omega) (by rw [hx, impl_has_e]; rfl) 1 fun r hr => ?_
  rw [show bytesOf (⟨#[82]⟩ : ByteArray) 0 (ByteArray.size (⟨#[82]⟩ : ByteArray)) = [82] from rfl]
  simp only [List.flatMap_cons, List.flatMap_nil, has_app, let1_has x _ r hr, List.contains_nil, isRd, hx, bitR_1_2, bitR_1_4]
  cases x.2.2.1 == r <;> cases x.2.2.2.1 == r <;> cases x.2.1 == r <;> rfl
theorem reads_19 (x : TR) (hx : x.1 = 19) (q : Nat) : impl_Reads (q + 5) x = some (six.filter (isRd 2 x)) := by
  refine impl_rd_of (⟨#[65]⟩ : ByteArray) x (by decide) (q + 5) (by omega) (by rw [hx, impl_has_e]; rfl) 2 fun r hr => ?_
  rw [show bytesOf (⟨#[65]⟩ : ByteArray) 0 (ByteArray.size (⟨#[65]⟩ : ByteArray)) = [65] from rfl]
  simp only [List.flatMap_cons, List.flatMap_nil, has_app, let1_has x _ r hr, List.contains_nil, isRd, hx, bitR_2_2, bitR_2_4]
  cases x.2.2.1 == r <;> cases x.2.2.2.1 == r <;> cases x.2.1 == r <;> rfl
theorem impl_rd (x : TR) (q : Nat) : impl_Reads (q + 5) x = some (six.filter (isRd (hasR x.1) x)) := by
  have oc : x.1 = 1 ∨ x.1 = 2 ∨ x.1 = 3 ∨ x.1 = 4 ∨ x.1 = 5 ∨ x.1 = 6 ∨ x.1 = 7 ∨ x.1 = 8 ∨ x.1 = 9 ∨ x.1 = 10 ∨ x.1 = 11 ∨ x.1 = 12 ∨ x.1 = 13 ∨ x.1 = 14 ∨ x.1 = 15 ∨ x.1 = 16 ∨ x.1 = 17 ∨ x.1 = 18 ∨ x.1 = 19 ∨ (x.1 < 1 ∨ 19 < x.1) := by omega
  rcases oc with h | h | h | h | h | h | h | h | h | h | h | h | h | h | h | h | h | h | h | h
  · have e : hasR x.1 = 9 := by rw [h]; rfl
    rw [e]; exact reads_1 x h q
  · have e : hasR x.1 = 3 := by rw [h]; rfl
    rw [e]; exact reads_2 x h q
  · have e : hasR x.1 = 7 := by rw [h]; rfl
    rw [e]; exact reads_3 x h q
  · have e : hasR x.1 = 7 := by rw [h]; rfl
    rw [e]; exact reads_4 x h q
  · have e : hasR x.1 = 7 := by rw [h]; rfl
    rw [e]; exact reads_5 x h q
  · have e : hasR x.1 = 7 := by rw [h]; rfl
    rw [e]; exact reads_6 x h q
  · have e : hasR x.1 = 7 := by rw [h]; rfl
    rw [e]; exact reads_7 x h q
  · have e : hasR x.1 = 11 := by rw [h]; rfl
    rw [e]; exact reads_8 x h q
  · have e : hasR x.1 = 14 := by rw [h]; rfl
    rw [e]; exact reads_9 x h q
  · have e : hasR x.1 = 7 := by rw [h]; rfl
    rw [e]; exact reads_10 x h q
  · have e : hasR x.1 = 8 := by rw [h]; rfl
    rw [e]; exact reads_11 x h q
  · have e : hasR x.1 = 10 := by rw [h]; rfl
    rw [e]; exact reads_12 x h q
  · have e : hasR x.1 = 24 := by rw [h]; rfl
    rw [e]; exact reads_13 x h q
  · have e : hasR x.1 = 0 := by rw [h]; rfl
    rw [e]; exact reads_14 x h q
  · have e : hasR x.1 = 2 := by rw [h]; rfl
    rw [e]; exact reads_15 x h q
  · have e : hasR x.1 = 6 := by rw [h]; rfl
    rw [e]; exact reads_16 x h q
  · have e : hasR x.1 = 6 := by rw [h]; rfl
    rw [e]; exact reads_17 x h q
  · have e : hasR x.1 = 1 := by rw [h]; rfl
    rw [e]; exact reads_18 x h q
  · have e : hasR x.1 = 2 := by rw [h]; rfl
    rw [e]; exact reads_19 x h q
  · have e : hasR x.1 = 0 := if_neg (by omega)
    rw [e]
    refine impl_rd_of (⟨#[]⟩ : ByteArray) x (by decide) (q + 5) (by omega) ?_ 0 fun r hr => ?_
    · rw [impl_has_e]
      have ne (n : Int) (hn : 1 ≤ n ∧ n ≤ 19) : (x.1 == n) = false := by simp only [beq_eq_false_iff_ne, ne_eq]; omega
      simp only [ne 1 (by omega), ne 2 (by omega), ne 3 (by omega), ne 4 (by omega), ne 5 (by omega), ne 6 (by omega), ne 7 (by omega), ne 8 (by omega), ne 9 (by omega), ne 10 (by omega), ne 11 (by omega), ne 12 (by omega), ne 13 (by omega), ne 14 (by omega), ne 15 (by omega), ne 16 (by omega), ne 17 (by omega), ne 18 (by omega), ne 19 (by omega), iteB_false]
    · rw [show bytesOf (⟨#[]⟩ : ByteArray) 0 (ByteArray.size (⟨#[]⟩ : ByteArray)) = [] from rfl]
      have : (x.1 == 10) = false := by simp only [beq_eq_false_iff_ne, ne_eq]; omega
      simp only [List.flatMap_nil, List.contains_nil, isRd, bitR_0_2, bitR_0_4, this, Bool.false_and, Bool.or_false]

theorem FnExactReads : ∀ (x0 : TR), WfT (.pair (.int .i64) (.pair (.int .i64) (.pair (.int .i64) (.pair (.int .i64) (.pair (.int .i64) (.pair (.int .i64) .unit)))))) x0 → ∃ k, laws_FnExactReads k x0 = some true := by
  intro x _
  refine Ev.get ?_
  generalize ho : six.filter (isRd (hasR x.1) x) = o
  have hl : o.length ≤ 1048576 := by rw [← ho]; exact Nat.le_trans (List.length_filter_le _ _) (by decide)
  have hf : FitT (.row (.int .i64)) o := ⟨hl, fun _ _ => trivial⟩
  refine ((eqIntS_ok o hf).and (Ev.gt 7)).two ((mark_ints o hl).and (held_ints o.length hl)) fun k h1 h2 => ?_
  obtain ⟨a1, a2⟩ := h1
  obtain ⟨a3, a4⟩ := h2
  obtain ⟨q, rfl⟩ : ∃ q, k = q + 7 := ⟨k - 7, by omega⟩
  have e1 : spec_Reads (q + 7) (x.1, x.2.1, x.2.2.1, x.2.2.2.1, x.2.2.2.2.1, x.2.2.2.2.2.1, ()) = some o := by rw [← ho]; exact spec_rd x q
  have e2 : impl_Reads (q + 7) (x.1, x.2.1, x.2.2.1, x.2.2.2.1, x.2.2.2.2.1, x.2.2.2.2.2.1, ()) = some o := by rw [← ho]; exact impl_rd x (q + 2)
  replace a1 : laws_eqIntS (q + 7) o o = some true := a1
  have n1 : decide (1 + (o.length : Int) < 0) = false := decide_eq_false (by omega)
  have n2 : ((1 + (o.length : Int)) != (1 + (o.length : Int))) = false := by simp
  rw [laws_FnExactReads_e]
  simp only [laws_toIns_e, bindO_some, e1, e2, a1, a3, a4, n1, n2, Bool.not_true, iteB_false]

end Go.Proofs.Ytkingfejeangbaa.Pure
